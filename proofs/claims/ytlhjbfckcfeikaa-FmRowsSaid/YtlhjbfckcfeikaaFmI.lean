/- fm: Rows, Count. -/
import Derived.Test.YtlhjbfckcfeikaaFmH
namespace Go.Proofs.Ytlhjbfckcfeikaa
set_option linter.unusedVariables false
set_option linter.unusedSimpArgs false
open Go.RowKit
attribute [local go_sem] S_size S_toList S_extract S_beq S_bne S_empty S_nil u8_beq U8_fold U8_toNat

set_option maxRecDepth 20000 in
set_option maxHeartbeats 8000000 in
theorem rows_any (l : List UInt8) (q : Nat) (v : Value) (what : List UInt8) (w : World) (hl : (l.length : Int) ≤ 20000) (hwl : (what.length : Int) ≤ 1000000) (ho : okI l q = true) (hq : q < l.length + 1) (h : IX w v l q) :
    Calls Try.prog 10 #[v, .string (S what)] w fun e w' => e = .returned (.agg #[.int .i64 (rwR l q what).1, .int .i64 (rwR l q what).2]) ∧ Ext w w' := by
  have hmf : ∀ (fn : Fn) (first cap : Array Value) (w : World), (Instr.makeFunc fn first cap).run Try.prog w = .ok (.func fn first cap) w := fun _ _ _ _ => rfl
  have RS := Lib.hid rng_size
  have HN := Lib.hid (rw_nil ho hq)
  have HC := Lib.hid (fun b w => rw_cons ho hq b w)
  have x0 := (Ext.refl w).alloc (.cells #[.int .i64 0, .int .i64 0] 23)
  have b4 := Blk.new w 23 #[.int .i64 0, .int .i64 0]
  have I0 := Lib.hid h
  have QB := Lib.hid (fun lo hi b w h => back_any l q v lo hi b w hl ho hq h)
  obtain ⟨g, kv, pv, rfl, hb, _, _⟩ := h
  have hb1 := hb.ext x0
  have cm := hb1.cell 261
  rw [idx_m] at cm
  have c0 := hb1.cell 0
  rw [idx_0] at c0
  have B4 := Lib.hid (b4.alloc (.cells #[.int .i64 0, .int .i64 (l.length : Int)] 23))
  have b5 := Blk.new (w.alloc (.cells #[.int .i64 0, .int .i64 0] 23)) 23 #[.int .i64 0, .int .i64 (l.length : Int)]
  rw [World.size_alloc] at b5
  have X0 := Lib.hid (x0.alloc (.cells #[.int .i64 0, .int .i64 (l.length : Int)] 23))
  have B5 := Lib.hid b5
  clear b4 b5 hb hb1 x0 ho hq
  go_enter Try.func10, Try.ntmps10
  go_wp2_with (refine wpList_store_new rfl 23 (.tmp 5) (.tmp 23) (congrArg (fun n => Value.pointer (some ⟨n, 0, none⟩)) (World.size_alloc _ _).symm) rfl rfl rfl RS.out (by kernel_rfl) ?_)
  generalize (w.alloc (.cells #[.int .i64 0, .int .i64 0] 23)).alloc (.cells #[.int .i64 0, .int .i64 (l.length : Int)] 23) = W0 at *
  clear c0 cm
  go_loopw [7] (fun i wr => ∃ (j : Nat), j ≤ what.length ∧ i = .int .i64 ((j : Int) - 1) ∧ Blk wr (w.heap.size + 1) 23 #[.int .i64 (rwR l q (what.drop j)).1, .int .i64 (rwR l q (what.drop j)).2] ∧ Blk wr w.heap.size 23 #[.int .i64 0, .int .i64 0] ∧ Ext w wr) (fun i _ => (intOf i + 1).toNat)
  case atStart => exact ⟨what.length, Nat.le_refl _, by first | rfl | go_num, by rw [List.drop_eq_nil_of_le (Nat.le_refl _), HN.out]; exact B5.out, B4.out, X0.out⟩
  case round =>
    obtain ⟨j, hj, rfl, hb5, hb4, hx⟩ := hrel
    clear B5 B4 X0
    cases j with
    | zero =>
      rw [List.drop_zero] at hb5
      have B5 := Lib.hid hb5
      have B4 := Lib.hid hb4
      have X1 := Lib.hid hx
      clear hb5 hb4 hx HN HC QB
      go_wp2_with (first
        | (refine wpList_load_blk rfl 23 (.tmp 5) rfl rfl B5.out Try.underlying23 rfl RS.out ?_)
        | (refine wpList_store_blk rfl 23 (.tmp 4) (.tmp 39) rfl rfl rfl B4.out rfl RS.out (by kernel_rfl) ?_; refine Held.go ?_))
      refine ⟨?_⟩
      go_wp2
      exact bodyPost_ret (results_cell_row rfl _ _ w.heap.size _ _ (0, 0) _ rfl (B4.out.setRow _) Try.underlying23 rfl RS.out) rfl ⟨rfl, Ext.setRow X1.out (Nat.le_refl _) _⟩
    | succ j =>
      have hjl : j < what.length := by omega
      have ib := index_S what j hjl _ rfl
      have hjc : (j : Int) < (what.length : Int) := by omega
      have HC2 := Lib.hid (show rwR l q (what.drop j) = bkR l q (rwR l q (what.drop (j + 1))).1 (rwR l q (what.drop (j + 1))).2 (what.getD j 0) from by rw [drop_cons' hjl, HC.out])
      have B5 := Lib.hid hb5
      have B4 := Lib.hid hb4
      have X1 := Lib.hid hx
      clear hb5 hb4 hx hj hjl
      generalize rwR l q (what.drop (j + 1)) = r at *
      obtain ⟨r1, r2⟩ := r
      generalize what.getD j 0 = b at *
      dsimp only at B5 HC2
      have Q := Lib.hid (fun w h => QB.out r1 r2 b w h)
      clear QB HC
      generalize bkR l q r1 r2 b = r at *
      obtain ⟨s1, s2⟩ := r
      dsimp only at Q
      go_wp2
      refine wp_region_lex 7 rfl (by kernel_rfl) ?_
      (refine lex_want (by kernel_rfl) (by kernel_rfl) (by kernel_rfl) (by kernel_rfl) (fun _ _ _ _ h => h) (by kernel_rfl) (fun K hK => ?_)
       go_simp
       (refine hK _ ?_; clear hK K))
      refine lex_load_blk (by kernel_rfl) (by kernel_rfl) (by kernel_rfl) (by kernel_rfl) (fun _ _ _ _ h => h) (by kernel_rfl) 23 (.tmp 5) rfl rfl B5.out.drew Try.underlying23 rfl RS.out ?_
      dsimp only [Act.put]
      simp only [List.setIfInBounds_toArray, List.set_cons_succ, List.set_cons_zero]
      iterate 3
        (refine lex_want (by kernel_rfl) (by kernel_rfl) (by kernel_rfl) (by kernel_rfl) (fun _ _ _ _ h => h) (by kernel_rfl) (fun K hK => ?_)
         go_simp
         (refine hK _ ?_; clear hK K))
      refine lex_only (by kernel_rfl) (by kernel_rfl) (fun xu K hK => ?_)
      go_simp
      refine (Q.out _ (I0.out.ext ((X1.out.trans (Ext.refl _).drew).trans xu.ext))).mono ?_
      rintro _ w2 ⟨rfl, x2⟩
      refine hK.out _ _ x2 ?_
      have E2 := Lib.hid (((Ext.refl wr).drew.trans xu.ext).trans x2)
      clear hK K x2
      refine lex_last (by kernel_rfl) (by kernel_rfl) (by kernel_rfl) (by kernel_rfl) (by kernel_rfl) (fun xv K hK => ?_)
      have E3 := Lib.hid (E2.out.trans xv.ext)
      refine wp_store_blk 23 (.tmp 5) (.tmp 38) rfl rfl rfl (B5.out.ext E3.out) rfl RS.out (by kernel_rfl) (hK _ _ (fun y => ?_))
      dsimp only [Act.put]
      have G5 := Lib.hid (((B5.out.ext E3.out).setRow #[.int .i64 s1, .int .i64 s2]).ext y.ext)
      have G4 := Lib.hid (((B4.out.ext E3.out).setRow_far (k := w.heap.size + 1) (by omega) #[.int .i64 s1, .int .i64 s2]).ext y.ext)
      have GX := Lib.hid ((Ext.setRow (X1.out.trans E3.out) (show w.heap.size ≤ w.heap.size + 1 by omega) #[.int .i64 s1, .int .i64 s2]).trans y.ext)
      clear hK E2 E3 B5 B4 X1 K
      generalize y.val = wy at *
      go_wp2
      go_roundw
      case rel => exact ⟨j, by omega, by go_num, by rw [HC2.out]; exact G5.out, G4.out, GX.out⟩
      case measure => simp [intOf]

set_option maxRecDepth 20000 in
set_option maxHeartbeats 8000000 in
theorem count_places (l : List UInt8) (q : Nat) (v : Value) (what : List UInt8) (w : World) (hl : (l.length : Int) ≤ 20000) (hwl : (what.length : Int) ≤ 1000000) (ho : okI l q = true) (hq : q < l.length + 1) (h : IX w v l q) :
    Calls Try.prog 12 #[v, .string (S what)] w fun e w' => e = .returned (.int .i64 ((plcL (txtN l q) what).length : Int)) ∧ Ext w w' := by
  have RS := Lib.hid rng_size
  have Q := Lib.hid (fun w h => rows_any l q v what w hl hwl ho hq h)
  have H := Lib.hid h
  have HC := rows_count ho hq what
  rw [← HC]
  have HR := rw_in ho hq what
  clear h ho hq HC
  generalize rwR l q what = r at *
  obtain ⟨r1, r2⟩ := r
  have hb : -10 ≤ r2 - r1 ∧ r2 - r1 ≤ 20000 ∧ r1 ≤ 20000 ∧ 0 ≤ r1 ∧ 0 ≤ r2 ∧ r2 ≤ 20000 := by
    rcases HR with e | ⟨lo, hi, e, h1, h2⟩
    · injection e with e1 e2; omega
    · injection e with e1 e2; omega
  dsimp only at Q ⊢
  have hw1 : IntKind.i64.wrap (r2 - r1) = r2 - r1 := by rw [IntKind.wrap_i64]; omega
  have hw2 : IntKind.i64.wrap (r2 - r1 + 1) = r2 - r1 + 1 := by rw [IntKind.wrap_i64]; omega
  clear HR
  go_enter Try.func12, Try.ntmps12
  go_wp2_with fail
  refine (Q.out _ H.out).mono ?_
  rintro _ w1 ⟨rfl, x1⟩
  have X1 := Lib.hid (x1.alloc (.cells #[.int .i64 r1, .int .i64 r2] 23))
  have B5 := Lib.hid (Blk.new w1 23 #[.int .i64 r1, .int .i64 r2])
  clear x1
  go_wp2_with (refine wpList_store_new rfl 23 (.tmp 5) (.tmp 8) rfl rfl rfl rfl RS.out (by kernel_rfl) ?_; refine Held.go ?_)
  refine ⟨?_⟩
  generalize w1.alloc (.cells #[.int .i64 r1, .int .i64 r2] 23) = w2 at *
  have d0 := B5.out.cell 0
  have d1 := B5.out.cell 1
  simp only [List.getElem?_toArray, List.getElem?_cons_zero, List.getElem?_cons_succ] at d0 d1
  go_wp2
  go_ret
  exact ⟨rfl, X1.out⟩
end Go.Proofs.Ytlhjbfckcfeikaa
