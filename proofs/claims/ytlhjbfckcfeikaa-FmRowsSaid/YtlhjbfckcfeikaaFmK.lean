/- fm: Places. -/
import Derived.Test.YtlhjbfckcfeikaaFmJ
namespace Go.Proofs.Ytlhjbfckcfeikaa
set_option linter.unusedVariables false
set_option linter.unusedSimpArgs false
open Go.RowKit
attribute [local go_sem] S_size S_toList S_extract S_beq S_bne S_empty S_nil u8_beq U8_fold U8_toNat

set_option maxRecDepth 20000 in
set_option maxHeartbeats 8000000 in
theorem places_any (l : List UInt8) (q : Nat) (v : Value) (what : List UInt8) (w : World) (hl : (l.length : Int) ≤ 20000) (hwl : (what.length : Int) ≤ 1000000) (ho : okI l q = true) (hq : q < l.length + 1) (h : IX w v l q) :
    Calls Try.prog 15 #[v, .string (S what)] w fun e w' => ∃ u, e = .returned u ∧ Ext w w' ∧ RI w' u (toI (plcL (txtN l q) what)) := by
  have RS := Lib.hid rng_size
  have Q := Lib.hid (fun w h => rows_any l q v what w hl hwl ho hq h)
  have H := Lib.hid h
  have HR := rw_in ho hq what
  have HC := rows_count ho hq what
  rcases HR with hr | ⟨lo, hi, hr, h1, h2⟩
  · rw [hr] at Q HC
    have HP := Lib.hid (show plcL (txtN l q) what = [] from List.eq_nil_of_length_eq_zero (by have : (0 : Int) - 1 + 1 = ((plcL (txtN l q) what).length : Int) := HC; omega))
    clear h ho hq HC hr
    dsimp only at Q
    go_enter Try.func15, Try.ntmps15
    go_wp2_with fail
    refine (Q.out _ H.out).mono ?_
    rintro _ w1 ⟨rfl, x1⟩
    have X1 := Lib.hid (x1.alloc (.cells #[.int .i64 1, .int .i64 0] 23))
    have B5 := Lib.hid (Blk.new w1 23 #[.int .i64 1, .int .i64 0])
    clear x1
    go_wp2_with (refine wpList_store_new rfl 23 (.tmp 5) (.tmp 9) rfl rfl rfl rfl RS.out (by kernel_rfl) ?_; refine Held.go ?_)
    refine ⟨?_⟩
    generalize w1.alloc (.cells #[.int .i64 1, .int .i64 0] 23) = w2 at *
    have d0 := B5.out.cell 0
    have d1 := B5.out.cell 1
    simp only [List.getElem?_toArray, List.getElem?_cons_zero, List.getElem?_cons_succ] at d0 d1
    go_wp2
    go_ret
    exact ⟨_, rfl, X1.out, by rw [HP.out]; exact RI.nil _⟩
  · rw [hr] at Q
    have HS := Lib.hid (places_sort ho hq hr h1)
    have hpl : (placesN l q).length = l.length + 1 := by simp [placesN]
    obtain ⟨g, kv, pv, rfl, hb, _, hp⟩ := h
    obtain ⟨pa, pc, rfl, hpc, hpn, hps⟩ := hp.shape
    rw [toI_length, hpl] at hpc hps
    obtain ⟨gp, op, rfl, hcell⟩ := hps (by omega)
    have c260 := hb.cell 260
    rw [idx_p, toI_length, hpl] at c260
    have hz : ∃ zs, zs = ((toI (placesN l q)).take (hi + 1)).drop lo := ⟨_, rfl⟩
    obtain ⟨zs, hzs⟩ := hz
    have hzl : zs.length = hi + 1 - lo := by rw [hzs, List.length_drop, List.length_take, toI_length, hpl]; omega
    have hpc' := hpc
    have HP := Lib.hid (show ∀ w', Ext w w' → RI w' (.slice (some ⟨gp, op + lo, none⟩) (hi + 1 - lo) (pc - lo)) zs from fun w' x => by
      have t1 := RI.take (hp.ext x) (hi + 1) (by rw [toI_length, hpl]; omega)
      have t2 := RR.drop t1 lo (by rw [List.length_take, toI_length, hpl]; omega) (some ⟨gp, op + lo, none⟩) (fun g' o' e _ => by injection e with e; injection e with e1 e2; subst e1; subst e2; rw [Nat.mul_one]) (fun e => by cases e)
      rw [List.length_take, toI_length, hpl, show min (hi + 1) (l.length + 1) = hi + 1 by omega, ← hzs] at t2
      exact t2)
    have HS := Lib.hid (show sortZ zs = toI (plcL (txtN l q) what) from by rw [← HS.out, hzs]; unfold sortZ toI; rw [List.map_drop, List.map_take])
    have QC := Lib.hid (fun w v h => clone_any v zs w h (by rw [hzl]; omega))
    have QS := Lib.hid (fun w v B h => sort_own v zs B w h (by rw [hzl]; omega) (by rw [hzl]; omega))
    clear hb ho hq HC hr hps hpn hcell hp
    have h1' : (lo : Int) ≤ (hi : Int) + 1 := by omega
    have h2' : (hi : Int) + 1 ≤ (pc : Int) := by omega
    have h3' : ¬ pc = lo := by omega
    have h4' : IntKind.i64.wrap ((hi : Int) + 1) = (hi : Int) + 1 := by rw [IntKind.wrap_i64]; omega
    have h5' : ((hi : Int) + 1).toNat = hi + 1 := by omega
    have h6' : 0 ≤ (hi : Int) + 1 := by omega
    have h7' : lo ≤ hi + 1 := by omega
    have hlh : ¬ (hi : Int) < (lo : Int) := by omega
    dsimp only at Q
    go_enter Try.func15, Try.ntmps15
    go_wp2_with fail
    refine (Q.out _ H.out).mono ?_
    rintro _ w1 ⟨rfl, x1⟩
    have X1 := Lib.hid (x1.alloc (.cells #[.int .i64 (lo : Int), .int .i64 (hi : Int)] 23))
    have B5 := Lib.hid (Blk.new w1 23 #[.int .i64 (lo : Int), .int .i64 (hi : Int)])
    have c260 := Go.cell_later (x1.alloc (.cells #[.int .i64 (lo : Int), .int .i64 (hi : Int)] 23)) c260
    clear x1
    go_wp2_with (refine wpList_store_new rfl 23 (.tmp 5) (.tmp 9) rfl rfl rfl rfl RS.out (by kernel_rfl) ?_; refine Held.go ?_)
    refine ⟨?_⟩
    generalize w1.alloc (.cells #[.int .i64 (lo : Int), .int .i64 (hi : Int)] 23) = w2 at *
    have d0 := B5.out.cell 0
    have d1 := B5.out.cell 1
    simp only [List.getElem?_toArray, List.getElem?_cons_zero, List.getElem?_cons_succ] at d0 d1
    go_wp2
    have u0 := up_cell (W := w2.drew) d0
    have u1 := up_cell (W := w2.drew) d1
    have u260 := up_cell (W := w2.drew) c260
    refine wp_region_lex 12 rfl (by kernel_rfl) ?_
    iterate 10
      (refine lex_want (by kernel_rfl) (by kernel_rfl) (by kernel_rfl) (by kernel_rfl) (fun _ _ _ _ h => h) (by kernel_rfl) (fun K hK => ?_)
       go_simp
       (refine hK _ ?_; clear hK K))
    refine lex_only (by kernel_rfl) (by kernel_rfl) (fun xu K hK => ?_)
    go_simp
    refine (QC.out _ _ (HP.out _ ((X1.out.trans (Ext.refl _).drew).trans xu.ext))).mono ?_
    rintro _ w3 ⟨vc, rfl, x3, iw3⟩
    have hB := Lib.hid (show w.heap.size ≤ xu.val.heap.size from ((X1.out.trans (Ext.refl _).drew).trans xu.ext).le)
    have X3 := Lib.hid (((X1.out.trans (Ext.refl _).drew).trans xu.ext).trans x3)
    refine hK.out _ _ x3 ?_
    have I3 := Lib.hid iw3
    clear hK K x3 iw3 X1 u0 u1 u260 d0 d1 c260 QC
    generalize xu.val.heap.size = B at *
    refine lex_want (by kernel_rfl) (by kernel_rfl) (by kernel_rfl) (by kernel_rfl) (fun _ _ _ _ h => h) (by kernel_rfl) (fun K hK => ?_)
    go_simp
    (refine hK _ ?_; clear hK K)
    refine lex_done (by kernel_rfl) (fun y => ?_)
    have X4 := Lib.hid (X3.out.trans y.ext)
    have I4 := Lib.hid (I3.out.ext y.ext)
    clear X3 I3
    generalize y.val = w4 at *
    go_wp2_with fail
    refine (QS.out _ _ _ I4.out).mono ?_
    rintro _ w5 ⟨rfl, i5, g5⟩
    have X5 := Lib.hid (Ext.grown X4.out g5 (fun k hk => Nat.le_trans hB.out (IW.ge I4.out k hk)))
    have R5 := i5.ri
    rw [HS.out] at R5
    have R5 := Lib.hid R5
    clear i5 g5 I4 X4
    go_wp2
    go_ret
    exact ⟨_, rfl, X5.out, R5.out⟩
end Go.Proofs.Ytlhjbfckcfeikaa
