/- fm's reference: Rows. -/
import Derived.Test.YtlhjbfckcfeikaaFmN
namespace Go.Proofs.Ytlhjbfckcfeikaa
set_option linter.unusedVariables false
set_option linter.unusedSimpArgs false
open Go.RowKit
attribute [local go_sem] S_size S_toList S_extract S_beq S_bne S_empty S_nil u8_beq U8_fold U8_toNat

/-- does the end at a place of the array begin so? -/
def begP (s what : List UInt8) (i : Nat) : Bool := decide (what <+: s.drop ((arrayL s).getD i 0))
theorem fl_step (P : Nat → Bool) (k : Nat) : (P k = false ∧ flR P (k + 1) = flR P k) ∨ (P k = true ∧ (flR P k).2 < (flR P k).1 ∧ flR P (k + 1) = ((k : Int), (k : Int))) ∨ (P k = true ∧ ¬ (flR P k).2 < (flR P k).1 ∧ flR P (k + 1) = ((flR P k).1, (k : Int))) := by
  have h1 : flR P (k + 1) = if P k then (if (flR P k).2 < (flR P k).1 then (k : Int) else (flR P k).1, (k : Int)) else flR P k := rfl
  cases hp : P k with
  | false =>
    refine .inl ⟨rfl, ?_⟩
    rw [h1, hp]; rfl
  | true =>
    by_cases h : (flR P k).2 < (flR P k).1
    · refine .inr (.inl ⟨rfl, h, ?_⟩)
      rw [h1, hp, if_pos rfl, if_pos h]
    · refine .inr (.inr ⟨rfl, h, ?_⟩)
      rw [h1, hp, if_pos rfl, if_neg h]

set_option maxRecDepth 20000 in
set_option maxHeartbeats 8000000 in
theorem rrows_any (s what : List UInt8) (av : Value) (w : World) (hl : (s.length : Int) ≤ 20000) (hwl : (what.length : Int) ≤ 1000000) (hr : RI w av (toI (arrayL s))) :
    Calls Try.prog 11 #[.agg #[.string (S s), av], .string (S what)] w fun e w' => e = .returned (.agg #[.int .i64 (flR (begP s what) (s.length + 1)).1, .int .i64 (flR (begP s what) (s.length + 1)).2]) ∧ Ext w w' := by
  have RS := Lib.hid rng_size
  have hal : (toI (arrayL s)).length = s.length + 1 := by rw [toI_length]; exact (arrayL_is s).length
  obtain ⟨aa, ac, rfl, hac, _, has⟩ := hr.shape
  rw [hal] at hac has
  obtain ⟨ga, oa, rfl, hcell⟩ := has (by omega)
  have HC := Lib.hid (show ∀ k, k < s.length + 1 → w.cell? ⟨ga, oa + k, none⟩ = some (.int .i64 ((arrayL s).getD k 0 : Int)) from fun k hk => by
    have := hcell k hk
    rw [toI_getD] at this
    exact this)
  have HLT := Lib.hid (fun i (h : i < s.length + 1) => (arrayL_is s).lt h)
  have x1 := (Ext.refl w).alloc (.cells #[.string (S s), .slice (some ⟨ga, oa, none⟩) (s.length + 1) ac] 33)
  have x2 := x1.alloc (.cells #[.int .i64 0, .int .i64 0] 23)
  have x3 := x2.alloc (.cells #[.int .i64 1, .int .i64 0] 23)
  have B2 := Lib.hid (((Blk.new w 33 #[.string (S s), .slice (some ⟨ga, oa, none⟩) (s.length + 1) ac]).alloc (.cells #[.int .i64 0, .int .i64 0] 23)).alloc (.cells #[.int .i64 1, .int .i64 0] 23))
  have b4 := (Blk.new (w.alloc (.cells #[.string (S s), .slice (some ⟨ga, oa, none⟩) (s.length + 1) ac] 33)) 23 #[.int .i64 0, .int .i64 0]).alloc (.cells #[.int .i64 1, .int .i64 0] 23)
  rw [World.size_alloc] at b4
  have b5 := Blk.new ((w.alloc (.cells #[.string (S s), .slice (some ⟨ga, oa, none⟩) (s.length + 1) ac] 33)).alloc (.cells #[.int .i64 0, .int .i64 0] 23)) 23 #[.int .i64 1, .int .i64 0]
  rw [World.size_alloc, World.size_alloc] at b5
  have B4 := Lib.hid b4
  have B5 := Lib.hid b5
  have X0 := Lib.hid x3
  have HAC := Lib.hid hac
  clear hr has hcell x1 x2 x3 b4 b5 hac
  rw [hal]
  go_enter Try.func11, Try.ntmps11
  go_wp2_with (refine wpList_store_new rfl 23 (.tmp 5) (.tmp 7) rfl (congrArg (fun n => Value.pointer (some ⟨n, 0, none⟩)) ((World.size_alloc (w.alloc _) _).trans (congrArg (· + 1) (World.size_alloc w _))).symm) rfl rfl RS.out (by kernel_rfl) ?_; refine Held.go ?_)
  refine ⟨?_⟩
  generalize ((w.alloc (.cells #[.string (S s), .slice (some ⟨ga, oa, none⟩) (s.length + 1) ac] 33)).alloc (.cells #[.int .i64 0, .int .i64 0] 23)).alloc (.cells #[.int .i64 1, .int .i64 0] 23) = W0 at *
  go_wp2
  go_loopw [6] (fun i wr => ∃ k : Nat, k ≤ s.length + 1 ∧ i = .int .i64 (k : Int) ∧ Blk wr (w.heap.size + 2) 23 #[.int .i64 (flR (begP s what) k).1, .int .i64 (flR (begP s what) k).2] ∧ Blk wr (w.heap.size + 1) 23 #[.int .i64 0, .int .i64 0] ∧ Blk wr w.heap.size 33 #[.string (S s), .slice (some ⟨ga, oa, none⟩) (s.length + 1) ac] ∧ Ext w wr) (fun i _ => s.length + 1 - (intOf i).toNat)
  case atStart => exact ⟨0, by omega, rfl, B5.out, B4.out, B2.out, X0.out⟩
  case round =>
    obtain ⟨k, hk, rfl, hb5, hb4, hb2, hx⟩ := hrel
    clear B5 B4 B2 X0
    have c0 := hb2.cell 0
    have c1 := hb2.cell 1
    simp only [List.getElem?_toArray, List.getElem?_cons_zero, List.getElem?_cons_succ] at c0 c1
    by_cases hlt : k < s.length + 1
    · have hki : (k : Int) < (s.length : Int) + 1 := by omega
      have ca := Go.cell_later hx (HC.out k hlt)
      have hp := HLT.out k hlt
      have qb : ∀ w, Calls Try.prog 31 #[.string (S (s.drop ((arrayL s).getD k 0))), .string (S what)] w fun r w' => r = .returned (.bool (begP s what k)) ∧ Ext w w' := fun w => (begins_any (s.drop ((arrayL s).getD k 0)) what w (by rw [List.length_drop]; omega) hwl).mono (by rintro _ w' ⟨rfl, rfl⟩; exact ⟨rfl, Ext.refl _⟩)
      have hpl : ((arrayL s).getD k 0 : Int) ≤ (s.length : Int) := by omega
      have HLTk := Lib.hid hlt
      have HS := fl_step (begP s what) k
      clear hlt hk hp
      generalize (arrayL s).getD k 0 = p at *
      generalize hP1 : flR (begP s what) (k + 1) = r1 at *
      generalize flR (begP s what) k = r at *
      obtain ⟨lo, hi⟩ := r
      dsimp only at hb5 HS
      have HP1 := Lib.hid hP1
      clear hP1
      rcases HS with ⟨e1, rfl⟩ | ⟨e1, e2, rfl⟩ | ⟨e1, e2, rfl⟩
      · rw [e1] at qb
        have QB := Lib.hid qb
        clear qb
        have u0 := up_cell c0
        have u1 := up_cell c1
        have ua := up_cell ca
        go_wp2
        refine wp_region_up (by kernel_rfl) (by kernel_rfl) ?_
        repeat (go_big_quiet_step (first | (go_at_call 31; (with_reducible exact up_call (QB.out _)))))
        refine wpQuiet_nil ?_
        rintro _ ⟨z, rfl⟩
        have Z5 := Lib.hid (hb5.ext z.ext)
        have Z4 := Lib.hid (hb4.ext z.ext)
        have Z2 := Lib.hid (hb2.ext z.ext)
        have ZX := Lib.hid (hx.trans z.ext)
        clear u0 u1 ua c0 c1 ca hb5 hb4 hb2 hx
        generalize z.val = wz at *
        go_wp2
        go_roundw
        case rel => exact ⟨k + 1, by have := HLTk.out; omega, by go_num, by rw [HP1.out]; exact Z5.out, Z4.out, Z2.out, ZX.out⟩
        case measure => simp [intOf]; have := HLTk.out; omega
      · rw [e1] at qb
        have QB := Lib.hid qb
        clear qb
        have u0 := up_cell c0
        have u1 := up_cell c1
        have ua := up_cell ca
        go_wp2
        refine wp_region_up (by kernel_rfl) (by kernel_rfl) ?_
        repeat (go_big_quiet_step (first | (go_at_call 31; (with_reducible exact up_call (QB.out _)))))
        refine wpQuiet_nil ?_
        rintro _ ⟨z, rfl⟩
        have Z5 := Lib.hid (hb5.ext z.ext)
        have Z4 := Lib.hid (hb4.ext z.ext)
        have Z2 := Lib.hid (hb2.ext z.ext)
        have ZX := Lib.hid (hx.trans z.ext)
        clear u0 u1 ua c0 c1 ca hb5 hb4 hb2 hx
        generalize z.val = wz at *
        have d0 := Z5.out.cell 0
        have d1 := Z5.out.cell 1
        have f0 := Z5.out.frozen 0
        have f1 := Z5.out.frozen 1
        simp only [List.getElem?_toArray, List.getElem?_cons_zero, List.getElem?_cons_succ] at d0 d1
        have G5 := Lib.hid (Blk.set_ (Blk.set_ Z5.out 0 (.int .i64 (k : Int))) 1 (.int .i64 (k : Int)))
        have G4 := Lib.hid (Blk.far (Blk.far Z4.out (p := ⟨w.heap.size + 2, 0, none⟩) (by simp) (.int .i64 (k : Int))) (p := ⟨w.heap.size + 2, 1, none⟩) (by simp) (.int .i64 (k : Int)))
        have G2 := Lib.hid (Blk.far (Blk.far Z2.out (p := ⟨w.heap.size + 2, 0, none⟩) (by simp) (.int .i64 (k : Int))) (p := ⟨w.heap.size + 2, 1, none⟩) (by simp) (.int .i64 (k : Int)))
        have GX := Lib.hid (Ext.set (Ext.set ZX.out (p := ⟨w.heap.size + 2, 0, none⟩) (by simp) (.int .i64 (k : Int))) (p := ⟨w.heap.size + 2, 1, none⟩) (by simp) (.int .i64 (k : Int)))
        go_wp2
        refine ⟨⟨k + 1, by have := HLTk.out; omega, by go_num, by rw [HP1.out]; exact G5.out, G4.out, G2.out, GX.out⟩, ?_⟩
        simp [intOf]; have := HLTk.out; omega
      · rw [e1] at qb
        have QB := Lib.hid qb
        clear qb
        have u0 := up_cell c0
        have u1 := up_cell c1
        have ua := up_cell ca
        go_wp2
        refine wp_region_up (by kernel_rfl) (by kernel_rfl) ?_
        repeat (go_big_quiet_step (first | (go_at_call 31; (with_reducible exact up_call (QB.out _)))))
        refine wpQuiet_nil ?_
        rintro _ ⟨z, rfl⟩
        have Z5 := Lib.hid (hb5.ext z.ext)
        have Z4 := Lib.hid (hb4.ext z.ext)
        have Z2 := Lib.hid (hb2.ext z.ext)
        have ZX := Lib.hid (hx.trans z.ext)
        clear u0 u1 ua c0 c1 ca hb5 hb4 hb2 hx
        generalize z.val = wz at *
        have d0 := Z5.out.cell 0
        have d1 := Z5.out.cell 1
        have f0 := Z5.out.frozen 0
        have f1 := Z5.out.frozen 1
        simp only [List.getElem?_toArray, List.getElem?_cons_zero, List.getElem?_cons_succ] at d0 d1
        have G5 := Lib.hid (Blk.set_ Z5.out 1 (.int .i64 (k : Int)))
        have G4 := Lib.hid (Blk.far Z4.out (p := ⟨w.heap.size + 2, 1, none⟩) (by simp) (.int .i64 (k : Int)))
        have G2 := Lib.hid (Blk.far Z2.out (p := ⟨w.heap.size + 2, 1, none⟩) (by simp) (.int .i64 (k : Int)))
        have GX := Lib.hid (Ext.set ZX.out (p := ⟨w.heap.size + 2, 1, none⟩) (by simp) (.int .i64 (k : Int)))
        go_wp2
        refine ⟨⟨k + 1, by have := HLTk.out; omega, by go_num, by rw [HP1.out]; exact G5.out, G4.out, G2.out, GX.out⟩, ?_⟩
        simp [intOf]; have := HLTk.out; omega
    · have hki : ¬ (k : Int) < (s.length : Int) + 1 := by omega
      have hb5 := (show k = s.length + 1 by omega) ▸ hb5
      have B5 := Lib.hid hb5
      have B4 := Lib.hid hb4
      have X1 := Lib.hid hx
      clear hb5 hb4 hb2 hx hk hlt HLT
      go_wp2_with (first
        | (refine wpList_load_blk rfl 23 (.tmp 5) rfl rfl B5.out Try.underlying23 rfl RS.out ?_)
        | (refine wpList_store_blk rfl 23 (.tmp 4) (.tmp 34) rfl rfl rfl B4.out rfl RS.out (by kernel_rfl) ?_; refine Held.go ?_))
      refine ⟨?_⟩
      go_wp2
      exact bodyPost_ret (results_cell_row rfl _ _ (w.heap.size + 1) _ _ (0, 0) _ rfl (B4.out.setRow _) Try.underlying23 rfl RS.out) rfl ⟨rfl, Ext.setRow X1.out (Nat.le_succ _) _⟩
end Go.Proofs.Ytlhjbfckcfeikaa
