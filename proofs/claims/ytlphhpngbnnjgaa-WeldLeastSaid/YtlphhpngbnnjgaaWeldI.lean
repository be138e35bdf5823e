/- The walk of WeldEnds. -/
import Derived.Test.YtlphhpngbnnjgaaWeldG
namespace Go.Proofs.Ytlphhpngbnnjgaa
set_option linter.unusedVariables false
set_option linter.unusedSimpArgs false
open Go.RowKit

theorem allMay_iff {l : List Int} : l.all mayP = true ↔ ∀ x ∈ l, 0 ≤ x ∧ x ≤ 20000 := by
  rw [List.all_eq_true]
  exact ⟨fun h x hx => mayP_iff.1 (h x hx), fun h x hx => mayP_iff.2 (h x hx)⟩
theorem getD_mem {l : List Int} {k : Nat} (hk : k < l.length) : l.getD k 0 ∈ l := by
  rw [List.getD_eq_getElem?_getD, List.getElem?_eq_getElem hk]; exact List.getElem_mem hk
/-- behind a plan no pair is small -/
theorem plan_pairs {l : List Int} {t : Int} (hp : pf l t 0 = none) (h0 : ∀ x ∈ l, 0 ≤ x) {k : Nat} (hk : k + 1 < l.length) :
    (¬ l.getD k 0 ≤ 20000) ∨ (l.getD k 0 ≤ 20000 ∧ ¬ l.getD (k + 1) 0 ≤ 20000) ∨ (l.getD k 0 ≤ 20000 ∧ l.getD (k + 1) 0 ≤ 20000 ∧ ¬ l.getD k 0 + l.getD (k + 1) 0 < t ∧ 0 ≤ l.getD k 0 ∧ 0 ≤ l.getD (k + 1) 0) := by
  have h1 := h0 _ (getD_mem (show k < l.length by omega))
  have h2 := h0 _ (getD_mem hk)
  have h3 := pf_none hp k (Nat.zero_le _)
  rw [pairAt_in hk] at h3
  by_cases a1 : l.getD k 0 ≤ 20000
  · by_cases a2 : l.getD (k + 1) 0 ≤ 20000
    · refine .inr (.inr ⟨a1, a2, fun a3 => ?_, h1, h2⟩)
      rw [okP_iff.2 ⟨h1, a1, h2, a2, a3⟩] at h3; cases h3
    · exact .inr (.inl ⟨a1, a2⟩)
  · exact .inl a1
theorem step_sum (l : List Int) (t : Int) : sumL (stepL l t) = sumL l := by
  unfold stepL
  split
  · rfl
  · rename_i i hp; exact weldW_sum (pf_some hp).2.1
theorem step_nonneg {l : List Int} {t : Int} (h : ∀ x ∈ l, 0 ≤ x) : ∀ x ∈ stepL l t, 0 ≤ x := by
  unfold stepL
  split
  · exact h
  · rename_i i hp; exact weldW_nonneg hp h

set_option maxRecDepth 20000 in
set_option maxHeartbeats 8000000 in
theorem ends_main (a : Option Addr) (c : Nat) (l : List Int) (t : Int) (W : World) (rd : RI W (.slice a l.length c) l) (hlen : (l.length : Int) ≤ 300) (hm : l.all mayP = true) :
    Calls Try.prog 5 #[.slice a l.length c, .int .i64 t] W fun e w' => e = .returned (.bool true) ∧ Ext W w' := by
  have HR := Lib.hid rd
  have h9 : (l.length : Int) ≤ 1000000000 := by omega
  have hall := allMay_iff.1 hm
  have hnn : ∀ x ∈ l, 0 ≤ x := fun x hx => (hall x hx).1
  have hsum : sumL l ≤ 1000000000000 := by have := sumL_le hall; omega
  have qm := may_any l _ W rd h9
  rw [hm] at qm
  have QM := Lib.hid qm
  have qs := Lib.hid (fun w v (h : RI w v l) => sum_any l v w h h9 hnn hsum)
  have hsl : ((stepL l t).length : Int) ≤ 1000000000 := by
    unfold stepL
    split
    · omega
    · rename_i i hp; rw [weldW_length (pf_some hp).2.1]; omega
  have qs2 := Lib.hid (fun w v (h : RI w v (stepL l t)) => sum_any (stepL l t) v w h hsl (step_nonneg hnn) (by rw [step_sum]; exact hsum))
  rw [step_sum] at qs2
  have hpl : ((planL l t).1.length : Int) ≤ 1000000000 := by have := planL_len l t; omega
  have qs3 := Lib.hid (fun w v (h : RI w v (planL l t).1) => sum_any (planL l t).1 v w h hpl (planL_nonneg l t hnn) (by rw [planL_sum]; exact hsum))
  rw [planL_sum] at qs3
  have qst := Lib.hid (fun w (h : RI w (.slice a l.length c) l) => wStep_any l t _ w h h9)
  have qpl := Lib.hid (fun w (h : RI w (.slice a l.length c) l) => wPlan_any l t _ w h h9)
  have qpp := Lib.hid (fun w v (h : RI w v (planL l t).1) => wPair_any (planL l t).1 t v w h hpl)
  rw [planL_done] at qpp
  have hpp := Lib.hid (fun k (hk : k + 1 < (planL l t).1.length) => plan_pairs (planL_done l t) (planL_nonneg l t hnn) hk)
  have L1 := planL_len l t
  have L2 := planL_pos l t
  have HS := Lib.hid hsl
  have HP := Lib.hid hpl
  have H9 := Lib.hid h9
  generalize sumL l = S at *
  generalize planL l t = pl at *
  obtain ⟨pl, pn⟩ := pl
  dsimp only at *
  have w1 : IntKind.i64.wrap ((l.length : Int) - (pn : Int)) = (pl.length : Int) := by rw [IntKind.wrap_i64]; omega
  have w2 : ¬ (pn : Int) < 0 := by omega
  have w3 : 0 < l.length → (pn : Int) < (l.length : Int) := fun h => by have := L2 h; omega
  have W3 := Lib.hid w3
  have w4 : (pl.length : Int) ≤ 300 := by omega
  have hn : ¬ (300 : Int) < (l.length : Int) := by omega
  clear rd hall hnn hsum qm hm hsl hpl L1 L2 w3 h9
  unfold stepL at qs2 qst HS
  cases hp : pf l t 0 with
  | none =>
    rw [hp] at qs2 qst HS
    dsimp only at qs2 qst HS
    clear hp
    go_enter Try.func5, Try.ntmps5
    go_wp2_with fail
    refine (QM.out).mono ?_
    rintro _ w1 ⟨rfl, x1⟩
    have X1 := Lib.hid x1
    clear x1
    go_wp2_with fail
    refine (qst.out _ (HR.out.ext X1.out)).mono ?_
    rintro _ w2 ⟨v2, rfl, x2, i2⟩
    simp only [Option.isSome]
    have X2 := Lib.hid (X1.out.trans x2)
    have I2 := Lib.hid i2.ri
    obtain ⟨a2, c2, rfl, _, _⟩ := i2.shape
    clear x2 i2
    have s1 := sameR_any l l _ _ w2 I2.out (HR.out.ext X2.out) H9.out H9.out
    rw [show (l == l) = true by simp] at s1
    have s1 := Lib.hid s1
    go_wp2_with fail
    refine (s1.out).mono ?_
    rintro _ w3 ⟨rfl, x3⟩
    have XB := Lib.hid (X2.out.trans x3)
    clear x3 s1
    go_wp2_with fail
    refine (qpl.out _ (HR.out.ext XB.out)).mono ?_
    rintro _ w5 ⟨v5, rfl, x5, i5⟩
    have X5 := Lib.hid (XB.out.trans x5)
    have I5 := Lib.hid i5.ri
    obtain ⟨a5, c5, rfl, _, s5⟩ := i5.shape
    have S5 := Lib.hid s5
    clear x5 i5 s5
    by_cases h0 : 0 < l.length
    · have w3 := W3.out h0
      have w5' : (0 : Int) < (l.length : Int) := by omega
      go_wp2_with fail
      refine (qs3.out _ _ I5.out).mono ?_
      rintro _ w6 ⟨rfl, x6⟩
      have X6 := Lib.hid x6
      clear x6
      go_wp2_with fail
      refine (qs.out _ _ (HR.out.ext (X5.out.trans X6.out))).mono ?_
      rintro _ w7 ⟨rfl, x7⟩
      have X7 := Lib.hid (X6.out.trans x7)
      clear x7 X6
      go_wp2
      go_loopw [9] (fun i wr => ∃ k : Nat, i = .int .i64 (k : Int) ∧ k ≤ pl.length ∧ Ext w5 wr) (fun i _ => pl.length - (intOf i).toNat)
      case atStart => exact ⟨0, rfl, Nat.zero_le _, X7.out⟩
      case round =>
        obtain ⟨k, rfl, hk, hx⟩ := hrel
        have HX := Lib.hid hx
        by_cases hlt : k + 1 < pl.length
        · have hI : (k : Int) + 1 < (pl.length : Int) := by omega
          have hI2 : (k : Int) < (pl.length : Int) := by omega
          obtain ⟨g, rfl, _, _, hc, _⟩ := S5.out (by omega)
          have d1 := up_cell (show wr.cell? ⟨g, k, none⟩ = some (.int .i64 (pl.getD k 0)) from Go.cell_later hx (hc k (by omega)))
          have d2 := up_cell (show wr.cell? ⟨g, k + 1, none⟩ = some (.int .i64 (pl.getD (k + 1) 0)) from Go.cell_later hx (hc (k + 1) hlt))
          have hcase := hpp.out k hlt
          clear hx hc
          generalize pl.getD k 0 = x at *
          generalize pl.getD (k + 1) 0 = y at *
          rcases hcase with b1 | ⟨b1, b2⟩ | ⟨b1, b2, b3, b4, b5⟩
          · go_wp2
            have nb : ¬ x ≤ 20000 := by omega
            refine wp_region_up (by kernel_rfl) (by kernel_rfl) ?_
            repeat (go_big_quiet_step (fail))
            refine wpQuiet_nil ?_
            rintro _ ⟨z, rfl⟩
            go_wp2
            go_roundw
            case rel => exact ⟨k + 1, by go_num, by omega, HX.out.trans z.ext⟩
            case measure => simp [intOf]; omega
          · go_wp2
            have nb : ¬ y ≤ 20000 := by omega
            refine wp_region_up (by kernel_rfl) (by kernel_rfl) ?_
            repeat (go_big_quiet_step (fail))
            refine wpQuiet_nil ?_
            rintro _ ⟨z, rfl⟩
            go_wp2
            go_roundw
            case rel => exact ⟨k + 1, by go_num, by omega, HX.out.trans z.ext⟩
            case measure => simp [intOf]; omega
          · have hsum : IntKind.i64.wrap (x + y) = x + y := by rw [IntKind.wrap_i64]; omega
            go_wp2
            refine wp_region_up (by kernel_rfl) (by kernel_rfl) ?_
            repeat (go_big_quiet_step (fail))
            refine wpQuiet_nil ?_
            rintro _ ⟨z, rfl⟩
            go_wp2
            go_roundw
            case rel => exact ⟨k + 1, by go_num, by omega, HX.out.trans z.ext⟩
            case measure => simp [intOf]; omega
        · have hI : ¬ ((k : Int) + 1 < (pl.length : Int)) := by omega
          clear hx
          go_wp2_with fail
          refine (qpp.out _ _ (I5.out.ext HX.out)).mono ?_
          rintro _ w8 ⟨rfl, x8⟩
          simp only [placeV]
          have X8 := Lib.hid x8
          clear x8
          go_wp2_with fail
          refine (awake_any w8).mono ?_
          rintro _ w9 ⟨rfl, x9⟩
          go_wp2
          go_ret
          exact ⟨rfl, ((X5.out.trans HX.out).trans X8.out).trans x9⟩
    · have w5' : ¬ (0 : Int) < (l.length : Int) := by omega
      go_wp2_with fail
      refine (qs3.out _ _ I5.out).mono ?_
      rintro _ w6 ⟨rfl, x6⟩
      have X6 := Lib.hid x6
      clear x6
      go_wp2_with fail
      refine (qs.out _ _ (HR.out.ext (X5.out.trans X6.out))).mono ?_
      rintro _ w7 ⟨rfl, x7⟩
      have X7 := Lib.hid (X6.out.trans x7)
      clear x7 X6
      go_wp2
      go_loopw [9] (fun i wr => ∃ k : Nat, i = .int .i64 (k : Int) ∧ k ≤ pl.length ∧ Ext w5 wr) (fun i _ => pl.length - (intOf i).toNat)
      case atStart => exact ⟨0, rfl, Nat.zero_le _, X7.out⟩
      case round =>
        obtain ⟨k, rfl, hk, hx⟩ := hrel
        have HX := Lib.hid hx
        by_cases hlt : k + 1 < pl.length
        · have hI : (k : Int) + 1 < (pl.length : Int) := by omega
          have hI2 : (k : Int) < (pl.length : Int) := by omega
          obtain ⟨g, rfl, _, _, hc, _⟩ := S5.out (by omega)
          have d1 := up_cell (show wr.cell? ⟨g, k, none⟩ = some (.int .i64 (pl.getD k 0)) from Go.cell_later hx (hc k (by omega)))
          have d2 := up_cell (show wr.cell? ⟨g, k + 1, none⟩ = some (.int .i64 (pl.getD (k + 1) 0)) from Go.cell_later hx (hc (k + 1) hlt))
          have hcase := hpp.out k hlt
          clear hx hc
          generalize pl.getD k 0 = x at *
          generalize pl.getD (k + 1) 0 = y at *
          rcases hcase with b1 | ⟨b1, b2⟩ | ⟨b1, b2, b3, b4, b5⟩
          · go_wp2
            have nb : ¬ x ≤ 20000 := by omega
            refine wp_region_up (by kernel_rfl) (by kernel_rfl) ?_
            repeat (go_big_quiet_step (fail))
            refine wpQuiet_nil ?_
            rintro _ ⟨z, rfl⟩
            go_wp2
            go_roundw
            case rel => exact ⟨k + 1, by go_num, by omega, HX.out.trans z.ext⟩
            case measure => simp [intOf]; omega
          · go_wp2
            have nb : ¬ y ≤ 20000 := by omega
            refine wp_region_up (by kernel_rfl) (by kernel_rfl) ?_
            repeat (go_big_quiet_step (fail))
            refine wpQuiet_nil ?_
            rintro _ ⟨z, rfl⟩
            go_wp2
            go_roundw
            case rel => exact ⟨k + 1, by go_num, by omega, HX.out.trans z.ext⟩
            case measure => simp [intOf]; omega
          · have hsum : IntKind.i64.wrap (x + y) = x + y := by rw [IntKind.wrap_i64]; omega
            go_wp2
            refine wp_region_up (by kernel_rfl) (by kernel_rfl) ?_
            repeat (go_big_quiet_step (fail))
            refine wpQuiet_nil ?_
            rintro _ ⟨z, rfl⟩
            go_wp2
            go_roundw
            case rel => exact ⟨k + 1, by go_num, by omega, HX.out.trans z.ext⟩
            case measure => simp [intOf]; omega
        · have hI : ¬ ((k : Int) + 1 < (pl.length : Int)) := by omega
          clear hx
          go_wp2_with fail
          refine (qpp.out _ _ (I5.out.ext HX.out)).mono ?_
          rintro _ w8 ⟨rfl, x8⟩
          simp only [placeV]
          have X8 := Lib.hid x8
          clear x8
          go_wp2_with fail
          refine (awake_any w8).mono ?_
          rintro _ w9 ⟨rfl, x9⟩
          go_wp2
          go_ret
          exact ⟨rfl, ((X5.out.trans HX.out).trans X8.out).trans x9⟩
  | some i =>
    have w6 := weldW_length (pf_some hp).2.1
    have w7 : IntKind.i64.wrap ((l.length : Int) - 1) = ((weldW l i).length : Int) := by have := (pf_some hp).2.1; rw [IntKind.wrap_i64]; omega
    rw [hp] at qs2 qst HS
    dsimp only at qs2 qst HS
    clear hp w6
    generalize weldW l i = st at *
    go_enter Try.func5, Try.ntmps5
    go_wp2_with fail
    refine (QM.out).mono ?_
    rintro _ w1 ⟨rfl, x1⟩
    have X1 := Lib.hid x1
    clear x1
    go_wp2_with fail
    refine (qst.out _ (HR.out.ext X1.out)).mono ?_
    rintro _ w2 ⟨v2, rfl, x2, i2⟩
    simp only [Option.isSome]
    have X2 := Lib.hid (X1.out.trans x2)
    have I2 := Lib.hid i2.ri
    obtain ⟨a2, c2, rfl, _, _⟩ := i2.shape
    clear x2 i2
    go_wp2_with fail
    refine (qs2.out _ _ I2.out).mono ?_
    rintro _ w3 ⟨rfl, x3⟩
    have XA := Lib.hid (X2.out.trans x3)
    clear x3
    go_wp2_with fail
    refine (qs.out _ _ (HR.out.ext XA.out)).mono ?_
    rintro _ w4 ⟨rfl, x4⟩
    have XB := Lib.hid (XA.out.trans x4)
    clear x4
    go_wp2_with fail
    refine (qpl.out _ (HR.out.ext XB.out)).mono ?_
    rintro _ w5 ⟨v5, rfl, x5, i5⟩
    have X5 := Lib.hid (XB.out.trans x5)
    have I5 := Lib.hid i5.ri
    obtain ⟨a5, c5, rfl, _, s5⟩ := i5.shape
    have S5 := Lib.hid s5
    clear x5 i5 s5
    by_cases h0 : 0 < l.length
    · have w3 := W3.out h0
      have w5' : (0 : Int) < (l.length : Int) := by omega
      go_wp2_with fail
      refine (qs3.out _ _ I5.out).mono ?_
      rintro _ w6 ⟨rfl, x6⟩
      have X6 := Lib.hid x6
      clear x6
      go_wp2_with fail
      refine (qs.out _ _ (HR.out.ext (X5.out.trans X6.out))).mono ?_
      rintro _ w7 ⟨rfl, x7⟩
      have X7 := Lib.hid (X6.out.trans x7)
      clear x7 X6
      go_wp2
      go_loopw [9] (fun i wr => ∃ k : Nat, i = .int .i64 (k : Int) ∧ k ≤ pl.length ∧ Ext w5 wr) (fun i _ => pl.length - (intOf i).toNat)
      case atStart => exact ⟨0, rfl, Nat.zero_le _, X7.out⟩
      case round =>
        obtain ⟨k, rfl, hk, hx⟩ := hrel
        have HX := Lib.hid hx
        by_cases hlt : k + 1 < pl.length
        · have hI : (k : Int) + 1 < (pl.length : Int) := by omega
          have hI2 : (k : Int) < (pl.length : Int) := by omega
          obtain ⟨g, rfl, _, _, hc, _⟩ := S5.out (by omega)
          have d1 := up_cell (show wr.cell? ⟨g, k, none⟩ = some (.int .i64 (pl.getD k 0)) from Go.cell_later hx (hc k (by omega)))
          have d2 := up_cell (show wr.cell? ⟨g, k + 1, none⟩ = some (.int .i64 (pl.getD (k + 1) 0)) from Go.cell_later hx (hc (k + 1) hlt))
          have hcase := hpp.out k hlt
          clear hx hc
          generalize pl.getD k 0 = x at *
          generalize pl.getD (k + 1) 0 = y at *
          rcases hcase with b1 | ⟨b1, b2⟩ | ⟨b1, b2, b3, b4, b5⟩
          · go_wp2
            have nb : ¬ x ≤ 20000 := by omega
            refine wp_region_up (by kernel_rfl) (by kernel_rfl) ?_
            repeat (go_big_quiet_step (fail))
            refine wpQuiet_nil ?_
            rintro _ ⟨z, rfl⟩
            go_wp2
            go_roundw
            case rel => exact ⟨k + 1, by go_num, by omega, HX.out.trans z.ext⟩
            case measure => simp [intOf]; omega
          · go_wp2
            have nb : ¬ y ≤ 20000 := by omega
            refine wp_region_up (by kernel_rfl) (by kernel_rfl) ?_
            repeat (go_big_quiet_step (fail))
            refine wpQuiet_nil ?_
            rintro _ ⟨z, rfl⟩
            go_wp2
            go_roundw
            case rel => exact ⟨k + 1, by go_num, by omega, HX.out.trans z.ext⟩
            case measure => simp [intOf]; omega
          · have hsum : IntKind.i64.wrap (x + y) = x + y := by rw [IntKind.wrap_i64]; omega
            go_wp2
            refine wp_region_up (by kernel_rfl) (by kernel_rfl) ?_
            repeat (go_big_quiet_step (fail))
            refine wpQuiet_nil ?_
            rintro _ ⟨z, rfl⟩
            go_wp2
            go_roundw
            case rel => exact ⟨k + 1, by go_num, by omega, HX.out.trans z.ext⟩
            case measure => simp [intOf]; omega
        · have hI : ¬ ((k : Int) + 1 < (pl.length : Int)) := by omega
          clear hx
          go_wp2_with fail
          refine (qpp.out _ _ (I5.out.ext HX.out)).mono ?_
          rintro _ w8 ⟨rfl, x8⟩
          simp only [placeV]
          have X8 := Lib.hid x8
          clear x8
          go_wp2_with fail
          refine (awake_any w8).mono ?_
          rintro _ w9 ⟨rfl, x9⟩
          go_wp2
          go_ret
          exact ⟨rfl, ((X5.out.trans HX.out).trans X8.out).trans x9⟩
    · have w5' : ¬ (0 : Int) < (l.length : Int) := by omega
      go_wp2_with fail
      refine (qs3.out _ _ I5.out).mono ?_
      rintro _ w6 ⟨rfl, x6⟩
      have X6 := Lib.hid x6
      clear x6
      go_wp2_with fail
      refine (qs.out _ _ (HR.out.ext (X5.out.trans X6.out))).mono ?_
      rintro _ w7 ⟨rfl, x7⟩
      have X7 := Lib.hid (X6.out.trans x7)
      clear x7 X6
      go_wp2
      go_loopw [9] (fun i wr => ∃ k : Nat, i = .int .i64 (k : Int) ∧ k ≤ pl.length ∧ Ext w5 wr) (fun i _ => pl.length - (intOf i).toNat)
      case atStart => exact ⟨0, rfl, Nat.zero_le _, X7.out⟩
      case round =>
        obtain ⟨k, rfl, hk, hx⟩ := hrel
        have HX := Lib.hid hx
        by_cases hlt : k + 1 < pl.length
        · have hI : (k : Int) + 1 < (pl.length : Int) := by omega
          have hI2 : (k : Int) < (pl.length : Int) := by omega
          obtain ⟨g, rfl, _, _, hc, _⟩ := S5.out (by omega)
          have d1 := up_cell (show wr.cell? ⟨g, k, none⟩ = some (.int .i64 (pl.getD k 0)) from Go.cell_later hx (hc k (by omega)))
          have d2 := up_cell (show wr.cell? ⟨g, k + 1, none⟩ = some (.int .i64 (pl.getD (k + 1) 0)) from Go.cell_later hx (hc (k + 1) hlt))
          have hcase := hpp.out k hlt
          clear hx hc
          generalize pl.getD k 0 = x at *
          generalize pl.getD (k + 1) 0 = y at *
          rcases hcase with b1 | ⟨b1, b2⟩ | ⟨b1, b2, b3, b4, b5⟩
          · go_wp2
            have nb : ¬ x ≤ 20000 := by omega
            refine wp_region_up (by kernel_rfl) (by kernel_rfl) ?_
            repeat (go_big_quiet_step (fail))
            refine wpQuiet_nil ?_
            rintro _ ⟨z, rfl⟩
            go_wp2
            go_roundw
            case rel => exact ⟨k + 1, by go_num, by omega, HX.out.trans z.ext⟩
            case measure => simp [intOf]; omega
          · go_wp2
            have nb : ¬ y ≤ 20000 := by omega
            refine wp_region_up (by kernel_rfl) (by kernel_rfl) ?_
            repeat (go_big_quiet_step (fail))
            refine wpQuiet_nil ?_
            rintro _ ⟨z, rfl⟩
            go_wp2
            go_roundw
            case rel => exact ⟨k + 1, by go_num, by omega, HX.out.trans z.ext⟩
            case measure => simp [intOf]; omega
          · have hsum : IntKind.i64.wrap (x + y) = x + y := by rw [IntKind.wrap_i64]; omega
            go_wp2
            refine wp_region_up (by kernel_rfl) (by kernel_rfl) ?_
            repeat (go_big_quiet_step (fail))
            refine wpQuiet_nil ?_
            rintro _ ⟨z, rfl⟩
            go_wp2
            go_roundw
            case rel => exact ⟨k + 1, by go_num, by omega, HX.out.trans z.ext⟩
            case measure => simp [intOf]; omega
        · have hI : ¬ ((k : Int) + 1 < (pl.length : Int)) := by omega
          clear hx
          go_wp2_with fail
          refine (qpp.out _ _ (I5.out.ext HX.out)).mono ?_
          rintro _ w8 ⟨rfl, x8⟩
          simp only [placeV]
          have X8 := Lib.hid x8
          clear x8
          go_wp2_with fail
          refine (awake_any w8).mono ?_
          rintro _ w9 ⟨rfl, x9⟩
          go_wp2
          go_ret
          exact ⟨rfl, ((X5.out.trans HX.out).trans X8.out).trans x9⟩

theorem weldEnds_law (v : Value) (l : List Int) (t : Int) (wt : (Lit.int .i64 t).wf = true) (W : World) (rd : RI W v l) (hb : (l.length : Int) ≤ 9223372036854775807) (hR : ∀ x ∈ l, (Lit.int .i64 x).wf = true) :
    Calls Try.prog 5 #[v, .int .i64 t] W fun e w' => e = .returned (.bool true) ∧ Ext W w' := by
  by_cases hlen : (l.length : Int) ≤ 300
  · cases hm : l.all mayP with
    | true =>
      obtain ⟨a, c, rfl, _⟩ := rd.shape
      exact ends_main a c l t W rd hlen hm
    | false =>
      have qm := may_any l _ W rd (by omega)
      rw [hm] at qm
      have QM := Lib.hid qm
      obtain ⟨a, c, rfl, _, _, _⟩ := rd.shape
      have hn : ¬ (300 : Int) < (l.length : Int) := by omega
      clear rd hm hR hb qm
      go_enter Try.func5, Try.ntmps5
      go_wp2_with fail
      refine (QM.out).mono ?_
      rintro _ w1 ⟨rfl, x1⟩
      go_wp2_with fail
      refine (awake_any w1).mono ?_
      rintro _ w9 ⟨rfl, x9⟩
      go_wp2
      go_ret
      exact ⟨rfl, x1.trans x9⟩
  · have hn : (300 : Int) < (l.length : Int) := by omega
    obtain ⟨a, c, rfl, _, _, _⟩ := rd.shape
    have q := Lib.hid (awake_any W)
    clear rd hR hb hlen
    go_enter Try.func5, Try.ntmps5
    go_wp2_with fail
    refine (q.out).mono ?_
    rintro _ w1 ⟨rfl, x1⟩
    go_wp2
    go_ret
    exact ⟨rfl, x1⟩
end Go.Proofs.Ytlphhpngbnnjgaa
