/- The walk of WeldLeast. -/
import Derived.Test.YtlphhpngbnnjgaaWeldI
namespace Go.Proofs.Ytlphhpngbnnjgaa
set_option linter.unusedVariables false
set_option linter.unusedSimpArgs false
open Go.RowKit

theorem weldW_take {l : List Int} {i : Nat} (h : i + 1 < l.length) : (weldW l i).take i = l.take i := by
  unfold weldW
  rw [List.take_left' (by rw [List.length_take]; omega)]
theorem weldW_drop {l : List Int} {i : Nat} (h : i + 1 < l.length) : (weldW l i).drop (i + 1) = l.drop (i + 2) := by
  unfold weldW
  rw [List.drop_append, List.drop_eq_nil_of_le (by rw [List.length_take]; omega), List.length_take, Nat.min_eq_left (by omega), show i + 1 - i = 1 by omega]; rfl
theorem weldW_at {l : List Int} {i : Nat} (h : i + 1 < l.length) : (weldW l i).getD i 0 = l.getD i 0 + l.getD (i + 1) 0 := by
  unfold weldW
  rw [List.getD_eq_getElem?_getD, List.getElem?_append_right (by rw [List.length_take]; omega), List.length_take, Nat.min_eq_left (by omega), Nat.sub_self]; rfl
/-- the numbers from t on, from place j on -/
def bigs (l : List Int) (t : Int) (j : Nat) : List Int := (l.drop j).filter fun x => decide (t ≤ x)
theorem bigs_small {l : List Int} {t : Int} {j : Nat} (hj : j < l.length) (h : l.getD j 0 < t) : bigs l t j = bigs l t (j + 1) := by
  unfold bigs
  rw [List.drop_eq_getElem_cons hj, List.filter_cons_of_neg]
  rw [List.getD_eq_getElem?_getD, List.getElem?_eq_getElem hj] at h
  simp only [Option.getD_some] at h
  rw [decide_eq_true_eq]; omega
theorem bigs_big {l : List Int} {t : Int} {j : Nat} (hj : j < l.length) (h : ¬ l.getD j 0 < t) : bigs l t j = l.getD j 0 :: bigs l t (j + 1) := by
  unfold bigs
  rw [List.drop_eq_getElem_cons hj, List.filter_cons_of_pos, List.getD_eq_getElem?_getD, List.getElem?_eq_getElem hj]; rfl
  rw [List.getD_eq_getElem?_getD, List.getElem?_eq_getElem hj] at h
  simp only [Option.getD_some] at h
  rw [decide_eq_true_eq]; omega
theorem sub_end {x : Int} {F m : List Int} {k : Nat} (h : (x :: F).Sublist (m.drop k)) : k < m.length := by
  rcases Nat.lt_or_ge k m.length with h1 | h1
  · exact h1
  · rw [List.drop_eq_nil_of_le h1] at h; cases h
theorem sub_ne {x : Int} {F m : List Int} {k : Nat} (h : (x :: F).Sublist (m.drop k)) (hne : m.getD k 0 ≠ x) : (x :: F).Sublist (m.drop (k + 1)) := by
  have hk := sub_end h
  rw [List.drop_eq_getElem_cons hk] at h
  rw [List.getD_eq_getElem?_getD, List.getElem?_eq_getElem hk] at hne
  simp only [Option.getD_some] at hne
  cases h with
  | cons _ h => exact h
  | cons_cons _ h => exact absurd rfl hne
theorem sub_eq {x : Int} {F m : List Int} {k : Nat} (h : (x :: F).Sublist (m.drop k)) (he : m.getD k 0 = x) : F.Sublist (m.drop (k + 1)) := by
  have hk := sub_end h
  rw [List.drop_eq_getElem_cons hk] at h
  rw [List.getD_eq_getElem?_getD, List.getElem?_eq_getElem hk] at he
  simp only [Option.getD_some] at he
  rw [he] at h
  exact List.cons_sublist_cons.1 h
theorem bigs_start (l : List Int) (t : Int) : (bigs l t 0).Sublist ((planL l t).1.drop 0) := by
  unfold bigs
  rw [List.drop_zero, List.drop_zero, ← planL_big]
  exact List.filter_sublist

set_option maxRecDepth 20000 in
set_option maxHeartbeats 8000000 in
theorem least_main (a : Option Addr) (c : Nat) (l : List Int) (t : Int) (W : World) (rd : RI W (.slice a l.length c) l) (hlen : (l.length : Int) ≤ 300) (hm : l.all mayP = true) (ht : 1 ≤ t) (hR : ∀ x ∈ l, (Lit.int .i64 x).wf = true) :
    Calls Try.prog 6 #[.slice a l.length c, .int .i64 t] W fun e w' => e = .returned (.bool true) ∧ Ext W w' := by
  have HR := Lib.hid rd
  have h9 : (l.length : Int) ≤ 1000000000 := by omega
  have qm := may_any l _ W rd h9
  rw [hm] at qm
  have QM := Lib.hid qm
  have hpl : ((planL l t).1.length : Int) ≤ 1000000000 := by have := planL_len l t; omega
  have qpr := Lib.hid (fun w (h : RI w (.slice a l.length c) l) => wPair_any l t _ w h h9)
  have qst := Lib.hid (fun w (h : RI w (.slice a l.length c) l) => wStep_any l t _ w h h9)
  have qpl := Lib.hid (fun w (h : RI w (.slice a l.length c) l) => wPlan_any l t _ w h h9)
  have hsub := Lib.hid (bigs_start l t)
  have H9 := Lib.hid h9
  have HP := Lib.hid hpl
  have hn : ¬ (300 : Int) < (l.length : Int) := by omega
  have ht' : ¬ t < 1 := by omega
  have hplb : ((planL l t).1.length : Int) ≤ 300 := by have := planL_len l t; omega
  generalize planL l t = pl at *
  obtain ⟨pl, pn⟩ := pl
  dsimp only at *
  clear rd qm hm hpl h9 hR
  unfold stepL at qst
  cases hp : pf l t 0 with
  | none =>
    rw [hp] at qst qpr
    dsimp only at qst
    clear hp
    go_enter Try.func6, Try.ntmps6
    go_wp2_with fail
    refine (QM.out).mono ?_
    rintro _ w1 ⟨rfl, x1⟩
    have X1 := Lib.hid x1
    clear x1
    go_wp2_with fail
    refine (qpr.out _ (HR.out.ext X1.out)).mono ?_
    rintro _ w2 ⟨rfl, x2⟩
    simp only [placeV]
    have X2 := Lib.hid (X1.out.trans x2)
    clear x2
    go_wp2_with fail
    refine (qst.out _ (HR.out.ext X2.out)).mono ?_
    rintro _ w3 ⟨v3, rfl, x3, i3⟩
    simp only [Option.isSome]
    have X3 := Lib.hid (X2.out.trans x3)
    obtain ⟨a3, c3, rfl, _, _⟩ := i3.shape
    clear x3 i3
    go_wp2_with fail
    refine wp_region_up (by kernel_rfl) (by kernel_rfl) ?_
    repeat (go_big_quiet_step (fail))
    refine wpQuiet_nil ?_
    rintro _ ⟨z, rfl⟩
    have X4 := Lib.hid (X3.out.trans z.ext)
    go_wp2_with fail
    refine (qpl.out _ (HR.out.ext X4.out)).mono ?_
    rintro _ w5 ⟨v5, rfl, x5, i5⟩
    have X5 := Lib.hid (X4.out.trans x5)
    obtain ⟨a5, c5, rfl, _, s5⟩ := i5.shape
    have S5 := Lib.hid s5
    obtain ⟨a', c', e1, _, _, hs⟩ := HR.out.shape
    injection e1 with e1 e2 e3
    subst e1; subst e3
    have HSR := Lib.hid hs
    have XW := Lib.hid (X4.out.trans x5)
    clear x5 i5 s5 hs
    go_wp2
    go_loopw [12, 11] (fun j k wr => ∃ (j' k' : Nat), j = .int .i64 (j' : Int) ∧ k = .int .i64 (k' : Int) ∧ j' ≤ l.length ∧ k' ≤ pl.length ∧ (bigs l t j').Sublist (pl.drop k') ∧ Ext w5 wr) (fun j _ _ => l.length - (intOf j).toNat)
    case atStart => exact ⟨0, 0, rfl, rfl, Nat.zero_le _, Nat.zero_le _, hsub.out, Ext.refl _⟩
    case round =>
      obtain ⟨j, k, rfl, rfl, hj, hk, hsb, hx⟩ := hrel
      have HX := Lib.hid hx
      by_cases hlt : j < l.length
      · have hI : (j : Int) < (l.length : Int) := by omega
        obtain ⟨g, o, rfl, hc⟩ := HSR.out (by omega)
        have DC := Lib.hid (Go.cell_later XW.out (hc j hlt))
        have d1 : wr.cell? ⟨g, o + j, none⟩ = some (.int .i64 (l.getD j 0)) := Go.cell_later hx DC.out
        by_cases hsm : l.getD j 0 < t
        · have HS2 := Lib.hid (show (bigs l t (j + 1)).Sublist (pl.drop k) by rw [← bigs_small hlt hsm]; exact hsb)
          clear hx hc DC
          generalize l.getD j 0 = x at *
          go_wp2
          go_roundw
          case rel => exact ⟨j + 1, k, by go_num, rfl, by omega, hk, HS2.out, HX.out⟩
          case measure => simp [intOf]; omega
        · rw [bigs_big hlt hsm] at hsb
          clear hx hc
          generalize l.getD j 0 = x at *
          obtain ⟨F, hF⟩ : ∃ F, F = bigs l t (j + 1) := ⟨_, rfl⟩
          rw [← hF] at hsb
          have HF := Lib.hid hF
          clear hF
          have HSB2 := Lib.hid hsb
          clear hsb
          go_wp2
          go_loopw [11] (fun k w2 => ∃ k' : Nat, k = .int .i64 (k' : Int) ∧ k' ≤ pl.length ∧ (x :: F).Sublist (pl.drop k') ∧ Ext wr w2) (fun k _ => pl.length - (intOf k).toNat)
          case atStart => exact ⟨k, rfl, hk, HSB2.out, Ext.refl _⟩
          case round =>
            obtain ⟨k', rfl, hk', hs', hx'⟩ := hrel
            have HX' := Lib.hid hx'
            have hkl := sub_end hs'
            have hkI : (k' : Int) < (pl.length : Int) := by omega
            obtain ⟨g5, rfl, _, _, hc5, _⟩ := S5.out (by omega)
            have d5 := up_cell (show wr.cell? ⟨g5, k', none⟩ = some (.int .i64 (pl.getD k' 0)) from Go.cell_later (HX.out.trans hx') (hc5 k' hkl))
            have d6 := up_cell (show wr.cell? ⟨g, o + j, none⟩ = some (.int .i64 x) from Go.cell_later (HX.out.trans hx') DC.out)
            by_cases he : pl.getD k' 0 = x
            · have HS3 := Lib.hid (sub_eq hs' he)
              rw [he] at d5
              have hne : ((k' : Int) == (pl.length : Int)) = false := by simp; omega
              clear hx' hc5 hs' he d1
              go_wp2
              refine wp_region_up (by kernel_rfl) (by kernel_rfl) ?_
              repeat (go_big_quiet_step (fail))
              refine wpQuiet_nil ?_
              rintro _ ⟨z, rfl⟩
              go_wp2
              go_roundw
              case rel => exact ⟨j + 1, k' + 1, by go_num, by go_num, by omega, by omega, by rw [← HF.out]; exact HS3.out, (HX.out.trans HX'.out).trans z.ext⟩
              case measure => simp [intOf]; omega
            · have HS3 := Lib.hid (sub_ne hs' he)
              generalize pl.getD k' 0 = y at *
              have hne : (y == x) = false := by simpa using he
              clear hx' hc5 hs' d1
              go_wp2
              refine wp_region_up (by kernel_rfl) (by kernel_rfl) ?_
              repeat (go_big_quiet_step (fail))
              refine wpQuiet_nil ?_
              rintro _ ⟨z, rfl⟩
              go_wp2
              go_roundw
              case rel => exact ⟨k' + 1, by go_num, by omega, HS3.out, HX'.out.trans z.ext⟩
              case measure => simp [intOf]; omega
      · obtain rfl : j = l.length := by omega
        clear hx hj
        go_wp2_with fail
        refine (awake_any wr).mono ?_
        rintro _ w9 ⟨rfl, x9⟩
        go_wp2
        go_ret
        exact ⟨rfl, (X5.out.trans HX.out).trans x9⟩
  | some i =>
    obtain ⟨_, hi1, hi2, _⟩ := pf_some hp
    have hi2 := okP_iff.1 hi2
    rw [hp] at qst qpr
    dsimp only at qst
    have hwl := weldW_length hi1
    have q1 := Lib.hid (weldW_take hi1)
    have q2 := Lib.hid (weldW_drop hi1)
    have hsum : IntKind.i64.wrap (l.getD i 0 + l.getD (i + 1) 0) = (weldW l i).getD i 0 := by rw [weldW_at hi1, IntKind.wrap_i64]; omega
    have k1 : (i : Int) < (l.length : Int) := by omega
    have k2 : (i : Int) + 1 < (l.length : Int) := by omega
    have k3 : (i : Int) + 2 ≤ (l.length : Int) := by omega
    have k4 : (0 : Int) ≤ (i : Int) + 1 := by omega
    have k5 : (0 : Int) ≤ (i : Int) + 2 := by omega
    have k6 : IntKind.i64.wrap ((i : Int) + 1) = (i : Int) + 1 := by rw [IntKind.wrap_i64]; omega
    have k7 : IntKind.i64.wrap ((i : Int) + 2) = (i : Int) + 2 := by rw [IntKind.wrap_i64]; omega
    have k8 : IntKind.i64.wrap ((l.length : Int) - 1) = ((weldW l i).length : Int) := by rw [IntKind.wrap_i64]; omega
    have k9 : ¬ (i : Int) < 0 := by omega
    have k10 : (i : Int) < ((weldW l i).length : Int) := by omega
    have k11 : (i : Int) + 1 ≤ ((weldW l i).length : Int) := by omega
    have k12 : i ≤ (weldW l i).length := by omega
    have k13 : i + 1 ≤ (weldW l i).length := by omega
    have hsb : ((weldW l i).length : Int) ≤ 300 := by omega
    have HI1 := Lib.hid hi1
    have HK12 := Lib.hid k12
    have HK13 := Lib.hid k13
    obtain ⟨hac, hra⟩ : l.length ≤ c ∧ ∃ g o, a = some ⟨g, o, none⟩ ∧ ∀ k, k < l.length → W.cell? ⟨g, o + k, none⟩ = some (.int .i64 (l.getD k 0)) := by
      obtain ⟨a', c', e1, h1, _, hs⟩ := HR.out.shape
      injection e1 with e1 e2 e3
      subst e1; subst e3
      exact ⟨h1, hs (by omega)⟩
    obtain ⟨g, o, rfl, hcell⟩ := hra
    have hc1 := Lib.hid (hcell i (by omega))
    have hc2 := Lib.hid (hcell (i + 1) hi1)
    clear hp hi1 hi2 hwl hcell k12 k13
    generalize hst : weldW l i = st at *
    have HST := Lib.hid hst
    clear hst
    go_enter Try.func6, Try.ntmps6
    go_wp2_with fail
    refine (QM.out).mono ?_
    rintro _ w1 ⟨rfl, x1⟩
    have X1 := Lib.hid x1
    clear x1
    go_wp2_with fail
    refine (qpr.out _ (HR.out.ext X1.out)).mono ?_
    rintro _ w2 ⟨rfl, x2⟩
    simp only [placeV]
    have X2 := Lib.hid (X1.out.trans x2)
    clear x2
    go_wp2_with fail
    refine (qst.out _ (HR.out.ext X2.out)).mono ?_
    rintro _ w3 ⟨v3, rfl, x3, i3⟩
    simp only [Option.isSome]
    have X3 := Lib.hid (X2.out.trans x3)
    have I3 := Lib.hid i3.ri
    obtain ⟨a3, c3, rfl, hcc3, s3⟩ := i3.shape
    obtain ⟨g3, rfl, _, _, hc3, _⟩ := s3 (by have := HK13.out; omega)
    have R0 := Lib.hid (HR.out.ext X3.out)
    have e1 := up_cell (hc3 i (by have := HK13.out; omega))
    have e2 := up_cell (show w3.cell? ⟨g, o + i, none⟩ = some (.int .i64 (l.getD i 0)) from Go.cell_later X3.out hc1.out)
    have e3 := up_cell (show w3.cell? ⟨g, o + (i + 1), none⟩ = some (.int .i64 (l.getD (i + 1) 0)) from Go.cell_later X3.out hc2.out)
    have hS1 : RI w3 (.slice (if c3 = i + 1 then some ⟨g3, 0, none⟩ else some ⟨g3, i + 1, none⟩) (st.length - (i + 1)) (c3 - (i + 1))) (st.drop (i + 1)) := by
      refine RR.drop I3.out (i + 1) HK13.out _ (fun g' o' e hlt => ?_) (fun e => ?_)
      · injection e with e; injection e with e1 e2; subst e1; subst e2
        rw [if_neg (by omega), Nat.mul_one, Nat.zero_add]
      · split at e <;> cases e
    have hS2 : RI w3 (.slice (if c = i + 2 then some ⟨g, o, none⟩ else some ⟨g, o + (i + 2), none⟩) (l.length - (i + 2)) (c - (i + 2))) (l.drop (i + 2)) := by
      refine RR.drop R0.out (i + 2) HI1.out _ (fun g' o' e hlt => ?_) (fun e => ?_)
      · injection e with e; injection e with e1 e2; subst e1; subst e2
        rw [if_neg (by omega), Nat.mul_one]
      · split at e <;> cases e
    have t1 := RI.take I3.out i HK12.out
    have t2 := RI.take R0.out i (by have := HI1.out; omega)
    rw [q1.out] at t1
    rw [q2.out] at hS1
    have P1 : Hid (∀ x : Up w3, Calls Try.prog 14 #[.slice (some ⟨g3, 0, none⟩) i c3, .slice (some ⟨g, o, none⟩) i c] x.val fun e w' => e = .returned (.bool true) ∧ Ext x.val w') := Lib.hid (fun x => by
      have h := sameR_any _ _ _ _ x.val (t1.ext x.ext) (t2.ext x.ext) (by rw [List.length_take]; omega) (by rw [List.length_take]; omega)
      rw [show (l.take i == l.take i) = true by simp] at h
      exact h)
    have P2 : Hid (∀ x : Up w3, Calls Try.prog 14 #[.slice (if c3 = i + 1 then some ⟨g3, 0, none⟩ else some ⟨g3, i + 1, none⟩) (st.length - (i + 1)) (c3 - (i + 1)), .slice (if c = i + 2 then some ⟨g, o, none⟩ else some ⟨g, o + (i + 2), none⟩) (l.length - (i + 2)) (c - (i + 2))] x.val fun e w' => e = .returned (.bool true) ∧ Ext x.val w') := Lib.hid (fun x => by
      have h := sameR_any _ _ _ _ x.val (hS1.ext x.ext) (hS2.ext x.ext) (by rw [List.length_drop]; omega) (by rw [List.length_drop]; omega)
      rw [show (l.drop (i + 2) == l.drop (i + 2)) = true by simp] at h
      exact h)
    have m1 : (st.length : Int) ≤ (c3 : Int) := by omega
    have m2 : (l.length : Int) ≤ (c : Int) := by omega
    have m3 : (i : Int) ≤ (c3 : Int) := by omega
    have m4 : (i : Int) ≤ (c : Int) := by omega
    have hc1' := Lib.hid hc1.out
    clear x3 i3 s3 hc3 t1 t2 hS1 hS2
    generalize l.getD i 0 = x at *
    generalize l.getD (i + 1) 0 = y at *
    generalize st.getD i 0 = u at *
    go_wp2_with fail
    have n9 : ¬ (i : Int) < 0 := by omega
    have n10 : ¬ (l.length : Int) ≤ (i : Int) + 1 := by omega
    refine wp_region_up (by kernel_rfl) (by kernel_rfl) ?_
    repeat (go_big_quiet_step (first | (go_at_call 14; (with_reducible exact up_call (P1.out _))) | (go_at_call 14; (with_reducible exact up_call (P2.out _)))))
    refine wpQuiet_nil ?_
    rintro _ ⟨z, rfl⟩
    generalize Value.slice (if c3 = i + 1 then some (⟨g3, 0, none⟩ : Addr) else some ⟨g3, i + 1, none⟩) (st.length - (i + 1)) (c3 - (i + 1)) = V1 at *
    generalize Value.slice (if c = i + 2 then some (⟨g, o, none⟩ : Addr) else some ⟨g, o + (i + 2), none⟩) (l.length - (i + 2)) (c - (i + 2)) = V2 at *
    clear P1 P2
    have X4 := Lib.hid (X3.out.trans z.ext)
    go_wp2_with fail
    refine (qpl.out _ (HR.out.ext X4.out)).mono ?_
    rintro _ w5 ⟨v5, rfl, x5, i5⟩
    have X5 := Lib.hid (X4.out.trans x5)
    obtain ⟨a5, c5, rfl, _, s5⟩ := i5.shape
    have S5 := Lib.hid s5
    obtain ⟨a', c', e1, _, _, hs⟩ := HR.out.shape
    injection e1 with e1 e2 e3
    subst e1; subst e3
    have HSR := Lib.hid hs
    have XW := Lib.hid (X4.out.trans x5)
    clear x5 i5 s5 hs
    go_wp2
    go_loopw [12, 11] (fun j k wr => ∃ (j' k' : Nat), j = .int .i64 (j' : Int) ∧ k = .int .i64 (k' : Int) ∧ j' ≤ l.length ∧ k' ≤ pl.length ∧ (bigs l t j').Sublist (pl.drop k') ∧ Ext w5 wr) (fun j _ _ => l.length - (intOf j).toNat)
    case atStart => exact ⟨0, 0, rfl, rfl, Nat.zero_le _, Nat.zero_le _, hsub.out, Ext.refl _⟩
    case round =>
      obtain ⟨j, k, rfl, rfl, hj, hk, hsb, hx⟩ := hrel
      have HX := Lib.hid hx
      by_cases hlt : j < l.length
      · have hI : (j : Int) < (l.length : Int) := by omega
        obtain ⟨g', o', hgo, hc⟩ := HSR.out (by omega)
        injection hgo with hgo
        injection hgo with hg ho
        subst hg ho
        have DC := Lib.hid (Go.cell_later XW.out (hc j hlt))
        have d1 : wr.cell? ⟨g, o + j, none⟩ = some (.int .i64 (l.getD j 0)) := Go.cell_later hx DC.out
        by_cases hsm : l.getD j 0 < t
        · have HS2 := Lib.hid (show (bigs l t (j + 1)).Sublist (pl.drop k) by rw [← bigs_small hlt hsm]; exact hsb)
          clear hx hc DC
          generalize l.getD j 0 = x at *
          go_wp2
          go_roundw
          case rel => exact ⟨j + 1, k, by go_num, rfl, by omega, hk, HS2.out, HX.out⟩
          case measure => simp [intOf]; omega
        · rw [bigs_big hlt hsm] at hsb
          clear hx hc
          generalize l.getD j 0 = x at *
          obtain ⟨F, hF⟩ : ∃ F, F = bigs l t (j + 1) := ⟨_, rfl⟩
          rw [← hF] at hsb
          have HF := Lib.hid hF
          clear hF
          have HSB2 := Lib.hid hsb
          clear hsb
          go_wp2
          go_loopw [11] (fun k w2 => ∃ k' : Nat, k = .int .i64 (k' : Int) ∧ k' ≤ pl.length ∧ (x :: F).Sublist (pl.drop k') ∧ Ext wr w2) (fun k _ => pl.length - (intOf k).toNat)
          case atStart => exact ⟨k, rfl, hk, HSB2.out, Ext.refl _⟩
          case round =>
            obtain ⟨k', rfl, hk', hs', hx'⟩ := hrel
            have HX' := Lib.hid hx'
            have hkl := sub_end hs'
            have hkI : (k' : Int) < (pl.length : Int) := by omega
            obtain ⟨g5, rfl, _, _, hc5, _⟩ := S5.out (by omega)
            have d5 := up_cell (show wr.cell? ⟨g5, k', none⟩ = some (.int .i64 (pl.getD k' 0)) from Go.cell_later (HX.out.trans hx') (hc5 k' hkl))
            have d6 := up_cell (show wr.cell? ⟨g, o + j, none⟩ = some (.int .i64 x) from Go.cell_later (HX.out.trans hx') DC.out)
            by_cases he : pl.getD k' 0 = x
            · have HS3 := Lib.hid (sub_eq hs' he)
              rw [he] at d5
              have hne : ((k' : Int) == (pl.length : Int)) = false := by simp; omega
              clear hx' hc5 hs' he d1
              go_wp2
              refine wp_region_up (by kernel_rfl) (by kernel_rfl) ?_
              repeat (go_big_quiet_step (fail))
              refine wpQuiet_nil ?_
              rintro _ ⟨z, rfl⟩
              go_wp2
              go_roundw
              case rel => exact ⟨j + 1, k' + 1, by go_num, by go_num, by omega, by omega, by rw [← HF.out]; exact HS3.out, (HX.out.trans HX'.out).trans z.ext⟩
              case measure => simp [intOf]; omega
            · have HS3 := Lib.hid (sub_ne hs' he)
              generalize pl.getD k' 0 = y at *
              have hne : (y == x) = false := by simpa using he
              clear hx' hc5 hs' d1
              go_wp2
              refine wp_region_up (by kernel_rfl) (by kernel_rfl) ?_
              repeat (go_big_quiet_step (fail))
              refine wpQuiet_nil ?_
              rintro _ ⟨z, rfl⟩
              go_wp2
              go_roundw
              case rel => exact ⟨k' + 1, by go_num, by omega, HS3.out, HX'.out.trans z.ext⟩
              case measure => simp [intOf]; omega
      · obtain rfl : j = l.length := by omega
        clear hx hj
        go_wp2_with fail
        refine (awake_any wr).mono ?_
        rintro _ w9 ⟨rfl, x9⟩
        go_wp2
        go_ret
        exact ⟨rfl, (X5.out.trans HX.out).trans x9⟩

theorem weldLeast_law (v : Value) (l : List Int) (t : Int) (wt : (Lit.int .i64 t).wf = true) (W : World) (rd : RI W v l) (hb : (l.length : Int) ≤ 9223372036854775807) (hR : ∀ x ∈ l, (Lit.int .i64 x).wf = true) :
    Calls Try.prog 6 #[v, .int .i64 t] W fun e w' => e = .returned (.bool true) ∧ Ext W w' := by
  by_cases hlen : (l.length : Int) ≤ 300
  · cases hm : l.all mayP with
    | true =>
      by_cases ht : 1 ≤ t
      · obtain ⟨a, c, rfl, _⟩ := rd.shape
        exact least_main a c l t W rd hlen hm ht hR
      · have qm := may_any l _ W rd (by omega)
        rw [hm] at qm
        have QM := Lib.hid qm
        obtain ⟨a, c, rfl, _, _, _⟩ := rd.shape
        have hn : ¬ (300 : Int) < (l.length : Int) := by omega
        have ht2 : t < 1 := by omega
        clear rd hm hR hb qm ht
        go_enter Try.func6, Try.ntmps6
        go_wp2_with fail
        refine (QM.out).mono ?_
        rintro _ w1 ⟨rfl, x1⟩
        go_wp2_with fail
        refine (awake_any w1).mono ?_
        rintro _ w9 ⟨rfl, x9⟩
        go_wp2
        go_ret
        exact ⟨rfl, x1.trans x9⟩
    | false =>
      have qm := may_any l _ W rd (by omega)
      rw [hm] at qm
      have QM := Lib.hid qm
      obtain ⟨a, c, rfl, _, _, _⟩ := rd.shape
      have hn : ¬ (300 : Int) < (l.length : Int) := by omega
      clear rd hm hR hb qm
      go_enter Try.func6, Try.ntmps6
      go_wp2_with fail
      refine (QM.out).mono ?_
      rintro _ w1 ⟨rfl, x1⟩
      go_wp2_with fail
      refine (awake_any w1).mono ?_
      rintro _ w9 ⟨rfl, x9⟩
      go_wp2
      go_ret
      exact ⟨rfl, x1.trans x9⟩
  · have hn : (300 : Int) < (l.length : Int) := by omega
    obtain ⟨a, c, rfl, _, _, _⟩ := rd.shape
    have q := Lib.hid (awake_any W)
    clear rd hR hb hlen
    go_enter Try.func6, Try.ntmps6
    go_wp2_with fail
    refine (q.out).mono ?_
    rintro _ w1 ⟨rfl, x1⟩
    go_wp2
    go_ret
    exact ⟨rfl, x1⟩
end Go.Proofs.Ytlphhpngbnnjgaa
