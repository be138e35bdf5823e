/- suffix: the reference's Sort. -/
import Derived.Test.YteflhfofahdckaaSufI
import Derived.Test.YteflhfofahdckaaSufK
namespace Go.Proofs.Yteflhfofahdckaa
set_option linter.unusedVariables false
set_option linter.unusedSimpArgs false
open Go.RowKit

set_option maxRecDepth 20000 in
set_option maxHeartbeats 8000000 in
theorem rsort_any (ks : List Int) (most : Int) (v : Value) (w : World) (hr : RI w v ks) (hl : (ks.length : Int) ≤ 1000) :
    Calls Try.prog 26 #[v, .int .i64 most] w fun e w' => ∃ u, e = .returned (.tuple #[u, .int .i64 (srtE ks most)]) ∧ Ext w w' ∧ RI w' u (toI (srtR ks most)) := by
  by_cases hm : 0 ≤ most ∧ most ≤ 1000000
  · obtain ⟨hm1, hm2⟩ := hm
    obtain ⟨av, cv, rfl, hlc, _, hs⟩ := hr.shape
    have HRK := Lib.hid hr
    have HS := Lib.hid hs
    have n1 : ¬ most < 0 := by omega
    have n2 : ¬ (1000000 : Int) < most := by omega
    have HM := Lib.hid (show 0 ≤ most ∧ most ≤ 1000000 from ⟨hm1, hm2⟩)
    have HL := Lib.hid (show ks.length ≤ 20000 by omega)
    clear hr hs hm1 hm2
    go_enter Try.func26, Try.ntmps26
    go_wp2
    go_loopw [6, 7] (fun v i wr => ∃ (m : Nat) (a : List Nat), i = .int .i64 (m : Int) ∧ m ≤ ks.length ∧ IsSrt ks m a ∧ (∀ j, j < m → 0 ≤ ks.getD j 0 ∧ ks.getD j 0 ≤ most) ∧ IW wr w.heap.size v (toI a) ∧ (m = 0 → v = .slice none 0 0) ∧ Ext w wr) (fun _ i _ => ks.length + 1 - (intOf i).toNat)
    case atStart => exact ⟨0, [], rfl, by omega, ⟨List.Perm.refl _, List.Pairwise.nil⟩, fun j hj => by omega, IW.nil _ _, fun _ => rfl, Ext.refl _⟩
    case round =>
      obtain ⟨m, a, rfl, hm, ha, hall, hw, hv0, hx⟩ := hrel
      have HX := Lib.hid hx
      by_cases hlt : m < ks.length
      · obtain ⟨g5, o5, rfl, hcell5⟩ := HS.out (by omega)
        have c5 := Go.cell_later hx (hcell5 m hlt)
        have mi : (m : Int) < (ks.length : Int) := by omega
        have mc : (ks.length : Int) ≤ (cv : Int) := by omega
        obtain ⟨b, c, rfl, hlc2, hsm⟩ := hw.shape
        by_cases hin : 0 ≤ ks.getD m 0 ∧ ks.getD m 0 ≤ most
        · have HST := Lib.hid (show ∀ j, j < m + 1 → 0 ≤ ks.getD j 0 ∧ ks.getD j 0 ≤ most from fun j hj => by
            rcases Nat.lt_or_ge j m with h | h
            · exact hall j h
            · have : j = m := by omega
              subst this; exact hin)
          have n3 : ¬ ks.getD m 0 < 0 := by omega
          have n4 : ¬ most < ks.getD m 0 := by omega
          have HA := Lib.hid ha
          have HW := Lib.hid hw
          have hal := ha.length
          rw [toI_length, hal] at hlc2 hsm
          rw [toI_length, hal]
          have HAL := Lib.hid hal
          rcases Nat.eq_zero_or_pos m with e0 | hm0
          · subst e0
            obtain rfl : a = [] := List.eq_nil_of_length_eq_zero hal
            have hv := hv0 rfl
            injection hv with e1 e2 e3
            subst e1
            subst e3
            have HP := Lib.hid (HA.out.put (k := 0) (by omega) (fun j hj => by omega) (fun j h1 h2 => by omega))
            clear hv0 hsm ha hw hx hal e2 hlc2 HW HAL hm hin hall hcell5
            generalize ks.getD 0 0 = y at *
            rw [show ((0 : Nat) : Int) = 0 from rfl] at *
            rw [Nat.add_zero] at c5
            go_wp2
            go_loopw [8] (fun k w2 => k = .int .i64 0 ∧ Ext wr w2) (fun _ _ => 0)
            case atStart => exact ⟨rfl, Ext.refl _⟩
            case round =>
              rename World => w2
              obtain ⟨rfl, hx2⟩ := hrel
              have HX2 := Lib.hid (HX.out.trans hx2)
              clear hx2
              go_wp2_with fail
              refine wp_region_up (by kernel_rfl) (by kernel_rfl) ?_
              repeat (go_big_quiet_step (fail))
              refine wpQuiet_nil ?_
              rintro _ ⟨y2, rfl⟩
              have HX3b := Lib.hid (HX2.out.trans y2.ext)
              generalize y2.val = w3 at *
              go_wp2_with fail
              refine wp_region_v [8, 9, 10] _ rfl (by kernel_rfl) ?_
              dsimp only [List.length_cons, List.length_nil]
              refine v_late ?_
              iterate 3
                (refine v_want (by kernel_rfl) (by kernel_rfl) (by kernel_rfl) (fun _ _ _ _ h => h) (by kernel_rfl) (by kernel_rfl) (fun K hK => ?_)
                 go_simp
                 (refine hK _ ?_; clear hK K))
              refine v_late ?_
              iterate 1
                (refine v_want (by kernel_rfl) (by kernel_rfl) (by kernel_rfl) (fun _ _ _ _ h => h) (by kernel_rfl) (by kernel_rfl) (fun K hK => ?_)
                 go_simp
                 (refine hK _ ?_; clear hK K))
              refine v_late ?_
              refine v_late ?_
              iterate 3
                (refine v_pure (by kernel_rfl) (by kernel_rfl) (by kernel_rfl) (fun _ _ _ _ h => h) (by kernel_rfl) (fun K hK => ?_)
                 go_simp
                 (refine hK _ ?_; clear hK K))
              refine v_rest ?_
              refine v_app3 (m := 1) (te := 3) (csA := #[]) (csC := #[.int .i64 (0 : Int)]) (iA := 0) (iB := 4) (iC := 6) (iD := 7) (iE := 11)
                (fun v w' => IW w' w3.heap.size v []) (fun v w' => IW w' w3.heap.size v ([] ++ [(0 : Int)])) (fun v w' => IW w' w3.heap.size v (toI [0]))
                rfl rfl rfl rfl rfl rfl rfl rfl rfl rfl (fun d h => by cases h; decide) (fun d h => by cases h; decide)
                (by kernel_rfl) (by kernel_rfl) (by kernel_rfl) (by kernel_rfl) (by kernel_rfl) (by kernel_rfl) (by kernel_rfl) (by kernel_rfl) (by kernel_rfl) (by decide) (by decide)
                (fun v w w' h hx => h.ext hx)
                (fun u => ⟨BsAt.of (vs := #[]) 33 #[] rfl rfl run_bs0, BsAt.of (vs := #[]) 33 #[] rfl rfl run_bs0⟩)
                (fun gA u a' ha w' hx hle hb => ?_)
                (fun gA v a' ha => ?_)
                (fun gA gC v w' hx h1 hb => ?_)
                (fun gA gC v1 v2 w' hx h2 => ?_)
                (fun v w w' h hx => h.ext hx)
                (fun gA gC v1 v2 v3 w' hx h3 => ?_)
              · have hle' : w3.heap.size ≤ w'.heap.size := ((Ext.refl w3).drew.trans hx).le
                obtain ⟨v', w'', p1, p2, p3⟩ := IW.app0 (B := w3.heap.size) hb hle (RI.nil _) hle' (by simp)
                refine ⟨v', w'', ?_, p3, p2⟩
                rcases ha with rfl | rfl <;> exact exec_app (.tmp 55) (.tmp 58) 33 rfl rfl rfl rfl p1
              · rcases ha with rfl | rfl | rfl <;> exact BsAt.of (vs := #[(0, .int .i64 (0 : Int))]) 33 _ rfl rfl (run_bs1i (0 : Int))
              · have hle' : w3.heap.size ≤ w'.heap.size := ((Ext.refl w3).drew.trans hx).le
                obtain ⟨v', w'', p1, p2, p3⟩ := IW.appS h1 (RI.one hb) hle' (by simp)
                exact ⟨v', w'', exec_app (.tmp 59) (.tmp 61) 33 rfl rfl rfl rfl p1, Below.trans hx (h1.below hle' p3), p2⟩
              · have hle' : w3.heap.size ≤ w'.heap.size := ((Ext.refl w3).drew.trans hx).le
                obtain ⟨v', w'', p1, p2, p3⟩ := IW.appS h2 (RI.nil _) hle' (by simp)
                refine ⟨v', w'', exec_app (.tmp 62) (.tmp 65) 33 rfl rfl rfl rfl p1, Below.trans hx (h2.below hle' p3), ?_⟩
                exact p2
              · have HX4 := Lib.hid (HX3b.out.trans ((Ext.refl w3).drew.trans hx))
                have H3 := Lib.hid h3
                have HLE := Lib.hid HX3b.out.le
                obtain ⟨a3, c3, rfl, _, _⟩ := h3.shape
                clear hx h3
                refine v_one 12 (by kernel_rfl) rfl (by kernel_rfl) fun y1 K hK => ?_
                go_simp
                refine hK _ _ (fun _ => Ext.refl _) ?_
                clear hK K
                refine v_done (by kernel_rfl) fun y3 => ?_
                have hxx := Lib.hid (HX4.out.trans (y1.ext.trans y3.ext))
                have HI := Lib.hid (H3.out.ext (y1.ext.trans y3.ext))
                generalize y3.val = W9 at *
                go_wp2
                go_roundw
                case rel => exact ⟨1, _, by go_num, by omega, HP.out, HST.out, HI.out.mono HLE.out, fun h => by omega, hxx.out⟩
                case measure => simp [intOf]
          · obtain ⟨g, rfl, hBg, hg, hcell, _⟩ := hsm hm0
            have HC5 := Lib.hid c5
            clear hv0 hsm ha hw hx hal hin hall
            generalize hyy : ks.getD m 0 = y at *
            have HYY := Lib.hid hyy
            clear hyy
            go_wp2
            go_loopw [8] (fun k w2 => ∃ j : Nat, k = .int .i64 (j : Int) ∧ j ≤ m ∧ (∀ q, j ≤ q → q < m → y < ks.getD (a.getD q 0) 0) ∧ Ext wr w2) (fun k _ => (intOf k).toNat)
            case atStart => exact ⟨m, rfl, by omega, fun q h1 h2 => by omega, Ext.refl _⟩
            case round =>
              rename World => w2
              obtain ⟨j, rfl, hj, hhi, hx2⟩ := hrel
              have HHI := Lib.hid hhi
              have HX2 := Lib.hid hx2
              have hmc : (m : Int) ≤ (c : Int) := by omega
              clear hhi hx2 c5
              have c5 := up_cell (W := w2) (Go.cell_later HX2.out HC5.out)
              by_cases j0 : 0 < j
              · obtain ⟨q, hq⟩ : ∃ q, j = q + 1 := ⟨j - 1, by omega⟩
                have hQ := HA.out.lt (i := q) (by omega)
                have cQ := Go.cell_later HX2.out (hcell q (by omega))
                have he : (toI a).getD q 0 = ((a.getD q 0 : Nat) : Int) := by rw [toI_getD]
                rw [he] at cQ
                have cQ := up_cell (W := w2) cQ
                have cK := up_cell (W := w2) (Go.cell_later (HX.out.trans HX2.out) (hcell5 (a.getD q 0) (by omega)))
                have hQ3 : (a.getD q 0 : Int) < (ks.length : Int) := by omega
                have hqm : (q : Int) < (m : Int) := by omega
                have j0i : (0 : Int) < (j : Int) := by omega
                have e1 : IntKind.i64.wrap ((j : Int) - 1) = (q : Int) := by rw [IntWalk.i64_in _ (by omega)]; omega
                have HQ := Lib.hid hq
                have HCL := Lib.hid hcell
                have HCL5 := Lib.hid hcell5
                clear hq he hcell hcell5
                generalize hQQ : a.getD q 0 = Q at *
                generalize hxx : ks.getD Q 0 = x at *
                have HQQ := Lib.hid hQQ
                have HXX := Lib.hid hxx
                clear hQQ hxx
                by_cases hc : y < x
                · have HHI2 := Lib.hid (show ∀ p, q ≤ p → p < m → y < ks.getD (a.getD p 0) 0 from fun p hp hpm => by
                    rcases Nat.lt_or_ge p j with h | h
                    · have : p = q := by have := HQ.out; omega
                      subst this
                      rw [HQQ.out, HXX.out]; exact hc
                    · exact HHI.out p h hpm)
                  clear HHI
                  go_wp2_with fail
                  refine wp_region_up (by kernel_rfl) (by kernel_rfl) ?_
                  repeat (go_big_quiet_step (fail))
                  refine wpQuiet_nil ?_
                  rintro _ ⟨y2, rfl⟩
                  have HXW := Lib.hid (HX2.out.trans y2.ext)
                  generalize y2.val = w3 at *
                  clear cQ cK c5
                  go_wp2
                  go_roundw
                  case rel => exact ⟨q, by go_num, by have := HQ.out; omega, HHI2.out, HXW.out⟩
                  case measure => have := HQ.out; simp [intOf]; omega
                · have HLO := Lib.hid (show ∀ p, p < j → ks.getD (a.getD p 0) 0 ≤ ks.getD m 0 from fun p hp => by
                    have h1 := HA.out.mono (i := p) (j := q) (by have := HQ.out; omega) (by have := HQ.out; omega)
                    rw [HQQ.out, HXX.out] at h1
                    rw [HYY.out]
                    omega)
                  rw [← HYY.out] at HHI
                  go_wp2_with fail
                  have hcd : decide (y < x) = false := decide_eq_false (by omega)
                  refine wp_region_up (by kernel_rfl) (by kernel_rfl) ?_
                  repeat (go_big_quiet_step (fail))
                  refine wpQuiet_nil ?_
                  rintro _ ⟨y2, rfl⟩
                  have HXW := Lib.hid (HX2.out.trans y2.ext)
                  have HX3b := Lib.hid (HX.out.trans HXW.out)
                  generalize y2.val = w3 at *
                  clear cQ cK c5
                  have HP := Lib.hid (HA.out.put (k := j) hj HLO.out HHI.out)
                  have HR := HW.out.ri.ext HXW.out
                  rw [toI_length, HAL.out] at HR
                  have HRI := Lib.hid (RI.take HR j (by rw [toI_length, HAL.out]; exact hj))
                  have HR2 : RI w3 (.slice (if c = j then some ⟨g, 0, none⟩ else some ⟨g, j, none⟩) (m - j) (c - j)) ((toI a).drop j) := by
                    have := RR.drop HR j (by rw [toI_length, HAL.out]; exact hj) (if c = j then some ⟨g, 0, none⟩ else some ⟨g, j, none⟩) (fun g' o' e hlt => by
                      injection e with e; injection e with e1 e2; subst e1; subst e2
                      rw [if_neg (by omega), Nat.mul_one, Nat.zero_add]) (fun e => by split at e <;> cases e)
                    rw [toI_length, HAL.out] at this
                    exact this
                  have HRJ := Lib.hid HR2
                  have hl1 : (((toI a).take j).length : Int) + 1 ≤ 1000000000 := by have := HAL.out; have := HL.out; rw [List.length_take, toI_length]; omega
                  have hl2 : (((toI a).take j ++ [(m : Int)]).length : Int) + (((toI a).drop j).length : Int) ≤ 1000000000 := by have := HAL.out; have := HL.out; rw [List.length_append, List.length_take, List.length_drop, List.length_singleton, toI_length]; omega
                  have HL1 := Lib.hid hl1
                  have HL2 := Lib.hid hl2
                  clear HR HR2 hl1 hl2
                  have k4 : (j : Int) ≤ (c : Int) := by omega
                  have k5 : (j : Int) ≤ (m : Int) := by omega
                  have k6 : (m : Int) ≤ (c : Int) := by omega
                  clear e1 hqm hQ3 j0i hc hQ HQ HCL HCL5 HQQ HXX j0
                  go_wp2_with fail
                  refine wp_region_v [8, 9, 10] _ rfl (by kernel_rfl) ?_
                  dsimp only [List.length_cons, List.length_nil]
                  refine v_late ?_
                  iterate 3
                    (refine v_want (by kernel_rfl) (by kernel_rfl) (by kernel_rfl) (fun _ _ _ _ h => h) (by kernel_rfl) (by kernel_rfl) (fun K hK => ?_)
                     go_simp
                     (refine hK _ ?_; clear hK K))
                  refine v_late ?_
                  iterate 1
                    (refine v_want (by kernel_rfl) (by kernel_rfl) (by kernel_rfl) (fun _ _ _ _ h => h) (by kernel_rfl) (by kernel_rfl) (fun K hK => ?_)
                     go_simp
                     (refine hK _ ?_; clear hK K))
                  refine v_late ?_
                  refine v_late ?_
                  iterate 3
                    (refine v_pure (by kernel_rfl) (by kernel_rfl) (by kernel_rfl) (fun _ _ _ _ h => h) (by kernel_rfl) (fun K hK => ?_)
                     go_simp
                     (refine hK _ ?_; clear hK K))
                  refine v_rest ?_
                  refine v_app3 (m := 1) (te := 3) (csA := #[]) (csC := #[.int .i64 (m : Int)]) (iA := 0) (iB := 4) (iC := 6) (iD := 7) (iE := 11)
                    (fun v w' => IW w' w3.heap.size v ((toI a).take j)) (fun v w' => IW w' w3.heap.size v ((toI a).take j ++ [(m : Int)])) (fun v w' => IW w' w3.heap.size v (toI (a.take j ++ m :: a.drop j)))
                    rfl rfl rfl rfl rfl rfl rfl rfl rfl rfl (fun d h => by cases h; decide) (fun d h => by cases h; decide)
                    (by kernel_rfl) (by kernel_rfl) (by kernel_rfl) (by kernel_rfl) (by kernel_rfl) (by kernel_rfl) (by kernel_rfl) (by kernel_rfl) (by kernel_rfl) (by decide) (by decide)
                    (fun v w w' h hx => h.ext hx)
                    (fun u => ⟨BsAt.of (vs := #[]) 33 #[] rfl rfl run_bs0, BsAt.of (vs := #[]) 33 #[] rfl rfl run_bs0⟩)
                    (fun gA u a' ha w' hx hle hb => ?_)
                    (fun gA v a' ha => ?_)
                    (fun gA gC v w' hx h1 hb => ?_)
                    (fun gA gC v1 v2 w' hx h2 => ?_)
                    (fun v w w' h hx => h.ext hx)
                    (fun gA gC v1 v2 v3 w' hx h3 => ?_)
                  · have hle' : w3.heap.size ≤ w'.heap.size := ((Ext.refl w3).drew.trans hx).le
                    obtain ⟨v', w'', p1, p2, p3⟩ := IW.app0 (B := w3.heap.size) hb hle (HRI.out.ext ((Ext.refl _).drew.trans hx)) hle' (by have := HL1.out; omega)
                    refine ⟨v', w'', ?_, p3, p2⟩
                    rcases ha with rfl | rfl <;> exact exec_app (.tmp 55) (.tmp 58) 33 rfl rfl rfl rfl p1
                  · rcases ha with rfl | rfl | rfl <;> exact BsAt.of (vs := #[(0, .int .i64 (m : Int))]) 33 _ rfl rfl (run_bs1i (m : Int))
                  · have hle' : w3.heap.size ≤ w'.heap.size := ((Ext.refl w3).drew.trans hx).le
                    obtain ⟨v', w'', p1, p2, p3⟩ := IW.appS h1 (RI.one hb) hle' HL1.out
                    exact ⟨v', w'', exec_app (.tmp 59) (.tmp 61) 33 rfl rfl rfl rfl p1, Below.trans hx (h1.below hle' p3), p2⟩
                  · have hle' : w3.heap.size ≤ w'.heap.size := ((Ext.refl w3).drew.trans hx).le
                    obtain ⟨v', w'', p1, p2, p3⟩ := IW.appS h2 (HRJ.out.ext ((Ext.refl _).drew.trans hx)) hle' HL2.out
                    refine ⟨v', w'', exec_app (.tmp 62) (.tmp 65) 33 rfl rfl rfl rfl p1, Below.trans hx (h2.below hle' p3), ?_⟩
                    rw [List.append_assoc, List.singleton_append, toI_put] at p2
                    exact p2
                  · have HX4 := Lib.hid (HX3b.out.trans ((Ext.refl w3).drew.trans hx))
                    have H3 := Lib.hid h3
                    have HLE := Lib.hid HX3b.out.le
                    obtain ⟨a3, c3, rfl, _, _⟩ := h3.shape
                    clear hx h3 HRI HRJ HL1 HL2
                    refine v_one 12 (by kernel_rfl) rfl (by kernel_rfl) fun y1 K hK => ?_
                    go_simp
                    refine hK _ _ (fun _ => Ext.refl _) ?_
                    clear hK K
                    refine v_done (by kernel_rfl) fun y3 => ?_
                    have hxx := Lib.hid (HX4.out.trans (y1.ext.trans y3.ext))
                    have HI := Lib.hid (H3.out.ext (y1.ext.trans y3.ext))
                    generalize y3.val = W9 at *
                    go_wp2
                    go_roundw
                    case rel => exact ⟨m + 1, _, by go_num, by omega, HP.out, HST.out, HI.out.mono HLE.out, fun h => by omega, hxx.out⟩
                    case measure => simp [intOf]; omega
              · have HLO := Lib.hid (show ∀ p, p < j → ks.getD (a.getD p 0) 0 ≤ ks.getD m 0 from fun p hp => by omega)
                rw [← HYY.out] at HHI
                have j1 : ¬ (0 : Int) < (j : Int) := by omega
                go_wp2_with fail
                have j1 : ¬ (0 : Int) < (j : Int) := by omega
                refine wp_region_up (by kernel_rfl) (by kernel_rfl) ?_
                repeat (go_big_quiet_step (fail))
                refine wpQuiet_nil ?_
                rintro _ ⟨y2, rfl⟩
                have HXW := Lib.hid (HX2.out.trans y2.ext)
                have HX3b := Lib.hid (HX.out.trans HXW.out)
                generalize y2.val = w3 at *
                clear c5 hcell hcell5
                have HP := Lib.hid (HA.out.put (k := j) hj HLO.out HHI.out)
                have HR := HW.out.ri.ext HXW.out
                rw [toI_length, HAL.out] at HR
                have HRI := Lib.hid (RI.take HR j (by rw [toI_length, HAL.out]; exact hj))
                have HR2 : RI w3 (.slice (if c = j then some ⟨g, 0, none⟩ else some ⟨g, j, none⟩) (m - j) (c - j)) ((toI a).drop j) := by
                  have := RR.drop HR j (by rw [toI_length, HAL.out]; exact hj) (if c = j then some ⟨g, 0, none⟩ else some ⟨g, j, none⟩) (fun g' o' e hlt => by
                    injection e with e; injection e with e1 e2; subst e1; subst e2
                    rw [if_neg (by omega), Nat.mul_one, Nat.zero_add]) (fun e => by split at e <;> cases e)
                  rw [toI_length, HAL.out] at this
                  exact this
                have HRJ := Lib.hid HR2
                have hl1 : (((toI a).take j).length : Int) + 1 ≤ 1000000000 := by have := HAL.out; have := HL.out; rw [List.length_take, toI_length]; omega
                have hl2 : (((toI a).take j ++ [(m : Int)]).length : Int) + (((toI a).drop j).length : Int) ≤ 1000000000 := by have := HAL.out; have := HL.out; rw [List.length_append, List.length_take, List.length_drop, List.length_singleton, toI_length]; omega
                have HL1 := Lib.hid hl1
                have HL2 := Lib.hid hl2
                clear HR HR2 hl1 hl2
                have k4 : (j : Int) ≤ (c : Int) := by omega
                have k5 : (j : Int) ≤ (m : Int) := by omega
                have k6 : (m : Int) ≤ (c : Int) := by omega
                go_wp2_with fail
                refine wp_region_v [8, 9, 10] _ rfl (by kernel_rfl) ?_
                dsimp only [List.length_cons, List.length_nil]
                refine v_late ?_
                iterate 3
                  (refine v_want (by kernel_rfl) (by kernel_rfl) (by kernel_rfl) (fun _ _ _ _ h => h) (by kernel_rfl) (by kernel_rfl) (fun K hK => ?_)
                   go_simp
                   (refine hK _ ?_; clear hK K))
                refine v_late ?_
                iterate 1
                  (refine v_want (by kernel_rfl) (by kernel_rfl) (by kernel_rfl) (fun _ _ _ _ h => h) (by kernel_rfl) (by kernel_rfl) (fun K hK => ?_)
                   go_simp
                   (refine hK _ ?_; clear hK K))
                refine v_late ?_
                refine v_late ?_
                iterate 3
                  (refine v_pure (by kernel_rfl) (by kernel_rfl) (by kernel_rfl) (fun _ _ _ _ h => h) (by kernel_rfl) (fun K hK => ?_)
                   go_simp
                   (refine hK _ ?_; clear hK K))
                refine v_rest ?_
                refine v_app3 (m := 1) (te := 3) (csA := #[]) (csC := #[.int .i64 (m : Int)]) (iA := 0) (iB := 4) (iC := 6) (iD := 7) (iE := 11)
                  (fun v w' => IW w' w3.heap.size v ((toI a).take j)) (fun v w' => IW w' w3.heap.size v ((toI a).take j ++ [(m : Int)])) (fun v w' => IW w' w3.heap.size v (toI (a.take j ++ m :: a.drop j)))
                  rfl rfl rfl rfl rfl rfl rfl rfl rfl rfl (fun d h => by cases h; decide) (fun d h => by cases h; decide)
                  (by kernel_rfl) (by kernel_rfl) (by kernel_rfl) (by kernel_rfl) (by kernel_rfl) (by kernel_rfl) (by kernel_rfl) (by kernel_rfl) (by kernel_rfl) (by decide) (by decide)
                  (fun v w w' h hx => h.ext hx)
                  (fun u => ⟨BsAt.of (vs := #[]) 33 #[] rfl rfl run_bs0, BsAt.of (vs := #[]) 33 #[] rfl rfl run_bs0⟩)
                  (fun gA u a' ha w' hx hle hb => ?_)
                  (fun gA v a' ha => ?_)
                  (fun gA gC v w' hx h1 hb => ?_)
                  (fun gA gC v1 v2 w' hx h2 => ?_)
                  (fun v w w' h hx => h.ext hx)
                  (fun gA gC v1 v2 v3 w' hx h3 => ?_)
                · have hle' : w3.heap.size ≤ w'.heap.size := ((Ext.refl w3).drew.trans hx).le
                  obtain ⟨v', w'', p1, p2, p3⟩ := IW.app0 (B := w3.heap.size) hb hle (HRI.out.ext ((Ext.refl _).drew.trans hx)) hle' (by have := HL1.out; omega)
                  refine ⟨v', w'', ?_, p3, p2⟩
                  rcases ha with rfl | rfl <;> exact exec_app (.tmp 55) (.tmp 58) 33 rfl rfl rfl rfl p1
                · rcases ha with rfl | rfl | rfl <;> exact BsAt.of (vs := #[(0, .int .i64 (m : Int))]) 33 _ rfl rfl (run_bs1i (m : Int))
                · have hle' : w3.heap.size ≤ w'.heap.size := ((Ext.refl w3).drew.trans hx).le
                  obtain ⟨v', w'', p1, p2, p3⟩ := IW.appS h1 (RI.one hb) hle' HL1.out
                  exact ⟨v', w'', exec_app (.tmp 59) (.tmp 61) 33 rfl rfl rfl rfl p1, Below.trans hx (h1.below hle' p3), p2⟩
                · have hle' : w3.heap.size ≤ w'.heap.size := ((Ext.refl w3).drew.trans hx).le
                  obtain ⟨v', w'', p1, p2, p3⟩ := IW.appS h2 (HRJ.out.ext ((Ext.refl _).drew.trans hx)) hle' HL2.out
                  refine ⟨v', w'', exec_app (.tmp 62) (.tmp 65) 33 rfl rfl rfl rfl p1, Below.trans hx (h2.below hle' p3), ?_⟩
                  rw [List.append_assoc, List.singleton_append, toI_put] at p2
                  exact p2
                · have HX4 := Lib.hid (HX3b.out.trans ((Ext.refl w3).drew.trans hx))
                  have H3 := Lib.hid h3
                  have HLE := Lib.hid HX3b.out.le
                  obtain ⟨a3, c3, rfl, _, _⟩ := h3.shape
                  clear hx h3 HRI HRJ HL1 HL2
                  refine v_one 12 (by kernel_rfl) rfl (by kernel_rfl) fun y1 K hK => ?_
                  go_simp
                  refine hK _ _ (fun _ => Ext.refl _) ?_
                  clear hK K
                  refine v_done (by kernel_rfl) fun y3 => ?_
                  have hxx := Lib.hid (HX4.out.trans (y1.ext.trans y3.ext))
                  have HI := Lib.hid (H3.out.ext (y1.ext.trans y3.ext))
                  generalize y3.val = W9 at *
                  go_wp2
                  go_roundw
                  case rel => exact ⟨m + 1, _, by go_num, by omega, HP.out, HST.out, HI.out.mono HLE.out, fun h => by omega, hxx.out⟩
                  case measure => simp [intOf]; omega
        · have HF := Lib.hid (okKeys_false (ks := ks) (most := most) (fun h => hin (key_in h.2.2 hlt)))
          have n5 : ks.getD m 0 < 0 ∨ (¬ ks.getD m 0 < 0 ∧ most < ks.getD m 0) := by omega
          clear hw hv0 ha hall hx hsm hcell5 hin
          generalize ks.getD m 0 = y at *
          rcases n5 with h1 | ⟨h1, h2⟩
          all_goals
            (go_wp2
             go_ret2
             exact ⟨_, by unfold srtE; rw [HF.out]; rfl, HX.out, by unfold srtR; rw [HF.out]; exact RI.nil _⟩)
      · have e : m = ks.length := by omega
        subst e
        have hall2 : ∀ x ∈ ks, 0 ≤ x ∧ x ≤ most := fun x hx => by
          obtain ⟨i, hi, rfl⟩ := mem_getD hx
          exact hall i hi
        have HT := Lib.hid (show okKeys ks most = true from decide_eq_true ⟨HM.out.1, HM.out.2, hall2⟩)
        have HE := Lib.hid (ha.eq hall2)
        have HW := Lib.hid hw.ri
        obtain ⟨b, c, rfl, hlc2, hsm⟩ := hw.shape
        clear hall hx hall2 hw hv0 ha hsm hlc2
        go_wp2
        go_ret2
        exact ⟨_, by unfold srtE; rw [HT.out]; rfl, HX.out, by unfold srtR; rw [HT.out]; exact HE.out ▸ HW.out⟩
  · have HF := Lib.hid (okKeys_false (ks := ks) (most := most) (fun h => hm ⟨h.1, h.2.1⟩))
    obtain ⟨a, c, rfl, hlc, _, hs⟩ := hr.shape
    clear hr hs
    rcases (show most < 0 ∨ (¬ most < 0 ∧ (1000000 : Int) < most) by omega) with h1 | ⟨h1, h2⟩
    all_goals
      (clear hm
       go_enter Try.func26, Try.ntmps26
       go_wp2
       go_ret2
       exact ⟨_, by unfold srtE; rw [HF.out]; rfl, Ext.refl _, by unfold srtR; rw [HF.out]; exact RI.nil _⟩)
end Go.Proofs.Yteflhfofahdckaa
