/- suffix: the reference's Array. -/
import Derived.Test.YteflhfofahdckaaSufH
import Derived.Test.YteflhfofahdckaaApp3
namespace Go.Proofs.Yteflhfofahdckaa
set_option linter.unusedVariables false
set_option linter.unusedSimpArgs false
open Go.RowKit
attribute [local go_sem] S_size S_extract S_toList

/-- where m is put in, by halves -/
theorem toI_take (l : List Nat) (k : Nat) : (toI l).take k = toI (l.take k) := by unfold toI; rw [List.map_take]
theorem toI_drop (l : List Nat) (k : Nat) : (toI l).drop k = toI (l.drop k) := by unfold toI; rw [List.map_drop]
theorem toI_put (l : List Nat) (k m : Nat) : (toI l).take k ++ (m : Int) :: (toI l).drop k = toI (l.take k ++ m :: l.drop k) := by
  rw [toI_take, toI_drop]; unfold toI; rw [List.map_append]; rfl

set_option maxRecDepth 20000 in
set_option maxHeartbeats 4000000 in
theorem rarray_big (s : List UInt8) (w : World) (hs : ¬ s.length ≤ 20000) : Calls Try.prog 24 #[.string (S s)] w fun e w' => e = .returned (.tuple #[.slice none 0 0, .int .i64 3]) ∧ Ext w w' := by
  have hh : (20000 : Int) < (s.length : Int) := by omega
  clear hs
  go_enter Try.func24, Try.ntmps24
  go_wp2
  go_ret2
  exact ⟨rfl, Ext.refl _⟩

set_option maxRecDepth 20000 in
set_option maxHeartbeats 8000000 in
theorem rarray_any (s : List UInt8) (w : World) (hs : s.length ≤ 20000) : Calls Try.prog 24 #[.string (S s)] w fun e w' => ∃ v, e = .returned (.tuple #[v, .int .i64 0]) ∧ Ext w w' ∧ IW w' w.heap.size v (toI (arrayL s)) := by
  have hh : ¬ (20000 : Int) < (s.length : Int) := by omega
  have HL := Lib.hid hs
  clear hs
  go_enter Try.func24, Try.ntmps24
  go_wp2
  go_loopw [4, 5] (fun v i wr => ∃ (m : Nat) (a : List Nat), i = .int .i64 (m : Int) ∧ m ≤ s.length + 1 ∧ IsArr s m a ∧ IW wr w.heap.size v (toI a) ∧ (m = 0 → v = .slice none 0 0) ∧ Ext w wr) (fun _ i _ => s.length + 2 - (intOf i).toNat)
  case atStart => exact ⟨0, [], rfl, by omega, ⟨List.Perm.refl _, List.Pairwise.nil⟩, IW.nil _ _, fun _ => rfl, Ext.refl _⟩
  case round =>
    obtain ⟨m, a, rfl, hm, ha, hw, hv0, hx⟩ := hrel
    by_cases hlt : m ≤ s.length
    · have HA := Lib.hid ha
      have HX := Lib.hid hx
      have HW := Lib.hid hw
      have hal := ha.length
      obtain ⟨b, c, rfl, hlc, hsm⟩ := hw.shape
      rw [toI_length, hal] at hlc hsm
      rw [toI_length, hal]
      have HAL := Lib.hid hal
      rcases Nat.eq_zero_or_pos m with e0 | hm0
      · subst e0
        obtain rfl : a = [] := List.eq_nil_of_length_eq_zero hal
        have hv := hv0 rfl
        injection hv with e1 e2 e3
        subst e1
        subst e3
        have HP := Lib.hid (HA.out.put (k := 0) (by omega) (by simp) (fun j hj => by omega) (fun j h1 h2 => by simp at h2))
        clear hv0 hsm ha hw hx hal e2 hlc HW HAL hm hlt
        have k1 : (0 : Int) ≤ (s.length : Int) := by omega
        go_wp2
        go_loopw [6, 7] (fun lo hi w2 => lo = .int .i64 0 ∧ hi = .int .i64 0 ∧ Ext wr w2) (fun _ _ _ => 0)
        case atStart => exact ⟨rfl, rfl, Ext.refl _⟩
        case round =>
          rename World => w2
          obtain ⟨rfl, rfl, hx2⟩ := hrel
          have HX2 := Lib.hid (HX.out.trans hx2)
          clear hx2
          go_wp2_with fail
          refine wp_region_v [8, 9, 10] _ rfl (by kernel_rfl) ?_
          dsimp only [List.length_cons, List.length_nil]
          refine v_late ?_
          iterate 3
            (refine v_want (by kernel_rfl) (by kernel_rfl) (by kernel_rfl) (fun _ _ _ _ h => h) (by kernel_rfl) (by kernel_rfl) (fun K hK => ?_)
             go_simp
             (refine hK _ ?_; clear hK K))
          refine v_late ?_
          iterate 1
            (refine v_want (by kernel_rfl) (by kernel_rfl) (by kernel_rfl) (fun _ _ _ _ h => h) (by kernel_rfl) (by kernel_rfl) (fun K hK => ?_)
             go_simp
             (refine hK _ ?_; clear hK K))
          refine v_late ?_
          refine v_late ?_
          iterate 3
            (refine v_pure (by kernel_rfl) (by kernel_rfl) (by kernel_rfl) (fun _ _ _ _ h => h) (by kernel_rfl) (fun K hK => ?_)
             go_simp
             (refine hK _ ?_; clear hK K))
          refine v_rest ?_
          refine v_app3 (m := 1) (te := 3) (csA := #[]) (csC := #[.int .i64 (0 : Int)]) (iA := 0) (iB := 4) (iC := 6) (iD := 7) (iE := 11)
            (fun v w' => IW w' w2.heap.size v []) (fun v w' => IW w' w2.heap.size v ([] ++ [(0 : Int)])) (fun v w' => IW w' w2.heap.size v (toI [0]))
            rfl rfl rfl rfl rfl rfl rfl rfl rfl rfl (fun d h => by cases h; decide) (fun d h => by cases h; decide)
            (by kernel_rfl) (by kernel_rfl) (by kernel_rfl) (by kernel_rfl) (by kernel_rfl) (by kernel_rfl) (by kernel_rfl) (by kernel_rfl) (by kernel_rfl) (by decide) (by decide)
            (fun v w w' h hx => h.ext hx)
            (fun u => ⟨BsAt.of (vs := #[]) 33 #[] rfl rfl run_bs0, BsAt.of (vs := #[]) 33 #[] rfl rfl run_bs0⟩)
            (fun gA u a' ha w' hx hle hb => ?_)
            (fun gA v a' ha => ?_)
            (fun gA gC v w' hx h1 hb => ?_)
            (fun gA gC v1 v2 w' hx h2 => ?_)
            (fun v w w' h hx => h.ext hx)
            (fun gA gC v1 v2 v3 w' hx h3 => ?_)
          · have hle' : w2.heap.size ≤ w'.heap.size := ((Ext.refl w2).drew.trans hx).le
            obtain ⟨v', w'', p1, p2, p3⟩ := IW.app0 (B := w2.heap.size) hb hle (RI.nil _) hle' (by simp)
            refine ⟨v', w'', ?_, p3, p2⟩
            rcases ha with rfl | rfl <;> exact exec_app (.tmp 40) (.tmp 43) 33 rfl rfl rfl rfl p1
          · rcases ha with rfl | rfl | rfl <;> exact BsAt.of (vs := #[(0, .int .i64 (0 : Int))]) 33 _ rfl rfl (run_bs1i (0 : Int))
          · have hle' : w2.heap.size ≤ w'.heap.size := ((Ext.refl w2).drew.trans hx).le
            obtain ⟨v', w'', p1, p2, p3⟩ := IW.appS h1 (RI.one hb) hle' (by simp)
            exact ⟨v', w'', exec_app (.tmp 44) (.tmp 46) 33 rfl rfl rfl rfl p1, Below.trans hx (h1.below hle' p3), p2⟩
          · have hle' : w2.heap.size ≤ w'.heap.size := ((Ext.refl w2).drew.trans hx).le
            obtain ⟨v', w'', p1, p2, p3⟩ := IW.appS h2 (RI.nil _) hle' (by simp)
            refine ⟨v', w'', exec_app (.tmp 47) (.tmp 50) 33 rfl rfl rfl rfl p1, Below.trans hx (h2.below hle' p3), ?_⟩
            exact p2
          · have HX3 := Lib.hid (HX2.out.trans ((Ext.refl w2).drew.trans hx))
            have H3 := Lib.hid h3
            have HLE := Lib.hid HX2.out.le
            obtain ⟨a3, c3, rfl, _, _⟩ := h3.shape
            clear hx h3
            refine v_one 12 (by kernel_rfl) rfl (by kernel_rfl) fun y1 K hK => ?_
            go_simp
            refine hK _ _ (fun _ => Ext.refl _) ?_
            clear hK K
            refine v_done (by kernel_rfl) fun y3 => ?_
            have hxx := Lib.hid (HX3.out.trans (y1.ext.trans y3.ext))
            have HI := Lib.hid (H3.out.ext (y1.ext.trans y3.ext))
            generalize y3.val = W9 at *
            go_wp2
            go_roundw
            case rel => exact ⟨1, _, by go_num, by omega, HP.out, HI.out.mono HLE.out, fun h => by omega, hxx.out⟩
            case measure => simp [intOf]
      · obtain ⟨g, rfl, hBg, hg, hcell, _⟩ := hsm hm0
        clear hv0 hsm ha hw hx hal
        have k1 : (m : Int) ≤ (s.length : Int) := by omega
        go_wp2
        go_loopw [6, 7] (fun lo hi w2 => ∃ i j : Nat, lo = .int .i64 (i : Int) ∧ hi = .int .i64 (j : Int) ∧ i ≤ j ∧ j ≤ m ∧ (∀ q, q < i → lessE s (a.getD q 0) m = true) ∧ (∀ q, j ≤ q → q < m → lessE s (a.getD q 0) m = false) ∧ Ext wr w2) (fun lo hi _ => (intOf hi).toNat - (intOf lo).toNat)
        case atStart => exact ⟨0, m, rfl, rfl, by omega, by omega, fun q hq => by omega, fun q h1 h2 => by omega, Ext.refl _⟩
        case round =>
          rename World => w2
          obtain ⟨i, j, rfl, rfl, hij, hj, hlo, hhi, hx2⟩ := hrel
          by_cases hd : i < j
          · have HLO := Lib.hid hlo
            have HHI := Lib.hid hhi
            have HX2 := Lib.hid hx2
            clear hlo hhi hx2
            obtain ⟨q, hq⟩ : ∃ q, q = (i + j) / 2 := ⟨_, rfl⟩
            have hq1 : i ≤ q := by omega
            have hq2 : q < j := by omega
            have hQ := HA.out.lt (i := q) (by omega)
            have cQ := cell_later HX2.out (hcell q (by omega))
            have he : (toI a).getD q 0 = ((a.getD q 0 : Nat) : Int) := by rw [toI_getD]
            rw [he] at cQ
            have hqi : ((i : Int) + (j : Int)) / 2 = (q : Int) := by omega
            have HQ3 := Lib.hid hQ
            go_wp2_with fail
            rw [hqi]
            clear hqi he hq
            generalize hQQ : a.getD q 0 = Q at *
            have HQQ := Lib.hid hQQ
            clear hQQ
            have k2 : (Q : Int) ≤ (s.length : Int) := by omega
            have k3 : (q : Int) < (m : Int) := by omega
            go_region
            rw [show Op.bytesLess (s.drop Q) (s.drop m) = lessE s Q m from rfl]
            have HX3 := Lib.hid HX2.out.drew
            clear cQ HX2
            cases hb : lessE s Q m with
            | true =>
              have HLO2 := Lib.hid (show ∀ p, p < q + 1 → lessE s (a.getD p 0) m = true from fun p hp => by
                rcases Nat.lt_or_ge p q with h | h
                · exact lessE_trans (HA.out.less h (by omega)) (by rw [HQQ.out]; exact hb)
                · have : p = q := by omega
                  subst this
                  rw [HQQ.out]; exact hb)
              clear hb HLO
              go_wp2
              go_roundw
              case rel => exact ⟨q + 1, j, by go_num, rfl, by omega, by omega, HLO2.out, HHI.out, HX3.out⟩
              case measure => simp [intOf]; omega
            | false =>
              have HHI2 := Lib.hid (show ∀ p, q ≤ p → p < m → lessE s (a.getD p 0) m = false from fun p hp hpm => by
                rcases Nat.lt_or_ge q p with h | h
                · have h1 := HA.out.less h hpm
                  cases h2 : lessE s (a.getD p 0) m with
                  | false => rfl
                  | true =>
                    have := lessE_trans h1 h2
                    rw [HQQ.out, hb] at this
                    exact this.symm
                · have : p = q := by omega
                  subst this
                  rw [HQQ.out]; exact hb)
              clear hb HHI
              go_wp2
              go_roundw
              case rel => exact ⟨i, q, rfl, rfl, by omega, by omega, HLO.out, HHI2.out, HX3.out⟩
              case measure => simp [intOf]; omega
          · have e : i = j := by omega
            subst e
            have HP := Lib.hid (HA.out.put (k := i) (by omega) (by rw [HAL.out]; exact hj) hlo (fun q h1 h2 => hhi q h1 (by have := HAL.out; omega)))
            have HX2 := Lib.hid (HX.out.trans hx2)
            have HR := HW.out.ri.ext hx2
            rw [toI_length, HAL.out] at HR
            have HRI := Lib.hid (RI.take HR i (by rw [toI_length, HAL.out]; exact hj))
            have HR2 : RI w2 (.slice (if c = i then some ⟨g, 0, none⟩ else some ⟨g, i, none⟩) (m - i) (c - i)) ((toI a).drop i) := by
              have := RR.drop HR i (by rw [toI_length, HAL.out]; exact hj) (if c = i then some ⟨g, 0, none⟩ else some ⟨g, i, none⟩) (fun g' o' e hlt => by
                injection e with e; injection e with e1 e2; subst e1; subst e2
                rw [if_neg (by omega), Nat.mul_one, Nat.zero_add]) (fun e => by split at e <;> cases e)
              rw [toI_length, HAL.out] at this
              exact this
            have HRJ := Lib.hid HR2
            have hl1 : (((toI a).take i).length : Int) + 1 ≤ 1000000000 := by have := HAL.out; have := HL.out; rw [List.length_take, toI_length]; omega
            have hl2 : (((toI a).take i ++ [(m : Int)]).length : Int) + (((toI a).drop i).length : Int) ≤ 1000000000 := by have := HAL.out; have := HL.out; rw [List.length_append, List.length_take, List.length_drop, List.length_singleton, toI_length]; omega
            have HL1 := Lib.hid hl1
            have HL2 := Lib.hid hl2
            clear hlo hhi hx2 HR HR2 hl1 hl2
            have k4 : (i : Int) ≤ (c : Int) := by omega
            have k5 : (i : Int) ≤ (m : Int) := by omega
            have k6 : (m : Int) ≤ (c : Int) := by omega
            go_wp2_with fail
            refine wp_region_v [8, 9, 10] _ rfl (by kernel_rfl) ?_
            dsimp only [List.length_cons, List.length_nil]
            refine v_late ?_
            iterate 3
              (refine v_want (by kernel_rfl) (by kernel_rfl) (by kernel_rfl) (fun _ _ _ _ h => h) (by kernel_rfl) (by kernel_rfl) (fun K hK => ?_)
               go_simp
               (refine hK _ ?_; clear hK K))
            refine v_late ?_
            iterate 1
              (refine v_want (by kernel_rfl) (by kernel_rfl) (by kernel_rfl) (fun _ _ _ _ h => h) (by kernel_rfl) (by kernel_rfl) (fun K hK => ?_)
               go_simp
               (refine hK _ ?_; clear hK K))
            refine v_late ?_
            refine v_late ?_
            iterate 3
              (refine v_pure (by kernel_rfl) (by kernel_rfl) (by kernel_rfl) (fun _ _ _ _ h => h) (by kernel_rfl) (fun K hK => ?_)
               go_simp
               (refine hK _ ?_; clear hK K))
            refine v_rest ?_
            refine v_app3 (m := 1) (te := 3) (csA := #[]) (csC := #[.int .i64 (m : Int)]) (iA := 0) (iB := 4) (iC := 6) (iD := 7) (iE := 11)
              (fun v w' => IW w' w2.heap.size v ((toI a).take i)) (fun v w' => IW w' w2.heap.size v ((toI a).take i ++ [(m : Int)])) (fun v w' => IW w' w2.heap.size v (toI (a.take i ++ m :: a.drop i)))
              rfl rfl rfl rfl rfl rfl rfl rfl rfl rfl (fun d h => by cases h; decide) (fun d h => by cases h; decide)
              (by kernel_rfl) (by kernel_rfl) (by kernel_rfl) (by kernel_rfl) (by kernel_rfl) (by kernel_rfl) (by kernel_rfl) (by kernel_rfl) (by kernel_rfl) (by decide) (by decide)
              (fun v w w' h hx => h.ext hx)
              (fun u => ⟨BsAt.of (vs := #[]) 33 #[] rfl rfl run_bs0, BsAt.of (vs := #[]) 33 #[] rfl rfl run_bs0⟩)
              (fun gA u a' ha w' hx hle hb => ?_)
              (fun gA v a' ha => ?_)
              (fun gA gC v w' hx h1 hb => ?_)
              (fun gA gC v1 v2 w' hx h2 => ?_)
              (fun v w w' h hx => h.ext hx)
              (fun gA gC v1 v2 v3 w' hx h3 => ?_)
            · have hle' : w2.heap.size ≤ w'.heap.size := ((Ext.refl w2).drew.trans hx).le
              obtain ⟨v', w'', p1, p2, p3⟩ := IW.app0 (B := w2.heap.size) hb hle (HRI.out.ext ((Ext.refl _).drew.trans hx)) hle' (by have := HL1.out; omega)
              refine ⟨v', w'', ?_, p3, p2⟩
              rcases ha with rfl | rfl <;> exact exec_app (.tmp 40) (.tmp 43) 33 rfl rfl rfl rfl p1
            · rcases ha with rfl | rfl | rfl <;> exact BsAt.of (vs := #[(0, .int .i64 (m : Int))]) 33 _ rfl rfl (run_bs1i (m : Int))
            · have hle' : w2.heap.size ≤ w'.heap.size := ((Ext.refl w2).drew.trans hx).le
              obtain ⟨v', w'', p1, p2, p3⟩ := IW.appS h1 (RI.one hb) hle' HL1.out
              exact ⟨v', w'', exec_app (.tmp 44) (.tmp 46) 33 rfl rfl rfl rfl p1, Below.trans hx (h1.below hle' p3), p2⟩
            · have hle' : w2.heap.size ≤ w'.heap.size := ((Ext.refl w2).drew.trans hx).le
              obtain ⟨v', w'', p1, p2, p3⟩ := IW.appS h2 (HRJ.out.ext ((Ext.refl _).drew.trans hx)) hle' HL2.out
              refine ⟨v', w'', exec_app (.tmp 47) (.tmp 50) 33 rfl rfl rfl rfl p1, Below.trans hx (h2.below hle' p3), ?_⟩
              rw [List.append_assoc, List.singleton_append, toI_put] at p2
              exact p2
            · have HX3 := Lib.hid (HX2.out.trans ((Ext.refl w2).drew.trans hx))
              have H3 := Lib.hid h3
              have HLE := Lib.hid HX2.out.le
              obtain ⟨a3, c3, rfl, _, _⟩ := h3.shape
              clear hx h3 HRI HRJ HL1 HL2
              refine v_one 12 (by kernel_rfl) rfl (by kernel_rfl) fun y1 K hK => ?_
              go_simp
              refine hK _ _ (fun _ => Ext.refl _) ?_
              clear hK K
              refine v_done (by kernel_rfl) fun y3 => ?_
              have hxx := Lib.hid (HX3.out.trans (y1.ext.trans y3.ext))
              have HI := Lib.hid (H3.out.ext (y1.ext.trans y3.ext))
              generalize y3.val = W9 at *
              go_wp2
              go_roundw
              case rel => exact ⟨m + 1, _, by go_num, by omega, HP.out, HI.out.mono HLE.out, fun h => by omega, hxx.out⟩
              case measure => simp [intOf]; omega
    · have e : m = s.length + 1 := by omega
      subst e
      have HA := Lib.hid (arrayL_eq ha)
      have HX := Lib.hid hx
      have HW := Lib.hid hw
      obtain ⟨b, c, rfl, hlc, hsm⟩ := hw.shape
      clear ha hw hx hv0 hsm hlc
      have k1 : ¬ ((s.length + 1 : Nat) : Int) ≤ (s.length : Int) := by omega
      go_wp2
      go_ret2
      exact ⟨_, rfl, HX.out, HA.out ▸ HW.out⟩
end Go.Proofs.Yteflhfofahdckaa
