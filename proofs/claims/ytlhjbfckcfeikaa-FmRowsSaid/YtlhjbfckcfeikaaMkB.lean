/- Several texts in one. merged: SufI SufJ SufK SufL SufM SufN SufO SufP -/
import Derived.Test.YtlhjbfckcfeikaaMkA
import Derived.Test.YtlhjbfckcfeikaaApp3
namespace Go.Proofs.Ytlhjbfckcfeikaa
set_option linter.unusedVariables false
set_option linter.unusedSimpArgs false
open Go.RowKit

attribute [local go_sem] S_size S_extract S_toList

/-- where m is put in, by halves -/
theorem toI_take (l : List Nat) (k : Nat) : (toI l).take k = toI (l.take k) := by unfold toI; rw [List.map_take]
theorem toI_drop (l : List Nat) (k : Nat) : (toI l).drop k = toI (l.drop k) := by unfold toI; rw [List.map_drop]
theorem toI_put (l : List Nat) (k m : Nat) : (toI l).take k ++ (m : Int) :: (toI l).drop k = toI (l.take k ++ m :: l.drop k) := by
  rw [toI_take, toI_drop]; unfold toI; rw [List.map_append]; rfl

set_option maxRecDepth 20000 in
set_option maxHeartbeats 4000000 in
theorem rarray_big (s : List UInt8) (w : World) (hs : ¬ s.length ≤ 20000) : Calls Try.prog 29 #[.string (S s)] w fun e w' => e = .returned (.tuple #[.slice none 0 0, .int .i64 3]) ∧ Ext w w' := by
  have hh : (20000 : Int) < (s.length : Int) := by omega
  clear hs
  go_enter Try.func29, Try.ntmps29
  go_wp2
  go_ret2
  exact ⟨rfl, Ext.refl _⟩

set_option maxRecDepth 20000 in
set_option maxHeartbeats 8000000 in
theorem rarray_any (s : List UInt8) (w : World) (hs : s.length ≤ 20000) : Calls Try.prog 29 #[.string (S s)] w fun e w' => ∃ v, e = .returned (.tuple #[v, .int .i64 0]) ∧ Ext w w' ∧ IW w' w.heap.size v (toI (arrayL s)) := by
  have hh : ¬ (20000 : Int) < (s.length : Int) := by omega
  have HL := Lib.hid hs
  clear hs
  go_enter Try.func29, Try.ntmps29
  go_wp2
  go_loopw [4, 5] (fun v i wr => ∃ (m : Nat) (a : List Nat), i = .int .i64 (m : Int) ∧ m ≤ s.length + 1 ∧ IsArr s m a ∧ IW wr w.heap.size v (toI a) ∧ (m = 0 → v = .slice none 0 0) ∧ Ext w wr) (fun _ i _ => s.length + 2 - (intOf i).toNat)
  case atStart => exact ⟨0, [], rfl, by omega, ⟨List.Perm.refl _, List.Pairwise.nil⟩, IW.nil _ _, fun _ => rfl, Ext.refl _⟩
  case round =>
    obtain ⟨m, a, rfl, hm, ha, hw, hv0, hx⟩ := hrel
    by_cases hlt : m ≤ s.length
    · have HA := Lib.hid ha
      have HX := Lib.hid hx
      have HW := Lib.hid hw
      have hal := ha.length
      obtain ⟨b, c, rfl, hlc, hsm⟩ := hw.shape
      rw [toI_length, hal] at hlc hsm
      rw [toI_length, hal]
      have HAL := Lib.hid hal
      rcases Nat.eq_zero_or_pos m with e0 | hm0
      · subst e0
        obtain rfl : a = [] := List.eq_nil_of_length_eq_zero hal
        have hv := hv0 rfl
        injection hv with e1 e2 e3
        subst e1
        subst e3
        have HP := Lib.hid (HA.out.put (k := 0) (by omega) (by simp) (fun j hj => by omega) (fun j h1 h2 => by simp at h2))
        clear hv0 hsm ha hw hx hal e2 hlc HW HAL hm hlt
        have k1 : (0 : Int) ≤ (s.length : Int) := by omega
        go_wp2
        go_loopw [6, 7] (fun lo hi w2 => lo = .int .i64 0 ∧ hi = .int .i64 0 ∧ Ext wr w2) (fun _ _ _ => 0)
        case atStart => exact ⟨rfl, rfl, Ext.refl _⟩
        case round =>
          rename World => w2
          obtain ⟨rfl, rfl, hx2⟩ := hrel
          have HX2 := Lib.hid (HX.out.trans hx2)
          clear hx2
          go_wp2_with fail
          refine wp_region_v [8, 9, 10] _ rfl (by kernel_rfl) ?_
          dsimp only [List.length_cons, List.length_nil]
          refine v_late ?_
          iterate 3
            (refine v_want (by kernel_rfl) (by kernel_rfl) (by kernel_rfl) (fun _ _ _ _ h => h) (by kernel_rfl) (by kernel_rfl) (fun K hK => ?_)
             go_simp
             (refine hK _ ?_; clear hK K))
          refine v_late ?_
          iterate 1
            (refine v_want (by kernel_rfl) (by kernel_rfl) (by kernel_rfl) (fun _ _ _ _ h => h) (by kernel_rfl) (by kernel_rfl) (fun K hK => ?_)
             go_simp
             (refine hK _ ?_; clear hK K))
          refine v_late ?_
          refine v_late ?_
          iterate 3
            (refine v_pure (by kernel_rfl) (by kernel_rfl) (by kernel_rfl) (fun _ _ _ _ h => h) (by kernel_rfl) (fun K hK => ?_)
             go_simp
             (refine hK _ ?_; clear hK K))
          refine v_rest ?_
          refine v_app3 (m := 1) (te := 3) (csA := #[]) (csC := #[.int .i64 (0 : Int)]) (iA := 0) (iB := 4) (iC := 6) (iD := 7) (iE := 11)
            (fun v w' => IW w' w2.heap.size v []) (fun v w' => IW w' w2.heap.size v ([] ++ [(0 : Int)])) (fun v w' => IW w' w2.heap.size v (toI [0]))
            rfl rfl rfl rfl rfl rfl rfl rfl rfl rfl (fun d h => by cases h; decide) (fun d h => by cases h; decide)
            (by kernel_rfl) (by kernel_rfl) (by kernel_rfl) (by kernel_rfl) (by kernel_rfl) (by kernel_rfl) (by kernel_rfl) (by kernel_rfl) (by kernel_rfl) (by decide) (by decide)
            (fun v w w' h hx => h.ext hx)
            (fun u => ⟨BsAt.of (vs := #[]) 31 #[] rfl rfl run_bs0, BsAt.of (vs := #[]) 31 #[] rfl rfl run_bs0⟩)
            (fun gA u a' ha w' hx hle hb => ?_)
            (fun gA v a' ha => ?_)
            (fun gA gC v w' hx h1 hb => ?_)
            (fun gA gC v1 v2 w' hx h2 => ?_)
            (fun v w w' h hx => h.ext hx)
            (fun gA gC v1 v2 v3 w' hx h3 => ?_)
          · have hle' : w2.heap.size ≤ w'.heap.size := ((Ext.refl w2).drew.trans hx).le
            obtain ⟨v', w'', p1, p2, p3⟩ := IW.app0 (B := w2.heap.size) hb hle (RI.nil _) hle' (by simp)
            refine ⟨v', w'', ?_, p3, p2⟩
            rcases ha with rfl | rfl <;> exact exec_app (.tmp 40) (.tmp 43) 31 rfl rfl rfl rfl p1
          · rcases ha with rfl | rfl | rfl <;> exact BsAt.of (vs := #[(0, .int .i64 (0 : Int))]) 31 _ rfl rfl (run_bs1i (0 : Int))
          · have hle' : w2.heap.size ≤ w'.heap.size := ((Ext.refl w2).drew.trans hx).le
            obtain ⟨v', w'', p1, p2, p3⟩ := IW.appS h1 (RI.one hb) hle' (by simp)
            exact ⟨v', w'', exec_app (.tmp 44) (.tmp 46) 31 rfl rfl rfl rfl p1, Below.trans hx (h1.below hle' p3), p2⟩
          · have hle' : w2.heap.size ≤ w'.heap.size := ((Ext.refl w2).drew.trans hx).le
            obtain ⟨v', w'', p1, p2, p3⟩ := IW.appS h2 (RI.nil _) hle' (by simp)
            refine ⟨v', w'', exec_app (.tmp 47) (.tmp 50) 31 rfl rfl rfl rfl p1, Below.trans hx (h2.below hle' p3), ?_⟩
            exact p2
          · have HX3 := Lib.hid (HX2.out.trans ((Ext.refl w2).drew.trans hx))
            have H3 := Lib.hid h3
            have HLE := Lib.hid HX2.out.le
            obtain ⟨a3, c3, rfl, _, _⟩ := h3.shape
            clear hx h3
            refine v_one 12 (by kernel_rfl) rfl (by kernel_rfl) fun y1 K hK => ?_
            go_simp
            refine hK _ _ (fun _ => Ext.refl _) ?_
            clear hK K
            refine v_done (by kernel_rfl) fun y3 => ?_
            have hxx := Lib.hid (HX3.out.trans (y1.ext.trans y3.ext))
            have HI := Lib.hid (H3.out.ext (y1.ext.trans y3.ext))
            generalize y3.val = W9 at *
            go_wp2
            go_roundw
            case rel => exact ⟨1, _, by go_num, by omega, HP.out, HI.out.mono HLE.out, fun h => by omega, hxx.out⟩
            case measure => simp [intOf]
      · obtain ⟨g, rfl, hBg, hg, hcell, _⟩ := hsm hm0
        clear hv0 hsm ha hw hx hal
        have k1 : (m : Int) ≤ (s.length : Int) := by omega
        go_wp2
        go_loopw [6, 7] (fun lo hi w2 => ∃ i j : Nat, lo = .int .i64 (i : Int) ∧ hi = .int .i64 (j : Int) ∧ i ≤ j ∧ j ≤ m ∧ (∀ q, q < i → lessE s (a.getD q 0) m = true) ∧ (∀ q, j ≤ q → q < m → lessE s (a.getD q 0) m = false) ∧ Ext wr w2) (fun lo hi _ => (intOf hi).toNat - (intOf lo).toNat)
        case atStart => exact ⟨0, m, rfl, rfl, by omega, by omega, fun q hq => by omega, fun q h1 h2 => by omega, Ext.refl _⟩
        case round =>
          rename World => w2
          obtain ⟨i, j, rfl, rfl, hij, hj, hlo, hhi, hx2⟩ := hrel
          by_cases hd : i < j
          · have HLO := Lib.hid hlo
            have HHI := Lib.hid hhi
            have HX2 := Lib.hid hx2
            clear hlo hhi hx2
            obtain ⟨q, hq⟩ : ∃ q, q = (i + j) / 2 := ⟨_, rfl⟩
            have hq1 : i ≤ q := by omega
            have hq2 : q < j := by omega
            have hQ := HA.out.lt (i := q) (by omega)
            have cQ := cell_later HX2.out (hcell q (by omega))
            have he : (toI a).getD q 0 = ((a.getD q 0 : Nat) : Int) := by rw [toI_getD]
            rw [he] at cQ
            have hqi : ((i : Int) + (j : Int)) / 2 = (q : Int) := by omega
            have HQ3 := Lib.hid hQ
            go_wp2_with fail
            rw [hqi]
            clear hqi he hq
            generalize hQQ : a.getD q 0 = Q at *
            have HQQ := Lib.hid hQQ
            clear hQQ
            have k2 : (Q : Int) ≤ (s.length : Int) := by omega
            have k3 : (q : Int) < (m : Int) := by omega
            go_region
            rw [show Op.bytesLess (s.drop Q) (s.drop m) = lessE s Q m from rfl]
            have HX3 := Lib.hid HX2.out.drew
            clear cQ HX2
            cases hb : lessE s Q m with
            | true =>
              have HLO2 := Lib.hid (show ∀ p, p < q + 1 → lessE s (a.getD p 0) m = true from fun p hp => by
                rcases Nat.lt_or_ge p q with h | h
                · exact lessE_trans (HA.out.less h (by omega)) (by rw [HQQ.out]; exact hb)
                · have : p = q := by omega
                  subst this
                  rw [HQQ.out]; exact hb)
              clear hb HLO
              go_wp2
              go_roundw
              case rel => exact ⟨q + 1, j, by go_num, rfl, by omega, by omega, HLO2.out, HHI.out, HX3.out⟩
              case measure => simp [intOf]; omega
            | false =>
              have HHI2 := Lib.hid (show ∀ p, q ≤ p → p < m → lessE s (a.getD p 0) m = false from fun p hp hpm => by
                rcases Nat.lt_or_ge q p with h | h
                · have h1 := HA.out.less h hpm
                  cases h2 : lessE s (a.getD p 0) m with
                  | false => rfl
                  | true =>
                    have := lessE_trans h1 h2
                    rw [HQQ.out, hb] at this
                    exact this.symm
                · have : p = q := by omega
                  subst this
                  rw [HQQ.out]; exact hb)
              clear hb HHI
              go_wp2
              go_roundw
              case rel => exact ⟨i, q, rfl, rfl, by omega, by omega, HLO.out, HHI2.out, HX3.out⟩
              case measure => simp [intOf]; omega
          · have e : i = j := by omega
            subst e
            have HP := Lib.hid (HA.out.put (k := i) (by omega) (by rw [HAL.out]; exact hj) hlo (fun q h1 h2 => hhi q h1 (by have := HAL.out; omega)))
            have HX2 := Lib.hid (HX.out.trans hx2)
            have HR := HW.out.ri.ext hx2
            rw [toI_length, HAL.out] at HR
            have HRI := Lib.hid (RI.take HR i (by rw [toI_length, HAL.out]; exact hj))
            have HR2 : RI w2 (.slice (if c = i then some ⟨g, 0, none⟩ else some ⟨g, i, none⟩) (m - i) (c - i)) ((toI a).drop i) := by
              have := RR.drop HR i (by rw [toI_length, HAL.out]; exact hj) (if c = i then some ⟨g, 0, none⟩ else some ⟨g, i, none⟩) (fun g' o' e hlt => by
                injection e with e; injection e with e1 e2; subst e1; subst e2
                rw [if_neg (by omega), Nat.mul_one, Nat.zero_add]) (fun e => by split at e <;> cases e)
              rw [toI_length, HAL.out] at this
              exact this
            have HRJ := Lib.hid HR2
            have hl1 : (((toI a).take i).length : Int) + 1 ≤ 1000000000 := by have := HAL.out; have := HL.out; rw [List.length_take, toI_length]; omega
            have hl2 : (((toI a).take i ++ [(m : Int)]).length : Int) + (((toI a).drop i).length : Int) ≤ 1000000000 := by have := HAL.out; have := HL.out; rw [List.length_append, List.length_take, List.length_drop, List.length_singleton, toI_length]; omega
            have HL1 := Lib.hid hl1
            have HL2 := Lib.hid hl2
            clear hlo hhi hx2 HR HR2 hl1 hl2
            have k4 : (i : Int) ≤ (c : Int) := by omega
            have k5 : (i : Int) ≤ (m : Int) := by omega
            have k6 : (m : Int) ≤ (c : Int) := by omega
            go_wp2_with fail
            refine wp_region_v [8, 9, 10] _ rfl (by kernel_rfl) ?_
            dsimp only [List.length_cons, List.length_nil]
            refine v_late ?_
            iterate 3
              (refine v_want (by kernel_rfl) (by kernel_rfl) (by kernel_rfl) (fun _ _ _ _ h => h) (by kernel_rfl) (by kernel_rfl) (fun K hK => ?_)
               go_simp
               (refine hK _ ?_; clear hK K))
            refine v_late ?_
            iterate 1
              (refine v_want (by kernel_rfl) (by kernel_rfl) (by kernel_rfl) (fun _ _ _ _ h => h) (by kernel_rfl) (by kernel_rfl) (fun K hK => ?_)
               go_simp
               (refine hK _ ?_; clear hK K))
            refine v_late ?_
            refine v_late ?_
            iterate 3
              (refine v_pure (by kernel_rfl) (by kernel_rfl) (by kernel_rfl) (fun _ _ _ _ h => h) (by kernel_rfl) (fun K hK => ?_)
               go_simp
               (refine hK _ ?_; clear hK K))
            refine v_rest ?_
            refine v_app3 (m := 1) (te := 3) (csA := #[]) (csC := #[.int .i64 (m : Int)]) (iA := 0) (iB := 4) (iC := 6) (iD := 7) (iE := 11)
              (fun v w' => IW w' w2.heap.size v ((toI a).take i)) (fun v w' => IW w' w2.heap.size v ((toI a).take i ++ [(m : Int)])) (fun v w' => IW w' w2.heap.size v (toI (a.take i ++ m :: a.drop i)))
              rfl rfl rfl rfl rfl rfl rfl rfl rfl rfl (fun d h => by cases h; decide) (fun d h => by cases h; decide)
              (by kernel_rfl) (by kernel_rfl) (by kernel_rfl) (by kernel_rfl) (by kernel_rfl) (by kernel_rfl) (by kernel_rfl) (by kernel_rfl) (by kernel_rfl) (by decide) (by decide)
              (fun v w w' h hx => h.ext hx)
              (fun u => ⟨BsAt.of (vs := #[]) 31 #[] rfl rfl run_bs0, BsAt.of (vs := #[]) 31 #[] rfl rfl run_bs0⟩)
              (fun gA u a' ha w' hx hle hb => ?_)
              (fun gA v a' ha => ?_)
              (fun gA gC v w' hx h1 hb => ?_)
              (fun gA gC v1 v2 w' hx h2 => ?_)
              (fun v w w' h hx => h.ext hx)
              (fun gA gC v1 v2 v3 w' hx h3 => ?_)
            · have hle' : w2.heap.size ≤ w'.heap.size := ((Ext.refl w2).drew.trans hx).le
              obtain ⟨v', w'', p1, p2, p3⟩ := IW.app0 (B := w2.heap.size) hb hle (HRI.out.ext ((Ext.refl _).drew.trans hx)) hle' (by have := HL1.out; omega)
              refine ⟨v', w'', ?_, p3, p2⟩
              rcases ha with rfl | rfl <;> exact exec_app (.tmp 40) (.tmp 43) 31 rfl rfl rfl rfl p1
            · rcases ha with rfl | rfl | rfl <;> exact BsAt.of (vs := #[(0, .int .i64 (m : Int))]) 31 _ rfl rfl (run_bs1i (m : Int))
            · have hle' : w2.heap.size ≤ w'.heap.size := ((Ext.refl w2).drew.trans hx).le
              obtain ⟨v', w'', p1, p2, p3⟩ := IW.appS h1 (RI.one hb) hle' HL1.out
              exact ⟨v', w'', exec_app (.tmp 44) (.tmp 46) 31 rfl rfl rfl rfl p1, Below.trans hx (h1.below hle' p3), p2⟩
            · have hle' : w2.heap.size ≤ w'.heap.size := ((Ext.refl w2).drew.trans hx).le
              obtain ⟨v', w'', p1, p2, p3⟩ := IW.appS h2 (HRJ.out.ext ((Ext.refl _).drew.trans hx)) hle' HL2.out
              refine ⟨v', w'', exec_app (.tmp 47) (.tmp 50) 31 rfl rfl rfl rfl p1, Below.trans hx (h2.below hle' p3), ?_⟩
              rw [List.append_assoc, List.singleton_append, toI_put] at p2
              exact p2
            · have HX3 := Lib.hid (HX2.out.trans ((Ext.refl w2).drew.trans hx))
              have H3 := Lib.hid h3
              have HLE := Lib.hid HX2.out.le
              obtain ⟨a3, c3, rfl, _, _⟩ := h3.shape
              clear hx h3 HRI HRJ HL1 HL2
              refine v_one 12 (by kernel_rfl) rfl (by kernel_rfl) fun y1 K hK => ?_
              go_simp
              refine hK _ _ (fun _ => Ext.refl _) ?_
              clear hK K
              refine v_done (by kernel_rfl) fun y3 => ?_
              have hxx := Lib.hid (HX3.out.trans (y1.ext.trans y3.ext))
              have HI := Lib.hid (H3.out.ext (y1.ext.trans y3.ext))
              generalize y3.val = W9 at *
              go_wp2
              go_roundw
              case rel => exact ⟨m + 1, _, by go_num, by omega, HP.out, HI.out.mono HLE.out, fun h => by omega, hxx.out⟩
              case measure => simp [intOf]; omega
    · have e : m = s.length + 1 := by omega
      subst e
      have HA := Lib.hid (arrayL_eq ha)
      have HX := Lib.hid hx
      have HW := Lib.hid hw
      obtain ⟨b, c, rfl, hlc, hsm⟩ := hw.shape
      clear ha hw hx hv0 hsm hlc
      have k1 : ¬ ((s.length + 1 : Nat) : Int) ≤ (s.length : Int) := by omega
      go_wp2
      go_ret2
      exact ⟨_, rfl, HX.out, HA.out ▸ HW.out⟩
end Go.Proofs.Ytlhjbfckcfeikaa
namespace Go.Proofs.Ytlhjbfckcfeikaa
set_option linter.unusedVariables false
set_option linter.unusedSimpArgs false
open Go.RowKit

/-- the order of places by keys -/
def KL (ks : List Int) (p q : Nat) : Prop := ks.getD p 0 < ks.getD q 0 ∨ ks.getD p 0 = ks.getD q 0 ∧ p < q
def IsSrt (ks : List Int) (m : Nat) (a : List Nat) : Prop := a.Perm (List.range m) ∧ a.Pairwise (KL ks)
theorem IsSrt.length {ks : List Int} {m : Nat} {a : List Nat} (h : IsSrt ks m a) : a.length = m := by rw [h.1.length_eq, List.length_range]
theorem IsSrt.lt {ks : List Int} {m : Nat} {a : List Nat} (h : IsSrt ks m a) {i : Nat} (hi : i < m) : a.getD i 0 < m := perm_lt h.1 hi
theorem IsSrt.mono {ks : List Int} {m : Nat} {a : List Nat} (h : IsSrt ks m a) {i j : Nat} (hij : i ≤ j) (hj : j < m) : ks.getD (a.getD i 0) 0 ≤ ks.getD (a.getD j 0) 0 := by
  rcases Nat.lt_or_ge i j with hlt | hge
  · have hl := h.length
    rw [getD_lt (by omega : i < a.length), getD_lt (by omega : j < a.length)]
    rcases List.pairwise_iff_getElem.1 h.2 i j (by omega) (by omega) hlt with h1 | ⟨h1, _⟩ <;> omega
  · have : i = j := by omega
    subst this; exact Int.le_refl _
theorem IsSrt.put {ks : List Int} {m k : Nat} {a : List Nat} (h : IsSrt ks m a) (hk : k ≤ m) (h1 : ∀ j, j < k → ks.getD (a.getD j 0) 0 ≤ ks.getD m 0) (h2 : ∀ j, k ≤ j → j < m → ks.getD m 0 < ks.getD (a.getD j 0) 0) :
    IsSrt ks (m + 1) (a.take k ++ m :: a.drop k) := by
  have hl := h.length
  refine ⟨?_, ?_⟩
  · refine List.perm_middle.trans ?_
    rw [List.take_append_drop, List.range_succ]
    exact (List.Perm.cons m h.1).trans (List.perm_append_comm (l₁ := [m]) (l₂ := List.range m))
  · have hp := h.2
    rw [← List.take_append_drop k a, List.pairwise_append] at hp
    rw [List.pairwise_append, List.pairwise_cons]
    have hin : ∀ x ∈ a.take k, KL ks x m := fun x hx => by
      obtain ⟨j, hj, rfl⟩ := List.mem_iff_getElem.1 hx
      rw [List.length_take] at hj
      have := h1 j (by omega)
      have hlt := h.lt (i := j) (by omega)
      rw [getD_lt (by omega : j < a.length)] at this hlt
      rw [List.getElem_take]
      unfold KL
      omega
    have hout : ∀ x ∈ a.drop k, KL ks m x := fun x hx => by
      obtain ⟨j, hj, rfl⟩ := List.mem_iff_getElem.1 hx
      rw [List.length_drop] at hj
      have h3 := h2 (k + j) (by omega) (by omega)
      rw [getD_lt (by omega : k + j < a.length)] at h3
      rw [List.getElem_drop]
      exact .inl h3
    refine ⟨hp.1, ⟨hout, hp.2.1⟩, fun x hx y hy => ?_⟩
    rcases List.mem_cons.1 hy with rfl | hy
    · exact hin x hx
    · exact hp.2.2 x hx y hy
theorem KL.asymm {ks : List Int} {p q : Nat} (h1 : KL ks p q) (h2 : KL ks q p) : False := by unfold KL at *; omega
def okKeys (ks : List Int) (most : Int) : Bool := decide (0 ≤ most ∧ most ≤ 1000000 ∧ ∀ x ∈ ks, 0 ≤ x ∧ x ≤ most)
/-- the places of some keys, sorted -/
def srtL (ks : List Int) (most : Int) : List Nat := csort (fun p => (ks.getD p 0).toNat) most.toNat (List.range ks.length)
theorem key_in {ks : List Int} {most : Int} (h : ∀ x ∈ ks, 0 ≤ x ∧ x ≤ most) {p : Nat} (hp : p < ks.length) : 0 ≤ ks.getD p 0 ∧ ks.getD p 0 ≤ most := by
  have e : ks.getD p 0 = ks[p] := by rw [List.getD_eq_getElem?_getD, List.getElem?_eq_getElem hp]; rfl
  rw [e]; exact h _ (List.getElem_mem _)
theorem IsSrt.eq {ks : List Int} {most : Int} {a : List Nat} (h : IsSrt ks ks.length a) (hk : ∀ x ∈ ks, 0 ≤ x ∧ x ≤ most) : a = srtL ks most := by
  have hle : ∀ p ∈ List.range ks.length, (ks.getD p 0).toNat ≤ most.toNat := fun p hp => by
    have := key_in hk (List.mem_range.1 hp); omega
  have hpm : (srtL ks most).Perm (List.range ks.length) := csort_perm hle
  refine sorted_unique (r := KL ks) (fun _ _ => KL.asymm) _ _ (h.1.trans hpm.symm) h.2 ?_
  have hs := csort_pairwise (key := fun p => (ks.getD p 0).toNat) (most := most.toNat) (l := List.range ks.length) (r := fun p q => p < q) List.pairwise_lt_range
  refine List.Pairwise.imp_of_mem (fun {p q} hp hq hr => ?_) hs
  have h1 := key_in hk (List.mem_range.1 (hpm.mem_iff.1 hp))
  have h2 := key_in hk (List.mem_range.1 (hpm.mem_iff.1 hq))
  unfold KL
  rcases hr with hr | ⟨hr, h3⟩
  · left; omega
  · right; exact ⟨by omega, h3⟩

end Go.Proofs.Ytlhjbfckcfeikaa
namespace Go.Proofs.Ytlhjbfckcfeikaa
set_option linter.unusedVariables false
set_option linter.unusedSimpArgs false
open Go.RowKit

theorem okKeys_true {ks : List Int} {most : Int} (h : okKeys ks most = true) : 0 ≤ most ∧ most ≤ 1000000 ∧ ∀ x ∈ ks, 0 ≤ x ∧ x ≤ most := of_decide_eq_true h
theorem okKeys_false {ks : List Int} {most : Int} (h : ¬ (0 ≤ most ∧ most ≤ 1000000 ∧ ∀ x ∈ ks, 0 ≤ x ∧ x ≤ most)) : okKeys ks most = false := decide_eq_false h
/-- what is told -/
def srtR (ks : List Int) (most : Int) : List Nat := if okKeys ks most then srtL ks most else []
def srtE (ks : List Int) (most : Int) : Int := if okKeys ks most then 0 else 2
theorem mem_getD {ks : List Int} {x : Int} (h : x ∈ ks) : ∃ i, i < ks.length ∧ ks.getD i 0 = x := by
  obtain ⟨i, hi, e⟩ := List.mem_iff_getElem.1 h
  exact ⟨i, hi, by rw [List.getD_eq_getElem?_getD, List.getElem?_eq_getElem hi]; exact e⟩

end Go.Proofs.Ytlhjbfckcfeikaa
namespace Go.Proofs.Ytlhjbfckcfeikaa
set_option linter.unusedVariables false
set_option linter.unusedSimpArgs false
open Go.RowKit

end Go.Proofs.Ytlhjbfckcfeikaa
namespace Go.Proofs.Ytlhjbfckcfeikaa
set_option linter.unusedVariables false
set_option linter.unusedSimpArgs false
open Go.RowKit

theorem nodup_le : ∀ (n : Nat) (l : List Int), l.Nodup → (∀ x ∈ l, 0 ≤ x ∧ x < (n : Int)) → l.length ≤ n
  | 0, l, _, h => by
    cases l with
    | nil => simp
    | cons x l => have := h x (by simp); omega
  | n + 1, l, hn, h => by
    have h1 := nodup_le n (l.erase (n : Int)) (hn.erase _) (fun x hx => by
      have h2 := h x (List.mem_of_mem_erase hx)
      have h3 : x ≠ (n : Int) := fun e => by subst e; exact (List.Nodup.not_mem_erase hn) hx
      omega)
    rw [List.length_erase] at h1
    split at h1 <;> omega
/-- each place once -/
def okP (a : List Int) : Bool := decide ((∀ x ∈ a, 0 ≤ x ∧ x < (a.length : Int)) ∧ a.Nodup)
theorem okP_in {a : List Int} (h : okP a = true) {i : Nat} (hi : i < a.length) : 0 ≤ a.getD i 0 ∧ a.getD i 0 < (a.length : Int) := by
  have := (of_decide_eq_true h).1 a[i] (List.getElem_mem _)
  rw [List.getD_eq_getElem?_getD, List.getElem?_eq_getElem hi]; exact this
theorem okP_full {a : List Int} (h : okP a = true) {p : Nat} (hp : p < a.length) : (p : Int) ∈ a := by
  have h1 := of_decide_eq_true h
  refine Classical.byContradiction fun hn => ?_
  have := nodup_le a.length ((p : Int) :: a) (List.nodup_cons.2 ⟨hn, h1.2⟩) (fun x hx => by
    rcases List.mem_cons.1 hx with rfl | hx
    · omega
    · exact h1.1 x hx)
  rw [List.length_cons] at this
  omega
theorem getD_ge {a : List Int} {i : Nat} (h : i < a.length) : a.getD i 0 = a[i] := by
  rw [List.getD_eq_getElem?_getD, List.getElem?_eq_getElem h]; rfl
theorem okP_inj {a : List Int} (h : a.Nodup) {i j : Nat} (hi : i < a.length) (hj : j < a.length) (e : a.getD i 0 = a.getD j 0) : i = j := by
  rw [getD_ge hi, getD_ge hj] at e
  exact (List.getElem_inj h).1 e
theorem okP_at {a : List Int} (h : okP a = true) {p : Nat} (hp : p < a.length) : ∃ i, i < a.length ∧ a.getD i 0 = (p : Int) := by
  obtain ⟨i, hi, e⟩ := List.getElem_of_mem (okP_full h hp)
  exact ⟨i, hi, by rw [getD_ge hi]; exact e⟩
/-- where the places stand -/
def RanksAre (a : List Int) (r : List Nat) : Prop := r.length = a.length ∧ ∀ j, j < a.length → r.getD (a.getD j 0).toNat 0 = j
theorem RanksAre.unique {a : List Int} {r r' : List Nat} (h : okP a = true) (h1 : RanksAre a r) (h2 : RanksAre a r') : r = r' := by
  refine List.ext_getElem (by rw [h1.1, h2.1]) fun p hp hp' => ?_
  obtain ⟨i, hi, e⟩ := okP_at h (p := p) (by rw [← h1.1]; exact hp)
  have e1 := h1.2 i hi
  have e2 := h2.2 i hi
  rw [e, Int.toNat_natCast] at e1 e2
  rw [getD_lt hp] at e1
  rw [getD_lt hp'] at e2
  rw [e1, e2]
def posN (p : Nat) : List Int → Nat
  | [] => 0
  | x :: a => if x = (p : Int) then 0 else posN p a + 1
theorem posN_at : ∀ (a : List Int) (j : Nat), a.Nodup → j < a.length → 0 ≤ a.getD j 0 → posN (a.getD j 0).toNat a = j
  | [], j, _, h, _ => by simp at h
  | x :: a, 0, _, _, h0 => by
    have h0' : 0 ≤ x := h0
    show (if x = ((x.toNat : Nat) : Int) then 0 else _) = 0
    rw [if_pos (by omega)]
  | x :: a, j + 1, hn, h, h0 => by
    have hn' := List.nodup_cons.1 hn
    have hj : j < a.length := by simpa using h
    have e : (x :: a).getD (j + 1) 0 = a.getD j 0 := rfl
    rw [e] at h0 ⊢
    have hx : ¬ x = ((a.getD j 0).toNat : Int) := fun e => hn'.1 (by
      rw [e, Int.toNat_of_nonneg h0, getD_ge hj]; exact List.getElem_mem _)
    show (if x = (((a.getD j 0).toNat : Nat) : Int) then 0 else _) = j + 1
    rw [if_neg hx, posN_at a j hn'.2 hj h0]
def rkL (a : List Int) : List Nat := if okP a = true then (List.range a.length).map fun p => posN p a else []
def rkE (a : List Int) : Int := if okP a = true then 0 else 2
theorem rkL_are {a : List Int} (h : okP a = true) : RanksAre a (rkL a) := by
  unfold rkL
  rw [if_pos h]
  refine ⟨by simp, fun j hj => ?_⟩
  have h1 := okP_in h hj
  rw [List.getD_eq_getElem?_getD, List.getElem?_map, List.getElem?_range (by omega)]
  exact posN_at a j (of_decide_eq_true h).2 hj h1.1
theorem rkL_eq {a : List Int} {r : List Nat} (h : okP a = true) (hr : RanksAre a r) : r = rkL a := RanksAre.unique h hr (rkL_are h)
/-- the ranks of the first k have been laid -/
def RanksK (a : List Int) (r : List Int) (z : Int) (k : Nat) : Prop :=
  r.length = a.length ∧ (∀ j, j < k → 0 ≤ a.getD j 0 ∧ a.getD j 0 < (a.length : Int)) ∧ (∀ j, j < k → r.getD (a.getD j 0).toNat 0 = j) ∧ ∀ p, p < a.length → (∀ j, j < k → a.getD j 0 ≠ (p : Int)) → r.getD p 0 = z
theorem getD_setI {r : List Int} {i j : Nat} {u : Int} (hi : i < r.length) : (r.set i u).getD j 0 = if j = i then u else r.getD j 0 := by
  rw [List.getD_eq_getElem?_getD, List.getElem?_set]
  by_cases h : i = j
  · subst h; simp [hi]
  · rw [if_neg h, if_neg (fun e => h e.symm), List.getD_eq_getElem?_getD]
theorem RanksK.start {a : List Int} {z : Int} : RanksK a (List.replicate a.length z) z 0 := by
  refine ⟨by simp, fun j h => by omega, fun j h => by omega, fun p hp _ => ?_⟩
  rw [List.getD_eq_getElem?_getD, List.getElem?_replicate, if_pos hp]; rfl
theorem RanksK.step {a r : List Int} {z : Int} {k : Nat} (h : RanksK a r z k) (hk : k < a.length) (h0 : 0 ≤ a.getD k 0 ∧ a.getD k 0 < (a.length : Int)) (hn : ∀ j, j < k → a.getD j 0 ≠ a.getD k 0) :
    RanksK a (r.set (a.getD k 0).toNat (k : Int)) z (k + 1) := by
  obtain ⟨h1, h2, h3, h4⟩ := h
  have hlt : (a.getD k 0).toNat < r.length := by rw [h1]; omega
  refine ⟨by rw [List.length_set, h1], fun j hj => ?_, fun j hj => ?_, fun p hp hq => ?_⟩
  · rcases Nat.lt_or_ge j k with h | h
    · exact h2 j h
    · have : j = k := by omega
      subst this; exact h0
  · rw [getD_setI hlt]
    rcases Nat.lt_or_ge j k with h | h
    · rw [if_neg (fun e => hn j h (by have := h2 j h; omega)), h3 j h]
    · have : j = k := by omega
      subst this; rw [if_pos rfl]
  · rw [getD_setI hlt, if_neg (fun e => hq k (by omega) (by omega)), h4 p hp (fun j hj => hq j (by omega))]
/-- is this place taken? -/
theorem RanksK.taken {a r : List Int} {z : Int} {k : Nat} (h : RanksK a r z k) (hz : z < 0) {p : Nat} (hp : p < a.length) : (r.getD p 0 < 0 ↔ ∀ j, j < k → a.getD j 0 ≠ (p : Int)) := by
  constructor
  · intro h5 j hj e
    have := h.2.2.1 j hj
    rw [e, Int.toNat_natCast] at this
    omega
  · intro h5
    rw [h.2.2.2 p hp h5]; exact hz
theorem RanksK.ok {a r : List Int} {z : Int} (h : RanksK a r z a.length) (hn : ∀ i j, i < j → j < a.length → a.getD i 0 ≠ a.getD j 0) : okP a = true := by
  refine decide_eq_true ⟨fun x hx => ?_, ?_⟩
  · obtain ⟨i, hi, rfl⟩ := mem_getD hx
    exact h.2.1 i hi
  · rw [List.Nodup, List.pairwise_iff_getElem]
    intro i j hi hj hij
    have := hn i j hij hj
    rwa [getD_ge hi, getD_ge hj] at this
theorem RanksK.done {a : List Int} {r : List Int} {z : Int} (h : RanksK a r z a.length) (ho : okP a = true) : r = toI (rkL a) := by
  refine List.ext_getElem (by rw [h.1, toI_length]; exact (rkL_are ho).1.symm) fun p hp hp' => ?_
  obtain ⟨i, hi, e⟩ := okP_at ho (p := p) (by rw [← h.1]; exact hp)
  have e1 := h.2.2.1 i hi
  have e2 := (rkL_are ho).2 i hi
  rw [e, Int.toNat_natCast] at e1 e2
  rw [getD_ge hp] at e1
  have e3 := toI_getD (rkL a) p
  rw [getD_ge hp', e2] at e3
  rw [e1, e3]
theorem okP_bad {a : List Int} {k : Nat} (hk : k < a.length) (h : ¬ (0 ≤ a.getD k 0 ∧ a.getD k 0 < (a.length : Int))) : okP a = false := by
  refine Bool.eq_false_iff.2 fun ho => h (okP_in ho hk)
theorem okP_twice {a : List Int} {j k : Nat} (hj : j < k) (hk : k < a.length) (h : a.getD j 0 = a.getD k 0) : okP a = false := by
  refine Bool.eq_false_iff.2 fun ho => ?_
  have := okP_inj (of_decide_eq_true ho).2 (by omega) hk h
  omega
theorem rk_false {a : List Int} (h : okP a = false) : rkE a = 2 ∧ rkL a = [] := by
  unfold rkE rkL; rw [h]; exact ⟨rfl, rfl⟩
theorem rk_true {a : List Int} (h : okP a = true) : rkE a = 0 := by
  unfold rkE; rw [h]; rfl

/-- how many bytes two texts have in common -/
def alikeN : List UInt8 → List UInt8 → Nat
  | x :: a, y :: b => if x = y then alikeN a b + 1 else 0
  | _, _ => 0
theorem alikeN_le : ∀ a b, alikeN a b ≤ a.length ∧ alikeN a b ≤ b.length
  | [], b => by simp [alikeN]
  | x :: a, [] => by simp [alikeN]
  | x :: a, y :: b => by
    have := alikeN_le a b
    unfold alikeN
    split <;> simp <;> omega
theorem alikeN_same : ∀ (a b : List UInt8) (k : Nat), k < alikeN a b → a.getD k 0 = b.getD k 0
  | [], b, k, h => by simp [alikeN] at h
  | x :: a, [], k, h => by simp [alikeN] at h
  | x :: a, y :: b, k, h => by
    unfold alikeN at h
    split at h
    · rename_i e
      subst e
      cases k with
      | zero => rfl
      | succ k => exact alikeN_same a b k (by omega)
    · omega
theorem alikeN_stop : ∀ (a b : List UInt8), alikeN a b < a.length → alikeN a b < b.length → a.getD (alikeN a b) 0 ≠ b.getD (alikeN a b) 0
  | [], b, h, _ => by simp at h
  | x :: a, [], _, h => by simp at h
  | x :: a, y :: b, h1, h2 => by
    unfold alikeN at h1 h2 ⊢
    by_cases e : x = y
    · rw [if_pos e] at h1 h2 ⊢
      exact alikeN_stop a b (by simpa using h1) (by simpa using h2)
    · rw [if_neg e]; exact e
/-- the first place that isn't alike -/
theorem alikeN_at {a b : List UInt8} {n : Nat} (h1 : n ≤ a.length) (h2 : n ≤ b.length) (h : ∀ k, k < n → a.getD k 0 = b.getD k 0) (hs : ¬ (n < a.length ∧ n < b.length ∧ a.getD n 0 = b.getD n 0)) : alikeN a b = n := by
  have l1 := (alikeN_le a b).1
  have l2 := (alikeN_le a b).2
  rcases Nat.lt_trichotomy (alikeN a b) n with h3 | h3 | h3
  · exact absurd (h _ h3) (alikeN_stop a b (by omega) (by omega))
  · exact h3
  · exact absurd ⟨by omega, by omega, alikeN_same a b n h3⟩ hs
theorem alikeN_take (a b : List UInt8) : a.take (alikeN a b) = b.take (alikeN a b) := by
  refine List.ext_getElem (by have := alikeN_le a b; simp; omega) fun k h1 h2 => ?_
  have hk : k < alikeN a b := by simp at h1; omega
  have := alikeN_same a b k hk
  rw [List.getElem_take, List.getElem_take]
  have l1 := (alikeN_le a b).1
  have l2 := (alikeN_le a b).2
  rwa [List.getD_eq_getElem?_getD, List.getElem?_eq_getElem (by omega), List.getD_eq_getElem?_getD, List.getElem?_eq_getElem (by omega)] at this
theorem alikeN_pre {a b : List UInt8} : alikeN a b = b.length ↔ b <+: a := by
  constructor
  · intro h
    have := alikeN_take a b
    rw [h, List.take_length] at this
    rw [← this]; exact List.take_prefix _ _
  · rintro ⟨t, rfl⟩
    refine alikeN_at (by simp) (by simp) (fun k hk => ?_) (fun h => by omega)
    rw [List.getD_eq_getElem?_getD, List.getElem?_append_left hk, List.getD_eq_getElem?_getD]

/-- place i of a row, as a number -/
def placeN (a : List Int) (i : Nat) : Nat := (a.getD i 0).toNat
def endAt (s : List UInt8) (a : List Int) (i : Nat) : List UInt8 := s.drop (placeN a i)
/-- what an end has in common with the one ahead -/
def comAt (s : List UInt8) (a : List Int) (i : Nat) : Nat := if i = 0 then 0 else alikeN (endAt s a i) (endAt s a (i - 1))
def okC (s : List UInt8) (a : List Int) : Bool := okP a && decide (a.length = s.length + 1)
def comL (s : List UInt8) (a : List Int) : List Nat := if okC s a = true then (List.range a.length).map (comAt s a) else []
def comE (s : List UInt8) (a : List Int) : Int := if okC s a = true then 0 else 2
end Go.Proofs.Ytlhjbfckcfeikaa
namespace Go.Proofs.Ytlhjbfckcfeikaa
set_option linter.unusedVariables false
set_option linter.unusedSimpArgs false
open Go.RowKit

def preB (what x : List UInt8) : Bool := what.isPrefixOf x
theorem preB_iff {what x : List UInt8} : preB what x = true ↔ what <+: x := List.isPrefixOf_iff_prefix
theorem pre_ge {what x : List UInt8} (h : preB what x = true) : Op.bytesLess x what = false := by
  obtain ⟨t, rfl⟩ := preB_iff.1 h
  have := bl_append what t []
  rw [List.append_nil] at this
  rw [this]; exact bl_nil t
theorem pre_between : ∀ (what x t : List UInt8), Op.bytesLess x what = false → Op.bytesLess x (what ++ t) = true → what <+: x
  | [], x, t, _, _ => List.nil_prefix
  | c :: w, [], t, h, _ => by cases h
  | c :: w, d :: x, t, h1, h2 => by
    have h1' : ¬ Op.bytesLess (d :: x) (c :: w) = true := by rw [h1]; simp
    rw [bl_cons] at h1'
    rw [List.cons_append, bl_cons] at h2
    rcases h2 with h2 | ⟨rfl, h2⟩
    · exact absurd (.inl h2) h1'
    · obtain ⟨u, rfl⟩ := pre_between w x t (by
        cases h : Op.bytesLess x w with
        | false => rfl
        | true => exact absurd (.inr ⟨rfl, h⟩) h1') h2
      exact ⟨u, rfl⟩
/-- is end i less than what? -/
def geAt (s : List UInt8) (a : List Int) (what : List UInt8) (i : Nat) : Bool := !Op.bytesLess (endAt s a i) what
def preAt (s : List UInt8) (a : List Int) (what : List UInt8) (i : Nat) : Bool := preB what (endAt s a i)
theorem toI_placeN (l : List Nat) (i : Nat) : placeN (toI l) i = l.getD i 0 := by
  unfold placeN; rw [toI_getD, Int.toNat_natCast]
section

variable {s what : List UInt8}

theorem ends_less {i j : Nat} (hij : i < j) (hj : j < s.length + 1) : Op.bytesLess (endAt s (toI (arrayL s)) i) (endAt s (toI (arrayL s)) j) = true := by
  have := (arrayL_is s).less hij hj
  unfold endAt; rw [toI_placeN, toI_placeN]; exact this
theorem ge_mono {i j : Nat} (hij : i ≤ j) (hj : j < s.length + 1) (h : geAt s (toI (arrayL s)) what i = true) : geAt s (toI (arrayL s)) what j = true := by
  rcases Nat.lt_or_ge i j with h1 | h1
  · unfold geAt at *
    have h2 := ends_less h1 hj
    cases h3 : Op.bytesLess (endAt s (toI (arrayL s)) j) what with
    | false => rfl
    | true => rw [bl_trans _ _ _ h2 h3] at h; cases h
  · have : i = j := by omega
    subst this; exact h
theorem pre_mono {i j : Nat} (hij : i ≤ j) (hj : j < s.length + 1) (hg : geAt s (toI (arrayL s)) what i = true) (h : preAt s (toI (arrayL s)) what j = true) : preAt s (toI (arrayL s)) what i = true := by
  rcases Nat.lt_or_ge i j with h1 | h1
  · have h2 := ends_less h1 hj
    obtain ⟨t, e⟩ := preB_iff.1 h
    unfold geAt at hg
    rw [← e] at h2
    exact preB_iff.2 (pre_between what _ t (by simpa using hg) h2)
  · have : i = j := by omega
    subst this; exact h
theorem pre_geAt {i : Nat} {a : List Int} (h : preAt s a what i = true) : geAt s a what i = true := by
  unfold geAt; rw [pre_ge h]; rfl
end

/-- the first from which on all are -/
def FirstOf (P : Nat → Bool) (n r : Nat) : Prop := r ≤ n ∧ (∀ i, i < r → P i = false) ∧ ∀ i, r ≤ i → i < n → P i = true
/-- first and last, by a scan -/
def scanN (Q : Nat → Bool) : Nat → Int × Int
  | 0 => (1, 0)
  | k + 1 => if Q k = true then (if (scanN Q k).2 < (scanN Q k).1 then ((k : Int), (k : Int)) else ((scanN Q k).1, (k : Int))) else scanN Q k
theorem scanN_mid {Q : Nat → Bool} {n lo d : Nat} (h : ∀ i, i < n → (Q i = true ↔ lo ≤ i ∧ i < lo + d)) : ∀ k, k ≤ n →
    scanN Q k = if lo < min k (lo + d) then ((lo : Int), ((min k (lo + d) : Nat) : Int) - 1) else (1, 0)
  | 0, _ => by rw [if_neg (by omega)]; rfl
  | k + 1, hk => by
    have ih := scanN_mid h k (by omega)
    have hq := h k (by omega)
    unfold scanN
    by_cases hc : lo ≤ k ∧ k < lo + d
    · rw [if_pos (hq.2 hc), ih, if_pos (show lo < min (k + 1) (lo + d) by omega), show min (k + 1) (lo + d) = k + 1 by omega]
      by_cases h2 : lo < k
      · rw [if_pos (show lo < min k (lo + d) by omega)]
        have h3 : ¬ ((min k (lo + d) : Nat) : Int) - 1 < (lo : Int) := by omega
        show (if ((min k (lo + d) : Nat) : Int) - 1 < (lo : Int) then _ else ((lo : Int), (k : Int))) = _
        rw [if_neg h3]
        simp
      · rw [if_neg (show ¬ lo < min k (lo + d) by omega)]
        have h3 : lo = k := by omega
        show (if (0 : Int) < 1 then ((k : Int), (k : Int)) else _) = _
        rw [if_pos (by decide), h3]
        simp
    · rw [if_neg (fun e => hc (hq.1 e)), ih]
      by_cases h2 : lo < min k (lo + d)
      · rw [if_pos h2, if_pos (by omega), show min (k + 1) (lo + d) = min k (lo + d) by omega]
      · rw [if_neg h2, if_neg (by omega)]
def fndL (s : List UInt8) (a : List Int) (what : List UInt8) : Int × Int := scanN (preAt s a what) a.length
theorem fnd_eq {s what : List UInt8} {lo d : Nat} (h1 : FirstOf (geAt s (toI (arrayL s)) what) (s.length + 1) lo)
    (h2 : FirstOf (fun i => !preAt s (toI (arrayL s)) what (lo + i)) (s.length + 1 - lo) d) :
    (∀ i, i < s.length + 1 → (preAt s (toI (arrayL s)) what i = true ↔ lo ≤ i ∧ i < lo + d)) ∧
    fndL s (toI (arrayL s)) what = if d = 0 then (1, 0) else ((lo : Int), (lo : Int) + (d : Int) - 1) := by
  have hl : (toI (arrayL s)).length = s.length + 1 := by rw [toI_length, (arrayL_is s).length]
  have hb : ∀ i, i < s.length + 1 → (preAt s (toI (arrayL s)) what i = true ↔ lo ≤ i ∧ i < lo + d) := by
    intro i hi
    constructor
    · intro h
      have hlo : lo ≤ i := Nat.not_lt.1 fun hlt => by
        have := h1.2.1 i hlt
        rw [pre_geAt h] at this; cases this
      refine ⟨hlo, Nat.not_le.1 fun hge => ?_⟩
      have := h2.2.2 (i - lo) (by omega) (by omega)
      simp only [show lo + (i - lo) = i by omega, h] at this
      cases this
    · rintro ⟨ha, hb⟩
      have := h2.2.1 (i - lo) (by omega)
      simp only [show lo + (i - lo) = i by omega] at this
      simpa using this
  refine ⟨hb, ?_⟩
  unfold fndL
  rw [hl, scanN_mid hb _ (Nat.le_refl _)]
  have h3 := h2.1
  have h4 := h1.1
  by_cases e : d = 0
  · rw [if_pos e, if_neg (by omega)]
  · rw [if_neg e, if_pos (by omega), show min (s.length + 1) (lo + d) = lo + d by omega]
    rw [Int.natCast_add]
end Go.Proofs.Ytlhjbfckcfeikaa
namespace Go.Proofs.Ytlhjbfckcfeikaa
set_option linter.unusedVariables false
set_option linter.unusedSimpArgs false
open Go.RowKit

/-- a row of numbers, of the call's own, at block g -/
def IN (w : World) (B g n : Nat) (l : List Int) : Prop := IW w B (.slice (some ⟨g, 0, none⟩) n n) l
/-- a row of truth values -/
def bools (l : List Bool) : List Value := l.map Value.bool
theorem bools_length (l : List Bool) : (bools l).length = l.length := List.length_map _
def TN (w : World) (B g n : Nat) (l : List Bool) : Prop := RW w B 4 (.slice (some ⟨g, 0, none⟩) n n) (bools l)
theorem bool_info : (Try.prog.info? 4).map (fun i => (i.zero, i.size, i.bytes)) = some (some (.bool false), 1, 1) := by kernel_rfl
section

variable {w w' : World} {B g n : Nat}

theorem IN.len {l : List Int} (h : IN w B g n l) : l.length = n := (IW.facts h).1
theorem IN.cell {l : List Int} (h : IN w B g n l) (i : Nat) (hi : i < n) : w.cell? ⟨g, i, none⟩ = some (.int .i64 (l.getD i 0)) := ((IW.facts h).2.2 i hi).1
theorem IN.free {l : List Int} (h : IN w B g n l) (i : Nat) (hi : i < n) : w.frozen? ⟨g, i, none⟩ = false := ((IW.facts h).2.2 i hi).2
theorem IN.lt {l : List Int} (h : IN w B g n l) (hn : 0 < n) : g < w.heap.size ∧ B ≤ g := (IW.facts h).2.1 hn
theorem IN.ext {l : List Int} (h : IN w B g n l) (hx : Ext w w') : IN w' B g n l := IW.ext h hx
theorem IN.set {l : List Int} (h : IN w B g n l) (i : Nat) (v : Int) : IN (w.setCell ⟨g, i, none⟩ (.int .i64 v)) B g n (l.set i v) := by
  have hl := h.len
  subst hl
  exact IW.set h i v
theorem IN.ri {l : List Int} (h : IN w B g n l) : RI w (.slice (some ⟨g, 0, none⟩) n n) l := IW.ri h
theorem RW.farF {e : TypeId} {v : Value} {xs : List Value} (h : RW w B e (.slice (some ⟨g, 0, none⟩) n n) xs) {p : Addr} (hne : p.block ≠ g) (u : Value) : RW (w.setCell p u) B e (.slice (some ⟨g, 0, none⟩) n n) xs := by
  rcases h.2 with ⟨h1, h2⟩ | ⟨g', cap, cur, h1, hB, h2, h3⟩
  · cases h1
  · injection h1 with e1 e2 e3
    injection e1 with e1
    injection e1 with e1
    subst e1
    exact ⟨h.1, .inr ⟨g, cap, cur, by rw [← e3, ← e2], hB, (show Blk w g e cur from h2).far (fun e => hne e.symm) u, h3⟩⟩
theorem IN.far {l : List Int} (h : IN w B g n l) {p : Addr} (hne : p.block ≠ g) (u : Value) : IN (w.setCell p u) B g n l := RW.farF (v := .bool true) h hne u
theorem TN.far {l : List Bool} (h : TN w B g n l) {p : Addr} (hne : p.block ≠ g) (u : Value) : TN (w.setCell p u) B g n l := RW.farF (v := .bool true) h hne u
theorem TN.len {l : List Bool} (h : TN w B g n l) : l.length = n := by
  obtain ⟨a, c, h1, _, _⟩ := RW.shape h
  injection h1 with _ h1 _
  rw [bools_length] at h1; exact h1.symm
theorem TN.facts {l : List Bool} (h : TN w B g n l) (hn : 0 < n) : B ≤ g ∧ g < w.heap.size ∧ (∀ i, i < n → w.cell? ⟨g, i, none⟩ = some (.bool (l.getD i false))) ∧ ∀ i, w.frozen? ⟨g, i, none⟩ = false := by
  have hl := h.len
  obtain ⟨a, c, h1, h2, h3⟩ := RW.shape h
  injection h1 with e1 e2 e3
  obtain ⟨g', e, p1, p2, p3, p4⟩ := h3 (by omega)
  rw [e] at e1
  injection e1 with e1
  injection e1 with e1
  subst e1
  refine ⟨p1, p2, fun i hi => ?_, p4⟩
  rw [p3 i (by omega)]
  unfold bools
  rw [List.getElem?_map, List.getD_eq_getElem?_getD, List.getElem?_eq_getElem (show i < l.length by omega)]
  rfl
theorem TN.cell {l : List Bool} (h : TN w B g n l) (i : Nat) (hi : i < n) : w.cell? ⟨g, i, none⟩ = some (.bool (l.getD i false)) := (h.facts (by omega)).2.2.1 i hi
theorem TN.free {l : List Bool} (h : TN w B g n l) (i : Nat) (hi : i < n) : w.frozen? ⟨g, i, none⟩ = false := (h.facts (by omega)).2.2.2 i
theorem TN.ext {l : List Bool} (h : TN w B g n l) (hx : Ext w w') : TN w' B g n l := RW.ext h hx
theorem TN.set {l : List Bool} (h : TN w B g n l) (i : Nat) (v : Bool) : TN (w.setCell ⟨g, i, none⟩ (.bool v)) B g n (l.set i v) := by
  have hl := h.len
  subst hl
  unfold TN at *
  rw [show bools (l.set i v) = (bools l).set i (.bool v) from List.map_set]
  rw [← bools_length l] at h ⊢
  have h' : RW w B 4 (.slice (some ⟨g, 0, none⟩) (bools l).length (bools l).length) (bools l) := h
  exact RW.set h' i (.bool v)
end

theorem IN.make (w : World) (n : Nat) (hn : n ≤ 1000000000) : IN (w.alloc (.cells (madeCells #[.int .i64 0] n) 3)) w.heap.size w.heap.size n (List.replicate n 0) := (IW.make w n hn).2
theorem TN.make (w : World) (n : Nat) (hn : n ≤ 1000000000) : (∀ m : Int, m = (n : Int) → (Instr.makeSlice 97 (.int .i64 m) (.int .i64 m)).run Try.prog w = .ok (.slice (some ⟨w.heap.size, 0, none⟩) n n) (w.alloc (.cells (madeCells #[.bool false] n) 4))) ∧
    TN (w.alloc (.cells (madeCells #[.bool false] n) 4)) w.heap.size w.heap.size n (List.replicate n false) := by
  obtain ⟨h1, h2⟩ := RW.make (P := Try.prog) (t := 97) w Try.underlying97 bool_info rfl n (by omega) (by omega)
  refine ⟨fun m hm => by subst hm; exact h1, ?_⟩
  unfold TN bools
  rw [List.map_replicate]; exact h2
/-- who has been seen -/
def SeenK (a : List Int) (t : List Bool) (k : Nat) : Prop := t.length = a.length ∧ ∀ p, p < a.length → (t.getD p false = true ↔ ∃ j, j < k ∧ a.getD j 0 = (p : Int))
theorem getD_setB {r : List Bool} {i j : Nat} {u : Bool} (hi : i < r.length) : (r.set i u).getD j false = if j = i then u else r.getD j false := by
  rw [List.getD_eq_getElem?_getD, List.getElem?_set]
  by_cases h : i = j
  · subst h; simp [hi]
  · rw [if_neg h, if_neg (fun e => h e.symm), List.getD_eq_getElem?_getD]
theorem SeenK.start {a : List Int} : SeenK a (List.replicate a.length false) 0 := by
  refine ⟨by simp, fun p hp => ?_⟩
  rw [List.getD_eq_getElem?_getD, List.getElem?_replicate, if_pos hp]
  constructor
  · intro h; cases h
  · rintro ⟨j, hj, _⟩; omega
theorem SeenK.step {a : List Int} {t : List Bool} {k : Nat} (h : SeenK a t k) (hk : k < a.length) (h0 : 0 ≤ a.getD k 0 ∧ a.getD k 0 < (a.length : Int)) : SeenK a (t.set (a.getD k 0).toNat true) (k + 1) := by
  have hlt : (a.getD k 0).toNat < t.length := by rw [h.1]; omega
  refine ⟨by rw [List.length_set, h.1], fun p hp => ?_⟩
  rw [getD_setB hlt]
  by_cases e : p = (a.getD k 0).toNat
  · rw [if_pos e]
    exact ⟨fun _ => ⟨k, by omega, by omega⟩, fun _ => rfl⟩
  · rw [if_neg e, h.2 p hp]
    constructor
    · rintro ⟨j, hj, e2⟩; exact ⟨j, by omega, e2⟩
    · rintro ⟨j, hj, e2⟩
      rcases Nat.lt_or_ge j k with h3 | h3
      · exact ⟨j, h3, e2⟩
      · have : j = k := by omega
        subst this
        exact absurd (by omega) e
theorem nodupK {a : List Int} {k : Nat} (h : ∀ i j, i < j → j < k → a.getD i 0 ≠ a.getD j 0) (hn : ∀ j, j < k → a.getD j 0 ≠ a.getD k 0) : ∀ i j, i < j → j < k + 1 → a.getD i 0 ≠ a.getD j 0 := by
  intro i j h1 h2
  rcases Nat.lt_or_ge j k with h3 | h3
  · exact h i j h1 h3
  · have : j = k := by omega
    subst this; exact hn i h1

set_option maxRecDepth 20000 in
set_option maxHeartbeats 4000000 in
theorem ranks_any (ar : List Int) (v : Value) (w : World) (hr : RI w v ar) (hl : (ar.length : Int) ≤ 30000) :
    Calls Try.prog 42 #[v] w fun e w' => ∃ u, e = .returned (.tuple #[u, .int .i64 (rkE ar)]) ∧ Ext w w' ∧ RI w' u (toI (rkL ar)) := by
  obtain ⟨a, c, rfl, hlc, _, hs⟩ := hr.shape
  have HS := Lib.hid hs
  have hmk := make_run w ar.length (by omega) _ rfl
  have h0 := Lib.hid (IN.make w ar.length (by omega))
  generalize hw1 : w.alloc (.cells (madeCells #[.int .i64 0] ar.length) 3) = w1 at *
  have hmk2 := (TN.make w1 ar.length (by omega)).1 _ rfl
  have t0 := Lib.hid (TN.make w1 ar.length (by omega)).2
  have X1 := Lib.hid (show Ext w w1 from hw1 ▸ (Ext.refl w).alloc _)
  have hsz := Lib.hid (show w1.heap.size = w.heap.size + 1 from by rw [← hw1, World.size_alloc])
  have HK0 := Lib.hid (RanksK.start (a := ar) (z := 0))
  have HT0 := Lib.hid (SeenK.start (a := ar))
  clear hr hs hw1
  go_enter Try.func42, Try.ntmps42
  go_wp2
  clear hmk hmk2
  go_loopw [16] (fun i wr => ∃ (k : Nat) (r : List Int) (t : List Bool), k ≤ ar.length ∧ i = .int .i64 (k : Int) ∧ IN wr w.heap.size w.heap.size ar.length r ∧ TN wr w.heap.size w1.heap.size ar.length t ∧ RanksK ar r 0 k ∧ SeenK ar t k ∧ (∀ i j, i < j → j < k → ar.getD i 0 ≠ ar.getD j 0) ∧ Ext w wr) (fun i _ => ar.length - (intOf i).toNat)
  case atStart => exact ⟨0, _, _, by omega, rfl, h0.out.ext ((Ext.refl _).alloc _), RW.mono t0.out X1.out.le, HK0.out, HT0.out, fun i j _ h => by omega, X1.out.trans ((Ext.refl _).alloc _)⟩
  case round =>
    obtain ⟨k, r, t, hk, rfl, hi, ht, hrk, hse, hnd, hx⟩ := hrel
    by_cases hlt : k < ar.length
    · obtain ⟨g, o, rfl, hcell⟩ := HS.out (by omega)
      have cx := Go.cell_later hx (hcell k hlt)
      have HX := Lib.hid hx
      have hki : (k : Int) < (ar.length : Int) := by omega
      have hci : (ar.length : Int) ≤ (c : Int) := by omega
      by_cases hin : 0 ≤ ar.getD k 0 ∧ ar.getD k 0 < (ar.length : Int)
      · obtain ⟨p, hp⟩ : ∃ p : Nat, ar.getD k 0 = (p : Int) := ⟨(ar.getD k 0).toNat, by omega⟩
        have hpl : p < ar.length := by omega
        have hpi : (p : Int) < (ar.length : Int) := by omega
        have n3 : ¬ (p : Int) < 0 := by omega
        have n4 : ¬ (ar.length : Int) ≤ (p : Int) := by omega
        have ct := ht.cell p hpl
        have ci := hi.cell p hpl
        have fi := hi.free p hpl
        cases hq : t.getD p false with
        | true =>
          obtain ⟨j, hj, e⟩ := (hse.2 p hpl).1 hq
          have HF := Lib.hid (rk_false (okP_twice hj hlt (e.trans hp.symm)))
          rw [hq] at ct
          rw [hp] at cx
          clear hse hnd hrk ht hi hin hcell hq e hp hx ci fi
          go_wp2
          go_ret2
          exact ⟨_, by rw [HF.out.1]; rfl, HX.out, by rw [HF.out.2]; exact RI.nil _⟩
        | false =>
          have hne : ∀ j, j < k → ar.getD j 0 ≠ ar.getD k 0 := fun j hj e => by
            have := (hse.2 p hpl).2 ⟨j, hj, e.trans hp⟩
            rw [hq] at this; cases this
          have hne2 : w1.heap.size ≠ w.heap.size := by have := hsz.out; omega
          have HRK := hrk.step hlt hin hne
          have HSE := hse.step hlt hin
          rw [hp, Int.toNat_natCast] at HRK HSE
          have HRK := Lib.hid HRK
          have HSE := Lib.hid HSE
          have HND := Lib.hid (nodupK hnd hne)
          have ft := Lib.hid (show (wr.setCell ⟨w.heap.size, p, none⟩ (.int .i64 (k : Int))).frozen? ⟨w1.heap.size, p, none⟩ = false from (ht.far (fun e => hne2 e.symm) _).free p hpl)
          have ct2 := Lib.hid (show (wr.setCell ⟨w.heap.size, p, none⟩ (.int .i64 (k : Int))).cell? ⟨w1.heap.size, p, none⟩ = _ from (ht.far (fun e => hne2 e.symm) _).cell p hpl)
          have HI := Lib.hid ((hi.set p (k : Int)).far (p := ⟨w1.heap.size, p, none⟩) hne2 (.bool true))
          have HT := Lib.hid ((ht.far (p := ⟨w.heap.size, p, none⟩) (fun e => hne2 e.symm) (.int .i64 (k : Int))).set p true)
          have HX2 := Lib.hid (Ext.set (Ext.set hx (p := ⟨w.heap.size, p, none⟩) (Nat.le_refl _) (.int .i64 (k : Int))) (p := ⟨w1.heap.size, p, none⟩) (by have := hsz.out; show w.heap.size ≤ w1.heap.size; omega) (.bool true))
          rw [hq] at ct
          rw [hp] at cx
          clear hse hnd hrk ht hi hin hcell hp hx hne hne2
          have ft := ft.out
          have ct2 := ct2.out
          go_wp2
          go_roundw
          case rel => exact ⟨k + 1, _, _, by omega, by go_num, HI.out, HT.out, HRK.out, HSE.out, HND.out, HX2.out⟩
          case measure => simp [intOf]; omega
      · have HF := Lib.hid (rk_false (okP_bad hlt hin))
        have n5 : ar.getD k 0 < 0 ∨ (¬ ar.getD k 0 < 0 ∧ (ar.length : Int) ≤ ar.getD k 0) := by omega
        clear hx hi ht hrk hse hnd hcell hin
        generalize ar.getD k 0 = x at *
        rcases n5 with h1 | ⟨h1, h2⟩
        all_goals
          (go_wp2
           go_ret2
           exact ⟨_, by rw [HF.out.1]; rfl, HX.out, by rw [HF.out.2]; exact RI.nil _⟩)
    · have e : k = ar.length := by omega
      subst e
      have hok := RanksK.ok hrk hnd
      have HD := Lib.hid (RanksK.done hrk hok)
      have HE := Lib.hid (rk_true hok)
      have HI := Lib.hid hi.ri
      have HX := Lib.hid hx
      clear hrk hse hi ht hnd hok hx
      go_wp2
      go_ret2
      exact ⟨_, by rw [HE.out]; rfl, HX.out, by rw [← HD.out]; exact HI.out⟩
end Go.Proofs.Ytlhjbfckcfeikaa
namespace Go.Proofs.Ytlhjbfckcfeikaa
set_option linter.unusedVariables false
set_option linter.unusedSimpArgs false
open Go.RowKit

attribute [local go_sem] S_size S_toList S_extract S_beq S_bne S_empty S_nil u8_beq


end Go.Proofs.Ytlhjbfckcfeikaa
