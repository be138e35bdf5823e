/- suffix: how often something stands in a text (plain). -/
import Derived.Test.YteflhfofahdckaaSufU
namespace Go.Proofs.Yteflhfofahdckaa
set_option linter.unusedVariables false
set_option linter.unusedSimpArgs false
open Go.RowKit

/-- how many of the first k -/
def countB (Q : Nat → Bool) : Nat → Nat
  | 0 => 0
  | k + 1 => countB Q k + if Q k = true then 1 else 0
theorem countB_succ (Q : Nat → Bool) (k : Nat) : countB Q (k + 1) = countB Q k + if Q k = true then 1 else 0 := rfl
theorem countB_filter (Q : Nat → Bool) : ∀ k, countB Q k = ((List.range k).filter Q).length
  | 0 => rfl
  | k + 1 => by
    rw [List.range_succ, List.filter_append, List.length_append, ← countB_filter Q k, countB_succ]
    by_cases h : Q k = true
    · rw [if_pos h, List.filter_cons_of_pos h]; rfl
    · rw [if_neg h, List.filter_cons_of_neg h]; rfl
theorem countB_le (Q : Nat → Bool) : ∀ k, countB Q k ≤ k
  | 0 => Nat.le_refl _
  | k + 1 => by
    have := countB_le Q k
    rw [countB_succ]
    split <;> omega
theorem countB_band {Q : Nat → Bool} {n lo d : Nat} (h : ∀ i, i < n → (Q i = true ↔ lo ≤ i ∧ i < lo + d)) : ∀ k, k ≤ n → countB Q k = min k (lo + d) - min k lo
  | 0, _ => by simp [countB]
  | k + 1, hk => by
    have ih := countB_band h k (by omega)
    have hq := h k (by omega)
    rw [countB_succ]
    by_cases hc : lo ≤ k ∧ k < lo + d
    · rw [if_pos (hq.2 hc), ih]; omega
    · rw [if_neg (fun e => hc (hq.1 e)), ih]; omega
theorem countB_stop {Q : Nat → Bool} {k : Nat} : ∀ n, k ≤ n → (∀ i, k ≤ i → i < n → Q i = false) → countB Q n = countB Q k
  | 0, h, _ => by have : k = 0 := by omega
                  subst this; rfl
  | n + 1, h, hq => by
    rcases Nat.lt_or_ge n k with h1 | h1
    · have : k = n + 1 := by omega
      subst this; rfl
    · rw [← countB_stop n h1 (fun i h2 h3 => hq i h2 (by omega))]
      rw [countB_succ, hq n h1 (by omega)]; rfl
/-- does it stand here? -/
def occB (s what : List UInt8) (p : Nat) : Bool := preB what (s.drop p)
theorem occ_at {s what : List UInt8} {p : Nat} : ((s.take (p + what.length)).drop p == what) = occB s what p := by
  unfold occB
  rw [Bool.eq_iff_iff, beq_iff_eq, preB_iff, List.drop_take, show p + what.length - p = what.length by omega, List.prefix_iff_eq_take]
  exact ⟨fun h => h.symm, fun h => h.symm⟩
theorem occ_long {s what : List UInt8} {p : Nat} (h : s.length < p + what.length) (hp : p ≤ s.length) : occB s what p = false := by
  refine Bool.eq_false_iff.2 fun h1 => ?_
  have := (preB_iff.1 h1).length_le
  rw [List.length_drop] at this
  omega
theorem occ_len {s what : List UInt8} {p : Nat} (h : occB s what p = true) (hp : p ≤ s.length) : p + what.length ≤ s.length := by
  have := (preB_iff.1 h).length_le
  rw [List.length_drop] at this
  omega
theorem preAt_occ {s what : List UInt8} {i : Nat} : preAt s (toI (arrayL s)) what i = occB s what ((arrayL s).getD i 0) := by
  unfold preAt endAt occB; rw [toI_placeN]
theorem list_getD_map (a : List Nat) : (List.range a.length).map (fun i => a.getD i 0) = a := by
  refine List.ext_getElem (by simp) fun i h1 h2 => ?_
  rw [List.getElem_map, List.getElem_range, getD_lt h2]
theorem count_occ (s what : List UInt8) : countB (preAt s (toI (arrayL s)) what) (s.length + 1) = countB (occB s what) (s.length + 1) := by
  rw [countB_filter, countB_filter]
  have h1 := (arrayL_is s).1.filter (occB s what)
  rw [← h1.length_eq]
  conv => rhs; rw [← list_getD_map (arrayL s)]
  rw [List.filter_map, List.length_map, (arrayL_is s).length]
  congr 1
  refine List.filter_congr fun i _ => ?_
  exact preAt_occ
/-- what Find tells of a text's own array -/
theorem fnd_spec (s what : List UInt8) : ∃ lo d : Nat, lo + d ≤ s.length + 1 ∧ (∀ i, i < s.length + 1 → (occB s what ((arrayL s).getD i 0) = true ↔ lo ≤ i ∧ i < lo + d)) ∧ countB (occB s what) (s.length + 1) = d ∧
    fndE s (toI (arrayL s)) = 0 ∧ fndR s (toI (arrayL s)) what = if d = 0 then (1, 0) else ((lo : Int), (lo : Int) + (d : Int) - 1) := by
  obtain ⟨lo, hlo⟩ := first_exists (s.length + 1) (P := geAt s (toI (arrayL s)) what) fun i j h1 h2 h3 => ge_mono h1 h2 h3
  obtain ⟨d, hd⟩ := first_exists (P := fun i => !preAt s (toI (arrayL s)) what (lo + i)) (s.length + 1 - lo) (fun i j h1 h2 h3 => by
    have h4 := hlo.2.2 (lo + i) (by omega) (by omega)
    cases h5 : preAt s (toI (arrayL s)) what (lo + j) with
    | false => rfl
    | true =>
      rw [pre_mono (show lo + i ≤ lo + j by omega) (by omega) h4 h5] at h3
      cases h3)
  obtain ⟨hb, hr⟩ := fnd_eq hlo hd
  have hF := fnd_true (s := s) (what := what) (ar := toI (arrayL s)) (decide_eq_true rfl)
  have h1 := hlo.1
  have h2 := hd.1
  refine ⟨lo, d, by omega, fun i hi => ?_, ?_, hF.1, hF.2.trans hr⟩
  · rw [← preAt_occ]; exact hb i hi
  · rw [← count_occ, countB_band hb _ (Nat.le_refl _)]
    omega
end Go.Proofs.Yteflhfofahdckaa
