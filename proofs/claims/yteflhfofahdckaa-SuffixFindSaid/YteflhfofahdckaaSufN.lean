/- suffix: plain facts of Find. -/
import Derived.Test.YteflhfofahdckaaSufM
namespace Go.Proofs.Yteflhfofahdckaa
set_option linter.unusedVariables false
set_option linter.unusedSimpArgs false
open Go.RowKit

def preB (what x : List UInt8) : Bool := what.isPrefixOf x
theorem preB_iff {what x : List UInt8} : preB what x = true ↔ what <+: x := List.isPrefixOf_iff_prefix
theorem pre_ge {what x : List UInt8} (h : preB what x = true) : Op.bytesLess x what = false := by
  obtain ⟨t, rfl⟩ := preB_iff.1 h
  have := bl_append what t []
  rw [List.append_nil] at this
  rw [this]; exact bl_nil t
theorem pre_between : ∀ (what x t : List UInt8), Op.bytesLess x what = false → Op.bytesLess x (what ++ t) = true → what <+: x
  | [], x, t, _, _ => List.nil_prefix
  | c :: w, [], t, h, _ => by cases h
  | c :: w, d :: x, t, h1, h2 => by
    have h1' : ¬ Op.bytesLess (d :: x) (c :: w) = true := by rw [h1]; simp
    rw [bl_cons] at h1'
    rw [List.cons_append, bl_cons] at h2
    rcases h2 with h2 | ⟨rfl, h2⟩
    · exact absurd (.inl h2) h1'
    · obtain ⟨u, rfl⟩ := pre_between w x t (by
        cases h : Op.bytesLess x w with
        | false => rfl
        | true => exact absurd (.inr ⟨rfl, h⟩) h1') h2
      exact ⟨u, rfl⟩
/-- is end i less than what? -/
def geAt (s : List UInt8) (a : List Int) (what : List UInt8) (i : Nat) : Bool := !Op.bytesLess (endAt s a i) what
def preAt (s : List UInt8) (a : List Int) (what : List UInt8) (i : Nat) : Bool := preB what (endAt s a i)
theorem toI_placeN (l : List Nat) (i : Nat) : placeN (toI l) i = l.getD i 0 := by
  unfold placeN; rw [toI_getD, Int.toNat_natCast]
section
variable {s what : List UInt8}
theorem ends_less {i j : Nat} (hij : i < j) (hj : j < s.length + 1) : Op.bytesLess (endAt s (toI (arrayL s)) i) (endAt s (toI (arrayL s)) j) = true := by
  have := (arrayL_is s).less hij hj
  unfold endAt; rw [toI_placeN, toI_placeN]; exact this
theorem ge_mono {i j : Nat} (hij : i ≤ j) (hj : j < s.length + 1) (h : geAt s (toI (arrayL s)) what i = true) : geAt s (toI (arrayL s)) what j = true := by
  rcases Nat.lt_or_ge i j with h1 | h1
  · unfold geAt at *
    have h2 := ends_less h1 hj
    cases h3 : Op.bytesLess (endAt s (toI (arrayL s)) j) what with
    | false => rfl
    | true => rw [bl_trans _ _ _ h2 h3] at h; cases h
  · have : i = j := by omega
    subst this; exact h
theorem pre_mono {i j : Nat} (hij : i ≤ j) (hj : j < s.length + 1) (hg : geAt s (toI (arrayL s)) what i = true) (h : preAt s (toI (arrayL s)) what j = true) : preAt s (toI (arrayL s)) what i = true := by
  rcases Nat.lt_or_ge i j with h1 | h1
  · have h2 := ends_less h1 hj
    obtain ⟨t, e⟩ := preB_iff.1 h
    unfold geAt at hg
    rw [← e] at h2
    exact preB_iff.2 (pre_between what _ t (by simpa using hg) h2)
  · have : i = j := by omega
    subst this; exact h
theorem pre_geAt {i : Nat} {a : List Int} (h : preAt s a what i = true) : geAt s a what i = true := by
  unfold geAt; rw [pre_ge h]; rfl
end
/-- the first from which on all are -/
def FirstOf (P : Nat → Bool) (n r : Nat) : Prop := r ≤ n ∧ (∀ i, i < r → P i = false) ∧ ∀ i, r ≤ i → i < n → P i = true
/-- first and last, by a scan -/
def scanN (Q : Nat → Bool) : Nat → Int × Int
  | 0 => (1, 0)
  | k + 1 => if Q k = true then (if (scanN Q k).2 < (scanN Q k).1 then ((k : Int), (k : Int)) else ((scanN Q k).1, (k : Int))) else scanN Q k
theorem scanN_mid {Q : Nat → Bool} {n lo d : Nat} (h : ∀ i, i < n → (Q i = true ↔ lo ≤ i ∧ i < lo + d)) : ∀ k, k ≤ n →
    scanN Q k = if lo < min k (lo + d) then ((lo : Int), ((min k (lo + d) : Nat) : Int) - 1) else (1, 0)
  | 0, _ => by rw [if_neg (by omega)]; rfl
  | k + 1, hk => by
    have ih := scanN_mid h k (by omega)
    have hq := h k (by omega)
    unfold scanN
    by_cases hc : lo ≤ k ∧ k < lo + d
    · rw [if_pos (hq.2 hc), ih, if_pos (show lo < min (k + 1) (lo + d) by omega), show min (k + 1) (lo + d) = k + 1 by omega]
      by_cases h2 : lo < k
      · rw [if_pos (show lo < min k (lo + d) by omega)]
        have h3 : ¬ ((min k (lo + d) : Nat) : Int) - 1 < (lo : Int) := by omega
        show (if ((min k (lo + d) : Nat) : Int) - 1 < (lo : Int) then _ else ((lo : Int), (k : Int))) = _
        rw [if_neg h3]
        simp
      · rw [if_neg (show ¬ lo < min k (lo + d) by omega)]
        have h3 : lo = k := by omega
        show (if (0 : Int) < 1 then ((k : Int), (k : Int)) else _) = _
        rw [if_pos (by decide), h3]
        simp
    · rw [if_neg (fun e => hc (hq.1 e)), ih]
      by_cases h2 : lo < min k (lo + d)
      · rw [if_pos h2, if_pos (by omega), show min (k + 1) (lo + d) = min k (lo + d) by omega]
      · rw [if_neg h2, if_neg (by omega)]
def fndL (s : List UInt8) (a : List Int) (what : List UInt8) : Int × Int := scanN (preAt s a what) a.length
theorem fnd_eq {s what : List UInt8} {lo d : Nat} (h1 : FirstOf (geAt s (toI (arrayL s)) what) (s.length + 1) lo)
    (h2 : FirstOf (fun i => !preAt s (toI (arrayL s)) what (lo + i)) (s.length + 1 - lo) d) :
    (∀ i, i < s.length + 1 → (preAt s (toI (arrayL s)) what i = true ↔ lo ≤ i ∧ i < lo + d)) ∧
    fndL s (toI (arrayL s)) what = if d = 0 then (1, 0) else ((lo : Int), (lo : Int) + (d : Int) - 1) := by
  have hl : (toI (arrayL s)).length = s.length + 1 := by rw [toI_length, (arrayL_is s).length]
  have hb : ∀ i, i < s.length + 1 → (preAt s (toI (arrayL s)) what i = true ↔ lo ≤ i ∧ i < lo + d) := by
    intro i hi
    constructor
    · intro h
      have hlo : lo ≤ i := Nat.not_lt.1 fun hlt => by
        have := h1.2.1 i hlt
        rw [pre_geAt h] at this; cases this
      refine ⟨hlo, Nat.not_le.1 fun hge => ?_⟩
      have := h2.2.2 (i - lo) (by omega) (by omega)
      simp only [show lo + (i - lo) = i by omega, h] at this
      cases this
    · rintro ⟨ha, hb⟩
      have := h2.2.1 (i - lo) (by omega)
      simp only [show lo + (i - lo) = i by omega] at this
      simpa using this
  refine ⟨hb, ?_⟩
  unfold fndL
  rw [hl, scanN_mid hb _ (Nat.le_refl _)]
  have h3 := h2.1
  have h4 := h1.1
  by_cases e : d = 0
  · rw [if_pos e, if_neg (by omega)]
  · rw [if_neg e, if_pos (by omega), show min (s.length + 1) (lo + d) = lo + d by omega]
    rw [Int.natCast_add]
end Go.Proofs.Yteflhfofahdckaa
