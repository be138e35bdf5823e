/- FileFalls and FileSafe: the plain laws. -/
import Derived.Test.YtahnjfbcklifoaaFileH
namespace Go.Proofs.Ytahnjfbcklifoaa
set_option linter.unusedVariables false
set_option linter.unusedSimpArgs false
open Go.RowKit

theorem garbledL_nil (s : List UInt8) : garbledL s [] = s := by
  unfold garbledL; simp
theorem leftL_self (b : List UInt8) (cut : Int) (mark : List UInt8) : leftL b b cut mark = b := by
  unfold leftL
  rw [if_pos (by simp)]
  simp [garbledL]
theorem leftL_append (a b : List UInt8) (cut : Int) : ∃ k : Nat, k ≤ b.length ∧ (¬ cut < (b.length : Int) → k = b.length) ∧ ∀ mark, leftL a (a ++ b) cut mark = a ++ garbledL (b.take k) mark := by
  refine ⟨(min (max cut 0) (b.length : Int)).toNat, by omega, by omega, fun mark => ?_⟩
  unfold leftL
  rw [if_pos (by simp), List.drop_left]
/-- all that FileFalls asks of what is left -/
theorem fall_facts (a b : List UInt8) (cut : Int) (mark : List UInt8) : ∃ (N W : Nat),
    (leftL a (a ++ b) cut mark).length = N ∧ (leftL a (a ++ b) cut []).length = N ∧ a.length ≤ N ∧ N ≤ a.length + b.length ∧
    ((leftL a (a ++ b) cut mark).take a.length == a) = true ∧ ((a ++ b).take N == leftL a (a ++ b) cut []) = true ∧
    (W : Int) = max (a.length : Int) ((N : Int) - 64) ∧ W ≤ N ∧
    ((leftL a (a ++ b) cut mark).take W == (a ++ b).take W) = true ∧ (¬ cut < (b.length : Int) → N = a.length + b.length) := by
  obtain ⟨k, hk, hc, h⟩ := leftL_append a b cut
  have hl : (b.take k).length = k := by rw [List.length_take]; omega
  refine ⟨a.length + k, (max (a.length : Int) (((a.length + k : Nat) : Int) - 64)).toNat, ?_, ?_, by omega, by omega, ?_, ?_, by omega, by omega, ?_, fun h => by rw [hc h]⟩
  · rw [h, List.length_append, garbledL_length, hl]
  · rw [h, List.length_append, garbledL_length, hl]
  · rw [h]; simp
  · rw [h, garbledL_nil, List.take_append, List.take_of_length_le (by omega), show a.length + k - a.length = k by omega]; simp
  · rw [h]
    obtain ⟨W, hW⟩ : ∃ W, W = (max (a.length : Int) (((a.length + k : Nat) : Int) - 64)).toNat := ⟨_, rfl⟩
    rw [← hW]
    have e1 : (a ++ garbledL (b.take k) mark).take W = a ++ (b.take k).take (W - a.length) := by
      rw [List.take_append, List.take_of_length_le (by omega)]
      unfold garbledL
      rw [hl, List.take_append, List.take_take]
      have : W - a.length - ((b.take k).take (k - min (min mark.length 64) k)).length = 0 := by
        rw [List.length_take, hl]; omega
      rw [this, List.take_zero, List.append_nil]
      congr 2
      omega
    have e2 : (a ++ b).take W = a ++ (b.take k).take (W - a.length) := by
      rw [List.take_append, List.take_of_length_le (by omega), List.take_take]
      congr 2
      omega
    rw [e1, e2]; simp
end Go.Proofs.Ytahnjfbcklifoaa
