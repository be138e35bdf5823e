/- gram: marks as four words, and as 256 bits, in plain Lean. -/
import Derived.Test.YtjbacmhkmofpkaaRow
namespace Go.Proofs.Ytjbacmhkmofpkaa
set_option linter.unusedVariables false

/-- is mark i in a set of words? -/
def bitL (m : List UInt64) (i : Nat) : Bool := (m.getD (i / 64) 0).toNat.testBit (i % 64)
def boolsL (m : List UInt64) : List Bool := (List.range 256).map (bitL m)
def unionL (m n : List UInt64) : List UInt64 := (List.range 4).map fun k => m.getD k 0 ||| n.getD k 0
def withL (m : List UInt64) (n : Nat) : List UInt64 := m.set (n / 64) (m.getD (n / 64) 0 ||| 1 <<< UInt64.ofNat (n % 64))
def emptyL : List UInt64 := [0, 0, 0, 0]
theorem unionL_length (m n : List UInt64) : (unionL m n).length = 4 := by simp [unionL]
theorem withL_length (m : List UInt64) (n : Nat) : (withL m n).length = m.length := by simp [withL]
theorem unionL_get (m n : List UInt64) {k : Nat} (h : k < 4) : (unionL m n).getD k 0 = m.getD k 0 ||| n.getD k 0 := by
  simp [unionL, List.getD_eq_getElem?_getD, h]
theorem bit_union (m n : List UInt64) {i : Nat} (h : i < 256) : bitL (unionL m n) i = (bitL m i || bitL n i) := by
  unfold bitL
  rw [unionL_get m n (by omega), UInt64.toNat_or, Nat.testBit_or]
theorem bit_shift {j k : Nat} (hj : j < 64) (hk : k < 64) : ((1 : UInt64) <<< UInt64.ofNat j).toNat.testBit k = decide (k = j) := by
  rw [UInt64.toNat_shiftLeft, UInt64.toNat_ofNat', UInt64.toNat_one, Nat.mod_eq_of_lt (show j < 2 ^ 64 by omega), Nat.mod_eq_of_lt hj, Nat.testBit_mod_two_pow, decide_eq_true hk, Bool.true_and, Nat.testBit_shiftLeft]
  rcases Nat.lt_trichotomy k j with h | h | h
  · rw [decide_eq_false (by omega), Bool.false_and, decide_eq_false (by omega)]
  · subst h; simp
  · rw [decide_eq_true (by omega), Bool.true_and, decide_eq_false (by omega)]
    obtain ⟨d, hd⟩ : ∃ d, k - j = d + 1 := ⟨k - j - 1, by omega⟩
    rw [hd, Nat.testBit_succ]; simp
theorem bit_with (m : List UInt64) (hm : m.length = 4) {n i : Nat} (hn : n < 256) (h : i < 256) : bitL (withL m n) i = (bitL m i || decide (i = n)) := by
  unfold bitL withL
  by_cases he : n / 64 = i / 64
  · rw [List.getD_eq_getElem?_getD, ← he, List.getElem?_set_self (by omega), Option.getD_some, UInt64.toNat_or, Nat.testBit_or, bit_shift (by omega) (by omega)]
    congr 1
    rw [decide_eq_decide]; omega
  · rw [List.getD_eq_getElem?_getD, List.getElem?_set_ne he, ← List.getD_eq_getElem?_getD, decide_eq_false (by rintro rfl; exact he rfl), Bool.or_false]
theorem bit_empty (i : Nat) : bitL emptyL i = false := by
  unfold bitL emptyL
  have : ([0, 0, 0, 0] : List UInt64).getD (i / 64) 0 = 0 := by
    rcases hk : i / 64 with _ | _ | _ | _ | k <;> simp
  rw [this]; simp
/-- sets of words are told by their bits -/
theorem words_ext {m n : List UInt64} (hm : m.length = 4) (hn : n.length = 4) (h : ∀ i, i < 256 → bitL m i = bitL n i) : m = n := by
  apply List.ext_getElem (by omega)
  intro k h1 h2
  apply UInt64.toNat_inj.1
  apply Nat.eq_of_testBit_eq
  intro j
  by_cases hj : j < 64
  · have := h (64 * k + j) (by omega)
    unfold bitL at this
    rw [show (64 * k + j) / 64 = k by omega, show (64 * k + j) % 64 = j by omega] at this
    simpa [List.getD_eq_getElem?_getD, h1, h2] using this
  · rw [Nat.testBit_lt_two_pow (Nat.lt_of_lt_of_le (UInt64.toNat_lt _) (Nat.pow_le_pow_right (by omega) (by omega))), Nat.testBit_lt_two_pow (Nat.lt_of_lt_of_le (UInt64.toNat_lt _) (Nat.pow_le_pow_right (by omega) (by omega)))]
end Go.Proofs.Ytjbacmhkmofpkaa
