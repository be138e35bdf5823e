/- gram: the bytes of marks, in plain Lean. -/
import Derived.Test.YtjbacmhkmofpkaaGramD
import Derived.Test.YtjbacmhkmofpkaaGramP
namespace Go.Proofs.Ytjbacmhkmofpkaa
set_option linter.unusedVariables false

/-- byte i of a word -/
def byteAt (x : UInt64) (i : Nat) : UInt8 := UInt8.ofNat (x.toNat / 256 ^ i % 256)
/-- a word without its first bytes -/
def shifted (x : UInt64) (j : Nat) : UInt64 := UInt64.ofNat (x.toNat / 256 ^ j)
theorem shifted_nat (x : UInt64) (j : Nat) : (shifted x j).toNat = x.toNat / 256 ^ j := by
  unfold shifted
  rw [UInt64.toNat_ofNat']
  have := x.toNat_lt
  have h : x.toNat / 256 ^ j ≤ x.toNat := Nat.div_le_self _ _
  exact Nat.mod_eq_of_lt (by omega)
theorem shifted_zero (x : UInt64) : shifted x 0 = x := by
  apply UInt64.toNat_inj.1
  rw [shifted_nat]; simp
theorem shifted_succ (x : UInt64) (j : Nat) : (shifted x (j + 1)).toNat = (shifted x j).toNat / 256 := by
  rw [shifted_nat, shifted_nat, Nat.pow_succ, Nat.div_div_eq_div_mul]
theorem byteAt_nat (x : UInt64) (i : Nat) : (byteAt x i).toNat = (shifted x i).toNat % 256 := by
  unfold byteAt
  rw [shifted_nat, UInt8.toNat_ofNat']; omega
def bytesW (x : UInt64) (j : Nat) : List UInt8 := (List.range j).map (byteAt x)
theorem bytesW_succ (x : UInt64) (j : Nat) : bytesW x (j + 1) = bytesW x j ++ [byteAt x j] := by
  unfold bytesW; rw [List.range_succ, List.map_append]; rfl
def putTo (m : List UInt64) (k : Nat) : List UInt8 := (m.take k).flatMap fun x => bytesW x 8
def putL (m : W4) : List UInt8 := (List.range 32).map fun i => byteAt (m.1.getD (i / 8) 0) (i % 8)
theorem putTo_succ (m : List UInt64) (k : Nat) (h : k < m.length) : putTo m (k + 1) = putTo m k ++ bytesW (m.getD k 0) 8 := by
  unfold putTo
  rw [List.take_add_one, List.getElem?_eq_getElem h, Option.toList_some, List.flatMap_append]
  simp [List.getD_eq_getElem?_getD, h]
theorem putTo_all (m : W4) : putTo m.1 4 = putL m := by
  obtain ⟨m, hm⟩ := m
  match m, hm with
  | [a, b, c, d], _ => rfl
theorem putTo_length (m : List UInt64) (k : Nat) (h : m.length = 4) : (putTo m k).length ≤ 32 := by
  unfold putTo
  have : ∀ l : List UInt64, (l.flatMap fun x => bytesW x 8).length = l.length * 8 := fun l => by
    induction l with
    | nil => rfl
    | cons a l ih => rw [List.flatMap_cons, List.length_append, ih, List.length_cons, bytesW, List.length_map, List.length_range]; omega
  rw [this]
  have := List.length_take_le k m
  have := List.length_take_le' k m
  omega
/-- a bit of a row of bytes -/
theorem V256_testBit (l : List Nat) (h : ∀ a ∈ l, a < 256) (q : Nat) : (V256 l).testBit q = (l.getD (q / 8) 0).testBit (q % 8) := by
  induction l generalizing q with
  | nil => simp [V256]
  | cons a l ih =>
    have ha : a < 2 ^ 8 := h a (List.mem_cons_self ..)
    simp only [V256]
    rw [show a + 256 * V256 l = 2 ^ 8 * V256 l + a by omega, Nat.testBit_two_pow_mul_add _ ha]
    by_cases hq : q < 8
    · rw [if_pos hq, show q / 8 = 0 by omega, show q % 8 = q by omega]; rfl
    · rw [if_neg hq, ih (fun b hb => h b (List.mem_cons_of_mem _ hb)), show q / 8 = (q - 8) / 8 + 1 by omega, show (q - 8) % 8 = q % 8 by omega]; rfl
/-- the words of bytes, as the loop makes them: n bytes are done, from the last one on -/
def u64of (b : UInt8) : UInt64 := UInt64.ofNat b.toNat
def getN (l : List UInt8) : Nat → List UInt64
  | 0 => emptyL
  | n + 1 => (getN l n).set ((31 - n) / 8) ((getN l n).getD ((31 - n) / 8) 0 <<< 8 ||| u64of (l.getD (31 - n) 0))
theorem getN_length (l : List UInt8) (n : Nat) : (getN l n).length = 4 := by
  induction n with
  | zero => rfl
  | succ n ih => rw [getN, List.length_set, ih]
def getW (l : List UInt8) : W4 := ⟨getN l 32, getN_length l 32⟩
def word8 (l : List UInt8) (o : Nat) : UInt64 :=
  (((((((((0 : UInt64) <<< 8 ||| u64of (l.getD (o + 7) 0)) <<< 8 ||| u64of (l.getD (o + 6) 0)) <<< 8 ||| u64of (l.getD (o + 5) 0)) <<< 8 ||| u64of (l.getD (o + 4) 0)) <<< 8 ||| u64of (l.getD (o + 3) 0)) <<< 8 ||| u64of (l.getD (o + 2) 0)) <<< 8 ||| u64of (l.getD (o + 1) 0)) <<< 8 ||| u64of (l.getD o 0))
theorem getN_all (l : List UInt8) : getN l 32 = [word8 l 0, word8 l 8, word8 l 16, word8 l 24] := by
  simp [getN, emptyL, word8]
theorem shl_or (x : UInt64) (b : UInt8) (h : x.toNat < 2 ^ 56) : (x <<< 8 ||| u64of b).toNat = b.toNat + 256 * x.toNat := by
  have hb := b.toNat_lt
  rw [UInt64.toNat_or, UInt64.toNat_shiftLeft, show ((8 : UInt64).toNat % 64) = 8 from rfl, u64of, UInt64.toNat_ofNat', Nat.shiftLeft_eq, Nat.mod_eq_of_lt (by omega), Nat.mod_eq_of_lt (by omega)]
  rw [show x.toNat * 2 ^ 8 = 2 ^ 8 * x.toNat by omega, ← Nat.two_pow_add_eq_or_of_lt (by omega)]
  omega
theorem word8_nat (l : List UInt8) (o : Nat) : (word8 l o).toNat = V256 ((List.range 8).map fun j => (l.getD (o + j) 0).toNat) := by
  have b0 := (l.getD o 0).toNat_lt
  have b1 := (l.getD (o + 1) 0).toNat_lt
  have b2 := (l.getD (o + 2) 0).toNat_lt
  have b3 := (l.getD (o + 3) 0).toNat_lt
  have b4 := (l.getD (o + 4) 0).toNat_lt
  have b5 := (l.getD (o + 5) 0).toNat_lt
  have b6 := (l.getD (o + 6) 0).toNat_lt
  have b7 := (l.getD (o + 7) 0).toNat_lt
  unfold word8
  have e7 := shl_or 0 (l.getD (o + 7) 0) (by decide)
  rw [show (0 : UInt64).toNat = 0 from rfl] at e7
  generalize ((0 : UInt64) <<< 8 ||| u64of (l.getD (o + 7) 0)) = x7 at *
  have e6 := shl_or x7 (l.getD (o + 6) 0) (by omega)
  generalize (x7 <<< 8 ||| u64of (l.getD (o + 6) 0)) = x6 at *
  have e5 := shl_or x6 (l.getD (o + 5) 0) (by omega)
  generalize (x6 <<< 8 ||| u64of (l.getD (o + 5) 0)) = x5 at *
  have e4 := shl_or x5 (l.getD (o + 4) 0) (by omega)
  generalize (x5 <<< 8 ||| u64of (l.getD (o + 4) 0)) = x4 at *
  have e3 := shl_or x4 (l.getD (o + 3) 0) (by omega)
  generalize (x4 <<< 8 ||| u64of (l.getD (o + 3) 0)) = x3 at *
  have e2 := shl_or x3 (l.getD (o + 2) 0) (by omega)
  generalize (x3 <<< 8 ||| u64of (l.getD (o + 2) 0)) = x2 at *
  have e1 := shl_or x2 (l.getD (o + 1) 0) (by omega)
  generalize (x2 <<< 8 ||| u64of (l.getD (o + 1) 0)) = x1 at *
  have e0 := shl_or x1 (l.getD o 0) (by omega)
  generalize (x1 <<< 8 ||| u64of (l.getD o 0)) = x0 at *
  rw [e0, e1, e2, e3, e4, e5, e6, e7]
  rfl
/-- the bits of the words of bytes -/
theorem bit_get (l : List UInt8) (i : Nat) (hi : i < 256) : bitL (getW l).1 i = (l.getD (i / 8) 0).toNat.testBit (i % 8) := by
  have hw : ∀ o, (word8 l o).toNat.testBit (i % 64) = (l.getD (o + i % 64 / 8) 0).toNat.testBit (i % 8) := fun o => by
    rw [word8_nat, V256_testBit _ (by
      intro a ha
      obtain ⟨j, _, rfl⟩ := List.mem_map.1 ha
      exact (l.getD (o + j) 0).toNat_lt)]
    rw [show i % 64 % 8 = i % 8 by omega]
    congr 1
    rw [List.getD_eq_getElem?_getD, List.getElem?_map, List.getElem?_range (by omega)]; rfl
  unfold bitL getW
  simp only
  rw [getN_all]
  obtain h | h | h | h : i / 64 = 0 ∨ i / 64 = 1 ∨ i / 64 = 2 ∨ i / 64 = 3 := by omega
  · rw [h, show i / 8 = 0 + i % 64 / 8 by omega, ← hw]; rfl
  · rw [h, show i / 8 = 8 + i % 64 / 8 by omega, ← hw]; rfl
  · rw [h, show i / 8 = 16 + i % 64 / 8 by omega, ← hw]; rfl
  · rw [h, show i / 8 = 24 + i % 64 / 8 by omega, ← hw]; rfl
/-- the bits of the bytes of words -/
theorem bit_put (m : W4) (i : Nat) (hi : i < 256) : ((putL m).getD (i / 8) 0).toNat.testBit (i % 8) = bitL m.1 i := by
  have e : (putL m).getD (i / 8) 0 = byteAt (m.1.getD (i / 8 / 8) 0) (i / 8 % 8) := by
    unfold putL
    rw [List.getD_eq_getElem?_getD, List.getElem?_map, List.getElem?_range (by omega)]; rfl
  rw [e, byteAt_nat, shifted_nat]
  unfold bitL
  rw [show i / 8 / 8 = i / 64 by omega]
  generalize (m.1.getD (i / 64) 0).toNat = n
  rw [show (256 : Nat) ^ (i / 8 % 8) = 2 ^ (8 * (i / 8 % 8)) by rw [Nat.pow_mul], show (256 : Nat) = 2 ^ 8 from rfl, Nat.testBit_mod_two_pow, Nat.testBit_div_two_pow, decide_eq_true (by omega), Bool.true_and]
  congr 1; omega
theorem get_put (m : W4) : getW (putL m) = m := by
  apply Subtype.ext
  exact words_ext (getW _).2 m.2 fun i hi => by rw [bit_get _ _ hi, bit_put _ _ hi]
theorem putL_length (m : W4) : (putL m).length = 32 := by simp [putL]
end Go.Proofs.Ytjbacmhkmofpkaa
