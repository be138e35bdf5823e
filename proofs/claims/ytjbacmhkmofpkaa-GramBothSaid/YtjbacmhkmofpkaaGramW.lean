/- gram: the plain laws of marks. -/
import Derived.Test.YtjbacmhkmofpkaaGramV
namespace Go.Proofs.Ytjbacmhkmofpkaa
set_option linter.unusedVariables false

theorem w4_ext {m n : W4} (h : ∀ i, i < 256 → bitL m.1 i = bitL n.1 i) : m = n := Subtype.ext (words_ext m.2 n.2 h)
theorem bit_union4 (m n : W4) {i : Nat} (h : i < 256) : bitL (union4 m n).1 i = (bitL m.1 i || bitL n.1 i) := bit_union _ _ h
theorem bit_foldl (ms : List W4) (s : W4) {i : Nat} (h : i < 256) : bitL (ms.foldl union4 s).1 i = (bitL s.1 i || ms.any fun m => bitL m.1 i) := by
  induction ms generalizing s with
  | nil => simp
  | cons a ms ih => rw [List.foldl_cons, ih, bit_union4 _ _ h, List.any_cons, Bool.or_assoc]
theorem bit_fold (ms : List W4) {i : Nat} (h : i < 256) : bitL (foldL ms).1 i = ms.any fun m => bitL m.1 i := by
  rw [foldL, bit_foldl _ _ h, show bitL empty4.1 i = false from bit_empty i, Bool.false_or]
theorem bit_ofN (l : List UInt8) (k : Nat) {i : Nat} (h : i < 256) : bitL (ofN l k).1 i = true ↔ ∃ j, j < k ∧ markAt l j = i := by
  induction k with
  | zero => simp [ofN, show bitL empty4.1 i = false from bit_empty i]
  | succ k ih =>
    rw [ofN_succ, show bitL (with4 (ofN l k) (markAt l k)).1 i = _ from bit_with _ (ofN l k).2 (by have := markAt_lt l k; omega) h, Bool.or_eq_true, ih, decide_eq_true_iff]
    constructor
    · rintro (⟨j, hj, e⟩ | e)
      · exact ⟨j, by omega, e⟩
      · exact ⟨k, by omega, e.symm⟩
    · rintro ⟨j, hj, e⟩
      by_cases hk : j = k
      · subst hk; exact .inr e.symm
      · exact .inl ⟨j, by omega, e⟩
theorem bit_of (l : List UInt8) {i : Nat} (h : i < 256) : bitL (ofL l).1 i = true ↔ ∃ j, j + 2 < l.length ∧ markAt l j = i := by
  rw [ofL, bit_ofN _ _ h]
  constructor
  · rintro ⟨j, hj, e⟩; exact ⟨j, by omega, e⟩
  · rintro ⟨j, hj, e⟩; exact ⟨j, by omega, e⟩
/-- may these be the marks of something? -/
theorem may_iff (m w : W4) : (unionL m.1 w.1 == m.1) = true ↔ ∀ i, i < 256 → bitL w.1 i = true → bitL m.1 i = true := by
  rw [beq_iff_eq]
  constructor
  · intro h i hi hw
    have := bit_union m.1 w.1 hi
    rw [h] at this
    rw [this, hw, Bool.or_true]
  · intro h
    apply words_ext (unionL_length _ _) m.2
    intro i hi
    rw [bit_union _ _ hi]
    cases hw : bitL w.1 i with
    | false => rw [Bool.or_false]
    | true => rw [h i hi hw]; rfl
theorem may_mayB (m w : W4) : (unionL m.1 w.1 == m.1) = mayB (boolsL m.1) (boolsL w.1) := by
  rw [Bool.eq_iff_iff, may_iff, mayB, List.all_eq_true]
  constructor
  · intro h i hi
    have hi := List.mem_range.1 hi
    rw [boolsL_get _ _ hi, boolsL_get _ _ hi]
    cases hw : bitL w.1 i with
    | false => rfl
    | true => rw [h i hi hw]; rfl
  · intro h i hi hw
    have := h i (List.mem_range.2 hi)
    rw [boolsL_get _ _ hi, boolsL_get _ _ hi, hw] at this
    simpa using this
theorem bools_two (a b : W4) : boolsL (foldL [a, b]).1 = orB (boolsL a.1) (boolsL b.1) := by
  rw [← bools_union]
  congr 1
  apply congrArg Subtype.val
  apply w4_ext
  intro i hi
  rw [bit_fold _ hi, bit_union4 _ _ hi]; simp
theorem count_range (a b : Nat) (p : Nat → Bool) : ((List.range (a + b)).map p).count true = ((List.range a).map p).count true + ((List.range b).map fun i => p (a + i)).count true := by
  rw [List.range_add, List.map_append, List.count_append, List.map_map]; rfl
theorem count_word (m : List UInt64) (k : Nat) : ((List.range 64).map fun i => bitL m (64 * k + i)).count true = cntN 64 (m.getD k 0).toNat := by
  rw [cnt_bits]
  congr 1
  apply List.map_congr_left
  intro i hi
  have hi := List.mem_range.1 hi
  unfold bitL
  rw [show (64 * k + i) / 64 = k by omega, show (64 * k + i) % 64 = i by omega]
theorem count_bools (m : W4) : (boolsL m.1).count true = countL m.1 := by
  have e : countL m.1 = cntN 64 (m.1.getD 0 0).toNat + cntN 64 (m.1.getD 1 0).toNat + cntN 64 (m.1.getD 2 0).toNat + cntN 64 (m.1.getD 3 0).toNat := by
    obtain ⟨m, hm⟩ := m
    match m, hm with
    | [a, b, c, d], _ => simp [countL]; omega
  have h0 := count_word m.1 0
  have h1 := count_word m.1 1
  have h2 := count_word m.1 2
  have h3 := count_word m.1 3
  rw [e, ← h0, ← h1, ← h2, ← h3]
  unfold boolsL
  rw [show (256 : Nat) = 64 + (64 + (64 + 64)) from rfl, count_range, count_range, count_range]
  simp only [Nat.mul_zero, Nat.zero_add, Nat.mul_one, ← Nat.add_assoc]
theorem count_mono (a b : List Nat) (p q : Nat → Bool) (l : List Nat) (h : ∀ i ∈ l, p i = true → q i = true) : (l.map p).count true ≤ (l.map q).count true := by
  induction l with
  | nil => simp
  | cons x l ih =>
    have h1 := ih fun i hi => h i (List.mem_cons_of_mem _ hi)
    have h2 := h x (List.mem_cons_self ..)
    rw [List.map_cons, List.map_cons, List.count_cons, List.count_cons]
    cases hp : p x <;> cases hq : q x <;> simp_all <;> omega
theorem count_le (m n : W4) (h : ∀ i, i < 256 → bitL m.1 i = true → bitL n.1 i = true) : countL m.1 ≤ countL n.1 := by
  rw [← count_bools, ← count_bools]
  exact count_mono [] [] _ _ _ fun i hi => h i (List.mem_range.1 hi)

/-- a place of a part is one of the whole -/
theorem mark_part (l p : List UInt8) (o : Nat) (h : ∀ t, t < p.length → p.getD t 0 = l.getD (o + t) 0) (j : Nat) (hj : j + 2 < p.length) : markAt p j = markAt l (o + j) := by
  unfold markAt
  rw [h j (by omega), h (j + 1) (by omega), h (j + 2) (by omega), Nat.add_assoc, Nat.add_assoc]
/-- the marks of what stands in a text are among the text's -/
theorem of_part (l p : List UInt8) (o : Nat) (ho : o + p.length ≤ l.length) (h : ∀ t, t < p.length → p.getD t 0 = l.getD (o + t) 0) {i : Nat} (hi : i < 256) (hb : bitL (ofL p).1 i = true) : bitL (ofL l).1 i = true := by
  obtain ⟨j, hj, e⟩ := (bit_of p hi).1 hb
  exact (bit_of l hi).2 ⟨o + j, by omega, by rw [← mark_part l p o h j hj]; exact e⟩
theorem getD_app_left (a b : List UInt8) (t : Nat) (h : t < a.length) : a.getD t 0 = (a ++ b).getD (0 + t) 0 := by
  rw [Nat.zero_add, List.getD_eq_getElem?_getD, List.getD_eq_getElem?_getD, List.getElem?_append_left h]
theorem getD_app_right (a b : List UInt8) (t : Nat) : b.getD t 0 = (a ++ b).getD (a.length + t) 0 := by
  rw [List.getD_eq_getElem?_getD, List.getD_eq_getElem?_getD, List.getElem?_append_right (by omega), Nat.add_sub_cancel_left]
theorem getD_meet (a b : List UInt8) (t : Nat) (h : t < (a.drop (a.length - 2) ++ b.take 2).length) : (a.drop (a.length - 2) ++ b.take 2).getD t 0 = (a ++ b).getD (a.length - 2 + t) 0 := by
  rw [List.getD_eq_getElem?_getD, List.getD_eq_getElem?_getD]
  rw [List.length_append, List.length_drop, List.length_take] at h
  by_cases hl : t < (a.drop (a.length - 2)).length
  · rw [List.getElem?_append_left hl]
    rw [List.length_drop] at hl
    rw [List.getElem?_drop, List.getElem?_append_left (by omega)]
  · rw [List.getElem?_append_right (by omega)]
    rw [List.length_drop] at hl ⊢
    rw [List.getElem?_append_right (by omega), List.getElem?_take, if_pos (by omega)]
    congr 2; omega
/-- the marks of two texts, one behind the other -/
theorem of_both (a b : List UInt8) : ofL (a ++ b) = foldL [ofL a, ofL b, ofL (a.drop (a.length - 2) ++ b.take 2)] := by
  apply w4_ext
  intro i hi
  rw [bit_fold _ hi, Bool.eq_iff_iff]
  simp only [List.any_cons, List.any_nil, Bool.or_false, Bool.or_eq_true]
  constructor
  · intro h
    obtain ⟨j, hj, e⟩ := (bit_of _ hi).1 h
    rw [List.length_append] at hj
    by_cases h1 : j + 2 < a.length
    · left
      refine (bit_of _ hi).2 ⟨j, h1, ?_⟩
      rw [mark_part (a ++ b) a 0 (getD_app_left a b) j h1, Nat.zero_add]; exact e
    · by_cases h2 : a.length ≤ j
      · right; left
        refine (bit_of _ hi).2 ⟨j - a.length, by omega, ?_⟩
        rw [mark_part (a ++ b) b a.length (fun t _ => getD_app_right a b t) _ (by omega), show a.length + (j - a.length) = j by omega]; exact e
      · right; right
        have hm : j - (a.length - 2) + 2 < (a.drop (a.length - 2) ++ b.take 2).length := by
          rw [List.length_append, List.length_drop, List.length_take]; omega
        refine (bit_of _ hi).2 ⟨j - (a.length - 2), hm, ?_⟩
        rw [mark_part (a ++ b) _ (a.length - 2) (fun t h => getD_meet a b t h) _ hm, show a.length - 2 + (j - (a.length - 2)) = j by omega]; exact e
  · rintro (h | h | h)
    · exact of_part (a ++ b) a 0 (by rw [List.length_append]; omega) (getD_app_left a b) hi h
    · exact of_part (a ++ b) b a.length (by rw [List.length_append]; omega) (fun t _ => getD_app_right a b t) hi h
    · exact of_part (a ++ b) _ (a.length - 2) (by rw [List.length_append, List.length_append, List.length_drop, List.length_take]; omega) (fun t h => getD_meet a b t h) hi h
theorem bit_two_left (a b : W4) {i : Nat} (hi : i < 256) (h : bitL a.1 i = true) : bitL (foldL [a, b]).1 i = true := by
  rw [bit_fold _ hi]; simp [h]
/-- more marks rule out no more -/
theorem may_more (a b w : W4) (h : (unionL a.1 w.1 == a.1) = true) : (unionL (foldL [a, b]).1 w.1 == (foldL [a, b]).1) = true := by
  rw [may_iff] at h ⊢
  exact fun i hi hw => bit_two_left a b hi (h i hi hw)
theorem count_more (a b : W4) : countL a.1 ≤ countL (foldL [a, b]).1 := count_le _ _ fun i hi h => bit_two_left a b hi h
theorem fold_again (a b : W4) : foldL [foldL [a, b], a] = foldL [a, b] := by
  apply w4_ext
  intro i hi
  rw [bit_fold _ hi, Bool.eq_iff_iff]
  simp only [List.any_cons, List.any_nil, Bool.or_false, Bool.or_eq_true]
  exact ⟨fun h => h.elim id (bit_two_left a b hi), .inl⟩
/-- what stands in a text has its marks among those of the text, and of more -/
theorem may_part (s p : List UInt8) (m : W4) (o : Nat) (ho : o + p.length ≤ s.length) (h : ∀ t, t < p.length → p.getD t 0 = s.getD (o + t) 0) : (unionL (foldL [ofL s, m]).1 (ofL p).1 == (foldL [ofL s, m]).1) = true := by
  rw [may_iff]
  exact fun i hi hw => bit_two_left _ _ hi (of_part s p o ho h hi hw)
end Go.Proofs.Ytjbacmhkmofpkaa
