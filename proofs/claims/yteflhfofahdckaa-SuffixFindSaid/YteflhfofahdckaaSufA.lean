/- suffix: ends of a text and their order (plain). -/
import Derived.Test.YteflhfofahdckaaProg
namespace Go.Proofs.Yteflhfofahdckaa
set_option linter.unusedVariables false
set_option linter.unusedSimpArgs false

/-! ### the order of texts -/
theorem bl_cons (x y : UInt8) (a b : List UInt8) : Op.bytesLess (x :: a) (y :: b) = true ↔ x.toNat < y.toNat ∨ (x = y ∧ Op.bytesLess a b = true) := by
  show (decide (x < y) || (x == y && Op.bytesLess a b)) = true ↔ _
  simp [UInt8.lt_iff_toNat_lt]
theorem bl_nil (a : List UInt8) : Op.bytesLess a [] = false := by cases a <;> rfl
theorem bl_irrefl : ∀ a, Op.bytesLess a a = false
  | [] => rfl
  | x :: a => by
    rw [← Bool.not_eq_true, bl_cons]
    rintro (h | ⟨_, h⟩)
    · omega
    · rw [bl_irrefl a] at h; cases h
theorem bl_asymm : ∀ a b, Op.bytesLess a b = true → Op.bytesLess b a = false
  | [], [], h => by cases h
  | [], _ :: _, _ => rfl
  | x :: a, [], h => by cases h
  | x :: a, y :: b, h => by
    rw [← Bool.not_eq_true, bl_cons]
    rw [bl_cons] at h
    rintro (k | ⟨k, k2⟩)
    · rcases h with h | ⟨h, _⟩
      · omega
      · rw [h] at k; omega
    · rcases h with h | ⟨_, h2⟩
      · rw [k] at h; omega
      · rw [bl_asymm a b h2] at k2; cases k2
theorem bl_total : ∀ a b, Op.bytesLess a b = false → Op.bytesLess b a = false → a = b
  | [], [], _, _ => rfl
  | [], _ :: _, h, _ => by cases h
  | x :: a, [], _, h => by cases h
  | x :: a, y :: b, h, k => by
    rw [← Bool.not_eq_true, bl_cons] at h k
    have e : x = y := UInt8.toNat_inj.1 (by
      have h1 : ¬ x.toNat < y.toNat := fun e => h (.inl e)
      have h2 : ¬ y.toNat < x.toNat := fun e => k (.inl e)
      omega)
    subst e
    rw [bl_total a b (by rw [← Bool.not_eq_true]; exact fun e => h (.inr ⟨rfl, e⟩)) (by rw [← Bool.not_eq_true]; exact fun e => k (.inr ⟨rfl, e⟩))]
theorem bl_trans : ∀ a b c, Op.bytesLess a b = true → Op.bytesLess b c = true → Op.bytesLess a c = true
  | a, b, [], _, k => by rw [bl_nil] at k; cases k
  | [], _, z :: c, _, _ => rfl
  | x :: a, [], _ :: _, h, _ => by cases h
  | x :: a, y :: b, z :: c, h, k => by
    rw [bl_cons] at h k ⊢
    rcases h with h | ⟨rfl, h⟩
    · rcases k with k | ⟨rfl, k⟩
      · exact .inl (by omega)
      · exact .inl h
    · rcases k with k | ⟨rfl, k⟩
      · exact .inl k
      · exact .inr ⟨rfl, bl_trans a b c h k⟩
theorem bl_take : ∀ (k m : Nat) (a b : List UInt8), k ≤ m → Op.bytesLess (a.take k) (b.take k) = true → Op.bytesLess (a.take m) (b.take m) = true
  | 0, _, a, b, _, h => by simp [Op.bytesLess] at h
  | k + 1, 0, _, _, hk, _ => by omega
  | k + 1, m + 1, _, [], _, h => by simp [bl_nil] at h
  | k + 1, m + 1, [], _ :: _, _, _ => rfl
  | k + 1, m + 1, x :: a, y :: b, hk, h => by
    rw [List.take_succ_cons, List.take_succ_cons, bl_cons] at h ⊢
    rcases h with h | ⟨h, h2⟩
    · exact .inl h
    · exact .inr ⟨h, bl_take k m a b (by omega) h2⟩
theorem bl_full {k : Nat} {a b : List UInt8} (h : Op.bytesLess (a.take k) (b.take k) = true) : Op.bytesLess a b = true := by
  have := bl_take k (max k (max a.length b.length)) a b (by omega) h
  rwa [List.take_of_length_le (by omega), List.take_of_length_le (by omega)] at this
theorem bl_append (p x y : List UInt8) : Op.bytesLess (p ++ x) (p ++ y) = Op.bytesLess x y := by
  induction p with
  | nil => rfl
  | cons z p ih =>
    rw [Bool.eq_iff_iff, List.cons_append, List.cons_append, bl_cons, ih]
    exact ⟨fun h => h.elim (fun h => absurd h (Nat.lt_irrefl _)) (·.2), fun h => .inr ⟨rfl, h⟩⟩

/-! ### ends of a text -/
/-- the end at p is less than the one at q -/
def lessE (s : List UInt8) (p q : Nat) : Bool := Op.bytesLess (s.drop p) (s.drop q)
theorem lessE_irrefl (s : List UInt8) (p : Nat) : lessE s p p = false := bl_irrefl _
theorem lessE_asymm {s : List UInt8} {p q : Nat} (h : lessE s p q = true) : lessE s q p = false := bl_asymm _ _ h
theorem lessE_trans {s : List UInt8} {p q r : Nat} (h : lessE s p q = true) (k : lessE s q r = true) : lessE s p r = true := bl_trans _ _ _ h k
theorem drop_inj {s : List UInt8} {p q : Nat} (hp : p ≤ s.length) (hq : q ≤ s.length) (h : s.drop p = s.drop q) : p = q := by
  have := congrArg List.length h
  rw [List.length_drop, List.length_drop] at this
  omega
theorem lessE_total {s : List UInt8} {p q : Nat} (hp : p ≤ s.length) (hq : q ≤ s.length) (hne : p ≠ q) (h : lessE s p q = false) : lessE s q p = true := by
  cases hk : lessE s q p with
  | true => rfl
  | false => exact absurd (drop_inj hp hq (bl_total _ _ h hk)) hne
/-- each of the places below m once, in the order of their ends -/
def IsArr (s : List UInt8) (m : Nat) (a : List Nat) : Prop := a.Perm (List.range m) ∧ a.Pairwise fun p q => lessE s p q = true
theorem sorted_unique {α : Type} {r : α → α → Prop} (ha : ∀ x y, r x y → r y x → False) : ∀ (a b : List α), a.Perm b → a.Pairwise r → b.Pairwise r → a = b
  | [], b, h, _, _ => (List.Perm.nil_eq h)
  | x :: a, [], h, _, _ => by have := h.length_eq; simp at this
  | x :: a, y :: b, h, h1, h2 => by
    rw [List.pairwise_cons] at h1 h2
    have e : x = y := by
      have hx : x ∈ y :: b := h.mem_iff.1 (by simp)
      have hy : y ∈ x :: a := h.mem_iff.2 (by simp)
      rcases List.mem_cons.1 hx with e | hx
      · exact e
      rcases List.mem_cons.1 hy with e | hy
      · exact e.symm
      exact (ha _ _ (h1.1 _ hy) (h2.1 _ hx)).elim
    subst e
    rw [sorted_unique ha a b (List.Perm.cons_inv h) h1.2 h2.2]
theorem IsArr.unique {s : List UInt8} {m : Nat} {a b : List Nat} (h : IsArr s m a) (k : IsArr s m b) : a = b :=
  sorted_unique (r := fun p q => lessE s p q = true) (fun x y h1 h2 => by rw [lessE_asymm h1] at h2; cases h2) a b (h.1.trans k.1.symm) h.2 k.2
theorem IsArr.length {s : List UInt8} {m : Nat} {a : List Nat} (h : IsArr s m a) : a.length = m := by rw [h.1.length_eq, List.length_range]
theorem IsArr.mem {s : List UInt8} {m : Nat} {a : List Nat} (h : IsArr s m a) {p : Nat} : p ∈ a ↔ p < m := by rw [h.1.mem_iff, List.mem_range]
theorem IsArr.lt {s : List UInt8} {m : Nat} {a : List Nat} (h : IsArr s m a) {i : Nat} (hi : i < m) : a.getD i 0 < m := by
  rw [List.getD_eq_getElem?_getD, List.getElem?_eq_getElem (by rw [h.length]; exact hi)]
  exact h.mem.1 (List.getElem_mem _)
theorem getD_lt {a : List Nat} {i : Nat} (h : i < a.length) : a.getD i 0 = a[i] := by
  rw [List.getD_eq_getElem?_getD, List.getElem?_eq_getElem h]; rfl
theorem IsArr.less {s : List UInt8} {m : Nat} {a : List Nat} (h : IsArr s m a) {i j : Nat} (hij : i < j) (hj : j < m) : lessE s (a.getD i 0) (a.getD j 0) = true := by
  rw [getD_lt (by rw [h.length]; omega), getD_lt (by rw [h.length]; omega)]
  exact List.pairwise_iff_getElem.1 h.2 i j (by rw [h.length]; omega) (by rw [h.length]; omega) hij
/-- a place more, put in at k -/
theorem IsArr.put {s : List UInt8} {m k : Nat} {a : List Nat} (h : IsArr s m a) (hm : m ≤ s.length) (hk : k ≤ a.length) (h1 : ∀ j, j < k → lessE s (a.getD j 0) m = true) (h2 : ∀ j, k ≤ j → j < a.length → lessE s (a.getD j 0) m = false) :
    IsArr s (m + 1) (a.take k ++ m :: a.drop k) := by
  refine ⟨?_, ?_⟩
  · refine List.perm_middle.trans ?_
    rw [List.take_append_drop, List.range_succ]
    exact (List.Perm.cons m h.1).trans (List.perm_append_comm (l₁ := [m]) (l₂ := List.range m))
  · rw [List.pairwise_append, List.pairwise_cons]
    have hin : ∀ x ∈ a.take k, lessE s x m = true := fun x hx => by
      obtain ⟨j, hj, rfl⟩ := List.mem_iff_getElem.1 hx
      rw [List.length_take] at hj
      have := h1 j (by omega)
      rw [getD_lt (by omega)] at this
      rw [List.getElem_take]
      exact this
    have hout : ∀ x ∈ a.drop k, lessE s m x = true := fun x hx => by
      obtain ⟨j, hj, rfl⟩ := List.mem_iff_getElem.1 hx
      rw [List.length_drop] at hj
      have h3 := h2 (k + j) (by omega) (by omega)
      rw [getD_lt (by omega)] at h3
      rw [List.getElem_drop]
      have hlt : a[k + j] < m := h.mem.1 (List.getElem_mem _)
      exact lessE_total (by omega) hm (by omega) h3
    refine ⟨h.2.sublist (List.take_sublist _ _), ⟨hout, h.2.sublist (List.drop_sublist _ _)⟩, fun x hx y hy => ?_⟩
    rcases List.mem_cons.1 hy with rfl | hy
    · exact hin x hx
    · exact lessE_trans (hin x hx) (hout y hy)
/-- the array of the places below m -/
def arrayN (s : List UInt8) : Nat → List Nat
  | 0 => []
  | m + 1 => (arrayN s m).take ((arrayN s m).findIdx fun q => !lessE s q m) ++ m :: (arrayN s m).drop ((arrayN s m).findIdx fun q => !lessE s q m)
theorem arrayN_is (s : List UInt8) : ∀ m, m ≤ s.length + 1 → IsArr s m (arrayN s m)
  | 0, _ => ⟨List.Perm.refl _, List.Pairwise.nil⟩
  | m + 1, hm => by
    have h := arrayN_is s m (by omega)
    refine h.put (by omega) List.findIdx_le_length (fun j hj => ?_) (fun j hj hl => ?_)
    · have := List.not_of_lt_findIdx hj
      rw [getD_lt (Nat.lt_of_lt_of_le hj List.findIdx_le_length)]
      simpa using this
    · have hk : ((arrayN s m).findIdx fun q => !lessE s q m) < (arrayN s m).length := by omega
      have h0 := List.findIdx_getElem (p := fun q => !lessE s q m) (w := hk)
      have h0 : lessE s (arrayN s m)[(arrayN s m).findIdx fun q => !lessE s q m] m = false := by simpa using h0
      rw [getD_lt hl]
      rcases Nat.lt_or_ge ((arrayN s m).findIdx fun q => !lessE s q m) j with hlt | hge
      · have h1 := List.pairwise_iff_getElem.1 h.2 _ _ hk hl hlt
        have hm1 : (arrayN s m)[(arrayN s m).findIdx fun q => !lessE s q m] < m := h.mem.1 (List.getElem_mem _)
        have h2 := lessE_total (by omega) (by omega) (by omega) h0
        exact lessE_asymm (lessE_trans h2 h1)
      · have e : j = (arrayN s m).findIdx fun q => !lessE s q m := by omega
        subst e
        exact h0
/-- a text's array -/
def arrayL (s : List UInt8) : List Nat := arrayN s (s.length + 1)
theorem arrayL_is (s : List UInt8) : IsArr s (s.length + 1) (arrayL s) := arrayN_is s _ (Nat.le_refl _)
theorem arrayL_eq {s : List UInt8} {a : List Nat} (h : IsArr s (s.length + 1) a) : a = arrayL s := h.unique (arrayL_is s)
end Go.Proofs.Yteflhfofahdckaa
