/- Several texts in one. merged: SufA SufB SufC SufD SufE SufF SufG SufH -/
import Derived.Test.YtlhjbfckcfeikaaProg
import Derived.Test.YtlhjbfckcfeikaaApp3
import Derived.RegionTactic
import Derived.Test.YtlhjbfckcfeikaaAppV
import Derived.OwnWalk
namespace Go.Proofs.Ytlhjbfckcfeikaa
set_option linter.unusedVariables false
set_option linter.unusedSimpArgs false

/-! ### the order of texts -/
theorem bl_cons (x y : UInt8) (a b : List UInt8) : Op.bytesLess (x :: a) (y :: b) = true ↔ x.toNat < y.toNat ∨ (x = y ∧ Op.bytesLess a b = true) := by
  show (decide (x < y) || (x == y && Op.bytesLess a b)) = true ↔ _
  simp [UInt8.lt_iff_toNat_lt]
theorem bl_nil (a : List UInt8) : Op.bytesLess a [] = false := by cases a <;> rfl
theorem bl_irrefl : ∀ a, Op.bytesLess a a = false
  | [] => rfl
  | x :: a => by
    rw [← Bool.not_eq_true, bl_cons]
    rintro (h | ⟨_, h⟩)
    · omega
    · rw [bl_irrefl a] at h; cases h
theorem bl_asymm : ∀ a b, Op.bytesLess a b = true → Op.bytesLess b a = false
  | [], [], h => by cases h
  | [], _ :: _, _ => rfl
  | x :: a, [], h => by cases h
  | x :: a, y :: b, h => by
    rw [← Bool.not_eq_true, bl_cons]
    rw [bl_cons] at h
    rintro (k | ⟨k, k2⟩)
    · rcases h with h | ⟨h, _⟩
      · omega
      · rw [h] at k; omega
    · rcases h with h | ⟨_, h2⟩
      · rw [k] at h; omega
      · rw [bl_asymm a b h2] at k2; cases k2
theorem bl_total : ∀ a b, Op.bytesLess a b = false → Op.bytesLess b a = false → a = b
  | [], [], _, _ => rfl
  | [], _ :: _, h, _ => by cases h
  | x :: a, [], _, h => by cases h
  | x :: a, y :: b, h, k => by
    rw [← Bool.not_eq_true, bl_cons] at h k
    have e : x = y := UInt8.toNat_inj.1 (by
      have h1 : ¬ x.toNat < y.toNat := fun e => h (.inl e)
      have h2 : ¬ y.toNat < x.toNat := fun e => k (.inl e)
      omega)
    subst e
    rw [bl_total a b (by rw [← Bool.not_eq_true]; exact fun e => h (.inr ⟨rfl, e⟩)) (by rw [← Bool.not_eq_true]; exact fun e => k (.inr ⟨rfl, e⟩))]
theorem bl_trans : ∀ a b c, Op.bytesLess a b = true → Op.bytesLess b c = true → Op.bytesLess a c = true
  | a, b, [], _, k => by rw [bl_nil] at k; cases k
  | [], _, z :: c, _, _ => rfl
  | x :: a, [], _ :: _, h, _ => by cases h
  | x :: a, y :: b, z :: c, h, k => by
    rw [bl_cons] at h k ⊢
    rcases h with h | ⟨rfl, h⟩
    · rcases k with k | ⟨rfl, k⟩
      · exact .inl (by omega)
      · exact .inl h
    · rcases k with k | ⟨rfl, k⟩
      · exact .inl k
      · exact .inr ⟨rfl, bl_trans a b c h k⟩
theorem bl_take : ∀ (k m : Nat) (a b : List UInt8), k ≤ m → Op.bytesLess (a.take k) (b.take k) = true → Op.bytesLess (a.take m) (b.take m) = true
  | 0, _, a, b, _, h => by simp [Op.bytesLess] at h
  | k + 1, 0, _, _, hk, _ => by omega
  | k + 1, m + 1, _, [], _, h => by simp [bl_nil] at h
  | k + 1, m + 1, [], _ :: _, _, _ => rfl
  | k + 1, m + 1, x :: a, y :: b, hk, h => by
    rw [List.take_succ_cons, List.take_succ_cons, bl_cons] at h ⊢
    rcases h with h | ⟨h, h2⟩
    · exact .inl h
    · exact .inr ⟨h, bl_take k m a b (by omega) h2⟩
theorem bl_full {k : Nat} {a b : List UInt8} (h : Op.bytesLess (a.take k) (b.take k) = true) : Op.bytesLess a b = true := by
  have := bl_take k (max k (max a.length b.length)) a b (by omega) h
  rwa [List.take_of_length_le (by omega), List.take_of_length_le (by omega)] at this
theorem bl_append (p x y : List UInt8) : Op.bytesLess (p ++ x) (p ++ y) = Op.bytesLess x y := by
  induction p with
  | nil => rfl
  | cons z p ih =>
    rw [Bool.eq_iff_iff, List.cons_append, List.cons_append, bl_cons, ih]
    exact ⟨fun h => h.elim (fun h => absurd h (Nat.lt_irrefl _)) (·.2), fun h => .inr ⟨rfl, h⟩⟩

/-! ### ends of a text -/
/-- the end at p is less than the one at q -/
def lessE (s : List UInt8) (p q : Nat) : Bool := Op.bytesLess (s.drop p) (s.drop q)
theorem lessE_irrefl (s : List UInt8) (p : Nat) : lessE s p p = false := bl_irrefl _
theorem lessE_asymm {s : List UInt8} {p q : Nat} (h : lessE s p q = true) : lessE s q p = false := bl_asymm _ _ h
theorem lessE_trans {s : List UInt8} {p q r : Nat} (h : lessE s p q = true) (k : lessE s q r = true) : lessE s p r = true := bl_trans _ _ _ h k
theorem drop_inj {s : List UInt8} {p q : Nat} (hp : p ≤ s.length) (hq : q ≤ s.length) (h : s.drop p = s.drop q) : p = q := by
  have := congrArg List.length h
  rw [List.length_drop, List.length_drop] at this
  omega
theorem lessE_total {s : List UInt8} {p q : Nat} (hp : p ≤ s.length) (hq : q ≤ s.length) (hne : p ≠ q) (h : lessE s p q = false) : lessE s q p = true := by
  cases hk : lessE s q p with
  | true => rfl
  | false => exact absurd (drop_inj hp hq (bl_total _ _ h hk)) hne
/-- each of the places below m once, in the order of their ends -/
def IsArr (s : List UInt8) (m : Nat) (a : List Nat) : Prop := a.Perm (List.range m) ∧ a.Pairwise fun p q => lessE s p q = true
theorem sorted_unique {α : Type} {r : α → α → Prop} (ha : ∀ x y, r x y → r y x → False) : ∀ (a b : List α), a.Perm b → a.Pairwise r → b.Pairwise r → a = b
  | [], b, h, _, _ => (List.Perm.nil_eq h)
  | x :: a, [], h, _, _ => by have := h.length_eq; simp at this
  | x :: a, y :: b, h, h1, h2 => by
    rw [List.pairwise_cons] at h1 h2
    have e : x = y := by
      have hx : x ∈ y :: b := h.mem_iff.1 (by simp)
      have hy : y ∈ x :: a := h.mem_iff.2 (by simp)
      rcases List.mem_cons.1 hx with e | hx
      · exact e
      rcases List.mem_cons.1 hy with e | hy
      · exact e.symm
      exact (ha _ _ (h1.1 _ hy) (h2.1 _ hx)).elim
    subst e
    rw [sorted_unique ha a b (List.Perm.cons_inv h) h1.2 h2.2]
theorem IsArr.unique {s : List UInt8} {m : Nat} {a b : List Nat} (h : IsArr s m a) (k : IsArr s m b) : a = b :=
  sorted_unique (r := fun p q => lessE s p q = true) (fun x y h1 h2 => by rw [lessE_asymm h1] at h2; cases h2) a b (h.1.trans k.1.symm) h.2 k.2
theorem IsArr.length {s : List UInt8} {m : Nat} {a : List Nat} (h : IsArr s m a) : a.length = m := by rw [h.1.length_eq, List.length_range]
theorem IsArr.mem {s : List UInt8} {m : Nat} {a : List Nat} (h : IsArr s m a) {p : Nat} : p ∈ a ↔ p < m := by rw [h.1.mem_iff, List.mem_range]
theorem IsArr.lt {s : List UInt8} {m : Nat} {a : List Nat} (h : IsArr s m a) {i : Nat} (hi : i < m) : a.getD i 0 < m := by
  rw [List.getD_eq_getElem?_getD, List.getElem?_eq_getElem (by rw [h.length]; exact hi)]
  exact h.mem.1 (List.getElem_mem _)
theorem getD_lt {a : List Nat} {i : Nat} (h : i < a.length) : a.getD i 0 = a[i] := by
  rw [List.getD_eq_getElem?_getD, List.getElem?_eq_getElem h]; rfl
theorem IsArr.less {s : List UInt8} {m : Nat} {a : List Nat} (h : IsArr s m a) {i j : Nat} (hij : i < j) (hj : j < m) : lessE s (a.getD i 0) (a.getD j 0) = true := by
  rw [getD_lt (by rw [h.length]; omega), getD_lt (by rw [h.length]; omega)]
  exact List.pairwise_iff_getElem.1 h.2 i j (by rw [h.length]; omega) (by rw [h.length]; omega) hij
/-- a place more, put in at k -/
theorem IsArr.put {s : List UInt8} {m k : Nat} {a : List Nat} (h : IsArr s m a) (hm : m ≤ s.length) (hk : k ≤ a.length) (h1 : ∀ j, j < k → lessE s (a.getD j 0) m = true) (h2 : ∀ j, k ≤ j → j < a.length → lessE s (a.getD j 0) m = false) :
    IsArr s (m + 1) (a.take k ++ m :: a.drop k) := by
  refine ⟨?_, ?_⟩
  · refine List.perm_middle.trans ?_
    rw [List.take_append_drop, List.range_succ]
    exact (List.Perm.cons m h.1).trans (List.perm_append_comm (l₁ := [m]) (l₂ := List.range m))
  · rw [List.pairwise_append, List.pairwise_cons]
    have hin : ∀ x ∈ a.take k, lessE s x m = true := fun x hx => by
      obtain ⟨j, hj, rfl⟩ := List.mem_iff_getElem.1 hx
      rw [List.length_take] at hj
      have := h1 j (by omega)
      rw [getD_lt (by omega)] at this
      rw [List.getElem_take]
      exact this
    have hout : ∀ x ∈ a.drop k, lessE s m x = true := fun x hx => by
      obtain ⟨j, hj, rfl⟩ := List.mem_iff_getElem.1 hx
      rw [List.length_drop] at hj
      have h3 := h2 (k + j) (by omega) (by omega)
      rw [getD_lt (by omega)] at h3
      rw [List.getElem_drop]
      have hlt : a[k + j] < m := h.mem.1 (List.getElem_mem _)
      exact lessE_total (by omega) hm (by omega) h3
    refine ⟨h.2.sublist (List.take_sublist _ _), ⟨hout, h.2.sublist (List.drop_sublist _ _)⟩, fun x hx y hy => ?_⟩
    rcases List.mem_cons.1 hy with rfl | hy
    · exact hin x hx
    · exact lessE_trans (hin x hx) (hout y hy)
/-- the array of the places below m -/
def arrayN (s : List UInt8) : Nat → List Nat
  | 0 => []
  | m + 1 => (arrayN s m).take ((arrayN s m).findIdx fun q => !lessE s q m) ++ m :: (arrayN s m).drop ((arrayN s m).findIdx fun q => !lessE s q m)
theorem arrayN_is (s : List UInt8) : ∀ m, m ≤ s.length + 1 → IsArr s m (arrayN s m)
  | 0, _ => ⟨List.Perm.refl _, List.Pairwise.nil⟩
  | m + 1, hm => by
    have h := arrayN_is s m (by omega)
    refine h.put (by omega) List.findIdx_le_length (fun j hj => ?_) (fun j hj hl => ?_)
    · have := List.not_of_lt_findIdx hj
      rw [getD_lt (Nat.lt_of_lt_of_le hj List.findIdx_le_length)]
      simpa using this
    · have hk : ((arrayN s m).findIdx fun q => !lessE s q m) < (arrayN s m).length := by omega
      have h0 := List.findIdx_getElem (p := fun q => !lessE s q m) (w := hk)
      have h0 : lessE s (arrayN s m)[(arrayN s m).findIdx fun q => !lessE s q m] m = false := by simpa using h0
      rw [getD_lt hl]
      rcases Nat.lt_or_ge ((arrayN s m).findIdx fun q => !lessE s q m) j with hlt | hge
      · have h1 := List.pairwise_iff_getElem.1 h.2 _ _ hk hl hlt
        have hm1 : (arrayN s m)[(arrayN s m).findIdx fun q => !lessE s q m] < m := h.mem.1 (List.getElem_mem _)
        have h2 := lessE_total (by omega) (by omega) (by omega) h0
        exact lessE_asymm (lessE_trans h2 h1)
      · have e : j = (arrayN s m).findIdx fun q => !lessE s q m := by omega
        subst e
        exact h0
/-- a text's array -/
def arrayL (s : List UInt8) : List Nat := arrayN s (s.length + 1)
theorem arrayL_is (s : List UInt8) : IsArr s (s.length + 1) (arrayL s) := arrayN_is s _ (Nat.le_refl _)
theorem arrayL_eq {s : List UInt8} {a : List Nat} (h : IsArr s (s.length + 1) a) : a = arrayL s := h.unique (arrayL_is s)
end Go.Proofs.Ytlhjbfckcfeikaa
namespace Go.Proofs.Ytlhjbfckcfeikaa
set_option linter.unusedVariables false
set_option linter.unusedSimpArgs false

theorem mr_getD (n : Nat) (f : Nat → Nat) (j : Nat) (h : j < n) : ((List.range n).map f).getD j 0 = f j := by
  rw [List.getD_eq_getElem?_getD, List.getElem?_map, List.getElem?_range h]; rfl
theorem mr_set (n : Nat) (f : Nat → Nat) (j v : Nat) : ((List.range n).map f).set j v = (List.range n).map fun i => if i = j then v else f i := by
  apply List.ext_getElem?
  intro i
  rw [List.getElem?_set]
  by_cases hi : i < n
  · by_cases hj : j = i
    · subst hj
      rw [if_pos rfl, List.length_map, List.length_range, if_pos hi, List.getElem?_map, List.getElem?_range hi]
      simp
    · rw [if_neg hj, List.getElem?_map, List.getElem?_map, List.getElem?_range hi]
      simp [Ne.symm hj]
  · have e1 : ((List.range n).map fun i => if i = j then v else f i)[i]? = none := by rw [List.getElem?_eq_none]; simp; omega
    have e2 : ((List.range n).map f)[i]? = none := by rw [List.getElem?_eq_none]; simp; omega
    rw [e1, e2]
    by_cases hj : j = i
    · subst hj
      rw [if_pos rfl, List.length_map, List.length_range, if_neg hi]
    · rw [if_neg hj]
theorem mr_congr {n : Nat} {f g : Nat → Nat} (h : ∀ i, i < n → f i = g i) : (List.range n).map f = (List.range n).map g := by
  apply List.map_congr_left
  intro i hi
  exact h i (List.mem_range.1 hi)

section

variable (key : Nat → Nat)

/-- those with keys below k, key by key -/
def blocks (l : List Nat) (k : Nat) : List Nat := (List.range k).flatMap fun j => l.filter fun p => key p == j
/-- sorted by keys up to most; those of one key stay in their order -/
def csort (most : Nat) (l : List Nat) : List Nat := blocks key l (most + 1)
def cum (l : List Nat) (k : Nat) : Nat := (blocks key l k).length
def cnt (l : List Nat) (k : Nat) : Nat := (l.filter fun p => key p == k).length
variable {key} {l pre : List Nat} {most k j : Nat}

theorem blocks_succ : blocks key l (k + 1) = blocks key l k ++ l.filter fun p => key p == k := by
  unfold blocks; rw [List.range_succ, List.flatMap_append]; simp
theorem cum_zero : cum key l 0 = 0 := rfl
theorem cum_succ : cum key l (k + 1) = cum key l k + cnt key l k := by
  unfold cum cnt; rw [blocks_succ, List.length_append]
theorem cum_mono {m : Nat} (h : k ≤ m) : cum key l k ≤ cum key l m := by
  induction m with
  | zero => rw [show k = 0 by omega]; exact Nat.le_refl _
  | succ m ih =>
    by_cases e : k = m + 1
    · rw [e]; exact Nat.le_refl _
    · rw [cum_succ]; have := ih (by omega); omega
theorem filter_split : ∀ l : List Nat, ((l.filter fun p => decide (key p < k)) ++ l.filter fun p => key p == k).Perm (l.filter fun p => decide (key p < k + 1))
  | [] => List.Perm.refl _
  | x :: l => by
    have ih := filter_split l
    rcases Nat.lt_trichotomy (key x) k with h | h | h
    · rw [List.filter_cons_of_pos (by simpa using h), List.filter_cons_of_neg (by simp; omega), List.filter_cons_of_pos (by simp; omega), List.cons_append]
      exact ih.cons x
    · rw [List.filter_cons_of_neg (by simp; omega), List.filter_cons_of_pos (by simpa using h), List.filter_cons_of_pos (by simp; omega)]
      exact List.perm_middle.trans (ih.cons x)
    · rw [List.filter_cons_of_neg (by simp; omega), List.filter_cons_of_neg (by simp; omega), List.filter_cons_of_neg (by simp; omega)]
      exact ih
theorem blocks_perm0 : (blocks key l k).Perm (l.filter fun p => decide (key p < k)) := by
  induction k with
  | zero => simp [blocks]
  | succ k ih =>
    rw [blocks_succ]
    exact (ih.append_right _).trans (filter_split l)
theorem csort_perm (h : ∀ p ∈ l, key p ≤ most) : (csort key most l).Perm l := by
  have := blocks_perm0 (key := key) (l := l) (k := most + 1)
  rwa [List.filter_eq_self.2 (fun p hp => by simpa using Nat.lt_succ_of_le (h p hp))] at this
theorem cum_all (h : ∀ p ∈ l, key p ≤ most) : cum key l (most + 1) = l.length := (csort_perm h).length_eq
theorem blocks_get {m : Nat} (hk : k < m) (hj : j < cnt key l k) : (blocks key l m).getD (cum key l k + j) 0 = (l.filter fun p => key p == k).getD j 0 := by
  induction m with
  | zero => omega
  | succ m ih =>
    rw [blocks_succ]
    rcases Nat.lt_or_ge k m with h | h
    · have := cum_mono (key := key) (l := l) (show k + 1 ≤ m by omega)
      rw [cum_succ] at this
      rw [List.getD_eq_getElem?_getD, List.getElem?_append_left (by unfold cum at this ⊢; omega), ← List.getD_eq_getElem?_getD]
      exact ih h
    · obtain rfl : k = m := by omega
      rw [List.getD_eq_getElem?_getD, List.getElem?_append_right (by unfold cum; omega), ← List.getD_eq_getElem?_getD]
      congr 1
      unfold cum; omega
theorem cum_split {i m : Nat} (h : i < cum key l m) : ∃ k j, k < m ∧ j < cnt key l k ∧ i = cum key l k + j := by
  induction m with
  | zero => rw [cum_zero] at h; omega
  | succ m ih =>
    rcases Nat.lt_or_ge i (cum key l m) with h1 | h1
    · obtain ⟨k, j, h2, h3⟩ := ih h1
      exact ⟨k, j, by omega, h3⟩
    · rw [cum_succ] at h
      exact ⟨m, i - cum key l m, by omega, by omega, by omega⟩
/-- a relation that holds along the list holds along the sorted one, within a key -/
theorem csort_pairwise {r : Nat → Nat → Prop} (h : l.Pairwise r) : (csort key most l).Pairwise fun p q => key p < key q ∨ (key p = key q ∧ r p q) := by
  unfold csort blocks
  rw [List.pairwise_flatMap]
  refine ⟨fun k hk => ?_, ?_⟩
  · refine ((h.sublist List.filter_sublist).imp_of_mem fun {p q} hp hq hr => .inr ⟨?_, hr⟩)
    have h1 := (List.mem_filter.1 hp).2
    have h2 := (List.mem_filter.1 hq).2
    rw [beq_iff_eq] at h1 h2
    omega
  · refine List.pairwise_lt_range.imp fun {k m} hkm p hp q hq => .inl ?_
    have h1 := (List.mem_filter.1 hp).2
    have h2 := (List.mem_filter.1 hq).2
    rw [beq_iff_eq] at h1 h2
    omega

/-! ### the three loops -/
def cntSt (key : Nat → Nat) (most : Nat) (pre : List Nat) : List Nat := (List.range (most + 2)).map fun j => if j = 0 then 0 else cnt key pre (j - 1)
def sumSt (key : Nat → Nat) (most : Nat) (l : List Nat) (i : Nat) : List Nat := (List.range (most + 2)).map fun j => if j ≤ i then cum key l j else cnt key l (j - 1)
def putSt (key : Nat → Nat) (most : Nat) (l pre : List Nat) : List Nat := (List.range (most + 2)).map fun j => cum key l j + cnt key pre j
theorem cnt_snoc (p : Nat) : cnt key (pre ++ [p]) k = cnt key pre k + if key p = k then 1 else 0 := by
  unfold cnt
  rw [List.filter_append, List.length_append]
  by_cases h : key p = k
  · rw [if_pos h, List.filter_cons_of_pos (by simpa using h)]; rfl
  · rw [if_neg h, List.filter_cons_of_neg (by simpa using h)]; rfl
theorem cntSt_nil : cntSt key most [] = List.replicate (most + 2) 0 := by
  unfold cntSt
  rw [List.eq_replicate_iff]
  refine ⟨by simp, fun b hb => ?_⟩
  obtain ⟨j, _, rfl⟩ := List.mem_map.1 hb
  split <;> rfl
theorem cntSt_length : (cntSt key most pre).length = most + 2 := by simp [cntSt]
theorem cntSt_step (p : Nat) (h : key p ≤ most) : cntSt key most (pre ++ [p]) = (cntSt key most pre).set (key p + 1) ((cntSt key most pre).getD (key p + 1) 0 + 1) := by
  unfold cntSt
  rw [mr_getD _ _ _ (by omega), mr_set]
  refine mr_congr fun i hi => ?_
  rw [cnt_snoc]
  by_cases h0 : i = 0
  · subst h0; simp
  · by_cases h1 : i = key p + 1
    · subst h1; simp
    · simp [h0, h1, show ¬ key p = i - 1 by omega]
theorem sumSt_zero : sumSt key most l 0 = cntSt key most l := by
  unfold sumSt cntSt
  refine mr_congr fun i hi => ?_
  by_cases h : i = 0
  · subst h; rfl
  · rw [if_neg (by omega), if_neg h]
theorem sumSt_length (i : Nat) : (sumSt key most l i).length = most + 2 := by simp [sumSt]
theorem sumSt_step (i : Nat) (h : i ≤ most) : sumSt key most l (i + 1) = (sumSt key most l i).set (i + 1) ((sumSt key most l i).getD (i + 1) 0 + (sumSt key most l i).getD i 0) := by
  unfold sumSt
  rw [mr_getD _ _ _ (by omega), mr_getD _ _ _ (by omega), mr_set]
  refine mr_congr fun j hj => ?_
  by_cases h1 : j = i + 1
  · subst h1
    simp [cum_succ, Nat.add_comm, show ¬ i + 1 ≤ i by omega]
  · by_cases h2 : j ≤ i
    · simp [h1, h2, show j ≤ i + 1 by omega]
    · simp [h1, h2, show ¬ j ≤ i + 1 by omega]
theorem putSt_nil : putSt key most l [] = sumSt key most l (most + 1) := by
  unfold putSt sumSt
  refine mr_congr fun i hi => ?_
  rw [if_pos (by omega)]
  rfl
theorem putSt_length : (putSt key most l pre).length = most + 2 := by simp [putSt]
theorem putSt_get (h : k ≤ most + 1) : (putSt key most l pre).getD k 0 = cum key l k + cnt key pre k := by
  unfold putSt; rw [mr_getD _ _ _ (by omega)]
theorem putSt_step (p : Nat) (h : key p ≤ most) : putSt key most l (pre ++ [p]) = (putSt key most l pre).set (key p) ((putSt key most l pre).getD (key p) 0 + 1) := by
  rw [putSt_get (by omega)]
  unfold putSt
  rw [mr_set]
  refine mr_congr fun i hi => ?_
  rw [cnt_snoc]
  by_cases h1 : i = key p
  · subst h1; rw [if_pos rfl, if_pos rfl]; omega
  · rw [if_neg h1, if_neg (fun e => h1 e.symm)]; rfl
/-- what is put so far -/
def OutOk (key : Nat → Nat) (l pre out : List Nat) : Prop := out.length = l.length ∧ ∀ k j, j < cnt key pre k → out.getD (cum key l k + j) 0 = (pre.filter fun p => key p == k).getD j 0
theorem OutOk.nil {out : List Nat} (h : out.length = l.length) : OutOk key l [] out := ⟨h, fun k j hj => by simp [cnt] at hj⟩
theorem cnt_prefix {p : Nat} (hp : (pre ++ [p]) <+: l) : cnt key pre (key p) < cnt key l (key p) := by
  obtain ⟨post, rfl⟩ := hp
  unfold cnt
  rw [List.filter_append, List.filter_append, List.length_append, List.length_append, List.filter_cons_of_pos (by simp)]
  simp only [List.length_cons]
  omega
theorem cnt_le_prefix (hp : pre <+: l) (k : Nat) : cnt key pre k ≤ cnt key l k := by
  obtain ⟨post, rfl⟩ := hp
  unfold cnt
  rw [List.filter_append, List.length_append]
  omega
theorem put_lt {p : Nat} (hp : (pre ++ [p]) <+: l) (hk : ∀ p ∈ l, key p ≤ most) : cum key l (key p) + cnt key pre (key p) < l.length := by
  have h1 := cnt_prefix (key := key) hp
  have hm : key p ≤ most := hk p (hp.subset (by simp))
  have h2 := cum_mono (key := key) (l := l) (show key p + 1 ≤ most + 1 by omega)
  rw [cum_all hk, cum_succ] at h2
  omega
theorem OutOk.step {out : List Nat} {p : Nat} (h : OutOk key l pre out) (hp : (pre ++ [p]) <+: l) (hk : ∀ p ∈ l, key p ≤ most) : OutOk key l (pre ++ [p]) (out.set (cum key l (key p) + cnt key pre (key p)) p) := by
  have hlt := put_lt hp hk
  refine ⟨by rw [List.length_set, h.1], fun k j hj => ?_⟩
  have hpre : pre <+: l := (List.prefix_append _ _).trans hp
  rw [cnt_snoc] at hj
  rw [List.filter_append, List.getD_eq_getElem?_getD, List.getElem?_set, List.getD_eq_getElem?_getD]
  by_cases hkp : key p = k
  · subst hkp
    rw [if_pos rfl] at hj
    by_cases hjj : j = cnt key pre (key p)
    · subst hjj
      rw [if_pos rfl, if_pos (by rw [h.1]; exact hlt), List.filter_cons_of_pos (by simp), List.getElem?_append_right (by unfold cnt; omega)]
      have : cnt key pre (key p) - (pre.filter fun q => key q == key p).length = 0 := by unfold cnt; omega
      rw [this]
      rfl
    · rw [if_neg (by omega), List.getElem?_append_left (by unfold cnt at hj hjj; omega), ← List.getD_eq_getElem?_getD, ← List.getD_eq_getElem?_getD]
      exact h.2 _ j (by omega)
  · rw [if_neg hkp, Nat.add_zero] at hj
    have c1 := cnt_le_prefix (key := key) hpre k
    have c2 := cnt_prefix (key := key) hp
    have hne : cum key l (key p) + cnt key pre (key p) ≠ cum key l k + j := by
      rcases Nat.lt_or_ge k (key p) with hlt2 | hge
      · have := cum_mono (key := key) (l := l) (show k + 1 ≤ key p by omega)
        rw [cum_succ] at this
        omega
      · have := cum_mono (key := key) (l := l) (show key p + 1 ≤ k by omega)
        rw [cum_succ] at this
        omega
    rw [if_neg hne, List.filter_cons_of_neg (by simpa using hkp), List.filter_nil, List.append_nil, ← List.getD_eq_getElem?_getD, ← List.getD_eq_getElem?_getD]
    exact h.2 _ j hj
theorem OutOk.done {out : List Nat} (h : OutOk key l l out) (hk : ∀ p ∈ l, key p ≤ most) : out = csort key most l := by
  have hl : (csort key most l).length = l.length := (csort_perm hk).length_eq
  apply List.ext_getElem?
  intro i
  by_cases hi : i < l.length
  · rw [← cum_all hk] at hi
    obtain ⟨k, j, h1, h2, rfl⟩ := cum_split hi
    rw [cum_all hk] at hi
    have e1 := h.2 k j h2
    have e2 := blocks_get (key := key) (l := l) h1 h2
    rw [← e2] at e1
    rw [List.getElem?_eq_getElem (by rw [h.1]; exact hi), List.getElem?_eq_getElem (by rw [hl]; exact hi)]
    rw [getD_lt (by rw [h.1]; exact hi)] at e1
    rw [e1, ← getD_lt (by rw [hl]; exact hi)]
    rfl
  · rw [List.getElem?_eq_none (by rw [h.1]; omega), List.getElem?_eq_none (by rw [hl]; omega)]
end

end Go.Proofs.Ytlhjbfckcfeikaa
namespace Go.Proofs.Ytlhjbfckcfeikaa
set_option linter.unusedVariables false
set_option linter.unusedSimpArgs false

/-! ### ranks along an array -/
/-- the rank of the i-th one: a step up where the key is another one -/
def rkN (g : Nat → Nat) (a : List Nat) : Nat → Nat
  | 0 => 0
  | i + 1 => rkN g a i + if g (a.getD i 0) = g (a.getD (i + 1) 0) then 0 else 1
theorem rk_le (g : Nat → Nat) (a : List Nat) : ∀ i, rkN g a i ≤ i
  | 0 => Nat.le_refl _
  | i + 1 => by
    have := rk_le g a i
    unfold rkN
    split <;> omega
/-- keys do not fall along the array -/
def Up1 (g : Nat → Nat) (a : List Nat) : Prop := ∀ i j, i ≤ j → j < a.length → g (a.getD i 0) ≤ g (a.getD j 0)
theorem up_of_pairwise {g : Nat → Nat} {a : List Nat} (h : a.Pairwise fun p q => g p ≤ g q) : Up1 g a := by
  intro i j hij hj
  rcases Nat.lt_or_ge i j with h1 | h1
  · rw [getD_lt (by omega), getD_lt hj]
    exact List.pairwise_iff_getElem.1 h i j (by omega) hj h1
  · rw [show i = j by omega]; exact Nat.le_refl _
theorem rk_mono {g : Nat → Nat} {a : List Nat} (h : Up1 g a) {i : Nat} : ∀ j, i ≤ j → j < a.length → rkN g a i ≤ rkN g a j ∧ (rkN g a i = rkN g a j ↔ g (a.getD i 0) = g (a.getD j 0)) := by
  intro j
  induction j with
  | zero => intro hij _; rw [show i = 0 by omega]; exact ⟨Nat.le_refl _, by simp⟩
  | succ j ih =>
    intro hij hj
    rcases Nat.lt_or_ge i (j + 1) with h1 | h1
    · obtain ⟨i1, i2⟩ := ih (by omega) (by omega)
      have u1 := h i j (by omega) (by omega)
      have u2 := h j (j + 1) (by omega) hj
      have e : rkN g a (j + 1) = rkN g a j + if g (a.getD j 0) = g (a.getD (j + 1) 0) then 0 else 1 := rfl
      rw [e]
      by_cases hk : g (a.getD j 0) = g (a.getD (j + 1) 0)
      · rw [if_pos hk, ← hk, Nat.add_zero]
        exact ⟨i1, i2⟩
      · rw [if_neg hk]
        refine ⟨by omega, ⟨fun hh => by omega, fun hh => by omega⟩⟩
    · rw [show i = j + 1 by omega]; exact ⟨Nat.le_refl _, by simp⟩
theorem rk_lt {g : Nat → Nat} {a : List Nat} (h : Up1 g a) {i j : Nat} (hi : i < a.length) (hj : j < a.length) : rkN g a i < rkN g a j ↔ g (a.getD i 0) < g (a.getD j 0) := by
  rcases Nat.le_total i j with hij | hij
  · obtain ⟨h1, h2⟩ := rk_mono h j hij hj
    have := h i j hij hj
    omega
  · obtain ⟨h1, h2⟩ := rk_mono h i hij hi
    have := h j i hij hi
    omega
/-- no two keys are alike: each step is one up; and the other way about -/
theorem rk_full {g : Nat → Nat} {a : List Nat} : ∀ {m : Nat}, rkN g a m = m → ∀ i, i ≤ m → rkN g a i = i
  | 0, _, i, hi => by rw [show i = 0 by omega]; rfl
  | m + 1, h, i, hi => by
    have h1 := rk_le g a m
    have e : rkN g a (m + 1) = rkN g a m + if g (a.getD m 0) = g (a.getD (m + 1) 0) then 0 else 1 := rfl
    rcases Nat.lt_or_ge i (m + 1) with h2 | h2
    · refine rk_full (m := m) ?_ i (by omega)
      rw [e] at h
      split at h <;> omega
    · rw [show i = m + 1 by omega]; exact h
theorem rk_strict {g : Nat → Nat} {a : List Nat} : ∀ {m : Nat}, (∀ i, i < m → g (a.getD i 0) ≠ g (a.getD (i + 1) 0)) → rkN g a m = m
  | 0, _ => rfl
  | m + 1, h => by
    have e : rkN g a (m + 1) = rkN g a m + if g (a.getD m 0) = g (a.getD (m + 1) 0) then 0 else 1 := rfl
    rw [e, if_neg (h m (by omega)), rk_strict fun i hi => h i (by omega)]
/-- r holds each place's rank -/
def RanksOf (g : Nat → Nat) (a r : List Nat) : Prop := r.length = a.length ∧ ∀ j, j < a.length → r.getD (a.getD j 0) 0 = rkN g a j
/-- so far -/
def RanksTo (g : Nat → Nat) (a r : List Nat) (i : Nat) : Prop := r.length = a.length ∧ ∀ j, j < i → r.getD (a.getD j 0) 0 = rkN g a j
theorem perm_at {n : Nat} {a : List Nat} (h : a.Perm (List.range n)) {p : Nat} (hp : p < n) : ∃ i, i < a.length ∧ a.getD i 0 = p := by
  have : p ∈ a := h.mem_iff.2 (List.mem_range.2 hp)
  obtain ⟨i, hi, e⟩ := List.mem_iff_getElem.1 this
  exact ⟨i, hi, by rw [getD_lt hi, e]⟩
theorem perm_lt {n : Nat} {a : List Nat} (h : a.Perm (List.range n)) {i : Nat} (hi : i < n) : a.getD i 0 < n := by
  have hl : a.length = n := by rw [h.length_eq, List.length_range]
  rw [getD_lt (by omega)]
  exact List.mem_range.1 (h.mem_iff.1 (List.getElem_mem _))
theorem perm_inj {n : Nat} {a : List Nat} (h : a.Perm (List.range n)) {i j : Nat} (hi : i < n) (hj : j < n) (e : a.getD i 0 = a.getD j 0) : i = j := by
  have hl : a.length = n := by rw [h.length_eq, List.length_range]
  rw [getD_lt (by omega), getD_lt (by omega)] at e
  have hnd : a.Nodup := h.nodup_iff.2 List.nodup_range
  exact (List.getElem_inj hnd).1 e
theorem RanksTo.start {g : Nat → Nat} {a r : List Nat} {n : Nat} (hr : r = List.replicate n 0) (hl : a.length = n) : RanksTo g a r 1 := by
  subst hr
  refine ⟨by simp [hl], fun j hj => ?_⟩
  rw [show j = 0 by omega]
  show (List.replicate n 0).getD (a.getD 0 0) 0 = 0
  rw [List.getD_eq_getElem?_getD, List.getElem?_replicate]
  split <;> rfl
theorem RanksTo.step {g : Nat → Nat} {a r : List Nat} {n i : Nat} (h : RanksTo g a r (i + 1)) (hp : a.Perm (List.range n)) (hi : i + 1 < n) :
    RanksTo g a (r.set (a.getD (i + 1) 0) (r.getD (a.getD i 0) 0 + if g (a.getD i 0) = g (a.getD (i + 1) 0) then 0 else 1)) (i + 2) := by
  have hl : a.length = n := by rw [hp.length_eq, List.length_range]
  refine ⟨by rw [List.length_set, h.1], fun j hj => ?_⟩
  rw [List.getD_eq_getElem?_getD, List.getElem?_set]
  by_cases e : j = i + 1
  · subst e
    rw [if_pos rfl, if_pos (by rw [h.1, hl]; exact perm_lt hp hi), h.2 i (by omega)]
    rfl
  · rw [if_neg (fun ee => e (perm_inj hp (by omega) hi ee.symm)), ← List.getD_eq_getElem?_getD]
    exact h.2 j (by omega)
theorem RanksTo.done {g : Nat → Nat} {a r : List Nat} {i : Nat} (h : RanksTo g a r i) (hi : a.length ≤ i) : RanksOf g a r := ⟨h.1, fun j hj => h.2 j (by omega)⟩
section

variable {g : Nat → Nat} {a r : List Nat} {n : Nat}

theorem RanksOf.lt (h : RanksOf g a r) (hp : a.Perm (List.range n)) (hu : Up1 g a) {p q : Nat} (h1 : p < n) (h2 : q < n) : r.getD p 0 < r.getD q 0 ↔ g p < g q := by
  obtain ⟨i, hi, rfl⟩ := perm_at hp h1
  obtain ⟨j, hj, rfl⟩ := perm_at hp h2
  rw [h.2 i hi, h.2 j hj]
  exact rk_lt hu hi hj
theorem RanksOf.le (h : RanksOf g a r) (hp : a.Perm (List.range n)) {p : Nat} (h1 : p < n) : r.getD p 0 < n := by
  have hl : a.length = n := by rw [hp.length_eq, List.length_range]
  obtain ⟨i, hi, rfl⟩ := perm_at hp h1
  rw [h.2 i hi]
  have := rk_le g a i
  omega
end

/-! ### ends, up to so many bytes -/
def lessL (s : List UInt8) (L p q : Nat) : Bool := Op.bytesLess ((s.drop p).take L) ((s.drop q).take L)
theorem lessL_full {s : List UInt8} {L p q : Nat} (h : lessL s L p q = true) : lessE s p q = true := bl_full h
theorem lessL_long {s : List UInt8} {L p q : Nat} (hL : s.length ≤ L) : lessL s L p q = lessE s p q := by
  unfold lessL lessE
  rw [List.take_of_length_le (by rw [List.length_drop]; omega), List.take_of_length_le (by rw [List.length_drop]; omega)]
/-- the array is sorted by the first L bytes, and r are its ranks -/
def Inv (s : List UInt8) (L : Nat) (a r : List Nat) : Prop :=
  a.Perm (List.range (s.length + 1)) ∧ ∃ g, Up1 g a ∧ RanksOf g a r ∧ ∀ p q, p ≤ s.length → q ≤ s.length → (g p < g q ↔ lessL s L p q = true)
theorem Inv.lt {s : List UInt8} {L : Nat} {a r : List Nat} (h : Inv s L a r) {p q : Nat} (hp : p ≤ s.length) (hq : q ≤ s.length) : r.getD p 0 < r.getD q 0 ↔ lessL s L p q = true := by
  obtain ⟨h1, g, hu, hr, hg⟩ := h
  rw [hr.lt h1 hu (by omega) (by omega)]
  exact hg p q hp hq
theorem Inv.rank_le {s : List UInt8} {L : Nat} {a r : List Nat} (h : Inv s L a r) {p : Nat} (hp : p ≤ s.length) : r.getD p 0 ≤ s.length := by
  obtain ⟨h1, g, hu, hr, hg⟩ := h
  have := hr.le h1 (p := p) (by omega)
  omega
theorem Inv.length {s : List UInt8} {L : Nat} {a r : List Nat} (h : Inv s L a r) : a.length = s.length + 1 ∧ r.length = s.length + 1 := by
  have h1 : a.length = s.length + 1 := by rw [h.1.length_eq, List.length_range]
  obtain ⟨_, g, hu, hr, hg⟩ := h
  exact ⟨h1, by rw [hr.1, h1]⟩
/-- all ranks are there: the array is the text's -/
theorem Inv.done {s : List UInt8} {L : Nat} {a r : List Nat} (h : Inv s L a r) (hd : r.getD (a.getD s.length 0) 0 = s.length) : a = arrayL s := by
  have hl := h.length.1
  refine arrayL_eq ⟨h.1, ?_⟩
  rw [List.pairwise_iff_getElem]
  intro i j hi hj hij
  obtain ⟨h1, g, hu, hr, hg⟩ := h
  rw [hr.2 _ (by omega)] at hd
  have e1 := rk_full hd i (by omega)
  have e2 := rk_full hd j (by omega)
  have := (rk_lt hu hi hj).1 (by omega)
  rw [getD_lt hi, getD_lt hj] at this
  exact lessL_full ((hg _ _ (by have := List.mem_range.1 (h1.mem_iff.1 (List.getElem_mem hi)); omega) (by have := List.mem_range.1 (h1.mem_iff.1 (List.getElem_mem hj)); omega)).1 this)
/-- some are not: there is more to look at -/
theorem Inv.more {s : List UInt8} {L : Nat} {a r : List Nat} (h : Inv s L a r) (hd : r.getD (a.getD s.length 0) 0 ≠ s.length) : L < s.length := by
  rcases Nat.lt_or_ge L s.length with h0 | h0
  · exact h0
  exfalso
  apply hd
  have hl := h.length.1
  obtain ⟨h1, g, hu, hr, hg⟩ := h
  rw [hr.2 _ (by omega)]
  refine rk_strict fun i hi e => ?_
  have b1 := perm_lt h1 (i := i) (by omega)
  have b2 := perm_lt h1 (i := i + 1) (by omega)
  have hne : a.getD i 0 ≠ a.getD (i + 1) 0 := fun ee => by have := perm_inj h1 (by omega) (by omega) ee; omega
  cases hc : lessE s (a.getD i 0) (a.getD (i + 1) 0) with
  | true =>
    rw [← lessL_long h0] at hc
    have := (hg _ _ (by omega) (by omega)).2 hc
    omega
  | false =>
    have hc2 := lessE_total (by omega) (by omega) hne hc
    rw [← lessL_long h0] at hc2
    have := (hg _ _ (by omega) (by omega)).2 hc2
    omega

/-! ### the beginning: by one byte -/
def letterN (s : List UInt8) (p : Nat) : Nat := if p = s.length then 0 else (s.getD p 0).toNat + 1
theorem letter_le (s : List UInt8) (p : Nat) : letterN s p ≤ 256 := by
  unfold letterN
  have := (s.getD p 0).toNat_lt
  split <;> omega
theorem drop_cons' {s : List UInt8} {p : Nat} (h : p < s.length) : s.drop p = s.getD p 0 :: s.drop (p + 1) := by
  rw [List.drop_eq_getElem_cons h, List.getD_eq_getElem?_getD, List.getElem?_eq_getElem h]
  rfl
theorem letter_lt {s : List UInt8} {p q : Nat} (hp : p ≤ s.length) (hq : q ≤ s.length) : letterN s p < letterN s q ↔ lessL s 1 p q = true := by
  unfold letterN lessL
  rcases Nat.lt_or_ge q s.length with h2 | h2
  · rw [if_neg (show ¬ q = s.length by omega), drop_cons' h2, List.take_succ_cons, List.take_zero]
    rcases Nat.lt_or_ge p s.length with h1 | h1
    · rw [if_neg (show ¬ p = s.length by omega), drop_cons' h1, List.take_succ_cons, List.take_zero, bl_cons]
      constructor
      · intro h; exact .inl (by omega)
      · rintro (h | ⟨_, h⟩)
        · omega
        · cases h
    · rw [if_pos (show p = s.length by omega), List.drop_of_length_le (by omega)]
      exact ⟨fun _ => rfl, fun _ => by omega⟩
  · rw [if_pos (show q = s.length by omega), List.drop_of_length_le (show s.length ≤ q by omega), List.take_nil, bl_nil]
    constructor
    · intro h; omega
    · intro h; cases h
theorem pw_true : ∀ l : List Nat, l.Pairwise fun _ _ => True
  | [] => List.Pairwise.nil
  | _ :: l => List.Pairwise.cons (fun _ _ => trivial) (pw_true l)
theorem csort_up {key : Nat → Nat} {most : Nat} {l : List Nat} : Up1 key (csort key most l) := by
  refine up_of_pairwise ((csort_pairwise (r := fun _ _ => True) (pw_true _)).imp fun {p q} h => ?_)
  omega
theorem Inv.first {s : List UInt8} {r : List Nat} (hr : RanksOf (letterN s) (csort (letterN s) 256 (List.range (s.length + 1))) r) : Inv s 1 (csort (letterN s) 256 (List.range (s.length + 1))) r :=
  ⟨csort_perm fun p _ => letter_le s p, letterN s, csort_up, hr, fun p q hp hq => letter_lt hp hq⟩

/-! ### a step: by twice as many -/
def secondN (n : Nat) (r : List Nat) (L p : Nat) : Nat := if p + L < n then r.getD (p + L) 0 + 1 else 0
def pairN (n : Nat) (r : List Nat) (L p : Nat) : Nat := r.getD p 0 * (n + 2) + secondN n r L p
theorem take_two (l : List UInt8) (L : Nat) : l.take (2 * L) = l.take L ++ (l.drop L).take L := by
  rw [Nat.two_mul, List.take_add]
theorem second_le {s : List UInt8} {L : Nat} {a r : List Nat} (h : Inv s L a r) {p : Nat} (hp : p ≤ s.length) : secondN (s.length + 1) r L p ≤ s.length + 1 := by
  unfold secondN
  split
  · have := h.rank_le (p := p + L) (by omega); omega
  · omega
theorem pair_lt {s : List UInt8} {L : Nat} {a r : List Nat} (h : Inv s L a r) {p q : Nat} (hp : p ≤ s.length) (hq : q ≤ s.length) :
    pairN (s.length + 1) r L p < pairN (s.length + 1) r L q ↔ r.getD p 0 < r.getD q 0 ∨ (r.getD p 0 = r.getD q 0 ∧ secondN (s.length + 1) r L p < secondN (s.length + 1) r L q) := by
  unfold pairN
  have b1 := second_le h hp
  have b2 := second_le h hq
  generalize secondN (s.length + 1) r L p = x at *
  generalize secondN (s.length + 1) r L q = y at *
  generalize r.getD p 0 = u at *
  generalize r.getD q 0 = v at *
  generalize s.length + 1 = n at *
  constructor
  · intro hlt
    rcases Nat.lt_trichotomy u v with h1 | h1 | h1
    · exact .inl h1
    · subst h1; exact .inr ⟨rfl, by omega⟩
    · have : (v + 1) * (n + 2) ≤ u * (n + 2) := Nat.mul_le_mul_right _ h1
      rw [Nat.add_mul] at this
      omega
  · rintro (h1 | ⟨rfl, h1⟩)
    · have : (u + 1) * (n + 2) ≤ v * (n + 2) := Nat.mul_le_mul_right _ h1
      rw [Nat.add_mul] at this
      omega
    · omega
theorem lessL_double {s : List UInt8} {L : Nat} {a r : List Nat} (h : Inv s L a r) {p q : Nat} (hp : p ≤ s.length) (hq : q ≤ s.length) :
    pairN (s.length + 1) r L p < pairN (s.length + 1) r L q ↔ lessL s (2 * L) p q = true := by
  rw [pair_lt h hp hq]
  have h1 := h.lt hp hq
  have h2 := h.lt hq hp
  by_cases e : (s.drop p).take L = (s.drop q).take L
  · have f1 : lessL s L p q = false := by unfold lessL; rw [e]; exact bl_irrefl _
    have f2 : lessL s L q p = false := by unfold lessL; rw [e]; exact bl_irrefl _
    rw [f1] at h1
    rw [f2] at h2
    have er : r.getD p 0 = r.getD q 0 := by
      have h1 : ¬ r.getD p 0 < r.getD q 0 := fun k => by have := h1.1 k; cases this
      have h2 : ¬ r.getD q 0 < r.getD p 0 := fun k => by have := h2.1 k; cases this
      omega
    unfold lessL
    rw [take_two, take_two, e, bl_append, List.drop_drop, List.drop_drop]
    have hlen := congrArg List.length e
    rw [List.length_take, List.length_take, List.length_drop, List.length_drop] at hlen
    unfold secondN
    by_cases c1 : p + L < s.length + 1
    · by_cases c2 : q + L < s.length + 1
      · rw [if_pos c1, if_pos c2]
        have h3 := h.lt (p := p + L) (q := q + L) (by omega) (by omega)
        unfold lessL at h3
        rw [← h3]
        omega
      · have : p = q := by omega
        subst this
        exact absurd c1 c2
    · by_cases c2 : q + L < s.length + 1
      · have : p = q := by omega
        subst this
        exact absurd c2 c1
      · rw [if_neg c1, if_neg c2, List.drop_of_length_le (show s.length ≤ p + L by omega), List.take_nil, List.drop_of_length_le (show s.length ≤ q + L by omega)]
        constructor
        · intro k; omega
        · intro k; rw [List.take_nil] at k; cases k
  · have ne : ¬ r.getD p 0 = r.getD q 0 := fun er => by
      have f1 : lessL s L p q = false := by rw [← Bool.not_eq_true, ← h1]; omega
      have f2 : lessL s L q p = false := by rw [← Bool.not_eq_true, ← h2]; omega
      exact e (bl_total _ _ f1 f2)
    have hmono : ∀ x y, lessL s L x y = true → lessL s (2 * L) x y = true := fun x y k => bl_take L (2 * L) _ _ (by omega) k
    constructor
    · rintro (k | ⟨k, _⟩)
      · exact hmono _ _ (h1.1 k)
      · exact absurd k ne
    · intro k
      refine .inl ?_
      rcases Nat.lt_trichotomy (r.getD p 0) (r.getD q 0) with k1 | k1 | k1
      · exact k1
      · exact absurd k1 ne
      · have := hmono _ _ (h2.1 k1)
        have := bl_asymm _ _ this
        unfold lessL at k
        rw [this] at k
        cases k
/-- the array, sorted anew -/
def twiceL (n : Nat) (a r : List Nat) (L : Nat) : List Nat := csort (fun p => r.getD p 0) n (csort (secondN n r L) (n + 1) a)
theorem twice_perm {s : List UInt8} {L : Nat} {a r : List Nat} (h : Inv s L a r) : (csort (secondN (s.length + 1) r L) (s.length + 1 + 1) a).Perm a ∧ (twiceL (s.length + 1) a r L).Perm (List.range (s.length + 1)) := by
  have hm : ∀ p ∈ a, p ≤ s.length := fun p hp => by have := List.mem_range.1 (h.1.mem_iff.1 hp); omega
  have h1 : (csort (secondN (s.length + 1) r L) (s.length + 1 + 1) a).Perm a := csort_perm fun p hp => by have := second_le h (hm p hp); omega
  refine ⟨h1, ?_⟩
  refine (csort_perm fun p hp => ?_).trans (h1.trans h.1)
  have := h.rank_le (hm p (h1.mem_iff.1 hp))
  show r.getD p 0 ≤ s.length + 1
  omega
theorem Inv.step {s : List UInt8} {L : Nat} {a r r' : List Nat} (h : Inv s L a r) (hr : RanksOf (pairN (s.length + 1) r L) (twiceL (s.length + 1) a r L) r') : Inv s (2 * L) (twiceL (s.length + 1) a r L) r' := by
  obtain ⟨t1, t2⟩ := twice_perm h
  refine ⟨t2, _, ?_, hr, fun p q hp hq => lessL_double h hp hq⟩
  refine up_of_pairwise ?_
  have h1 := csort_pairwise (key := secondN (s.length + 1) r L) (most := s.length + 1 + 1) (l := a) (r := fun _ _ => True) (pw_true _)
  have h2 := csort_pairwise (key := fun p => r.getD p 0) (most := s.length + 1) h1
  refine h2.imp_of_mem fun {p q} hp hq k => ?_
  have bp : p ≤ s.length := by have := List.mem_range.1 (t2.mem_iff.1 hp); omega
  have bq : q ≤ s.length := by have := List.mem_range.1 (t2.mem_iff.1 hq); omega
  refine Nat.not_lt.1 fun hlt => ?_
  rw [pair_lt h bq bp] at hlt
  omega
theorem pair_eq {s : List UInt8} {L : Nat} {a r : List Nat} (h : Inv s L a r) {p q : Nat} (hp : p ≤ s.length) (hq : q ≤ s.length) :
    pairN (s.length + 1) r L p = pairN (s.length + 1) r L q ↔ r.getD p 0 = r.getD q 0 ∧ secondN (s.length + 1) r L p = secondN (s.length + 1) r L q := by
  have h1 := pair_lt h hp hq
  have h2 := pair_lt h hq hp
  omega
end Go.Proofs.Ytlhjbfckcfeikaa
namespace Go.Proofs.Ytlhjbfckcfeikaa
set_option linter.unusedVariables false
set_option linter.unusedSimpArgs false
open Go.RowKit

def toI (l : List Nat) : List Int := l.map fun (n : Nat) => (n : Int)
theorem toI_length (l : List Nat) : (toI l).length = l.length := List.length_map _
theorem toI_getD (l : List Nat) (k : Nat) : (toI l).getD k 0 = ((l.getD k 0 : Nat) : Int) := by
  unfold toI
  rw [List.getD_eq_getElem?_getD, List.getElem?_map, List.getD_eq_getElem?_getD]
  cases l[k]? <;> rfl
theorem toI_set (l : List Nat) (i v : Nat) : toI (l.set i v) = (toI l).set i (v : Int) := List.map_set
theorem toI_replicate (n : Nat) : toI (List.replicate n 0) = List.replicate n 0 := List.map_replicate
theorem toI_inj {a b : List Nat} (h : toI a = toI b) : a = b := by
  apply List.ext_getElem?
  intro i
  have := congrArg (fun l => l[i]?) h
  simp only [toI, List.getElem?_map] at this
  cases ha : a[i]? <;> cases hb : b[i]? <;> rw [ha, hb] at this <;> simp at this
  rw [Int.ofNat_inj.1 this]
theorem w64_small {n : Int} (h0 : 0 ≤ n) (h1 : n < 9223372036854775808) : wrap64 n = n := by unfold wrap64; omega
/-- what a slice of the call's own holds -/
theorem IW.facts {w : World} {B g n c : Nat} {l : List Int} (h : IW w B (.slice (some ⟨g, 0, none⟩) n c) l) : l.length = n ∧ (0 < n → g < w.heap.size ∧ B ≤ g) ∧ ∀ i, i < n → w.cell? ⟨g, i, none⟩ = some (.int .i64 (l.getD i 0)) ∧ w.frozen? ⟨g, i, none⟩ = false := by
  obtain ⟨a, c', h1, h2, h3⟩ := h.shape
  injection h1 with e1 e2 e3
  subst e2
  refine ⟨rfl, fun hn => ?_, fun i hi => ?_⟩
  · obtain ⟨g', e, p1, p2, _⟩ := h3 hn
    rw [e] at e1
    injection e1 with e1
    injection e1 with e1
    subst e1
    exact ⟨p2, p1⟩
  · obtain ⟨g', e, _, _, p3, p4⟩ := h3 (by omega)
    rw [e] at e1
    injection e1 with e1
    injection e1 with e1
    subst e1
    exact ⟨p3 i hi, p4 i⟩
/-- a row of numbers, of the call's own, at block g -/
def NW (w : World) (B g n : Nat) (l : List Nat) : Prop := IW w B (.slice (some ⟨g, 0, none⟩) n n) (toI l)
section

variable {w w' : World} {B g n : Nat} {l : List Nat}

theorem NW.len (h : NW w B g n l) : l.length = n := by have := (IW.facts h).1; rwa [toI_length] at this
theorem NW.cell (h : NW w B g n l) (i : Nat) (hi : i < n) : w.cell? ⟨g, i, none⟩ = some (.int .i64 ((l.getD i 0 : Nat) : Int)) := by rw [← toI_getD]; exact ((IW.facts h).2.2 i hi).1
theorem NW.free (h : NW w B g n l) (i : Nat) (hi : i < n) : w.frozen? ⟨g, i, none⟩ = false := ((IW.facts h).2.2 i hi).2
theorem NW.lt (h : NW w B g n l) (hn : 0 < n) : g < w.heap.size := ((IW.facts h).2.1 hn).1
theorem NW.ext (h : NW w B g n l) (hx : Ext w w') : NW w' B g n l := IW.ext h hx
theorem NW.set (h : NW w B g n l) (i v : Nat) : NW (w.setCell ⟨g, i, none⟩ (.int .i64 (v : Int))) B g n (l.set i v) := by
  have hl := h.len
  subst hl
  unfold NW at *
  rw [toI_set]
  have h' : IW w B (.slice (some ⟨g, 0, none⟩) (toI l).length l.length) (toI l) := by rw [toI_length]; exact h
  have := IW.set h' i (v : Int)
  rwa [toI_length] at this
theorem NW.far (h : NW w B g n l) {p : Addr} (hne : p.block ≠ g) (u : Value) : NW (w.setCell p u) B g n l := by
  rcases h.2 with ⟨h1, h2⟩ | ⟨g', cap, cur, h1, hB, h2, h3⟩
  · cases h1
  · injection h1 with e1 e2 e3
    injection e1 with e1
    injection e1 with e1
    subst e1
    exact ⟨h.1, .inr ⟨g, cap, cur, by rw [← e3]; simp [e2], hB, (show Blk w g 3 cur from h2).far (fun e => hne e.symm) u, h3⟩⟩
theorem NW.make (w : World) (n : Nat) (hn : n ≤ 1000000000) : NW (w.alloc (.cells (madeCells #[.int .i64 0] n) 3)) w.heap.size w.heap.size n (List.replicate n 0) := by
  unfold NW; rw [toI_replicate]; exact (IW.make w n hn).2
end

theorem make_run (w : World) (n : Nat) (hn : n ≤ 1000000000) (m : Int) (hm : m = (n : Int)) : (Instr.makeSlice 31 (.int .i64 m) (.int .i64 m)).run Try.prog w = .ok (.slice (some ⟨w.heap.size, 0, none⟩) n n) (w.alloc (.cells (madeCells #[.int .i64 0] n) 3)) := by
  subst hm; exact (IW.make w n hn).1
/-- a function value that tells the keys of places -/
def KeyAt (fv : Value) (key : Nat → Nat) (ok : Nat → Prop) (w : World) : Prop :=
  ∃ (f : FuncId) (cap : Array Value), fv = .func (.func f) #[] cap ∧ (∀ (xs : Array Value) (W : World), (callFunc f xs).run Try.prog W = .ok (.enter f xs) W) ∧ ∀ W, Ext w W → ∀ p : Nat, ok p → Calls Try.prog f (#[.int .i64 (p : Int)] ++ cap) W fun e W' => e = .returned (.int .i64 (key p : Int)) ∧ W = W'
theorem KeyAt.ext {fv : Value} {key : Nat → Nat} {ok : Nat → Prop} {w w' : World} (h : KeyAt fv key ok w) (hx : Ext w w') : KeyAt fv key ok w' := by
  obtain ⟨f, cap, h1, h0, h2⟩ := h
  exact ⟨f, cap, h1, h0, fun W hW => h2 W (hx.trans hW)⟩

set_option maxRecDepth 20000 in
set_option maxHeartbeats 4000000 in
theorem upto_any (n : Nat) (w : World) (hn : n ≤ 1000000) : Calls Try.prog 40 #[.int .i64 (n : Int)] w fun e w' => ∃ g, e = .returned (.slice (some ⟨g, 0, none⟩) n n) ∧ Ext w w' ∧ NW w' w.heap.size g n (List.range n) := by
  have hmk := make_run w n (by omega) _ rfl
  have h0 := NW.make w n (by omega)
  have H0 := Lib.hid (show NW (w.alloc (.cells (madeCells #[.int .i64 0] n) 3)) w.heap.size w.heap.size n ((List.range n).map fun j => if j < 0 then j else 0) from by
    have : ((List.range n).map fun j => if j < 0 then j else 0) = List.replicate n 0 := by
      rw [List.eq_replicate_iff]
      refine ⟨by simp, fun b hb => ?_⟩
      obtain ⟨j, _, rfl⟩ := List.mem_map.1 hb
      rfl
    rw [this]; exact h0)
  clear h0
  go_enter Try.func40, Try.ntmps40
  go_wp2
  clear hmk
  go_loopw [9] (fun i wr => ∃ k : Nat, k ≤ n ∧ i = .int .i64 (k : Int) ∧ Ext w wr ∧ NW wr w.heap.size w.heap.size n ((List.range n).map fun j => if j < k then j else 0)) (fun i _ => n - (intOf i).toNat)
  case atStart => exact ⟨0, by omega, rfl, (Ext.refl _).alloc _, H0.out⟩
  case round =>
    obtain ⟨k, hk, rfl, hx, hw⟩ := hrel
    clear H0
    by_cases hlt : k < n
    · have c := hw.cell k hlt
      have f := hw.free k hlt
      have HS := Lib.hid (show NW (wr.setCell ⟨w.heap.size, k, none⟩ (.int .i64 (k : Int))) w.heap.size w.heap.size n ((List.range n).map fun j => if j < k + 1 then j else 0) from by
        have h1 := hw.set k k
        rw [mr_set] at h1
        rw [mr_congr (g := fun j => if j < k + 1 then j else 0)] at h1
        · exact h1
        · intro i hi
          by_cases e : i = k
          · subst e; simp
          · by_cases e2 : i < k
            · simp [e, e2, show i < k + 1 by omega]
            · simp [e, e2, show ¬ i < k + 1 by omega])
      have HX := Lib.hid hx
      clear hw hx hk
      generalize ((List.range n).map fun j => if j < k then j else 0).getD k 0 = old at *
      go_wp2
      go_roundw
      case rel => exact ⟨k + 1, by omega, by go_num, Ext.set HX.out (Nat.le_refl _) _, HS.out⟩
      case measure => simp [intOf]; omega
    · have e : k = n := by omega
      subst e
      go_wp2
      go_ret
      refine ⟨_, rfl, hx, ?_⟩
      rw [mr_congr (g := fun j => j)] at hw
      · rw [List.map_id'] at hw; exact hw
      · intro i hi; rw [if_pos hi]
end Go.Proofs.Ytlhjbfckcfeikaa
namespace Go.Proofs.Ytlhjbfckcfeikaa
set_option linter.unusedVariables false
set_option linter.unusedSimpArgs false
open Go.RowKit

theorem ext_of_eq {a b : World} (h : a = b) : Ext a b := h ▸ Ext.refl _
theorem take_prefix (l : List Nat) (k : Nat) (h : k < l.length) : l.take k ++ [l.getD k 0] = l.take (k + 1) := by
  rw [getD_lt h, List.take_succ_eq_append_getElem h]
theorem cnt_le (key : Nat → Nat) (l : List Nat) (k : Nat) : cnt key l k ≤ l.length := List.length_filter_le _ _
theorem cntSt_get {key : Nat → Nat} {most : Nat} {pre : List Nat} {k : Nat} (h : k ≤ most) : (cntSt key most pre).getD (k + 1) 0 = cnt key pre k := by
  unfold cntSt; rw [mr_getD _ _ _ (by omega), if_neg (by omega)]; rfl
theorem sumSt_get1 {key : Nat → Nat} {most : Nat} {l : List Nat} {i : Nat} (h : i ≤ most) : (sumSt key most l i).getD (i + 1) 0 = cnt key l i := by
  unfold sumSt; rw [mr_getD _ _ _ (by omega), if_neg (by omega)]; rfl
theorem sumSt_get0 {key : Nat → Nat} {most : Nat} {l : List Nat} {i : Nat} (h : i ≤ most) : (sumSt key most l i).getD i 0 = cum key l i := by
  unfold sumSt; rw [mr_getD _ _ _ (by omega), if_pos (Nat.le_refl _)]
set_option maxRecDepth 20000 in
set_option maxHeartbeats 8000000 in
theorem counted_any (l : List Nat) (most : Nat) (v fv : Value) (key : Nat → Nat) (w : World) (hr : RI w v (toI l)) (hk : KeyAt fv key (· ∈ l) w) (hm : most ≤ 1000000) (hkm : ∀ p ∈ l, key p ≤ most) (hl : l.length ≤ 1000000) :
    Calls Try.prog 39 #[v, .int .i64 (most : Int), fv] w fun e w' => ∃ g, e = .returned (.slice (some ⟨g, 0, none⟩) l.length l.length) ∧ Ext w w' ∧ NW w' w.heap.size g l.length (csort key most l) := by
  obtain ⟨f, cap, rfl, hcall, hkey⟩ := hk
  have W1 := w64_small (n := (most : Int) + 2) (by omega) (by omega)
  have W2 := w64_small (n := (most : Int) + 1) (by omega) (by omega)
  have hmk := make_run w (most + 2) (by omega) ((most : Int) + 2) (by omega)
  have h0 := NW.make w (most + 2) (by omega)
  rw [← cntSt_nil (key := key)] at h0
  obtain ⟨a, c, rfl, k1, k2, k3⟩ := hr.shape
  rw [toI_length] at k1 k3 ⊢
  have HK := Lib.hid hkey
  have HM := Lib.hid hkm
  have H0 := Lib.hid h0
  have HR := Lib.hid hr
  have HC := Lib.hid (fun k (h : k < l.length) => k3 (by omega))
  clear hkey hkm h0 hr k3 k2
  go_enter Try.func39, Try.ntmps39
  go_wp2
  clear hmk
  go_loopw [20] (fun i wr => ∃ k : Nat, k ≤ l.length ∧ i = .int .i64 (k : Int) ∧ Ext w wr ∧ NW wr w.heap.size w.heap.size (most + 2) (cntSt key most (l.take k))) (fun i _ => l.length - (intOf i).toNat)
  case atStart => exact ⟨0, by omega, rfl, (Ext.refl _).alloc _, H0.out⟩
  case round =>
    obtain ⟨k, hk, rfl, hx, hw⟩ := hrel
    clear H0
    have HX := Lib.hid hx
    have HW := Lib.hid hw
    by_cases hlt : k < l.length
    · obtain ⟨g, o, rfl, hc⟩ := HC.out k hlt
      have HP := Lib.hid (show l.getD k 0 ∈ l from by rw [getD_lt hlt]; exact List.getElem_mem _)
      have c1 := Go.cell_later hx (hc k (by first | exact hlt | (rw [toI_length]; exact hlt)))
      rw [toI_getD] at c1
      have HT := Lib.hid (take_prefix l k hlt)
      have hkp := HM.out _ HP.out
      have HST := Lib.hid (cntSt_step (key := key) (most := most) (pre := l.take k) (l.getD k 0) hkp)
      have hcl : cnt key (l.take k) (key (l.getD k 0)) ≤ 1000000 := by have := cnt_le key (l.take k) (key (l.getD k 0)); rw [List.length_take] at this; omega
      have HG := Lib.hid (cntSt_get (key := key) (most := most) (pre := l.take k) hkp)
      have W3 := w64_small (n := (key (l.getD k 0) : Int) + 1) (by omega) (by omega)
      have W4 := w64_small (n := (cnt key (l.take k) (key (l.getD k 0)) : Int) + 1) (by omega) (by omega)
      clear hc hw hx
      generalize l.getD k 0 = p at *
      generalize hkk : key p = kp at *
      have HKK := Lib.hid hkk
      clear hkk
      generalize cnt key (l.take k) kp = old at *
      go_wp2_with fail
      refine (HK.out _ HX.out _ HP.out).mono ?_
      rw [HKK.out]
      rintro _ w2 ⟨rfl, x2'⟩; have x2 := ext_of_eq x2'; clear x2'
      have HW2 := Lib.hid (HW.out.ext x2)
      have c2 := HW2.out.cell (kp + 1) (by omega)
      rw [HG.out] at c2
      have f2 := HW2.out.free (kp + 1) (by omega)
      have HX2 := Lib.hid (HX.out.trans x2)
      clear x2
      go_wp2
      go_roundw
      case rel =>
        refine ⟨k + 1, by omega, by go_num, Ext.set HX2.out (Nat.le_refl _) _, ?_⟩
        rw [← HT.out, HST.out, HG.out]
        exact HW2.out.set (kp + 1) (old + 1)
      case measure => simp [intOf]; omega
    · have e : k = l.length := by omega
      subst e
      rw [List.take_length, ← sumSt_zero] at hw
      have HW0 := Lib.hid hw
      have HX0 := Lib.hid hx
      clear hw hx HW HX hk
      go_wp2
      go_loopw [36] (fun i wr2 => ∃ k : Nat, k ≤ most + 1 ∧ i = .int .i64 (k : Int) ∧ Ext w wr2 ∧ NW wr2 w.heap.size w.heap.size (most + 2) (sumSt key most l k)) (fun i _ => most + 1 - (intOf i).toNat)
      case atStart => exact ⟨0, by omega, rfl, HX0.out, HW0.out⟩
      case round =>
        obtain ⟨k, hk, rfl, hx, hw⟩ := hrel
        clear HX0 HW0
        by_cases hlt : k < most + 1
        · have c0 := hw.cell k (by omega)
          have c1 := hw.cell (k + 1) (by omega)
          have f1 := hw.free (k + 1) (by omega)
          rw [sumSt_get0 (by omega)] at c0
          rw [sumSt_get1 (by omega)] at c1
          have HSS := Lib.hid (sumSt_step (key := key) (most := most) (l := l) k (by omega))
          rw [sumSt_get0 (by omega), sumSt_get1 (by omega)] at HSS
          have hcl := cnt_le key l k
          have hcu := cum_mono (key := key) (l := l) (show k + 1 ≤ most + 1 by omega)
          rw [cum_all HM.out, cum_succ] at hcu
          have W3 := w64_small (n := (k : Int) + 1) (by omega) (by omega)
          have W4 := w64_small (n := (cnt key l k : Int) + (cum key l k : Int)) (by omega) (by omega)
          have HW := Lib.hid hw
          have HX := Lib.hid hx
          clear hw hx
          generalize cnt key l k = u at *
          generalize cum key l k = v at *
          have hlt' : (k : Int) < (most : Int) + 1 := by omega
          go_wp2
          go_region
          all_goals
            go_wp2
            go_roundw
            case rel =>
              refine ⟨k + 1, by omega, by go_num, (Ext.set HX.out (Nat.le_refl _) _).drew, ?_⟩
              rw [HSS.out]
              exact (HW.out.set (k + 1) (u + v)).ext (Ext.refl _).drew
            case measure => simp [intOf]; omega
        · have e : k = most + 1 := by omega
          subst e
          rw [← putSt_nil] at hw
          rename World => wr2
          have hge : ¬ (((most + 1 : Nat) : Int) < (most : Int) + 1) := by omega
          have hmk2 := make_run wr2 l.length (by omega) _ rfl
          have hB2 : w.heap.size < wr2.heap.size := hw.lt (by omega)
          have HW0 := Lib.hid (NW.ext hw ((Ext.refl wr2).alloc (.cells (madeCells #[.int .i64 0] l.length) 3)))
          have HX0 := Lib.hid (hx.alloc (.cells (madeCells #[.int .i64 0] l.length) 3))
          have HN0 := Lib.hid (show NW (wr2.alloc (.cells (madeCells #[.int .i64 0] l.length) 3)) w.heap.size wr2.heap.size l.length (List.replicate l.length 0) from IW.mono (NW.make wr2 l.length (by omega)) (by omega))
          clear hw hx hk hlt
          go_wp2
          clear hmk2 hge
          go_loopw [56] (fun i wr3 => ∃ (k : Nat) (out : List Nat), k ≤ l.length ∧ i = .int .i64 (k : Int) ∧ Ext w wr3 ∧ NW wr3 w.heap.size w.heap.size (most + 2) (putSt key most l (l.take k)) ∧ NW wr3 w.heap.size wr2.heap.size l.length out ∧ OutOk key l (l.take k) out) (fun i _ => l.length - (intOf i).toNat)
          case atStart => exact ⟨0, List.replicate l.length 0, by omega, rfl, HX0.out, HW0.out, HN0.out, OutOk.nil (by simp)⟩
          case round =>
            obtain ⟨k, out, hk, rfl, hx, hw, hn, hok⟩ := hrel
            clear HX0 HW0 HN0
            by_cases hlt : k < l.length
            · obtain ⟨g, o, rfl, hc⟩ := HC.out k hlt
              have HP := Lib.hid (show l.getD k 0 ∈ l from by rw [getD_lt hlt]; exact List.getElem_mem _)
              have c1 := Go.cell_later hx (hc k (by first | exact hlt | (rw [toI_length]; exact hlt)))
              rw [toI_getD] at c1
              have hT := take_prefix l k hlt
              have hpre : (l.take k ++ [l.getD k 0]) <+: l := by rw [hT]; exact List.take_prefix _ _
              have hkp := HM.out _ HP.out
              have hpos := put_lt (key := key) hpre HM.out
              have HST := Lib.hid (putSt_step (key := key) (most := most) (l := l) (pre := l.take k) (l.getD k 0) hkp)
              have HG := Lib.hid (putSt_get (key := key) (most := most) (l := l) (pre := l.take k) (k := key (l.getD k 0)) (by omega))
              have HOK := Lib.hid (OutOk.step hok hpre HM.out)
              have HT := Lib.hid hT
              have W4 := w64_small (n := ((cum key l (key (l.getD k 0)) + cnt key (l.take k) (key (l.getD k 0)) : Nat) : Int) + 1) (by omega) (by omega)
              have HX := Lib.hid hx
              have HW := Lib.hid hw
              have HN := Lib.hid hn
              clear hc hw hx hn hok hpre hT
              generalize l.getD k 0 = p at *
              generalize hkk : key p = kp at *
              have HKK := Lib.hid hkk
              clear hkk
              generalize cum key l kp + cnt key (l.take k) kp = pos at *
              go_wp2_with fail
              refine (HK.out _ HX.out _ HP.out).mono ?_
              rw [HKK.out]
              rintro _ w2 ⟨rfl, x2'⟩; have x2 := ext_of_eq x2'; clear x2'
              have HW2 := Lib.hid (HW.out.ext x2)
              have HN2 := Lib.hid (HN.out.ext x2)
              have HX2 := Lib.hid (HX.out.trans x2)
              have c2 := HW2.out.cell kp (by omega)
              rw [HG.out] at c2
              have c3 := HN2.out.cell pos hpos
              have f3 := HN2.out.free pos hpos
              have hne : ¬ w.heap.size = wr2.heap.size := by omega
              have HN3 := Lib.hid (HN2.out.set pos p)
              have HW3 := Lib.hid (HW2.out.far (p := ⟨wr2.heap.size, pos, none⟩) (fun e => hne e.symm) (.int .i64 (p : Int)))
              have HX3 := Lib.hid (Ext.set HX2.out (p := ⟨wr2.heap.size, pos, none⟩) (Nat.le_of_lt hB2) (.int .i64 (p : Int)))
              have c4 := HW3.out.cell kp (by omega)
              rw [HG.out] at c4
              have f4 := HW3.out.free kp (by omega)
              clear x2
              generalize out.getD pos 0 = old at *
              go_wp2
              go_roundw
              case rel =>
                refine ⟨k + 1, out.set pos p, by omega, by go_num, Ext.set HX3.out (Nat.le_refl _) _, ?_, ?_, ?_⟩
                · rw [← HT.out, HST.out, HG.out]
                  exact HW3.out.set kp (pos + 1)
                · exact HN3.out.far (p := ⟨w.heap.size, kp, none⟩) hne _
                · rw [← HT.out]; exact HOK.out
              case measure => simp [intOf]; omega
            · have e : k = l.length := by omega
              subst e
              rw [List.take_length] at hok
              have hd := hok.done HM.out
              subst hd
              go_wp2
              go_ret
              exact ⟨_, rfl, hx, hn⟩
end Go.Proofs.Ytlhjbfckcfeikaa
namespace Go.Proofs.Ytlhjbfckcfeikaa
set_option linter.unusedVariables false
set_option linter.unusedSimpArgs false
open Go.RowKit

attribute [local go_sem] S_size S_toList S_append S_extract S_beq S_bne S_empty S_nil

/-- a row of numbers that may be read -/
def RN (w : World) (g n : Nat) (l : List Nat) : Prop := l.length = n ∧ ∀ i, i < n → w.cell? ⟨g, i, none⟩ = some (.int .i64 ((l.getD i 0 : Nat) : Int))
section

variable {w w' : World} {B g n : Nat} {l : List Nat}

theorem RN.ext (h : RN w g n l) (hx : Ext w w') : RN w' g n l := ⟨h.1, fun i hi => Go.cell_later hx (h.2 i hi)⟩
theorem NW.rn (h : NW w B g n l) : RN w g n l := ⟨h.len, fun i hi => h.cell i hi⟩
theorem RN.ri (h : RN w g n l) : RI w (.slice (some ⟨g, 0, none⟩) n n) (toI l) := by
  have := RI.of (w := w) (g := g) (o := 0) (c := n) (l := toI l) (by rw [toI_length, h.1]; exact Nat.le_refl _) (fun k hk => by rw [Nat.zero_add, toI_getD]; exact h.2 k (by rw [toI_length, h.1] at hk; exact hk))
  rw [toI_length, h.1] at this
  exact this
end

theorem callF_run {f : FuncId} {fn : Func} {c : Code} (hf : Try.prog.funcs[f]? = some fn) (hname : (fn.name == "runtime.NumGoroutine") = false) (hb : fn.body = some c) (xs : Array Value) (W : World) : (callFunc f xs).run Try.prog W = .ok (.enter f xs) W := by
  have h1 : fn.name ≠ "runtime.NumGoroutine" := by simpa using hname
  simp [callFunc, hf, h1, hb]

set_option maxRecDepth 20000 in
set_option maxHeartbeats 4000000 in
theorem letter_any (s : List UInt8) (p g : Nat) (w : World) (hg : Blk w g 9 #[.string (S s)]) (hp : p ≤ s.length) (hl : (s.length : Int) ≤ 1000000) :
    Calls Try.prog 38 #[.int .i64 (p : Int), .pointer (some ⟨g, 0, none⟩)] w fun e w' => e = .returned (.int .i64 ((letterN s p : Nat) : Int)) ∧ w = w' := by
  have c := hg.cell 0
  unfold letterN
  by_cases h : p = s.length
  · have hh : (p : Int) = (s.length : Int) := by omega
    rw [if_pos h]
    clear h hp hg
    go_enter Try.func38, Try.ntmps38
    go_wp2
    go_ret
    exact ⟨rfl, rfl⟩
  · have hh : ¬ (p : Int) = (s.length : Int) := by omega
    have hlt : p < s.length := by omega
    have hidx := index_S s p hlt _ rfl
    rw [if_neg h]
    clear h hp hg
    generalize s.getD p 0 = b at *
    have hb := b.toNat_lt
    have hub : (((b.toNat + 1 : Nat)) : Int) = U8 b + 1 := rfl
    have W0 := w64_small (n := U8 b) (by unfold U8; omega) (by unfold U8; omega)
    have W1 := w64_small (n := U8 b + 1) (by unfold U8; omega) (by unfold U8; omega)
    rw [hub]
    clear hub hb
    go_enter Try.func38, Try.ntmps38
    go_wp2
    go_ret
    exact ⟨congrArg (fun x => Ending.returned (Value.int .i64 x)) W1, rfl⟩
theorem letter_key (s : List UInt8) (g : Nat) (w : World) (hg : Blk w g 9 #[.string (S s)]) (hl : (s.length : Int) ≤ 1000000) :
    KeyAt (.func (.func 38) #[] #[.pointer (some ⟨g, 0, none⟩)]) (letterN s) (fun p => p ≤ s.length) w :=
  ⟨_, _, rfl, callF_run Try.func38 rfl rfl, fun W hW p hp => (letter_any s p g W (hg.ext hW) hp hl)⟩

set_option maxRecDepth 20000 in
set_option maxHeartbeats 4000000 in
theorem first_any (r : List Nat) (n p gb gr : Nat) (w : World) (hb : Blk w gb 31 #[.slice (some ⟨gr, 0, none⟩) n n]) (hr : RN w gr n r) (hp : p < n) :
    Calls Try.prog 59 #[.int .i64 (p : Int), .pointer (some ⟨gb, 0, none⟩)] w fun e w' => e = .returned (.int .i64 ((r.getD p 0 : Nat) : Int)) ∧ w = w' := by
  have c := hb.cell 0
  have d := hr.2 p hp
  clear hr hb
  generalize r.getD p 0 = x at *
  go_enter Try.func59, Try.ntmps59
  go_wp2
  go_ret
  exact ⟨rfl, rfl⟩
theorem first_key (r : List Nat) (n gb gr : Nat) (w : World) (hb : Blk w gb 31 #[.slice (some ⟨gr, 0, none⟩) n n]) (hr : RN w gr n r) :
    KeyAt (.func (.func 59) #[] #[.pointer (some ⟨gb, 0, none⟩)]) (fun p => r.getD p 0) (fun p => p < n) w :=
  ⟨_, _, rfl, callF_run Try.func59 rfl rfl, fun W hW p hp => (first_any r n p gb gr W (hb.ext hW) (hr.ext hW) hp)⟩
set_option maxRecDepth 20000 in
set_option maxHeartbeats 4000000 in
theorem second_any (r : List Nat) (n p L gl gn gb gr : Nat) (w : World) (hl : Blk w gl 3 #[.int .i64 (L : Int)]) (hn : Blk w gn 3 #[.int .i64 (n : Int)]) (hb : Blk w gb 31 #[.slice (some ⟨gr, 0, none⟩) n n]) (hr : RN w gr n r) (hp : p < n) (hL : L ≤ 1000000) (hm : n ≤ 1000000) (hx : ∀ i, i < n → r.getD i 0 ≤ 1000000) :
    Calls Try.prog 58 #[.int .i64 (p : Int), .pointer (some ⟨gl, 0, none⟩), .pointer (some ⟨gn, 0, none⟩), .pointer (some ⟨gb, 0, none⟩)] w fun e w' => e = .returned (.int .i64 ((secondN n r L p : Nat) : Int)) ∧ w = w' := by
  have c1 := hl.cell 0
  have c2 := hn.cell 0
  have c3 := hb.cell 0
  have W1 := w64_small (n := (p : Int) + (L : Int)) (by omega) (by omega)
  unfold secondN
  by_cases h : p + L < n
  · have d := hr.2 (p + L) h
    have hxx := hx (p + L) h
    rw [if_pos h]
    have hh : (p : Int) + (L : Int) < (n : Int) := by omega
    have hcast : ((r.getD (p + L) 0 + 1 : Nat) : Int) = ((r.getD (p + L) 0 : Nat) : Int) + 1 := rfl
    rw [hcast]
    clear hr hb hn hl hx hcast
    generalize r.getD (p + L) 0 = x at *
    have W2 := w64_small (n := (x : Int) + 1) (by omega) (by omega)
    go_enter Try.func58, Try.ntmps58
    go_wp2
    go_ret
    exact ⟨rfl, rfl⟩
  · rw [if_neg h]
    have hh : ¬ (p : Int) + (L : Int) < (n : Int) := by omega
    clear hr hb hn hl hx
    go_enter Try.func58, Try.ntmps58
    go_wp2
    go_ret
    exact ⟨rfl, rfl⟩
theorem second_key (r : List Nat) (n L gl gn gb gr : Nat) (w : World) (hl : Blk w gl 3 #[.int .i64 (L : Int)]) (hn : Blk w gn 3 #[.int .i64 (n : Int)]) (hb : Blk w gb 31 #[.slice (some ⟨gr, 0, none⟩) n n]) (hr : RN w gr n r) (hL : L ≤ 1000000) (hm : n ≤ 1000000) (hx : ∀ i, i < n → r.getD i 0 ≤ 1000000) :
    KeyAt (.func (.func 58) #[] #[.pointer (some ⟨gl, 0, none⟩), .pointer (some ⟨gn, 0, none⟩), .pointer (some ⟨gb, 0, none⟩)]) (secondN n r L) (fun p => p < n) w :=
  ⟨_, _, rfl, callF_run Try.func58 rfl rfl, fun W hW p hp => (second_any r n p L gl gn gb gr W (hl.ext hW) (hn.ext hW) (hb.ext hW) (hr.ext hW) hp hL hm hx)⟩
theorem KeyAt.sub {fv : Value} {key : Nat → Nat} {ok ok' : Nat → Prop} {w : World} (h : KeyAt fv key ok w) (hs : ∀ p, ok' p → ok p) : KeyAt fv key ok' w := by
  obtain ⟨f, cap, h1, h0, h2⟩ := h
  exact ⟨f, cap, h1, h0, fun W hW p hp => h2 W hW p (hs p hp)⟩
end Go.Proofs.Ytlhjbfckcfeikaa
namespace Go.Proofs.Ytlhjbfckcfeikaa
set_option linter.unusedVariables false
set_option linter.unusedSimpArgs false
open Go.RowKit

section

variable {P : Program} {ops : Array Oper} {Q : Exit → Act → World → Prop} {md : Region.Mode} {S : List Nat}

/-- a call of a function of the program's own -/
theorem exec_call {o : Oper} {a : Act} {w : World} {f : FuncId} {xs : Array Operand} {tys : Array TypeId} {args : Array Value} (ho : o.op = .call { callee := .value (.func f), args := xs, argTypes := tys }) (hx : xs.toList.map a.eval = args.toList)
    (hf : ∀ (xs : Array Value) (W : World), (callFunc f xs).run P W = .ok (.enter f xs) W) : (execOp a.eval o).run P w = .ok (.enter f args) w := by
  have hx : xs.map a.eval = args := Array.ext' (by rw [Array.toList_map]; exact hx)
  unfold execOp
  simp only [ho, resolve, invoke, Sem.run_bind, Sem.run_pure, Result.andThen_ok, hx, Act.eval, Deferred.ofValue, Array.empty_append, Array.append_empty, hf]
/-- only a call may come up -/
theorem v_call {fuel : Nat} {listed : Array Bool} {a : Act} {w : World} {o : Oper} {f : FuncId} {args : Array Value} (i d : Nat) (R : Value → World → Prop) (hr : Region.ready md ops listed = [i]) (hi : ops[i]? = some o) (hg : o.guard = none) (hd : o.dst = some d)
    (he : ∀ x : Up w, (execOp a.eval o).run P x.val = .ok (.enter f args) x.val)
    (hc : ∀ x : Up w, Calls P f args x.val fun e w' => ∃ v, e = .returned v ∧ Ext x.val w' ∧ R v w')
    (h : ∀ v w', Ext w w' → R v w' → wpAnyV P md ops Q S fuel (listed.setIfInBounds i true) (a.put (some d) v) w') :
    wpAnyV P md ops Q S (fuel + 1) listed a w :=
  v_one i hr hi (by unfold Region.wanted; rw [hg]) fun x K hK => by
    unfold Oper.wp
    rw [he x]
    refine Calls.mono (hc x) ?_
    rintro e w' ⟨v, rfl, hx, hR⟩
    refine hK _ _ (fun _ => hx) ?_
    rw [hd]
    exact h v w' (x.ext.trans hx) hR
end

theorem NW.drew {w : World} {B g n : Nat} {l : List Nat} (h : NW w B g n l) : NW w.drew B g n l := h.ext (Ext.refl w).drew
theorem pairN_eq {n L p q : Nat} {r : List Nat} (h1 : secondN n r L p ≤ n + 1) (h2 : secondN n r L q ≤ n + 1) : pairN n r L p = pairN n r L q ↔ r.getD p 0 = r.getD q 0 ∧ secondN n r L p = secondN n r L q := by
  unfold pairN
  generalize secondN n r L p = x at *
  generalize secondN n r L q = y at *
  generalize r.getD p 0 = u at *
  generalize r.getD q 0 = v at *
  constructor
  · intro e
    rcases Nat.lt_trichotomy u v with h | h | h
    · have : (u + 1) * (n + 2) ≤ v * (n + 2) := Nat.mul_le_mul_right _ h
      rw [Nat.add_mul] at this
      omega
    · subst h; exact ⟨rfl, by omega⟩
    · have : (v + 1) * (n + 2) ≤ u * (n + 2) := Nat.mul_le_mul_right _ h
      rw [Nat.add_mul] at this
      omega
  · rintro ⟨rfl, rfl⟩; rfl
set_option maxRecDepth 20000 in
set_option maxHeartbeats 8000000 in
theorem doubled_any (n L : Nat) (a r : List Nat) (ga gr : Nat) (w : World) (hp : a.Perm (List.range n)) (hrb : ∀ i, i < n → r.getD i 0 < n) (ha : RN w ga n a) (hr : RN w gr n r) (hn : n ≤ 20001) (hn1 : 1 ≤ n) (hL : L ≤ 100000) :
    Calls Try.prog 41 #[.slice (some ⟨ga, 0, none⟩) n n, .slice (some ⟨gr, 0, none⟩) n n, .int .i64 (L : Int)] w fun e w' => ∃ g1 g2 r', e = .returned (.tuple #[.slice (some ⟨g1, 0, none⟩) n n, .slice (some ⟨g2, 0, none⟩) n n, .bool (decide (r'.getD ((twiceL n a r L).getD (n - 1) 0) 0 = n - 1))]) ∧ Ext w w' ∧ RN w' g1 n (twiceL n a r L) ∧ RN w' g2 n r' ∧ RanksOf (pairN n r L) (twiceL n a r L) r' := by
  have hmf : ∀ (fn : Fn) (first cap : Array Value) (w : World), (Instr.makeFunc fn first cap).run Try.prog w = .ok (.func fn first cap) w := fun _ _ _ _ => rfl
  have W1 := w64_small (n := (n : Int) + 1) (by omega) (by omega)
  have HP := Lib.hid hp
  have HB := Lib.hid hrb
  have HA := Lib.hid ha
  have HR := Lib.hid hr
  clear hp hrb ha hr
  go_enter Try.func41, Try.ntmps41
  go_wp2_with fail
  have x0 : Ext w (((w.alloc (.cells #[.slice (some ⟨gr, 0, none⟩) n n] 31)).alloc (.cells #[.int .i64 (L : Int)] 3)).alloc (.cells #[.int .i64 (n : Int)] 3)) := (((Ext.refl w).alloc _).alloc _).alloc _
  have b1 := ((Blk.new w 31 #[.slice (some ⟨gr, 0, none⟩) n n]).alloc (.cells #[.int .i64 (L : Int)] 3)).alloc (.cells #[.int .i64 (n : Int)] 3)
  have b2 := (Blk.new (w.alloc (.cells #[.slice (some ⟨gr, 0, none⟩) n n] 31)) 3 #[.int .i64 (L : Int)]).alloc (.cells #[.int .i64 (n : Int)] 3)
  have b3 := Blk.new ((w.alloc (.cells #[.slice (some ⟨gr, 0, none⟩) n n] 31)).alloc (.cells #[.int .i64 (L : Int)] 3)) 3 #[.int .i64 (n : Int)]
  simp only [World.size_alloc] at b2 b3
  generalize (((w.alloc (.cells #[.slice (some ⟨gr, 0, none⟩) n n] 31)).alloc (.cells #[.int .i64 (L : Int)] 3)).alloc (.cells #[.int .i64 (n : Int)] 3)) = W0 at *
  have X0 := Lib.hid x0
  have RA := Lib.hid (HA.out.ext x0)
  have RR := Lib.hid (HR.out.ext x0)
  have hle := x0.size
  have KF := Lib.hid (first_key r n w.heap.size gr W0 b1 RR.out)
  have KS := Lib.hid (second_key r n L (w.heap.size + 1) (w.heap.size + 1 + 1) w.heap.size gr W0 b2 b3 b1 RR.out (by omega) (by omega) (fun i hi => by have := HB.out i hi; omega))
  have BN := Lib.hid b3
  have BB := Lib.hid b1
  have BL := Lib.hid b2
  have hsec : ∀ p, p < n → secondN n r L p ≤ n + 1 := fun p hp => by
    unfold secondN
    split
    · rename_i h; have := HB.out _ h; omega
    · omega
  have hmem : ∀ p ∈ a, p < n := fun p hp => List.mem_range.1 (HP.out.mem_iff.1 hp)
  have hal : a.length = n := by rw [HP.out.length_eq, List.length_range]
  have hp1 : (csort (secondN n r L) (n + 1) a).Perm a := csort_perm fun p hp => hsec p (hmem p hp)
  have hp2 : (twiceL n a r L).Perm a := (csort_perm fun p hp => by have := HB.out p (hmem p (hp1.mem_iff.1 hp)); show r.getD p 0 ≤ n; omega).trans hp1
  have QS := Lib.hid (fun (x : World) (hx : Ext W0 x) => counted_any a (n + 1) (.slice (some ⟨ga, 0, none⟩) n n) _ (secondN n r L) x (RA.out.ext hx).ri ((KS.out.ext hx).sub hmem) (by omega) (fun p hp => hsec p (hmem p hp)) (by omega))
  have QF := Lib.hid (fun (x : World) (g : Nat) (hx : Ext W0 x) (hg : RN x g n (csort (secondN n r L) (n + 1) a)) => counted_any (csort (secondN n r L) (n + 1) a) n (.slice (some ⟨g, 0, none⟩) n n) _ (fun p => r.getD p 0) x hg.ri ((KF.out.ext hx).sub fun p hp => hmem p (hp1.mem_iff.1 hp)) (by omega) (fun p hp => by have := HB.out p (hmem p (hp1.mem_iff.1 hp)); show r.getD p 0 ≤ n; omega) (by rw [hp1.length_eq]; omega))
  rw [hp1.length_eq, hal] at QF
  rw [hal] at QS
  have HP1 := Lib.hid hp1
  have HP2 := Lib.hid (hp2.trans HP.out)
  have c3 : ∀ X : Up W0.drew, X.val.cell? ⟨w.heap.size + 1 + 1, 0, none⟩ = some (.int .i64 (n : Int)) := fun X => (b3.ext ((Ext.drew (Ext.refl W0)).trans X.ext)).cell 0
  clear hp1 hp2 hmem x0 b1 b2 b3
  refine wp_region_v [] _ rfl (by kernel_rfl) ?_
  dsimp only [List.length_cons, List.length_nil]
  iterate 4
    (refine v_want (by kernel_rfl) (by kernel_rfl) (by kernel_rfl) (fun _ _ _ _ h => h) (by kernel_rfl) (by kernel_rfl) (fun K hK => ?_)
     go_simp
     (refine hK _ ?_; clear hK K))
  refine v_late ?_
  iterate 2
    (refine v_want (by kernel_rfl) (by kernel_rfl) (by kernel_rfl) (fun _ _ _ _ h => h) (by kernel_rfl) (by kernel_rfl) (fun K hK => ?_)
     go_simp
     (refine hK _ ?_; clear hK K))
  refine v_late ?_
  refine v_late ?_
  refine v_rest ?_
  rw [show IntKind.i64.wrap ((n : Int) + 1) = (n : Int) + 1 from IntWalk.i64_in _ (by omega)]
  refine v_call (f := 39) (args := #[.slice (some ⟨ga, 0, none⟩) n n, .int .i64 ((n : Int) + 1), .func (.func 58) #[] #[.pointer (some ⟨w.heap.size + 1, 0, none⟩), .pointer (some ⟨w.heap.size + 1 + 1, 0, none⟩), .pointer (some ⟨w.heap.size, 0, none⟩)]]) 4 24 (fun v w' => ∃ g, v = .slice (some ⟨g, 0, none⟩) n n ∧ RN w' g n (csort (secondN n r L) (n + 1) a)) (by kernel_rfl) rfl rfl rfl (fun x => exec_call rfl rfl (callF_run Try.func39 rfl rfl)) (fun x => ?_) (fun v w1 x1 h1 => ?_)
  · refine (QS.out x.val ((Ext.drew (Ext.refl W0)).trans x.ext)).mono ?_
    rintro e w' ⟨g, rfl, hx, hn⟩
    exact ⟨_, rfl, hx, g, rfl, hn.rn⟩
  obtain ⟨g1, rfl, n1⟩ := h1
  have xW1 : Ext W0 w1 := (Ext.drew (Ext.refl W0)).trans x1
  refine v_call (f := 39) (args := #[.slice (some ⟨g1, 0, none⟩) n n, .int .i64 (n : Int), .func (.func 59) #[] #[.pointer (some ⟨w.heap.size, 0, none⟩)]]) 7 27 (fun v w' => ∃ g, v = .slice (some ⟨g, 0, none⟩) n n ∧ RN w' g n (twiceL n a r L)) (by kernel_rfl) rfl rfl rfl (fun x => exec_call rfl rfl (callF_run Try.func39 rfl rfl)) (fun x => ?_) (fun v w2 x2 h2 => ?_)
  · refine (QF.out x.val g1 (xW1.trans x.ext) (n1.ext x.ext)).mono ?_
    rintro e w' ⟨g, rfl, hx, hn⟩
    exact ⟨_, rfl, hx, g, rfl, hn.rn⟩
  obtain ⟨g2, rfl, n2⟩ := h2
  refine v_val (v := .slice (some ⟨g2, 0, none⟩) n n) 8 0 (.tmp 27) (by kernel_rfl) rfl rfl rfl rfl rfl (fun W3 x3 => ?_)
  refine v_done (by kernel_rfl) (fun y => ?_)
  have xY : Ext W0 y.val := ((xW1.trans x2).trans x3).trans y.ext
  have RT := Lib.hid ((n2.ext x3).ext y.ext)
  have XY := Lib.hid (X0.out.trans xY)
  have BN := Lib.hid (BN.out.ext xY)
  have QF1 := Lib.hid (fun (W : World) (hW : Ext y.val W) (p : Nat) (hp : p < n) => first_any r n p w.heap.size gr W ((BB.out.ext xY).ext hW) ((RR.out.ext xY).ext hW) hp)
  have QS1 := Lib.hid (fun (W : World) (hW : Ext y.val W) (p : Nat) (hp : p < n) => second_any r n p L (w.heap.size + 1) (w.heap.size + 1 + 1) w.heap.size gr W ((BL.out.ext xY).ext hW) (BN.out.ext hW) ((BB.out.ext xY).ext hW) ((RR.out.ext xY).ext hW) hp (by omega) (by omega) (fun i hi => by have := HB.out i hi; omega))
  have HSE := Lib.hid hsec
  have hle : w.heap.size ≤ y.val.heap.size := XY.out.size
  clear QS QF n2 n1 x1 x2 x3 xW1 xY c3 RA RR HA HR X0 KF KS BB BL hsec
  dsimp only [Act.put]
  simp only [List.setIfInBounds_toArray, List.set_cons_succ, List.set_cons_zero]
  have hmk := make_run y.val n (by omega) _ rfl
  have bn := BN.out.cell 0
  have HN0 := Lib.hid (show NW (y.val.alloc (.cells (madeCells #[.int .i64 0] n) 3)) y.val.heap.size y.val.heap.size n (List.replicate n 0) from NW.make y.val n (by omega))
  have htl : (twiceL n a r L).length = n := by rw [HP2.out.length_eq, List.length_range]
  have HRK0 := Lib.hid (RanksTo.start (g := pairN n r L) (a := twiceL n a r L) (r := List.replicate n 0) rfl htl)
  have htd : ∀ X, Ext y.val X → RN X g2 n (twiceL n a r L) := fun X hX => RT.out.ext hX
  have HTD := Lib.hid htd
  have HTL := Lib.hid htl
  clear htd htl
  generalize htw : twiceL n a r L = tw at *
  have HTW := Lib.hid htw
  clear htw
  generalize y.val = Y at *
  go_wp2
  clear hmk bn
  go_loopw [13] (fun i wr => ∃ (k : Nat) (nx : List Nat), 1 ≤ k ∧ k ≤ n ∧ i = .int .i64 (k : Int) ∧ Ext Y wr ∧ NW wr Y.heap.size Y.heap.size n nx ∧ RanksTo (pairN n r L) tw nx k) (fun i _ => n - (intOf i).toNat)
  case atStart => exact ⟨1, List.replicate n 0, by omega, by omega, rfl, (Ext.refl _).alloc _, HN0.out, HRK0.out⟩
  case round =>
    obtain ⟨k, nx, hk1, hk, rfl, hx, hw, hrk⟩ := hrel
    clear HN0 HRK0
    have bn := (BN.out.ext hx).cell 0
    by_cases hlt : k < n
    · obtain ⟨j, rfl⟩ : ∃ j, k = j + 1 := ⟨k - 1, by omega⟩
      have hA := perm_lt HP2.out (i := j) (by omega)
      have hB := perm_lt HP2.out (i := j + 1) hlt
      have cA := (HTD.out _ hx).2 j (by omega)
      have cB := (HTD.out _ hx).2 (j + 1) hlt
      have HST := Lib.hid (hrk.step HP2.out hlt)
      have HEQ := Lib.hid (pairN_eq (HSE.out _ hA) (HSE.out _ hB))
      have hnx : nx.getD (tw.getD j 0) 0 ≤ j := by
        rw [hrk.2 j (by omega)]
        exact rk_le _ _ _
      have HQA := Lib.hid (fun (W : World) (hW : Ext Y W) => QF1.out W hW _ hA)
      have HQB := Lib.hid (fun (W : World) (hW : Ext Y W) => QF1.out W hW _ hB)
      have HSA := Lib.hid (fun (W : World) (hW : Ext Y W) => QS1.out W hW _ hA)
      have HSB := Lib.hid (fun (W : World) (hW : Ext Y W) => QS1.out W hW _ hB)
      have hjn : (j : Int) + 1 < (n : Int) := by omega
      have e2 : (0 : Int) ≤ (j : Int) + 1 := by omega
      have e0 : IntKind.i64.wrap (j : Int) = (j : Int) := IntWalk.i64_in _ (by omega)
      generalize tw.getD j 0 = A at *
      generalize tw.getD (j + 1) 0 = B at *
      have cx := hw.cell A hA
      have cy := hw.cell B hB
      have fy := hw.free B hB
      have HW := Lib.hid hw
      have HX := Lib.hid hx
      have HW2 := Lib.hid (hw.set B (nx.getD A 0)).drew
      have HX2 := Lib.hid (Ext.set hx (p := ⟨Y.heap.size, B, none⟩) (Nat.le_refl _) (.int .i64 ((nx.getD A 0 : Nat) : Int))).drew
      have hset : (nx.set B (nx.getD A 0)).getD B 0 = nx.getD A 0 := by
        rw [List.getD_eq_getElem?_getD, List.getElem?_set_self (by rw [hw.len]; exact hB)]; rfl
      clear hw hx hrk
      generalize nx.getD A 0 = x at *
      have cz := HW2.out.cell B hB
      rw [hset] at cz
      have fz := HW2.out.free B hB
      have HUP := Lib.hid (show NW ((wr.setCell ⟨Y.heap.size, B, none⟩ (.int .i64 (x : Int))).drew.setCell ⟨Y.heap.size, B, none⟩ (.int .i64 ((x : Int) + 1))) Y.heap.size Y.heap.size n (nx.set B (x + 1)) from by
        have := HW2.out.set B (x + 1)
        rw [List.set_set] at this
        exact this)
      have HXP := Lib.hid (Ext.set HX2.out (p := ⟨Y.heap.size, B, none⟩) (Nat.le_refl _) (.int .i64 ((x : Int) + 1)))
      have CZ := Lib.hid cz
      have FZ := Lib.hid fz
      clear hset cz fz
      generalize nx.getD B 0 = old at *
      generalize r.getD A 0 = fa at *
      generalize r.getD B 0 = fb at *
      generalize secondN n r L A = sa at *
      generalize secondN n r L B = sb at *
      go_wp2
      go_region
      go_wp2_with fail
      refine (HQA.out _ HX2.out).mono ?_
      rintro e w5 ⟨rfl, rfl⟩
      go_wp2_with fail
      refine (HQB.out _ HX2.out).mono ?_
      rintro e w5 ⟨rfl, rfl⟩
      generalize hW5 : (wr.setCell ⟨Y.heap.size, B, none⟩ (.int .i64 (x : Int))).drew = w5 at *
      clear hW5
      have cz := CZ.out
      have fz := FZ.out
      by_cases h1 : fa = fb
      · have h1' : ((fa : Int) != (fb : Int)) = false := by simp [h1]
        go_wp2_with fail
        refine (HSA.out _ HX2.out).mono ?_
        rintro e w5 ⟨rfl, rfl⟩
        go_wp2_with fail
        refine (HSB.out _ HX2.out).mono ?_
        rintro e w5 ⟨rfl, rfl⟩
        by_cases h2 : sa = sb
        · have h2' : ((sa : Int) != (sb : Int)) = false := by simp [h2]
          have HR2 := HST.out
          rw [if_pos (HEQ.out.2 ⟨h1, h2⟩)] at HR2
          have HR2 := Lib.hid HR2
          clear HST
          go_wp2
          go_roundw
          case rel => exact ⟨j + 2, _, by omega, by omega, by go_num, HX2.out, HW2.out, HR2.out⟩
          case measure => simp [intOf]; omega
        · have h2' : ((sa : Int) != (sb : Int)) = true := by simp; omega
          have HR2 := HST.out
          rw [if_neg (fun h => h2 (HEQ.out.1 h).2)] at HR2
          have HR2 := Lib.hid HR2
          clear HST
          go_wp2
          go_roundw
          case rel => exact ⟨j + 2, _, by omega, by omega, by go_num, HXP.out, HUP.out, HR2.out⟩
          case measure => simp [intOf]; omega
      · have h1' : ((fa : Int) != (fb : Int)) = true := by simp; omega
        have HR2 := HST.out
        rw [if_neg (fun h => h1 (HEQ.out.1 h).1)] at HR2
        have HR2 := Lib.hid HR2
        clear HST
        go_wp2
        go_roundw
        case rel => exact ⟨j + 2, _, by omega, by omega, by go_num, HXP.out, HUP.out, HR2.out⟩
        case measure => simp [intOf]; omega
    · have e : k = n := by omega
      subst e
      obtain ⟨m, rfl⟩ : ∃ m, k = m + 1 := ⟨k - 1, by omega⟩
      have hA := perm_lt HP2.out (i := m) (by omega)
      have cA := (HTD.out _ hx).2 m (by omega)
      have hda := Lib.hid (hrk.done (by rw [HTL.out]; exact Nat.le_refl _))
      have HX := Lib.hid hx.drew
      have HN := Lib.hid hw.drew.rn
      have HT := Lib.hid (HTD.out _ hx.drew)
      have cx := hw.cell _ hA
      have e0 : IntKind.i64.wrap (m : Int) = (m : Int) := IntWalk.i64_in _ (by omega)
      have HTW := Lib.hid HTW.out.symm
      clear hrk hw hx
      generalize hAA : tw.getD m 0 = A at *
      have HAA := Lib.hid hAA
      generalize hxx : nx.getD A 0 = x at *
      have HXX := Lib.hid hxx
      clear hAA hxx
      have hbx : ((x : Int) == (m : Int)) = decide (x = m) := by by_cases h : x = m <;> simp [h]; omega
      have HBX := Lib.hid hbx
      clear hbx
      go_wp2
      go_region
      go_wp2
      refine bodyPost_ret (results_tmp3 rfl _ _ _) rfl ⟨g2, Y.heap.size, nx, ?_, XY.out.trans HX.out, ?_, HN.out, ?_⟩
      · show Ending.returned (.tuple #[.slice (some ⟨g2, 0, none⟩) (m + 1) (m + 1), .slice (some ⟨Y.heap.size, 0, none⟩) (m + 1) (m + 1), .bool ((x : Int) == (m : Int))]) = _
        rw [HBX.out, ← HTW.out, Nat.add_sub_cancel, HAA.out, HXX.out]
      · rw [← HTW.out]; exact HT.out
      · rw [← HTW.out]; exact hda.out
end Go.Proofs.Ytlhjbfckcfeikaa
namespace Go.Proofs.Ytlhjbfckcfeikaa
set_option linter.unusedVariables false
set_option linter.unusedSimpArgs false
open Go.RowKit

attribute [local go_sem] S_size

set_option maxRecDepth 20000 in
set_option maxHeartbeats 4000000 in
theorem array_big (s : List UInt8) (w : World) (hs : ¬ s.length ≤ 20000) : Calls Try.prog 22 #[.string (S s)] w fun e w' => e = .returned (.tuple #[.slice none 0 0, .int .i64 3]) ∧ Ext w w' := by
  have hh : (20000 : Int) < (s.length : Int) := by omega
  have x0 := Lib.hid ((Ext.refl w).alloc (.cells #[.string (S s)] 9))
  clear hs
  go_enter Try.func22, Try.ntmps22
  go_wp2
  go_ret2
  exact ⟨rfl, x0.out⟩

set_option maxRecDepth 20000 in
set_option maxHeartbeats 8000000 in
theorem array_any (s : List UInt8) (w : World) (hs : s.length ≤ 20000) : Calls Try.prog 22 #[.string (S s)] w fun e w' => ∃ g, e = .returned (.tuple #[.slice (some ⟨g, 0, none⟩) (s.length + 1) (s.length + 1), .int .i64 0]) ∧ Ext w w' ∧ RN w' g (s.length + 1) (arrayL s) := by
  have hmf : ∀ (fn : Fn) (first cap : Array Value) (w : World), (Instr.makeFunc fn first cap).run Try.prog w = .ok (.func fn first cap) w := fun _ _ _ _ => rfl
  have hh : ¬ (20000 : Int) < (s.length : Int) := by omega
  have x0 := Lib.hid ((Ext.refl w).alloc (.cells #[.string (S s)] 9))
  have b0 := Lib.hid (Blk.new w 9 #[.string (S s)])
  have HL := Lib.hid hs
  have W1 := w64_small (n := (s.length : Int) + 1) (by omega) (by omega)
  have HU := Lib.hid (upto_any (s.length + 1) (w.alloc (.cells #[.string (S s)] 9)) (by omega))
  have HC := Lib.hid (fun (x : World) (g : Nat) (hx : Ext (w.alloc (.cells #[.string (S s)] 9)) x) (hg : RN x g (s.length + 1) (List.range (s.length + 1))) =>
    counted_any (List.range (s.length + 1)) 256 (.slice (some ⟨g, 0, none⟩) (s.length + 1 : Nat) (s.length + 1 : Nat)) (.func (.func 38) #[] #[.pointer (some ⟨w.heap.size, 0, none⟩)]) (letterN s) x hg.ri ((letter_key s w.heap.size x (b0.out.ext hx) (by omega)).sub (fun p hp => by have := List.mem_range.1 hp; omega)) (by decide) (fun p _ => letter_le s p) (by rw [List.length_range]; omega))
  rw [List.length_range] at HC
  clear hs
  go_enter Try.func22, Try.ntmps22
  go_wp2_with fail
  refine HU.out.mono ?_
  rintro e w1 ⟨g1, rfl, x1, n1⟩
  go_wp2_with fail
  refine (HC.out w1 g1 x1 n1.rn).mono ?_
  rintro e w2 ⟨g2, rfl, x2, n2⟩
  have X2 := Lib.hid ((x0.out.trans x1).trans x2)
  have HS := Lib.hid (b0.out.ext (x1.trans x2))
  have N2 := Lib.hid n2.rn
  have hmk := make_run w2 (s.length + 1) (by have := HL.out; omega) ((s.length : Int) + 1) rfl
  have HM := Lib.hid (NW.make w2 (s.length + 1) (by have := HL.out; omega))
  have hpm : (csort (letterN s) 256 (List.range (s.length + 1))).Perm (List.range (s.length + 1)) := csort_perm fun p _ => letter_le s p
  have HP := Lib.hid hpm
  have hal : (csort (letterN s) 256 (List.range (s.length + 1))).length = s.length + 1 := by rw [hpm.length_eq, List.length_range]
  have HRK0 := Lib.hid (RanksTo.start (g := letterN s) (a := csort (letterN s) 256 (List.range (s.length + 1))) (r := List.replicate (s.length + 1) 0) rfl hal)
  have HAL := Lib.hid hal
  have HI := Lib.hid (fun (r : List Nat) (h : RanksOf (letterN s) (csort (letterN s) 256 (List.range (s.length + 1))) r) => Inv.first (s := s) h)
  clear x1 x2 n1 n2 HU HC x0 b0 hpm hal
  generalize hgar : csort (letterN s) 256 (List.range (s.length + 1)) = ar at *
  clear hgar
  have Q1 := Lib.hid (fun (W : World) (hW : Ext w2 W) (p : Nat) (hp : p < s.length + 1) => letter_any s p w.heap.size W (HS.out.ext hW) (by omega) (by have := HL.out; omega))
  go_wp2
  clear hmk
  go_loopw [8] (fun i wr => ∃ (k : Nat) (nx : List Nat), 1 ≤ k ∧ k ≤ s.length + 1 ∧ i = .int .i64 (k : Int) ∧ Ext w2 wr ∧ NW wr w2.heap.size w2.heap.size (s.length + 1) nx ∧ RanksTo (letterN s) ar nx k) (fun i _ => s.length + 1 - (intOf i).toNat)
  case atStart => exact ⟨1, List.replicate (s.length + 1) 0, by omega, by omega, rfl, (Ext.refl _).alloc _, HM.out, HRK0.out⟩
  case round =>
    obtain ⟨k, nx, hk1, hk, rfl, hx, hw, hrk⟩ := hrel
    clear HM HRK0
    by_cases hlt : k < s.length + 1
    · obtain ⟨j, rfl⟩ : ∃ j, k = j + 1 := ⟨k - 1, by omega⟩
      have hA := perm_lt HP.out (i := j) (by omega)
      have hB := perm_lt HP.out (i := j + 1) hlt
      have cA := up_cell (W := wr.drew) ((N2.out.ext hx.drew).2 j (by omega))
      have cB := up_cell (W := wr.drew) ((N2.out.ext hx.drew).2 (j + 1) hlt)
      have HST := Lib.hid (hrk.step HP.out hlt)
      have hnx : nx.getD (ar.getD j 0) 0 ≤ j := by
        rw [hrk.2 j (by omega)]
        exact rk_le _ _ _
      have HN1 := Lib.hid (fun (W : World) (hW : Ext w2 W) => (N2.out.ext hW).2 j (by omega))
      have HN2 := Lib.hid (fun (W : World) (hW : Ext w2 W) => (N2.out.ext hW).2 (j + 1) hlt)
      have HQA := Lib.hid (fun (W : World) (hW : Ext w2 W) => Q1.out W hW _ hA)
      have HQB := Lib.hid (fun (W : World) (hW : Ext w2 W) => Q1.out W hW _ hB)
      have hjn : (j : Int) + 1 < (s.length : Int) + 1 := by omega
      have e2 : (0 : Int) ≤ (j : Int) + 1 := by omega
      have e0 : IntKind.i64.wrap (j : Int) = (j : Int) := IntWalk.i64_in _ (by omega)
      generalize ar.getD j 0 = A at *
      generalize ar.getD (j + 1) 0 = B at *
      have hji : (j : Int) < (s.length : Int) + 1 := by omega
      have hAi : (A : Int) < (s.length : Int) + 1 := by omega
      have hBi : (B : Int) < (s.length : Int) + 1 := by omega
      have cx := up_cell (W := wr.drew) (hw.drew.cell A hA)
      have cy := up_cell (W := wr.drew) (hw.drew.cell B hB)
      have fy := fun x : Up wr.drew => ((hw.drew.ext x.ext).free B hB)
      have HX := Lib.hid hx.drew
      have HW2 := Lib.hid (fun x : Up wr.drew => (hw.drew.ext x.ext).set B (nx.getD A 0))
      have hset : (nx.set B (nx.getD A 0)).getD B 0 = nx.getD A 0 := by
        rw [List.getD_eq_getElem?_getD, List.getElem?_set_self (by rw [hw.len]; exact hB)]; rfl
      have hset2 : ∀ u, (nx.set B (nx.getD A 0)).set B u = nx.set B u := fun u => List.set_set ..
      have HSET := Lib.hid hset
      have HSET2 := Lib.hid hset2
      clear hw hx hrk hset hset2
      generalize nx.getD A 0 = v at *
      generalize nx.getD B 0 = old at *
      generalize letterN s A = fa at *
      generalize letterN s B = fb at *
      go_wp2_with fail
      refine wp_region_lex _ rfl (by kernel_rfl) ?_
      dsimp only [List.length_cons, List.length_nil]
      iterate 14
        (refine lex_want (by kernel_rfl) (by kernel_rfl) (by kernel_rfl) (by kernel_rfl) (fun _ _ _ _ h => h) (by kernel_rfl) (fun K hK => ?_)
         go_simp
         (refine hK _ ?_; clear hK K))
      refine lex_last (by kernel_rfl) (by kernel_rfl) (by kernel_rfl) (by kernel_rfl) (by kernel_rfl) (fun x K hK => ?_)
      have p1 := cy x
      have p2 := fy x
      go_simp
      refine hK _ _ (fun y => ?_)
      have NV := Lib.hid ((HW2.out x).ext y.ext)
      have XV := Lib.hid ((Ext.set (HX.out.trans x.ext) (p := ⟨w2.heap.size, B, none⟩) (Nat.le_refl _) (.int .i64 (v : Int))).trans y.ext)
      clear hK p1 p2 cx cy fy cA cB HW2 HX
      generalize y.val = V at *
      have cA := up_cell (W := V) (HN1.out V XV.out)
      have cB := up_cell (W := V) (HN2.out V XV.out)
      have HQA := Lib.hid (fun x : Up V => HQA.out x.val (XV.out.trans x.ext))
      have HQB := Lib.hid (fun x : Up V => HQB.out x.val (XV.out.trans x.ext))
      go_wp2_with fail
      refine wp_region_up (by kernel_rfl) (by kernel_rfl) ?_
      iterate 5 (quiet_step (fail))
      quiet_step (with_reducible exact up_same (HQB.out _))
      iterate 6 (quiet_step (fail))
      quiet_step (with_reducible exact up_same (HQA.out _))
      quiet_step (fail)
      refine wpQuiet_nil ?_
      rintro _ ⟨y, rfl⟩
      have HX2 := Lib.hid (XV.out.trans y.ext)
      have HW2 := Lib.hid (NV.out.ext y.ext)
      clear cA cB HQA HQB XV NV
      generalize y.val = w5 at *
      have cz := HW2.out.cell B hB
      rw [HSET.out] at cz
      have fz := HW2.out.free B hB
      have cB := HN2.out _ HX2.out
      have HUP := Lib.hid (HW2.out.set B (v + 1))
      rw [HSET2.out] at HUP
      have HXP := Lib.hid (Ext.set HX2.out (p := ⟨w2.heap.size, B, none⟩) (Nat.le_refl _) (.int .i64 ((v : Int) + 1)))
      by_cases h1 : fb = fa
      · have h1' : ((fb : Int) != (fa : Int)) = false := by simp [h1]
        have HR2 := HST.out
        rw [if_pos h1.symm] at HR2
        have HR2 := Lib.hid HR2
        clear HST h1
        go_wp2
        go_roundw
        case rel => exact ⟨j + 2, _, by omega, by omega, by go_num, HX2.out, HW2.out, HR2.out⟩
        case measure => simp [intOf]; omega
      · have h1' : ((fb : Int) != (fa : Int)) = true := by simp; omega
        have HR2 := HST.out
        rw [if_neg (fun h => h1 h.symm)] at HR2
        have HR2 := Lib.hid HR2
        clear HST h1
        go_wp2
        go_roundw
        case rel => exact ⟨j + 2, _, by omega, by omega, by go_num, HXP.out, HUP.out, HR2.out⟩
        case measure => simp [intOf]; omega
    · have e : k = s.length + 1 := by omega
      subst e
      rw [show ((s.length + 1 : Nat) : Int) = (s.length : Int) + 1 from rfl]
      have hA := perm_lt HP.out (i := s.length) (by omega)
      have cA := (N2.out.ext hx).2 s.length (by omega)
      have HX := Lib.hid hx
      have HW := Lib.hid hw.rn
      have HINV := Lib.hid (HI.out _ (hrk.done (by rw [HAL.out]; exact Nat.le_refl _)))
      have cx := hw.cell _ hA
      have hbx : ∀ z : Nat, ((z : Int) == (s.length : Int)) = decide (z = s.length) := fun z => by
        by_cases h : z = s.length <;> simp [h]
        omega
      clear hrk hw hx hlt hk hk1
      have HBX := Lib.hid hbx
      clear hbx
      generalize hAA : ar.getD s.length 0 = A at *
      generalize hvv : nx.getD A 0 = v at *
      have HAA := Lib.hid hAA
      have HVV := Lib.hid hvv
      clear hAA hvv
      have hA2 : (A : Int) < (s.length : Int) + 1 := by omega
      go_wp2
      go_loopw [6, 7, 9, 10] (fun x6 x7 x9 x10 wr => ∃ (L : Nat) (a r : List Nat) (ga gr : Nat), x6 = .slice (some ⟨ga, 0, none⟩) (s.length + 1) (s.length + 1) ∧ x7 = .slice (some ⟨gr, 0, none⟩) (s.length + 1) (s.length + 1) ∧ x9 = .bool (decide (r.getD (a.getD s.length 0) 0 = s.length)) ∧ x10 = .int .i64 (L : Int) ∧ 1 ≤ L ∧ L ≤ 40000 ∧ Inv s L a r ∧ RN wr ga (s.length + 1) a ∧ RN wr gr (s.length + 1) r ∧ Ext w2 wr) (fun _ _ _ x10 _ => 100000 - (intOf x10).toNat)
      case atStart =>
        refine ⟨1, ar, nx, g2, w2.heap.size, rfl, rfl, ?_, rfl, by omega, by omega, HINV.out, N2.out.ext HX.out, HW.out, HX.out⟩
        rw [HAA.out, HVV.out, ← HBX.out v]
      case round =>
        rename World => wr2
        obtain ⟨L, a, r, ga, gr, rfl, rfl, rfl, rfl, hL1, hL2, hinv, ha, hr, hx⟩ := hrel
        by_cases hd : r.getD (a.getD s.length 0) 0 = s.length
        · have HA := Lib.hid ha
          have HX := Lib.hid (X2.out.trans hx)
          have HD := Lib.hid (hinv.done hd)
          rw [decide_eq_true hd]
          clear hinv hx hr ha hd
          go_wp2
          go_ret2
          exact ⟨ga, rfl, HX.out, HD.out ▸ HA.out⟩
        · have hml := hinv.more hd
          have hq := Lib.hid (doubled_any (s.length + 1) L a r ga gr wr2 hinv.1 (fun i hi => by have := hinv.rank_le (p := i) (by omega); omega) ha hr (by omega) (by omega) (by omega))
          have HST := Lib.hid (fun (r' : List Nat) (h : RanksOf (pairN (s.length + 1) r L) (twiceL (s.length + 1) a r L) r') => hinv.step h)
          have HX := Lib.hid hx
          rw [decide_eq_false hd]
          clear hinv hr ha hd hx
          go_wp2_with fail
          refine hq.out.mono ?_
          rintro e w3 ⟨ga2, gr2, r2, rfl, x3, na, nr, hrk⟩
          have HI2 := Lib.hid (HST.out _ hrk)
          have HX3 := Lib.hid (HX.out.trans x3)
          have NA := Lib.hid na
          have NR := Lib.hid nr
          clear x3 na nr hrk HST hq
          rw [Nat.add_sub_cancel]
          generalize hdd : decide (r2.getD ((twiceL (s.length + 1) a r L).getD s.length 0) 0 = s.length) = dd at *
          have HDD := Lib.hid hdd
          clear hdd
          go_wp2
          go_roundw
          case rel => exact ⟨2 * L, _, r2, ga2, gr2, rfl, rfl, by rw [HDD.out], by go_num, by omega, by omega, HI2.out, NA.out, NR.out, HX3.out⟩
          case measure => simp [intOf]; omega
end Go.Proofs.Ytlhjbfckcfeikaa
