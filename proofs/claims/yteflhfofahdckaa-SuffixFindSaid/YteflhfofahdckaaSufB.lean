/- suffix: sorting by counting (plain). -/
import Derived.Test.YteflhfofahdckaaSufA
namespace Go.Proofs.Yteflhfofahdckaa
set_option linter.unusedVariables false
set_option linter.unusedSimpArgs false

theorem mr_getD (n : Nat) (f : Nat → Nat) (j : Nat) (h : j < n) : ((List.range n).map f).getD j 0 = f j := by
  rw [List.getD_eq_getElem?_getD, List.getElem?_map, List.getElem?_range h]; rfl
theorem mr_set (n : Nat) (f : Nat → Nat) (j v : Nat) : ((List.range n).map f).set j v = (List.range n).map fun i => if i = j then v else f i := by
  apply List.ext_getElem?
  intro i
  rw [List.getElem?_set]
  by_cases hi : i < n
  · by_cases hj : j = i
    · subst hj
      rw [if_pos rfl, List.length_map, List.length_range, if_pos hi, List.getElem?_map, List.getElem?_range hi]
      simp
    · rw [if_neg hj, List.getElem?_map, List.getElem?_map, List.getElem?_range hi]
      simp [Ne.symm hj]
  · have e1 : ((List.range n).map fun i => if i = j then v else f i)[i]? = none := by rw [List.getElem?_eq_none]; simp; omega
    have e2 : ((List.range n).map f)[i]? = none := by rw [List.getElem?_eq_none]; simp; omega
    rw [e1, e2]
    by_cases hj : j = i
    · subst hj
      rw [if_pos rfl, List.length_map, List.length_range, if_neg hi]
    · rw [if_neg hj]
theorem mr_congr {n : Nat} {f g : Nat → Nat} (h : ∀ i, i < n → f i = g i) : (List.range n).map f = (List.range n).map g := by
  apply List.map_congr_left
  intro i hi
  exact h i (List.mem_range.1 hi)

section
variable (key : Nat → Nat)
/-- those with keys below k, key by key -/
def blocks (l : List Nat) (k : Nat) : List Nat := (List.range k).flatMap fun j => l.filter fun p => key p == j
/-- sorted by keys up to most; those of one key stay in their order -/
def csort (most : Nat) (l : List Nat) : List Nat := blocks key l (most + 1)
def cum (l : List Nat) (k : Nat) : Nat := (blocks key l k).length
def cnt (l : List Nat) (k : Nat) : Nat := (l.filter fun p => key p == k).length
variable {key} {l pre : List Nat} {most k j : Nat}
theorem blocks_succ : blocks key l (k + 1) = blocks key l k ++ l.filter fun p => key p == k := by
  unfold blocks; rw [List.range_succ, List.flatMap_append]; simp
theorem cum_zero : cum key l 0 = 0 := rfl
theorem cum_succ : cum key l (k + 1) = cum key l k + cnt key l k := by
  unfold cum cnt; rw [blocks_succ, List.length_append]
theorem cum_mono {m : Nat} (h : k ≤ m) : cum key l k ≤ cum key l m := by
  induction m with
  | zero => rw [show k = 0 by omega]; exact Nat.le_refl _
  | succ m ih =>
    by_cases e : k = m + 1
    · rw [e]; exact Nat.le_refl _
    · rw [cum_succ]; have := ih (by omega); omega
theorem filter_split : ∀ l : List Nat, ((l.filter fun p => decide (key p < k)) ++ l.filter fun p => key p == k).Perm (l.filter fun p => decide (key p < k + 1))
  | [] => List.Perm.refl _
  | x :: l => by
    have ih := filter_split l
    rcases Nat.lt_trichotomy (key x) k with h | h | h
    · rw [List.filter_cons_of_pos (by simpa using h), List.filter_cons_of_neg (by simp; omega), List.filter_cons_of_pos (by simp; omega), List.cons_append]
      exact ih.cons x
    · rw [List.filter_cons_of_neg (by simp; omega), List.filter_cons_of_pos (by simpa using h), List.filter_cons_of_pos (by simp; omega)]
      exact List.perm_middle.trans (ih.cons x)
    · rw [List.filter_cons_of_neg (by simp; omega), List.filter_cons_of_neg (by simp; omega), List.filter_cons_of_neg (by simp; omega)]
      exact ih
theorem blocks_perm0 : (blocks key l k).Perm (l.filter fun p => decide (key p < k)) := by
  induction k with
  | zero => simp [blocks]
  | succ k ih =>
    rw [blocks_succ]
    exact (ih.append_right _).trans (filter_split l)
theorem csort_perm (h : ∀ p ∈ l, key p ≤ most) : (csort key most l).Perm l := by
  have := blocks_perm0 (key := key) (l := l) (k := most + 1)
  rwa [List.filter_eq_self.2 (fun p hp => by simpa using Nat.lt_succ_of_le (h p hp))] at this
theorem cum_all (h : ∀ p ∈ l, key p ≤ most) : cum key l (most + 1) = l.length := (csort_perm h).length_eq
theorem blocks_get {m : Nat} (hk : k < m) (hj : j < cnt key l k) : (blocks key l m).getD (cum key l k + j) 0 = (l.filter fun p => key p == k).getD j 0 := by
  induction m with
  | zero => omega
  | succ m ih =>
    rw [blocks_succ]
    rcases Nat.lt_or_ge k m with h | h
    · have := cum_mono (key := key) (l := l) (show k + 1 ≤ m by omega)
      rw [cum_succ] at this
      rw [List.getD_eq_getElem?_getD, List.getElem?_append_left (by unfold cum at this ⊢; omega), ← List.getD_eq_getElem?_getD]
      exact ih h
    · obtain rfl : k = m := by omega
      rw [List.getD_eq_getElem?_getD, List.getElem?_append_right (by unfold cum; omega), ← List.getD_eq_getElem?_getD]
      congr 1
      unfold cum; omega
theorem cum_split {i m : Nat} (h : i < cum key l m) : ∃ k j, k < m ∧ j < cnt key l k ∧ i = cum key l k + j := by
  induction m with
  | zero => rw [cum_zero] at h; omega
  | succ m ih =>
    rcases Nat.lt_or_ge i (cum key l m) with h1 | h1
    · obtain ⟨k, j, h2, h3⟩ := ih h1
      exact ⟨k, j, by omega, h3⟩
    · rw [cum_succ] at h
      exact ⟨m, i - cum key l m, by omega, by omega, by omega⟩
/-- a relation that holds along the list holds along the sorted one, within a key -/
theorem csort_pairwise {r : Nat → Nat → Prop} (h : l.Pairwise r) : (csort key most l).Pairwise fun p q => key p < key q ∨ (key p = key q ∧ r p q) := by
  unfold csort blocks
  rw [List.pairwise_flatMap]
  refine ⟨fun k hk => ?_, ?_⟩
  · refine ((h.sublist List.filter_sublist).imp_of_mem fun {p q} hp hq hr => .inr ⟨?_, hr⟩)
    have h1 := (List.mem_filter.1 hp).2
    have h2 := (List.mem_filter.1 hq).2
    rw [beq_iff_eq] at h1 h2
    omega
  · refine List.pairwise_lt_range.imp fun {k m} hkm p hp q hq => .inl ?_
    have h1 := (List.mem_filter.1 hp).2
    have h2 := (List.mem_filter.1 hq).2
    rw [beq_iff_eq] at h1 h2
    omega

/-! ### the three loops -/
def cntSt (key : Nat → Nat) (most : Nat) (pre : List Nat) : List Nat := (List.range (most + 2)).map fun j => if j = 0 then 0 else cnt key pre (j - 1)
def sumSt (key : Nat → Nat) (most : Nat) (l : List Nat) (i : Nat) : List Nat := (List.range (most + 2)).map fun j => if j ≤ i then cum key l j else cnt key l (j - 1)
def putSt (key : Nat → Nat) (most : Nat) (l pre : List Nat) : List Nat := (List.range (most + 2)).map fun j => cum key l j + cnt key pre j
theorem cnt_snoc (p : Nat) : cnt key (pre ++ [p]) k = cnt key pre k + if key p = k then 1 else 0 := by
  unfold cnt
  rw [List.filter_append, List.length_append]
  by_cases h : key p = k
  · rw [if_pos h, List.filter_cons_of_pos (by simpa using h)]; rfl
  · rw [if_neg h, List.filter_cons_of_neg (by simpa using h)]; rfl
theorem cntSt_nil : cntSt key most [] = List.replicate (most + 2) 0 := by
  unfold cntSt
  rw [List.eq_replicate_iff]
  refine ⟨by simp, fun b hb => ?_⟩
  obtain ⟨j, _, rfl⟩ := List.mem_map.1 hb
  split <;> rfl
theorem cntSt_length : (cntSt key most pre).length = most + 2 := by simp [cntSt]
theorem cntSt_step (p : Nat) (h : key p ≤ most) : cntSt key most (pre ++ [p]) = (cntSt key most pre).set (key p + 1) ((cntSt key most pre).getD (key p + 1) 0 + 1) := by
  unfold cntSt
  rw [mr_getD _ _ _ (by omega), mr_set]
  refine mr_congr fun i hi => ?_
  rw [cnt_snoc]
  by_cases h0 : i = 0
  · subst h0; simp
  · by_cases h1 : i = key p + 1
    · subst h1; simp
    · simp [h0, h1, show ¬ key p = i - 1 by omega]
theorem sumSt_zero : sumSt key most l 0 = cntSt key most l := by
  unfold sumSt cntSt
  refine mr_congr fun i hi => ?_
  by_cases h : i = 0
  · subst h; rfl
  · rw [if_neg (by omega), if_neg h]
theorem sumSt_length (i : Nat) : (sumSt key most l i).length = most + 2 := by simp [sumSt]
theorem sumSt_step (i : Nat) (h : i ≤ most) : sumSt key most l (i + 1) = (sumSt key most l i).set (i + 1) ((sumSt key most l i).getD (i + 1) 0 + (sumSt key most l i).getD i 0) := by
  unfold sumSt
  rw [mr_getD _ _ _ (by omega), mr_getD _ _ _ (by omega), mr_set]
  refine mr_congr fun j hj => ?_
  by_cases h1 : j = i + 1
  · subst h1
    simp [cum_succ, Nat.add_comm, show ¬ i + 1 ≤ i by omega]
  · by_cases h2 : j ≤ i
    · simp [h1, h2, show j ≤ i + 1 by omega]
    · simp [h1, h2, show ¬ j ≤ i + 1 by omega]
theorem putSt_nil : putSt key most l [] = sumSt key most l (most + 1) := by
  unfold putSt sumSt
  refine mr_congr fun i hi => ?_
  rw [if_pos (by omega)]
  rfl
theorem putSt_length : (putSt key most l pre).length = most + 2 := by simp [putSt]
theorem putSt_get (h : k ≤ most + 1) : (putSt key most l pre).getD k 0 = cum key l k + cnt key pre k := by
  unfold putSt; rw [mr_getD _ _ _ (by omega)]
theorem putSt_step (p : Nat) (h : key p ≤ most) : putSt key most l (pre ++ [p]) = (putSt key most l pre).set (key p) ((putSt key most l pre).getD (key p) 0 + 1) := by
  rw [putSt_get (by omega)]
  unfold putSt
  rw [mr_set]
  refine mr_congr fun i hi => ?_
  rw [cnt_snoc]
  by_cases h1 : i = key p
  · subst h1; rw [if_pos rfl, if_pos rfl]; omega
  · rw [if_neg h1, if_neg (fun e => h1 e.symm)]; rfl
/-- what is put so far -/
def OutOk (key : Nat → Nat) (l pre out : List Nat) : Prop := out.length = l.length ∧ ∀ k j, j < cnt key pre k → out.getD (cum key l k + j) 0 = (pre.filter fun p => key p == k).getD j 0
theorem OutOk.nil {out : List Nat} (h : out.length = l.length) : OutOk key l [] out := ⟨h, fun k j hj => by simp [cnt] at hj⟩
theorem cnt_prefix {p : Nat} (hp : (pre ++ [p]) <+: l) : cnt key pre (key p) < cnt key l (key p) := by
  obtain ⟨post, rfl⟩ := hp
  unfold cnt
  rw [List.filter_append, List.filter_append, List.length_append, List.length_append, List.filter_cons_of_pos (by simp)]
  simp only [List.length_cons]
  omega
theorem cnt_le_prefix (hp : pre <+: l) (k : Nat) : cnt key pre k ≤ cnt key l k := by
  obtain ⟨post, rfl⟩ := hp
  unfold cnt
  rw [List.filter_append, List.length_append]
  omega
theorem put_lt {p : Nat} (hp : (pre ++ [p]) <+: l) (hk : ∀ p ∈ l, key p ≤ most) : cum key l (key p) + cnt key pre (key p) < l.length := by
  have h1 := cnt_prefix (key := key) hp
  have hm : key p ≤ most := hk p (hp.subset (by simp))
  have h2 := cum_mono (key := key) (l := l) (show key p + 1 ≤ most + 1 by omega)
  rw [cum_all hk, cum_succ] at h2
  omega
theorem OutOk.step {out : List Nat} {p : Nat} (h : OutOk key l pre out) (hp : (pre ++ [p]) <+: l) (hk : ∀ p ∈ l, key p ≤ most) : OutOk key l (pre ++ [p]) (out.set (cum key l (key p) + cnt key pre (key p)) p) := by
  have hlt := put_lt hp hk
  refine ⟨by rw [List.length_set, h.1], fun k j hj => ?_⟩
  have hpre : pre <+: l := (List.prefix_append _ _).trans hp
  rw [cnt_snoc] at hj
  rw [List.filter_append, List.getD_eq_getElem?_getD, List.getElem?_set, List.getD_eq_getElem?_getD]
  by_cases hkp : key p = k
  · subst hkp
    rw [if_pos rfl] at hj
    by_cases hjj : j = cnt key pre (key p)
    · subst hjj
      rw [if_pos rfl, if_pos (by rw [h.1]; exact hlt), List.filter_cons_of_pos (by simp), List.getElem?_append_right (by unfold cnt; omega)]
      have : cnt key pre (key p) - (pre.filter fun q => key q == key p).length = 0 := by unfold cnt; omega
      rw [this]
      rfl
    · rw [if_neg (by omega), List.getElem?_append_left (by unfold cnt at hj hjj; omega), ← List.getD_eq_getElem?_getD, ← List.getD_eq_getElem?_getD]
      exact h.2 _ j (by omega)
  · rw [if_neg hkp, Nat.add_zero] at hj
    have c1 := cnt_le_prefix (key := key) hpre k
    have c2 := cnt_prefix (key := key) hp
    have hne : cum key l (key p) + cnt key pre (key p) ≠ cum key l k + j := by
      rcases Nat.lt_or_ge k (key p) with hlt2 | hge
      · have := cum_mono (key := key) (l := l) (show k + 1 ≤ key p by omega)
        rw [cum_succ] at this
        omega
      · have := cum_mono (key := key) (l := l) (show key p + 1 ≤ k by omega)
        rw [cum_succ] at this
        omega
    rw [if_neg hne, List.filter_cons_of_neg (by simpa using hkp), List.filter_nil, List.append_nil, ← List.getD_eq_getElem?_getD, ← List.getD_eq_getElem?_getD]
    exact h.2 _ j hj
theorem OutOk.done {out : List Nat} (h : OutOk key l l out) (hk : ∀ p ∈ l, key p ≤ most) : out = csort key most l := by
  have hl : (csort key most l).length = l.length := (csort_perm hk).length_eq
  apply List.ext_getElem?
  intro i
  by_cases hi : i < l.length
  · rw [← cum_all hk] at hi
    obtain ⟨k, j, h1, h2, rfl⟩ := cum_split hi
    rw [cum_all hk] at hi
    have e1 := h.2 k j h2
    have e2 := blocks_get (key := key) (l := l) h1 h2
    rw [← e2] at e1
    rw [List.getElem?_eq_getElem (by rw [h.1]; exact hi), List.getElem?_eq_getElem (by rw [hl]; exact hi)]
    rw [getD_lt (by rw [h.1]; exact hi)] at e1
    rw [e1, ← getD_lt (by rw [hl]; exact hi)]
    rfl
  · rw [List.getElem?_eq_none (by rw [h.1]; omega), List.getElem?_eq_none (by rw [hl]; omega)]
end
end Go.Proofs.Yteflhfofahdckaa
