/- weld, plain: the first pair of small neighbours; one of two; the plan. -/
import Derived.Test.YtlphhpngbnnjgaaRows
namespace Go.Proofs.Ytlphhpngbnnjgaa
set_option linter.unusedVariables false

/-- two numbers that are to be one -/
def okP (t a b : Int) : Bool := decide (0 ≤ a) && decide (a ≤ 20000) && (decide (0 ≤ b) && decide (b ≤ 20000)) && decide (a + b < t)
theorem okP_iff {t a b : Int} : okP t a b = true ↔ 0 ≤ a ∧ a ≤ 20000 ∧ 0 ≤ b ∧ b ≤ 20000 ∧ a + b < t := by
  unfold okP; simp [and_assoc]
def pairAt (l : List Int) (t : Int) (i : Nat) : Bool := decide (i + 1 < l.length) && okP t (l.getD i 0) (l.getD (i + 1) 0)
/-- the first pair from f on -/
def pf (l : List Int) (t : Int) (f : Nat) : Option Nat := (List.range' f (l.length - 1 - f)).find? (pairAt l t)
theorem pairAt_in {l : List Int} {t : Int} {i : Nat} (h : i + 1 < l.length) : pairAt l t i = okP t (l.getD i 0) (l.getD (i + 1) 0) := by
  unfold pairAt; rw [decide_eq_true h, Bool.true_and]
theorem pairAt_out {l : List Int} {t : Int} {i : Nat} (h : ¬ i + 1 < l.length) : pairAt l t i = false := by
  unfold pairAt; rw [decide_eq_false h, Bool.false_and]
theorem pf_end {l : List Int} {t : Int} {f : Nat} (h : ¬ f + 1 < l.length) : pf l t f = none := by
  unfold pf; rw [show l.length - 1 - f = 0 by omega]; rfl
theorem pf_step {l : List Int} {t : Int} {f : Nat} (h : f + 1 < l.length) : pf l t f = if pairAt l t f then some f else pf l t (f + 1) := by
  unfold pf
  rw [show l.length - 1 - f = (l.length - 1 - (f + 1)) + 1 by omega, List.range'_succ, List.find?_cons]
  cases pairAt l t f <;> rfl
theorem pf_hit {l : List Int} {t : Int} {f : Nat} (h : f + 1 < l.length) (hp : okP t (l.getD f 0) (l.getD (f + 1) 0) = true) : pf l t f = some f := by
  rw [pf_step h, pairAt_in h, if_pos hp]
theorem pf_miss {l : List Int} {t : Int} {f : Nat} (h : f + 1 < l.length) (hp : okP t (l.getD f 0) (l.getD (f + 1) 0) = false) : pf l t f = pf l t (f + 1) := by
  rw [pf_step h, pairAt_in h, if_neg (by rw [hp]; decide)]
theorem pf_some {l : List Int} {t : Int} {f i : Nat} (h : pf l t f = some i) : f ≤ i ∧ i + 1 < l.length ∧ okP t (l.getD i 0) (l.getD (i + 1) 0) = true ∧ ∀ j, f ≤ j → j < i → pairAt l t j = false := by
  unfold pf at h
  obtain ⟨hp, k, hk, h2, h3⟩ := List.find?_eq_some_iff_getElem.1 h
  rw [List.getElem_range'] at h2
  rw [List.length_range'] at hk
  refine ⟨by omega, by omega, by rw [← pairAt_in (by omega)]; exact hp, fun j h4 h5 => ?_⟩
  have := h3 (j - f) (by omega)
  rw [List.getElem_range', show f + 1 * (j - f) = j by omega] at this
  simpa using this
theorem pf_none {l : List Int} {t : Int} {f : Nat} (h : pf l t f = none) (j : Nat) (hj : f ≤ j) : pairAt l t j = false := by
  by_cases hlt : j + 1 < l.length
  · have := List.find?_eq_none.1 h j (List.mem_range'_1.2 ⟨hj, by omega⟩)
    simpa using this
  · exact pairAt_out hlt
theorem pf_from {l : List Int} {t : Int} : ∀ (f : Nat), (∀ j, j < f → pairAt l t j = false) → pf l t f = pf l t 0
  | 0, _ => rfl
  | f + 1, h => by
    rw [← pf_from f (fun j hj => h j (by omega))]
    by_cases hlt : f + 1 < l.length
    · rw [pf_step hlt, h f (by omega)]; rfl
    · rw [pf_end hlt, pf_end (by omega)]

/-- one of two neighbours -/
def weldW (l : List Int) (i : Nat) : List Int := l.take i ++ (l.getD i 0 + l.getD (i + 1) 0) :: l.drop (i + 2)
theorem weldW_length {l : List Int} {i : Nat} (h : i + 1 < l.length) : (weldW l i).length = l.length - 1 := by
  unfold weldW
  rw [List.length_append, List.length_take, List.length_cons, List.length_drop]; omega
theorem weldW_ahead {l : List Int} {i j : Nat} (h : i + 1 < l.length) (hj : j < i) : (weldW l i).getD j 0 = l.getD j 0 := by
  unfold weldW
  rw [List.getD_eq_getElem?_getD, List.getElem?_append_left (by rw [List.length_take]; omega), List.getElem?_take, if_pos hj, ← List.getD_eq_getElem?_getD]
theorem weld_pf {l : List Int} {t : Int} {i : Nat} (h : pf l t 0 = some i) : pf (weldW l i) t (i - 1) = pf (weldW l i) t 0 := by
  obtain ⟨_, h1, _, h3⟩ := pf_some h
  refine pf_from _ fun j hj => ?_
  have := h3 j (Nat.zero_le _) (by omega)
  rw [pairAt_in (by omega)] at this
  rw [pairAt_in (by rw [weldW_length h1]; omega), weldW_ahead h1 (by omega), weldW_ahead h1 (by omega)]
  exact this

def stepL (l : List Int) (t : Int) : List Int := match pf l t 0 with | none => l | some i => weldW l i
/-- all steps -/
def planN : Nat → List Int → Int → List Int × Nat
  | 0, l, _ => (l, 0)
  | n + 1, l, t => match pf l t 0 with | none => (l, 0) | some i => ((planN n (weldW l i) t).1, (planN n (weldW l i) t).2 + 1)
def planL (l : List Int) (t : Int) : List Int × Nat := planN l.length l t
theorem planL_none {l : List Int} {t : Int} (h : pf l t 0 = none) : planL l t = (l, 0) := by
  unfold planL
  cases hn : l.length with
  | zero => rfl
  | succ n => unfold planN; rw [h]
theorem planL_some {l : List Int} {t : Int} {i : Nat} (h : pf l t 0 = some i) : planL l t = ((planL (weldW l i) t).1, (planL (weldW l i) t).2 + 1) := by
  obtain ⟨_, h1, _⟩ := pf_some h
  unfold planL
  rw [weldW_length h1]
  cases hn : l.length with
  | zero => omega
  | succ n => rw [show n + 1 - 1 = n from rfl, planN, h]
theorem planL_ind (t : Int) {C : List Int → List Int × Nat → Prop} (h0 : ∀ l, pf l t 0 = none → C l (l, 0)) (h1 : ∀ l i r, pf l t 0 = some i → C (weldW l i) r → C l (r.1, r.2 + 1)) : ∀ (n : Nat) (l : List Int), l.length ≤ n → C l (planL l t)
  | 0, l, hl => by
    have hp : pf l t 0 = none := pf_end (by omega)
    rw [planL_none hp]; exact h0 l hp
  | n + 1, l, hl => by
    cases hp : pf l t 0 with
    | none => rw [planL_none hp]; exact h0 l hp
    | some i =>
      obtain ⟨_, h2, _⟩ := pf_some hp
      rw [planL_some hp]
      exact h1 l i _ hp (planL_ind t h0 h1 n _ (by rw [weldW_length h2]; omega))
theorem planL_all (l : List Int) (t : Int) {C : List Int → List Int × Nat → Prop} (h0 : ∀ l, pf l t 0 = none → C l (l, 0)) (h1 : ∀ l i r, pf l t 0 = some i → C (weldW l i) r → C l (r.1, r.2 + 1)) : C l (planL l t) := planL_ind t h0 h1 _ l (Nat.le_refl _)
theorem planL_done (l : List Int) (t : Int) : pf (planL l t).1 t 0 = none := planL_all l t (C := fun _ r => pf r.1 t 0 = none) (fun _ h => h) (fun _ _ _ _ h => h)
theorem planL_len (l : List Int) (t : Int) : (planL l t).1.length + (planL l t).2 = l.length := planL_all l t (C := fun l r => r.1.length + r.2 = l.length) (fun _ _ => rfl) (fun l i r h h2 => by
  obtain ⟨_, h1, _⟩ := pf_some h
  rw [weldW_length h1] at h2; show r.1.length + (r.2 + 1) = _; omega)
theorem planL_pos (l : List Int) (t : Int) : 0 < l.length → 0 < (planL l t).1.length := planL_all l t (C := fun l r => 0 < l.length → 0 < r.1.length) (fun _ _ h => h) (fun l i r h h2 _ => by
  obtain ⟨_, h1, _⟩ := pf_some h
  exact h2 (by rw [weldW_length h1]; omega))
def sumL (l : List Int) : Int := l.foldr (· + ·) 0
theorem sumL_nil : sumL [] = 0 := rfl
theorem sumL_cons (a : Int) (l : List Int) : sumL (a :: l) = a + sumL l := rfl
theorem sumL_append (a b : List Int) : sumL (a ++ b) = sumL a + sumL b := by
  induction a with
  | nil => simp [sumL]
  | cons x a ih => rw [List.cons_append, sumL_cons, ih, sumL_cons]; omega
theorem split2 {l : List Int} {i : Nat} (h : i + 1 < l.length) : l = l.take i ++ l.getD i 0 :: l.getD (i + 1) 0 :: l.drop (i + 2) := by
  have e1 : l.getD i 0 = l[i] := by rw [List.getD_eq_getElem?_getD, List.getElem?_eq_getElem (by omega)]; rfl
  have e2 : l.getD (i + 1) 0 = l[i + 1] := by rw [List.getD_eq_getElem?_getD, List.getElem?_eq_getElem h]; rfl
  rw [e1, e2, List.getElem_cons_drop h, List.getElem_cons_drop (by omega), List.take_append_drop]
theorem weldW_sum {l : List Int} {i : Nat} (h : i + 1 < l.length) : sumL (weldW l i) = sumL l := by
  conv => rhs; rw [split2 h]
  unfold weldW
  rw [sumL_append, sumL_append, sumL_cons, sumL_cons, sumL_cons]; omega
theorem planL_sum (l : List Int) (t : Int) : sumL (planL l t).1 = sumL l := planL_all l t (C := fun l r => sumL r.1 = sumL l) (fun _ _ => rfl) (fun l i r h h2 => by
  obtain ⟨_, h1, _⟩ := pf_some h
  rw [weldW_sum h1] at h2; exact h2)
theorem weldW_nonneg {l : List Int} {t : Int} {i : Nat} (h : pf l t 0 = some i) (hn : ∀ x ∈ l, 0 ≤ x) : ∀ x ∈ weldW l i, 0 ≤ x := by
  obtain ⟨_, h1, h2, _⟩ := pf_some h
  have h2 := okP_iff.1 h2
  intro x hx
  unfold weldW at hx
  rcases List.mem_append.1 hx with hx | hx
  · exact hn x (List.mem_of_mem_take hx)
  · rcases List.mem_cons.1 hx with rfl | hx
    · omega
    · exact hn x (List.mem_of_mem_drop hx)
theorem planL_nonneg (l : List Int) (t : Int) : (∀ x ∈ l, 0 ≤ x) → ∀ x ∈ (planL l t).1, 0 ≤ x := planL_all l t (C := fun l r => (∀ x ∈ l, 0 ≤ x) → ∀ x ∈ r.1, 0 ≤ x) (fun _ _ h => h) (fun l i r h h2 hn => h2 (weldW_nonneg h hn))
/-- numbers from t on stay -/
theorem weldW_big {l : List Int} {t : Int} {i : Nat} (h : pf l t 0 = some i) : (weldW l i).filter (fun x => decide (t ≤ x)) = l.filter (fun x => decide (t ≤ x)) := by
  obtain ⟨_, h1, h2, _⟩ := pf_some h
  have h2 := okP_iff.1 h2
  conv => rhs; rw [split2 h1]
  unfold weldW
  rw [List.filter_append, List.filter_append, List.filter_cons_of_neg (by rw [decide_eq_true_eq]; omega), List.filter_cons_of_neg (by rw [decide_eq_true_eq]; omega), List.filter_cons_of_neg (by rw [decide_eq_true_eq]; omega)]
theorem planL_big (l : List Int) (t : Int) : (planL l t).1.filter (fun x => decide (t ≤ x)) = l.filter (fun x => decide (t ≤ x)) :=
  planL_all l t (C := fun l r => r.1.filter (fun x => decide (t ≤ x)) = l.filter (fun x => decide (t ≤ x))) (fun _ _ => rfl) (fun l i r h h2 => by rw [weldW_big h] at h2; exact h2)
/-- of numbers that are not negative, each is no more than all of them -/
theorem sumL_nonneg : ∀ (l : List Int), (∀ x ∈ l, 0 ≤ x) → 0 ≤ sumL l
  | [], _ => Int.le_refl _
  | a :: l, h => by
    have := sumL_nonneg l (fun x hx => h x (List.mem_cons_of_mem _ hx))
    have := h a List.mem_cons_self
    rw [sumL_cons]; omega
theorem sumL_take {l : List Int} (h : ∀ x ∈ l, 0 ≤ x) (k : Nat) : 0 ≤ sumL (l.take k) ∧ sumL (l.take k) ≤ sumL l := by
  have h1 := sumL_nonneg (l.take k) (fun x hx => h x (List.mem_of_mem_take hx))
  have h2 := sumL_nonneg (l.drop k) (fun x hx => h x (List.mem_of_mem_drop hx))
  have h3 := sumL_append (l.take k) (l.drop k)
  rw [List.take_append_drop] at h3
  omega
theorem sumL_succ {l : List Int} {k : Nat} (hk : k < l.length) : sumL (l.take (k + 1)) = sumL (l.take k) + l.getD k 0 := by
  rw [List.take_succ_eq_append_getElem hk, sumL_append, sumL_cons, sumL_nil, List.getD_eq_getElem?_getD, List.getElem?_eq_getElem hk]; simp
theorem sumL_le {l : List Int} (h : ∀ x ∈ l, 0 ≤ x ∧ x ≤ 20000) : sumL l ≤ 20000 * (l.length : Int) := by
  induction l with
  | nil => simp [sumL]
  | cons a l ih =>
    have := ih (fun x hx => h x (List.mem_cons_of_mem _ hx))
    have := h a List.mem_cons_self
    rw [sumL_cons, List.length_cons]; omega
end Go.Proofs.Ytlphhpngbnnjgaa
