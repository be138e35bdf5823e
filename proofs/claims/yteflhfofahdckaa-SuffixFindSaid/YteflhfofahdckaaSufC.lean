/- suffix: ranks, and their doubling (plain). -/
import Derived.Test.YteflhfofahdckaaSufB
namespace Go.Proofs.Yteflhfofahdckaa
set_option linter.unusedVariables false
set_option linter.unusedSimpArgs false

/-! ### ranks along an array -/
/-- the rank of the i-th one: a step up where the key is another one -/
def rkN (g : Nat → Nat) (a : List Nat) : Nat → Nat
  | 0 => 0
  | i + 1 => rkN g a i + if g (a.getD i 0) = g (a.getD (i + 1) 0) then 0 else 1
theorem rk_le (g : Nat → Nat) (a : List Nat) : ∀ i, rkN g a i ≤ i
  | 0 => Nat.le_refl _
  | i + 1 => by
    have := rk_le g a i
    unfold rkN
    split <;> omega
/-- keys do not fall along the array -/
def Up1 (g : Nat → Nat) (a : List Nat) : Prop := ∀ i j, i ≤ j → j < a.length → g (a.getD i 0) ≤ g (a.getD j 0)
theorem up_of_pairwise {g : Nat → Nat} {a : List Nat} (h : a.Pairwise fun p q => g p ≤ g q) : Up1 g a := by
  intro i j hij hj
  rcases Nat.lt_or_ge i j with h1 | h1
  · rw [getD_lt (by omega), getD_lt hj]
    exact List.pairwise_iff_getElem.1 h i j (by omega) hj h1
  · rw [show i = j by omega]; exact Nat.le_refl _
theorem rk_mono {g : Nat → Nat} {a : List Nat} (h : Up1 g a) {i : Nat} : ∀ j, i ≤ j → j < a.length → rkN g a i ≤ rkN g a j ∧ (rkN g a i = rkN g a j ↔ g (a.getD i 0) = g (a.getD j 0)) := by
  intro j
  induction j with
  | zero => intro hij _; rw [show i = 0 by omega]; exact ⟨Nat.le_refl _, by simp⟩
  | succ j ih =>
    intro hij hj
    rcases Nat.lt_or_ge i (j + 1) with h1 | h1
    · obtain ⟨i1, i2⟩ := ih (by omega) (by omega)
      have u1 := h i j (by omega) (by omega)
      have u2 := h j (j + 1) (by omega) hj
      have e : rkN g a (j + 1) = rkN g a j + if g (a.getD j 0) = g (a.getD (j + 1) 0) then 0 else 1 := rfl
      rw [e]
      by_cases hk : g (a.getD j 0) = g (a.getD (j + 1) 0)
      · rw [if_pos hk, ← hk, Nat.add_zero]
        exact ⟨i1, i2⟩
      · rw [if_neg hk]
        refine ⟨by omega, ⟨fun hh => by omega, fun hh => by omega⟩⟩
    · rw [show i = j + 1 by omega]; exact ⟨Nat.le_refl _, by simp⟩
theorem rk_lt {g : Nat → Nat} {a : List Nat} (h : Up1 g a) {i j : Nat} (hi : i < a.length) (hj : j < a.length) : rkN g a i < rkN g a j ↔ g (a.getD i 0) < g (a.getD j 0) := by
  rcases Nat.le_total i j with hij | hij
  · obtain ⟨h1, h2⟩ := rk_mono h j hij hj
    have := h i j hij hj
    omega
  · obtain ⟨h1, h2⟩ := rk_mono h i hij hi
    have := h j i hij hi
    omega
/-- no two keys are alike: each step is one up; and the other way about -/
theorem rk_full {g : Nat → Nat} {a : List Nat} : ∀ {m : Nat}, rkN g a m = m → ∀ i, i ≤ m → rkN g a i = i
  | 0, _, i, hi => by rw [show i = 0 by omega]; rfl
  | m + 1, h, i, hi => by
    have h1 := rk_le g a m
    have e : rkN g a (m + 1) = rkN g a m + if g (a.getD m 0) = g (a.getD (m + 1) 0) then 0 else 1 := rfl
    rcases Nat.lt_or_ge i (m + 1) with h2 | h2
    · refine rk_full (m := m) ?_ i (by omega)
      rw [e] at h
      split at h <;> omega
    · rw [show i = m + 1 by omega]; exact h
theorem rk_strict {g : Nat → Nat} {a : List Nat} : ∀ {m : Nat}, (∀ i, i < m → g (a.getD i 0) ≠ g (a.getD (i + 1) 0)) → rkN g a m = m
  | 0, _ => rfl
  | m + 1, h => by
    have e : rkN g a (m + 1) = rkN g a m + if g (a.getD m 0) = g (a.getD (m + 1) 0) then 0 else 1 := rfl
    rw [e, if_neg (h m (by omega)), rk_strict fun i hi => h i (by omega)]
/-- r holds each place's rank -/
def RanksOf (g : Nat → Nat) (a r : List Nat) : Prop := r.length = a.length ∧ ∀ j, j < a.length → r.getD (a.getD j 0) 0 = rkN g a j
/-- so far -/
def RanksTo (g : Nat → Nat) (a r : List Nat) (i : Nat) : Prop := r.length = a.length ∧ ∀ j, j < i → r.getD (a.getD j 0) 0 = rkN g a j
theorem perm_at {n : Nat} {a : List Nat} (h : a.Perm (List.range n)) {p : Nat} (hp : p < n) : ∃ i, i < a.length ∧ a.getD i 0 = p := by
  have : p ∈ a := h.mem_iff.2 (List.mem_range.2 hp)
  obtain ⟨i, hi, e⟩ := List.mem_iff_getElem.1 this
  exact ⟨i, hi, by rw [getD_lt hi, e]⟩
theorem perm_lt {n : Nat} {a : List Nat} (h : a.Perm (List.range n)) {i : Nat} (hi : i < n) : a.getD i 0 < n := by
  have hl : a.length = n := by rw [h.length_eq, List.length_range]
  rw [getD_lt (by omega)]
  exact List.mem_range.1 (h.mem_iff.1 (List.getElem_mem _))
theorem perm_inj {n : Nat} {a : List Nat} (h : a.Perm (List.range n)) {i j : Nat} (hi : i < n) (hj : j < n) (e : a.getD i 0 = a.getD j 0) : i = j := by
  have hl : a.length = n := by rw [h.length_eq, List.length_range]
  rw [getD_lt (by omega), getD_lt (by omega)] at e
  have hnd : a.Nodup := h.nodup_iff.2 List.nodup_range
  exact (List.getElem_inj hnd).1 e
theorem RanksTo.start {g : Nat → Nat} {a r : List Nat} {n : Nat} (hr : r = List.replicate n 0) (hl : a.length = n) : RanksTo g a r 1 := by
  subst hr
  refine ⟨by simp [hl], fun j hj => ?_⟩
  rw [show j = 0 by omega]
  show (List.replicate n 0).getD (a.getD 0 0) 0 = 0
  rw [List.getD_eq_getElem?_getD, List.getElem?_replicate]
  split <;> rfl
theorem RanksTo.step {g : Nat → Nat} {a r : List Nat} {n i : Nat} (h : RanksTo g a r (i + 1)) (hp : a.Perm (List.range n)) (hi : i + 1 < n) :
    RanksTo g a (r.set (a.getD (i + 1) 0) (r.getD (a.getD i 0) 0 + if g (a.getD i 0) = g (a.getD (i + 1) 0) then 0 else 1)) (i + 2) := by
  have hl : a.length = n := by rw [hp.length_eq, List.length_range]
  refine ⟨by rw [List.length_set, h.1], fun j hj => ?_⟩
  rw [List.getD_eq_getElem?_getD, List.getElem?_set]
  by_cases e : j = i + 1
  · subst e
    rw [if_pos rfl, if_pos (by rw [h.1, hl]; exact perm_lt hp hi), h.2 i (by omega)]
    rfl
  · rw [if_neg (fun ee => e (perm_inj hp (by omega) hi ee.symm)), ← List.getD_eq_getElem?_getD]
    exact h.2 j (by omega)
theorem RanksTo.done {g : Nat → Nat} {a r : List Nat} {i : Nat} (h : RanksTo g a r i) (hi : a.length ≤ i) : RanksOf g a r := ⟨h.1, fun j hj => h.2 j (by omega)⟩
section
variable {g : Nat → Nat} {a r : List Nat} {n : Nat}
theorem RanksOf.lt (h : RanksOf g a r) (hp : a.Perm (List.range n)) (hu : Up1 g a) {p q : Nat} (h1 : p < n) (h2 : q < n) : r.getD p 0 < r.getD q 0 ↔ g p < g q := by
  obtain ⟨i, hi, rfl⟩ := perm_at hp h1
  obtain ⟨j, hj, rfl⟩ := perm_at hp h2
  rw [h.2 i hi, h.2 j hj]
  exact rk_lt hu hi hj
theorem RanksOf.le (h : RanksOf g a r) (hp : a.Perm (List.range n)) {p : Nat} (h1 : p < n) : r.getD p 0 < n := by
  have hl : a.length = n := by rw [hp.length_eq, List.length_range]
  obtain ⟨i, hi, rfl⟩ := perm_at hp h1
  rw [h.2 i hi]
  have := rk_le g a i
  omega
end

/-! ### ends, up to so many bytes -/
def lessL (s : List UInt8) (L p q : Nat) : Bool := Op.bytesLess ((s.drop p).take L) ((s.drop q).take L)
theorem lessL_full {s : List UInt8} {L p q : Nat} (h : lessL s L p q = true) : lessE s p q = true := bl_full h
theorem lessL_long {s : List UInt8} {L p q : Nat} (hL : s.length ≤ L) : lessL s L p q = lessE s p q := by
  unfold lessL lessE
  rw [List.take_of_length_le (by rw [List.length_drop]; omega), List.take_of_length_le (by rw [List.length_drop]; omega)]
/-- the array is sorted by the first L bytes, and r are its ranks -/
def Inv (s : List UInt8) (L : Nat) (a r : List Nat) : Prop :=
  a.Perm (List.range (s.length + 1)) ∧ ∃ g, Up1 g a ∧ RanksOf g a r ∧ ∀ p q, p ≤ s.length → q ≤ s.length → (g p < g q ↔ lessL s L p q = true)
theorem Inv.lt {s : List UInt8} {L : Nat} {a r : List Nat} (h : Inv s L a r) {p q : Nat} (hp : p ≤ s.length) (hq : q ≤ s.length) : r.getD p 0 < r.getD q 0 ↔ lessL s L p q = true := by
  obtain ⟨h1, g, hu, hr, hg⟩ := h
  rw [hr.lt h1 hu (by omega) (by omega)]
  exact hg p q hp hq
theorem Inv.rank_le {s : List UInt8} {L : Nat} {a r : List Nat} (h : Inv s L a r) {p : Nat} (hp : p ≤ s.length) : r.getD p 0 ≤ s.length := by
  obtain ⟨h1, g, hu, hr, hg⟩ := h
  have := hr.le h1 (p := p) (by omega)
  omega
theorem Inv.length {s : List UInt8} {L : Nat} {a r : List Nat} (h : Inv s L a r) : a.length = s.length + 1 ∧ r.length = s.length + 1 := by
  have h1 : a.length = s.length + 1 := by rw [h.1.length_eq, List.length_range]
  obtain ⟨_, g, hu, hr, hg⟩ := h
  exact ⟨h1, by rw [hr.1, h1]⟩
/-- all ranks are there: the array is the text's -/
theorem Inv.done {s : List UInt8} {L : Nat} {a r : List Nat} (h : Inv s L a r) (hd : r.getD (a.getD s.length 0) 0 = s.length) : a = arrayL s := by
  have hl := h.length.1
  refine arrayL_eq ⟨h.1, ?_⟩
  rw [List.pairwise_iff_getElem]
  intro i j hi hj hij
  obtain ⟨h1, g, hu, hr, hg⟩ := h
  rw [hr.2 _ (by omega)] at hd
  have e1 := rk_full hd i (by omega)
  have e2 := rk_full hd j (by omega)
  have := (rk_lt hu hi hj).1 (by omega)
  rw [getD_lt hi, getD_lt hj] at this
  exact lessL_full ((hg _ _ (by have := List.mem_range.1 (h1.mem_iff.1 (List.getElem_mem hi)); omega) (by have := List.mem_range.1 (h1.mem_iff.1 (List.getElem_mem hj)); omega)).1 this)
/-- some are not: there is more to look at -/
theorem Inv.more {s : List UInt8} {L : Nat} {a r : List Nat} (h : Inv s L a r) (hd : r.getD (a.getD s.length 0) 0 ≠ s.length) : L < s.length := by
  rcases Nat.lt_or_ge L s.length with h0 | h0
  · exact h0
  exfalso
  apply hd
  have hl := h.length.1
  obtain ⟨h1, g, hu, hr, hg⟩ := h
  rw [hr.2 _ (by omega)]
  refine rk_strict fun i hi e => ?_
  have b1 := perm_lt h1 (i := i) (by omega)
  have b2 := perm_lt h1 (i := i + 1) (by omega)
  have hne : a.getD i 0 ≠ a.getD (i + 1) 0 := fun ee => by have := perm_inj h1 (by omega) (by omega) ee; omega
  cases hc : lessE s (a.getD i 0) (a.getD (i + 1) 0) with
  | true =>
    rw [← lessL_long h0] at hc
    have := (hg _ _ (by omega) (by omega)).2 hc
    omega
  | false =>
    have hc2 := lessE_total (by omega) (by omega) hne hc
    rw [← lessL_long h0] at hc2
    have := (hg _ _ (by omega) (by omega)).2 hc2
    omega

/-! ### the beginning: by one byte -/
def letterN (s : List UInt8) (p : Nat) : Nat := if p = s.length then 0 else (s.getD p 0).toNat + 1
theorem letter_le (s : List UInt8) (p : Nat) : letterN s p ≤ 256 := by
  unfold letterN
  have := (s.getD p 0).toNat_lt
  split <;> omega
theorem drop_cons' {s : List UInt8} {p : Nat} (h : p < s.length) : s.drop p = s.getD p 0 :: s.drop (p + 1) := by
  rw [List.drop_eq_getElem_cons h, List.getD_eq_getElem?_getD, List.getElem?_eq_getElem h]
  rfl
theorem letter_lt {s : List UInt8} {p q : Nat} (hp : p ≤ s.length) (hq : q ≤ s.length) : letterN s p < letterN s q ↔ lessL s 1 p q = true := by
  unfold letterN lessL
  rcases Nat.lt_or_ge q s.length with h2 | h2
  · rw [if_neg (show ¬ q = s.length by omega), drop_cons' h2, List.take_succ_cons, List.take_zero]
    rcases Nat.lt_or_ge p s.length with h1 | h1
    · rw [if_neg (show ¬ p = s.length by omega), drop_cons' h1, List.take_succ_cons, List.take_zero, bl_cons]
      constructor
      · intro h; exact .inl (by omega)
      · rintro (h | ⟨_, h⟩)
        · omega
        · cases h
    · rw [if_pos (show p = s.length by omega), List.drop_of_length_le (by omega)]
      exact ⟨fun _ => rfl, fun _ => by omega⟩
  · rw [if_pos (show q = s.length by omega), List.drop_of_length_le (show s.length ≤ q by omega), List.take_nil, bl_nil]
    constructor
    · intro h; omega
    · intro h; cases h
theorem pw_true : ∀ l : List Nat, l.Pairwise fun _ _ => True
  | [] => List.Pairwise.nil
  | _ :: l => List.Pairwise.cons (fun _ _ => trivial) (pw_true l)
theorem csort_up {key : Nat → Nat} {most : Nat} {l : List Nat} : Up1 key (csort key most l) := by
  refine up_of_pairwise ((csort_pairwise (r := fun _ _ => True) (pw_true _)).imp fun {p q} h => ?_)
  omega
theorem Inv.first {s : List UInt8} {r : List Nat} (hr : RanksOf (letterN s) (csort (letterN s) 256 (List.range (s.length + 1))) r) : Inv s 1 (csort (letterN s) 256 (List.range (s.length + 1))) r :=
  ⟨csort_perm fun p _ => letter_le s p, letterN s, csort_up, hr, fun p q hp hq => letter_lt hp hq⟩

/-! ### a step: by twice as many -/
def secondN (n : Nat) (r : List Nat) (L p : Nat) : Nat := if p + L < n then r.getD (p + L) 0 + 1 else 0
def pairN (n : Nat) (r : List Nat) (L p : Nat) : Nat := r.getD p 0 * (n + 2) + secondN n r L p
theorem take_two (l : List UInt8) (L : Nat) : l.take (2 * L) = l.take L ++ (l.drop L).take L := by
  rw [Nat.two_mul, List.take_add]
theorem second_le {s : List UInt8} {L : Nat} {a r : List Nat} (h : Inv s L a r) {p : Nat} (hp : p ≤ s.length) : secondN (s.length + 1) r L p ≤ s.length + 1 := by
  unfold secondN
  split
  · have := h.rank_le (p := p + L) (by omega); omega
  · omega
theorem pair_lt {s : List UInt8} {L : Nat} {a r : List Nat} (h : Inv s L a r) {p q : Nat} (hp : p ≤ s.length) (hq : q ≤ s.length) :
    pairN (s.length + 1) r L p < pairN (s.length + 1) r L q ↔ r.getD p 0 < r.getD q 0 ∨ (r.getD p 0 = r.getD q 0 ∧ secondN (s.length + 1) r L p < secondN (s.length + 1) r L q) := by
  unfold pairN
  have b1 := second_le h hp
  have b2 := second_le h hq
  generalize secondN (s.length + 1) r L p = x at *
  generalize secondN (s.length + 1) r L q = y at *
  generalize r.getD p 0 = u at *
  generalize r.getD q 0 = v at *
  generalize s.length + 1 = n at *
  constructor
  · intro hlt
    rcases Nat.lt_trichotomy u v with h1 | h1 | h1
    · exact .inl h1
    · subst h1; exact .inr ⟨rfl, by omega⟩
    · have : (v + 1) * (n + 2) ≤ u * (n + 2) := Nat.mul_le_mul_right _ h1
      rw [Nat.add_mul] at this
      omega
  · rintro (h1 | ⟨rfl, h1⟩)
    · have : (u + 1) * (n + 2) ≤ v * (n + 2) := Nat.mul_le_mul_right _ h1
      rw [Nat.add_mul] at this
      omega
    · omega
theorem lessL_double {s : List UInt8} {L : Nat} {a r : List Nat} (h : Inv s L a r) {p q : Nat} (hp : p ≤ s.length) (hq : q ≤ s.length) :
    pairN (s.length + 1) r L p < pairN (s.length + 1) r L q ↔ lessL s (2 * L) p q = true := by
  rw [pair_lt h hp hq]
  have h1 := h.lt hp hq
  have h2 := h.lt hq hp
  by_cases e : (s.drop p).take L = (s.drop q).take L
  · have f1 : lessL s L p q = false := by unfold lessL; rw [e]; exact bl_irrefl _
    have f2 : lessL s L q p = false := by unfold lessL; rw [e]; exact bl_irrefl _
    rw [f1] at h1
    rw [f2] at h2
    have er : r.getD p 0 = r.getD q 0 := by
      have h1 : ¬ r.getD p 0 < r.getD q 0 := fun k => by have := h1.1 k; cases this
      have h2 : ¬ r.getD q 0 < r.getD p 0 := fun k => by have := h2.1 k; cases this
      omega
    unfold lessL
    rw [take_two, take_two, e, bl_append, List.drop_drop, List.drop_drop]
    have hlen := congrArg List.length e
    rw [List.length_take, List.length_take, List.length_drop, List.length_drop] at hlen
    unfold secondN
    by_cases c1 : p + L < s.length + 1
    · by_cases c2 : q + L < s.length + 1
      · rw [if_pos c1, if_pos c2]
        have h3 := h.lt (p := p + L) (q := q + L) (by omega) (by omega)
        unfold lessL at h3
        rw [← h3]
        omega
      · have : p = q := by omega
        subst this
        exact absurd c1 c2
    · by_cases c2 : q + L < s.length + 1
      · have : p = q := by omega
        subst this
        exact absurd c2 c1
      · rw [if_neg c1, if_neg c2, List.drop_of_length_le (show s.length ≤ p + L by omega), List.take_nil, List.drop_of_length_le (show s.length ≤ q + L by omega)]
        constructor
        · intro k; omega
        · intro k; rw [List.take_nil] at k; cases k
  · have ne : ¬ r.getD p 0 = r.getD q 0 := fun er => by
      have f1 : lessL s L p q = false := by rw [← Bool.not_eq_true, ← h1]; omega
      have f2 : lessL s L q p = false := by rw [← Bool.not_eq_true, ← h2]; omega
      exact e (bl_total _ _ f1 f2)
    have hmono : ∀ x y, lessL s L x y = true → lessL s (2 * L) x y = true := fun x y k => bl_take L (2 * L) _ _ (by omega) k
    constructor
    · rintro (k | ⟨k, _⟩)
      · exact hmono _ _ (h1.1 k)
      · exact absurd k ne
    · intro k
      refine .inl ?_
      rcases Nat.lt_trichotomy (r.getD p 0) (r.getD q 0) with k1 | k1 | k1
      · exact k1
      · exact absurd k1 ne
      · have := hmono _ _ (h2.1 k1)
        have := bl_asymm _ _ this
        unfold lessL at k
        rw [this] at k
        cases k
/-- the array, sorted anew -/
def twiceL (n : Nat) (a r : List Nat) (L : Nat) : List Nat := csort (fun p => r.getD p 0) n (csort (secondN n r L) (n + 1) a)
theorem twice_perm {s : List UInt8} {L : Nat} {a r : List Nat} (h : Inv s L a r) : (csort (secondN (s.length + 1) r L) (s.length + 1 + 1) a).Perm a ∧ (twiceL (s.length + 1) a r L).Perm (List.range (s.length + 1)) := by
  have hm : ∀ p ∈ a, p ≤ s.length := fun p hp => by have := List.mem_range.1 (h.1.mem_iff.1 hp); omega
  have h1 : (csort (secondN (s.length + 1) r L) (s.length + 1 + 1) a).Perm a := csort_perm fun p hp => by have := second_le h (hm p hp); omega
  refine ⟨h1, ?_⟩
  refine (csort_perm fun p hp => ?_).trans (h1.trans h.1)
  have := h.rank_le (hm p (h1.mem_iff.1 hp))
  show r.getD p 0 ≤ s.length + 1
  omega
theorem Inv.step {s : List UInt8} {L : Nat} {a r r' : List Nat} (h : Inv s L a r) (hr : RanksOf (pairN (s.length + 1) r L) (twiceL (s.length + 1) a r L) r') : Inv s (2 * L) (twiceL (s.length + 1) a r L) r' := by
  obtain ⟨t1, t2⟩ := twice_perm h
  refine ⟨t2, _, ?_, hr, fun p q hp hq => lessL_double h hp hq⟩
  refine up_of_pairwise ?_
  have h1 := csort_pairwise (key := secondN (s.length + 1) r L) (most := s.length + 1 + 1) (l := a) (r := fun _ _ => True) (pw_true _)
  have h2 := csort_pairwise (key := fun p => r.getD p 0) (most := s.length + 1) h1
  refine h2.imp_of_mem fun {p q} hp hq k => ?_
  have bp : p ≤ s.length := by have := List.mem_range.1 (t2.mem_iff.1 hp); omega
  have bq : q ≤ s.length := by have := List.mem_range.1 (t2.mem_iff.1 hq); omega
  refine Nat.not_lt.1 fun hlt => ?_
  rw [pair_lt h bq bp] at hlt
  omega
theorem pair_eq {s : List UInt8} {L : Nat} {a r : List Nat} (h : Inv s L a r) {p q : Nat} (hp : p ≤ s.length) (hq : q ≤ s.length) :
    pairN (s.length + 1) r L p = pairN (s.length + 1) r L q ↔ r.getD p 0 = r.getD q 0 ∧ secondN (s.length + 1) r L p = secondN (s.length + 1) r L q := by
  have h1 := pair_lt h hp hq
  have h2 := pair_lt h hq hp
  omega
end Go.Proofs.Yteflhfofahdckaa
