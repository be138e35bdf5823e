/- suffix: plain facts of Ranks, Common, Find. -/
import Derived.Test.YteflhfofahdckaaSufK
namespace Go.Proofs.Yteflhfofahdckaa
set_option linter.unusedVariables false
set_option linter.unusedSimpArgs false
open Go.RowKit

theorem nodup_le : ∀ (n : Nat) (l : List Int), l.Nodup → (∀ x ∈ l, 0 ≤ x ∧ x < (n : Int)) → l.length ≤ n
  | 0, l, _, h => by
    cases l with
    | nil => simp
    | cons x l => have := h x (by simp); omega
  | n + 1, l, hn, h => by
    have h1 := nodup_le n (l.erase (n : Int)) (hn.erase _) (fun x hx => by
      have h2 := h x (List.mem_of_mem_erase hx)
      have h3 : x ≠ (n : Int) := fun e => by subst e; exact (List.Nodup.not_mem_erase hn) hx
      omega)
    rw [List.length_erase] at h1
    split at h1 <;> omega
/-- each place once -/
def okP (a : List Int) : Bool := decide ((∀ x ∈ a, 0 ≤ x ∧ x < (a.length : Int)) ∧ a.Nodup)
theorem okP_in {a : List Int} (h : okP a = true) {i : Nat} (hi : i < a.length) : 0 ≤ a.getD i 0 ∧ a.getD i 0 < (a.length : Int) := by
  have := (of_decide_eq_true h).1 a[i] (List.getElem_mem _)
  rw [List.getD_eq_getElem?_getD, List.getElem?_eq_getElem hi]; exact this
theorem okP_full {a : List Int} (h : okP a = true) {p : Nat} (hp : p < a.length) : (p : Int) ∈ a := by
  have h1 := of_decide_eq_true h
  refine Classical.byContradiction fun hn => ?_
  have := nodup_le a.length ((p : Int) :: a) (List.nodup_cons.2 ⟨hn, h1.2⟩) (fun x hx => by
    rcases List.mem_cons.1 hx with rfl | hx
    · omega
    · exact h1.1 x hx)
  rw [List.length_cons] at this
  omega
theorem getD_ge {a : List Int} {i : Nat} (h : i < a.length) : a.getD i 0 = a[i] := by
  rw [List.getD_eq_getElem?_getD, List.getElem?_eq_getElem h]; rfl
theorem okP_inj {a : List Int} (h : a.Nodup) {i j : Nat} (hi : i < a.length) (hj : j < a.length) (e : a.getD i 0 = a.getD j 0) : i = j := by
  rw [getD_ge hi, getD_ge hj] at e
  exact (List.getElem_inj h).1 e
theorem okP_at {a : List Int} (h : okP a = true) {p : Nat} (hp : p < a.length) : ∃ i, i < a.length ∧ a.getD i 0 = (p : Int) := by
  obtain ⟨i, hi, e⟩ := List.getElem_of_mem (okP_full h hp)
  exact ⟨i, hi, by rw [getD_ge hi]; exact e⟩
/-- where the places stand -/
def RanksAre (a : List Int) (r : List Nat) : Prop := r.length = a.length ∧ ∀ j, j < a.length → r.getD (a.getD j 0).toNat 0 = j
theorem RanksAre.unique {a : List Int} {r r' : List Nat} (h : okP a = true) (h1 : RanksAre a r) (h2 : RanksAre a r') : r = r' := by
  refine List.ext_getElem (by rw [h1.1, h2.1]) fun p hp hp' => ?_
  obtain ⟨i, hi, e⟩ := okP_at h (p := p) (by rw [← h1.1]; exact hp)
  have e1 := h1.2 i hi
  have e2 := h2.2 i hi
  rw [e, Int.toNat_natCast] at e1 e2
  rw [getD_lt hp] at e1
  rw [getD_lt hp'] at e2
  rw [e1, e2]
def posN (p : Nat) : List Int → Nat
  | [] => 0
  | x :: a => if x = (p : Int) then 0 else posN p a + 1
theorem posN_at : ∀ (a : List Int) (j : Nat), a.Nodup → j < a.length → 0 ≤ a.getD j 0 → posN (a.getD j 0).toNat a = j
  | [], j, _, h, _ => by simp at h
  | x :: a, 0, _, _, h0 => by
    have h0' : 0 ≤ x := h0
    show (if x = ((x.toNat : Nat) : Int) then 0 else _) = 0
    rw [if_pos (by omega)]
  | x :: a, j + 1, hn, h, h0 => by
    have hn' := List.nodup_cons.1 hn
    have hj : j < a.length := by simpa using h
    have e : (x :: a).getD (j + 1) 0 = a.getD j 0 := rfl
    rw [e] at h0 ⊢
    have hx : ¬ x = ((a.getD j 0).toNat : Int) := fun e => hn'.1 (by
      rw [e, Int.toNat_of_nonneg h0, getD_ge hj]; exact List.getElem_mem _)
    show (if x = (((a.getD j 0).toNat : Nat) : Int) then 0 else _) = j + 1
    rw [if_neg hx, posN_at a j hn'.2 hj h0]
def rkL (a : List Int) : List Nat := if okP a = true then (List.range a.length).map fun p => posN p a else []
def rkE (a : List Int) : Int := if okP a = true then 0 else 2
theorem rkL_are {a : List Int} (h : okP a = true) : RanksAre a (rkL a) := by
  unfold rkL
  rw [if_pos h]
  refine ⟨by simp, fun j hj => ?_⟩
  have h1 := okP_in h hj
  rw [List.getD_eq_getElem?_getD, List.getElem?_map, List.getElem?_range (by omega)]
  exact posN_at a j (of_decide_eq_true h).2 hj h1.1
theorem rkL_eq {a : List Int} {r : List Nat} (h : okP a = true) (hr : RanksAre a r) : r = rkL a := RanksAre.unique h hr (rkL_are h)
/-- the ranks of the first k have been laid -/
def RanksK (a : List Int) (r : List Int) (z : Int) (k : Nat) : Prop :=
  r.length = a.length ∧ (∀ j, j < k → 0 ≤ a.getD j 0 ∧ a.getD j 0 < (a.length : Int)) ∧ (∀ j, j < k → r.getD (a.getD j 0).toNat 0 = j) ∧ ∀ p, p < a.length → (∀ j, j < k → a.getD j 0 ≠ (p : Int)) → r.getD p 0 = z
theorem getD_setI {r : List Int} {i j : Nat} {u : Int} (hi : i < r.length) : (r.set i u).getD j 0 = if j = i then u else r.getD j 0 := by
  rw [List.getD_eq_getElem?_getD, List.getElem?_set]
  by_cases h : i = j
  · subst h; simp [hi]
  · rw [if_neg h, if_neg (fun e => h e.symm), List.getD_eq_getElem?_getD]
theorem RanksK.start {a : List Int} {z : Int} : RanksK a (List.replicate a.length z) z 0 := by
  refine ⟨by simp, fun j h => by omega, fun j h => by omega, fun p hp _ => ?_⟩
  rw [List.getD_eq_getElem?_getD, List.getElem?_replicate, if_pos hp]; rfl
theorem RanksK.step {a r : List Int} {z : Int} {k : Nat} (h : RanksK a r z k) (hk : k < a.length) (h0 : 0 ≤ a.getD k 0 ∧ a.getD k 0 < (a.length : Int)) (hn : ∀ j, j < k → a.getD j 0 ≠ a.getD k 0) :
    RanksK a (r.set (a.getD k 0).toNat (k : Int)) z (k + 1) := by
  obtain ⟨h1, h2, h3, h4⟩ := h
  have hlt : (a.getD k 0).toNat < r.length := by rw [h1]; omega
  refine ⟨by rw [List.length_set, h1], fun j hj => ?_, fun j hj => ?_, fun p hp hq => ?_⟩
  · rcases Nat.lt_or_ge j k with h | h
    · exact h2 j h
    · have : j = k := by omega
      subst this; exact h0
  · rw [getD_setI hlt]
    rcases Nat.lt_or_ge j k with h | h
    · rw [if_neg (fun e => hn j h (by have := h2 j h; omega)), h3 j h]
    · have : j = k := by omega
      subst this; rw [if_pos rfl]
  · rw [getD_setI hlt, if_neg (fun e => hq k (by omega) (by omega)), h4 p hp (fun j hj => hq j (by omega))]
/-- is this place taken? -/
theorem RanksK.taken {a r : List Int} {z : Int} {k : Nat} (h : RanksK a r z k) (hz : z < 0) {p : Nat} (hp : p < a.length) : (r.getD p 0 < 0 ↔ ∀ j, j < k → a.getD j 0 ≠ (p : Int)) := by
  constructor
  · intro h5 j hj e
    have := h.2.2.1 j hj
    rw [e, Int.toNat_natCast] at this
    omega
  · intro h5
    rw [h.2.2.2 p hp h5]; exact hz
theorem RanksK.ok {a r : List Int} {z : Int} (h : RanksK a r z a.length) (hn : ∀ i j, i < j → j < a.length → a.getD i 0 ≠ a.getD j 0) : okP a = true := by
  refine decide_eq_true ⟨fun x hx => ?_, ?_⟩
  · obtain ⟨i, hi, rfl⟩ := mem_getD hx
    exact h.2.1 i hi
  · rw [List.Nodup, List.pairwise_iff_getElem]
    intro i j hi hj hij
    have := hn i j hij hj
    rwa [getD_ge hi, getD_ge hj] at this
theorem RanksK.done {a : List Int} {r : List Int} {z : Int} (h : RanksK a r z a.length) (ho : okP a = true) : r = toI (rkL a) := by
  refine List.ext_getElem (by rw [h.1, toI_length]; exact (rkL_are ho).1.symm) fun p hp hp' => ?_
  obtain ⟨i, hi, e⟩ := okP_at ho (p := p) (by rw [← h.1]; exact hp)
  have e1 := h.2.2.1 i hi
  have e2 := (rkL_are ho).2 i hi
  rw [e, Int.toNat_natCast] at e1 e2
  rw [getD_ge hp] at e1
  have e3 := toI_getD (rkL a) p
  rw [getD_ge hp', e2] at e3
  rw [e1, e3]
theorem okP_bad {a : List Int} {k : Nat} (hk : k < a.length) (h : ¬ (0 ≤ a.getD k 0 ∧ a.getD k 0 < (a.length : Int))) : okP a = false := by
  refine Bool.eq_false_iff.2 fun ho => h (okP_in ho hk)
theorem okP_twice {a : List Int} {j k : Nat} (hj : j < k) (hk : k < a.length) (h : a.getD j 0 = a.getD k 0) : okP a = false := by
  refine Bool.eq_false_iff.2 fun ho => ?_
  have := okP_inj (of_decide_eq_true ho).2 (by omega) hk h
  omega
theorem rk_false {a : List Int} (h : okP a = false) : rkE a = 2 ∧ rkL a = [] := by
  unfold rkE rkL; rw [h]; exact ⟨rfl, rfl⟩
theorem rk_true {a : List Int} (h : okP a = true) : rkE a = 0 := by
  unfold rkE; rw [h]; rfl

/-- how many bytes two texts have in common -/
def alikeN : List UInt8 → List UInt8 → Nat
  | x :: a, y :: b => if x = y then alikeN a b + 1 else 0
  | _, _ => 0
theorem alikeN_le : ∀ a b, alikeN a b ≤ a.length ∧ alikeN a b ≤ b.length
  | [], b => by simp [alikeN]
  | x :: a, [] => by simp [alikeN]
  | x :: a, y :: b => by
    have := alikeN_le a b
    unfold alikeN
    split <;> simp <;> omega
theorem alikeN_same : ∀ (a b : List UInt8) (k : Nat), k < alikeN a b → a.getD k 0 = b.getD k 0
  | [], b, k, h => by simp [alikeN] at h
  | x :: a, [], k, h => by simp [alikeN] at h
  | x :: a, y :: b, k, h => by
    unfold alikeN at h
    split at h
    · rename_i e
      subst e
      cases k with
      | zero => rfl
      | succ k => exact alikeN_same a b k (by omega)
    · omega
theorem alikeN_stop : ∀ (a b : List UInt8), alikeN a b < a.length → alikeN a b < b.length → a.getD (alikeN a b) 0 ≠ b.getD (alikeN a b) 0
  | [], b, h, _ => by simp at h
  | x :: a, [], _, h => by simp at h
  | x :: a, y :: b, h1, h2 => by
    unfold alikeN at h1 h2 ⊢
    by_cases e : x = y
    · rw [if_pos e] at h1 h2 ⊢
      exact alikeN_stop a b (by simpa using h1) (by simpa using h2)
    · rw [if_neg e]; exact e
/-- the first place that isn't alike -/
theorem alikeN_at {a b : List UInt8} {n : Nat} (h1 : n ≤ a.length) (h2 : n ≤ b.length) (h : ∀ k, k < n → a.getD k 0 = b.getD k 0) (hs : ¬ (n < a.length ∧ n < b.length ∧ a.getD n 0 = b.getD n 0)) : alikeN a b = n := by
  have l1 := (alikeN_le a b).1
  have l2 := (alikeN_le a b).2
  rcases Nat.lt_trichotomy (alikeN a b) n with h3 | h3 | h3
  · exact absurd (h _ h3) (alikeN_stop a b (by omega) (by omega))
  · exact h3
  · exact absurd ⟨by omega, by omega, alikeN_same a b n h3⟩ hs
theorem alikeN_take (a b : List UInt8) : a.take (alikeN a b) = b.take (alikeN a b) := by
  refine List.ext_getElem (by have := alikeN_le a b; simp; omega) fun k h1 h2 => ?_
  have hk : k < alikeN a b := by simp at h1; omega
  have := alikeN_same a b k hk
  rw [List.getElem_take, List.getElem_take]
  have l1 := (alikeN_le a b).1
  have l2 := (alikeN_le a b).2
  rwa [List.getD_eq_getElem?_getD, List.getElem?_eq_getElem (by omega), List.getD_eq_getElem?_getD, List.getElem?_eq_getElem (by omega)] at this
theorem alikeN_pre {a b : List UInt8} : alikeN a b = b.length ↔ b <+: a := by
  constructor
  · intro h
    have := alikeN_take a b
    rw [h, List.take_length] at this
    rw [← this]; exact List.take_prefix _ _
  · rintro ⟨t, rfl⟩
    refine alikeN_at (by simp) (by simp) (fun k hk => ?_) (fun h => by omega)
    rw [List.getD_eq_getElem?_getD, List.getElem?_append_left hk, List.getD_eq_getElem?_getD]

/-- place i of a row, as a number -/
def placeN (a : List Int) (i : Nat) : Nat := (a.getD i 0).toNat
def endAt (s : List UInt8) (a : List Int) (i : Nat) : List UInt8 := s.drop (placeN a i)
/-- what an end has in common with the one ahead -/
def comAt (s : List UInt8) (a : List Int) (i : Nat) : Nat := if i = 0 then 0 else alikeN (endAt s a i) (endAt s a (i - 1))
def okC (s : List UInt8) (a : List Int) : Bool := okP a && decide (a.length = s.length + 1)
def comL (s : List UInt8) (a : List Int) : List Nat := if okC s a = true then (List.range a.length).map (comAt s a) else []
def comE (s : List UInt8) (a : List Int) : Int := if okC s a = true then 0 else 2
end Go.Proofs.Yteflhfofahdckaa
