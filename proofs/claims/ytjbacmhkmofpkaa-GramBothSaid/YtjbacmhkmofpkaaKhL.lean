/- kmp: what is said of borders, in plain Lean. -/
import Derived.Test.YtjbacmhkmofpkaaRow
namespace Go.Proofs.Ytjbacmhkmofpkaa
set_option linter.unusedVariables false

/-- the longest beginning of what, of no more than k bytes, that t ends in -/
def ovGo (what t : List UInt8) : Nat → Nat
  | 0 => 0
  | k + 1 => if k + 1 ≤ what.length ∧ what.take (k + 1) = t.drop (t.length - (k + 1)) then k + 1 else ovGo what t k
/-- the longest beginning of what that t ends in -/
def ov (what t : List UInt8) : Nat := ovGo what t t.length
/-- the border at place i -/
def failL (what : List UInt8) (i : Nat) : Nat := ovGo what (what.take (i + 1)) i

def Mt (what t : List UInt8) (k : Nat) : Prop := k ≤ what.length ∧ what.take k <:+ t
theorem Mt.zero (what t : List UInt8) : Mt what t 0 := ⟨Nat.zero_le _, by simp⟩
theorem mt_iff {what t : List UInt8} {k : Nat} (hk : k ≤ what.length) (ht : k ≤ t.length) : Mt what t k ↔ what.take k = t.drop (t.length - k) := by
  unfold Mt
  rw [List.suffix_iff_eq_drop, List.length_take, Nat.min_eq_left hk]
  exact ⟨fun h => h.2, fun h => ⟨hk, h⟩⟩
theorem Mt.le {what t : List UInt8} {k : Nat} (h : Mt what t k) : k ≤ t.length := by
  have := h.2.length_le
  rw [List.length_take, Nat.min_eq_left h.1] at this; exact this
theorem ovGo_spec (what t : List UInt8) : ∀ K, K ≤ t.length → Mt what t (ovGo what t K) ∧ ovGo what t K ≤ K ∧ ∀ k, k ≤ K → Mt what t k → k ≤ ovGo what t K
  | 0, _ => ⟨Mt.zero _ _, Nat.le_refl _, fun k hk _ => hk⟩
  | K + 1, h => by
    obtain ⟨h1, h2, h3⟩ := ovGo_spec what t K (by omega)
    unfold ovGo
    split
    · next hc => exact ⟨(mt_iff hc.1 h).2 hc.2, Nat.le_refl _, fun k hk _ => hk⟩
    · next hc =>
      refine ⟨h1, by omega, fun k hk hm => ?_⟩
      rcases Nat.lt_or_ge K k with hlt | hge
      · obtain rfl : k = K + 1 := by omega
        exact absurd ⟨hm.1, (mt_iff hm.1 h).1 hm⟩ hc
      · exact h3 k hge hm
theorem ov_mt (what t : List UInt8) : Mt what t (ov what t) := (ovGo_spec what t _ (Nat.le_refl _)).1
theorem ov_max {what t : List UInt8} {k : Nat} (h : Mt what t k) : k ≤ ov what t := (ovGo_spec what t _ (Nat.le_refl _)).2.2 k h.le h
theorem ov_le (what t : List UInt8) : ov what t ≤ what.length := (ov_mt what t).1
theorem ov_le' (what t : List UInt8) : ov what t ≤ t.length := (ov_mt what t).le
theorem ov_eq_of {what t t' : List UInt8} (h : ∀ k, Mt what t k ↔ Mt what t' k) : ov what t = ov what t' :=
  Nat.le_antisymm (ov_max ((h _).1 (ov_mt what t))) (ov_max ((h _).2 (ov_mt what t')))
theorem ov_unique {what t : List UInt8} {k : Nat} (h : Mt what t k) (hm : ∀ j, Mt what t j → j ≤ k) : ov what t = k := Nat.le_antisymm (hm _ (ov_mt _ _)) (ov_max h)

theorem suffix_concat {a t : List UInt8} {x b : UInt8} : a ++ [x] <:+ t ++ [b] ↔ a <:+ t ∧ x = b := by
  rw [← List.reverse_prefix, List.reverse_append, List.reverse_append]
  simp only [List.reverse_cons, List.reverse_nil, List.nil_append, List.singleton_append, List.cons_prefix_cons, List.reverse_prefix]
  exact ⟨fun h => ⟨h.2, h.1⟩, fun h => ⟨h.2, h.1⟩⟩
theorem mt_concat {what t : List UInt8} {b : UInt8} {j : Nat} : Mt what (t ++ [b]) (j + 1) ↔ j < what.length ∧ what.take j <:+ t ∧ what[j]? = some b := by
  unfold Mt
  constructor
  · rintro ⟨h1, h2⟩
    have hj : j < what.length := by omega
    rw [List.take_succ_eq_append_getElem hj, suffix_concat] at h2
    exact ⟨hj, h2.1, by rw [List.getElem?_eq_getElem hj, h2.2]⟩
  · rintro ⟨hj, h2, h3⟩
    rw [List.getElem?_eq_getElem hj] at h3
    injection h3 with h3
    refine ⟨by omega, ?_⟩
    rw [List.take_succ_eq_append_getElem hj, suffix_concat]
    exact ⟨h2, h3⟩
/-- step, the bytes go on -/
theorem ov_hit {what : List UInt8} {b : UInt8} {st : Nat} (h : what[st]? = some b) : ov what (what.take st ++ [b]) = st + 1 := by
  have hst : st < what.length := (List.getElem?_eq_some_iff.1 h).1
  refine ov_unique (mt_concat.2 ⟨hst, List.suffix_refl _, h⟩) fun j hj => ?_
  have := hj.le
  simp only [List.length_append, List.length_take, List.length_singleton] at this; omega
/-- step, at the beginning -/
theorem ov_zero {what : List UInt8} {b : UInt8} (h : what[0]? ≠ some b) : ov what (what.take 0 ++ [b]) = 0 := by
  refine ov_unique (Mt.zero _ _) fun j hj => ?_
  cases j with
  | zero => exact Nat.le_refl _
  | succ j =>
    have h1 := hj.le
    obtain ⟨_, _, h2⟩ := mt_concat.1 hj
    simp only [List.take_zero, List.nil_append, List.length_singleton] at h1
    obtain rfl : j = 0 := by omega
    exact absurd h2 h
theorem failL_spec (what : List UInt8) {st : Nat} (h0 : 0 < st) (hst : st ≤ what.length) : Mt what (what.take st) (failL what (st - 1)) ∧ failL what (st - 1) < st ∧ ∀ k, k < st → Mt what (what.take st) k → k ≤ failL what (st - 1) := by
  have e : st - 1 + 1 = st := by omega
  unfold failL
  rw [e]
  obtain ⟨h1, h2, h3⟩ := ovGo_spec what (what.take st) (st - 1) (by rw [List.length_take]; omega)
  exact ⟨h1, by omega, fun k hk => h3 k (by omega)⟩
/-- step, back by a border -/
theorem ov_back {what : List UInt8} {b : UInt8} {st : Nat} (h0 : 0 < st) (hst : st ≤ what.length) (h : what[st]? ≠ some b) : ov what (what.take st ++ [b]) = ov what (what.take (failL what (st - 1)) ++ [b]) := by
  obtain ⟨h1, h2, h3⟩ := failL_spec what h0 hst
  generalize failL what (st - 1) = f at *
  refine ov_eq_of fun k => ?_
  cases k with
  | zero => exact ⟨fun _ => Mt.zero _ _, fun _ => Mt.zero _ _⟩
  | succ j =>
    rw [mt_concat, mt_concat]
    constructor
    · rintro ⟨p1, p2, p3⟩
      refine ⟨p1, ?_, p3⟩
      have hj : j < st := by
        have := p2.length_le
        simp only [List.length_take] at this
        rcases Nat.lt_or_ge j st with h' | h'
        · exact h'
        · obtain rfl : j = st := by omega
          exact absurd p3 h
      have := h3 j hj ⟨by omega, p2⟩
      exact List.suffix_of_suffix_length_le p2 h1.2 (by simp only [List.length_take]; omega)
    · rintro ⟨p1, p2, p3⟩
      exact ⟨p1, p2.trans h1.2, p3⟩
/-- a byte behind a text: all that is asked of the text is its state -/
theorem ov_concat (what t : List UInt8) (b : UInt8) : ov what (t ++ [b]) = ov what (what.take (ov what t) ++ [b]) := by
  have h1 := ov_mt what t
  have h3 : ∀ k, Mt what t k → k ≤ ov what t := fun k => ov_max
  generalize ov what t = f at *
  refine ov_eq_of fun k => ?_
  cases k with
  | zero => exact ⟨fun _ => Mt.zero _ _, fun _ => Mt.zero _ _⟩
  | succ j =>
    rw [mt_concat, mt_concat]
    constructor
    · rintro ⟨p1, p2, p3⟩
      have := h3 j ⟨by omega, p2⟩
      exact ⟨p1, List.suffix_of_suffix_length_le p2 h1.2 (by have := h1.1; simp only [List.length_take]; omega), p3⟩
    · rintro ⟨p1, p2, p3⟩
      exact ⟨p1, p2.trans h1.2, p3⟩
theorem ov_nil (what : List UInt8) : ov what [] = 0 := rfl
theorem ov_full (what t : List UInt8) : ov what t = what.length ↔ what <:+ t := by
  constructor
  · intro h
    have := (ov_mt what t).2
    rw [h, List.take_length] at this; exact this
  · intro h
    exact Nat.le_antisymm (ov_le _ _) (ov_max ⟨Nat.le_refl _, by rw [List.take_length]; exact h⟩)
/-- the borders of all places, as Fail and the document's Fail have them -/
theorem failL_ov {what : List UInt8} {i : Nat} (h0 : 0 < i) (hi : i < what.length) : failL what i = ov what (what.take (failL what (i - 1)) ++ [what[i]]) := by
  obtain ⟨f1, f2, f3⟩ := failL_spec what h0 (by omega)
  obtain ⟨g1, g2, g3⟩ := failL_spec what (st := i + 1) (by omega) (by omega)
  rw [Nat.add_sub_cancel] at g1 g2 g3
  symm
  have et : what.take (i + 1) = what.take i ++ [what[i]] := List.take_succ_eq_append_getElem hi
  generalize failL what i = g at *
  generalize failL what (i - 1) = f at *
  refine ov_unique ?_ fun j hj => ?_
  · cases g with
    | zero => exact Mt.zero _ _
    | succ j =>
      rw [et, mt_concat] at g1
      obtain ⟨p1, p2, p3⟩ := g1
      have := f3 j (by omega) ⟨by omega, p2⟩
      exact mt_concat.2 ⟨p1, List.suffix_of_suffix_length_le p2 f1.2 (by simp only [List.length_take]; omega), p3⟩
  · cases j with
    | zero => exact Nat.zero_le _
    | succ j =>
      obtain ⟨p1, p2, p3⟩ := mt_concat.1 hj
      have hl := p2.length_le
      simp only [List.length_take] at hl
      refine g3 (j + 1) (by omega) ?_
      rw [et, mt_concat]
      exact ⟨p1, p2.trans f1.2, p3⟩
theorem failL_zero (what : List UInt8) : failL what 0 = 0 := rfl
end Go.Proofs.Ytjbacmhkmofpkaa
