/- Slices that may be read, whoever has made them: their elements, their spare; sub-slices; an append of such a slice; the opening of such an argument. -/
import Derived.Test.YtmjkfgpkohfmiaaGreatWide
import Derived.Test.YtmjkfgpkohfmiaaGreatOpen
import Derived.Deep.Slices
namespace Go.Proofs.YtmjkfgpkohfmiaaGreat
set_option linter.unusedVariables false
set_option linter.unusedSimpArgs false
open Go.RowKit

/-- the slice v may be read: these elements, each of s cells -/
def RR {α : Type} (f : α → List Value) (s : Nat) (w : World) (v : Value) (l : List α) : Prop :=
  ∃ a c, v = .slice a l.length c ∧ l.length ≤ c ∧ (a = none → c = 0) ∧ (0 < l.length → ∃ g o, a = some ⟨g, o, none⟩ ∧ ∀ (k : Nat) (x : α), l[k]? = some x → w.rangeAt g (o + k * s) (f x))
section
variable {α : Type} {f : α → List Value} {s : Nat} {w w' : World} {v : Value} {l : List α} {B : Nat} {e : TypeId}
theorem RR.ext (h : RR f s w v l) (hx : Ext w w') : RR f s w' v l := by
  obtain ⟨a, c, h1, h0, hn, h2⟩ := h
  refine ⟨a, c, h1, h0, hn, fun hl => ?_⟩
  obtain ⟨g, o, h3, h4⟩ := h2 hl
  exact ⟨g, o, h3, fun k x hk => rangeAt_ext (h4 k x hk) hx⟩
theorem RR.nil (w : World) : RR f s w (.slice none 0 0) [] := ⟨none, 0, rfl, Nat.le_refl _, fun _ => rfl, fun h => by simp at h⟩
theorem WR.rr (hf : ∀ x, (f x).length = s) (h : WR f s w B e v l) : RR f s w v l := by
  rcases h.2 with ⟨rfl, h0⟩ | ⟨g, cap, cur, rfl, hg, hc, h1, h2, _⟩
  · exact ⟨none, 0, by rw [h0], by omega, fun _ => rfl, fun hl => by omega⟩
  · obtain ⟨a, c, h3, h4, h5⟩ := h.shape hf
    refine ⟨a, c, h3, h4, fun ha => ?_, fun hl => ?_⟩
    · subst ha; simp at h3
    · obtain ⟨g, p1, _, _, p4, _⟩ := h5 hl
      exact ⟨g, 0, p1, fun k x hk => by rw [Nat.zero_add]; exact p4 k x hk⟩
/-- v[:i] -/
theorem RR.take {a : Option Addr} {n c : Nat} (h : RR f s w (.slice a n c) l) (i : Nat) (hi : i ≤ l.length) : RR f s w (.slice a i c) (l.take i) := by
  obtain ⟨a', c', h1, h0, hn, h2⟩ := h
  injection h1 with e1 e2 e3
  subst e1; subst e3
  have hl : (l.take i).length = i := by rw [List.length_take]; omega
  refine ⟨_, _, by rw [hl], by omega, hn, fun h3 => ?_⟩
  obtain ⟨g, o, h4, h5⟩ := h2 (by omega)
  refine ⟨g, o, h4, fun k x hk => h5 k x ?_⟩
  rw [List.getElem?_take] at hk
  split at hk
  · exact hk
  · cases hk
/-- v[i:] -/
theorem RR.drop {a : Option Addr} {n c : Nat} (h : RR f s w (.slice a n c) l) (i : Nat) (hi : i ≤ l.length) (b : Option Addr) (hb : ∀ g o, a = some ⟨g, o, none⟩ → i < c → b = some ⟨g, o + i * s, none⟩) (hb0 : b = none → a = none) :
    RR f s w (.slice b (l.length - i) (c - i)) (l.drop i) := by
  obtain ⟨a', c', h1, h0, hn, h2⟩ := h
  injection h1 with e1 e2 e3
  subst e1; subst e3
  refine ⟨_, _, by rw [List.length_drop], by rw [List.length_drop]; omega, fun h3 => ?_, fun h3 => ?_⟩
  · have := hn (hb0 h3); omega
  · rw [List.length_drop] at h3
    obtain ⟨g, o, h4, h5⟩ := h2 (by omega)
    refine ⟨g, o + i * s, hb g o h4 (by omega), fun k x hk => ?_⟩
    rw [List.getElem?_drop] at hk
    have := h5 _ x hk
    rw [Nat.add_mul, ← Nat.add_assoc] at this
    exact this
/-- a readable slice is appended onto one that the call has made -/
theorem WR.appS (hf : ∀ x, (f x).length = s) (hs : 0 < s) (h1 : ∀ x, ∀ u ∈ f x, u.oneCell' = true) {u : Value} {m : List α} (h : WR f s w B e v l) (hr : RR f s w u m) (hB : B ≤ w.heap.size) {P : Program} {t : TypeId} {z : Value} {bytes : Nat} (ht : P.underlying t = some (.slice e))
    (hi : (P.info? e).map (fun i => (i.zero, i.size, i.bytes)) = some (some z, s, bytes)) (hz : z.cells.size = s) (hl : (l.length + m.length) * bytes ≤ 140737488355328) (hl2 : l.length + m.length ≤ maxLen) :
    ∃ v' w', (Builtin.append_ #[t, t] t #[v, u]).run P w = .ok v' w' ∧ WR f s w' B e v' (l ++ m) ∧ w.grownBy w' v.ownBlock := by
  obtain ⟨i, hi1, hzz⟩ := Option.map_eq_some_iff.1 hi
  simp only [Prod.mk.injEq] at hzz
  obtain ⟨z1, z2, z3⟩ := hzz
  obtain ⟨a, c, rfl, h0, hn, h2⟩ := hr
  have hfl := flat_length hf m
  cases a with
  | none =>
    have hc := hn rfl
    subst hc
    obtain rfl : m = [] := List.eq_nil_of_length_eq_zero (by omega)
    refine ⟨v, w, run_append_owned_none w B t t e i s ht hi1 v l.length (l.flatMap f) h, by rw [List.append_nil]; exact h, rfl, rfl, rfl, Nat.le_refl _, fun _ _ _ => rfl⟩
  | some a =>
    obtain ⟨v', w', p1, p2, p3, _⟩ := run_append_own (P := P) w B t t e i z s bytes ht hi1 z1 z2 z3 hz hs v l.length (l.flatMap f) h a m.length c (m.flatMap f) hfl
      (fun j u' hj => by
        have hjl : j < m.length * s := by
          rw [← hfl]
          rcases Nat.lt_or_ge j (m.flatMap f).length with h | h
          · exact h
          · rw [List.getElem?_eq_none h] at hj; cases hj
        have hm0 : 0 < m.length := by
          rcases Nat.eq_zero_or_pos m.length with h | h
          · rw [h] at hjl; omega
          · exact h
        obtain ⟨g, o, h3, h4⟩ := h2 hm0
        injection h3 with h3
        subst h3
        have hk : j / s < m.length := Nat.div_lt_of_lt_mul (by rw [Nat.mul_comm]; exact hjl)
        have hjs : j % s < s := Nat.mod_lt _ hs
        have hx := List.getElem?_eq_getElem hk
        have hdm : j / s * s + j % s = j := by rw [Nat.mul_comm]; exact Nat.div_add_mod j s
        have hflat := flat_get hf m (j / s) (j % s) hjs _ hx
        rw [hdm, hj] at hflat
        have := h4 _ _ hx _ _ hflat.symm
        rw [Addr.add_lit]
        rw [show o + j / s * s + j % s = o + j by omega] at this
        exact this)
      (fun u' hu => by
        obtain ⟨x, _, hx⟩ := List.mem_flatMap.1 hu
        exact h1 x u' hx) hl2 hl hB
    refine ⟨v', w', p1, ?_, p3⟩
    unfold WR
    rw [List.length_append, List.flatMap_append]; exact p2
end

open Go.ChangeShapes Go.WideShapes Go.ChangeAt
section
variable {H : Type} {enc : TypeId × Value → H} {w : World} {base : Nat} {spare : Nat → Bool} {held : Bool}
theorem spot_none' {a : Addr} {v : Value} (h : w.cell? a = some v) : a = ⟨a.block, a.off, none⟩ := by
  obtain ⟨b, o, s⟩ := a
  cases s with
  | none => rfl
  | some s => unfold World.cell? at h; split at h <;> simp_all
/-- a slice of structs -/
theorem open_rr {P : Program} {α : Type} [Inhabited α] {f : α → List Value} {s : Nat} (R : α → Prop) {t e : TypeId} {fuel : Nat} {cs : List Value} {x : DataW H × List MemPlace} (ht : P.underlying t = some (.slice e)) (hc : P.cellsOf e = s) (hs : 0 < s) (hf : ∀ x, (f x).length = s)
    (hopen : ∀ n cs' y, DataW.trod enc P w base spare held n e cs' = some y → ∃ x : α, cs' = f x ∧ R x) (h : DataW.trod enc P w base spare held fuel t cs = some x) :
    ∃ (v : Value) (l : List α), cs = [v] ∧ RR f s w v l ∧ (l.length : Int) ≤ 9223372036854775807 ∧ ∀ x ∈ l, R x := by
  rcases Deep.open_slice ht h with ⟨rfl, _⟩ | ⟨a, len, cap, m, n, D, Pl, rfl, hb, hl, hm, hmm, _, hx⟩
  · exact ⟨_, [], rfl, RR.nil w, by simp, fun x hx => by simp at hx⟩
  · have hlm : len ≤ m := by rw [hmm]; split <;> omega
    obtain ⟨q, hq⟩ := Deep.choose_lt (n := len) (p := fun i (x : α) => w.cells? base (a.add (i * s)) s = some (f x) ∧ R x) (fun i hi => by
      obtain ⟨cs', h1, h2⟩ := hx i (by omega)
      obtain ⟨x, rfl, hr⟩ := hopen _ _ _ h2
      rw [hc] at h1
      exact ⟨x, h1, hr⟩)
    refine ⟨_, (List.range len).map q, rfl, ⟨some a, cap, by simp, by simpa using hl, (fun h => by cases h), fun hlen => ?_⟩, by rw [List.length_map, List.length_range]; unfold maxLen at hm; omega, ?_⟩
    · rw [List.length_map, List.length_range] at hlen
      have hcell : ∀ i, i < len → ∀ j u, (f (q i))[j]? = some u → w.cell? (a.add (i * s + j)) = some u := fun i hi j u hu => by
        obtain ⟨_, _, h3⟩ := World.cells?_some (hq i hi).1
        have hj : j < s := by
          rw [← hf (q i)]
          rcases Nat.lt_or_ge j (f (q i)).length with h | h
          · exact h
          · rw [List.getElem?_eq_none h] at hu; cases hu
        rw [← Deep.add_add, h3 j hj]; exact hu
      have ha : a = ⟨a.block, a.off, none⟩ := by
        have h0 := hcell 0 hlen 0 _ (List.getElem?_eq_getElem (by rw [hf]; exact hs))
        rw [Nat.zero_mul] at h0
        exact spot_none' (show w.cell? a = some _ from h0)
      refine ⟨a.block, a.off, by rw [ha], fun k x hk j u hu => ?_⟩
      rw [List.getElem?_map] at hk
      have hkl : k < len := by
        rcases Nat.lt_or_ge k len with h | h
        · exact h
        · rw [List.getElem?_eq_none (by simpa using h)] at hk; cases hk
      rw [List.getElem?_range hkl, Option.map_some] at hk
      obtain rfl := Option.some.inj hk
      have := hcell k hkl j u hu
      rw [ha, Addr.add_mid] at this
      rw [Nat.add_assoc]; exact this
    · intro x hx
      obtain ⟨i, hi, rfl⟩ := List.mem_map.1 hx
      exact (hq i (List.mem_range.1 hi)).2
end
end Go.Proofs.YtmjkfgpkohfmiaaGreat
