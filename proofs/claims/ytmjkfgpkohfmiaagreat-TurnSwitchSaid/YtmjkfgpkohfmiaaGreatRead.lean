/- Slices of integers that may be read. -/
import Derived.Test.YtmjkfgpkohfmiaaGreatReadG
import Derived.Test.YtmjkfgpkohfmiaaGreatRow
namespace Go.Proofs.YtmjkfgpkohfmiaaGreat
set_option linter.unusedVariables false
set_option linter.unusedSimpArgs false
open Go.RowKit

def intC (x : Int) : List Value := [.int .i64 x]
theorem intC_length (x : Int) : (intC x).length = 1 := rfl
theorem intC_one (x : Int) : ∀ u ∈ intC x, u.oneCell' = true := fun u hu => by simp [intC] at hu; subst hu; rfl
theorem flat_intC (l : List Int) : l.flatMap intC = ints l := by
  unfold ints
  induction l with
  | nil => rfl
  | cons a l ih => rw [List.flatMap_cons, ih]; rfl
/-- a slice of integers that may be read -/
def RI (w : World) (v : Value) (l : List Int) : Prop := RR intC 1 w v l
theorem IW_WR {w : World} {B : Nat} {v : Value} {l : List Int} : IW w B v l ↔ WR intC 1 w B 3 v l := by
  unfold IW RW WR
  rw [ints_length, flat_intC]
section
variable {w w' : World} {v u : Value} {l m : List Int} {B : Nat}
theorem RI.ext (h : RI w v l) (hx : Ext w w') : RI w' v l := RR.ext h hx
theorem RI.drew (h : RI w v l) : RI w.drew v l := h.ext (Ext.refl w).drew
theorem RI.alloc (h : RI w v l) (o : Obj) : RI (w.alloc o) v l := h.ext ((Ext.refl w).alloc o)
theorem RI.nil (w : World) : RI w (.slice none 0 0) [] := RR.nil w
theorem IW.ri (h : IW w B v l) : RI w v l := (IW_WR.1 h).rr intC_length
theorem RI.take {a : Option Addr} {n c : Nat} (h : RI w (.slice a n c) l) (i : Nat) (hi : i ≤ l.length) : RI w (.slice a i c) (l.take i) := RR.take h i hi
/-- what the slice is -/
theorem RI.shape (h : RI w v l) : ∃ a c, v = .slice a l.length c ∧ l.length ≤ c ∧ (a = none → c = 0) ∧ (0 < l.length → ∃ g o, a = some ⟨g, o, none⟩ ∧ ∀ k, k < l.length → w.cell? ⟨g, o + k, none⟩ = some (.int .i64 (l.getD k 0))) := by
  obtain ⟨a, c, h1, h0, hn, h2⟩ := h
  refine ⟨a, c, h1, h0, hn, fun hl => ?_⟩
  obtain ⟨g, o, h3, h4⟩ := h2 hl
  refine ⟨g, o, h3, fun k hk => ?_⟩
  have := h4 k _ (List.getElem?_eq_getElem hk) 0 _ rfl
  rw [List.getD_eq_getElem?_getD, List.getElem?_eq_getElem hk]
  simpa using this
theorem RI.of {g o c : Nat} {l : List Int} (hc : l.length ≤ c) (h : ∀ k, k < l.length → w.cell? ⟨g, o + k, none⟩ = some (.int .i64 (l.getD k 0))) : RI w (.slice (some ⟨g, o, none⟩) l.length c) l := by
  refine ⟨_, _, rfl, hc, (fun h => by cases h), fun hl => ⟨g, o, rfl, fun k x hk j u hu => ?_⟩⟩
  have hj : j = 0 := by
    rcases Nat.eq_zero_or_pos j with h | h
    · exact h
    · rw [List.getElem?_eq_none (by rw [intC_length]; omega)] at hu; cases hu
  subst hj
  have hkl : k < l.length := by
    rcases Nat.lt_or_ge k l.length with h | h
    · exact h
    · rw [List.getElem?_eq_none h] at hk; cases hk
  have := h k hkl
  rw [List.getD_eq_getElem?_getD, hk] at this
  simp [intC] at hu
  subst hu
  simpa using this
/-- an append of a readable slice -/
theorem IW.appS (h : IW w B v l) (hr : RI w u m) (hB : B ≤ w.heap.size) (hl : (l.length : Int) + (m.length : Int) ≤ 1000000000) :
    ∃ v' w', (Builtin.append_ #[23, 23] 23 #[v, u]).run Tryz.prog w = .ok v' w' ∧ IW w' B v' (l ++ m) ∧ w.grownBy w' v.ownBlock := by
  obtain ⟨v', w', h1, h2, h3⟩ := (IW_WR.1 h).appS intC_length (by decide) intC_one hr hB (P := Tryz.prog) (t := 23) Tryz.underlying23 int_info rfl (by omega) (by unfold maxLen; omega)
  exact ⟨v', w', h1, IW_WR.2 h2, h3⟩
theorem IW.ge {w : World} {B : Nat} {v : Value} {l : List Int} (h : IW w B v l) : ∀ k, v.ownBlock = some k → B ≤ k := fun k hk => (World.ownsRow.lt h k hk).1
theorem IW.below {w w' : World} {B : Nat} {v : Value} {l : List Int} (h : IW w B v l) (hB : B ≤ w.heap.size) (hg : w.grownBy w' v.ownBlock) : Below B w w' :=
  ⟨hg.os, hg.tape, hg.output, hg.size, fun k hk => hg.block k (by omega) (fun e => by have := h.ge k e.symm; omega)⟩
end

open Go.ChangeShapes Go.WideShapes Go.ChangeAt
section
variable {H : Type} {enc : TypeId × Value → H} {w : World} {base : Nat} {spare : Nat → Bool} {held : Bool}
/-- an argument that is a slice of integers -/
theorem open_ri {a : Option Addr} {n c : Nat} {d : DataW H} {p : List MemPlace} (h : DataW.Trod enc Tryz.prog w base spare held 23 (.slice a n c) d p) :
    ∃ l : List Int, n = l.length ∧ RI w (.slice a n c) l ∧ (l.length : Int) ≤ 9223372036854775807 ∧ ∀ x ∈ l, (Lit.int .i64 x).wf = true := by
  obtain ⟨fuel, hf⟩ := h
  rcases open_ints Tryz.underlying23 Tryz.underlying3 (by kernel_rfl) hf with ⟨e, _⟩ | ⟨ad, len, cap, zs, e, hb, hlc, hcm, hz, _, hcell, hwf⟩
  · simp [Value.cells] at e
    obtain ⟨rfl, rfl, rfl⟩ := e
    exact ⟨[], rfl, RI.nil w, by simp, fun x hx => by cases hx⟩
  · simp [Value.cells] at e
    obtain ⟨rfl, rfl, rfl⟩ := e
    have hlz : n ≤ zs.length := by rw [hz]; split <;> omega
    have hl : (zs.take n).length = n := by rw [List.length_take]; omega
    refine ⟨zs.take n, hl.symm, ?_, by unfold maxLen at hcm; omega, fun x hx => hwf x (List.mem_of_mem_take hx)⟩
    rcases Nat.eq_zero_or_pos n with h0 | h0
    · subst h0
      exact ⟨_, _, rfl, by simp, (fun h => by cases h), fun h => by simp at h⟩
    · have ha := spot_none' (hcell 0 (by omega))
      rw [show ad.add 0 = ad from rfl] at ha
      rw [ha]
      have := RI.of (w := w) (g := ad.block) (o := ad.off) (c := c) (l := zs.take n) (by omega) (fun k hk => by
        have := hcell k (by omega)
        rw [ha, Addr.add_lit] at this
        rw [this, List.getD_eq_getElem?_getD, List.getD_eq_getElem?_getD, List.getElem?_take, if_pos (by omega)])
      rw [hl] at this
      exact this
end
end Go.Proofs.YtmjkfgpkohfmiaaGreat
