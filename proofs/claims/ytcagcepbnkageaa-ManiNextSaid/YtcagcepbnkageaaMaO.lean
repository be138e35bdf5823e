/- Opening arguments: a manifest, a header by value. -/
import Derived.Test.YtcagcepbnkageaaNtO
import Derived.Test.YtcagcepbnkageaaMgN
namespace Go.Proofs.Ytcagcepbnkageaa
set_option linter.unusedVariables false
set_option linter.unusedSimpArgs false
open Go.ChangeShapes Go.WideShapes Go.ChangeAt Go.RowKit
section
variable {H : Type} {enc : TypeId × Value → H} {w : World} {base : Nat} {spare : Nat → Bool} {held : Bool}
theorem open_headv {r : Reach} {b0 : Nat} {v : Value} {d : DataW H} {p : List MemPlace} (hv : Value.okWide Try.prog w r b0 26 v) (h : DataW.Trod enc Try.prog w base spare held 26 v d p) :
    ∃ x y z : Int, v = .agg #[.int .i64 x, .int .i64 y, .int .i64 z] := by
  obtain ⟨cs, rfl, hsz⟩ := okWide_struct Try.underlying26 hv
  obtain ⟨fuel, hf⟩ := h
  obtain ⟨x, y, z, he⟩ := open_head hf
  have he : cs.toList = [.int .i64 x, .int .i64 y, .int .i64 z] := by simpa [Value.cells] using he
  refine ⟨x, y, z, ?_⟩
  congr 1
  apply Array.ext'
  exact he
/-- a manifest by value -/
theorem open_mani {r : Reach} {b0 : Nat} {v : Value} {d : DataW H} {p : List MemPlace} (hv : Value.okWide Try.prog w r b0 24 v) (h : DataW.Trod enc Try.prog w base spare held 24 v d p) :
    ∃ (m : Man) (u : Value), v = .agg (manC m u) ∧ RR entC 9 w u m.ents := by
  obtain ⟨cs, n, rfl, hl, hg⟩ := open_struct Try.underlying24 hv h
  rw [show Try.prog.cellsOf 24 = 5 by kernel_rfl] at hl
  obtain ⟨y0, h0⟩ := hg 0 _ rfl
  obtain ⟨y1, h1⟩ := hg 1 _ rfl
  obtain ⟨y2, h2⟩ := hg 2 _ rfl
  obtain ⟨y3, h3⟩ := hg 3 _ rfl
  obtain ⟨y4, h4⟩ := hg 4 _ rfl
  obtain ⟨z0, e0, _, w0⟩ := DataW.trod_int Try.underlying3 h0
  obtain ⟨z1, e1, _, w1⟩ := DataW.trod_int Try.underlying3 h1
  obtain ⟨z2, e2, _, w2⟩ := DataW.trod_int Try.underlying3 h2
  obtain ⟨z3, e3, _, w3⟩ := DataW.trod_int Try.underlying3 h3
  obtain ⟨u, l, e4, hrd, hll, hR⟩ := open_rr (f := entC) (s := 9) (fun _ => True) Try.underlying22 (by kernel_rfl) (by omega) entC_length (fun n cs' y hy => open_ent hy) h4
  have e0 : (cs.drop 0).take (Try.prog.cellsOf 3) = _ := e0
  have e1 : (cs.drop 1).take (Try.prog.cellsOf 3) = _ := e1
  have e2 : (cs.drop 2).take (Try.prog.cellsOf 3) = _ := e2
  have e3 : (cs.drop 3).take (Try.prog.cellsOf 3) = _ := e3
  have e4 : (cs.drop 4).take (Try.prog.cellsOf 22) = _ := e4
  rw [show Try.prog.cellsOf 3 = 1 by kernel_rfl] at e0 e1 e2 e3
  rw [show Try.prog.cellsOf 22 = 1 by kernel_rfl] at e4
  refine ⟨⟨z0, z1, z2, z3, l⟩, u, ?_, hrd⟩
  unfold manC
  congr 1
  apply Array.ext'
  apply List.ext_getElem?
  intro i
  obtain rfl | rfl | rfl | rfl | rfl | hi : i = 0 ∨ i = 1 ∨ i = 2 ∨ i = 3 ∨ i = 4 ∨ 5 ≤ i := by omega
  · exact take1 e0
  · exact take1 e1
  · exact take1 e2
  · exact take1 e3
  · exact take1 e4
  · rw [List.getElem?_eq_none (by simpa [hl] using hi), List.getElem?_eq_none (by simpa using hi)]
end
end Go.Proofs.Ytcagcepbnkageaa
