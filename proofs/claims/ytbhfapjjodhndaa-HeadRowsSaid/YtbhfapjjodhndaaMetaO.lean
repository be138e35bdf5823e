/- Opening an argument that is a slice of blocks' records. -/
import Derived.Test.YtbhfapjjodhndaaMeta1
namespace Go.Proofs.Ytbhfapjjodhndaa
set_option linter.unusedVariables false
set_option linter.unusedSimpArgs false
open Go.ChangeShapes Go.WideShapes Go.ChangeAt Go.RowKit
section
variable {H : Type} {enc : TypeId × Value → H} {w : World} {base : Nat} {spare : Nat → Bool} {held : Bool}
theorem open_meta {fuel : Nat} {cs : List Value} {x : DataW H × List MemPlace} (h : DataW.trod enc Try.prog w base spare held fuel 55 cs = some x) : ∃ m : M7, cs = metaC m ∧ True := by
  obtain ⟨xs, n, _, _, hl, hlen, hg⟩ := DataW.trod_struct Try.underlying55 h
  rw [show Try.prog.cellsOf 55 = 7 by kernel_rfl] at hl
  have hlen : xs.length = 7 := hlen
  have h0 := hg 0 _ rfl
  have h1 := hg 1 _ rfl
  have h2 := hg 2 _ rfl
  have h3 := hg 3 _ rfl
  have h4 := hg 4 _ rfl
  have h5 := hg 5 _ rfl
  have h6 := hg 6 _ rfl
  rw [List.getElem?_eq_getElem (by omega)] at h0 h1 h2 h3 h4 h5 h6
  obtain ⟨z0, e0, _, _⟩ := DataW.trod_int Try.underlying3 h0
  obtain ⟨z1, e1, _, _⟩ := DataW.trod_int Try.underlying3 h1
  obtain ⟨z2, e2, _, _⟩ := DataW.trod_int Try.underlying3 h2
  obtain ⟨z3, e3, _, _⟩ := DataW.trod_int Try.underlying3 h3
  obtain ⟨z4, e4, _, _⟩ := DataW.trod_int Try.underlying3 h4
  obtain ⟨z5, e5, _, _⟩ := DataW.trod_int Try.underlying3 h5
  obtain ⟨z6, e6, _, _⟩ := DataW.trod_int Try.underlying3 h6
  have e0 : (cs.drop 0).take (Try.prog.cellsOf 3) = _ := e0
  have e1 : (cs.drop 1).take (Try.prog.cellsOf 3) = _ := e1
  have e2 : (cs.drop 2).take (Try.prog.cellsOf 3) = _ := e2
  have e3 : (cs.drop 3).take (Try.prog.cellsOf 3) = _ := e3
  have e4 : (cs.drop 4).take (Try.prog.cellsOf 3) = _ := e4
  have e5 : (cs.drop 5).take (Try.prog.cellsOf 3) = _ := e5
  have e6 : (cs.drop 6).take (Try.prog.cellsOf 3) = _ := e6
  rw [show Try.prog.cellsOf 3 = 1 by kernel_rfl] at e0 e1 e2 e3 e4 e5 e6
  refine ⟨⟨z0, z1, z2, z3, z4, z5, z6⟩, ?_, trivial⟩
  apply List.ext_getElem?
  intro i
  obtain rfl | rfl | rfl | rfl | rfl | rfl | rfl | hi : i = 0 ∨ i = 1 ∨ i = 2 ∨ i = 3 ∨ i = 4 ∨ i = 5 ∨ i = 6 ∨ 7 ≤ i := by omega
  · rw [take1 e0]; rfl
  · rw [take1 e1]; rfl
  · rw [take1 e2]; rfl
  · rw [take1 e3]; rfl
  · rw [take1 e4]; rfl
  · rw [take1 e5]; rfl
  · rw [take1 e6]; rfl
  · rw [List.getElem?_eq_none (by omega), List.getElem?_eq_none (by rw [metaC_length]; omega)]
/-- an argument that is a slice of blocks' records -/
theorem open_metas {a : Option Addr} {n c : Nat} {d : DataW H} {p : List MemPlace} (h : DataW.Trod enc Try.prog w base spare held 37 (.slice a n c) d p) :
    ∃ l : List M7, n = l.length ∧ RR metaC 7 w (.slice a n c) l ∧ (l.length : Int) ≤ 9223372036854775807 ∧ ∀ x ∈ l, True := by
  obtain ⟨fuel, hf⟩ := h
  obtain ⟨v, l, e, hr, hl, hR⟩ := open_rr (f := metaC) (s := 7) (fun _ => True) Try.underlying37 (by kernel_rfl) (by omega) metaC_length (fun n cs' y hy => open_meta hy) hf
  obtain rfl : Value.slice a n c = v := by simpa [Value.cells] using e
  refine ⟨l, ?_, hr, hl, hR⟩
  obtain ⟨a', c', h1, _⟩ := hr
  injection h1
end
end Go.Proofs.Ytbhfapjjodhndaa
