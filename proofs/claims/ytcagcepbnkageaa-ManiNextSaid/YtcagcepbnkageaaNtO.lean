/- Opening an argument that is a slice of entries. -/
import Derived.Test.YtcagcepbnkageaaNtB
namespace Go.Proofs.Ytcagcepbnkageaa
set_option linter.unusedVariables false
set_option linter.unusedSimpArgs false
open Go.ChangeShapes Go.WideShapes Go.ChangeAt Go.RowKit

section

variable {H : Type} {enc : TypeId × Value → H} {w : World} {base : Nat} {spare : Nat → Bool} {held : Bool}

theorem open_head {fuel : Nat} {cs : List Value} {x : DataW H × List MemPlace} (h : DataW.trod enc Try.prog w base spare held fuel 26 cs = some x) : ∃ id gen fst : Int, cs = [.int .i64 id, .int .i64 gen, .int .i64 fst] := by
  obtain ⟨xs, n, _, _, hl, hlen, hg⟩ := DataW.trod_struct Try.underlying26 h
  rw [show Try.prog.cellsOf 26 = 3 by kernel_rfl] at hl
  have hlen : xs.length = 3 := hlen
  have h0 := hg 0 _ rfl
  have h1 := hg 1 _ rfl
  have h2 := hg 2 _ rfl
  rw [List.getElem?_eq_getElem (by omega)] at h0 h1 h2
  obtain ⟨z0, e0, _, _⟩ := DataW.trod_int Try.underlying3 h0
  obtain ⟨z1, e1, _, _⟩ := DataW.trod_int Try.underlying3 h1
  obtain ⟨z2, e2, _, _⟩ := DataW.trod_int Try.underlying3 h2
  have e0 : (cs.drop 0).take (Try.prog.cellsOf 3) = _ := e0
  have e1 : (cs.drop 1).take (Try.prog.cellsOf 3) = _ := e1
  have e2 : (cs.drop 2).take (Try.prog.cellsOf 3) = _ := e2
  rw [show Try.prog.cellsOf 3 = 1 by kernel_rfl] at e0 e1 e2
  refine ⟨z0, z1, z2, ?_⟩
  apply List.ext_getElem?
  intro i
  obtain rfl | rfl | rfl | hi : i = 0 ∨ i = 1 ∨ i = 2 ∨ 3 ≤ i := by omega
  · rw [take1 e0]; rfl
  · rw [take1 e1]; rfl
  · rw [take1 e2]; rfl
  · rw [List.getElem?_eq_none (by omega), List.getElem?_eq_none (by simpa using hi)]
theorem open_ent {fuel : Nat} {cs : List Value} {x : DataW H × List MemPlace} (h : DataW.trod enc Try.prog w base spare held fuel 49 cs = some x) : ∃ e : E9, cs = entC e ∧ True := by
  obtain ⟨xs, n, _, _, hl, hlen, hg⟩ := DataW.trod_struct Try.underlying49 h
  rw [show Try.prog.cellsOf 49 = 9 by kernel_rfl] at hl
  have hlen : xs.length = 7 := hlen
  have h0 := hg 0 _ rfl
  have h1 := hg 1 _ rfl
  have h2 := hg 2 _ rfl
  have h3 := hg 3 _ rfl
  have h4 := hg 4 _ rfl
  have h5 := hg 5 _ rfl
  have h6 := hg 6 _ rfl
  rw [List.getElem?_eq_getElem (by omega)] at h0 h1 h2 h3 h4 h5 h6
  obtain ⟨id, gen, fst, e0⟩ := open_head h0
  obtain ⟨s, e1, _⟩ := DataW.trod_bool Try.underlying4 h1
  obtain ⟨z2, e2, _, _⟩ := DataW.trod_int Try.underlying3 h2
  obtain ⟨z3, e3, _, _⟩ := DataW.trod_int Try.underlying3 h3
  obtain ⟨z4, e4, _, _⟩ := DataW.trod_int Try.underlying3 h4
  obtain ⟨z5, e5, _, _⟩ := DataW.trod_int Try.underlying3 h5
  obtain ⟨z6, e6, _, _⟩ := DataW.trod_int Try.underlying3 h6
  have e0 : (cs.drop 0).take (Try.prog.cellsOf 26) = _ := e0
  have e1 : (cs.drop 3).take (Try.prog.cellsOf 4) = _ := e1
  have e2 : (cs.drop 4).take (Try.prog.cellsOf 3) = _ := e2
  have e3 : (cs.drop 5).take (Try.prog.cellsOf 3) = _ := e3
  have e4 : (cs.drop 6).take (Try.prog.cellsOf 3) = _ := e4
  have e5 : (cs.drop 7).take (Try.prog.cellsOf 3) = _ := e5
  have e6 : (cs.drop 8).take (Try.prog.cellsOf 3) = _ := e6
  rw [show Try.prog.cellsOf 3 = 1 by kernel_rfl] at e2 e3 e4 e5 e6
  rw [show Try.prog.cellsOf 4 = 1 by kernel_rfl] at e1
  rw [show Try.prog.cellsOf 26 = 3 by kernel_rfl, List.drop_zero] at e0
  have e00 : cs[0]? = some (.int .i64 id) := by rw [← List.getElem?_take_of_lt (j := 3) (by omega), e0]; rfl
  have e01 : cs[1]? = some (.int .i64 gen) := by rw [← List.getElem?_take_of_lt (j := 3) (by omega), e0]; rfl
  have e02 : cs[2]? = some (.int .i64 fst) := by rw [← List.getElem?_take_of_lt (j := 3) (by omega), e0]; rfl
  refine ⟨⟨id, gen, fst, s, z2, z3, z4, z5, z6⟩, ?_, trivial⟩
  apply List.ext_getElem?
  intro i
  obtain rfl | rfl | rfl | rfl | rfl | rfl | rfl | rfl | rfl | hi : i = 0 ∨ i = 1 ∨ i = 2 ∨ i = 3 ∨ i = 4 ∨ i = 5 ∨ i = 6 ∨ i = 7 ∨ i = 8 ∨ 9 ≤ i := by omega
  · rw [e00]; rfl
  · rw [e01]; rfl
  · rw [e02]; rfl
  · rw [take1 e1]; rfl
  · rw [take1 e2]; rfl
  · rw [take1 e3]; rfl
  · rw [take1 e4]; rfl
  · rw [take1 e5]; rfl
  · rw [take1 e6]; rfl
  · rw [List.getElem?_eq_none (by omega), List.getElem?_eq_none (by rw [entC_length]; omega)]
/-- an argument that is a slice of entries -/
theorem open_entries {a : Option Addr} {n c : Nat} {d : DataW H} {p : List MemPlace} (h : DataW.Trod enc Try.prog w base spare held 22 (.slice a n c) d p) :
    ∃ l : List E9, n = l.length ∧ RR entC 9 w (.slice a n c) l ∧ (l.length : Int) ≤ 9223372036854775807 ∧ ∀ x ∈ l, True := by
  obtain ⟨fuel, hf⟩ := h
  obtain ⟨v, l, e, hr, hl, hR⟩ := open_rr (f := entC) (s := 9) (fun _ => True) Try.underlying22 (by kernel_rfl) (by omega) entC_length (fun n cs' y hy => open_ent hy) hf
  obtain rfl : Value.slice a n c = v := by simpa [Value.cells] using e
  refine ⟨l, ?_, hr, hl, hR⟩
  obtain ⟨a', c', h1, _⟩ := hr
  injection h1
end

end Go.Proofs.Ytcagcepbnkageaa
