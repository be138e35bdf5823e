/- Opening the arguments of the disk's laws: acts, a choice. -/
import Derived.Test.YtfipfljiohdlhaaGreatMgU
import Derived.Test.YtfipfljiohdlhaaGreatGen
namespace Go.Proofs.YtfipfljiohdlhaaGreat
set_option linter.unusedVariables false
set_option linter.unusedSimpArgs false
open Go.ChangeShapes Go.WideShapes Go.ChangeAt Go.RowKit
instance : Inhabited ActD := ⟨⟨0, 0, [], [], 0, .slice none 0 0, .slice none 0 0, [], []⟩⟩
def chC3 (a : ActD) : List Value := [.int .i64 a.dir, a.vc, a.vm]
theorem actC_length (a : ActD) : (actC a).length = 7 := rfl
theorem i64_le {x : Int} (h : (Lit.int .i64 x).wf = true) : x ≤ 9223372036854775807 := by
  have hx : -9223372036854775808 ≤ x ∧ x ≤ 9223372036854775807 := by simpa [Lit.wf, IntKind.min, IntKind.max, IntKind.signed, IntKind.bits] using h
  exact hx.2
section
variable {H : Type} {enc : TypeId × Value → H} {w : World} {base : Nat} {spare : Nat → Bool} {held : Bool}
theorem open_iC {fuel : Nat} {cs : List Value} {x : DataW H × List MemPlace} (h : DataW.trod enc Tryz.prog w base spare held fuel 3 cs = some x) : ∃ z : Int, cs = iC z ∧ True := by
  obtain ⟨z, e, _, _⟩ := DataW.trod_int Tryz.underlying3 h
  exact ⟨z, e, trivial⟩
theorem open_sC {fuel : Nat} {cs : List Value} {x : DataW H × List MemPlace} (h : DataW.trod enc Tryz.prog w base spare held fuel 9 cs = some x) : ∃ s : List UInt8, cs = sC s ∧ (s.length : Int) ≤ 9223372036854775807 := by
  obtain ⟨s, e, _, hs⟩ := DataW.trod_string Tryz.underlying9 h
  obtain ⟨l, rfl, hl⟩ := S_ex s
  refine ⟨l, e, ?_⟩
  unfold maxLen at hs
  omega
theorem open_chC {fuel : Nat} {cs : List Value} {x : DataW H × List MemPlace} (h : DataW.trod enc Tryz.prog w base spare held fuel 41 cs = some x) :
    ∃ (dir : Int) (vc vm : Value) (cuts : List Int) (marks : List (List UInt8)), cs = [.int .i64 dir, vc, vm] ∧ RR iC 1 w vc cuts ∧ RR sC 1 w vm marks ∧ (cuts.length : Int) ≤ 9223372036854775807 ∧ (marks.length : Int) ≤ 9223372036854775807 ∧ ∀ s ∈ marks, (s.length : Int) ≤ 9223372036854775807 := by
  obtain ⟨xs, n, _, _, hl, hlen, hg⟩ := DataW.trod_struct Tryz.underlying41 h
  rw [show Tryz.prog.cellsOf 41 = 3 by kernel_rfl] at hl
  have hlen : xs.length = 3 := hlen
  have h0 := hg 0 _ rfl
  have h1 := hg 1 _ rfl
  have h2 := hg 2 _ rfl
  rw [List.getElem?_eq_getElem (by omega)] at h0 h1 h2
  obtain ⟨z0, e0, _, _⟩ := DataW.trod_int Tryz.underlying3 h0
  obtain ⟨vc, cuts, e1, r1, l1, _⟩ := open_rr (f := iC) (s := 1) (fun _ => True) Tryz.underlying38 (by kernel_rfl) (by omega) (fun _ => rfl) (fun n cs' y hy => open_iC hy) h1
  obtain ⟨vm, marks, e2, r2, l2, b2⟩ := open_rr (f := sC) (s := 1) (fun s => (s.length : Int) ≤ 9223372036854775807) Tryz.underlying39 (by kernel_rfl) (by omega) (fun _ => rfl) (fun n cs' y hy => open_sC hy) h2
  have e0 : (cs.drop 0).take (Tryz.prog.cellsOf 3) = _ := e0
  have e1 : (cs.drop 1).take (Tryz.prog.cellsOf 38) = _ := e1
  have e2 : (cs.drop 2).take (Tryz.prog.cellsOf 39) = _ := e2
  rw [show Tryz.prog.cellsOf 3 = 1 by kernel_rfl] at e0
  rw [show Tryz.prog.cellsOf 38 = 1 by kernel_rfl] at e1
  rw [show Tryz.prog.cellsOf 39 = 1 by kernel_rfl] at e2
  refine ⟨z0, vc, vm, cuts, marks, ?_, r1, r2, l1, l2, b2⟩
  apply List.ext_getElem?
  intro i
  obtain rfl | rfl | rfl | hi : i = 0 ∨ i = 1 ∨ i = 2 ∨ 3 ≤ i := by omega
  · rw [take1 e0]; rfl
  · rw [take1 e1]; rfl
  · rw [take1 e2]; rfl
  · rw [List.getElem?_eq_none (by omega), List.getElem?_eq_none (by simpa using hi)]
theorem choice_cells {cs : List Value} {x y z : Value} (h : (cs.drop 4).take 3 = [x, y, z]) : cs[4]? = some x ∧ cs[5]? = some y ∧ cs[6]? = some z := by
  refine ⟨?_, ?_, ?_⟩
  · have := congrArg (fun l : List Value => l[0]?) h
    simpa [List.getElem?_take, List.getElem?_drop] using this
  · have := congrArg (fun l : List Value => l[1]?) h
    simpa [List.getElem?_take, List.getElem?_drop] using this
  · have := congrArg (fun l : List Value => l[2]?) h
    simpa [List.getElem?_take, List.getElem?_drop] using this
theorem open_actC {fuel : Nat} {cs : List Value} {x : DataW H × List MemPlace} (h : DataW.trod enc Tryz.prog w base spare held fuel 43 cs = some x) :
    ∃ a : ActD, cs = actC a ∧ ActW w a := by
  obtain ⟨xs, n, _, _, hl, hlen, hg⟩ := DataW.trod_struct Tryz.underlying43 h
  rw [show Tryz.prog.cellsOf 43 = 7 by kernel_rfl] at hl
  have hlen : xs.length = 5 := hlen
  have h0 := hg 0 _ rfl
  have h1 := hg 1 _ rfl
  have h2 := hg 2 _ rfl
  have h3 := hg 3 _ rfl
  have h4 := hg 4 _ rfl
  rw [List.getElem?_eq_getElem (by omega)] at h0 h1 h2 h3 h4
  obtain ⟨z0, e0, _, _⟩ := DataW.trod_int Tryz.underlying3 h0
  obtain ⟨z1, e1, _, w1⟩ := DataW.trod_int Tryz.underlying3 h1
  obtain ⟨s2, e2, _, w2⟩ := DataW.trod_string Tryz.underlying9 h2
  obtain ⟨s3, e3, _, w3⟩ := DataW.trod_string Tryz.underlying9 h3
  obtain ⟨dir, vc, vm, cuts, marks, e4, r1, r2, l1, l2, b2⟩ := open_chC h4
  obtain ⟨s2, rfl, q2⟩ := S_ex s2
  obtain ⟨s3, rfl, q3⟩ := S_ex s3
  have e0 : (cs.drop 0).take (Tryz.prog.cellsOf 3) = _ := e0
  have e1 : (cs.drop 1).take (Tryz.prog.cellsOf 3) = _ := e1
  have e2 : (cs.drop 2).take (Tryz.prog.cellsOf 9) = _ := e2
  have e3 : (cs.drop 3).take (Tryz.prog.cellsOf 9) = _ := e3
  have e4 : (cs.drop 4).take (Tryz.prog.cellsOf 41) = _ := e4
  rw [show Tryz.prog.cellsOf 3 = 1 by kernel_rfl] at e0 e1
  rw [show Tryz.prog.cellsOf 9 = 1 by kernel_rfl] at e2 e3
  rw [show Tryz.prog.cellsOf 41 = 3 by kernel_rfl] at e4
  obtain ⟨f4, f5, f6⟩ := choice_cells e4
  refine ⟨⟨z0, z1, s2, s3, dir, vc, vm, cuts, marks⟩, ?_, ⟨r1, r2, by rw [q2]; exact w2, by rw [q3]; exact w3, l1, l2, b2, i64_le w1⟩⟩
  apply List.ext_getElem?
  intro i
  obtain rfl | rfl | rfl | rfl | rfl | rfl | rfl | hi : i = 0 ∨ i = 1 ∨ i = 2 ∨ i = 3 ∨ i = 4 ∨ i = 5 ∨ i = 6 ∨ 7 ≤ i := by omega
  · exact take1 e0
  · exact take1 e1
  · exact take1 e2
  · exact take1 e3
  · exact f4
  · exact f5
  · exact f6
  · rw [List.getElem?_eq_none (by omega), List.getElem?_eq_none (by simpa [actC] using hi)]
/-- acts -/
theorem open_acts {a : Option Addr} {n c : Nat} {d : DataW H} {p : List MemPlace} (h : DataW.Trod enc Tryz.prog w base spare held 22 (.slice a n c) d p) :
    ∃ l : List ActD, n = l.length ∧ RR actC 7 w (.slice a n c) l ∧ (l.length : Int) ≤ 9223372036854775807 ∧ ∀ x ∈ l, ActW w x := by
  obtain ⟨fuel, hf⟩ := h
  obtain ⟨v, l, e, hrd, hll, hR⟩ := open_rr (f := actC) (s := 7) (fun a => ActW w a) Tryz.underlying22 (by kernel_rfl) (by omega) actC_length (fun n cs' y hy => open_actC hy) hf
  simp only [Value.cells, List.cons.injEq, and_true] at e
  subst e
  have hrd' := hrd
  obtain ⟨a', c', e, _⟩ := hrd'
  injection e with e1 e2 e3
  exact ⟨l, e2, hrd, hll, hR⟩
/-- a choice by value: as an act with nothing else -/
def chA (a : ActD) : Prop := a.kind = 0 ∧ a.n = 0 ∧ a.s = [] ∧ a.t = []
set_option maxRecDepth 20000 in
theorem open_choice {r : Reach} {b0 : Nat} {v : Value} {d : DataW H} {p : List MemPlace} (hv : Value.okWide Tryz.prog w r b0 41 v) (h : DataW.Trod enc Tryz.prog w base spare held 41 v d p) :
    ∃ a : ActD, v = .agg #[.int .i64 a.dir, a.vc, a.vm] ∧ ActW w a ∧ chA a := by
  obtain ⟨cs, rfl, hsz⟩ := okWide_struct Tryz.underlying41 hv
  obtain ⟨fuel, hf⟩ := h
  obtain ⟨dir, vc, vm, cuts, marks, e4, r1, r2, l1, l2, b2⟩ := open_chC hf
  have he : cs.toList = [.int .i64 dir, vc, vm] := by simpa [Value.cells] using e4
  refine ⟨⟨0, 0, [], [], dir, vc, vm, cuts, marks⟩, ?_, ⟨r1, r2, by simp, by simp, l1, l2, b2, by simp⟩, rfl, rfl, rfl, rfl⟩
  congr 1
  apply Array.ext'
  exact he
set_option maxRecDepth 20000 in
theorem open_act {r : Reach} {b0 : Nat} {v : Value} {d : DataW H} {p : List MemPlace} (hv : Value.okWide Tryz.prog w r b0 43 v) (h : DataW.Trod enc Tryz.prog w base spare held 43 v d p) :
    ∃ a : ActD, v = .agg (actC a).toArray ∧ ActW w a := by
  obtain ⟨cs, rfl, hsz⟩ := okWide_struct Tryz.underlying43 hv
  obtain ⟨fuel, hf⟩ := h
  obtain ⟨a, e, hw⟩ := open_actC hf
  have he : cs.toList = actC a := by simpa [Value.cells] using e
  refine ⟨a, ?_, hw⟩
  congr 1
  apply Array.ext'
  exact he
end
end Go.Proofs.YtfipfljiohdlhaaGreat
