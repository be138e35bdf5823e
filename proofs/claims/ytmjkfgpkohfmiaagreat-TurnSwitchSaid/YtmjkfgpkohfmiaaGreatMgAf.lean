/- Several texts in one. merged: TmG ToO TnO -/
import Derived.Test.YtmjkfgpkohfmiaaGreatTgU
import Derived.Test.YtmjkfgpkohfmiaaGreatGen
import Derived.Test.YtmjkfgpkohfmiaaGreatMgAb
import Derived.Test.YtmjkfgpkohfmiaaGreatMgAc
namespace Go.Proofs.YtmjkfgpkohfmiaaGreat
set_option linter.unusedVariables false
set_option linter.unusedSimpArgs false
open Go.ChangeShapes Go.WideShapes Go.ChangeAt Go.RowKit

instance : Inhabited ActD := ⟨⟨0, 0, [], [], 0, .slice none 0 0, .slice none 0 0, [], []⟩⟩
def chC3 (a : ActD) : List Value := [.int .i64 a.dir, a.vc, a.vm]
theorem actC_length (a : ActD) : (actC a).length = 7 := rfl
theorem i64_le {x : Int} (h : (Lit.int .i64 x).wf = true) : x ≤ 9223372036854775807 := by
  have hx : -9223372036854775808 ≤ x ∧ x ≤ 9223372036854775807 := by simpa [Lit.wf, IntKind.min, IntKind.max, IntKind.signed, IntKind.bits] using h
  exact hx.2
section

variable {H : Type} {enc : TypeId × Value → H} {w : World} {base : Nat} {spare : Nat → Bool} {held : Bool}

theorem open_iC {fuel : Nat} {cs : List Value} {x : DataW H × List MemPlace} (h : DataW.trod enc Tryz.prog w base spare held fuel 3 cs = some x) : ∃ z : Int, cs = iC z ∧ True := by
  obtain ⟨z, e, _, _⟩ := DataW.trod_int Tryz.underlying3 h
  exact ⟨z, e, trivial⟩
theorem open_sC {fuel : Nat} {cs : List Value} {x : DataW H × List MemPlace} (h : DataW.trod enc Tryz.prog w base spare held fuel 9 cs = some x) : ∃ s : List UInt8, cs = sC s ∧ (s.length : Int) ≤ 9223372036854775807 := by
  obtain ⟨s, e, _, hs⟩ := DataW.trod_string Tryz.underlying9 h
  obtain ⟨l, rfl, hl⟩ := S_ex s
  refine ⟨l, e, ?_⟩
  unfold maxLen at hs
  omega
theorem open_chC {fuel : Nat} {cs : List Value} {x : DataW H × List MemPlace} (h : DataW.trod enc Tryz.prog w base spare held fuel 26 cs = some x) :
    ∃ (dir : Int) (vc vm : Value) (cuts : List Int) (marks : List (List UInt8)), cs = [.int .i64 dir, vc, vm] ∧ RR iC 1 w vc cuts ∧ RR sC 1 w vm marks ∧ (cuts.length : Int) ≤ 9223372036854775807 ∧ (marks.length : Int) ≤ 9223372036854775807 ∧ ∀ s ∈ marks, (s.length : Int) ≤ 9223372036854775807 := by
  obtain ⟨xs, n, _, _, hl, hlen, hg⟩ := DataW.trod_struct Tryz.underlying26 h
  rw [show Tryz.prog.cellsOf 26 = 3 by kernel_rfl] at hl
  have hlen : xs.length = 3 := hlen
  have h0 := hg 0 _ rfl
  have h1 := hg 1 _ rfl
  have h2 := hg 2 _ rfl
  rw [List.getElem?_eq_getElem (by omega)] at h0 h1 h2
  obtain ⟨z0, e0, _, _⟩ := DataW.trod_int Tryz.underlying3 h0
  obtain ⟨vc, cuts, e1, r1, l1, _⟩ := open_rr (f := iC) (s := 1) (fun _ => True) Tryz.underlying23 (by kernel_rfl) (by omega) (fun _ => rfl) (fun n cs' y hy => open_iC hy) h1
  obtain ⟨vm, marks, e2, r2, l2, b2⟩ := open_rr (f := sC) (s := 1) (fun s => (s.length : Int) ≤ 9223372036854775807) Tryz.underlying24 (by kernel_rfl) (by omega) (fun _ => rfl) (fun n cs' y hy => open_sC hy) h2
  have e0 : (cs.drop 0).take (Tryz.prog.cellsOf 3) = _ := e0
  have e1 : (cs.drop 1).take (Tryz.prog.cellsOf 23) = _ := e1
  have e2 : (cs.drop 2).take (Tryz.prog.cellsOf 24) = _ := e2
  rw [show Tryz.prog.cellsOf 3 = 1 by kernel_rfl] at e0
  rw [show Tryz.prog.cellsOf 23 = 1 by kernel_rfl] at e1
  rw [show Tryz.prog.cellsOf 24 = 1 by kernel_rfl] at e2
  refine ⟨z0, vc, vm, cuts, marks, ?_, r1, r2, l1, l2, b2⟩
  apply List.ext_getElem?
  intro i
  obtain rfl | rfl | rfl | hi : i = 0 ∨ i = 1 ∨ i = 2 ∨ 3 ≤ i := by omega
  · rw [take1 e0]; rfl
  · rw [take1 e1]; rfl
  · rw [take1 e2]; rfl
  · rw [List.getElem?_eq_none (by omega), List.getElem?_eq_none (by simpa using hi)]
theorem choice_cells {cs : List Value} {x y z : Value} (h : (cs.drop 4).take 3 = [x, y, z]) : cs[4]? = some x ∧ cs[5]? = some y ∧ cs[6]? = some z := by
  refine ⟨?_, ?_, ?_⟩
  · have := congrArg (fun l : List Value => l[0]?) h
    simpa [List.getElem?_take, List.getElem?_drop] using this
  · have := congrArg (fun l : List Value => l[1]?) h
    simpa [List.getElem?_take, List.getElem?_drop] using this
  · have := congrArg (fun l : List Value => l[2]?) h
    simpa [List.getElem?_take, List.getElem?_drop] using this
theorem open_actC {fuel : Nat} {cs : List Value} {x : DataW H × List MemPlace} (h : DataW.trod enc Tryz.prog w base spare held fuel 29 cs = some x) :
    ∃ a : ActD, cs = actC a ∧ ActW w a := by
  obtain ⟨xs, n, _, _, hl, hlen, hg⟩ := DataW.trod_struct Tryz.underlying29 h
  rw [show Tryz.prog.cellsOf 29 = 7 by kernel_rfl] at hl
  have hlen : xs.length = 5 := hlen
  have h0 := hg 0 _ rfl
  have h1 := hg 1 _ rfl
  have h2 := hg 2 _ rfl
  have h3 := hg 3 _ rfl
  have h4 := hg 4 _ rfl
  rw [List.getElem?_eq_getElem (by omega)] at h0 h1 h2 h3 h4
  obtain ⟨z0, e0, _, _⟩ := DataW.trod_int Tryz.underlying3 h0
  obtain ⟨z1, e1, _, w1⟩ := DataW.trod_int Tryz.underlying3 h1
  obtain ⟨s2, e2, _, w2⟩ := DataW.trod_string Tryz.underlying9 h2
  obtain ⟨s3, e3, _, w3⟩ := DataW.trod_string Tryz.underlying9 h3
  obtain ⟨dir, vc, vm, cuts, marks, e4, r1, r2, l1, l2, b2⟩ := open_chC h4
  obtain ⟨s2, rfl, q2⟩ := S_ex s2
  obtain ⟨s3, rfl, q3⟩ := S_ex s3
  have e0 : (cs.drop 0).take (Tryz.prog.cellsOf 3) = _ := e0
  have e1 : (cs.drop 1).take (Tryz.prog.cellsOf 3) = _ := e1
  have e2 : (cs.drop 2).take (Tryz.prog.cellsOf 9) = _ := e2
  have e3 : (cs.drop 3).take (Tryz.prog.cellsOf 9) = _ := e3
  have e4 : (cs.drop 4).take (Tryz.prog.cellsOf 26) = _ := e4
  rw [show Tryz.prog.cellsOf 3 = 1 by kernel_rfl] at e0 e1
  rw [show Tryz.prog.cellsOf 9 = 1 by kernel_rfl] at e2 e3
  rw [show Tryz.prog.cellsOf 26 = 3 by kernel_rfl] at e4
  obtain ⟨f4, f5, f6⟩ := choice_cells e4
  refine ⟨⟨z0, z1, s2, s3, dir, vc, vm, cuts, marks⟩, ?_, ⟨r1, r2, by rw [q2]; exact w2, by rw [q3]; exact w3, l1, l2, b2, i64_le w1⟩⟩
  apply List.ext_getElem?
  intro i
  obtain rfl | rfl | rfl | rfl | rfl | rfl | rfl | hi : i = 0 ∨ i = 1 ∨ i = 2 ∨ i = 3 ∨ i = 4 ∨ i = 5 ∨ i = 6 ∨ 7 ≤ i := by omega
  · exact take1 e0
  · exact take1 e1
  · exact take1 e2
  · exact take1 e3
  · exact f4
  · exact f5
  · exact f6
  · rw [List.getElem?_eq_none (by omega), List.getElem?_eq_none (by simpa [actC] using hi)]
/-- acts -/
theorem open_acts {a : Option Addr} {n c : Nat} {d : DataW H} {p : List MemPlace} (h : DataW.Trod enc Tryz.prog w base spare held 30 (.slice a n c) d p) :
    ∃ l : List ActD, n = l.length ∧ RR actC 7 w (.slice a n c) l ∧ (l.length : Int) ≤ 9223372036854775807 ∧ ∀ x ∈ l, ActW w x := by
  obtain ⟨fuel, hf⟩ := h
  obtain ⟨v, l, e, hrd, hll, hR⟩ := open_rr (f := actC) (s := 7) (fun a => ActW w a) Tryz.underlying30 (by kernel_rfl) (by omega) actC_length (fun n cs' y hy => open_actC hy) hf
  simp only [Value.cells, List.cons.injEq, and_true] at e
  subst e
  have hrd' := hrd
  obtain ⟨a', c', e, _⟩ := hrd'
  injection e with e1 e2 e3
  exact ⟨l, e2, hrd, hll, hR⟩
/-- a choice by value: as an act with nothing else -/
def chA (a : ActD) : Prop := a.kind = 0 ∧ a.n = 0 ∧ a.s = [] ∧ a.t = []
set_option maxRecDepth 20000 in
theorem open_choice {r : Reach} {b0 : Nat} {v : Value} {d : DataW H} {p : List MemPlace} (hv : Value.okWide Tryz.prog w r b0 26 v) (h : DataW.Trod enc Tryz.prog w base spare held 26 v d p) :
    ∃ a : ActD, v = .agg #[.int .i64 a.dir, a.vc, a.vm] ∧ ActW w a ∧ chA a := by
  obtain ⟨cs, rfl, hsz⟩ := okWide_struct Tryz.underlying26 hv
  obtain ⟨fuel, hf⟩ := h
  obtain ⟨dir, vc, vm, cuts, marks, e4, r1, r2, l1, l2, b2⟩ := open_chC hf
  have he : cs.toList = [.int .i64 dir, vc, vm] := by simpa [Value.cells] using e4
  refine ⟨⟨0, 0, [], [], dir, vc, vm, cuts, marks⟩, ?_, ⟨r1, r2, by simp, by simp, l1, l2, b2, by simp⟩, rfl, rfl, rfl, rfl⟩
  congr 1
  apply Array.ext'
  exact he
set_option maxRecDepth 20000 in
theorem open_act {r : Reach} {b0 : Nat} {v : Value} {d : DataW H} {p : List MemPlace} (hv : Value.okWide Tryz.prog w r b0 29 v) (h : DataW.Trod enc Tryz.prog w base spare held 29 v d p) :
    ∃ a : ActD, v = .agg (actC a).toArray ∧ ActW w a := by
  obtain ⟨cs, rfl, hsz⟩ := okWide_struct Tryz.underlying29 hv
  obtain ⟨fuel, hf⟩ := h
  obtain ⟨a, e, hw⟩ := open_actC hf
  have he : cs.toList = actC a := by simpa [Value.cells] using e
  refine ⟨a, ?_, hw⟩
  congr 1
  apply Array.ext'
  exact he
end

end Go.Proofs.YtmjkfgpkohfmiaaGreat
namespace Go.Proofs.YtmjkfgpkohfmiaaGreat
set_option linter.unusedVariables false
set_option linter.unusedSimpArgs false
open Go.ChangeShapes Go.WideShapes Go.ChangeAt Go.RowKit

section

variable {H : Type} {enc : TypeId × Value → H} {w : World} {base : Nat} {spare : Nat → Bool} {held : Bool}

theorem open_head {fuel : Nat} {cs : List Value} {x : DataW H × List MemPlace} (h : DataW.trod enc Tryz.prog w base spare held fuel 71 cs = some x) : ∃ id gen fst : Int, cs = [.int .i64 id, .int .i64 gen, .int .i64 fst] := by
  obtain ⟨xs, n, _, _, hl, hlen, hg⟩ := DataW.trod_struct Tryz.underlying71 h
  rw [show Tryz.prog.cellsOf 71 = 3 by kernel_rfl] at hl
  have hlen : xs.length = 3 := hlen
  have h0 := hg 0 _ rfl
  have h1 := hg 1 _ rfl
  have h2 := hg 2 _ rfl
  rw [List.getElem?_eq_getElem (by omega)] at h0 h1 h2
  obtain ⟨z0, e0, _, _⟩ := DataW.trod_int Tryz.underlying3 h0
  obtain ⟨z1, e1, _, _⟩ := DataW.trod_int Tryz.underlying3 h1
  obtain ⟨z2, e2, _, _⟩ := DataW.trod_int Tryz.underlying3 h2
  have e0 : (cs.drop 0).take (Tryz.prog.cellsOf 3) = _ := e0
  have e1 : (cs.drop 1).take (Tryz.prog.cellsOf 3) = _ := e1
  have e2 : (cs.drop 2).take (Tryz.prog.cellsOf 3) = _ := e2
  rw [show Tryz.prog.cellsOf 3 = 1 by kernel_rfl] at e0 e1 e2
  refine ⟨z0, z1, z2, ?_⟩
  apply List.ext_getElem?
  intro i
  obtain rfl | rfl | rfl | hi : i = 0 ∨ i = 1 ∨ i = 2 ∨ 3 ≤ i := by omega
  · rw [take1 e0]; rfl
  · rw [take1 e1]; rfl
  · rw [take1 e2]; rfl
  · rw [List.getElem?_eq_none (by omega), List.getElem?_eq_none (by simpa using hi)]
theorem open_ent {fuel : Nat} {cs : List Value} {x : DataW H × List MemPlace} (h : DataW.trod enc Tryz.prog w base spare held fuel 73 cs = some x) : ∃ e : E9, cs = entC e ∧ True := by
  obtain ⟨xs, n, _, _, hl, hlen, hg⟩ := DataW.trod_struct Tryz.underlying73 h
  rw [show Tryz.prog.cellsOf 73 = 9 by kernel_rfl] at hl
  have hlen : xs.length = 7 := hlen
  have h0 := hg 0 _ rfl
  have h1 := hg 1 _ rfl
  have h2 := hg 2 _ rfl
  have h3 := hg 3 _ rfl
  have h4 := hg 4 _ rfl
  have h5 := hg 5 _ rfl
  have h6 := hg 6 _ rfl
  rw [List.getElem?_eq_getElem (by omega)] at h0 h1 h2 h3 h4 h5 h6
  obtain ⟨id, gen, fst, e0⟩ := open_head h0
  obtain ⟨s, e1, _⟩ := DataW.trod_bool Tryz.underlying4 h1
  obtain ⟨z2, e2, _, _⟩ := DataW.trod_int Tryz.underlying3 h2
  obtain ⟨z3, e3, _, _⟩ := DataW.trod_int Tryz.underlying3 h3
  obtain ⟨z4, e4, _, _⟩ := DataW.trod_int Tryz.underlying3 h4
  obtain ⟨z5, e5, _, _⟩ := DataW.trod_int Tryz.underlying3 h5
  obtain ⟨z6, e6, _, _⟩ := DataW.trod_int Tryz.underlying3 h6
  have e0 : (cs.drop 0).take (Tryz.prog.cellsOf 71) = _ := e0
  have e1 : (cs.drop 3).take (Tryz.prog.cellsOf 4) = _ := e1
  have e2 : (cs.drop 4).take (Tryz.prog.cellsOf 3) = _ := e2
  have e3 : (cs.drop 5).take (Tryz.prog.cellsOf 3) = _ := e3
  have e4 : (cs.drop 6).take (Tryz.prog.cellsOf 3) = _ := e4
  have e5 : (cs.drop 7).take (Tryz.prog.cellsOf 3) = _ := e5
  have e6 : (cs.drop 8).take (Tryz.prog.cellsOf 3) = _ := e6
  rw [show Tryz.prog.cellsOf 3 = 1 by kernel_rfl] at e2 e3 e4 e5 e6
  rw [show Tryz.prog.cellsOf 4 = 1 by kernel_rfl] at e1
  rw [show Tryz.prog.cellsOf 71 = 3 by kernel_rfl, List.drop_zero] at e0
  have e00 : cs[0]? = some (.int .i64 id) := by rw [← List.getElem?_take_of_lt (j := 3) (by omega), e0]; rfl
  have e01 : cs[1]? = some (.int .i64 gen) := by rw [← List.getElem?_take_of_lt (j := 3) (by omega), e0]; rfl
  have e02 : cs[2]? = some (.int .i64 fst) := by rw [← List.getElem?_take_of_lt (j := 3) (by omega), e0]; rfl
  refine ⟨⟨id, gen, fst, s, z2, z3, z4, z5, z6⟩, ?_, trivial⟩
  apply List.ext_getElem?
  intro i
  obtain rfl | rfl | rfl | rfl | rfl | rfl | rfl | rfl | rfl | hi : i = 0 ∨ i = 1 ∨ i = 2 ∨ i = 3 ∨ i = 4 ∨ i = 5 ∨ i = 6 ∨ i = 7 ∨ i = 8 ∨ 9 ≤ i := by omega
  · rw [e00]; rfl
  · rw [e01]; rfl
  · rw [e02]; rfl
  · rw [take1 e1]; rfl
  · rw [take1 e2]; rfl
  · rw [take1 e3]; rfl
  · rw [take1 e4]; rfl
  · rw [take1 e5]; rfl
  · rw [take1 e6]; rfl
  · rw [List.getElem?_eq_none (by omega), List.getElem?_eq_none (by rw [entC_length]; omega)]
/-- an argument that is a slice of entries -/
theorem open_entries {a : Option Addr} {n c : Nat} {d : DataW H} {p : List MemPlace} (h : DataW.Trod enc Tryz.prog w base spare held 37 (.slice a n c) d p) :
    ∃ l : List E9, n = l.length ∧ RR entC 9 w (.slice a n c) l ∧ (l.length : Int) ≤ 9223372036854775807 ∧ ∀ x ∈ l, True := by
  obtain ⟨fuel, hf⟩ := h
  obtain ⟨v, l, e, hr, hl, hR⟩ := open_rr (f := entC) (s := 9) (fun _ => True) Tryz.underlying37 (by kernel_rfl) (by omega) entC_length (fun n cs' y hy => open_ent hy) hf
  obtain rfl : Value.slice a n c = v := by simpa [Value.cells] using e
  refine ⟨l, ?_, hr, hl, hR⟩
  obtain ⟨a', c', h1, _⟩ := hr
  injection h1
end

end Go.Proofs.YtmjkfgpkohfmiaaGreat
namespace Go.Proofs.YtmjkfgpkohfmiaaGreat
set_option linter.unusedVariables false
set_option linter.unusedSimpArgs false
open Go.ChangeShapes Go.WideShapes Go.ChangeAt Go.RowKit

/-- a manifest, and its slice -/
structure MD where
  m : Man
  u : Value
instance : Inhabited MD := ⟨⟨⟨0, 0, 0, 0, []⟩, .slice none 0 0⟩⟩
def mdC (x : MD) : List Value := [.int .i64 x.m.gen, .int .i64 x.m.next, .int .i64 x.m.now, .int .i64 x.m.floor, x.u]
theorem mdC_length (x : MD) : (mdC x).length = 5 := rfl
theorem mdC_man (x : MD) : (mdC x).toArray = manC x.m x.u := rfl
def MW (w : World) (x : MD) : Prop := RR entC 9 w x.u x.m.ents ∧ (x.m.ents.length : Int) ≤ 9223372036854775807
theorem MW.ext {w w' : World} {x : MD} (h : MW w x) (e : Ext w w') : MW w' x := ⟨h.1.ext e, h.2⟩
section

variable {H : Type} {enc : TypeId × Value → H} {w : World} {base : Nat} {spare : Nat → Bool} {held : Bool}

/-- texts -/
theorem open_strs {a : Option Addr} {n c : Nat} {d : DataW H} {p : List MemPlace} (h : DataW.Trod enc Tryz.prog w base spare held 24 (.slice a n c) d p) :
    ∃ l : List (List UInt8), n = l.length ∧ RR sC 1 w (.slice a n c) l ∧ (l.length : Int) ≤ 9223372036854775807 ∧ ∀ x ∈ l, (x.length : Int) ≤ 9223372036854775807 := by
  obtain ⟨fuel, hf⟩ := h
  obtain ⟨v, l, e, hrd, hll, hR⟩ := open_rr (f := sC) (s := 1) (fun s => (s.length : Int) ≤ 9223372036854775807) Tryz.underlying24 (by kernel_rfl) (by omega) (fun _ => rfl) (fun n cs' y hy => open_sC hy) hf
  simp only [Value.cells, List.cons.injEq, and_true] at e
  subst e
  have hrd' := hrd
  obtain ⟨a', c', e, _⟩ := hrd'
  injection e with e1 e2 e3
  exact ⟨l, e2, hrd, hll, hR⟩
set_option maxRecDepth 20000 in
theorem open_mdC {fuel : Nat} {cs : List Value} {x : DataW H × List MemPlace} (h : DataW.trod enc Tryz.prog w base spare held fuel 39 cs = some x) : ∃ m : MD, cs = mdC m ∧ MW w m := by
  obtain ⟨xs, n, _, _, hl, hlen, hg⟩ := DataW.trod_struct Tryz.underlying39 h
  rw [show Tryz.prog.cellsOf 39 = 5 by kernel_rfl] at hl
  have hlen : xs.length = 5 := hlen
  have h0 := hg 0 _ rfl
  have h1 := hg 1 _ rfl
  have h2 := hg 2 _ rfl
  have h3 := hg 3 _ rfl
  have h4 := hg 4 _ rfl
  rw [List.getElem?_eq_getElem (by omega)] at h0 h1 h2 h3 h4
  obtain ⟨z0, e0, _, _⟩ := DataW.trod_int Tryz.underlying3 h0
  obtain ⟨z1, e1, _, _⟩ := DataW.trod_int Tryz.underlying3 h1
  obtain ⟨z2, e2, _, _⟩ := DataW.trod_int Tryz.underlying3 h2
  obtain ⟨z3, e3, _, _⟩ := DataW.trod_int Tryz.underlying3 h3
  obtain ⟨u, l, e4, hrd, hll, _⟩ := open_rr (f := entC) (s := 9) (fun _ => True) Tryz.underlying37 (by kernel_rfl) (by omega) entC_length (fun n cs' y hy => open_ent hy) h4
  have e0 : (cs.drop 0).take (Tryz.prog.cellsOf 3) = _ := e0
  have e1 : (cs.drop 1).take (Tryz.prog.cellsOf 3) = _ := e1
  have e2 : (cs.drop 2).take (Tryz.prog.cellsOf 3) = _ := e2
  have e3 : (cs.drop 3).take (Tryz.prog.cellsOf 3) = _ := e3
  have e4 : (cs.drop 4).take (Tryz.prog.cellsOf 37) = _ := e4
  rw [show Tryz.prog.cellsOf 3 = 1 by kernel_rfl] at e0 e1 e2 e3
  rw [show Tryz.prog.cellsOf 37 = 1 by kernel_rfl] at e4
  refine ⟨⟨⟨z0, z1, z2, z3, l⟩, u⟩, ?_, hrd, hll⟩
  apply List.ext_getElem?
  intro i
  obtain rfl | rfl | rfl | rfl | rfl | hi : i = 0 ∨ i = 1 ∨ i = 2 ∨ i = 3 ∨ i = 4 ∨ 5 ≤ i := by omega
  · exact take1 e0
  · exact take1 e1
  · exact take1 e2
  · exact take1 e3
  · exact take1 e4
  · rw [List.getElem?_eq_none (by omega), List.getElem?_eq_none (by simpa [mdC] using hi)]
/-- manifests -/
theorem open_manis {a : Option Addr} {n c : Nat} {d : DataW H} {p : List MemPlace} (h : DataW.Trod enc Tryz.prog w base spare held 22 (.slice a n c) d p) :
    ∃ l : List MD, n = l.length ∧ RR mdC 5 w (.slice a n c) l ∧ (l.length : Int) ≤ 9223372036854775807 ∧ ∀ x ∈ l, MW w x := by
  obtain ⟨fuel, hf⟩ := h
  obtain ⟨v, l, e, hrd, hll, hR⟩ := open_rr (f := mdC) (s := 5) (fun x => MW w x) Tryz.underlying22 (by kernel_rfl) (by omega) mdC_length (fun n cs' y hy => open_mdC hy) hf
  simp only [Value.cells, List.cons.injEq, and_true] at e
  subst e
  have hrd' := hrd
  obtain ⟨a', c', e, _⟩ := hrd'
  injection e with e1 e2 e3
  exact ⟨l, e2, hrd, hll, hR⟩
end
end Go.Proofs.YtmjkfgpkohfmiaaGreat
