/- Opening an argument that is an Ask, by value. -/
import Derived.Test.YtlhjbfckcfeikaaGen
import Derived.Test.YtlhjbfckcfeikaaBits
namespace Go.Proofs.Ytlhjbfckcfeikaa
set_option linter.unusedVariables false
set_option linter.unusedSimpArgs false
open Go.ChangeShapes Go.WideShapes Go.ChangeAt Go.RowKit
theorem u8_ex {x : Int} (h : (Lit.int .u8 x).wf = true) : ∃ b : UInt8, x = U8 b := by
  have hx : 0 ≤ x ∧ x ≤ 255 := by simpa [Lit.wf, IntKind.min, IntKind.max, IntKind.signed, IntKind.bits] using h
  refine ⟨UInt8.ofNat x.toNat, ?_⟩
  unfold U8
  rw [UInt8.toNat_ofNat']
  omega
section
variable {H : Type} {enc : TypeId × Value → H} {w : World} {base : Nat} {spare : Nat → Bool} {held : Bool}
theorem open_range {fuel : Nat} {cs : List Value} {x : DataW H × List MemPlace} (h : DataW.trod enc Try.prog w base spare held fuel 23 cs = some x) : ∃ lo hi : Int, cs = [.int .i64 lo, .int .i64 hi] := by
  obtain ⟨xs, n, _, _, hl, hlen, hg⟩ := DataW.trod_struct Try.underlying23 h
  rw [show Try.prog.cellsOf 23 = 2 by kernel_rfl] at hl
  have hlen : xs.length = 2 := hlen
  have h0 := hg 0 _ rfl
  have h1 := hg 1 _ rfl
  rw [List.getElem?_eq_getElem (by omega)] at h0 h1
  obtain ⟨z0, e0, _, _⟩ := DataW.trod_int Try.underlying3 h0
  obtain ⟨z1, e1, _, _⟩ := DataW.trod_int Try.underlying3 h1
  have e0 : (cs.drop 0).take (Try.prog.cellsOf 3) = _ := e0
  have e1 : (cs.drop 1).take (Try.prog.cellsOf 3) = _ := e1
  rw [show Try.prog.cellsOf 3 = 1 by kernel_rfl] at e0 e1
  refine ⟨z0, z1, ?_⟩
  apply List.ext_getElem?
  intro i
  obtain rfl | rfl | hi : i = 0 ∨ i = 1 ∨ 2 ≤ i := by omega
  · rw [take1 e0]; rfl
  · rw [take1 e1]; rfl
  · rw [List.getElem?_eq_none (by omega), List.getElem?_eq_none (by simpa using hi)]
set_option maxRecDepth 20000 in
/-- what is asked -/
theorem open_ask {r : Reach} {b0 : Nat} {v : Value} {d : DataW H} {p : List MemPlace} (hv : Value.okWide Try.prog w r b0 25 v) (h : DataW.Trod enc Try.prog w base spare held 25 v d p) :
    ∃ (s : ByteArray) (hs : s.size ≤ maxLen) (a n lo hi : Int) (b : UInt8), v = .agg #[.string s, .int .i64 a, .int .i64 n, .int .i64 lo, .int .i64 hi, .int .u8 (U8 b)] := by
  obtain ⟨cs, n, rfl, hl, hg⟩ := open_struct Try.underlying25 hv h
  rw [show Try.prog.cellsOf 25 = 6 by kernel_rfl] at hl
  obtain ⟨y0, h0⟩ := hg 0 _ rfl
  obtain ⟨y1, h1⟩ := hg 1 _ rfl
  obtain ⟨y2, h2⟩ := hg 2 _ rfl
  obtain ⟨y3, h3⟩ := hg 3 _ rfl
  obtain ⟨y4, h4⟩ := hg 4 _ rfl
  obtain ⟨s, e0, _, ws⟩ := DataW.trod_string Try.underlying9 h0
  obtain ⟨z1, e1, _, _⟩ := DataW.trod_int Try.underlying3 h1
  obtain ⟨z2, e2, _, _⟩ := DataW.trod_int Try.underlying3 h2
  obtain ⟨lo, hi, e3⟩ := open_range h3
  obtain ⟨z4, e4, _, w4⟩ := DataW.trod_int Try.underlying5 h4
  obtain ⟨b, rfl⟩ := u8_ex w4
  have e0 : (cs.drop 0).take (Try.prog.cellsOf 9) = _ := e0
  have e1 : (cs.drop 1).take (Try.prog.cellsOf 3) = _ := e1
  have e2 : (cs.drop 2).take (Try.prog.cellsOf 3) = _ := e2
  have e3 : (cs.drop 3).take (Try.prog.cellsOf 23) = _ := e3
  have e4 : (cs.drop 5).take (Try.prog.cellsOf 5) = _ := e4
  rw [show Try.prog.cellsOf 3 = 1 by kernel_rfl] at e1 e2
  rw [show Try.prog.cellsOf 9 = 1 by kernel_rfl] at e0
  rw [show Try.prog.cellsOf 5 = 1 by kernel_rfl] at e4
  rw [show Try.prog.cellsOf 23 = 2 by kernel_rfl] at e3
  have e30 : cs[3]? = some (.int .i64 lo) := by
    have := congrArg (fun l : List Value => l[0]?) e3
    simpa [List.getElem?_take, List.getElem?_drop] using this
  have e31 : cs[4]? = some (.int .i64 hi) := by
    have := congrArg (fun l : List Value => l[1]?) e3
    simpa [List.getElem?_take, List.getElem?_drop] using this
  refine ⟨s, ws, z1, z2, lo, hi, b, ?_⟩
  congr 1
  apply Array.ext'
  apply List.ext_getElem?
  intro i
  obtain rfl | rfl | rfl | rfl | rfl | rfl | hi : i = 0 ∨ i = 1 ∨ i = 2 ∨ i = 3 ∨ i = 4 ∨ i = 5 ∨ 6 ≤ i := by omega
  · exact take1 e0
  · exact take1 e1
  · exact take1 e2
  · exact e30
  · exact e31
  · exact take1 e4
  · rw [List.getElem?_eq_none (by simpa [hl] using hi), List.getElem?_eq_none (by simpa using hi)]
end
end Go.Proofs.Ytlhjbfckcfeikaa
