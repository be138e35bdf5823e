/- Opening a struct of ints, by value. -/
import Derived.Test.YtplbebcckffgeaaGen
namespace Go.Proofs.Ytplbebcckffgeaa
set_option linter.unusedVariables false
set_option linter.unusedSimpArgs false
open Go.ChangeShapes Go.WideShapes Go.ChangeAt Go.RowKit
section
variable {P : Program} {H : Type} {enc : TypeId × Value → H} {w : World} {base : Nat} {spare : Nat → Bool} {held : Bool}
theorem open_int_struct {r : Reach} {b0 : Nat} {t ti : TypeId} {fs : Array Field} {v : Value} {d : DataW H} {p : List MemPlace} (n : Nat) (hs : P.underlying t = some (.struct fs)) (hn : fs.size = n) (hC : P.cellsOf t = n)
    (hf : ((List.range n).all fun i => match fs[i]? with | some f => decide (f.type = ti) && decide (f.offset = i) | none => false) = true) (hti : P.underlying ti = some (.int .i64)) (hci : P.cellsOf ti = 1)
    (hv : Value.okWide P w r b0 t v) (h : DataW.Trod enc P w base spare held t v d p) :
    ∃ zs : List Int, zs.length = n ∧ v = .agg (zs.map (Value.int .i64)).toArray := by
  obtain ⟨cs, m, rfl, hl, hg⟩ := open_struct hs hv h
  have hx : ∀ i, i < n → ∃ z : Int, cs[i]? = some (.int .i64 z) := fun i hi => by
    have := List.all_eq_true.1 hf i (List.mem_range.2 hi)
    split at this
    · rename_i f hfi
      simp only [Bool.and_eq_true, decide_eq_true_eq] at this
      obtain ⟨y, hy⟩ := hg i f hfi
      rw [this.1, this.2, hci] at hy
      obtain ⟨z, e, _, _⟩ := DataW.trod_int hti hy
      exact ⟨z, take1 e⟩
    · cases this
  obtain ⟨q, hq⟩ := Deep.choose_lt (n := n) hx
  refine ⟨(List.range n).map q, by simp, ?_⟩
  congr 1
  congr 1
  apply List.ext_getElem?
  intro i
  rw [List.map_map, List.getElem?_map]
  rcases Nat.lt_or_ge i n with hi | hi
  · rw [hq i hi, List.getElem?_range hi]; rfl
  · rw [List.getElem?_eq_none (by omega), List.getElem?_eq_none (by simpa using hi)]; rfl
end
end Go.Proofs.Ytplbebcckffgeaa
