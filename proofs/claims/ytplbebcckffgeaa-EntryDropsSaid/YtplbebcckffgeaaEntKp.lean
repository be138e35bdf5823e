/- entry: Replace, plain laws. (Printed by wip/tools/entry6.py.) -/
import Derived.Test.YtplbebcckffgeaaEntI
import Derived.Test.YtplbebcckffgeaaEntG
namespace Go.Proofs.Ytplbebcckffgeaa
set_option linter.unusedVariables false
set_option linter.unusedSimpArgs false
open Go.RowKit

def seqEq (a b : E9) : Bool := decide (seqLo a = seqLo b) && decide (seqHi a = seqHi b)
def tickEq (a b : E9) : Bool := decide (tickLo a = tickLo b) && decide (tickHi a = tickHi b)
/-- is an entry replaced by another one, that may be? -/
def repP (o e : E9) : Bool := matP o e && entP e
theorem rep_tail {o e : E9} (ho : goodP o = true) (he : goodP e = true) : (seqEq o e && tickEq o e) = ((decide (o.fst = e.fst) && decide (o.cnt = e.cnt)) && (decide (o.early = e.early) && decide (o.late = e.late))) := by
  unfold seqEq tickEq seqLo seqHi tickLo tickHi
  rw [ho, he]
  simp only [if_true]
  rw [Bool.eq_iff_iff]
  simp only [Bool.and_eq_true, decide_eq_true_eq]
  constructor
  · rintro ⟨⟨h1, h2⟩, h3⟩
    exact ⟨⟨h1, by omega⟩, h3⟩
  · rintro ⟨⟨h1, h2⟩, h3⟩
    exact ⟨⟨h1, by omega⟩, h3⟩
theorem seq_bad {o e : E9} (ho : goodP o = true) (he : goodP e = false) : seqEq o e = false := by
  have := good_sum ho
  unfold seqEq seqLo seqHi
  rw [ho, he]
  simp only [if_true, Bool.false_eq_true, if_false]
  rw [Bool.and_eq_false_iff, decide_eq_false_iff_not, decide_eq_false_iff_not]
  omega
theorem rep_cases (o e : E9) (ho : entP o = true) :
    (repP o e = false ∧ o.sld = false)
    ∨ (repP o e = false ∧ o.sld = true ∧ e.sld = false)
    ∨ (repP o e = false ∧ o.sld = true ∧ e.sld = true ∧ ¬ o.id = e.id)
    ∨ (repP o e = false ∧ o.sld = true ∧ e.sld = true ∧ o.id = e.id ∧ ¬ o.gen < e.gen)
    ∨ (repP o e = false ∧ o.sld = true ∧ e.sld = true ∧ o.id = e.id ∧ o.gen < e.gen ∧ seqEq o e = false)
    ∨ (repP o e = false ∧ o.sld = true ∧ e.sld = true ∧ o.id = e.id ∧ o.gen < e.gen ∧ seqEq o e = true ∧ tickEq o e = false)
    ∨ (repP o e = true ∧ o.sld = true ∧ e.sld = true ∧ o.id = e.id ∧ o.gen < e.gen ∧ seqEq o e = true ∧ tickEq o e = true ∧ entP e = true) := by
  cases h1 : o.sld with
  | false => exact .inl ⟨by unfold repP matP; rw [h1]; rfl, rfl⟩
  | true =>
    have hg : goodP o = true := by unfold goodP; rw [h1, ho]; rfl
    cases h2 : e.sld with
    | false => exact .inr (.inl ⟨by unfold repP matP; rw [h1, h2]; rfl, rfl, rfl⟩)
    | true =>
      by_cases h3 : o.id = e.id
      · by_cases h4 : o.gen < e.gen
        · have hm : repP o e = (((decide (o.fst = e.fst) && decide (o.cnt = e.cnt)) && (decide (o.early = e.early) && decide (o.late = e.late))) && entP e) := by
            unfold repP matP
            rw [h1, h2, decide_eq_true h3, decide_eq_true h4]
            rfl
          cases he : entP e with
          | false =>
            have h5 := seq_bad hg (e := e) (by unfold goodP; rw [h2, he]; rfl)
            exact .inr (.inr (.inr (.inr (.inl ⟨by rw [hm, he, Bool.and_false], rfl, rfl, h3, h4, h5⟩))))
          | true =>
            have hge : goodP e = true := by unfold goodP; rw [h2, he]; rfl
            rw [he, Bool.and_true, ← rep_tail hg hge] at hm
            cases h5 : seqEq o e with
            | false => exact .inr (.inr (.inr (.inr (.inl ⟨by rw [hm, h5]; rfl, rfl, rfl, h3, h4, rfl⟩))))
            | true =>
              cases h6 : tickEq o e with
              | false => exact .inr (.inr (.inr (.inr (.inr (.inl ⟨by rw [hm, h5, h6]; rfl, rfl, rfl, h3, h4, rfl, rfl⟩)))))
              | true => exact .inr (.inr (.inr (.inr (.inr (.inr ⟨by rw [hm, h5, h6]; rfl, rfl, rfl, h3, h4, rfl, rfl, rfl⟩)))))
        · exact .inr (.inr (.inr (.inl ⟨by unfold repP matP; rw [h1, h2, decide_eq_false h4, Bool.and_false, Bool.and_false]; rfl, rfl, rfl, h3, h4⟩)))
      · exact .inr (.inr (.inl ⟨by unfold repP matP; rw [h1, h2, decide_eq_false h3]; rfl, rfl, rfl, h3⟩))
/-- none of the first k is replaced -/
def noneTo (l : List E9) (e : E9) (k : Nat) : Prop := ∀ i, i < k → repP (l.getD i default) e = false
theorem noneTo_zero (l : List E9) (e : E9) : noneTo l e 0 := fun i hi => by omega
theorem noneTo_succ {l : List E9} {e : E9} {k : Nat} (h : noneTo l e k) (hk : repP (l.getD k default) e = false) : noneTo l e (k + 1) := fun i hi => by
  rcases Nat.lt_or_ge i k with h1 | h1
  · exact h i h1
  · obtain rfl : i = k := by omega
    exact hk
theorem getD_get {l : List E9} {k : Nat} (hk : k < l.length) : l.getD k default = l[k] := by
  rw [List.getD_eq_getElem?_getD, List.getElem?_eq_getElem hk]; rfl
theorem repl_bad {l : List E9} {e : E9} (h : rowP l = false) : replE l e = 240 ∧ replL l e = [] := by
  unfold replE replL; rw [h]; exact ⟨rfl, rfl⟩
theorem repl_none {l : List E9} {e : E9} (hn : noneTo l e l.length) : replE l e = 240 ∧ replL l e = [] := by
  unfold replE replL
  cases he : rowP l && entP e with
  | false => exact ⟨rfl, rfl⟩
  | true =>
    rw [Bool.and_eq_true] at he
    have : matAt l e = none := by
      unfold matAt
      rw [List.findIdx?_eq_none_iff]
      intro x hx
      obtain ⟨i, hi, rfl⟩ := List.mem_iff_getElem.1 hx
      have := hn i hi
      unfold repP at this
      rw [he.2, Bool.and_true, getD_get hi] at this
      exact this
    rw [this]
    exact ⟨rfl, rfl⟩
theorem repl_at {l : List E9} {e : E9} {k : Nat} (h : rowP l = true) (hk : k < l.length) (hn : noneTo l e k) (hR : repP (l.getD k default) e = true) : replE l e = errI (rowP (l.set k e)) 240 ∧ replL l e = putL (l.set k e) := by
  unfold repP at hR
  rw [Bool.and_eq_true] at hR
  have : matAt l e = some k := by
    unfold matAt
    rw [List.findIdx?_eq_some_iff_getElem]
    refine ⟨hk, by rw [← getD_get hk]; exact hR.1, fun j hj => ?_⟩
    have := hn j hj
    unfold repP at this
    rw [hR.2, Bool.and_true, getD_get (by omega)] at this
    rw [this]; exact Bool.false_ne_true
  unfold replE replL
  rw [h, hR.2, this]
  exact ⟨rfl, rfl⟩
theorem splice_one {l : List E9} {e : E9} {k : Nat} (hk : k < l.length) : spliceL l k (k + 1) [e] = l.set k e := by
  unfold spliceL
  rw [List.set_eq_take_append_cons_drop, if_pos hk, List.append_assoc, List.singleton_append]
theorem run_bs1x (x : E9) (w : World) : (Instr.buildSlice 22 1 #[(0, .agg (entC x).toArray)]).run Try.prog w = .ok (.slice (some ⟨w.heap.size, 0, none⟩) 1 1) (w.alloc (.cells (entC x).toArray 26)) := by
  obtain ⟨id, gen, fst, sld, cnt, blk, early, late, bytes⟩ := x
  exact run_bs1e id gen fst sld cnt blk early late bytes w

end Go.Proofs.Ytplbebcckffgeaa
