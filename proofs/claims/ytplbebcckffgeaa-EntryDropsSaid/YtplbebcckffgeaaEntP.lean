/- Rows of entries: plain laws. -/
import Derived.Test.YtplbebcckffgeaaEntD
namespace Go.Proofs.Ytplbebcckffgeaa
set_option linter.unusedVariables false
set_option linter.unusedSimpArgs false
open Go.RowKit

deriving instance DecidableEq for E9
theorem rowP_all {l : List E9} (h : rowP l = true) : 1 ≤ (l.length : Int) ∧ (l.length : Int) ≤ 100 ∧ (l.getD (l.length - 1) default).sld = false ∧ eTo l l.length = true := by
  unfold rowP at h
  rw [Bool.and_eq_true, Bool.and_eq_true, decide_eq_true_eq] at h
  exact ⟨h.1.1, h.1.2, by simpa using h.2.1, h.2.2⟩
theorem getD_drop9 (l : List E9) (n i : Nat) : (l.drop n).getD i default = l.getD (n + i) default := by
  rw [List.getD_eq_getElem?_getD, List.getElem?_drop, List.getD_eq_getElem?_getD]
theorem row_drop {l : List E9} (h : rowP l = true) (n : Nat) (hn : n + 1 ≤ l.length) : rowP (l.drop n) = true := by
  obtain ⟨h1, h2, h3, h4⟩ := rowP_all h
  unfold rowP
  rw [List.length_drop, Bool.and_eq_true, Bool.and_eq_true, decide_eq_true_eq]
  refine ⟨by omega, ?_, ?_⟩
  · rw [getD_drop9, show n + (l.length - n - 1) = l.length - 1 by omega, h3]; rfl
  · refine List.all_eq_true.2 fun i hi => ?_
    have hi := List.mem_range.1 hi
    have := eTo_all h4 (i := n + i) (by omega)
    rw [getD_drop9, getD_drop9]
    rw [Bool.and_eq_true] at this ⊢
    refine ⟨this.1, ?_⟩
    rcases Nat.eq_zero_or_pos i with h0 | h0
    · rw [h0]; rfl
    · have h5 := this.2
      rw [show (n + i == 0) = false by simp; omega, Bool.false_or] at h5
      rw [show n + (i - 1) = n + i - 1 by omega, h5, Bool.or_true]

/-- an open entry -/
def openE (id gen fst : Int) : E9 := ⟨id, gen, fst, false, 0, 0, 0, 0, 0⟩
/-- a row, or nothing; its error -/
def putL (out : List E9) : List E9 := if rowP out then out else []
def sameHead (a b : E9) : Bool := decide (a.id = b.id) && (decide (a.gen = b.gen) && decide (a.fst = b.fst))
/-- what is sealed -/
def sealOut (l : List E9) (e : E9) (id gen fst : Int) : List E9 := l.take (l.length - 1) ++ [e, openE id gen fst]
def sealOk (l : List E9) (e : E9) : Bool := rowP l && (e.sld && sameHead e (l.getD (l.length - 1) default))
def sealL (l : List E9) (e : E9) (id gen fst : Int) : List E9 := if sealOk l e then putL (sealOut l e id gen fst) else []
def sealE (l : List E9) (e : E9) (id gen fst : Int) : Int := if sealOk l e then errI (rowP (sealOut l e id gen fst)) 240 else 240
theorem row_ent {l : List E9} (h : rowP l = true) {i : Nat} (hi : i < l.length) : entP (l.getD i default) = true := eTo_ent (rowP_all h).2.2.2 hi
theorem seal_head {l : List E9} {e : E9} {id gen fst : Int} (h : rowP (sealOut l e id gen fst) = true) : headP id gen fst = true := by
  have := row_ent h (i := (l.take (l.length - 1)).length + 1) (by unfold sealOut; simp)
  unfold sealOut at this
  rw [List.getD_eq_getElem?_getD, List.getElem?_append_right (by omega), Nat.add_sub_cancel_left] at this
  unfold entP at this
  rw [Bool.and_eq_true] at this
  exact this.1

/-- is an entry to be replaced by another one? -/
def matP (o e : E9) : Bool := (o.sld && e.sld) && (decide (o.id = e.id) && decide (o.gen < e.gen)) && ((decide (o.fst = e.fst) && decide (o.cnt = e.cnt)) && (decide (o.early = e.early) && decide (o.late = e.late)))
/-- at which place -/
def matAt (l : List E9) (e : E9) : Option Nat := l.findIdx? (matP · e)
def replL (l : List E9) (e : E9) : List E9 := if rowP l && entP e then (match matAt l e with | some i => putL (l.set i e) | none => []) else []
def replE (l : List E9) (e : E9) : Int := if rowP l && entP e then (match matAt l e with | some i => errI (rowP (l.set i e)) 240 | none => 240) else 240

theorem eTo_id {l : List E9} (h : eTo l l.length = true) : ∀ (j i : Nat), i < j → j < l.length → (l.getD i default).id < (l.getD j default).id := by
  intro j
  induction j with
  | zero => intro i hi; omega
  | succ j ih =>
    intro i hi hj
    have h1 : (l.getD j default).id < (l.getD (j + 1) default).id := by
      have := eTo_all h hj
      rw [Bool.and_eq_true] at this
      have := this.2
      rw [show (j + 1 == 0) = false from rfl, Bool.false_or, Nat.add_sub_cancel] at this
      unfold efolP behindP at this
      simp only [Bool.and_eq_true, decide_eq_true_eq] at this
      exact this.2.1
    rcases Nat.lt_or_ge i j with h2 | h2
    · have := ih i h2 (by omega); omega
    · obtain rfl : i = j := by omega
      exact h1
/-- all that are to be replaced, are -/
theorem mat_map {l : List E9} (h : rowP l = true) (e : E9) : l.map (fun o => if matP o e then e else o) = (match matAt l e with | some i => l.set i e | none => l) := by
  obtain ⟨_, _, _, h4⟩ := rowP_all h
  unfold matAt
  cases hf : l.findIdx? (matP · e) with
  | none =>
    rw [List.findIdx?_eq_none_iff] at hf
    dsimp only
    refine (List.map_congr_left fun o ho => ?_).trans (List.map_id l)
    have := hf o ho
    rw [if_neg (by simpa using this)]; rfl
  | some i =>
    dsimp only
    obtain ⟨hi, h1, h2⟩ := List.findIdx?_eq_some_iff_getElem.1 hf
    apply List.ext_getElem?
    intro k
    rw [List.getElem?_map]
    rcases Nat.lt_trichotomy k i with hk | rfl | hk
    · rw [List.getElem?_set_ne (by omega), List.getElem?_eq_getElem (by omega), Option.map_some]
      have := h2 k hk
      rw [if_neg (by simpa using this)]
    · rw [List.getElem?_set_self hi, List.getElem?_eq_getElem hi, Option.map_some, if_pos h1]
    · rw [List.getElem?_set_ne (by omega)]
      rcases Nat.lt_or_ge k l.length with hkl | hkl
      · rw [List.getElem?_eq_getElem hkl, Option.map_some, if_neg]
        intro hm
        have hid := eTo_id h4 k i hk hkl
        rw [List.getD_eq_getElem?_getD, List.getD_eq_getElem?_getD, List.getElem?_eq_getElem hi, List.getElem?_eq_getElem hkl] at hid
        unfold matP at h1 hm
        simp only [Bool.and_eq_true, decide_eq_true_eq] at h1 hm
        simp only [Option.getD_some] at hid
        have a1 := h1.1.2.1
        have a2 := hm.1.2.1
        omega
      · rw [List.getElem?_eq_none (by omega)]; rfl
/-- what is set into a row where it may not be, makes none -/
theorem set_bad {l : List E9} {e : E9} {i : Nat} (hi : i < l.length) (he : entP e = false) : rowP (l.set i e) = false := by
  cases h : rowP (l.set i e) with
  | false => rfl
  | true =>
    have := row_ent h (i := i) (by rw [List.length_set]; exact hi)
    rw [List.getD_eq_getElem?_getD, List.getElem?_set_self hi, Option.getD_some, he] at this
    cases this
end Go.Proofs.Ytplbebcckffgeaa
