/- Arrays of plain values, compared. -/
import Derived.Test.YteflhfofahdckaaMem
import Derived.ChangeKeysEq
namespace Go.Proofs.Yteflhfofahdckaa
set_option linter.unusedVariables false
set_option linter.unusedSimpArgs false
open Go.RowKit
section
variable {P : Program} {α : Type} [BEq α] {f : α → Value} {e : TypeId}
theorem eqItems_run (he : P.plainKey e = true) (d : Nat) (hE : ∀ a b w, (Op.equalIn d e (f a) (f b)).run P w = .ok (a == b) w) (l1 l2 : List α) (w : World) :
    ∀ (is : List Nat), (∀ i ∈ is, i < l1.length ∧ i < l2.length) → (Op.eqItems d e 1 (l1.map f).toArray (l2.map f).toArray is).run P w = .ok (is.all fun i => l1[i]? == l2[i]?) w
  | [], _ => by simp [Op.eqItems]
  | i :: is, h => by
    obtain ⟨h1, h2⟩ := h i (by simp)
    have p1 := run_part_plain w he (xs := (l1.map f).toArray) (off := i * 1) (v := f l1[i]) (by simp [h1])
    have p2 := run_part_plain w he (xs := (l2.map f).toArray) (off := i * 1) (v := f l2[i]) (by simp [h2])
    have ih := eqItems_run he d hE l1 l2 w is (fun j hj => h j (by simp [hj]))
    simp only [Op.eqItems, Sem.run_bind, p1, p2, hE, Result.andThen_ok, List.all_cons]
    cases hb : (l1[i] == l2[i]) with
    | true => simp [ih, h1, h2, hb]
    | false => simp [h1, h2, hb]
theorem all_get [LawfulBEq α] (l1 l2 : List α) (n : Nat) (h1 : l1.length = n) (h2 : l2.length = n) : ((List.range n).all fun i => l1[i]? == l2[i]?) = (l1 == l2) := by
  rw [Bool.eq_iff_iff, List.all_eq_true, beq_iff_eq]
  constructor
  · intro h
    apply List.ext_getElem?
    intro i
    by_cases hi : i < n
    · exact beq_iff_eq.1 (h i (List.mem_range.2 hi))
    · rw [List.getElem?_eq_none (by omega), List.getElem?_eq_none (by omega)]
  · rintro rfl i _; simp
/-- are two arrays of plain values one? -/
theorem equalIn_arr [LawfulBEq α] (he : P.plainKey e = true) (d : Nat) (hE : ∀ a b w, (Op.equalIn d e (f a) (f b)).run P w = .ok (a == b) w) {t : TypeId} {n : Nat} {i : TypeInfo} (hu : P.underlying t = some (.array n e)) (hi : P.info? e = some i) (hc : P.cellsOf e = 1)
    (l1 l2 : List α) (h1 : l1.length = n) (h2 : l2.length = n) (w : World) : (Op.equalIn (d + 1) t (.agg (l1.map f).toArray) (.agg (l2.map f).toArray)).run P w = .ok (l1 == l2) w := by
  rw [run_equalIn_array w d _ _ hu hi, hc, eqItems_run he d hE l1 l2 w _ (fun i hi => by have := List.mem_range.1 hi; omega), all_get l1 l2 n h1 h2]
end
end Go.Proofs.Yteflhfofahdckaa
