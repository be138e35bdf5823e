/- varveref24: Replace, plain laws. (Printed by wip/tools/entry7.py.) -/
import Derived.Test.YtplbebcckffgeaaEntKp
namespace Go.Proofs.Ytplbebcckffgeaa
set_option linter.unusedVariables false
set_option linter.unusedSimpArgs false
open Go.RowKit

theorem mat_iff (o e : E9) : matP o e = true ↔ (o.id = e.id ∧ o.sld = true ∧ e.sld = true ∧ o.gen < e.gen ∧ o.fst = e.fst ∧ o.cnt = e.cnt ∧ o.early = e.early ∧ o.late = e.late) := by
  unfold matP
  simp only [Bool.and_eq_true, decide_eq_true_eq]
  constructor
  · rintro ⟨⟨⟨a, b⟩, c, d⟩, ⟨f, g⟩, h, i⟩; exact ⟨c, a, b, d, f, g, h, i⟩
  · rintro ⟨c, a, b, d, f, g, h, i⟩; exact ⟨⟨⟨a, b⟩, c, d⟩, ⟨f, g⟩, h, i⟩
theorem mat_firsts (o e : E9) :
    (matP o e = false ∧ ¬ o.id = e.id)
    ∨ (matP o e = false ∧ o.id = e.id ∧ o.sld = false)
    ∨ (matP o e = false ∧ o.id = e.id ∧ o.sld = true ∧ e.sld = false)
    ∨ (matP o e = false ∧ o.id = e.id ∧ o.sld = true ∧ e.sld = true ∧ ¬ o.gen < e.gen)
    ∨ (matP o e = false ∧ o.id = e.id ∧ o.sld = true ∧ e.sld = true ∧ o.gen < e.gen ∧ ¬ o.fst = e.fst)
    ∨ (matP o e = false ∧ o.id = e.id ∧ o.sld = true ∧ e.sld = true ∧ o.gen < e.gen ∧ o.fst = e.fst ∧ ¬ o.cnt = e.cnt)
    ∨ (matP o e = false ∧ o.id = e.id ∧ o.sld = true ∧ e.sld = true ∧ o.gen < e.gen ∧ o.fst = e.fst ∧ o.cnt = e.cnt ∧ ¬ o.early = e.early)
    ∨ (matP o e = false ∧ o.id = e.id ∧ o.sld = true ∧ e.sld = true ∧ o.gen < e.gen ∧ o.fst = e.fst ∧ o.cnt = e.cnt ∧ o.early = e.early ∧ ¬ o.late = e.late)
    ∨ (matP o e = true ∧ o.id = e.id ∧ o.sld = true ∧ e.sld = true ∧ o.gen < e.gen ∧ o.fst = e.fst ∧ o.cnt = e.cnt ∧ o.early = e.early ∧ o.late = e.late) := by
  have hf : ∀ {p : Prop}, (matP o e = true → p) → ¬ p → matP o e = false := fun {p} h hp => by
    cases hm : matP o e with
    | false => rfl
    | true => exact absurd (h hm) hp
  have hi := mat_iff o e
  by_cases h0 : o.id = e.id
  case neg => exact .inl ⟨hf (fun h => (hi.1 h).1) h0, h0⟩
  by_cases h1 : o.sld = true
  case neg => exact .inr (.inl ⟨hf (fun h => (hi.1 h).2.1) h1, h0, (by simpa using h1)⟩)
  by_cases h2 : e.sld = true
  case neg => exact .inr (.inr (.inl ⟨hf (fun h => (hi.1 h).2.2.1) h2, h0, h1, (by simpa using h2)⟩))
  by_cases h3 : o.gen < e.gen
  case neg => exact .inr (.inr (.inr (.inl ⟨hf (fun h => (hi.1 h).2.2.2.1) h3, h0, h1, h2, h3⟩)))
  by_cases h4 : o.fst = e.fst
  case neg => exact .inr (.inr (.inr (.inr (.inl ⟨hf (fun h => (hi.1 h).2.2.2.2.1) h4, h0, h1, h2, h3, h4⟩))))
  by_cases h5 : o.cnt = e.cnt
  case neg => exact .inr (.inr (.inr (.inr (.inr (.inl ⟨hf (fun h => (hi.1 h).2.2.2.2.2.1) h5, h0, h1, h2, h3, h4, h5⟩)))))
  by_cases h6 : o.early = e.early
  case neg => exact .inr (.inr (.inr (.inr (.inr (.inr (.inl ⟨hf (fun h => (hi.1 h).2.2.2.2.2.2.1) h6, h0, h1, h2, h3, h4, h5, h6⟩))))))
  by_cases h7 : o.late = e.late
  case neg => exact .inr (.inr (.inr (.inr (.inr (.inr (.inr (.inl ⟨hf (fun h => (hi.1 h).2.2.2.2.2.2.2) h7, h0, h1, h2, h3, h4, h5, h6, h7⟩)))))))
  exact .inr (.inr (.inr (.inr (.inr (.inr (.inr (.inr (⟨hi.2 ⟨h0, h1, h2, h3, h4, h5, h6, h7⟩, h0, h1, h2, h3, h4, h5, h6, h7⟩))))))))

/-- the first k, as far as they are replaced, and the others -/
def mapTo (l : List E9) (e : E9) (k : Nat) : List E9 := (l.take k).map (fun o => if matP o e then e else o) ++ l.drop k
def anyTo (l : List E9) (e : E9) (k : Nat) : Bool := (l.take k).any (matP · e)
theorem mapTo_zero (l : List E9) (e : E9) : mapTo l e 0 = l := by simp [mapTo]
theorem mapTo_len (l : List E9) (e : E9) (k : Nat) : (mapTo l e k).length = l.length := by
  unfold mapTo
  rw [List.length_append, List.length_map, List.length_take, List.length_drop]; omega
theorem take_at {l : List E9} {k : Nat} (hk : k < l.length) : l.take (k + 1) = l.take k ++ [l.getD k default] := by
  rw [List.take_add_one, List.getElem?_eq_getElem hk, getD_get hk]; rfl
theorem mapTo_no {l : List E9} {e : E9} {k : Nat} (hk : k < l.length) (h : matP (l.getD k default) e = false) : mapTo l e (k + 1) = mapTo l e k := by
  unfold mapTo
  rw [take_at hk, List.map_append, List.map_singleton, h, List.drop_eq_getElem_cons hk, ← getD_get hk]
  simp
theorem mapTo_yes {l : List E9} {e : E9} {k : Nat} (hk : k < l.length) (h : matP (l.getD k default) e = true) : mapTo l e (k + 1) = (mapTo l e k).set k e := by
  unfold mapTo
  have hlen : ((l.take k).map (fun o => if matP o e then e else o)).length = k := by rw [List.length_map, List.length_take]; omega
  rw [take_at hk, List.map_append, List.map_singleton, h, List.drop_eq_getElem_cons hk, List.set_append_right _ _ (by omega), hlen, Nat.sub_self, List.set_cons_zero]
  simp
theorem anyTo_succ {l : List E9} {e : E9} {k : Nat} (hk : k < l.length) : anyTo l e (k + 1) = (anyTo l e k || matP (l.getD k default) e) := by
  unfold anyTo
  rw [take_at hk, List.any_append]
  simp
theorem mapTo_all {l : List E9} (h : rowP l = true) (e : E9) : mapTo l e l.length = (match matAt l e with | some i => l.set i e | none => l) := by
  refine Eq.trans ?_ (mat_map h e)
  unfold mapTo
  rw [List.take_length, List.drop_length, List.append_nil]
theorem anyTo_all (l : List E9) (e : E9) : anyTo l e l.length = (matAt l e).isSome := by
  unfold anyTo matAt
  rw [List.take_length]
  cases hf : l.findIdx? (matP · e) with
  | none =>
    rw [List.findIdx?_eq_none_iff] at hf
    refine List.any_eq_false.2 ?_
    exact fun x hx => by rw [hf x hx]; exact Bool.false_ne_true
  | some i =>
    obtain ⟨hi, h1, _⟩ := List.findIdx?_eq_some_iff_getElem.1 hf
    exact List.any_eq_true.2 ⟨_, List.getElem_mem hi, h1⟩
theorem repl_end {l : List E9} {e : E9} (h : rowP l = true) : (anyTo l e l.length = false ∧ replE l e = 240 ∧ replL l e = []) ∨ (anyTo l e l.length = true ∧ replE l e = errI (rowP (mapTo l e l.length)) 240 ∧ replL l e = putL (mapTo l e l.length)) := by
  rw [anyTo_all, mapTo_all h]
  unfold replE replL
  rw [h, Bool.true_and]
  cases hm : matAt l e with
  | none => exact .inl ⟨rfl, by split <;> rfl, by split <;> rfl⟩
  | some i =>
    refine .inr ⟨rfl, ?_⟩
    cases he : entP e with
    | true => exact ⟨rfl, rfl⟩
    | false =>
      have hi : i < l.length := by
        unfold matAt at hm
        exact (List.findIdx?_eq_some_iff_getElem.1 hm).1
      have := set_bad hi he
      dsimp only
      rw [this]
      unfold putL
      rw [this]
      exact ⟨rfl, rfl⟩
end Go.Proofs.Ytplbebcckffgeaa
