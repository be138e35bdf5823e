/- EntryDrops: plain laws. (Printed by wip/tools/entry9.py.) -/
import Derived.Test.YtplbebcckffgeaaEntT
namespace Go.Proofs.Ytplbebcckffgeaa
set_option linter.unusedVariables false
set_option linter.unusedSimpArgs false
open Go.RowKit

theorem drop_zero_iff {l : List E9} {n : Int} (h : eDropE l n = 0) : rowP l = true ∧ 0 ≤ n ∧ n ≤ (l.length : Int) - 1 ∧ eDropL l n = l.drop n.toNat := by
  have h' := h
  unfold eDropE at h
  cases hr : rowP l with
  | false => rw [hr] at h; exact absurd h (by decide : ¬ (240 : Int) = 0)
  | true =>
    rw [hr, if_pos rfl] at h
    by_cases hn : 0 ≤ n ∧ n ≤ (l.length : Int) - 1
    · exact ⟨rfl, hn.1, hn.2, by unfold eDropL; rw [if_pos h']⟩
    · rw [if_neg hn] at h; exact absurd h (by decide : ¬ (2 : Int) = 0)
theorem drop_twice {l : List E9} {n k : Int} (h : eDropE l n = 0) (hk : 0 ≤ k) : eDropE (eDropL l n) k = eDropE l (n + k) ∧ eDropL (eDropL l n) k = eDropL l (n + k) := by
  obtain ⟨h1, h2, h3, h4⟩ := drop_zero_iff h
  have hr := row_drop h1 n.toNat (by omega)
  have hE : eDropE (eDropL l n) k = eDropE l (n + k) := by
    unfold eDropE
    rw [h4, hr, h1, if_pos rfl, if_pos rfl, List.length_drop]
    by_cases hb : 0 ≤ n + k ∧ n + k ≤ (l.length : Int) - 1
    · rw [if_pos hb, if_pos (by omega)]
    · rw [if_neg hb, if_neg (by omega)]
  refine ⟨hE, ?_⟩
  by_cases h0 : eDropE l (n + k) = 0
  · have hE0 := hE.trans h0
    rw [(drop_zero_iff hE0).2.2.2, (drop_zero_iff h0).2.2.2, h4, List.drop_drop]
    congr 1
    omega
  · have hE0 : ¬ eDropE (eDropL l n) k = 0 := by rw [hE]; exact h0
    rw [show eDropL (eDropL l n) k = [] by unfold eDropL; exact if_neg hE0, show eDropL l (n + k) = [] by unfold eDropL; exact if_neg h0]
/-- which is replaced -/
theorem repl_zero {l : List E9} {e : E9} (h : replE l e = 0) : ∃ i, i < l.length ∧ replL l e = l.set i e ∧ rowP l = true ∧ repP (l.getD i default) e = true := by
  unfold replE at h
  cases h1 : rowP l with
  | false => rw [h1] at h; exact absurd h (by decide : ¬ (240 : Int) = 0)
  | true =>
    cases h2 : entP e with
    | false => rw [h1, h2] at h; exact absurd h (by decide : ¬ (240 : Int) = 0)
    | true =>
      rw [h1, h2] at h
      cases h3 : matAt l e with
      | none => rw [h3] at h; exact absurd h (by decide : ¬ (240 : Int) = 0)
      | some i =>
        rw [h3] at h
        have h4 : rowP (l.set i e) = true := by
          cases hr : rowP (l.set i e) with
          | true => rfl
          | false =>
            have h : errI (rowP (l.set i e)) 240 = 0 := h
            rw [hr] at h
            exact absurd h (by decide : ¬ (240 : Int) = 0)
        have h5 := h3
        unfold matAt at h5
        obtain ⟨hi, hm, _⟩ := List.findIdx?_eq_some_iff_getElem.1 h5
        refine ⟨i, hi, ?_, rfl, ?_⟩
        · unfold replL
          rw [h1, h2, h3]
          show putL (l.set i e) = _
          unfold putL
          rw [h4]
          rfl
        · unfold repP
          rw [getD_get hi, h2, Bool.and_true]
          exact hm
/-- how an entry of the row that is behind is like the one ahead -/
def likeP (x y : E9) : Prop := seqLo x = seqLo y ∧ seqHi x = seqHi y ∧ tickLo x = tickLo y ∧ tickHi x = tickHi y ∧ x.id = y.id
theorem set_like {l : List E9} {e : E9} {i j : Nat} (hi : i < l.length) (hj : j < l.length) (hr : rowP l = true) (h : repP (l.getD i default) e = true) : likeP ((l.set i e).getD j default) (l.getD j default) ∧ ((l.set i e).getD j default = l.getD j default ↔ ¬ j = i) := by
  by_cases hij : j = i
  · subst hij
    have h1 : (l.set j e).getD j default = e := by rw [List.getD_eq_getElem?_getD, List.getElem?_set_self hj, Option.getD_some]
    rw [h1]
    rcases rep_cases (l.getD j default) e (row_ent hr hj) with h' | h' | h' | h' | h' | h' | ⟨_, a1, a2, a3, a4, a5, a6, a7⟩
    · rw [h] at h'; cases h'.1
    · rw [h] at h'; cases h'.1
    · rw [h] at h'; cases h'.1
    · rw [h] at h'; cases h'.1
    · rw [h] at h'; cases h'.1
    · rw [h] at h'; cases h'.1
    · unfold seqEq at a5
      unfold tickEq at a6
      rw [Bool.and_eq_true, decide_eq_true_eq, decide_eq_true_eq] at a5 a6
      refine ⟨⟨a5.1.symm, a5.2.symm, a6.1.symm, a6.2.symm, a3.symm⟩, ⟨fun he => ?_, fun hn => absurd rfl hn⟩⟩
      rw [← he] at a4
      omega
  · have h1 : (l.set i e).getD j default = l.getD j default := by rw [List.getD_eq_getElem?_getD, List.getElem?_set_ne (by omega), List.getD_eq_getElem?_getD]
    rw [h1]
    exact ⟨⟨rfl, rfl, rfl, rfl, rfl⟩, ⟨fun _ => hij, fun _ => rfl⟩⟩
end Go.Proofs.Ytplbebcckffgeaa
