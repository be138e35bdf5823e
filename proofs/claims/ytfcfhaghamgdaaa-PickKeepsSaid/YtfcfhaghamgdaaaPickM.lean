/- PickKeeps: the plain laws. -/
import Derived.Test.YtfcfhaghamgdaaaPickK
namespace Go.Proofs.Ytfcfhaghamgdaaa
set_option linter.unusedVariables false
set_option linter.unusedSimpArgs false
open Go.RowKit

theorem clampI_mono {a b : Int} (h : a ≤ b) : clampI a ≤ clampI b := by unfold clampI; omega
theorem oldP_mono {old now now' : Int} (h : now ≤ now') {e : E9} (ho : oldP old now e = true) : oldP old now' e = true := by
  unfold oldP at ho ⊢
  simp only [Bool.and_eq_true, decide_eq_true_eq] at ho ⊢
  have := clampI_mono h
  omega
theorem enoughP_mono {keep byt old now now' : Int} (h : now ≤ now') {l : List E9} (he : enoughP keep byt old now' l = true) : enoughP keep byt old now l = true := by
  unfold enoughP at he ⊢
  rw [Bool.and_eq_true] at he ⊢
  refine ⟨List.all_eq_true.2 fun e hm => ?_, he.2⟩
  have := List.all_eq_true.1 he.1 e hm
  cases ho : oldP old now e with
  | false => rfl
  | true => rw [oldP_mono h ho] at this; cases this
theorem dropL_mono {keep byt old now now' : Int} (hk : 0 ≤ keep) (hb : 0 ≤ byt) (h : now ≤ now') : ∀ (n : Nat) (r : List E9), r.length = n → (∀ k, rising (r.drop k)) → dropL keep byt old now r ≤ dropL keep byt old now' r := by
  intro n
  induction n with
  | zero =>
    intro r hn hr
    obtain rfl := List.eq_nil_of_length_eq_zero hn
    exact Nat.le_refl _
  | succ n ih =>
    intro r hn hr
    have hr0 := hr 0
    rw [List.drop_zero] at hr0
    cases h1 : enoughP keep byt old now r with
    | true => rw [drop_enough hk hb hr0 h1]; exact Nat.zero_le _
    | false =>
      cases h2 : enoughP keep byt old now' r with
      | true => rw [enoughP_mono h h2] at h1; cases h1
      | false =>
        rw [(drop_more hk hb hr0 h1).2, (drop_more hk hb hr0 h2).2]
        have := ih (r.drop 1) (by rw [List.length_drop]; omega) (fun k => by rw [List.drop_drop]; exact hr _)
        omega
theorem getD_drop (l : List E9) (n i : Nat) : (l.drop n).getD i default = l.getD (n + i) default := by
  rw [List.getD_eq_getElem?_getD, List.getElem?_drop, List.getD_eq_getElem?_getD]
theorem rowP_drop {l : List E9} (h : rowP l = true) (n : Nat) (hn : n + 1 ≤ l.length) : rowP (l.drop n) = true := by
  obtain ⟨h1, h2, h3, h4⟩ := rowP_parts h
  unfold rowP
  rw [List.length_drop, Bool.and_eq_true, Bool.and_eq_true, decide_eq_true_eq]
  refine ⟨by omega, ?_, ?_⟩
  · rw [getD_drop, show n + (l.length - n - 1) = l.length - 1 by omega, h3]; rfl
  · refine List.all_eq_true.2 fun i hi => ?_
    have hi := List.mem_range.1 hi
    have := eTo_all h4 (i := n + i) (by omega)
    rw [getD_drop, getD_drop]
    rw [Bool.and_eq_true] at this ⊢
    refine ⟨this.1, ?_⟩
    rcases Nat.eq_zero_or_pos i with h0 | h0
    · rw [h0]; rfl
    · have h5 := this.2
      rw [show (n + i == 0) = false by simp; omega, Bool.false_or] at h5
      rw [show n + (i - 1) = n + i - 1 by omega, h5, Bool.or_true]
theorem enough_none {now : Int} (l : List E9) : enoughP 0 0 0 now l = true := by
  unfold enoughP
  rw [Bool.and_eq_true]
  exact ⟨List.all_eq_true.2 fun e _ => by simp [oldP], rfl⟩
theorem confP_none {blk tgt seg age keep byt old : Int} (h : confP blk tgt seg age keep byt old = true) : confP blk tgt seg age 0 0 0 = true := by
  have h := of_decide_eq_true (show decide (confD blk tgt seg age keep byt old) = true from h)
  unfold confD at h
  refine decide_eq_true (show confD blk tgt seg age 0 0 0 from ?_)
  unfold confD
  omega
end Go.Proofs.Ytfcfhaghamgdaaa
