/- two operations that may come up: both ways. -/
import Derived.Test.YtcagcepbnkageaaAnyY
namespace Go.Proofs.Ytcagcepbnkageaa
set_option linter.unusedVariables false
set_option linter.unusedSimpArgs false
open Go.RowKit
section
variable {P : Program} {ops : Array Oper} {Q : Exit → Act → World → Prop} {md : Region.Mode}
theorem lex_fork {n k fuel : Nat} {a : Act} {w : World} {l : List Oper} (i j : Nat) {oi oj : Oper} (hr : Region.ready md ops (lst n k) = [i, j]) (hi : ops[i]? = some oi) (hj : ops[j]? = some oj)
    (wi : Region.wanted oi (yielded ops a.tmps) = true) (wj : Region.wanted oj (yielded ops a.tmps) = true)
    (h1 : ∀ x : Up w, ∀ K : Act → World → Prop, Hid (∀ a' w', Ext x.val w' → OutAt P md ops Q fuel ((lst n k).setIfInBounds i true) k l a' w' → K a' w') → oi.wp P a x.val K Q)
    (h2 : ∀ x : Up w, ∀ K : Act → World → Prop, Hid (∀ a' w', Ext x.val w' → OutAt P md ops Q fuel ((lst n k).setIfInBounds j true) k l a' w' → K a' w') → oj.wp P a x.val K Q) :
    LexAt P md ops Q (fuel + 1) n k l a w := by
  intro hd
  refine any_all [i, j] hr (by simp) (fun m hm x K hK => ?_)
  have hm : m = i ∨ m = j := by simpa using hm
  rcases hm with rfl | rfl
  · refine wpOp_wp hi wi (h1 x K ?_)
    refine Lib.hid ?_
    intro a' w' hx ho
    exact hK a' w' hx (ho hd)
  · refine wpOp_wp hj wj (h2 x K ?_)
    refine Lib.hid ?_
    intro a' w' hx ho
    exact hK a' w' hx (ho hd)
theorem out_fork {k fuel : Nat} {listed : Array Bool} {a : Act} {w : World} {l : List Oper} (i j : Nat) {oi oj : Oper} (hr : Region.ready md ops listed = [i, j]) (hi : ops[i]? = some oi) (hj : ops[j]? = some oj)
    (wi : Region.wanted oi (yielded ops a.tmps) = true) (wj : Region.wanted oj (yielded ops a.tmps) = true)
    (h1 : ∀ x : Up w, ∀ K : Act → World → Prop, Hid (∀ a' w', Ext x.val w' → OutAt P md ops Q fuel (listed.setIfInBounds i true) k l a' w' → K a' w') → oi.wp P a x.val K Q)
    (h2 : ∀ x : Up w, ∀ K : Act → World → Prop, Hid (∀ a' w', Ext x.val w' → OutAt P md ops Q fuel (listed.setIfInBounds j true) k l a' w' → K a' w') → oj.wp P a x.val K Q) :
    OutAt P md ops Q (fuel + 1) listed k l a w := by
  intro hd
  refine any_all [i, j] hr (by simp) (fun m hm x K hK => ?_)
  have hm : m = i ∨ m = j := by simpa using hm
  rcases hm with rfl | rfl
  · refine wpOp_wp hi wi (h1 x K ?_)
    refine Lib.hid ?_
    intro a' w' hx ho
    exact hK a' w' hx (ho hd)
  · refine wpOp_wp hj wj (h2 x K ?_)
    refine Lib.hid ?_
    intro a' w' hx ho
    exact hK a' w' hx (ho hd)
theorem wp_of_exec {o : Oper} {a : Act} {w w' : World} {v : Value} {K : Act → World → Prop} (he : (execOp a.eval o).run P w = .ok (.value v) w') (h : K (a.put o.dst v) w') : o.wp P a w K Q := by
  unfold Oper.wp
  rw [he]
  exact h
end
end Go.Proofs.Ytcagcepbnkageaa
