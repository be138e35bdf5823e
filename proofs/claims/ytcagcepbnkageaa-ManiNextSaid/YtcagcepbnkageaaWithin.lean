/- head: within. -/
import Derived.Test.YtcagcepbnkageaaReadG
import Derived.Test.YtcagcepbnkageaaGen
import Derived.LoopTactic
namespace Go.Proofs.Ytcagcepbnkageaa
set_option linter.unusedVariables false
set_option linter.unusedSimpArgs false
open Go.RowKit

set_option maxRecDepth 20000 in
theorem within_yes (n f t : Int) (w : World) (h : f ≤ n ∧ n ≤ t) :
    Calls Try.prog 58 #[.int .i64 n, .int .i64 f, .int .i64 t] w fun e w' => e = .returned (.bool true) ∧ w = w' := by
  obtain ⟨h1, h2⟩ := h
  go_enter Try.func58, Try.ntmps58
  go_wp2
  go_ret
  exact ⟨rfl, rfl⟩
set_option maxRecDepth 20000 in
theorem within_no (n f t : Int) (w : World) (h : ¬ (f ≤ n ∧ n ≤ t)) :
    Calls Try.prog 58 #[.int .i64 n, .int .i64 f, .int .i64 t] w fun e w' => e = .returned (.bool false) ∧ w = w' := by
  by_cases h1 : f ≤ n
  · have h2 : ¬ n ≤ t := fun h2 => h ⟨h1, h2⟩
    clear h
    go_enter Try.func58, Try.ntmps58
    go_wp2
    go_ret
    exact ⟨rfl, rfl⟩
  · clear h
    go_enter Try.func58, Try.ntmps58
    go_wp2
    go_ret
    exact ⟨rfl, rfl⟩

end Go.Proofs.Ytcagcepbnkageaa
