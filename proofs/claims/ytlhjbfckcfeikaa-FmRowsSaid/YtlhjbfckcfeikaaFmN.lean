/- fm's reference: begins, Rows. -/
import Derived.Test.YtlhjbfckcfeikaaFmM
namespace Go.Proofs.Ytlhjbfckcfeikaa
set_option linter.unusedVariables false
set_option linter.unusedSimpArgs false
open Go.RowKit
attribute [local go_sem] S_size S_toList S_extract S_beq S_bne S_empty S_nil u8_beq U8_fold U8_toNat

set_option maxRecDepth 20000 in
theorem begins_any (e what : List UInt8) (w : World) (he : (e.length : Int) ≤ 1000000) (hw : (what.length : Int) ≤ 1000000) :
    Calls Try.prog 31 #[.string (S e), .string (S what)] w fun r w' => r = .returned (.bool (decide (what <+: e))) ∧ w' = w := by
  have hp : (what <+: e) ↔ (what.length ≤ e.length ∧ e.take what.length = what) := by
    constructor
    · intro h; exact ⟨h.length_le, by rw [List.prefix_iff_eq_take] at h; exact h.symm⟩
    · rintro ⟨h1, h2⟩; rw [List.prefix_iff_eq_take]; exact h2.symm
  by_cases h1 : what.length ≤ e.length
  · have hli : (what.length : Int) ≤ (e.length : Int) := by omega
    by_cases h2 : e.take what.length = what
    · have hb : (e.take what.length == what) = true := by rw [h2]; simp
      rw [decide_eq_true (hp.2 ⟨h1, h2⟩)]
      clear h2 hp
      go_enter Try.func31, Try.ntmps31
      go_wp2
      go_ret
      exact ⟨rfl, rfl⟩
    · have hb : (e.take what.length == what) = false := by simpa using h2
      rw [decide_eq_false (fun h => h2 (hp.1 h).2)]
      clear h2 hp
      go_enter Try.func31, Try.ntmps31
      go_wp2
      go_ret
      exact ⟨rfl, rfl⟩
  · have hli : ¬ (what.length : Int) ≤ (e.length : Int) := by omega
    rw [decide_eq_false (fun h => h1 (hp.1 h).1)]
    clear hp h1
    go_enter Try.func31, Try.ntmps31
    go_wp2
    go_ret
    exact ⟨rfl, rfl⟩
end Go.Proofs.Ytlhjbfckcfeikaa
