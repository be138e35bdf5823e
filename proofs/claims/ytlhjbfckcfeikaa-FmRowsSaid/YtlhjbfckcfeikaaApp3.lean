/- append of a readable slice of ints onto an empty one that has been written out. -/
import Derived.Test.YtlhjbfckcfeikaaApp3G
import Derived.Test.YtlhjbfckcfeikaaRead
import Derived.Test.YtlhjbfckcfeikaaAnyV
namespace Go.Proofs.Ytlhjbfckcfeikaa
set_option linter.unusedVariables false
set_option linter.unusedSimpArgs false
open Go.RowKit

section
variable {w w' : World} {v u : Value} {l m : List Int} {B : Nat}
theorem run_bs0 (w : World) : (Instr.buildSlice 31 0 #[]).run Try.prog w = .ok (.slice (some ⟨w.heap.size, 0, none⟩) 0 0) (w.alloc (.cells #[] 3)) := by kernel_rfl
theorem run_bs1i (x : Int) (w : World) : (Instr.buildSlice 31 1 #[(0, .int .i64 x)]).run Try.prog w = .ok (.slice (some ⟨w.heap.size, 0, none⟩) 1 1) (w.alloc (.cells #[.int .i64 x] 3)) := by kernel_rfl
theorem IW.app0 {g : Nat} (hb : Blk w g 3 #[]) (hBg : B ≤ g) (hr : RI w u m) (hB : B ≤ w.heap.size) (hl : (m.length : Int) ≤ 1000000000) :
    ∃ v' w', (Builtin.append_ #[31, 31] 31 #[.slice (some ⟨g, 0, none⟩) 0 0, u]).run Try.prog w = .ok v' w' ∧ IW w' B v' m ∧ Ext w w' := by
  obtain ⟨v', w', h1, h2, h3⟩ := WR.app0 (B := B) intC_length (by decide) intC_one hb hBg hr hB (P := Try.prog) (t := 31) Try.underlying31 int_info rfl (by omega) (by unfold maxLen; omega)
  exact ⟨v', w', h1, IW_WR.2 h2, h3⟩
theorem RI.one {g : Nat} {x : Int} (h : Blk w g 3 #[.int .i64 x]) : RI w (.slice (some ⟨g, 0, none⟩) 1 1) [x] :=
  RI.of (l := [x]) (by simp) (fun k hk => by
    obtain rfl : k = 0 := by simpa using hk
    rw [h.cell]; rfl)
end
end Go.Proofs.Ytlhjbfckcfeikaa
