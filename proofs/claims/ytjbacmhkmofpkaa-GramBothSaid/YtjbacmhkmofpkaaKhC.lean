/- kmp: Walk; ref: at, Find, Has. -/
import Derived.Test.YtjbacmhkmofpkaaKhB
import Derived.Test.YtjbacmhkmofpkaaMinMax
namespace Go.Proofs.Ytjbacmhkmofpkaa
set_option linter.unusedVariables false
set_option linter.unusedSimpArgs false
open Go.RowKit

attribute [local go_sem] S_size S_toList S_append S_extract S_beq S_bne S_empty S_nil u8_beq

/-- a state, as Walk takes it -/
def clampL (what : List UInt8) (state : Int) : Nat := (min (max state 0) (what.length : Int)).toNat
def walkL (what : List UInt8) (state : Int) (b : UInt8) : Nat := ov what (what.take (clampL what state) ++ [b])

/-- does a text stand at a place? -/
def atL (s what : List UInt8) (i : Nat) : Bool := decide (i + what.length ≤ s.length) && ((s.take (i + what.length)).drop i == what)

/-- the first place from a place on -/
def findL (s what : List UInt8) (i : Nat) : Option Nat := (List.range' i (s.length + 1 - i)).find? (atL s what)
theorem findL_end {s what : List UInt8} {i : Nat} (h : s.length < i) : findL s what i = none := by
  unfold findL; rw [show s.length + 1 - i = 0 by omega]; rfl
theorem findL_hit {s what : List UInt8} {i : Nat} (h : i ≤ s.length) (ha : atL s what i = true) : findL s what i = some i := by
  unfold findL; rw [show s.length + 1 - i = (s.length - i) + 1 by omega, List.range'_succ, List.find?_cons_of_pos ha]
theorem findL_miss {s what : List UInt8} {i : Nat} (h : i ≤ s.length) (ha : atL s what i = false) : findL s what i = findL s what (i + 1) := by
  unfold findL; rw [show s.length + 1 - i = (s.length - i) + 1 by omega, List.range'_succ, List.find?_cons_of_neg (by rw [ha]; exact Bool.false_ne_true), show s.length + 1 - (i + 1) = s.length - i by omega]
def placeV : Option Nat → Value
  | some p => .tuple #[.int .i64 p, .bool true]
  | none => .tuple #[.int .i64 0, .bool false]

end Go.Proofs.Ytjbacmhkmofpkaa
