/-
  No cell of these rows narrows 'for every input' (looked for: loops, veiled, ifaces, maps, wideKeys, modest, calm, conditions, laid).
  DERIVED. THE GIVEN ROWS OF THIS SEAT. 5 by the template 'for every input the law returns true; each argument reads behind the call as it read before'; 0 by the template 'total and deterministic' (their statements: YtojebaplpfebdaaTotals.lean).
  GIVEN WITH THE SEED: the statements are not yours to turn. If you find one false, say at which input.
  Laid BY PROGRAM, IN A SANDBOX (cutbox-rows.mjs): the forced cells as the released guide's own fill.sh prints them over the translation 5385987d85085a4a… (all of the seat's roots in one cut). By AI agents, Wed Nov 11 2026. No macro, syntax, notation, axiom, sorry.
-/
import Derived.Test.YtojebaplpfebdaaChecked
import GoSem.Claim
import GoSem.ClaimJoined
import GoSem.ClaimMapViews
import Derived.JoinedTies
import Derived.KernelRfl
namespace Go.Proofs.Ytojebaplpfebdaa
/- THE CELL 'sum', in the pinned program and in every row, IS THE sha256 OF THE DUMP (.gsa) THAT YtojebaplpfebdaaProg.lean LOADS. Nothing in Lean hashes anything: it is a label: what it is worth is what the hold of that sum in a sandbox is worth. -/
noncomputable def Try.pinned : Pinned := { name := "ytojebaplpfebdaa", sum := "5385987d85085a4af32cbbb72c01f2d6c5bc7d0636e68ad7cd4782b2d8405ec8", checked := Try.checked }
namespace Rows
def none {H : Type} : Left H := { results := [], args := [] }

/-- 'varvelaw30.KmpLooks': WHATEVER THE INPUT: true; the input reads as it did. -/
def kmpLooksSpec : ChangeSpec := { name := "kmpLooks", fn := fun _ => fun
  | [d1, d2, d3] => { results := [.lit (.bool true)], args := [d1, d2, d3] }
  | _ => none }
def kmpLooksRow : OpenClaim := { program := "ytojebaplpfebdaa", sum := "5385987d85085a4af32cbbb72c01f2d6c5bc7d0636e68ad7cd4782b2d8405ec8", func := "varve/varvelaw30.KmpLooks", spec := "kmpLooks", unfollowed := true, recurses := true, apart := false }
def KmpLooksSaid : Prop := kmpLooksRow.holds Try.pinned (OpenSpec.ofChange kmpLooksSpec)

/-- ITS FALSE NEIGHBOUR: 'it returns false'. Refute it at one input. -/
def kmpLooksWrong : ChangeSpec := { name := "kmpLooks", fn := fun _ => fun
  | [d1, d2, d3] => { results := [.lit (.bool false)], args := [d1, d2, d3] }
  | _ => none }
def KmpLooksWrongFalsely : Prop := kmpLooksRow.holds Try.pinned (OpenSpec.ofChange kmpLooksWrong)

/-- 'varvelaw30.KmpSteps': WHATEVER THE INPUT: true; the input reads as it did. -/
def kmpStepsSpec : ChangeSpec := { name := "kmpSteps", fn := fun _ => fun
  | [d1, d2, d3] => { results := [.lit (.bool true)], args := [d1, d2, d3] }
  | _ => none }
def kmpStepsRow : OpenClaim := { program := "ytojebaplpfebdaa", sum := "5385987d85085a4af32cbbb72c01f2d6c5bc7d0636e68ad7cd4782b2d8405ec8", func := "varve/varvelaw30.KmpSteps", spec := "kmpSteps", unfollowed := true, recurses := true, apart := false }
def KmpStepsSaid : Prop := kmpStepsRow.holds Try.pinned (OpenSpec.ofChange kmpStepsSpec)

/-- ITS FALSE NEIGHBOUR: 'it returns false'. Refute it at one input. -/
def kmpStepsWrong : ChangeSpec := { name := "kmpSteps", fn := fun _ => fun
  | [d1, d2, d3] => { results := [.lit (.bool false)], args := [d1, d2, d3] }
  | _ => none }
def KmpStepsWrongFalsely : Prop := kmpStepsRow.holds Try.pinned (OpenSpec.ofChange kmpStepsWrong)

/-- 'varvelaw30.KmpFinds': WHATEVER THE INPUT: true; the input reads as it did. -/
def kmpFindsSpec : ChangeSpec := { name := "kmpFinds", fn := fun _ => fun
  | [d1, d2] => { results := [.lit (.bool true)], args := [d1, d2] }
  | _ => none }
def kmpFindsRow : OpenClaim := { program := "ytojebaplpfebdaa", sum := "5385987d85085a4af32cbbb72c01f2d6c5bc7d0636e68ad7cd4782b2d8405ec8", func := "varve/varvelaw30.KmpFinds", spec := "kmpFinds", unfollowed := true, recurses := true, apart := false }
def KmpFindsSaid : Prop := kmpFindsRow.holds Try.pinned (OpenSpec.ofChange kmpFindsSpec)

/-- ITS FALSE NEIGHBOUR: 'it returns false'. Refute it at one input. -/
def kmpFindsWrong : ChangeSpec := { name := "kmpFinds", fn := fun _ => fun
  | [d1, d2] => { results := [.lit (.bool false)], args := [d1, d2] }
  | _ => none }
def KmpFindsWrongFalsely : Prop := kmpFindsRow.holds Try.pinned (OpenSpec.ofChange kmpFindsWrong)

/-- 'varvelaw30.KmpFail': WHATEVER THE INPUT: true; the input reads as it did. -/
def kmpFailSpec : ChangeSpec := { name := "kmpFail", fn := fun _ => fun
  | [d] => { results := [.lit (.bool true)], args := [d] }
  | _ => none }
def kmpFailRow : OpenClaim := { program := "ytojebaplpfebdaa", sum := "5385987d85085a4af32cbbb72c01f2d6c5bc7d0636e68ad7cd4782b2d8405ec8", func := "varve/varvelaw30.KmpFail", spec := "kmpFail", unfollowed := true, recurses := true, apart := false }
def KmpFailSaid : Prop := kmpFailRow.holds Try.pinned (OpenSpec.ofChange kmpFailSpec)

/-- ITS FALSE NEIGHBOUR: 'it returns false'. Refute it at one input. -/
def kmpFailWrong : ChangeSpec := { name := "kmpFail", fn := fun _ => fun
  | [d] => { results := [.lit (.bool false)], args := [d] }
  | _ => none }
def KmpFailWrongFalsely : Prop := kmpFailRow.holds Try.pinned (OpenSpec.ofChange kmpFailWrong)

/-- 'varvelaw30.KmpWalk': WHATEVER THE INPUT: true; the input reads as it did. -/
def kmpWalkSpec : ChangeSpec := { name := "kmpWalk", fn := fun _ => fun
  | [d1, d2] => { results := [.lit (.bool true)], args := [d1, d2] }
  | _ => none }
def kmpWalkRow : OpenClaim := { program := "ytojebaplpfebdaa", sum := "5385987d85085a4af32cbbb72c01f2d6c5bc7d0636e68ad7cd4782b2d8405ec8", func := "varve/varvelaw30.KmpWalk", spec := "kmpWalk", unfollowed := true, recurses := true, apart := false }
def KmpWalkSaid : Prop := kmpWalkRow.holds Try.pinned (OpenSpec.ofChange kmpWalkSpec)

/-- ITS FALSE NEIGHBOUR: 'it returns false'. Refute it at one input. -/
def kmpWalkWrong : ChangeSpec := { name := "kmpWalk", fn := fun _ => fun
  | [d1, d2] => { results := [.lit (.bool false)], args := [d1, d2] }
  | _ => none }
def KmpWalkWrongFalsely : Prop := kmpWalkRow.holds Try.pinned (OpenSpec.ofChange kmpWalkWrong)

/- THE SECOND FORM. 'bulk': how many values and letters a reading holds, each counted each time it is reached (what is shared counts as often as it is met; a slice's spare places count too). A statement '..UptoSaid' is the law's where the arguments, and the package variables that the reading takes, are together of bulk at most 1048576: NARROWER than '..Said'. Prove '..Said' where nothing that the law and all that it calls make is longer than what came in: it says more and counts as full. Else prove '..UptoSaid'. A law counts once. -/
mutual
def uptoBulk {H : Type} : DataW H → Nat
  | .lit (.string bytes) => bytes.length + 1
  | .lit _ => 1
  | .nil => 1
  | .ptr d => uptoBulk d + 1
  | .slice elems spare => uptoBulkAll elems + uptoBulkAll spare + 1
  | .agg parts => uptoBulkAll parts + 1
  | .iface _ d => uptoBulk d + 1
  | .map entries => uptoBulkEntries entries + 1
  | .held _ => 1
def uptoBulkAll {H : Type} : List (DataW H) → Nat
  | [] => 0
  | d :: r => uptoBulk d + uptoBulkAll r
def uptoBulkEntries {H : Type} : List (Lit × DataW H) → Nat
  | [] => 0
  | x :: r => uptoBulkEntry x + uptoBulkEntries r
def uptoBulkEntry {H : Type} : Lit × DataW H → Nat
  | (.string bytes, d) => bytes.length + uptoBulk d + 1
  | (_, d) => uptoBulk d + 1
 end
def uptoSmall : (H : Type) → List (DataW H) → Bool := fun _ ds => decide (uptoBulkAll ds ≤ 1048576)
def OpenSpec.upto (s : _root_.Go.ChangeSpec) : _root_.Go.OpenSpec := { _root_.Go.OpenSpec.ofChange s with cond := some uptoSmall }

/-- 'varvelaw30.KmpLooks', WHERE WHAT IT READS IS OF BULK AT MOST 1048576: true; the input reads as it did. -/
def kmpLooksUptoRow : OpenClaim := { program := "ytojebaplpfebdaa", sum := "5385987d85085a4af32cbbb72c01f2d6c5bc7d0636e68ad7cd4782b2d8405ec8", func := "varve/varvelaw30.KmpLooks", spec := "kmpLooks", unfollowed := true, recurses := true, apart := false, narrowed := true }
def KmpLooksUptoSaid : Prop := kmpLooksUptoRow.holds Try.pinned (OpenSpec.upto kmpLooksSpec)

/-- 'varvelaw30.KmpSteps', WHERE WHAT IT READS IS OF BULK AT MOST 1048576: true; the input reads as it did. -/
def kmpStepsUptoRow : OpenClaim := { program := "ytojebaplpfebdaa", sum := "5385987d85085a4af32cbbb72c01f2d6c5bc7d0636e68ad7cd4782b2d8405ec8", func := "varve/varvelaw30.KmpSteps", spec := "kmpSteps", unfollowed := true, recurses := true, apart := false, narrowed := true }
def KmpStepsUptoSaid : Prop := kmpStepsUptoRow.holds Try.pinned (OpenSpec.upto kmpStepsSpec)

/-- 'varvelaw30.KmpFinds', WHERE WHAT IT READS IS OF BULK AT MOST 1048576: true; the input reads as it did. -/
def kmpFindsUptoRow : OpenClaim := { program := "ytojebaplpfebdaa", sum := "5385987d85085a4af32cbbb72c01f2d6c5bc7d0636e68ad7cd4782b2d8405ec8", func := "varve/varvelaw30.KmpFinds", spec := "kmpFinds", unfollowed := true, recurses := true, apart := false, narrowed := true }
def KmpFindsUptoSaid : Prop := kmpFindsUptoRow.holds Try.pinned (OpenSpec.upto kmpFindsSpec)

/-- 'varvelaw30.KmpFail', WHERE WHAT IT READS IS OF BULK AT MOST 1048576: true; the input reads as it did. -/
def kmpFailUptoRow : OpenClaim := { program := "ytojebaplpfebdaa", sum := "5385987d85085a4af32cbbb72c01f2d6c5bc7d0636e68ad7cd4782b2d8405ec8", func := "varve/varvelaw30.KmpFail", spec := "kmpFail", unfollowed := true, recurses := true, apart := false, narrowed := true }
def KmpFailUptoSaid : Prop := kmpFailUptoRow.holds Try.pinned (OpenSpec.upto kmpFailSpec)

/-- 'varvelaw30.KmpWalk', WHERE WHAT IT READS IS OF BULK AT MOST 1048576: true; the input reads as it did. -/
def kmpWalkUptoRow : OpenClaim := { program := "ytojebaplpfebdaa", sum := "5385987d85085a4af32cbbb72c01f2d6c5bc7d0636e68ad7cd4782b2d8405ec8", func := "varve/varvelaw30.KmpWalk", spec := "kmpWalk", unfollowed := true, recurses := true, apart := false, narrowed := true }
def KmpWalkUptoSaid : Prop := kmpWalkUptoRow.holds Try.pinned (OpenSpec.upto kmpWalkSpec)

end Rows
end Go.Proofs.Ytojebaplpfebdaa
