/-
  No cell of these rows narrows 'for every input' (looked for: loops, veiled, ifaces, maps, wideKeys, modest, calm, conditions, laid).
  DERIVED. THE GIVEN ROWS OF THIS SEAT. 10 by the template 'for every input the law returns true; each argument reads behind the call as it read before'; 0 by the template 'total and deterministic' (their statements: YteflhfofahdckaaTotals.lean).
  GIVEN WITH THE SEED: the statements are not yours to turn. If you find one false, say at which input.
  Laid BY PROGRAM, IN A SANDBOX (cutbox-rows.mjs): the forced cells as the released guide's own fill.sh prints them over the translation 4170c8c0f88df002… (all of the seat's roots in one cut). By AI agents, Wed Nov 11 2026. No macro, syntax, notation, axiom, sorry.
-/
import Derived.Test.YteflhfofahdckaaChecked
import GoSem.Claim
import GoSem.ClaimJoined
import GoSem.ClaimMapViews
import Derived.JoinedTies
import Derived.KernelRfl
namespace Go.Proofs.Yteflhfofahdckaa
/- THE CELL 'sum', in the pinned program and in every row, IS THE sha256 OF THE DUMP (.gsa) THAT YteflhfofahdckaaProg.lean LOADS. Nothing in Lean hashes anything: it is a label: what it is worth is what the hold of that sum in a sandbox is worth. -/
noncomputable def Try.pinned : Pinned := { name := "yteflhfofahdckaa", sum := "4170c8c0f88df002838f899e3fd27d5afd97fd7d1b4d3d72bf80bcd22010b20b", checked := Try.checked }
namespace Rows
def none {H : Type} : Left H := { results := [], args := [] }

/-- 'varvelaw13.BwtForward': WHATEVER THE INPUT: true; the input reads as it did. -/
def bwtForwardSpec : ChangeSpec := { name := "bwtForward", fn := fun _ => fun
  | [d] => { results := [.lit (.bool true)], args := [d] }
  | _ => none }
def bwtForwardRow : OpenClaim := { program := "yteflhfofahdckaa", sum := "4170c8c0f88df002838f899e3fd27d5afd97fd7d1b4d3d72bf80bcd22010b20b", func := "varve/varvelaw13.BwtForward", spec := "bwtForward", unfollowed := true, recurses := true, apart := false }
def BwtForwardSaid : Prop := bwtForwardRow.holds Try.pinned (OpenSpec.ofChange bwtForwardSpec)

/-- ITS FALSE NEIGHBOUR: 'it returns false'. Refute it at one input. -/
def bwtForwardWrong : ChangeSpec := { name := "bwtForward", fn := fun _ => fun
  | [d] => { results := [.lit (.bool false)], args := [d] }
  | _ => none }
def BwtForwardWrongFalsely : Prop := bwtForwardRow.holds Try.pinned (OpenSpec.ofChange bwtForwardWrong)

/-- 'varvelaw13.BwtInverse': WHATEVER THE INPUT: true; the input reads as it did. -/
def bwtInverseSpec : ChangeSpec := { name := "bwtInverse", fn := fun _ => fun
  | [d1, d2] => { results := [.lit (.bool true)], args := [d1, d2] }
  | _ => none }
def bwtInverseRow : OpenClaim := { program := "yteflhfofahdckaa", sum := "4170c8c0f88df002838f899e3fd27d5afd97fd7d1b4d3d72bf80bcd22010b20b", func := "varve/varvelaw13.BwtInverse", spec := "bwtInverse", unfollowed := true, recurses := true, apart := false }
def BwtInverseSaid : Prop := bwtInverseRow.holds Try.pinned (OpenSpec.ofChange bwtInverseSpec)

/-- ITS FALSE NEIGHBOUR: 'it returns false'. Refute it at one input. -/
def bwtInverseWrong : ChangeSpec := { name := "bwtInverse", fn := fun _ => fun
  | [d1, d2] => { results := [.lit (.bool false)], args := [d1, d2] }
  | _ => none }
def BwtInverseWrongFalsely : Prop := bwtInverseRow.holds Try.pinned (OpenSpec.ofChange bwtInverseWrong)

/-- 'varvelaw13.BwtBack': WHATEVER THE INPUT: true; the input reads as it did. -/
def bwtBackSpec : ChangeSpec := { name := "bwtBack", fn := fun _ => fun
  | [d] => { results := [.lit (.bool true)], args := [d] }
  | _ => none }
def bwtBackRow : OpenClaim := { program := "yteflhfofahdckaa", sum := "4170c8c0f88df002838f899e3fd27d5afd97fd7d1b4d3d72bf80bcd22010b20b", func := "varve/varvelaw13.BwtBack", spec := "bwtBack", unfollowed := true, recurses := true, apart := false }
def BwtBackSaid : Prop := bwtBackRow.holds Try.pinned (OpenSpec.ofChange bwtBackSpec)

/-- ITS FALSE NEIGHBOUR: 'it returns false'. Refute it at one input. -/
def bwtBackWrong : ChangeSpec := { name := "bwtBack", fn := fun _ => fun
  | [d] => { results := [.lit (.bool false)], args := [d] }
  | _ => none }
def BwtBackWrongFalsely : Prop := bwtBackRow.holds Try.pinned (OpenSpec.ofChange bwtBackWrong)

/-- 'varvelaw13.BwtOnly': WHATEVER THE INPUT: true; the input reads as it did. -/
def bwtOnlySpec : ChangeSpec := { name := "bwtOnly", fn := fun _ => fun
  | [d1, d2] => { results := [.lit (.bool true)], args := [d1, d2] }
  | _ => none }
def bwtOnlyRow : OpenClaim := { program := "yteflhfofahdckaa", sum := "4170c8c0f88df002838f899e3fd27d5afd97fd7d1b4d3d72bf80bcd22010b20b", func := "varve/varvelaw13.BwtOnly", spec := "bwtOnly", unfollowed := true, recurses := true, apart := false }
def BwtOnlySaid : Prop := bwtOnlyRow.holds Try.pinned (OpenSpec.ofChange bwtOnlySpec)

/-- ITS FALSE NEIGHBOUR: 'it returns false'. Refute it at one input. -/
def bwtOnlyWrong : ChangeSpec := { name := "bwtOnly", fn := fun _ => fun
  | [d1, d2] => { results := [.lit (.bool false)], args := [d1, d2] }
  | _ => none }
def BwtOnlyWrongFalsely : Prop := bwtOnlyRow.holds Try.pinned (OpenSpec.ofChange bwtOnlyWrong)

/-- 'varvelaw13.BwtSteps': WHATEVER THE INPUT: true; the input reads as it did. -/
def bwtStepsSpec : ChangeSpec := { name := "bwtSteps", fn := fun _ => fun
  | [d1, d2] => { results := [.lit (.bool true)], args := [d1, d2] }
  | _ => none }
def bwtStepsRow : OpenClaim := { program := "yteflhfofahdckaa", sum := "4170c8c0f88df002838f899e3fd27d5afd97fd7d1b4d3d72bf80bcd22010b20b", func := "varve/varvelaw13.BwtSteps", spec := "bwtSteps", unfollowed := true, recurses := true, apart := false }
def BwtStepsSaid : Prop := bwtStepsRow.holds Try.pinned (OpenSpec.ofChange bwtStepsSpec)

/-- ITS FALSE NEIGHBOUR: 'it returns false'. Refute it at one input. -/
def bwtStepsWrong : ChangeSpec := { name := "bwtSteps", fn := fun _ => fun
  | [d1, d2] => { results := [.lit (.bool false)], args := [d1, d2] }
  | _ => none }
def BwtStepsWrongFalsely : Prop := bwtStepsRow.holds Try.pinned (OpenSpec.ofChange bwtStepsWrong)

/-- 'varvelaw12.SuffixArrays': WHATEVER THE INPUT: true; the input reads as it did. -/
def suffixArraysSpec : ChangeSpec := { name := "suffixArrays", fn := fun _ => fun
  | [d1, d2, d3] => { results := [.lit (.bool true)], args := [d1, d2, d3] }
  | _ => none }
def suffixArraysRow : OpenClaim := { program := "yteflhfofahdckaa", sum := "4170c8c0f88df002838f899e3fd27d5afd97fd7d1b4d3d72bf80bcd22010b20b", func := "varve/varvelaw12.SuffixArrays", spec := "suffixArrays", unfollowed := true, recurses := true, apart := false }
def SuffixArraysSaid : Prop := suffixArraysRow.holds Try.pinned (OpenSpec.ofChange suffixArraysSpec)

/-- ITS FALSE NEIGHBOUR: 'it returns false'. Refute it at one input. -/
def suffixArraysWrong : ChangeSpec := { name := "suffixArrays", fn := fun _ => fun
  | [d1, d2, d3] => { results := [.lit (.bool false)], args := [d1, d2, d3] }
  | _ => none }
def SuffixArraysWrongFalsely : Prop := suffixArraysRow.holds Try.pinned (OpenSpec.ofChange suffixArraysWrong)

/-- 'varvelaw12.SuffixLooks': WHATEVER THE INPUT: true; the input reads as it did. -/
def suffixLooksSpec : ChangeSpec := { name := "suffixLooks", fn := fun _ => fun
  | [d1, d2, d3] => { results := [.lit (.bool true)], args := [d1, d2, d3] }
  | _ => none }
def suffixLooksRow : OpenClaim := { program := "yteflhfofahdckaa", sum := "4170c8c0f88df002838f899e3fd27d5afd97fd7d1b4d3d72bf80bcd22010b20b", func := "varve/varvelaw12.SuffixLooks", spec := "suffixLooks", unfollowed := true, recurses := true, apart := false }
def SuffixLooksSaid : Prop := suffixLooksRow.holds Try.pinned (OpenSpec.ofChange suffixLooksSpec)

/-- ITS FALSE NEIGHBOUR: 'it returns false'. Refute it at one input. -/
def suffixLooksWrong : ChangeSpec := { name := "suffixLooks", fn := fun _ => fun
  | [d1, d2, d3] => { results := [.lit (.bool false)], args := [d1, d2, d3] }
  | _ => none }
def SuffixLooksWrongFalsely : Prop := suffixLooksRow.holds Try.pinned (OpenSpec.ofChange suffixLooksWrong)

/-- 'varvelaw12.SuffixOrder': WHATEVER THE INPUT: true; the input reads as it did. -/
def suffixOrderSpec : ChangeSpec := { name := "suffixOrder", fn := fun _ => fun
  | [d] => { results := [.lit (.bool true)], args := [d] }
  | _ => none }
def suffixOrderRow : OpenClaim := { program := "yteflhfofahdckaa", sum := "4170c8c0f88df002838f899e3fd27d5afd97fd7d1b4d3d72bf80bcd22010b20b", func := "varve/varvelaw12.SuffixOrder", spec := "suffixOrder", unfollowed := true, recurses := true, apart := false }
def SuffixOrderSaid : Prop := suffixOrderRow.holds Try.pinned (OpenSpec.ofChange suffixOrderSpec)

/-- ITS FALSE NEIGHBOUR: 'it returns false'. Refute it at one input. -/
def suffixOrderWrong : ChangeSpec := { name := "suffixOrder", fn := fun _ => fun
  | [d] => { results := [.lit (.bool false)], args := [d] }
  | _ => none }
def SuffixOrderWrongFalsely : Prop := suffixOrderRow.holds Try.pinned (OpenSpec.ofChange suffixOrderWrong)

/-- 'varvelaw12.SuffixCommon': WHATEVER THE INPUT: true; the input reads as it did. -/
def suffixCommonSpec : ChangeSpec := { name := "suffixCommon", fn := fun _ => fun
  | [d] => { results := [.lit (.bool true)], args := [d] }
  | _ => none }
def suffixCommonRow : OpenClaim := { program := "yteflhfofahdckaa", sum := "4170c8c0f88df002838f899e3fd27d5afd97fd7d1b4d3d72bf80bcd22010b20b", func := "varve/varvelaw12.SuffixCommon", spec := "suffixCommon", unfollowed := true, recurses := true, apart := false }
def SuffixCommonSaid : Prop := suffixCommonRow.holds Try.pinned (OpenSpec.ofChange suffixCommonSpec)

/-- ITS FALSE NEIGHBOUR: 'it returns false'. Refute it at one input. -/
def suffixCommonWrong : ChangeSpec := { name := "suffixCommon", fn := fun _ => fun
  | [d] => { results := [.lit (.bool false)], args := [d] }
  | _ => none }
def SuffixCommonWrongFalsely : Prop := suffixCommonRow.holds Try.pinned (OpenSpec.ofChange suffixCommonWrong)

/-- 'varvelaw12.SuffixFind': WHATEVER THE INPUT: true; the input reads as it did. -/
def suffixFindSpec : ChangeSpec := { name := "suffixFind", fn := fun _ => fun
  | [d1, d2] => { results := [.lit (.bool true)], args := [d1, d2] }
  | _ => none }
def suffixFindRow : OpenClaim := { program := "yteflhfofahdckaa", sum := "4170c8c0f88df002838f899e3fd27d5afd97fd7d1b4d3d72bf80bcd22010b20b", func := "varve/varvelaw12.SuffixFind", spec := "suffixFind", unfollowed := true, recurses := true, apart := false }
def SuffixFindSaid : Prop := suffixFindRow.holds Try.pinned (OpenSpec.ofChange suffixFindSpec)

/-- ITS FALSE NEIGHBOUR: 'it returns false'. Refute it at one input. -/
def suffixFindWrong : ChangeSpec := { name := "suffixFind", fn := fun _ => fun
  | [d1, d2] => { results := [.lit (.bool false)], args := [d1, d2] }
  | _ => none }
def SuffixFindWrongFalsely : Prop := suffixFindRow.holds Try.pinned (OpenSpec.ofChange suffixFindWrong)

/- THE SECOND FORM. 'bulk': how many values and letters a reading holds, each counted each time it is reached (what is shared counts as often as it is met; a slice's spare places count too). A statement '..UptoSaid' is the law's where the arguments, and the package variables that the reading takes, are together of bulk at most 1048576: NARROWER than '..Said'. Prove '..Said' where nothing that the law and all that it calls make is longer than what came in: it says more and counts as full. Else prove '..UptoSaid'. A law counts once. -/
mutual
def uptoBulk {H : Type} : DataW H → Nat
  | .lit (.string bytes) => bytes.length + 1
  | .lit _ => 1
  | .nil => 1
  | .ptr d => uptoBulk d + 1
  | .slice elems spare => uptoBulkAll elems + uptoBulkAll spare + 1
  | .agg parts => uptoBulkAll parts + 1
  | .iface _ d => uptoBulk d + 1
  | .map entries => uptoBulkEntries entries + 1
  | .held _ => 1
def uptoBulkAll {H : Type} : List (DataW H) → Nat
  | [] => 0
  | d :: r => uptoBulk d + uptoBulkAll r
def uptoBulkEntries {H : Type} : List (Lit × DataW H) → Nat
  | [] => 0
  | x :: r => uptoBulkEntry x + uptoBulkEntries r
def uptoBulkEntry {H : Type} : Lit × DataW H → Nat
  | (.string bytes, d) => bytes.length + uptoBulk d + 1
  | (_, d) => uptoBulk d + 1
 end
def uptoSmall : (H : Type) → List (DataW H) → Bool := fun _ ds => decide (uptoBulkAll ds ≤ 1048576)
def OpenSpec.upto (s : _root_.Go.ChangeSpec) : _root_.Go.OpenSpec := { _root_.Go.OpenSpec.ofChange s with cond := some uptoSmall }

/-- 'varvelaw13.BwtForward', WHERE WHAT IT READS IS OF BULK AT MOST 1048576: true; the input reads as it did. -/
def bwtForwardUptoRow : OpenClaim := { program := "yteflhfofahdckaa", sum := "4170c8c0f88df002838f899e3fd27d5afd97fd7d1b4d3d72bf80bcd22010b20b", func := "varve/varvelaw13.BwtForward", spec := "bwtForward", unfollowed := true, recurses := true, apart := false, narrowed := true }
def BwtForwardUptoSaid : Prop := bwtForwardUptoRow.holds Try.pinned (OpenSpec.upto bwtForwardSpec)

/-- 'varvelaw13.BwtInverse', WHERE WHAT IT READS IS OF BULK AT MOST 1048576: true; the input reads as it did. -/
def bwtInverseUptoRow : OpenClaim := { program := "yteflhfofahdckaa", sum := "4170c8c0f88df002838f899e3fd27d5afd97fd7d1b4d3d72bf80bcd22010b20b", func := "varve/varvelaw13.BwtInverse", spec := "bwtInverse", unfollowed := true, recurses := true, apart := false, narrowed := true }
def BwtInverseUptoSaid : Prop := bwtInverseUptoRow.holds Try.pinned (OpenSpec.upto bwtInverseSpec)

/-- 'varvelaw13.BwtBack', WHERE WHAT IT READS IS OF BULK AT MOST 1048576: true; the input reads as it did. -/
def bwtBackUptoRow : OpenClaim := { program := "yteflhfofahdckaa", sum := "4170c8c0f88df002838f899e3fd27d5afd97fd7d1b4d3d72bf80bcd22010b20b", func := "varve/varvelaw13.BwtBack", spec := "bwtBack", unfollowed := true, recurses := true, apart := false, narrowed := true }
def BwtBackUptoSaid : Prop := bwtBackUptoRow.holds Try.pinned (OpenSpec.upto bwtBackSpec)

/-- 'varvelaw13.BwtOnly', WHERE WHAT IT READS IS OF BULK AT MOST 1048576: true; the input reads as it did. -/
def bwtOnlyUptoRow : OpenClaim := { program := "yteflhfofahdckaa", sum := "4170c8c0f88df002838f899e3fd27d5afd97fd7d1b4d3d72bf80bcd22010b20b", func := "varve/varvelaw13.BwtOnly", spec := "bwtOnly", unfollowed := true, recurses := true, apart := false, narrowed := true }
def BwtOnlyUptoSaid : Prop := bwtOnlyUptoRow.holds Try.pinned (OpenSpec.upto bwtOnlySpec)

/-- 'varvelaw13.BwtSteps', WHERE WHAT IT READS IS OF BULK AT MOST 1048576: true; the input reads as it did. -/
def bwtStepsUptoRow : OpenClaim := { program := "yteflhfofahdckaa", sum := "4170c8c0f88df002838f899e3fd27d5afd97fd7d1b4d3d72bf80bcd22010b20b", func := "varve/varvelaw13.BwtSteps", spec := "bwtSteps", unfollowed := true, recurses := true, apart := false, narrowed := true }
def BwtStepsUptoSaid : Prop := bwtStepsUptoRow.holds Try.pinned (OpenSpec.upto bwtStepsSpec)

/-- 'varvelaw12.SuffixArrays', WHERE WHAT IT READS IS OF BULK AT MOST 1048576: true; the input reads as it did. -/
def suffixArraysUptoRow : OpenClaim := { program := "yteflhfofahdckaa", sum := "4170c8c0f88df002838f899e3fd27d5afd97fd7d1b4d3d72bf80bcd22010b20b", func := "varve/varvelaw12.SuffixArrays", spec := "suffixArrays", unfollowed := true, recurses := true, apart := false, narrowed := true }
def SuffixArraysUptoSaid : Prop := suffixArraysUptoRow.holds Try.pinned (OpenSpec.upto suffixArraysSpec)

/-- 'varvelaw12.SuffixLooks', WHERE WHAT IT READS IS OF BULK AT MOST 1048576: true; the input reads as it did. -/
def suffixLooksUptoRow : OpenClaim := { program := "yteflhfofahdckaa", sum := "4170c8c0f88df002838f899e3fd27d5afd97fd7d1b4d3d72bf80bcd22010b20b", func := "varve/varvelaw12.SuffixLooks", spec := "suffixLooks", unfollowed := true, recurses := true, apart := false, narrowed := true }
def SuffixLooksUptoSaid : Prop := suffixLooksUptoRow.holds Try.pinned (OpenSpec.upto suffixLooksSpec)

/-- 'varvelaw12.SuffixOrder', WHERE WHAT IT READS IS OF BULK AT MOST 1048576: true; the input reads as it did. -/
def suffixOrderUptoRow : OpenClaim := { program := "yteflhfofahdckaa", sum := "4170c8c0f88df002838f899e3fd27d5afd97fd7d1b4d3d72bf80bcd22010b20b", func := "varve/varvelaw12.SuffixOrder", spec := "suffixOrder", unfollowed := true, recurses := true, apart := false, narrowed := true }
def SuffixOrderUptoSaid : Prop := suffixOrderUptoRow.holds Try.pinned (OpenSpec.upto suffixOrderSpec)

/-- 'varvelaw12.SuffixCommon', WHERE WHAT IT READS IS OF BULK AT MOST 1048576: true; the input reads as it did. -/
def suffixCommonUptoRow : OpenClaim := { program := "yteflhfofahdckaa", sum := "4170c8c0f88df002838f899e3fd27d5afd97fd7d1b4d3d72bf80bcd22010b20b", func := "varve/varvelaw12.SuffixCommon", spec := "suffixCommon", unfollowed := true, recurses := true, apart := false, narrowed := true }
def SuffixCommonUptoSaid : Prop := suffixCommonUptoRow.holds Try.pinned (OpenSpec.upto suffixCommonSpec)

/-- 'varvelaw12.SuffixFind', WHERE WHAT IT READS IS OF BULK AT MOST 1048576: true; the input reads as it did. -/
def suffixFindUptoRow : OpenClaim := { program := "yteflhfofahdckaa", sum := "4170c8c0f88df002838f899e3fd27d5afd97fd7d1b4d3d72bf80bcd22010b20b", func := "varve/varvelaw12.SuffixFind", spec := "suffixFind", unfollowed := true, recurses := true, apart := false, narrowed := true }
def SuffixFindUptoSaid : Prop := suffixFindUptoRow.holds Try.pinned (OpenSpec.upto suffixFindSpec)

end Rows
end Go.Proofs.Yteflhfofahdckaa
