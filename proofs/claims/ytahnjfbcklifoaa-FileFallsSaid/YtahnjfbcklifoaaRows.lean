/-
  No cell of these rows narrows 'for every input' (looked for: loops, veiled, ifaces, maps, wideKeys, modest, calm, conditions, laid).
  DERIVED. THE GIVEN ROWS OF THIS SEAT. 12 by the template 'for every input the law returns true; each argument reads behind the call as it read before'; 0 by the template 'total and deterministic' (their statements: YtahnjfbcklifoaaTotals.lean).
  GIVEN WITH THE SEED: the statements are not yours to turn. If you find one false, say at which input.
  Laid BY PROGRAM, IN A SANDBOX (cutbox-rows.mjs): the forced cells as the released guide's own fill.sh prints them over the translation 32f188aaf1a5bbe8… (all of the seat's roots in one cut). By AI agents, Wed Nov 11 2026. No macro, syntax, notation, axiom, sorry.
-/
import Derived.Test.YtahnjfbcklifoaaChecked
import GoSem.Claim
import GoSem.ClaimJoined
import GoSem.ClaimMapViews
import Derived.JoinedTies
import Derived.KernelRfl
namespace Go.Proofs.Ytahnjfbcklifoaa
/- THE CELL 'sum', in the pinned program and in every row, IS THE sha256 OF THE DUMP (.gsa) THAT YtahnjfbcklifoaaProg.lean LOADS. Nothing in Lean hashes anything: it is a label: what it is worth is what the hold of that sum in a sandbox is worth. -/
noncomputable def Try.pinned : Pinned := { name := "ytahnjfbcklifoaa", sum := "32f188aaf1a5bbe804c3dda2b02afdec912b7eb80413c87e17ea5b78b44c0594", checked := Try.checked }
namespace Rows
def none {H : Type} : Left H := { results := [], args := [] }

/-- 'varvelaw05.CrcSums': WHATEVER THE INPUT: true; the input reads as it did. -/
def crcSumsSpec : ChangeSpec := { name := "crcSums", fn := fun _ => fun
  | [d1, d2] => { results := [.lit (.bool true)], args := [d1, d2] }
  | _ => none }
def crcSumsRow : OpenClaim := { program := "ytahnjfbcklifoaa", sum := "32f188aaf1a5bbe804c3dda2b02afdec912b7eb80413c87e17ea5b78b44c0594", func := "varve/varvelaw05.CrcSums", spec := "crcSums", unfollowed := true, recurses := true, apart := false }
def CrcSumsSaid : Prop := crcSumsRow.holds Try.pinned (OpenSpec.ofChange crcSumsSpec)

/-- ITS FALSE NEIGHBOUR: 'it returns false'. Refute it at one input. -/
def crcSumsWrong : ChangeSpec := { name := "crcSums", fn := fun _ => fun
  | [d1, d2] => { results := [.lit (.bool false)], args := [d1, d2] }
  | _ => none }
def CrcSumsWrongFalsely : Prop := crcSumsRow.holds Try.pinned (OpenSpec.ofChange crcSumsWrong)

/-- 'varvelaw05.CrcParts': WHATEVER THE INPUT: true; the input reads as it did. -/
def crcPartsSpec : ChangeSpec := { name := "crcParts", fn := fun _ => fun
  | [d1, d2] => { results := [.lit (.bool true)], args := [d1, d2] }
  | _ => none }
def crcPartsRow : OpenClaim := { program := "ytahnjfbcklifoaa", sum := "32f188aaf1a5bbe804c3dda2b02afdec912b7eb80413c87e17ea5b78b44c0594", func := "varve/varvelaw05.CrcParts", spec := "crcParts", unfollowed := true, recurses := true, apart := false }
def CrcPartsSaid : Prop := crcPartsRow.holds Try.pinned (OpenSpec.ofChange crcPartsSpec)

/-- ITS FALSE NEIGHBOUR: 'it returns false'. Refute it at one input. -/
def crcPartsWrong : ChangeSpec := { name := "crcParts", fn := fun _ => fun
  | [d1, d2] => { results := [.lit (.bool false)], args := [d1, d2] }
  | _ => none }
def CrcPartsWrongFalsely : Prop := crcPartsRow.holds Try.pinned (OpenSpec.ofChange crcPartsWrong)

/-- 'varvelaw05.CrcBurst': WHATEVER THE INPUT: true; the input reads as it did. -/
def crcBurstSpec : ChangeSpec := { name := "crcBurst", fn := fun _ => fun
  | [d1, d2, d3] => { results := [.lit (.bool true)], args := [d1, d2, d3] }
  | _ => none }
def crcBurstRow : OpenClaim := { program := "ytahnjfbcklifoaa", sum := "32f188aaf1a5bbe804c3dda2b02afdec912b7eb80413c87e17ea5b78b44c0594", func := "varve/varvelaw05.CrcBurst", spec := "crcBurst", unfollowed := true, recurses := true, apart := false }
def CrcBurstSaid : Prop := crcBurstRow.holds Try.pinned (OpenSpec.ofChange crcBurstSpec)

/-- ITS FALSE NEIGHBOUR: 'it returns false'. Refute it at one input. -/
def crcBurstWrong : ChangeSpec := { name := "crcBurst", fn := fun _ => fun
  | [d1, d2, d3] => { results := [.lit (.bool false)], args := [d1, d2, d3] }
  | _ => none }
def CrcBurstWrongFalsely : Prop := crcBurstRow.holds Try.pinned (OpenSpec.ofChange crcBurstWrong)

/-- 'varvelaw05.CrcAny': WHATEVER THE INPUT: true; the input reads as it did. -/
def crcAnySpec : ChangeSpec := { name := "crcAny", fn := fun _ => fun
  | [d1, d2, d3] => { results := [.lit (.bool true)], args := [d1, d2, d3] }
  | _ => none }
def crcAnyRow : OpenClaim := { program := "ytahnjfbcklifoaa", sum := "32f188aaf1a5bbe804c3dda2b02afdec912b7eb80413c87e17ea5b78b44c0594", func := "varve/varvelaw05.CrcAny", spec := "crcAny", unfollowed := true, recurses := true, apart := false }
def CrcAnySaid : Prop := crcAnyRow.holds Try.pinned (OpenSpec.ofChange crcAnySpec)

/-- ITS FALSE NEIGHBOUR: 'it returns false'. Refute it at one input. -/
def crcAnyWrong : ChangeSpec := { name := "crcAny", fn := fun _ => fun
  | [d1, d2, d3] => { results := [.lit (.bool false)], args := [d1, d2, d3] }
  | _ => none }
def CrcAnyWrongFalsely : Prop := crcAnyRow.holds Try.pinned (OpenSpec.ofChange crcAnyWrong)

/-- 'varvelaw05.CrcTurned': WHATEVER THE INPUT: true; the input reads as it did. -/
def crcTurnedSpec : ChangeSpec := { name := "crcTurned", fn := fun _ => fun
  | [d1, d2, d3] => { results := [.lit (.bool true)], args := [d1, d2, d3] }
  | _ => none }
def crcTurnedRow : OpenClaim := { program := "ytahnjfbcklifoaa", sum := "32f188aaf1a5bbe804c3dda2b02afdec912b7eb80413c87e17ea5b78b44c0594", func := "varve/varvelaw05.CrcTurned", spec := "crcTurned", unfollowed := true, recurses := true, apart := false }
def CrcTurnedSaid : Prop := crcTurnedRow.holds Try.pinned (OpenSpec.ofChange crcTurnedSpec)

/-- ITS FALSE NEIGHBOUR: 'it returns false'. Refute it at one input. -/
def crcTurnedWrong : ChangeSpec := { name := "crcTurned", fn := fun _ => fun
  | [d1, d2, d3] => { results := [.lit (.bool false)], args := [d1, d2, d3] }
  | _ => none }
def CrcTurnedWrongFalsely : Prop := crcTurnedRow.holds Try.pinned (OpenSpec.ofChange crcTurnedWrong)

/-- 'varvelaw19.FileTurns': WHATEVER THE INPUT: true; the input reads as it did. -/
def fileTurnsSpec : ChangeSpec := { name := "fileTurns", fn := fun _ => fun
  | [d1, d2, d3] => { results := [.lit (.bool true)], args := [d1, d2, d3] }
  | _ => none }
def fileTurnsRow : OpenClaim := { program := "ytahnjfbcklifoaa", sum := "32f188aaf1a5bbe804c3dda2b02afdec912b7eb80413c87e17ea5b78b44c0594", func := "varve/varvelaw19.FileTurns", spec := "fileTurns", apart := false }
def FileTurnsSaid : Prop := fileTurnsRow.holds Try.pinned (OpenSpec.ofChange fileTurnsSpec)

/-- ITS FALSE NEIGHBOUR: 'it returns false'. Refute it at one input. -/
def fileTurnsWrong : ChangeSpec := { name := "fileTurns", fn := fun _ => fun
  | [d1, d2, d3] => { results := [.lit (.bool false)], args := [d1, d2, d3] }
  | _ => none }
def FileTurnsWrongFalsely : Prop := fileTurnsRow.holds Try.pinned (OpenSpec.ofChange fileTurnsWrong)

/-- 'varvelaw19.FileFalls': WHATEVER THE INPUT: true; the input reads as it did. -/
def fileFallsSpec : ChangeSpec := { name := "fileFalls", fn := fun _ => fun
  | [d1, d2, d3] => { results := [.lit (.bool true)], args := [d1, d2, d3] }
  | _ => none }
def fileFallsRow : OpenClaim := { program := "ytahnjfbcklifoaa", sum := "32f188aaf1a5bbe804c3dda2b02afdec912b7eb80413c87e17ea5b78b44c0594", func := "varve/varvelaw19.FileFalls", spec := "fileFalls", apart := false }
def FileFallsSaid : Prop := fileFallsRow.holds Try.pinned (OpenSpec.ofChange fileFallsSpec)

/-- ITS FALSE NEIGHBOUR: 'it returns false'. Refute it at one input. -/
def fileFallsWrong : ChangeSpec := { name := "fileFalls", fn := fun _ => fun
  | [d1, d2, d3] => { results := [.lit (.bool false)], args := [d1, d2, d3] }
  | _ => none }
def FileFallsWrongFalsely : Prop := fileFallsRow.holds Try.pinned (OpenSpec.ofChange fileFallsWrong)

/-- 'varvelaw19.FileSafe': WHATEVER THE INPUT: true; the input reads as it did. -/
def fileSafeSpec : ChangeSpec := { name := "fileSafe", fn := fun _ => fun
  | [d1, d2, d3] => { results := [.lit (.bool true)], args := [d1, d2, d3] }
  | _ => none }
def fileSafeRow : OpenClaim := { program := "ytahnjfbcklifoaa", sum := "32f188aaf1a5bbe804c3dda2b02afdec912b7eb80413c87e17ea5b78b44c0594", func := "varve/varvelaw19.FileSafe", spec := "fileSafe", apart := false }
def FileSafeSaid : Prop := fileSafeRow.holds Try.pinned (OpenSpec.ofChange fileSafeSpec)

/-- ITS FALSE NEIGHBOUR: 'it returns false'. Refute it at one input. -/
def fileSafeWrong : ChangeSpec := { name := "fileSafe", fn := fun _ => fun
  | [d1, d2, d3] => { results := [.lit (.bool false)], args := [d1, d2, d3] }
  | _ => none }
def FileSafeWrongFalsely : Prop := fileSafeRow.holds Try.pinned (OpenSpec.ofChange fileSafeWrong)

/-- 'varvelaw30.KmpLooks': WHATEVER THE INPUT: true; the input reads as it did. -/
def kmpLooksSpec : ChangeSpec := { name := "kmpLooks", fn := fun _ => fun
  | [d1, d2, d3] => { results := [.lit (.bool true)], args := [d1, d2, d3] }
  | _ => none }
def kmpLooksRow : OpenClaim := { program := "ytahnjfbcklifoaa", sum := "32f188aaf1a5bbe804c3dda2b02afdec912b7eb80413c87e17ea5b78b44c0594", func := "varve/varvelaw30.KmpLooks", spec := "kmpLooks", unfollowed := true, recurses := true, apart := false }
def KmpLooksSaid : Prop := kmpLooksRow.holds Try.pinned (OpenSpec.ofChange kmpLooksSpec)

/-- ITS FALSE NEIGHBOUR: 'it returns false'. Refute it at one input. -/
def kmpLooksWrong : ChangeSpec := { name := "kmpLooks", fn := fun _ => fun
  | [d1, d2, d3] => { results := [.lit (.bool false)], args := [d1, d2, d3] }
  | _ => none }
def KmpLooksWrongFalsely : Prop := kmpLooksRow.holds Try.pinned (OpenSpec.ofChange kmpLooksWrong)

/-- 'varvelaw30.KmpSteps': WHATEVER THE INPUT: true; the input reads as it did. -/
def kmpStepsSpec : ChangeSpec := { name := "kmpSteps", fn := fun _ => fun
  | [d1, d2, d3] => { results := [.lit (.bool true)], args := [d1, d2, d3] }
  | _ => none }
def kmpStepsRow : OpenClaim := { program := "ytahnjfbcklifoaa", sum := "32f188aaf1a5bbe804c3dda2b02afdec912b7eb80413c87e17ea5b78b44c0594", func := "varve/varvelaw30.KmpSteps", spec := "kmpSteps", unfollowed := true, recurses := true, apart := false }
def KmpStepsSaid : Prop := kmpStepsRow.holds Try.pinned (OpenSpec.ofChange kmpStepsSpec)

/-- ITS FALSE NEIGHBOUR: 'it returns false'. Refute it at one input. -/
def kmpStepsWrong : ChangeSpec := { name := "kmpSteps", fn := fun _ => fun
  | [d1, d2, d3] => { results := [.lit (.bool false)], args := [d1, d2, d3] }
  | _ => none }
def KmpStepsWrongFalsely : Prop := kmpStepsRow.holds Try.pinned (OpenSpec.ofChange kmpStepsWrong)

/-- 'varvelaw30.KmpFinds': WHATEVER THE INPUT: true; the input reads as it did. -/
def kmpFindsSpec : ChangeSpec := { name := "kmpFinds", fn := fun _ => fun
  | [d1, d2] => { results := [.lit (.bool true)], args := [d1, d2] }
  | _ => none }
def kmpFindsRow : OpenClaim := { program := "ytahnjfbcklifoaa", sum := "32f188aaf1a5bbe804c3dda2b02afdec912b7eb80413c87e17ea5b78b44c0594", func := "varve/varvelaw30.KmpFinds", spec := "kmpFinds", unfollowed := true, recurses := true, apart := false }
def KmpFindsSaid : Prop := kmpFindsRow.holds Try.pinned (OpenSpec.ofChange kmpFindsSpec)

/-- ITS FALSE NEIGHBOUR: 'it returns false'. Refute it at one input. -/
def kmpFindsWrong : ChangeSpec := { name := "kmpFinds", fn := fun _ => fun
  | [d1, d2] => { results := [.lit (.bool false)], args := [d1, d2] }
  | _ => none }
def KmpFindsWrongFalsely : Prop := kmpFindsRow.holds Try.pinned (OpenSpec.ofChange kmpFindsWrong)

/-- 'varvelaw30.KmpFail': WHATEVER THE INPUT: true; the input reads as it did. -/
def kmpFailSpec : ChangeSpec := { name := "kmpFail", fn := fun _ => fun
  | [d] => { results := [.lit (.bool true)], args := [d] }
  | _ => none }
def kmpFailRow : OpenClaim := { program := "ytahnjfbcklifoaa", sum := "32f188aaf1a5bbe804c3dda2b02afdec912b7eb80413c87e17ea5b78b44c0594", func := "varve/varvelaw30.KmpFail", spec := "kmpFail", unfollowed := true, recurses := true, apart := false }
def KmpFailSaid : Prop := kmpFailRow.holds Try.pinned (OpenSpec.ofChange kmpFailSpec)

/-- ITS FALSE NEIGHBOUR: 'it returns false'. Refute it at one input. -/
def kmpFailWrong : ChangeSpec := { name := "kmpFail", fn := fun _ => fun
  | [d] => { results := [.lit (.bool false)], args := [d] }
  | _ => none }
def KmpFailWrongFalsely : Prop := kmpFailRow.holds Try.pinned (OpenSpec.ofChange kmpFailWrong)

/- THE SECOND FORM. 'bulk': how many values and letters a reading holds, each counted each time it is reached (what is shared counts as often as it is met; a slice's spare places count too). A statement '..UptoSaid' is the law's where the arguments, and the package variables that the reading takes, are together of bulk at most 1048576: NARROWER than '..Said'. Prove '..Said' where nothing that the law and all that it calls make is longer than what came in: it says more and counts as full. Else prove '..UptoSaid'. A law counts once. -/
mutual
def uptoBulk {H : Type} : DataW H → Nat
  | .lit (.string bytes) => bytes.length + 1
  | .lit _ => 1
  | .nil => 1
  | .ptr d => uptoBulk d + 1
  | .slice elems spare => uptoBulkAll elems + uptoBulkAll spare + 1
  | .agg parts => uptoBulkAll parts + 1
  | .iface _ d => uptoBulk d + 1
  | .map entries => uptoBulkEntries entries + 1
  | .held _ => 1
def uptoBulkAll {H : Type} : List (DataW H) → Nat
  | [] => 0
  | d :: r => uptoBulk d + uptoBulkAll r
def uptoBulkEntries {H : Type} : List (Lit × DataW H) → Nat
  | [] => 0
  | x :: r => uptoBulkEntry x + uptoBulkEntries r
def uptoBulkEntry {H : Type} : Lit × DataW H → Nat
  | (.string bytes, d) => bytes.length + uptoBulk d + 1
  | (_, d) => uptoBulk d + 1
 end
def uptoSmall : (H : Type) → List (DataW H) → Bool := fun _ ds => decide (uptoBulkAll ds ≤ 1048576)
def OpenSpec.upto (s : _root_.Go.ChangeSpec) : _root_.Go.OpenSpec := { _root_.Go.OpenSpec.ofChange s with cond := some uptoSmall }

/-- 'varvelaw05.CrcSums', WHERE WHAT IT READS IS OF BULK AT MOST 1048576: true; the input reads as it did. -/
def crcSumsUptoRow : OpenClaim := { program := "ytahnjfbcklifoaa", sum := "32f188aaf1a5bbe804c3dda2b02afdec912b7eb80413c87e17ea5b78b44c0594", func := "varve/varvelaw05.CrcSums", spec := "crcSums", unfollowed := true, recurses := true, apart := false, narrowed := true }
def CrcSumsUptoSaid : Prop := crcSumsUptoRow.holds Try.pinned (OpenSpec.upto crcSumsSpec)

/-- 'varvelaw05.CrcParts', WHERE WHAT IT READS IS OF BULK AT MOST 1048576: true; the input reads as it did. -/
def crcPartsUptoRow : OpenClaim := { program := "ytahnjfbcklifoaa", sum := "32f188aaf1a5bbe804c3dda2b02afdec912b7eb80413c87e17ea5b78b44c0594", func := "varve/varvelaw05.CrcParts", spec := "crcParts", unfollowed := true, recurses := true, apart := false, narrowed := true }
def CrcPartsUptoSaid : Prop := crcPartsUptoRow.holds Try.pinned (OpenSpec.upto crcPartsSpec)

/-- 'varvelaw05.CrcBurst', WHERE WHAT IT READS IS OF BULK AT MOST 1048576: true; the input reads as it did. -/
def crcBurstUptoRow : OpenClaim := { program := "ytahnjfbcklifoaa", sum := "32f188aaf1a5bbe804c3dda2b02afdec912b7eb80413c87e17ea5b78b44c0594", func := "varve/varvelaw05.CrcBurst", spec := "crcBurst", unfollowed := true, recurses := true, apart := false, narrowed := true }
def CrcBurstUptoSaid : Prop := crcBurstUptoRow.holds Try.pinned (OpenSpec.upto crcBurstSpec)

/-- 'varvelaw05.CrcAny', WHERE WHAT IT READS IS OF BULK AT MOST 1048576: true; the input reads as it did. -/
def crcAnyUptoRow : OpenClaim := { program := "ytahnjfbcklifoaa", sum := "32f188aaf1a5bbe804c3dda2b02afdec912b7eb80413c87e17ea5b78b44c0594", func := "varve/varvelaw05.CrcAny", spec := "crcAny", unfollowed := true, recurses := true, apart := false, narrowed := true }
def CrcAnyUptoSaid : Prop := crcAnyUptoRow.holds Try.pinned (OpenSpec.upto crcAnySpec)

/-- 'varvelaw05.CrcTurned', WHERE WHAT IT READS IS OF BULK AT MOST 1048576: true; the input reads as it did. -/
def crcTurnedUptoRow : OpenClaim := { program := "ytahnjfbcklifoaa", sum := "32f188aaf1a5bbe804c3dda2b02afdec912b7eb80413c87e17ea5b78b44c0594", func := "varve/varvelaw05.CrcTurned", spec := "crcTurned", unfollowed := true, recurses := true, apart := false, narrowed := true }
def CrcTurnedUptoSaid : Prop := crcTurnedUptoRow.holds Try.pinned (OpenSpec.upto crcTurnedSpec)

/-- 'varvelaw19.FileTurns', WHERE WHAT IT READS IS OF BULK AT MOST 1048576: true; the input reads as it did. -/
def fileTurnsUptoRow : OpenClaim := { program := "ytahnjfbcklifoaa", sum := "32f188aaf1a5bbe804c3dda2b02afdec912b7eb80413c87e17ea5b78b44c0594", func := "varve/varvelaw19.FileTurns", spec := "fileTurns", apart := false, narrowed := true }
def FileTurnsUptoSaid : Prop := fileTurnsUptoRow.holds Try.pinned (OpenSpec.upto fileTurnsSpec)

/-- 'varvelaw19.FileFalls', WHERE WHAT IT READS IS OF BULK AT MOST 1048576: true; the input reads as it did. -/
def fileFallsUptoRow : OpenClaim := { program := "ytahnjfbcklifoaa", sum := "32f188aaf1a5bbe804c3dda2b02afdec912b7eb80413c87e17ea5b78b44c0594", func := "varve/varvelaw19.FileFalls", spec := "fileFalls", apart := false, narrowed := true }
def FileFallsUptoSaid : Prop := fileFallsUptoRow.holds Try.pinned (OpenSpec.upto fileFallsSpec)

/-- 'varvelaw19.FileSafe', WHERE WHAT IT READS IS OF BULK AT MOST 1048576: true; the input reads as it did. -/
def fileSafeUptoRow : OpenClaim := { program := "ytahnjfbcklifoaa", sum := "32f188aaf1a5bbe804c3dda2b02afdec912b7eb80413c87e17ea5b78b44c0594", func := "varve/varvelaw19.FileSafe", spec := "fileSafe", apart := false, narrowed := true }
def FileSafeUptoSaid : Prop := fileSafeUptoRow.holds Try.pinned (OpenSpec.upto fileSafeSpec)

/-- 'varvelaw30.KmpLooks', WHERE WHAT IT READS IS OF BULK AT MOST 1048576: true; the input reads as it did. -/
def kmpLooksUptoRow : OpenClaim := { program := "ytahnjfbcklifoaa", sum := "32f188aaf1a5bbe804c3dda2b02afdec912b7eb80413c87e17ea5b78b44c0594", func := "varve/varvelaw30.KmpLooks", spec := "kmpLooks", unfollowed := true, recurses := true, apart := false, narrowed := true }
def KmpLooksUptoSaid : Prop := kmpLooksUptoRow.holds Try.pinned (OpenSpec.upto kmpLooksSpec)

/-- 'varvelaw30.KmpSteps', WHERE WHAT IT READS IS OF BULK AT MOST 1048576: true; the input reads as it did. -/
def kmpStepsUptoRow : OpenClaim := { program := "ytahnjfbcklifoaa", sum := "32f188aaf1a5bbe804c3dda2b02afdec912b7eb80413c87e17ea5b78b44c0594", func := "varve/varvelaw30.KmpSteps", spec := "kmpSteps", unfollowed := true, recurses := true, apart := false, narrowed := true }
def KmpStepsUptoSaid : Prop := kmpStepsUptoRow.holds Try.pinned (OpenSpec.upto kmpStepsSpec)

/-- 'varvelaw30.KmpFinds', WHERE WHAT IT READS IS OF BULK AT MOST 1048576: true; the input reads as it did. -/
def kmpFindsUptoRow : OpenClaim := { program := "ytahnjfbcklifoaa", sum := "32f188aaf1a5bbe804c3dda2b02afdec912b7eb80413c87e17ea5b78b44c0594", func := "varve/varvelaw30.KmpFinds", spec := "kmpFinds", unfollowed := true, recurses := true, apart := false, narrowed := true }
def KmpFindsUptoSaid : Prop := kmpFindsUptoRow.holds Try.pinned (OpenSpec.upto kmpFindsSpec)

/-- 'varvelaw30.KmpFail', WHERE WHAT IT READS IS OF BULK AT MOST 1048576: true; the input reads as it did. -/
def kmpFailUptoRow : OpenClaim := { program := "ytahnjfbcklifoaa", sum := "32f188aaf1a5bbe804c3dda2b02afdec912b7eb80413c87e17ea5b78b44c0594", func := "varve/varvelaw30.KmpFail", spec := "kmpFail", unfollowed := true, recurses := true, apart := false, narrowed := true }
def KmpFailUptoSaid : Prop := kmpFailUptoRow.holds Try.pinned (OpenSpec.upto kmpFailSpec)

end Rows
end Go.Proofs.Ytahnjfbcklifoaa
