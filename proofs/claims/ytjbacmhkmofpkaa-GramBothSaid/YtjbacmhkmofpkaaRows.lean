/-
  No cell of these rows narrows 'for every input' (looked for: loops, veiled, ifaces, maps, wideKeys, modest, calm, conditions, laid).
  DERIVED. THE GIVEN ROWS OF THIS SEAT. 5 by the template 'for every input the law returns true; each argument reads behind the call as it read before'; 0 by the template 'total and deterministic' (their statements: YtjbacmhkmofpkaaTotals.lean).
  GIVEN WITH THE SEED: the statements are not yours to turn. If you find one false, say at which input.
  Laid BY PROGRAM, IN A SANDBOX (cutbox-rows.mjs): the forced cells as the released guide's own fill.sh prints them over the translation 9aa64ae554c598d1… (all of the seat's roots in one cut). By AI agents, Wed Nov 11 2026. No macro, syntax, notation, axiom, sorry.
-/
import Derived.Test.YtjbacmhkmofpkaaChecked
import GoSem.Claim
import GoSem.ClaimJoined
import GoSem.ClaimMapViews
import Derived.JoinedTies
import Derived.KernelRfl
namespace Go.Proofs.Ytjbacmhkmofpkaa
/- THE CELL 'sum', in the pinned program and in every row, IS THE sha256 OF THE DUMP (.gsa) THAT YtjbacmhkmofpkaaProg.lean LOADS. Nothing in Lean hashes anything: it is a label: what it is worth is what the hold of that sum in a sandbox is worth. -/
noncomputable def Try.pinned : Pinned := { name := "ytjbacmhkmofpkaa", sum := "9aa64ae554c598d1bb6de1b354487797988cf140e0bc1fdbdc9f62a705e9858c", checked := Try.checked }
namespace Rows
def none {H : Type} : Left H := { results := [], args := [] }

/-- 'varvelaw40.GramLooks': WHATEVER THE INPUT: true; the input reads as it did. -/
def gramLooksSpec : ChangeSpec := { name := "gramLooks", fn := fun _ => fun
  | [d1, d2, d3] => { results := [.lit (.bool true)], args := [d1, d2, d3] }
  | _ => none }
def gramLooksRow : OpenClaim := { program := "ytjbacmhkmofpkaa", sum := "9aa64ae554c598d1bb6de1b354487797988cf140e0bc1fdbdc9f62a705e9858c", func := "varve/varvelaw40.GramLooks", spec := "gramLooks", unfollowed := true, recurses := true, apart := false }
def GramLooksSaid : Prop := gramLooksRow.holds Try.pinned (OpenSpec.ofChange gramLooksSpec)

/-- ITS FALSE NEIGHBOUR: 'it returns false'. Refute it at one input. -/
def gramLooksWrong : ChangeSpec := { name := "gramLooks", fn := fun _ => fun
  | [d1, d2, d3] => { results := [.lit (.bool false)], args := [d1, d2, d3] }
  | _ => none }
def GramLooksWrongFalsely : Prop := gramLooksRow.holds Try.pinned (OpenSpec.ofChange gramLooksWrong)

/-- 'varvelaw40.GramBytes': WHATEVER THE INPUT: true; the input reads as it did. -/
def gramBytesSpec : ChangeSpec := { name := "gramBytes", fn := fun _ => fun
  | [d1, d2, d3] => { results := [.lit (.bool true)], args := [d1, d2, d3] }
  | _ => none }
def gramBytesRow : OpenClaim := { program := "ytjbacmhkmofpkaa", sum := "9aa64ae554c598d1bb6de1b354487797988cf140e0bc1fdbdc9f62a705e9858c", func := "varve/varvelaw40.GramBytes", spec := "gramBytes", unfollowed := true, recurses := true, apart := false }
def GramBytesSaid : Prop := gramBytesRow.holds Try.pinned (OpenSpec.ofChange gramBytesSpec)

/-- ITS FALSE NEIGHBOUR: 'it returns false'. Refute it at one input. -/
def gramBytesWrong : ChangeSpec := { name := "gramBytes", fn := fun _ => fun
  | [d1, d2, d3] => { results := [.lit (.bool false)], args := [d1, d2, d3] }
  | _ => none }
def GramBytesWrongFalsely : Prop := gramBytesRow.holds Try.pinned (OpenSpec.ofChange gramBytesWrong)

/-- 'varvelaw40.GramBoth': WHATEVER THE INPUT: true; the input reads as it did. -/
def gramBothSpec : ChangeSpec := { name := "gramBoth", fn := fun _ => fun
  | [d1, d2, d3] => { results := [.lit (.bool true)], args := [d1, d2, d3] }
  | _ => none }
def gramBothRow : OpenClaim := { program := "ytjbacmhkmofpkaa", sum := "9aa64ae554c598d1bb6de1b354487797988cf140e0bc1fdbdc9f62a705e9858c", func := "varve/varvelaw40.GramBoth", spec := "gramBoth", unfollowed := true, recurses := true, apart := false }
def GramBothSaid : Prop := gramBothRow.holds Try.pinned (OpenSpec.ofChange gramBothSpec)

/-- ITS FALSE NEIGHBOUR: 'it returns false'. Refute it at one input. -/
def gramBothWrong : ChangeSpec := { name := "gramBoth", fn := fun _ => fun
  | [d1, d2, d3] => { results := [.lit (.bool false)], args := [d1, d2, d3] }
  | _ => none }
def GramBothWrongFalsely : Prop := gramBothRow.holds Try.pinned (OpenSpec.ofChange gramBothWrong)

/-- 'varvelaw40.GramBack': WHATEVER THE INPUT: true; the input reads as it did. -/
def gramBackSpec : ChangeSpec := { name := "gramBack", fn := fun _ => fun
  | [d1, d2, d3] => { results := [.lit (.bool true)], args := [d1, d2, d3] }
  | _ => none }
def gramBackRow : OpenClaim := { program := "ytjbacmhkmofpkaa", sum := "9aa64ae554c598d1bb6de1b354487797988cf140e0bc1fdbdc9f62a705e9858c", func := "varve/varvelaw40.GramBack", spec := "gramBack", unfollowed := true, recurses := true, apart := false }
def GramBackSaid : Prop := gramBackRow.holds Try.pinned (OpenSpec.ofChange gramBackSpec)

/-- ITS FALSE NEIGHBOUR: 'it returns false'. Refute it at one input. -/
def gramBackWrong : ChangeSpec := { name := "gramBack", fn := fun _ => fun
  | [d1, d2, d3] => { results := [.lit (.bool false)], args := [d1, d2, d3] }
  | _ => none }
def GramBackWrongFalsely : Prop := gramBackRow.holds Try.pinned (OpenSpec.ofChange gramBackWrong)

/-- 'varvelaw40.GramNever': WHATEVER THE INPUT: true; the input reads as it did. -/
def gramNeverSpec : ChangeSpec := { name := "gramNever", fn := fun _ => fun
  | [d1, d2, d3] => { results := [.lit (.bool true)], args := [d1, d2, d3] }
  | _ => none }
def gramNeverRow : OpenClaim := { program := "ytjbacmhkmofpkaa", sum := "9aa64ae554c598d1bb6de1b354487797988cf140e0bc1fdbdc9f62a705e9858c", func := "varve/varvelaw40.GramNever", spec := "gramNever", unfollowed := true, recurses := true, apart := false }
def GramNeverSaid : Prop := gramNeverRow.holds Try.pinned (OpenSpec.ofChange gramNeverSpec)

/-- ITS FALSE NEIGHBOUR: 'it returns false'. Refute it at one input. -/
def gramNeverWrong : ChangeSpec := { name := "gramNever", fn := fun _ => fun
  | [d1, d2, d3] => { results := [.lit (.bool false)], args := [d1, d2, d3] }
  | _ => none }
def GramNeverWrongFalsely : Prop := gramNeverRow.holds Try.pinned (OpenSpec.ofChange gramNeverWrong)

/- THE SECOND FORM. 'bulk': how many values and letters a reading holds, each counted each time it is reached (what is shared counts as often as it is met; a slice's spare places count too). A statement '..UptoSaid' is the law's where the arguments, and the package variables that the reading takes, are together of bulk at most 1048576: NARROWER than '..Said'. Prove '..Said' where nothing that the law and all that it calls make is longer than what came in: it says more and counts as full. Else prove '..UptoSaid'. A law counts once. -/
mutual
def uptoBulk {H : Type} : DataW H → Nat
  | .lit (.string bytes) => bytes.length + 1
  | .lit _ => 1
  | .nil => 1
  | .ptr d => uptoBulk d + 1
  | .slice elems spare => uptoBulkAll elems + uptoBulkAll spare + 1
  | .agg parts => uptoBulkAll parts + 1
  | .iface _ d => uptoBulk d + 1
  | .map entries => uptoBulkEntries entries + 1
  | .held _ => 1
def uptoBulkAll {H : Type} : List (DataW H) → Nat
  | [] => 0
  | d :: r => uptoBulk d + uptoBulkAll r
def uptoBulkEntries {H : Type} : List (Lit × DataW H) → Nat
  | [] => 0
  | x :: r => uptoBulkEntry x + uptoBulkEntries r
def uptoBulkEntry {H : Type} : Lit × DataW H → Nat
  | (.string bytes, d) => bytes.length + uptoBulk d + 1
  | (_, d) => uptoBulk d + 1
 end
def uptoSmall : (H : Type) → List (DataW H) → Bool := fun _ ds => decide (uptoBulkAll ds ≤ 1048576)
def OpenSpec.upto (s : _root_.Go.ChangeSpec) : _root_.Go.OpenSpec := { _root_.Go.OpenSpec.ofChange s with cond := some uptoSmall }

/-- 'varvelaw40.GramLooks', WHERE WHAT IT READS IS OF BULK AT MOST 1048576: true; the input reads as it did. -/
def gramLooksUptoRow : OpenClaim := { program := "ytjbacmhkmofpkaa", sum := "9aa64ae554c598d1bb6de1b354487797988cf140e0bc1fdbdc9f62a705e9858c", func := "varve/varvelaw40.GramLooks", spec := "gramLooks", unfollowed := true, recurses := true, apart := false, narrowed := true }
def GramLooksUptoSaid : Prop := gramLooksUptoRow.holds Try.pinned (OpenSpec.upto gramLooksSpec)

/-- 'varvelaw40.GramBytes', WHERE WHAT IT READS IS OF BULK AT MOST 1048576: true; the input reads as it did. -/
def gramBytesUptoRow : OpenClaim := { program := "ytjbacmhkmofpkaa", sum := "9aa64ae554c598d1bb6de1b354487797988cf140e0bc1fdbdc9f62a705e9858c", func := "varve/varvelaw40.GramBytes", spec := "gramBytes", unfollowed := true, recurses := true, apart := false, narrowed := true }
def GramBytesUptoSaid : Prop := gramBytesUptoRow.holds Try.pinned (OpenSpec.upto gramBytesSpec)

/-- 'varvelaw40.GramBoth', WHERE WHAT IT READS IS OF BULK AT MOST 1048576: true; the input reads as it did. -/
def gramBothUptoRow : OpenClaim := { program := "ytjbacmhkmofpkaa", sum := "9aa64ae554c598d1bb6de1b354487797988cf140e0bc1fdbdc9f62a705e9858c", func := "varve/varvelaw40.GramBoth", spec := "gramBoth", unfollowed := true, recurses := true, apart := false, narrowed := true }
def GramBothUptoSaid : Prop := gramBothUptoRow.holds Try.pinned (OpenSpec.upto gramBothSpec)

/-- 'varvelaw40.GramBack', WHERE WHAT IT READS IS OF BULK AT MOST 1048576: true; the input reads as it did. -/
def gramBackUptoRow : OpenClaim := { program := "ytjbacmhkmofpkaa", sum := "9aa64ae554c598d1bb6de1b354487797988cf140e0bc1fdbdc9f62a705e9858c", func := "varve/varvelaw40.GramBack", spec := "gramBack", unfollowed := true, recurses := true, apart := false, narrowed := true }
def GramBackUptoSaid : Prop := gramBackUptoRow.holds Try.pinned (OpenSpec.upto gramBackSpec)

/-- 'varvelaw40.GramNever', WHERE WHAT IT READS IS OF BULK AT MOST 1048576: true; the input reads as it did. -/
def gramNeverUptoRow : OpenClaim := { program := "ytjbacmhkmofpkaa", sum := "9aa64ae554c598d1bb6de1b354487797988cf140e0bc1fdbdc9f62a705e9858c", func := "varve/varvelaw40.GramNever", spec := "gramNever", unfollowed := true, recurses := true, apart := false, narrowed := true }
def GramNeverUptoSaid : Prop := gramNeverUptoRow.holds Try.pinned (OpenSpec.upto gramNeverSpec)

end Rows
end Go.Proofs.Ytjbacmhkmofpkaa
