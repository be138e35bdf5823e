/-
  No cell of these rows narrows 'for every input' (looked for: loops, veiled, ifaces, maps, wideKeys, modest, calm, conditions, laid).
  DERIVED. THE GIVEN ROWS OF THIS SEAT. 3 by the template 'for every input the law returns true; each argument reads behind the call as it read before'; 0 by the template 'total and deterministic' (their statements: YtplbebcckffgeaaTotals.lean).
  GIVEN WITH THE SEED: the statements are not yours to turn. If you find one false, say at which input.
  Laid BY PROGRAM, IN A SANDBOX (cutbox-rows.mjs): the forced cells as the released guide's own fill.sh prints them over the translation 81be803702bdd47d… (all of the seat's roots in one cut). By AI agents, Wed Nov 11 2026. No macro, syntax, notation, axiom, sorry.
-/
import Derived.Test.YtplbebcckffgeaaChecked
import GoSem.Claim
import GoSem.ClaimJoined
import GoSem.ClaimMapViews
import Derived.JoinedTies
import Derived.KernelRfl
namespace Go.Proofs.Ytplbebcckffgeaa
/- THE CELL 'sum', in the pinned program and in every row, IS THE sha256 OF THE DUMP (.gsa) THAT YtplbebcckffgeaaProg.lean LOADS. Nothing in Lean hashes anything: it is a label: what it is worth is what the hold of that sum in a sandbox is worth. -/
noncomputable def Try.pinned : Pinned := { name := "ytplbebcckffgeaa", sum := "81be803702bdd47d255ab71e1b4d982f5d6578bd31d7396a2dcb06f7ef61cd79", checked := Try.checked }
namespace Rows
def none {H : Type} : Left H := { results := [], args := [] }

/-- 'varvelaw24.EntryTurns': WHATEVER THE INPUT: true; the input reads as it did. -/
def entryTurnsSpec : ChangeSpec := { name := "entryTurns", fn := fun _ => fun
  | [d1, d2, d3] => { results := [.lit (.bool true)], args := [d1, d2, d3] }
  | _ => none }
def entryTurnsRow : OpenClaim := { program := "ytplbebcckffgeaa", sum := "81be803702bdd47d255ab71e1b4d982f5d6578bd31d7396a2dcb06f7ef61cd79", func := "varve/varvelaw24.EntryTurns", spec := "entryTurns", apart := false }
def EntryTurnsSaid : Prop := entryTurnsRow.holds Try.pinned (OpenSpec.ofChange entryTurnsSpec)

/-- ITS FALSE NEIGHBOUR: 'it returns false'. Refute it at one input. -/
def entryTurnsWrong : ChangeSpec := { name := "entryTurns", fn := fun _ => fun
  | [d1, d2, d3] => { results := [.lit (.bool false)], args := [d1, d2, d3] }
  | _ => none }
def EntryTurnsWrongFalsely : Prop := entryTurnsRow.holds Try.pinned (OpenSpec.ofChange entryTurnsWrong)

/-- 'varvelaw24.EntryRows': WHATEVER THE INPUT: true; the input reads as it did. -/
def entryRowsSpec : ChangeSpec := { name := "entryRows", fn := fun _ => fun
  | [d1, d2, d3] => { results := [.lit (.bool true)], args := [d1, d2, d3] }
  | _ => none }
def entryRowsRow : OpenClaim := { program := "ytplbebcckffgeaa", sum := "81be803702bdd47d255ab71e1b4d982f5d6578bd31d7396a2dcb06f7ef61cd79", func := "varve/varvelaw24.EntryRows", spec := "entryRows", apart := false }
def EntryRowsSaid : Prop := entryRowsRow.holds Try.pinned (OpenSpec.ofChange entryRowsSpec)

/-- ITS FALSE NEIGHBOUR: 'it returns false'. Refute it at one input. -/
def entryRowsWrong : ChangeSpec := { name := "entryRows", fn := fun _ => fun
  | [d1, d2, d3] => { results := [.lit (.bool false)], args := [d1, d2, d3] }
  | _ => none }
def EntryRowsWrongFalsely : Prop := entryRowsRow.holds Try.pinned (OpenSpec.ofChange entryRowsWrong)

/-- 'varvelaw24.EntryDrops': WHATEVER THE INPUT: true; the input reads as it did. -/
def entryDropsSpec : ChangeSpec := { name := "entryDrops", fn := fun _ => fun
  | [d1, d2, d3] => { results := [.lit (.bool true)], args := [d1, d2, d3] }
  | _ => none }
def entryDropsRow : OpenClaim := { program := "ytplbebcckffgeaa", sum := "81be803702bdd47d255ab71e1b4d982f5d6578bd31d7396a2dcb06f7ef61cd79", func := "varve/varvelaw24.EntryDrops", spec := "entryDrops", apart := false }
def EntryDropsSaid : Prop := entryDropsRow.holds Try.pinned (OpenSpec.ofChange entryDropsSpec)

/-- ITS FALSE NEIGHBOUR: 'it returns false'. Refute it at one input. -/
def entryDropsWrong : ChangeSpec := { name := "entryDrops", fn := fun _ => fun
  | [d1, d2, d3] => { results := [.lit (.bool false)], args := [d1, d2, d3] }
  | _ => none }
def EntryDropsWrongFalsely : Prop := entryDropsRow.holds Try.pinned (OpenSpec.ofChange entryDropsWrong)

/- THE SECOND FORM. 'bulk': how many values and letters a reading holds, each counted each time it is reached (what is shared counts as often as it is met; a slice's spare places count too). A statement '..UptoSaid' is the law's where the arguments, and the package variables that the reading takes, are together of bulk at most 1048576: NARROWER than '..Said'. Prove '..Said' where nothing that the law and all that it calls make is longer than what came in: it says more and counts as full. Else prove '..UptoSaid'. A law counts once. -/
mutual
def uptoBulk {H : Type} : DataW H → Nat
  | .lit (.string bytes) => bytes.length + 1
  | .lit _ => 1
  | .nil => 1
  | .ptr d => uptoBulk d + 1
  | .slice elems spare => uptoBulkAll elems + uptoBulkAll spare + 1
  | .agg parts => uptoBulkAll parts + 1
  | .iface _ d => uptoBulk d + 1
  | .map entries => uptoBulkEntries entries + 1
  | .held _ => 1
def uptoBulkAll {H : Type} : List (DataW H) → Nat
  | [] => 0
  | d :: r => uptoBulk d + uptoBulkAll r
def uptoBulkEntries {H : Type} : List (Lit × DataW H) → Nat
  | [] => 0
  | x :: r => uptoBulkEntry x + uptoBulkEntries r
def uptoBulkEntry {H : Type} : Lit × DataW H → Nat
  | (.string bytes, d) => bytes.length + uptoBulk d + 1
  | (_, d) => uptoBulk d + 1
 end
def uptoSmall : (H : Type) → List (DataW H) → Bool := fun _ ds => decide (uptoBulkAll ds ≤ 1048576)
def OpenSpec.upto (s : _root_.Go.ChangeSpec) : _root_.Go.OpenSpec := { _root_.Go.OpenSpec.ofChange s with cond := some uptoSmall }

/-- 'varvelaw24.EntryTurns', WHERE WHAT IT READS IS OF BULK AT MOST 1048576: true; the input reads as it did. -/
def entryTurnsUptoRow : OpenClaim := { program := "ytplbebcckffgeaa", sum := "81be803702bdd47d255ab71e1b4d982f5d6578bd31d7396a2dcb06f7ef61cd79", func := "varve/varvelaw24.EntryTurns", spec := "entryTurns", apart := false, narrowed := true }
def EntryTurnsUptoSaid : Prop := entryTurnsUptoRow.holds Try.pinned (OpenSpec.upto entryTurnsSpec)

/-- 'varvelaw24.EntryRows', WHERE WHAT IT READS IS OF BULK AT MOST 1048576: true; the input reads as it did. -/
def entryRowsUptoRow : OpenClaim := { program := "ytplbebcckffgeaa", sum := "81be803702bdd47d255ab71e1b4d982f5d6578bd31d7396a2dcb06f7ef61cd79", func := "varve/varvelaw24.EntryRows", spec := "entryRows", apart := false, narrowed := true }
def EntryRowsUptoSaid : Prop := entryRowsUptoRow.holds Try.pinned (OpenSpec.upto entryRowsSpec)

/-- 'varvelaw24.EntryDrops', WHERE WHAT IT READS IS OF BULK AT MOST 1048576: true; the input reads as it did. -/
def entryDropsUptoRow : OpenClaim := { program := "ytplbebcckffgeaa", sum := "81be803702bdd47d255ab71e1b4d982f5d6578bd31d7396a2dcb06f7ef61cd79", func := "varve/varvelaw24.EntryDrops", spec := "entryDrops", apart := false, narrowed := true }
def EntryDropsUptoSaid : Prop := entryDropsUptoRow.holds Try.pinned (OpenSpec.upto entryDropsSpec)

end Rows
end Go.Proofs.Ytplbebcckffgeaa
