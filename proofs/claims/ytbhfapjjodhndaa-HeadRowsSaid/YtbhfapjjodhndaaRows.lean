/-
  No cell of these rows narrows 'for every input' (looked for: loops, veiled, ifaces, maps, wideKeys, modest, calm, conditions, laid).
  DERIVED. THE GIVEN ROWS OF THIS SEAT. 4 by the template 'for every input the law returns true; each argument reads behind the call as it read before'; 0 by the template 'total and deterministic' (their statements: YtbhfapjjodhndaaTotals.lean).
  GIVEN WITH THE SEED: the statements are not yours to turn. If you find one false, say at which input.
  Laid BY PROGRAM, IN A SANDBOX (cutbox-rows.mjs): the forced cells as the released guide's own fill.sh prints them over the translation 30d54f5123817059… (all of the seat's roots in one cut). By AI agents, Wed Nov 11 2026. No macro, syntax, notation, axiom, sorry.
-/
import Derived.Test.YtbhfapjjodhndaaChecked
import GoSem.Claim
import GoSem.ClaimJoined
import GoSem.ClaimMapViews
import Derived.JoinedTies
import Derived.KernelRfl
namespace Go.Proofs.Ytbhfapjjodhndaa
/- THE CELL 'sum', in the pinned program and in every row, IS THE sha256 OF THE DUMP (.gsa) THAT YtbhfapjjodhndaaProg.lean LOADS. Nothing in Lean hashes anything: it is a label: what it is worth is what the hold of that sum in a sandbox is worth. -/
noncomputable def Try.pinned : Pinned := { name := "ytbhfapjjodhndaa", sum := "30d54f51238170590cfb130d75b394e9d6754d8fa0de7847395aa14309f29f7b", checked := Try.checked }
namespace Rows
def none {H : Type} : Left H := { results := [], args := [] }

/-- 'varvelaw21.HeadHeads': WHATEVER THE INPUT: true; the input reads as it did. -/
def headHeadsSpec : ChangeSpec := { name := "headHeads", fn := fun _ => fun
  | [d1, d2] => { results := [.lit (.bool true)], args := [d1, d2] }
  | _ => none }
def headHeadsRow : OpenClaim := { program := "ytbhfapjjodhndaa", sum := "30d54f51238170590cfb130d75b394e9d6754d8fa0de7847395aa14309f29f7b", func := "varve/varvelaw21.HeadHeads", spec := "headHeads", inPlace := ["internal/abi.NoEscape"], unfollowed := true, recurses := true, apart := false }
def HeadHeadsSaid : Prop := headHeadsRow.holds Try.pinned (OpenSpec.ofChange headHeadsSpec)

/-- ITS FALSE NEIGHBOUR: 'it returns false'. Refute it at one input. -/
def headHeadsWrong : ChangeSpec := { name := "headHeads", fn := fun _ => fun
  | [d1, d2] => { results := [.lit (.bool false)], args := [d1, d2] }
  | _ => none }
def HeadHeadsWrongFalsely : Prop := headHeadsRow.holds Try.pinned (OpenSpec.ofChange headHeadsWrong)

/-- 'varvelaw21.HeadFoots': WHATEVER THE INPUT: true; the input reads as it did. -/
def headFootsSpec : ChangeSpec := { name := "headFoots", fn := fun _ => fun
  | [d1, d2, d3] => { results := [.lit (.bool true)], args := [d1, d2, d3] }
  | _ => none }
def headFootsRow : OpenClaim := { program := "ytbhfapjjodhndaa", sum := "30d54f51238170590cfb130d75b394e9d6754d8fa0de7847395aa14309f29f7b", func := "varve/varvelaw21.HeadFoots", spec := "headFoots", inPlace := ["internal/abi.NoEscape"], unfollowed := true, recurses := true, apart := false }
def HeadFootsSaid : Prop := headFootsRow.holds Try.pinned (OpenSpec.ofChange headFootsSpec)

/-- ITS FALSE NEIGHBOUR: 'it returns false'. Refute it at one input. -/
def headFootsWrong : ChangeSpec := { name := "headFoots", fn := fun _ => fun
  | [d1, d2, d3] => { results := [.lit (.bool false)], args := [d1, d2, d3] }
  | _ => none }
def HeadFootsWrongFalsely : Prop := headFootsRow.holds Try.pinned (OpenSpec.ofChange headFootsWrong)

/-- 'varvelaw21.HeadBack': WHATEVER THE INPUT: true; the input reads as it did. -/
def headBackSpec : ChangeSpec := { name := "headBack", fn := fun _ => fun
  | [d1, d2, d3] => { results := [.lit (.bool true)], args := [d1, d2, d3] }
  | _ => none }
def headBackRow : OpenClaim := { program := "ytbhfapjjodhndaa", sum := "30d54f51238170590cfb130d75b394e9d6754d8fa0de7847395aa14309f29f7b", func := "varve/varvelaw21.HeadBack", spec := "headBack", inPlace := ["internal/abi.NoEscape"], unfollowed := true, recurses := true, apart := false }
def HeadBackSaid : Prop := headBackRow.holds Try.pinned (OpenSpec.ofChange headBackSpec)

/-- ITS FALSE NEIGHBOUR: 'it returns false'. Refute it at one input. -/
def headBackWrong : ChangeSpec := { name := "headBack", fn := fun _ => fun
  | [d1, d2, d3] => { results := [.lit (.bool false)], args := [d1, d2, d3] }
  | _ => none }
def HeadBackWrongFalsely : Prop := headBackRow.holds Try.pinned (OpenSpec.ofChange headBackWrong)

/-- 'varvelaw21.HeadRows': WHATEVER THE INPUT: true; the input reads as it did. -/
def headRowsSpec : ChangeSpec := { name := "headRows", fn := fun _ => fun
  | [d1, d2, d3] => { results := [.lit (.bool true)], args := [d1, d2, d3] }
  | _ => none }
def headRowsRow : OpenClaim := { program := "ytbhfapjjodhndaa", sum := "30d54f51238170590cfb130d75b394e9d6754d8fa0de7847395aa14309f29f7b", func := "varve/varvelaw21.HeadRows", spec := "headRows", inPlace := ["internal/abi.NoEscape"], unfollowed := true, recurses := true, apart := false }
def HeadRowsSaid : Prop := headRowsRow.holds Try.pinned (OpenSpec.ofChange headRowsSpec)

/-- ITS FALSE NEIGHBOUR: 'it returns false'. Refute it at one input. -/
def headRowsWrong : ChangeSpec := { name := "headRows", fn := fun _ => fun
  | [d1, d2, d3] => { results := [.lit (.bool false)], args := [d1, d2, d3] }
  | _ => none }
def HeadRowsWrongFalsely : Prop := headRowsRow.holds Try.pinned (OpenSpec.ofChange headRowsWrong)

/- THE SECOND FORM. 'bulk': how many values and letters a reading holds, each counted each time it is reached (what is shared counts as often as it is met; a slice's spare places count too). A statement '..UptoSaid' is the law's where the arguments, and the package variables that the reading takes, are together of bulk at most 1048576: NARROWER than '..Said'. Prove '..Said' where nothing that the law and all that it calls make is longer than what came in: it says more and counts as full. Else prove '..UptoSaid'. A law counts once. -/
mutual
def uptoBulk {H : Type} : DataW H → Nat
  | .lit (.string bytes) => bytes.length + 1
  | .lit _ => 1
  | .nil => 1
  | .ptr d => uptoBulk d + 1
  | .slice elems spare => uptoBulkAll elems + uptoBulkAll spare + 1
  | .agg parts => uptoBulkAll parts + 1
  | .iface _ d => uptoBulk d + 1
  | .map entries => uptoBulkEntries entries + 1
  | .held _ => 1
def uptoBulkAll {H : Type} : List (DataW H) → Nat
  | [] => 0
  | d :: r => uptoBulk d + uptoBulkAll r
def uptoBulkEntries {H : Type} : List (Lit × DataW H) → Nat
  | [] => 0
  | x :: r => uptoBulkEntry x + uptoBulkEntries r
def uptoBulkEntry {H : Type} : Lit × DataW H → Nat
  | (.string bytes, d) => bytes.length + uptoBulk d + 1
  | (_, d) => uptoBulk d + 1
 end
def uptoSmall : (H : Type) → List (DataW H) → Bool := fun _ ds => decide (uptoBulkAll ds ≤ 1048576)
def OpenSpec.upto (s : _root_.Go.ChangeSpec) : _root_.Go.OpenSpec := { _root_.Go.OpenSpec.ofChange s with cond := some uptoSmall }

/-- 'varvelaw21.HeadHeads', WHERE WHAT IT READS IS OF BULK AT MOST 1048576: true; the input reads as it did. -/
def headHeadsUptoRow : OpenClaim := { program := "ytbhfapjjodhndaa", sum := "30d54f51238170590cfb130d75b394e9d6754d8fa0de7847395aa14309f29f7b", func := "varve/varvelaw21.HeadHeads", spec := "headHeads", inPlace := ["internal/abi.NoEscape"], unfollowed := true, recurses := true, apart := false, narrowed := true }
def HeadHeadsUptoSaid : Prop := headHeadsUptoRow.holds Try.pinned (OpenSpec.upto headHeadsSpec)

/-- 'varvelaw21.HeadFoots', WHERE WHAT IT READS IS OF BULK AT MOST 1048576: true; the input reads as it did. -/
def headFootsUptoRow : OpenClaim := { program := "ytbhfapjjodhndaa", sum := "30d54f51238170590cfb130d75b394e9d6754d8fa0de7847395aa14309f29f7b", func := "varve/varvelaw21.HeadFoots", spec := "headFoots", inPlace := ["internal/abi.NoEscape"], unfollowed := true, recurses := true, apart := false, narrowed := true }
def HeadFootsUptoSaid : Prop := headFootsUptoRow.holds Try.pinned (OpenSpec.upto headFootsSpec)

/-- 'varvelaw21.HeadBack', WHERE WHAT IT READS IS OF BULK AT MOST 1048576: true; the input reads as it did. -/
def headBackUptoRow : OpenClaim := { program := "ytbhfapjjodhndaa", sum := "30d54f51238170590cfb130d75b394e9d6754d8fa0de7847395aa14309f29f7b", func := "varve/varvelaw21.HeadBack", spec := "headBack", inPlace := ["internal/abi.NoEscape"], unfollowed := true, recurses := true, apart := false, narrowed := true }
def HeadBackUptoSaid : Prop := headBackUptoRow.holds Try.pinned (OpenSpec.upto headBackSpec)

/-- 'varvelaw21.HeadRows', WHERE WHAT IT READS IS OF BULK AT MOST 1048576: true; the input reads as it did. -/
def headRowsUptoRow : OpenClaim := { program := "ytbhfapjjodhndaa", sum := "30d54f51238170590cfb130d75b394e9d6754d8fa0de7847395aa14309f29f7b", func := "varve/varvelaw21.HeadRows", spec := "headRows", inPlace := ["internal/abi.NoEscape"], unfollowed := true, recurses := true, apart := false, narrowed := true }
def HeadRowsUptoSaid : Prop := headRowsUptoRow.holds Try.pinned (OpenSpec.upto headRowsSpec)

end Rows
end Go.Proofs.Ytbhfapjjodhndaa
