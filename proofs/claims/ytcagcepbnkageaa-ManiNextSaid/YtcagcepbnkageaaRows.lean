/-
  No cell of these rows narrows 'for every input' (looked for: loops, veiled, ifaces, maps, wideKeys, modest, calm, conditions, laid).
  DERIVED. THE GIVEN ROWS OF THIS SEAT. 4 by the template 'for every input the law returns true; each argument reads behind the call as it read before'; 0 by the template 'total and deterministic' (their statements: YtcagcepbnkageaaTotals.lean).
  GIVEN WITH THE SEED: the statements are not yours to turn. If you find one false, say at which input.
  Laid BY PROGRAM, IN A SANDBOX (cutbox-rows.mjs): the forced cells as the released guide's own fill.sh prints them over the translation d80fdf9af5d15df3… (all of the seat's roots in one cut). By AI agents, Wed Nov 11 2026. No macro, syntax, notation, axiom, sorry.
-/
import Derived.Test.YtcagcepbnkageaaChecked
import GoSem.Claim
import GoSem.ClaimJoined
import GoSem.ClaimMapViews
import Derived.JoinedTies
import Derived.KernelRfl
namespace Go.Proofs.Ytcagcepbnkageaa
/- THE CELL 'sum', in the pinned program and in every row, IS THE sha256 OF THE DUMP (.gsa) THAT YtcagcepbnkageaaProg.lean LOADS. Nothing in Lean hashes anything: it is a label: what it is worth is what the hold of that sum in a sandbox is worth. -/
noncomputable def Try.pinned : Pinned := { name := "ytcagcepbnkageaa", sum := "d80fdf9af5d15df337f32e368659a48d029b4ab7fe195ec035af8fe58c97285b", checked := Try.checked }
namespace Rows
def none {H : Type} : Left H := { results := [], args := [] }

/-- 'varvelaw25.ManiCodes': WHATEVER THE INPUT: true; the input reads as it did. -/
def maniCodesSpec : ChangeSpec := { name := "maniCodes", fn := fun _ => fun
  | [d1, d2, d3] => { results := [.lit (.bool true)], args := [d1, d2, d3] }
  | _ => none }
def maniCodesRow : OpenClaim := { program := "ytcagcepbnkageaa", sum := "d80fdf9af5d15df337f32e368659a48d029b4ab7fe195ec035af8fe58c97285b", func := "varve/varvelaw25.ManiCodes", spec := "maniCodes", inPlace := ["internal/abi.NoEscape"], unfollowed := true, recurses := true, apart := false }
def ManiCodesSaid : Prop := maniCodesRow.holds Try.pinned (OpenSpec.ofChange maniCodesSpec)

/-- ITS FALSE NEIGHBOUR: 'it returns false'. Refute it at one input. -/
def maniCodesWrong : ChangeSpec := { name := "maniCodes", fn := fun _ => fun
  | [d1, d2, d3] => { results := [.lit (.bool false)], args := [d1, d2, d3] }
  | _ => none }
def ManiCodesWrongFalsely : Prop := maniCodesRow.holds Try.pinned (OpenSpec.ofChange maniCodesWrong)

/-- 'varvelaw25.ManiLater': WHATEVER THE INPUT: true; the input reads as it did. -/
def maniLaterSpec : ChangeSpec := { name := "maniLater", fn := fun _ => fun
  | [d1, d2, d3] => { results := [.lit (.bool true)], args := [d1, d2, d3] }
  | _ => none }
def maniLaterRow : OpenClaim := { program := "ytcagcepbnkageaa", sum := "d80fdf9af5d15df337f32e368659a48d029b4ab7fe195ec035af8fe58c97285b", func := "varve/varvelaw25.ManiLater", spec := "maniLater", inPlace := ["internal/abi.NoEscape"], unfollowed := true, recurses := true, apart := false }
def ManiLaterSaid : Prop := maniLaterRow.holds Try.pinned (OpenSpec.ofChange maniLaterSpec)

/-- ITS FALSE NEIGHBOUR: 'it returns false'. Refute it at one input. -/
def maniLaterWrong : ChangeSpec := { name := "maniLater", fn := fun _ => fun
  | [d1, d2, d3] => { results := [.lit (.bool false)], args := [d1, d2, d3] }
  | _ => none }
def ManiLaterWrongFalsely : Prop := maniLaterRow.holds Try.pinned (OpenSpec.ofChange maniLaterWrong)

/-- 'varvelaw25.ManiBack': WHATEVER THE INPUT: true; the input reads as it did. -/
def maniBackSpec : ChangeSpec := { name := "maniBack", fn := fun _ => fun
  | [d1, d2] => { results := [.lit (.bool true)], args := [d1, d2] }
  | _ => none }
def maniBackRow : OpenClaim := { program := "ytcagcepbnkageaa", sum := "d80fdf9af5d15df337f32e368659a48d029b4ab7fe195ec035af8fe58c97285b", func := "varve/varvelaw25.ManiBack", spec := "maniBack", inPlace := ["internal/abi.NoEscape"], unfollowed := true, recurses := true, apart := false }
def ManiBackSaid : Prop := maniBackRow.holds Try.pinned (OpenSpec.ofChange maniBackSpec)

/-- ITS FALSE NEIGHBOUR: 'it returns false'. Refute it at one input. -/
def maniBackWrong : ChangeSpec := { name := "maniBack", fn := fun _ => fun
  | [d1, d2] => { results := [.lit (.bool false)], args := [d1, d2] }
  | _ => none }
def ManiBackWrongFalsely : Prop := maniBackRow.holds Try.pinned (OpenSpec.ofChange maniBackWrong)

/-- 'varvelaw25.ManiNext': WHATEVER THE INPUT: true; the input reads as it did. -/
def maniNextSpec : ChangeSpec := { name := "maniNext", fn := fun _ => fun
  | [d1, d2, d3] => { results := [.lit (.bool true)], args := [d1, d2, d3] }
  | _ => none }
def maniNextRow : OpenClaim := { program := "ytcagcepbnkageaa", sum := "d80fdf9af5d15df337f32e368659a48d029b4ab7fe195ec035af8fe58c97285b", func := "varve/varvelaw25.ManiNext", spec := "maniNext", inPlace := ["internal/abi.NoEscape"], unfollowed := true, recurses := true, apart := false }
def ManiNextSaid : Prop := maniNextRow.holds Try.pinned (OpenSpec.ofChange maniNextSpec)

/-- ITS FALSE NEIGHBOUR: 'it returns false'. Refute it at one input. -/
def maniNextWrong : ChangeSpec := { name := "maniNext", fn := fun _ => fun
  | [d1, d2, d3] => { results := [.lit (.bool false)], args := [d1, d2, d3] }
  | _ => none }
def ManiNextWrongFalsely : Prop := maniNextRow.holds Try.pinned (OpenSpec.ofChange maniNextWrong)

/- THE SECOND FORM. 'bulk': how many values and letters a reading holds, each counted each time it is reached (what is shared counts as often as it is met; a slice's spare places count too). A statement '..UptoSaid' is the law's where the arguments, and the package variables that the reading takes, are together of bulk at most 1048576: NARROWER than '..Said'. Prove '..Said' where nothing that the law and all that it calls make is longer than what came in: it says more and counts as full. Else prove '..UptoSaid'. A law counts once. -/
mutual
def uptoBulk {H : Type} : DataW H → Nat
  | .lit (.string bytes) => bytes.length + 1
  | .lit _ => 1
  | .nil => 1
  | .ptr d => uptoBulk d + 1
  | .slice elems spare => uptoBulkAll elems + uptoBulkAll spare + 1
  | .agg parts => uptoBulkAll parts + 1
  | .iface _ d => uptoBulk d + 1
  | .map entries => uptoBulkEntries entries + 1
  | .held _ => 1
def uptoBulkAll {H : Type} : List (DataW H) → Nat
  | [] => 0
  | d :: r => uptoBulk d + uptoBulkAll r
def uptoBulkEntries {H : Type} : List (Lit × DataW H) → Nat
  | [] => 0
  | x :: r => uptoBulkEntry x + uptoBulkEntries r
def uptoBulkEntry {H : Type} : Lit × DataW H → Nat
  | (.string bytes, d) => bytes.length + uptoBulk d + 1
  | (_, d) => uptoBulk d + 1
 end
def uptoSmall : (H : Type) → List (DataW H) → Bool := fun _ ds => decide (uptoBulkAll ds ≤ 1048576)
def OpenSpec.upto (s : _root_.Go.ChangeSpec) : _root_.Go.OpenSpec := { _root_.Go.OpenSpec.ofChange s with cond := some uptoSmall }

/-- 'varvelaw25.ManiCodes', WHERE WHAT IT READS IS OF BULK AT MOST 1048576: true; the input reads as it did. -/
def maniCodesUptoRow : OpenClaim := { program := "ytcagcepbnkageaa", sum := "d80fdf9af5d15df337f32e368659a48d029b4ab7fe195ec035af8fe58c97285b", func := "varve/varvelaw25.ManiCodes", spec := "maniCodes", inPlace := ["internal/abi.NoEscape"], unfollowed := true, recurses := true, apart := false, narrowed := true }
def ManiCodesUptoSaid : Prop := maniCodesUptoRow.holds Try.pinned (OpenSpec.upto maniCodesSpec)

/-- 'varvelaw25.ManiLater', WHERE WHAT IT READS IS OF BULK AT MOST 1048576: true; the input reads as it did. -/
def maniLaterUptoRow : OpenClaim := { program := "ytcagcepbnkageaa", sum := "d80fdf9af5d15df337f32e368659a48d029b4ab7fe195ec035af8fe58c97285b", func := "varve/varvelaw25.ManiLater", spec := "maniLater", inPlace := ["internal/abi.NoEscape"], unfollowed := true, recurses := true, apart := false, narrowed := true }
def ManiLaterUptoSaid : Prop := maniLaterUptoRow.holds Try.pinned (OpenSpec.upto maniLaterSpec)

/-- 'varvelaw25.ManiBack', WHERE WHAT IT READS IS OF BULK AT MOST 1048576: true; the input reads as it did. -/
def maniBackUptoRow : OpenClaim := { program := "ytcagcepbnkageaa", sum := "d80fdf9af5d15df337f32e368659a48d029b4ab7fe195ec035af8fe58c97285b", func := "varve/varvelaw25.ManiBack", spec := "maniBack", inPlace := ["internal/abi.NoEscape"], unfollowed := true, recurses := true, apart := false, narrowed := true }
def ManiBackUptoSaid : Prop := maniBackUptoRow.holds Try.pinned (OpenSpec.upto maniBackSpec)

/-- 'varvelaw25.ManiNext', WHERE WHAT IT READS IS OF BULK AT MOST 1048576: true; the input reads as it did. -/
def maniNextUptoRow : OpenClaim := { program := "ytcagcepbnkageaa", sum := "d80fdf9af5d15df337f32e368659a48d029b4ab7fe195ec035af8fe58c97285b", func := "varve/varvelaw25.ManiNext", spec := "maniNext", inPlace := ["internal/abi.NoEscape"], unfollowed := true, recurses := true, apart := false, narrowed := true }
def ManiNextUptoSaid : Prop := maniNextUptoRow.holds Try.pinned (OpenSpec.upto maniNextSpec)

end Rows
end Go.Proofs.Ytcagcepbnkageaa
