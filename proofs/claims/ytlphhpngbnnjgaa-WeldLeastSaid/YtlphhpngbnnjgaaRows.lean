/-
  No cell of these rows narrows 'for every input' (looked for: loops, veiled, ifaces, maps, wideKeys, modest, calm, conditions, laid).
  DERIVED. THE GIVEN ROWS OF THIS SEAT. 4 by the template 'for every input the law returns true; each argument reads behind the call as it read before'; 0 by the template 'total and deterministic' (their statements: YtlphhpngbnnjgaaTotals.lean).
  GIVEN WITH THE SEED: the statements are not yours to turn. If you find one false, say at which input.
  Laid BY PROGRAM, IN A SANDBOX (cutbox-rows.mjs): the forced cells as the released guide's own fill.sh prints them over the translation 4e9dfd2358a03cbd… (all of the seat's roots in one cut). By AI agents, Wed Nov 11 2026. No macro, syntax, notation, axiom, sorry.
-/
import Derived.Test.YtlphhpngbnnjgaaChecked
import GoSem.Claim
import GoSem.ClaimJoined
import GoSem.ClaimMapViews
import Derived.JoinedTies
import Derived.KernelRfl
namespace Go.Proofs.Ytlphhpngbnnjgaa
/- THE CELL 'sum', in the pinned program and in every row, IS THE sha256 OF THE DUMP (.gsa) THAT YtlphhpngbnnjgaaProg.lean LOADS. Nothing in Lean hashes anything: it is a label: what it is worth is what the hold of that sum in a sandbox is worth. -/
noncomputable def Try.pinned : Pinned := { name := "ytlphhpngbnnjgaa", sum := "4e9dfd2358a03cbd69601f21d48971f6f8b8c9281f66dc3967907f5baa51b1a3", checked := Try.checked }
namespace Rows
def none {H : Type} : Left H := { results := [], args := [] }

/-- 'varvelaw28.WeldSteps': WHATEVER THE INPUT: true; the input reads as it did. -/
def weldStepsSpec : ChangeSpec := { name := "weldSteps", fn := fun _ => fun
  | [d1, d2] => { results := [.lit (.bool true)], args := [d1, d2] }
  | _ => none }
def weldStepsRow : OpenClaim := { program := "ytlphhpngbnnjgaa", sum := "4e9dfd2358a03cbd69601f21d48971f6f8b8c9281f66dc3967907f5baa51b1a3", func := "varve/varvelaw28.WeldSteps", spec := "weldSteps", unfollowed := true, recurses := true, apart := false }
def WeldStepsSaid : Prop := weldStepsRow.holds Try.pinned (OpenSpec.ofChange weldStepsSpec)

/-- ITS FALSE NEIGHBOUR: 'it returns false'. Refute it at one input. -/
def weldStepsWrong : ChangeSpec := { name := "weldSteps", fn := fun _ => fun
  | [d1, d2] => { results := [.lit (.bool false)], args := [d1, d2] }
  | _ => none }
def WeldStepsWrongFalsely : Prop := weldStepsRow.holds Try.pinned (OpenSpec.ofChange weldStepsWrong)

/-- 'varvelaw28.WeldBlocks': WHATEVER THE INPUT: true; the input reads as it did. -/
def weldBlocksSpec : ChangeSpec := { name := "weldBlocks", fn := fun _ => fun
  | [d1, d2] => { results := [.lit (.bool true)], args := [d1, d2] }
  | _ => none }
def weldBlocksRow : OpenClaim := { program := "ytlphhpngbnnjgaa", sum := "4e9dfd2358a03cbd69601f21d48971f6f8b8c9281f66dc3967907f5baa51b1a3", func := "varve/varvelaw28.WeldBlocks", spec := "weldBlocks", unfollowed := true, recurses := true, apart := false }
def WeldBlocksSaid : Prop := weldBlocksRow.holds Try.pinned (OpenSpec.ofChange weldBlocksSpec)

/-- ITS FALSE NEIGHBOUR: 'it returns false'. Refute it at one input. -/
def weldBlocksWrong : ChangeSpec := { name := "weldBlocks", fn := fun _ => fun
  | [d1, d2] => { results := [.lit (.bool false)], args := [d1, d2] }
  | _ => none }
def WeldBlocksWrongFalsely : Prop := weldBlocksRow.holds Try.pinned (OpenSpec.ofChange weldBlocksWrong)

/-- 'varvelaw28.WeldEnds': WHATEVER THE INPUT: true; the input reads as it did. -/
def weldEndsSpec : ChangeSpec := { name := "weldEnds", fn := fun _ => fun
  | [d1, d2] => { results := [.lit (.bool true)], args := [d1, d2] }
  | _ => none }
def weldEndsRow : OpenClaim := { program := "ytlphhpngbnnjgaa", sum := "4e9dfd2358a03cbd69601f21d48971f6f8b8c9281f66dc3967907f5baa51b1a3", func := "varve/varvelaw28.WeldEnds", spec := "weldEnds", unfollowed := true, recurses := true, apart := false }
def WeldEndsSaid : Prop := weldEndsRow.holds Try.pinned (OpenSpec.ofChange weldEndsSpec)

/-- ITS FALSE NEIGHBOUR: 'it returns false'. Refute it at one input. -/
def weldEndsWrong : ChangeSpec := { name := "weldEnds", fn := fun _ => fun
  | [d1, d2] => { results := [.lit (.bool false)], args := [d1, d2] }
  | _ => none }
def WeldEndsWrongFalsely : Prop := weldEndsRow.holds Try.pinned (OpenSpec.ofChange weldEndsWrong)

/-- 'varvelaw28.WeldLeast': WHATEVER THE INPUT: true; the input reads as it did. -/
def weldLeastSpec : ChangeSpec := { name := "weldLeast", fn := fun _ => fun
  | [d1, d2] => { results := [.lit (.bool true)], args := [d1, d2] }
  | _ => none }
def weldLeastRow : OpenClaim := { program := "ytlphhpngbnnjgaa", sum := "4e9dfd2358a03cbd69601f21d48971f6f8b8c9281f66dc3967907f5baa51b1a3", func := "varve/varvelaw28.WeldLeast", spec := "weldLeast", unfollowed := true, recurses := true, apart := false }
def WeldLeastSaid : Prop := weldLeastRow.holds Try.pinned (OpenSpec.ofChange weldLeastSpec)

/-- ITS FALSE NEIGHBOUR: 'it returns false'. Refute it at one input. -/
def weldLeastWrong : ChangeSpec := { name := "weldLeast", fn := fun _ => fun
  | [d1, d2] => { results := [.lit (.bool false)], args := [d1, d2] }
  | _ => none }
def WeldLeastWrongFalsely : Prop := weldLeastRow.holds Try.pinned (OpenSpec.ofChange weldLeastWrong)

/- THE SECOND FORM. 'bulk': how many values and letters a reading holds, each counted each time it is reached (what is shared counts as often as it is met; a slice's spare places count too). A statement '..UptoSaid' is the law's where the arguments, and the package variables that the reading takes, are together of bulk at most 1048576: NARROWER than '..Said'. Prove '..Said' where nothing that the law and all that it calls make is longer than what came in: it says more and counts as full. Else prove '..UptoSaid'. A law counts once. -/
mutual
def uptoBulk {H : Type} : DataW H → Nat
  | .lit (.string bytes) => bytes.length + 1
  | .lit _ => 1
  | .nil => 1
  | .ptr d => uptoBulk d + 1
  | .slice elems spare => uptoBulkAll elems + uptoBulkAll spare + 1
  | .agg parts => uptoBulkAll parts + 1
  | .iface _ d => uptoBulk d + 1
  | .map entries => uptoBulkEntries entries + 1
  | .held _ => 1
def uptoBulkAll {H : Type} : List (DataW H) → Nat
  | [] => 0
  | d :: r => uptoBulk d + uptoBulkAll r
def uptoBulkEntries {H : Type} : List (Lit × DataW H) → Nat
  | [] => 0
  | x :: r => uptoBulkEntry x + uptoBulkEntries r
def uptoBulkEntry {H : Type} : Lit × DataW H → Nat
  | (.string bytes, d) => bytes.length + uptoBulk d + 1
  | (_, d) => uptoBulk d + 1
 end
def uptoSmall : (H : Type) → List (DataW H) → Bool := fun _ ds => decide (uptoBulkAll ds ≤ 1048576)
def OpenSpec.upto (s : _root_.Go.ChangeSpec) : _root_.Go.OpenSpec := { _root_.Go.OpenSpec.ofChange s with cond := some uptoSmall }

/-- 'varvelaw28.WeldSteps', WHERE WHAT IT READS IS OF BULK AT MOST 1048576: true; the input reads as it did. -/
def weldStepsUptoRow : OpenClaim := { program := "ytlphhpngbnnjgaa", sum := "4e9dfd2358a03cbd69601f21d48971f6f8b8c9281f66dc3967907f5baa51b1a3", func := "varve/varvelaw28.WeldSteps", spec := "weldSteps", unfollowed := true, recurses := true, apart := false, narrowed := true }
def WeldStepsUptoSaid : Prop := weldStepsUptoRow.holds Try.pinned (OpenSpec.upto weldStepsSpec)

/-- 'varvelaw28.WeldBlocks', WHERE WHAT IT READS IS OF BULK AT MOST 1048576: true; the input reads as it did. -/
def weldBlocksUptoRow : OpenClaim := { program := "ytlphhpngbnnjgaa", sum := "4e9dfd2358a03cbd69601f21d48971f6f8b8c9281f66dc3967907f5baa51b1a3", func := "varve/varvelaw28.WeldBlocks", spec := "weldBlocks", unfollowed := true, recurses := true, apart := false, narrowed := true }
def WeldBlocksUptoSaid : Prop := weldBlocksUptoRow.holds Try.pinned (OpenSpec.upto weldBlocksSpec)

/-- 'varvelaw28.WeldEnds', WHERE WHAT IT READS IS OF BULK AT MOST 1048576: true; the input reads as it did. -/
def weldEndsUptoRow : OpenClaim := { program := "ytlphhpngbnnjgaa", sum := "4e9dfd2358a03cbd69601f21d48971f6f8b8c9281f66dc3967907f5baa51b1a3", func := "varve/varvelaw28.WeldEnds", spec := "weldEnds", unfollowed := true, recurses := true, apart := false, narrowed := true }
def WeldEndsUptoSaid : Prop := weldEndsUptoRow.holds Try.pinned (OpenSpec.upto weldEndsSpec)

/-- 'varvelaw28.WeldLeast', WHERE WHAT IT READS IS OF BULK AT MOST 1048576: true; the input reads as it did. -/
def weldLeastUptoRow : OpenClaim := { program := "ytlphhpngbnnjgaa", sum := "4e9dfd2358a03cbd69601f21d48971f6f8b8c9281f66dc3967907f5baa51b1a3", func := "varve/varvelaw28.WeldLeast", spec := "weldLeast", unfollowed := true, recurses := true, apart := false, narrowed := true }
def WeldLeastUptoSaid : Prop := weldLeastUptoRow.holds Try.pinned (OpenSpec.upto weldLeastSpec)

end Rows
end Go.Proofs.Ytlphhpngbnnjgaa
