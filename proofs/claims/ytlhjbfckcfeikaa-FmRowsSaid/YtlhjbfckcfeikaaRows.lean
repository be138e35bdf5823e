/-
  No cell of these rows narrows 'for every input' (looked for: loops, veiled, ifaces, maps, wideKeys, modest, calm, conditions, laid).
  DERIVED. THE GIVEN ROWS OF THIS SEAT. 4 by the template 'for every input the law returns true; each argument reads behind the call as it read before'; 0 by the template 'total and deterministic' (their statements: YtlhjbfckcfeikaaTotals.lean).
  GIVEN WITH THE SEED: the statements are not yours to turn. If you find one false, say at which input.
  Laid BY PROGRAM, IN A SANDBOX (cutbox-rows.mjs): the forced cells as the released guide's own fill.sh prints them over the translation 42f9f6c0a8e6b7be… (all of the seat's roots in one cut). By AI agents, Wed Nov 11 2026. No macro, syntax, notation, axiom, sorry.
-/
import Derived.Test.YtlhjbfckcfeikaaChecked
import GoSem.Claim
import GoSem.ClaimJoined
import GoSem.ClaimMapViews
import Derived.JoinedTies
import Derived.KernelRfl
namespace Go.Proofs.Ytlhjbfckcfeikaa
/- THE CELL 'sum', in the pinned program and in every row, IS THE sha256 OF THE DUMP (.gsa) THAT YtlhjbfckcfeikaaProg.lean LOADS. Nothing in Lean hashes anything: it is a label: what it is worth is what the hold of that sum in a sandbox is worth. -/
noncomputable def Try.pinned : Pinned := { name := "ytlhjbfckcfeikaa", sum := "42f9f6c0a8e6b7be039f920784e9884485fa2e775d0ca80430434e3b81dc3e1a", checked := Try.checked }
namespace Rows
def none {H : Type} : Left H := { results := [], args := [] }

/-- 'varvelaw39.FmLooks': WHATEVER THE INPUT: true; the input reads as it did. -/
def fmLooksSpec : ChangeSpec := { name := "fmLooks", fn := fun _ => fun
  | [d1, d2, d3] => { results := [.lit (.bool true)], args := [d1, d2, d3] }
  | _ => none }
def fmLooksRow : OpenClaim := { program := "ytlhjbfckcfeikaa", sum := "42f9f6c0a8e6b7be039f920784e9884485fa2e775d0ca80430434e3b81dc3e1a", func := "varve/varvelaw39.FmLooks", spec := "fmLooks", unfollowed := true, recurses := true, apart := false }
def FmLooksSaid : Prop := fmLooksRow.holds Try.pinned (OpenSpec.ofChange fmLooksSpec)

/-- ITS FALSE NEIGHBOUR: 'it returns false'. Refute it at one input. -/
def fmLooksWrong : ChangeSpec := { name := "fmLooks", fn := fun _ => fun
  | [d1, d2, d3] => { results := [.lit (.bool false)], args := [d1, d2, d3] }
  | _ => none }
def FmLooksWrongFalsely : Prop := fmLooksRow.holds Try.pinned (OpenSpec.ofChange fmLooksWrong)

/-- 'varvelaw39.FmNobody': WHATEVER THE INPUT: true; the input reads as it did. -/
def fmNobodySpec : ChangeSpec := { name := "fmNobody", fn := fun _ => fun
  | [d] => { results := [.lit (.bool true)], args := [d] }
  | _ => none }
def fmNobodyRow : OpenClaim := { program := "ytlhjbfckcfeikaa", sum := "42f9f6c0a8e6b7be039f920784e9884485fa2e775d0ca80430434e3b81dc3e1a", func := "varve/varvelaw39.FmNobody", spec := "fmNobody", unfollowed := true, recurses := true, apart := false }
def FmNobodySaid : Prop := fmNobodyRow.holds Try.pinned (OpenSpec.ofChange fmNobodySpec)

/-- ITS FALSE NEIGHBOUR: 'it returns false'. Refute it at one input. -/
def fmNobodyWrong : ChangeSpec := { name := "fmNobody", fn := fun _ => fun
  | [d] => { results := [.lit (.bool false)], args := [d] }
  | _ => none }
def FmNobodyWrongFalsely : Prop := fmNobodyRow.holds Try.pinned (OpenSpec.ofChange fmNobodyWrong)

/-- 'varvelaw39.FmCounts': WHATEVER THE INPUT: true; the input reads as it did. -/
def fmCountsSpec : ChangeSpec := { name := "fmCounts", fn := fun _ => fun
  | [d1, d2] => { results := [.lit (.bool true)], args := [d1, d2] }
  | _ => none }
def fmCountsRow : OpenClaim := { program := "ytlhjbfckcfeikaa", sum := "42f9f6c0a8e6b7be039f920784e9884485fa2e775d0ca80430434e3b81dc3e1a", func := "varve/varvelaw39.FmCounts", spec := "fmCounts", unfollowed := true, recurses := true, apart := false }
def FmCountsSaid : Prop := fmCountsRow.holds Try.pinned (OpenSpec.ofChange fmCountsSpec)

/-- ITS FALSE NEIGHBOUR: 'it returns false'. Refute it at one input. -/
def fmCountsWrong : ChangeSpec := { name := "fmCounts", fn := fun _ => fun
  | [d1, d2] => { results := [.lit (.bool false)], args := [d1, d2] }
  | _ => none }
def FmCountsWrongFalsely : Prop := fmCountsRow.holds Try.pinned (OpenSpec.ofChange fmCountsWrong)

/-- 'varvelaw39.FmRows': WHATEVER THE INPUT: true; the input reads as it did. -/
def fmRowsSpec : ChangeSpec := { name := "fmRows", fn := fun _ => fun
  | [d1, d2, d3] => { results := [.lit (.bool true)], args := [d1, d2, d3] }
  | _ => none }
def fmRowsRow : OpenClaim := { program := "ytlhjbfckcfeikaa", sum := "42f9f6c0a8e6b7be039f920784e9884485fa2e775d0ca80430434e3b81dc3e1a", func := "varve/varvelaw39.FmRows", spec := "fmRows", unfollowed := true, recurses := true, apart := false }
def FmRowsSaid : Prop := fmRowsRow.holds Try.pinned (OpenSpec.ofChange fmRowsSpec)

/-- ITS FALSE NEIGHBOUR: 'it returns false'. Refute it at one input. -/
def fmRowsWrong : ChangeSpec := { name := "fmRows", fn := fun _ => fun
  | [d1, d2, d3] => { results := [.lit (.bool false)], args := [d1, d2, d3] }
  | _ => none }
def FmRowsWrongFalsely : Prop := fmRowsRow.holds Try.pinned (OpenSpec.ofChange fmRowsWrong)

/- THE SECOND FORM. 'bulk': how many values and letters a reading holds, each counted each time it is reached (what is shared counts as often as it is met; a slice's spare places count too). A statement '..UptoSaid' is the law's where the arguments, and the package variables that the reading takes, are together of bulk at most 1048576: NARROWER than '..Said'. Prove '..Said' where nothing that the law and all that it calls make is longer than what came in: it says more and counts as full. Else prove '..UptoSaid'. A law counts once. -/
mutual
def uptoBulk {H : Type} : DataW H → Nat
  | .lit (.string bytes) => bytes.length + 1
  | .lit _ => 1
  | .nil => 1
  | .ptr d => uptoBulk d + 1
  | .slice elems spare => uptoBulkAll elems + uptoBulkAll spare + 1
  | .agg parts => uptoBulkAll parts + 1
  | .iface _ d => uptoBulk d + 1
  | .map entries => uptoBulkEntries entries + 1
  | .held _ => 1
def uptoBulkAll {H : Type} : List (DataW H) → Nat
  | [] => 0
  | d :: r => uptoBulk d + uptoBulkAll r
def uptoBulkEntries {H : Type} : List (Lit × DataW H) → Nat
  | [] => 0
  | x :: r => uptoBulkEntry x + uptoBulkEntries r
def uptoBulkEntry {H : Type} : Lit × DataW H → Nat
  | (.string bytes, d) => bytes.length + uptoBulk d + 1
  | (_, d) => uptoBulk d + 1
 end
def uptoSmall : (H : Type) → List (DataW H) → Bool := fun _ ds => decide (uptoBulkAll ds ≤ 1048576)
def OpenSpec.upto (s : _root_.Go.ChangeSpec) : _root_.Go.OpenSpec := { _root_.Go.OpenSpec.ofChange s with cond := some uptoSmall }

/-- 'varvelaw39.FmLooks', WHERE WHAT IT READS IS OF BULK AT MOST 1048576: true; the input reads as it did. -/
def fmLooksUptoRow : OpenClaim := { program := "ytlhjbfckcfeikaa", sum := "42f9f6c0a8e6b7be039f920784e9884485fa2e775d0ca80430434e3b81dc3e1a", func := "varve/varvelaw39.FmLooks", spec := "fmLooks", unfollowed := true, recurses := true, apart := false, narrowed := true }
def FmLooksUptoSaid : Prop := fmLooksUptoRow.holds Try.pinned (OpenSpec.upto fmLooksSpec)

/-- 'varvelaw39.FmNobody', WHERE WHAT IT READS IS OF BULK AT MOST 1048576: true; the input reads as it did. -/
def fmNobodyUptoRow : OpenClaim := { program := "ytlhjbfckcfeikaa", sum := "42f9f6c0a8e6b7be039f920784e9884485fa2e775d0ca80430434e3b81dc3e1a", func := "varve/varvelaw39.FmNobody", spec := "fmNobody", unfollowed := true, recurses := true, apart := false, narrowed := true }
def FmNobodyUptoSaid : Prop := fmNobodyUptoRow.holds Try.pinned (OpenSpec.upto fmNobodySpec)

/-- 'varvelaw39.FmCounts', WHERE WHAT IT READS IS OF BULK AT MOST 1048576: true; the input reads as it did. -/
def fmCountsUptoRow : OpenClaim := { program := "ytlhjbfckcfeikaa", sum := "42f9f6c0a8e6b7be039f920784e9884485fa2e775d0ca80430434e3b81dc3e1a", func := "varve/varvelaw39.FmCounts", spec := "fmCounts", unfollowed := true, recurses := true, apart := false, narrowed := true }
def FmCountsUptoSaid : Prop := fmCountsUptoRow.holds Try.pinned (OpenSpec.upto fmCountsSpec)

/-- 'varvelaw39.FmRows', WHERE WHAT IT READS IS OF BULK AT MOST 1048576: true; the input reads as it did. -/
def fmRowsUptoRow : OpenClaim := { program := "ytlhjbfckcfeikaa", sum := "42f9f6c0a8e6b7be039f920784e9884485fa2e775d0ca80430434e3b81dc3e1a", func := "varve/varvelaw39.FmRows", spec := "fmRows", unfollowed := true, recurses := true, apart := false, narrowed := true }
def FmRowsUptoSaid : Prop := fmRowsUptoRow.holds Try.pinned (OpenSpec.upto fmRowsSpec)

end Rows
end Go.Proofs.Ytlhjbfckcfeikaa
