/- Regions that draw their order, whose operations read, and whose callees return plain values and leave all that was there as it was: one walk of the text's order. -/
import Derived.Test.YtmjkfgpkohfmiaaGreatMem
import Derived.BigQuiet
import Derived.Deep.QuietTactic
namespace Go.Proofs.YtmjkfgpkohfmiaaGreat
set_option linter.unusedVariables false
set_option linter.unusedSimpArgs false
open Go.RowKit

/-- a world in which all that is in W is as it is in W -/
structure Up (W : World) where
  val : World
  ext : Ext W val
instance (W : World) : Nonempty (Up W) := ⟨⟨W, Ext.refl W⟩⟩

section
variable {P : Program} {ops : Array Oper} {C : World → Prop}
theorem wp_region_up {id : Nat} {Q : Exit → Act → World → Prop} {a : Act} {w : World} {l : List Oper} (hm : P.follows .mixedOrders = true) (hB : Region.lexB .any l.toArray = true)
    (h : wpQuiet P l.toArray (fun w' => ∃ x : Up w, w' = x.val) (fun a' => ∀ w', (∃ x : Up w, w' = x.val) → Q .normal a' w') l a) : (Code.region id l.toArray true).wp P Q a w :=
  wp_region_quiet (C := fun w' => ∃ x : Up w, w' = x.val) hm hB ⟨⟨w.drew, (Ext.refl w).drew⟩, rfl⟩ (by simpa using h)

/-- a callee's contract, met in any of those worlds -/
theorem up_call {f : FuncId} {args : Array Value} {W : World} {x : Up W} {v : Value}
    (h : Calls P f args x.val fun e w' => e = .returned v ∧ Ext x.val w') : Calls P f args x.val fun e w'' => e = .returned v ∧ ∃ y : Up W, w'' = y.val :=
  h.mono fun _ w' ⟨he, hx⟩ => ⟨he, ⟨w', x.ext.trans hx⟩, rfl⟩
theorem up_same {f : FuncId} {args : Array Value} {W : World} {x : Up W} {v : Value}
    (h : Calls P f args x.val fun e w' => e = .returned v ∧ x.val = w') : Calls P f args x.val fun e w'' => e = .returned v ∧ ∃ y : Up W, w'' = y.val :=
  h.mono fun _ w' ⟨he, hx⟩ => ⟨he, x, hx.symm⟩
theorem up_blk {W : World} {g : Nat} {t : TypeId} {cs : Array Value} (h : Blk W g t cs) (x : Up W) : Blk x.val g t cs := h.ext x.ext
theorem up_cell {W : World} {a : Addr} {v : Value} (h : W.cell? a = some v) (x : Up W) : x.val.cell? a = some v := by
  rw [x.ext.cell (World.block_lt_of_cell? W a h)]; exact h

/-- a whole array or struct is loaded out of its block -/
theorem wpQuiet_load_blk {Q : Act → Prop} {a : Act} {o : Oper} {rest : List Oper} {W : World} (hw : Region.wanted o (yielded ops a.tmps) = true) (ty : TypeId) (x : Operand) (ho : o.op = .load ty x)
    {g : Nat} (hx : a.eval x = .pointer (some ⟨g, 0, none⟩)) {t : TypeId} {cs : Array Value} {d : TypeDesc} (hg : Blk W g t cs)
    (hu : P.underlying ty = some d) (hd : (match d with | .struct _ | .array _ _ => true | _ => false) = true) (hi : (P.info? ty).map (·.size) = some cs.size)
    (h : wpQuiet P ops (fun w' => ∃ x : Up W, w' = x.val) Q rest (a.put o.dst (.agg cs))) : wpQuiet P ops (fun w' => ∃ x : Up W, w' = x.val) Q (o :: rest) a := by
  unfold wpQuiet
  rw [if_pos hw]
  refine ⟨.agg cs, ?_, h⟩
  rintro w' ⟨y, rfl⟩
  unfold Oper.quietAt
  simp only [execOp, ho, hx, Instr.loadAt, Instr.sureAddr, Sem.run_bind, Sem.run_pure, Result.andThen_ok, run_loadVar_row y.val g t ty cs (0, 0) d (hg.ext y.ext) hu hd hi]
  exact ⟨rfl, rfl⟩
end
end Go.Proofs.YtmjkfgpkohfmiaaGreat
