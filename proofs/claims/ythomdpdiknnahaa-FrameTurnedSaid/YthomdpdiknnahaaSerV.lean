/- A chain of operations, each waiting for the one ahead, beside one operation that may come up anywhere among them. -/
import Derived.Test.YthomdpdiknnahaaRangeW
import Derived.Test.YthomdpdiknnahaaAppFull
namespace Go.Proofs.Ythomdpdiknnahaa
set_option linter.unusedVariables false
set_option linter.unusedSimpArgs false
open Go.RowKit Go.Shelf

section
variable {P : Program} {ops : Array Oper} {Q : Exit → Act → World → Prop} {md : Region.Mode} {S : List Nat}
/-- a chain of operations, and operation iC that yields vC wherever it comes -/
def SerV (P : Program) (md : Region.Mode) (ops : Array Oper) (Q : Exit → Act → World → Prop) (S : List Nat) (iC : Nat) (oC : Oper) (vC : Value) : Nat → Array Bool → Act → World → Prop
  | 0, _, _, _ => False
  | fuel + 1, L, a, w => (∀ x : Up w, (execOp a.eval oC).run P x.val = .ok (.value vC) x.val) ∧
    ((Region.ready md ops L = [iC] ∧ wpAnyV P md ops Q S fuel (L.setIfInBounds iC true) (a.put oC.dst vC) w) ∨
     ∃ i o, (Region.ready md ops L = [i, iC] ∨ Region.ready md ops L = [iC, i]) ∧ Region.ready md ops (L.setIfInBounds iC true) = [i] ∧ ops[i]? = some o ∧ o.guard = none ∧ i ≠ iC ∧ (∀ d, o.dst = some d → oC.dst ≠ some d) ∧
       ∀ x : Up w, ∃ v w'', (∀ b, (b = a ∨ b = a.put oC.dst vC) → (execOp b.eval o).run P x.val = .ok (.value v) w'' ∨ v = undef ∧ (execOp b.eval o).run P x.val = .ok .skip w'') ∧ (lastS md ops S i = false → Ext x.val w'') ∧
         SerV P md ops Q S iC oC vC fuel (L.setIfInBounds i true) (a.put o.dst v) w'')
theorem SerV.any {iC : Nat} {oC : Oper} {vC : Value} (hC : ops[iC]? = some oC) (gC : oC.guard = none) : ∀ (fuel : Nat) (L : Array Bool) (a : Act) (w : World), SerV P md ops Q S iC oC vC (fuel + 1) L a w →
    wpAnyV P md ops Q S (fuel + 1) L a w ∧ wpAnyV P md ops Q S fuel (L.setIfInBounds iC true) (a.put oC.dst vC) w := by
  have wt : ∀ {o : Oper} (f), o.guard = none → Region.wanted o f = true := fun {o} f hg => by unfold Region.wanted; rw [hg]
  intro fuel
  induction fuel with
  | zero =>
    rintro L a w ⟨eC, ⟨r0, h⟩ | ⟨i, o, hr, hrC, hi, hg, hne, hd, h⟩⟩
    · refine ⟨v_one iC r0 hC (wt _ gC) fun x K hK => ?_, h⟩
      unfold Oper.wp
      rw [eC x]
      exact hK _ _ (fun _ => Ext.refl _) (wpAnyV_up _ _ _ _ _ x.ext h)
    · obtain ⟨v, w'', _, _, h3⟩ := h ⟨w, Ext.refl w⟩
      exact absurd h3 id
  | succ fuel ih =>
    rintro L a w ⟨eC, ⟨r0, h⟩ | ⟨i, o, hr, hrC, hi, hg, hne, hd, h⟩⟩
    · refine ⟨v_one iC r0 hC (wt _ gC) fun x K hK => ?_, h⟩
      unfold Oper.wp
      rw [eC x]
      exact hK _ _ (fun _ => Ext.refl _) (wpAnyV_up _ _ _ _ _ x.ext h)
    · have p2 : wpAnyV P md ops Q S (fuel + 1) (L.setIfInBounds iC true) (a.put oC.dst vC) w := by
        refine v_one i hrC hi (wt _ hg) fun x K hK => ?_
        obtain ⟨v, w'', h1, h2, h3⟩ := h x
        have := (ih _ _ _ h3).2
        rw [Array.setIfInBounds_comm _ _ hne, Act.put_comm _ _ _ hd] at this
        unfold Oper.wp
        rcases h1 _ (.inr rfl) with h5 | ⟨rfl, h5⟩
        · rw [h5]; exact hK _ _ h2 this
        · rw [h5]; exact hK _ _ h2 this
      refine ⟨?_, p2⟩
      have both : ∀ j ∈ Region.ready md ops L, ∀ x : Up w, ∀ K : Act → World → Prop, (∀ a' w', (lastS md ops S j = false → Ext x.val w') → wpAnyV P md ops Q S (fuel + 1) (L.setIfInBounds j true) a' w' → K a' w') → wpOp P ops Q j K a x.val := by
        intro j hj x K hK
        have hj : j = i ∨ j = iC := by rcases hr with hr | hr <;> (rw [hr] at hj; simp at hj; omega)
        rcases hj with rfl | rfl
        · obtain ⟨v, w'', h1, h2, h3⟩ := h x
          refine wpOp_wp hi (wt _ hg) ?_
          unfold Oper.wp
          rcases h1 _ (.inl rfl) with h5 | ⟨rfl, h5⟩
          · rw [h5]; exact hK _ _ h2 (ih _ _ _ h3).1
          · rw [h5]; exact hK _ _ h2 (ih _ _ _ h3).1
        · refine wpOp_wp hC (wt _ gC) ?_
          unfold Oper.wp
          rw [eC x]
          exact hK _ _ (fun _ => Ext.refl _) (wpAnyV_up _ _ _ _ _ x.ext p2)
      exact v_all _ rfl (by rcases hr with hr | hr <;> rw [hr] <;> simp) both
/-- a chain beside iC -/
theorem v_ser {iC : Nat} {oC : Oper} (vC : Value) {fuel : Nat} {L : Array Bool} {a : Act} {w : World} (hC : ops[iC]? = some oC) (gC : oC.guard = none) (h : SerV P md ops Q S iC oC vC (fuel + 1) L a w) : wpAnyV P md ops Q S (fuel + 1) L a w := (SerV.any hC gC fuel L a w h).1
theorem SerV.last {iC : Nat} {oC : Oper} {vC : Value} {fuel : Nat} {L : Array Bool} {a : Act} {w : World} (e : ∀ x : Up w, (execOp a.eval oC).run P x.val = .ok (.value vC) x.val) (r : Region.ready md ops L = [iC]) (h : wpAnyV P md ops Q S fuel (L.setIfInBounds iC true) (a.put oC.dst vC) w) : SerV P md ops Q S iC oC vC (fuel + 1) L a w := ⟨e, .inl ⟨r, h⟩⟩
theorem SerV.step {iC : Nat} {oC : Oper} {vC : Value} {fuel : Nat} {L : Array Bool} {a : Act} {w : World} (i : Nat) {o : Oper} (e : ∀ x : Up w, (execOp a.eval oC).run P x.val = .ok (.value vC) x.val) (r : Region.ready md ops L = [i, iC] ∨ Region.ready md ops L = [iC, i])
    (rC : Region.ready md ops (L.setIfInBounds iC true) = [i]) (hi : ops[i]? = some o) (hg : o.guard = none) (hne : i ≠ iC) (hd : ∀ d, o.dst = some d → oC.dst ≠ some d)
    (h : ∀ x : Up w, ∃ v w'', (∀ b, (b = a ∨ b = a.put oC.dst vC) → (execOp b.eval o).run P x.val = .ok (.value v) w'' ∨ v = undef ∧ (execOp b.eval o).run P x.val = .ok .skip w'') ∧ (lastS md ops S i = false → Ext x.val w'') ∧ SerV P md ops Q S iC oC vC fuel (L.setIfInBounds i true) (a.put o.dst v) w'') : SerV P md ops Q S iC oC vC (fuel + 1) L a w :=
  ⟨e, .inr ⟨i, o, r, rC, hi, hg, hne, hd, h⟩⟩
end
theorem grownBy_ext {W A B : World} {row : Option Nat} (h : W.grownBy A row) (hx : Ext A B) : W.grownBy B row := by
  have hs := h.size
  exact ⟨hx.os.trans h.os, hx.tape.trans h.tape, hx.output.trans h.output, Nat.le_trans h.size hx.size, fun k hk hr => (hx.block k (by omega)).trans (h.block k hk hr)⟩
theorem ext_grownBy {W A B : World} {row : Option Nat} (hx : Ext W A) (h : A.grownBy B row) : W.grownBy B row := by
  have hs := hx.size
  exact ⟨h.os.trans hx.os, h.tape.trans hx.tape, h.output.trans hx.output, Nat.le_trans hs h.size, fun k hk hr => (h.block k (by omega) hr).trans (hx.block k hk)⟩
theorem grownBy_blk {W A : World} {row : Option Nat} (h : W.grownBy A row) {k : Nat} {t : TypeId} {cs : Array Value} (hb : Blk W k t cs) (hr : row ≠ some k) : Blk A k t cs := (h.block k hb.lt (fun e => hr e.symm)).trans hb
theorem WR.isCells {α : Type} {f : α → List Value} {s : Nat} {W : World} {B : Nat} {e : TypeId} {v : Value} {l : List α} (h : WR f s W B e v l) (j : Nat) (o : Obj) (hj : v.ownBlock = some j) (ho : W.heap[j]? = some o) : o.isCells = true := by
  rcases h.2 with ⟨rfl, _⟩ | ⟨g, cap, cur, rfl, _, h2, _⟩
  · simp [Value.ownBlock] at hj
  · simp [Value.ownBlock] at hj
    subst hj
    have h2 : W.heap[g]? = _ := h2
    rw [h2] at ho
    cases ho
    rfl
theorem WR.typed {α : Type} {f : α → List Value} {s : Nat} {W : World} {B : Nat} {e : TypeId} {v : Value} {l : List α} (h : WR f s W B e v l) (j : Nat) (hj : v.ownBlock = some j) : ∃ cur, Blk W j e cur := by
  rcases h.2 with ⟨rfl, _⟩ | ⟨g, cap, cur, rfl, _, h2, _⟩
  · simp [Value.ownBlock] at hj
  · simp [Value.ownBlock] at hj
    subst hj
    exact ⟨cur, h2⟩
theorem Blk.type {w : World} {g : Nat} {t u : TypeId} {cs ds : Array Value} (h : Blk w g t cs) (k : Blk w g u ds) : t = u := by
  have h : w.heap[g]? = _ := h
  have k : w.heap[g]? = _ := k
  rw [h] at k
  injection k with k
  injection k
theorem KeepsOthers.ext {A B : World} (h : Ext A B) : KeepsOthers A B := ⟨h.size, fun k o hk _ => (h.block k (Array.getElem?_eq_some_iff.1 hk).1).trans hk⟩
/-- a pointer's cell is stored -/
theorem exec_store1 {P : Program} {o : Oper} {a : Act} {w : World} {t : TypeId} (x y : Operand) (ho : o.op = .store t x y) {g : Nat} {v u : Value} {ty : TypeId} (hx : a.eval x = .pointer (some ⟨g, 0, none⟩)) (hy : a.eval y = v) (hb : Blk w g ty #[u]) (hv : v.cells = #[v]) (h1 : v.oneCell' = true)
    (hi : (P.info? t).map (·.size) = some 1) :
    (execOp a.eval o).run P w = .ok .skip (w.setCell ⟨g, 0, none⟩ v) := by
  have hs : (storeCells ⟨g, 0, none⟩ [v]).run P w = .ok () (w.setCell ⟨g, 0, none⟩ v) := by
    have hst := run_store P w ⟨g, 0, none⟩ v .plain h1
    rw [show w.cell? ⟨g, 0, none⟩ = some u from hb.cell 0] at hst
    simp only [hb.frozen 0] at hst
    have e0 : (⟨g, 0, none⟩ : Addr).add 0 = ⟨g, 0, none⟩ := by simp [Addr.add]
    simp [storeCells, e0, hst]
  have hvr : (storeVar t ⟨g, 0, none⟩ v).run P w = .ok () (w.setCell ⟨g, 0, none⟩ v) := by
    cases hq : P.info? t with
    | none => simp [hq] at hi
    | some i =>
      have hs1 : i.size = 1 := by simpa [hq] using hi
      have hvl : v.cells.toList = [v] := by rw [hv]
      have hvs : v.cells.size = 1 := by rw [hv]; rfl
      simp [storeVar, sizeOf, typeInfo, hq, hvs, hvl, hs1, hs]
  unfold execOp
  simp only [ho, hx, hy, Instr.storeAt, Instr.sureAddr, Sem.run_bind, Sem.run_pure, Result.andThen_ok, hvr]
/-- a pointer's cell is read -/
theorem exec_load1 {P : Program} {o : Oper} {a : Act} {w : World} {t : TypeId} (x : Operand) (ho : o.op = .load t x) {p : Addr} {v : Value} (hx : a.eval x = .pointer (some p)) (hr : (loadVar t p).run P w = .ok v w) :
    (execOp a.eval o).run P w = .ok (.value v) w := by
  unfold execOp
  simp only [ho, hx, Instr.loadAt, Instr.sureAddr, Sem.run_bind, Sem.run_pure, Result.andThen_ok, hr]
end Go.Proofs.Ythomdpdiknnahaa
