/- An append in a region that draws its order. -/
import Derived.Test.YtmjkfgpkohfmiaaGreatAnyV
import Derived.Test.YtmjkfgpkohfmiaaGreatApp3G
namespace Go.Proofs.YtmjkfgpkohfmiaaGreat
set_option linter.unusedVariables false
set_option linter.unusedSimpArgs false
open Go.RowKit

section
variable {P : Program} {ops : Array Oper} {Q : Exit → Act → World → Prop} {md : Region.Mode} {S : List Nat}
/-- a whole array or struct is loaded out of its block -/
theorem v_load {listed : Array Bool} {k fuel : Nat} {a : Act} {w : World} {oi : Oper} {rest : List Oper} (hs : Region.noSelect ops = true) (hf : Region.free md ops listed k = true)
    (hr : (Region.ready md ops listed).contains k = true) (hQ : ∀ v, ∀ c a w, Q (.panic c) (a.put oi.dst v) w → Q (.panic c) a w)
    (hw : Region.wanted oi (yielded ops a.tmps) = true) (hS : S.contains k = false) (ty : TypeId) (x : Operand) (ho : oi.op = .load ty x)
    {g : Nat} (hx : a.eval x = .pointer (some ⟨g, 0, none⟩)) {t : TypeId} {cs : Array Value} {d : TypeDesc} (hg : Blk w g t cs)
    (hu : P.underlying ty = some d) (hd : (match d with | .struct _ | .array _ _ => true | _ => false) = true) (hsz : (P.info? ty).map (·.size) = some cs.size)
    (h : OutV P md ops Q S fuel (listed.setIfInBounds k true) (k + 1) rest (a.put oi.dst (.agg cs)) w) : OutV P md ops Q S (fuel + 1) listed k (oi :: rest) a w :=
  v_want hs hf hr hQ hw hS fun K hK => by
    refine ⟨.agg cs, fun y => ?_, hK _ h⟩
    unfold upAt
    simp only [execOp, ho, hx, Instr.loadAt, Instr.sureAddr, Sem.run_bind, Sem.run_pure, Result.andThen_ok, run_loadVar_row y.val g t ty cs (0, 0) d (hg.ext y.ext) hu hd hsz]
    exact ⟨rfl, rfl⟩
/-- only an append may come up -/
theorem v_app {fuel : Nat} {listed : Array Bool} {a : Act} {w : World} {o : Oper} {v u : Value} (i d : Nat) (s y : Operand) (t : TypeId) (R : Value → World → World → Prop) (hr : Region.ready md ops listed = [i]) (hi : ops[i]? = some o) (hg : o.guard = none) (hd : o.dst = some d)
    (ho : o.op = .call { callee := .builtin .append, args := #[s, y], argTypes := #[t, t] }) (hty : o.type = t) (hs : a.eval s = v) (hy : a.eval y = u)
    (hl : lastS md ops S i = true ∨ ∀ v' W w', Ext w W → R v' W w' → Ext W w')
    (hrun : ∀ W, Ext w W → ∃ v' w', (Builtin.append_ #[t, t] t #[v, u]).run P W = .ok v' w' ∧ R v' W w')
    (h : ∀ v' W w', Ext w W → R v' W w' → wpAnyV P md ops Q S fuel (listed.setIfInBounds i true) (a.put (some d) v') w') :
    wpAnyV P md ops Q S (fuel + 1) listed a w :=
  v_one i hr hi (by unfold Region.wanted; rw [hg]) fun x K hK => by
    obtain ⟨v', w', p1, p2⟩ := hrun x.val x.ext
    unfold Oper.wp
    rw [exec_app s y t ho hty hs hy p1]
    refine hK _ _ (fun h0 => ?_) ?_
    · rcases hl with hl | hl
      · rw [hl] at h0; cases h0
      · exact hl _ _ _ x.ext p2
    · rw [hd]; exact h _ _ _ x.ext p2
/-- only a value that is handed on may come up -/
theorem v_val {fuel : Nat} {listed : Array Bool} {a : Act} {w : World} {o : Oper} {v : Value} (i d : Nat) (x : Operand) (hr : Region.ready md ops listed = [i]) (hi : ops[i]? = some o) (hg : o.guard = none) (hd : o.dst = some d) (ho : o.op = .assign x) (hs : a.eval x = v)
    (h : ∀ w', Ext w w' → wpAnyV P md ops Q S fuel (listed.setIfInBounds i true) (a.put (some d) v) w') : wpAnyV P md ops Q S (fuel + 1) listed a w :=
  v_one i hr hi (by unfold Region.wanted; rw [hg]) fun x K hK => by
    unfold Oper.wp execOp
    simp only [ho, hs, Sem.run_pure]
    refine hK _ _ (fun _ => Ext.refl _) ?_
    rw [hd]; exact h _ x.ext
/-- A makes an empty slice, B appends onto it, C writes one out: in whatever order -/
theorem v_abc {fuel : Nat} {L : Array Bool} {a : Act} {w : World} {iA iB iC : Nat} {oA oB oC : Oper} {m : Nat} {te : TypeId} {csA csC : Array Value} (R1 : Value → World → Prop)
    (hA : ops[iA]? = some oA) (hB : ops[iB]? = some oB) (hC : ops[iC]? = some oC)
    (gA : oA.guard = none) (gB : oB.guard = none) (gC : oC.guard = none)
    (dAC : ∀ d, oA.dst = some d → oC.dst ≠ some d) (dBC : ∀ d, oB.dst = some d → oC.dst ≠ some d)
    (r0 : Region.ready md ops L = [iA, iC]) (rA : Region.ready md ops (L.setIfInBounds iA true) = [iB, iC]) (rAB : Region.ready md ops ((L.setIfInBounds iA true).setIfInBounds iB true) = [iC])
    (rAC : Region.ready md ops ((L.setIfInBounds iA true).setIfInBounds iC true) = [iB]) (rC : Region.ready md ops (L.setIfInBounds iC true) = [iA])
    (nAC : iA ≠ iC) (nBC : iB ≠ iC)
    (up1 : ∀ v w w', R1 v w → Ext w w' → R1 v w')
    (eA : ∀ u, BsAt P oA a 0 te csA ∧ BsAt P oA (a.put oC.dst u) 0 te csA)
    (eB : ∀ (gA : Nat) (u : Value) (a' : Act), (a' = a.put oA.dst (.slice (some ⟨gA, 0, none⟩) 0 0) ∨ a' = (a.put oA.dst (.slice (some ⟨gA, 0, none⟩) 0 0)).put oC.dst u) → ∀ w', Ext w w' → w.heap.size ≤ gA → Blk w' gA te csA →
      ∃ v w'', (execOp a'.eval oB).run P w' = .ok (.value v) w'' ∧ Ext w' w'' ∧ R1 v w'')
    (eC : ∀ (gA : Nat) (v : Value) (a' : Act), (a' = a ∨ a' = a.put oA.dst (.slice (some ⟨gA, 0, none⟩) 0 0) ∨ a' = (a.put oA.dst (.slice (some ⟨gA, 0, none⟩) 0 0)).put oB.dst v) → BsAt P oC a' m te csC)
    (fin : ∀ (gA gC : Nat) (v : Value) (w' : World), Ext w w' → R1 v w' → Blk w' gC te csC →
      wpAnyV P md ops Q S fuel (((L.setIfInBounds iA true).setIfInBounds iB true).setIfInBounds iC true) (((a.put oA.dst (.slice (some ⟨gA, 0, none⟩) 0 0)).put oB.dst v).put oC.dst (.slice (some ⟨gC, 0, none⟩) m m)) w') :
    wpAnyV P md ops Q S (fuel + 3) L a w := by
  have wt : ∀ {o : Oper} (f), o.guard = none → Region.wanted o f = true := fun {o} f hg => by unfold Region.wanted; rw [hg]
  refine v_all [iA, iC] r0 (by simp) (fun j hj x K hK => ?_)
  have hj : j = iA ∨ j = iC := by simpa using hj
  rcases hj with rfl | rfl
  · refine wpOp_wp hA (wt _ gA) (((eA undef).1).wp (hK _ _ (fun _ => (Ext.refl _).alloc _) ?_))
    have b1 := Blk.new x.val te csA
    have x1 : Ext w (x.val.alloc (.cells csA te)) := x.ext.alloc _
    refine v_all [iB, iC] rA (by simp) (fun i hi y K2 hK2 => ?_)
    have hi : i = iB ∨ i = iC := by simpa using hi
    rcases hi with rfl | rfl
    · obtain ⟨v1, w1, e1, y1, h1⟩ := eB _ undef _ (.inl rfl) y.val (x1.trans y.ext) x.ext.le (b1.ext y.ext)
      refine wpOp_wp hB (wt _ gB) ?_
      unfold Oper.wp
      rw [e1]
      refine hK2 _ _ (fun _ => y1) ?_
      refine v_one iC rAB hC (wt _ gC) fun z K3 hK3 => ?_
      exact (eC x.val.heap.size v1 _ (.inr (.inr rfl))).wp (hK3 _ _ (fun _ => (Ext.refl _).alloc _) (fin _ _ _ _ ((((x1.trans y.ext).trans y1).trans z.ext).alloc _) (up1 _ _ _ h1 (z.ext.alloc _)) (Blk.new _ _ _)))
    · refine wpOp_wp hC (wt _ gC) ((eC x.val.heap.size undef _ (.inr (.inl rfl))).wp (hK2 _ _ (fun _ => (Ext.refl _).alloc _) ?_))
      refine v_one iB rAC hB (wt _ gB) fun z K3 hK3 => ?_
      have b2 := (Blk.new y.val te csC).ext z.ext
      obtain ⟨v1, w1, e1, y1, h1⟩ := eB _ _ _ (.inr rfl) z.val (((x1.trans y.ext).alloc _).trans z.ext) x.ext.le (((b1.ext y.ext).alloc _).ext z.ext)
      unfold Oper.wp
      rw [e1]
      refine hK3 _ _ (fun _ => y1) ?_
      have := fin x.val.heap.size y.val.heap.size _ _ ((((x1.trans y.ext).alloc (.cells csC te)).trans z.ext).trans y1) h1 (b2.ext y1)
      rw [Array.setIfInBounds_comm _ _ (Ne.symm nBC), ← Act.put_comm _ _ _ dBC]
      exact this
  · refine wpOp_wp hC (wt _ gC) ((eC 0 undef _ (.inl rfl)).wp (hK _ _ (fun _ => (Ext.refl _).alloc _) ?_))
    have b2 := Blk.new x.val te csC
    have x1 : Ext w (x.val.alloc (.cells csC te)) := x.ext.alloc _
    refine v_one iA rC hA (wt _ gA) fun y K2 hK2 => ?_
    refine ((eA _).2).wp (hK2 _ _ (fun _ => (Ext.refl _).alloc _) ?_)
    have b1 := Blk.new y.val te csA
    have hle : w.heap.size ≤ y.val.heap.size := (x1.trans y.ext).le
    rw [← Array.setIfInBounds_comm _ _ nAC, ← Act.put_comm _ _ _ dAC]
    refine v_one iB rAC hB (wt _ gB) fun z K3 hK3 => ?_
    obtain ⟨v1, w1, e1, y1, h1⟩ := eB _ _ _ (.inr rfl) z.val (((x1.trans y.ext).alloc _).trans z.ext) hle (b1.ext z.ext)
    unfold Oper.wp
    rw [e1]
    refine hK3 _ _ (fun _ => y1) ?_
    have := fin y.val.heap.size x.val.heap.size _ _ ((((x1.trans y.ext).alloc (.cells csA te)).trans z.ext).trans y1) h1 ((((b2.ext y.ext).alloc _).ext z.ext).ext y1)
    rw [Array.setIfInBounds_comm _ _ (Ne.symm nBC), ← Act.put_comm _ _ _ dBC]
    exact this
end
end Go.Proofs.YtmjkfgpkohfmiaaGreat
