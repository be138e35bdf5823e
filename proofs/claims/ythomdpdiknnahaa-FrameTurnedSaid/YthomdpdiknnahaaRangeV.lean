/- Regions that draw their order, in the body of a range over a function. -/
import Derived.Test.YthomdpdiknnahaaRange
import Derived.Test.YthomdpdiknnahaaAppV
namespace Go.Proofs.Ythomdpdiknnahaa
set_option linter.unusedVariables false
set_option linter.unusedSimpArgs false
open Go.RowKit Go.Shelf

section
variable {P : Program} {ops : Array Oper} {Q : Exit → Act → World → Prop} {n lp : Nat}
theorem upon_in {o : Oper} {a : Act} {K : Act → World → Prop} {r : Result Next} (h : o.upon P a K Q r) : o.uponIn (Fence.wide.inRound lp) n P a K Q r := by
  cases r with
  | ok x w' =>
    cases x with
    | value v => exact h
    | skip => exact h
    | defer d => exact h
    | enter f args => exact ⟨(fun h => by cases h), CallsIn.inRound lp (callsIn_wide.2 (Calls.mono h fun e w'' he => by cases e <;> exact he))⟩
    | row row args => exact ⟨(fun h => by cases h), fun c cs _ => let ⟨v, w1, r1, s1⟩ := h c cs; ⟨v, w1, r1, stepsIn_wide.2 s1⟩⟩
    | _ => exact False.elim h
  | halt x w' =>
    cases x with
    | panic v => exact h
    | _ => exact False.elim h
theorem wpOp_in {i : Nat} {K : Act → World → Prop} {a : Act} {w : World} (hq : ¬ LetsOut Q) (hd : ∀ (j : Nat) (o : Oper) c, ops[j]? = some o → o.op ≠ .defer c) (h : wpOp P ops Q i K a w) : wpOpIn (Fence.wide.inRound lp) n P ops Q i K a w := by
  unfold wpOp at h
  unfold wpOpIn
  cases ho : ops[i]? with
  | none => rw [ho] at h; exact h
  | some o =>
    rw [ho] at h
    simp only at h ⊢
    by_cases hw : Region.wanted o (yielded ops a.tmps) = true
    · rw [if_pos hw] at h ⊢
      rcases h with h | h
      · refine ⟨fun _ _ => trivial, ?_⟩
        have hs : Oper.semAt (Fence.wide.inRound lp).round a.eval o = execOp a.eval o := Oper.semAt_eq _ _ _ (fun c => hd i o c ho)
        rw [hs]
        exact upon_in h
      · exact absurd h.2 hq
    · rw [if_neg hw] at h ⊢
      exact ⟨fun _ _ => trivial, h⟩
theorem wpAny_in (hq : ¬ LetsOut Q) (hd : ∀ (j : Nat) (o : Oper) c, ops[j]? = some o → o.op ≠ .defer c) {md : Region.Mode} : ∀ (fuel : Nat) (listed : Array Bool) (a : Act) (w : World), wpAny P md ops Q fuel listed a w → wpAnyIn (Fence.wide.inRound lp) n P md ops Q fuel listed a w
  | 0, _, _, _, h => h
  | fuel + 1, listed, a, w, h => ⟨h.1, fun i hi => wpOp_in hq hd (wpOp_mono (fun a w hh => wpAny_in hq hd fuel _ a w hh) (h.2 i hi))⟩
/-- no operation is a defer statement -/
def noDefer (ops : Array Oper) : Bool := ops.toList.all fun o => match o.op with | .defer _ => false | _ => true
theorem noDefer_spec (h : noDefer ops = true) : ∀ (j : Nat) (o : Oper) c, ops[j]? = some o → o.op ≠ .defer c := by
  intro j o c hj he
  have hm : o ∈ ops.toList := by
    obtain ⟨hlt, rfl⟩ := Array.getElem?_eq_some_iff.1 hj
    exact Array.mem_toList_iff.2 (Array.getElem_mem hlt)
  have := List.all_eq_true.1 h o hm
  rw [he] at this
  cases this
theorem wpIn_region_v {id : Nat} {l : List Oper} {a : Act} {w : World} (S : List Nat) (k : Nat) (hk : l.length = k) (hm : P.follows .mixedOrders = true) (hq : ¬ LetsOut Q) (hd : noDefer l.toArray = true)
    (h : OutV P .any l.toArray Q S k (lst k 0) 0 l a w.drew) : (Code.region id l.toArray true).wpIn (Fence.wide.inRound lp) n P Q a w := by
  subst hk
  exact wpIn_region_any hm (wpAny_in hq (noDefer_spec hd) _ _ _ _ (wpAny_of_V (S := S) _ _ _ _ (Closed.none _) (by simpa [lst, List.toArray_replicate] using h rfl)))

/-- a slice is written out (A), appended (B), and a cell is read (C), that the append leaves: in whatever order -/
theorem v_acl {md : Region.Mode} {S : List Nat} {fuel : Nat} {L : Array Bool} {a : Act} {w : World} {iA iB iC : Nat} {oA oB oC : Oper} {m : Nat} {te : TypeId} {csA : Array Value} {vC : Value} (R1 : Value → World → Prop) (C0 : World → Prop)
    (hA : ops[iA]? = some oA) (hB : ops[iB]? = some oB) (hC : ops[iC]? = some oC)
    (gA : oA.guard = none) (gB : oB.guard = none) (gC : oC.guard = none)
    (dAC : ∀ d, oA.dst = some d → oC.dst ≠ some d) (dBC : ∀ d, oB.dst = some d → oC.dst ≠ some d)
    (r0 : Region.ready md ops L = [iA, iC]) (rA : Region.ready md ops (L.setIfInBounds iA true) = [iB, iC]) (rAB : Region.ready md ops ((L.setIfInBounds iA true).setIfInBounds iB true) = [iC])
    (rAC : Region.ready md ops ((L.setIfInBounds iA true).setIfInBounds iC true) = [iB]) (rC : Region.ready md ops (L.setIfInBounds iC true) = [iA])
    (nAC : iA ≠ iC) (nBC : iB ≠ iC) (lB : lastS md ops S iB = true)
    (up1 : ∀ v w w', R1 v w → Ext w w' → R1 v w') (c0 : C0 w) (upC : ∀ w w', C0 w → Ext w w' → C0 w')
    (eA : ∀ u, BsAt P oA a m te csA ∧ BsAt P oA (a.put oC.dst u) m te csA)
    (eB : ∀ (gA : Nat) (u : Value) (a' : Act), (a' = a.put oA.dst (.slice (some ⟨gA, 0, none⟩) m m) ∨ a' = (a.put oA.dst (.slice (some ⟨gA, 0, none⟩) m m)).put oC.dst u) → ∀ w', Ext w w' → C0 w' → Blk w' gA te csA →
      ∃ v w'', (execOp a'.eval oB).run P w' = .ok (.value v) w'' ∧ C0 w'' ∧ R1 v w'')
    (eC : ∀ (gA : Nat) (v : Value) (a' : Act), (a' = a ∨ a' = a.put oA.dst (.slice (some ⟨gA, 0, none⟩) m m) ∨ a' = (a.put oA.dst (.slice (some ⟨gA, 0, none⟩) m m)).put oB.dst v) → ∀ w', C0 w' → (execOp a'.eval oC).run P w' = .ok (.value vC) w')
    (fin : ∀ (gA : Nat) (v : Value) (w' : World), R1 v w' →
      wpAnyV P md ops Q S fuel (((L.setIfInBounds iA true).setIfInBounds iB true).setIfInBounds iC true) (((a.put oA.dst (.slice (some ⟨gA, 0, none⟩) m m)).put oB.dst v).put oC.dst vC) w') :
    wpAnyV P md ops Q S (fuel + 3) L a w := by
  have wt : ∀ {o : Oper} (f), o.guard = none → Region.wanted o f = true := fun {o} f hg => by unfold Region.wanted; rw [hg]
  refine v_all [iA, iC] r0 (by simp) (fun j hj x K hK => ?_)
  have hj : j = iA ∨ j = iC := by simpa using hj
  rcases hj with rfl | rfl
  · refine wpOp_wp hA (wt _ gA) (((eA undef).1).wp (hK _ _ (fun _ => (Ext.refl _).alloc _) ?_))
    have b1 := Blk.new x.val te csA
    have x1 : Ext w (x.val.alloc (.cells csA te)) := x.ext.alloc _
    refine v_all [iB, iC] rA (by simp) (fun i hi y K2 hK2 => ?_)
    have hi : i = iB ∨ i = iC := by simpa using hi
    rcases hi with rfl | rfl
    · obtain ⟨v1, w1, e1, c1, h1⟩ := eB _ undef _ (.inl rfl) y.val (x1.trans y.ext) (upC _ _ c0 (x1.trans y.ext)) (b1.ext y.ext)
      refine wpOp_wp hB (wt _ gB) ?_
      unfold Oper.wp
      rw [e1]
      refine hK2 _ _ (fun h0 => by rw [lB] at h0; cases h0) ?_
      refine v_one iC rAB hC (wt _ gC) fun z K3 hK3 => ?_
      unfold Oper.wp
      rw [eC x.val.heap.size v1 _ (.inr (.inr rfl)) z.val (upC _ _ c1 z.ext)]
      exact hK3 _ _ (fun _ => Ext.refl _) (fin _ _ _ (up1 _ _ _ h1 z.ext))
    · refine wpOp_wp hC (wt _ gC) ?_
      unfold Oper.wp
      rw [eC x.val.heap.size undef _ (.inr (.inl rfl)) y.val (upC _ _ c0 (x1.trans y.ext))]
      refine hK2 _ _ (fun _ => Ext.refl _) ?_
      refine v_one iB rAC hB (wt _ gB) fun z K3 hK3 => ?_
      obtain ⟨v1, w1, e1, c1, h1⟩ := eB _ _ _ (.inr rfl) z.val ((x1.trans y.ext).trans z.ext) (upC _ _ c0 ((x1.trans y.ext).trans z.ext)) ((b1.ext y.ext).ext z.ext)
      unfold Oper.wp
      rw [e1]
      refine hK3 _ _ (fun h0 => by rw [lB] at h0; cases h0) ?_
      have := fin x.val.heap.size _ _ h1
      rw [Array.setIfInBounds_comm _ _ (Ne.symm nBC), ← Act.put_comm _ _ _ dBC]
      exact this
  · refine wpOp_wp hC (wt _ gC) ?_
    unfold Oper.wp
    rw [eC 0 undef _ (.inl rfl) x.val (upC _ _ c0 x.ext)]
    refine hK _ _ (fun _ => Ext.refl _) ?_
    refine v_one iA rC hA (wt _ gA) fun y K2 hK2 => ?_
    refine ((eA _).2).wp (hK2 _ _ (fun _ => (Ext.refl _).alloc _) ?_)
    have b1 := Blk.new y.val te csA
    have x1 : Ext w (y.val.alloc (.cells csA te)) := (x.ext.trans y.ext).alloc _
    rw [← Array.setIfInBounds_comm _ _ nAC, ← Act.put_comm _ _ _ dAC]
    refine v_one iB rAC hB (wt _ gB) fun z K3 hK3 => ?_
    obtain ⟨v1, w1, e1, c1, h1⟩ := eB _ _ _ (.inr rfl) z.val (x1.trans z.ext) (upC _ _ c0 (x1.trans z.ext)) (b1.ext z.ext)
    unfold Oper.wp
    rw [e1]
    refine hK3 _ _ (fun h0 => by rw [lB] at h0; cases h0) ?_
    have := fin y.val.heap.size _ _ h1
    rw [Array.setIfInBounds_comm _ _ (Ne.symm nBC), ← Act.put_comm _ _ _ dBC]
    exact this
end
end Go.Proofs.Ythomdpdiknnahaa
