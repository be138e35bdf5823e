/- A load, a slice written out, an append that may turn old blocks: the load in whatever place. -/
import Derived.Test.YtmjkfgpkohfmiaaGreatAnyV
import Derived.Test.YtmjkfgpkohfmiaaGreatBut
import Derived.Test.YtmjkfgpkohfmiaaGreatAnyZ
import Derived.Test.YtmjkfgpkohfmiaaGreatApp3G
namespace Go.Proofs.YtmjkfgpkohfmiaaGreat
set_option linter.unusedVariables false
set_option linter.unusedSimpArgs false
open Go.RowKit

section
variable {P : Program} {ops : Array Oper} {Q : Exit → Act → World → Prop} {md : Region.Mode} {S : List Nat}
theorem v_back {listed : Array Bool} (k : Nat) {fuel : Nat} {a : Act} {w : World} (h : OutV P md ops Q S fuel listed k (ops.toList.drop k) a w) : wpAnyV P md ops Q S fuel listed a w := h rfl
theorem v_sab {fuel : Nat} {L : Array Bool} {a : Act} {w : World} {iS iA iB : Nat} {oS oA oB : Oper} {m : Nat} {te : TypeId} {cs : Array Value} {u : Value} (KL : List Nat) (R : Value → World → Prop)
    (hS : ops[iS]? = some oS) (hA : ops[iA]? = some oA) (hB : ops[iB]? = some oB) (gS : oS.guard = none) (gA : oA.guard = none) (gB : oB.guard = none)
    (dSA : ∀ d, oS.dst = some d → oA.dst ≠ some d) (dSB : ∀ d, oS.dst = some d → oB.dst ≠ some d)
    (r0 : Region.ready md ops L = [iS, iA]) (rS : Region.ready md ops (L.setIfInBounds iS true) = [iA]) (rSA : Region.ready md ops ((L.setIfInBounds iS true).setIfInBounds iA true) = [iB])
    (rA : Region.ready md ops (L.setIfInBounds iA true) = [iS, iB]) (rAB : Region.ready md ops ((L.setIfInBounds iA true).setIfInBounds iB true) = [iS])
    (lB : lastS md ops S iB = true) (nSA : iS ≠ iA) (nSB : iS ≠ iB)
    (up : ∀ v w w', R v w → Ext w w' → R v w')
    (eS : ∀ (g : Nat) (v : Value) (a' : Act), (a' = a ∨ a' = a.put oA.dst (.slice (some ⟨g, 0, none⟩) m m) ∨ a' = (a.put oA.dst (.slice (some ⟨g, 0, none⟩) m m)).put oB.dst v) → ∀ W, But KL w W → (execOp a'.eval oS).run P W = .ok (.value u) W)
    (eA : BsAt P oA a m te cs ∧ BsAt P oA (a.put oS.dst u) m te cs)
    (eB : ∀ (g : Nat) (a' : Act), (a' = a.put oA.dst (.slice (some ⟨g, 0, none⟩) m m) ∨ a' = (a.put oS.dst u).put oA.dst (.slice (some ⟨g, 0, none⟩) m m)) → ∀ W, Ext w W → w.heap.size ≤ g → Blk W g te cs →
      ∃ v w'', (execOp a'.eval oB).run P W = .ok (.value v) w'' ∧ But KL W w'' ∧ R v w'')
    (fin : ∀ (g : Nat) (v : Value) (w' : World), But KL w w' → R v w' →
      wpAnyV P md ops Q S fuel (((L.setIfInBounds iS true).setIfInBounds iA true).setIfInBounds iB true) (((a.put oS.dst u).put oA.dst (.slice (some ⟨g, 0, none⟩) m m)).put oB.dst v) w') :
    wpAnyV P md ops Q S (fuel + 3) L a w := by
  have wt : ∀ {o : Oper} (f), o.guard = none → Region.wanted o f = true := fun {o} f hg => by unfold Region.wanted; rw [hg]
  -- A, B behind the load
  have tailAB : ∀ W g, Ext w W → w.heap.size ≤ g → Blk W g te cs → wpAnyV P md ops Q S (fuel + 1) ((L.setIfInBounds iS true).setIfInBounds iA true) ((a.put oS.dst u).put oA.dst (.slice (some ⟨g, 0, none⟩) m m)) W := by
    intro W g hx hg hb
    refine v_one iB rSA hB (wt _ gB) fun z K hK => ?_
    obtain ⟨v, w3, e3, x3, h3⟩ := eB g _ (.inr rfl) z.val (hx.trans z.ext) hg (hb.ext z.ext)
    unfold Oper.wp
    rw [e3]
    exact hK _ _ (fun h0 => by rw [lB] at h0; cases h0) (fin _ _ _ ((But.of_ext (hx.trans z.ext)).trans x3) h3)
  refine v_all [iS, iA] r0 (by simp) (fun j hj x K hK => ?_)
  have hj : j = iS ∨ j = iA := by simpa using hj
  rcases hj with rfl | rfl
  · refine wpOp_wp hS (wt _ gS) ?_
    unfold Oper.wp
    rw [eS 0 undef a (.inl rfl) x.val (But.of_ext x.ext)]
    refine hK _ _ (fun _ => Ext.refl _) ?_
    refine v_one iA rS hA (wt _ gA) fun y K2 hK2 => ?_
    exact (eA.2).wp (hK2 _ _ (fun _ => (Ext.refl _).alloc _) (tailAB _ _ ((x.ext.trans y.ext).alloc _) (x.ext.trans y.ext).le (Blk.new _ _ _)))
  · refine wpOp_wp hA (wt _ gA) ((eA.1).wp (hK _ _ (fun _ => (Ext.refl _).alloc _) ?_))
    have b1 := Blk.new x.val te cs
    have x1 : Ext w (x.val.alloc (.cells cs te)) := x.ext.alloc _
    refine v_all [iS, iB] rA (by simp) (fun i hi y K2 hK2 => ?_)
    have hi : i = iS ∨ i = iB := by simpa using hi
    rcases hi with rfl | rfl
    · refine wpOp_wp hS (wt _ gS) ?_
      unfold Oper.wp
      rw [eS x.val.heap.size undef _ (.inr (.inl rfl)) y.val (But.of_ext (x1.trans y.ext))]
      refine hK2 _ _ (fun _ => Ext.refl _) ?_
      have := tailAB y.val x.val.heap.size (x1.trans y.ext) x.ext.le (b1.ext y.ext)
      rw [Array.setIfInBounds_comm _ _ nSA, Act.put_comm _ _ _ dSA] at this
      exact this
    · obtain ⟨v, w3, e3, x3, h3⟩ := eB x.val.heap.size _ (.inl rfl) y.val (x1.trans y.ext) x.ext.le (b1.ext y.ext)
      refine wpOp_wp hB (wt _ gB) ?_
      unfold Oper.wp
      rw [e3]
      refine hK2 _ _ (fun h0 => by rw [lB] at h0; cases h0) ?_
      have J : But KL w w3 := (But.of_ext (x1.trans y.ext)).trans x3
      refine v_one iS rAB hS (wt _ gS) fun z K3 hK3 => ?_
      unfold Oper.wp
      rw [eS x.val.heap.size v _ (.inr (.inr rfl)) z.val (J.trans (But.of_ext z.ext))]
      refine hK3 _ _ (fun _ => Ext.refl _) ?_
      have := fin x.val.heap.size v z.val (J.trans (But.of_ext z.ext)) (up _ _ _ h3 z.ext)
      rw [Array.setIfInBounds_comm _ _ nSA, Array.setIfInBounds_comm _ _ nSB, Act.put_comm _ _ _ dSA, Act.put_comm _ _ _ dSB] at this
      exact this
end
end Go.Proofs.YtmjkfgpkohfmiaaGreat
