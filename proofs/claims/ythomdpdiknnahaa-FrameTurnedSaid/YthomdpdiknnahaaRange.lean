/- A range over a function whose iterator keeps its state in a cell of its own. -/
import Derived.RangeFuncNested
import Derived.RangeFuncBound
import Derived.RangeFuncCalls
import Derived.RangeFuncLeaves
import Derived.Shelf.Abstract
import Derived.Shelf.RegionOpen
import Derived.OwnWalkIn
import Derived.TacticsInMore
import Derived.LoopNIn
import Derived.LoopIn
import Derived.Test.YthomdpdiknnahaaMem
namespace Go.Proofs.Ythomdpdiknnahaa
set_option linter.unusedVariables false
set_option linter.unusedSimpArgs false
open Go.RowKit Go.Shelf

/-- what an iterator gives that stores into its own cell in between: the whole list, if each round goes on -/
def SeqState {α : Type} (P : Program) (gf : Nat) (lb : Array Value) (encs : α → Array Value) (Kp : World → World → Prop) (Oc : World → Prop) (gB : Nat) (L : List α) (w : World) : Prop :=
  ∀ (l : Nat) (J : List α → World → Prop) (W : World), Ext w W →
    (∀ s A B, J s A → Ext A B → J s B) → (∀ s A v, J s A → J s (A.setCell ⟨gB, 0, none⟩ v)) → (∀ s A, J s A → Oc A) →
    (∀ pre x W1, (pre ++ [x]) <+: L → J pre W1 → YieldAt Fence.wide 0 P l (encs x) W1 fun e W' => e = .returned (.bool true) ∧ J (pre ++ [x]) W' ∧ Kp W1 W') →
    J [] W →
    CallsIn Fence.wide 0 P gf (#[.func (.yield l) #[] #[]] ++ lb) W fun e W' => (∃ v, e = .returned v) ∧ J L W'
theorem Ext.keeps {w w' : World} (h : Ext w w') {k : Nat} {o : Obj} (hk : w.heap[k]? = some o) : w'.heap[k]? = some o :=
  (h.block k (Array.getElem?_eq_some_iff.1 hk).1).trans hk
variable {P : Program}
/-- the statement, where each round goes on -/
theorem wpIn_range_state {α : Type} {g : Operand} {ps : Array Tmp} {assign body : Code} {Q : Exit → Act → World → Prop} {a : Act} {w : World}
    {gf : Nat} {lb : Array Value} (hg : a.eval g = .func (.func gf) #[] lb) (eg : ∀ args w, (callFunc gf args).run P w = .ok (.enter gf args) w)
    {encs : α → Array Value} {Kp : World → World → Prop} {Oc : World → Prop} {gB : Nat} {L : List α} (hseq : SeqState P gf lb encs Kp Oc gB L w) (hps : ∀ x, (encs x).size = ps.size)
    (hKe : ∀ {A B C : World}, Ext A B → Kp B C → Kp A C) (hKp : ∀ (A C : World) (l : Nat) (o o' : Obj), A.heap[l]? = some o → o.isCells = false → Kp (A.putObj l o') C → Kp A C)
    (hKq : ∀ (A B : World) (l : Nat) (o o' : Obj), B.heap[l]? = some o → o.isCells = false → Kp A B → Kp A (B.putObj l o'))
    (I : List α → World → Prop) (hIe : ∀ s A B, I s A → Ext A B → I s B) (hIs : ∀ s A v, I s A → I s (A.setCell ⟨gB, 0, none⟩ v))
    (hIp : ∀ s (W : World) (l : Nat) (o o' : Obj), w.heap.size ≤ l → W.heap[l]? = some o → o.isCells = false → I s W → I s (W.putObj l o')) (hIo : ∀ s A, I s A → Oc A) (h0 : I [] w)
    (Ax : α → Act → World → Prop) (hAp : ∀ x a' (W : World) (l : Nat) (o o' : Obj), W.heap[l]? = some o → o.isCells = false → Ax x a' W → Ax x a' (W.putObj l o'))
    (hassign : ∀ (l : Nat) (pre : List α) (x : α) (W : World) (K : Act → World → Prop), I pre W → (∀ a' W', Ext W W' → Ax x a' W' → K a' W') →
      assign.wpIn (Fence.wide.inRound l) 0 P (Exit.then K (fun _ _ _ => False)) { tmps := (ps.zip (encs x)).foldl (fun t (p, v) => t.setIfInBounds p v) a.tmps, defers := [] } W)
    (hbody : ∀ (l : Nat) (pre : List α) (x : α) (a' : Act) (W : World), (pre ++ [x]) <+: L → I pre W → Ax x a' W →
      body.wpIn (Fence.wide.inRound l) 0 P (fun e _ W' => e = .normal ∧ KeepsOthers W W' ∧ Kp W W' ∧ I (pre ++ [x]) W') a' W)
    (hdone : ∀ (D : Nat) (W : World), w.heap.size ≤ D → I L W → W.heap[D]? = some (.deferred (some [])) → Q .normal { a with defers := { target := .collected D, args := #[] } :: a.defers } W) :
    (Code.rangeFunc g ps assign body).wpIn Fence.wide 0 P Q a w := by
  refine wpIn_rangeFunc ?_
  intro fn hfn
  obtain ⟨rec, hrec⟩ : ∃ rec : LoopState → Option Code → Loop, rec = fun st pe => { state := st, pending := pe, fn, tmps := a.tmps, params := ps, assign, body, defers := w.heap.size } := ⟨_, rfl⟩
  obtain ⟨W1, hW1⟩ : ∃ W1, (w.alloc (.deferred (some []))).alloc (.loop (rec .ready none)) = W1 := ⟨_, rfl⟩
  have x1 : Ext w W1 := by rw [← hW1]; exact ((Ext.refl w).alloc _).alloc _
  have hD1 : W1.heap[w.heap.size]? = some (.deferred (some [])) := by
    rw [← hW1]; exact ((Ext.refl _).alloc _).keeps (World.alloc_heap_new w _)
  have hl1 : W1.heap[w.heap.size + 1]? = some (.loop (rec .ready none)) := by
    rw [← hW1]
    have := World.alloc_heap_new (w.alloc (.deferred (some []))) (.loop (rec .ready none))
    rwa [World.size_alloc] at this
  refine ⟨w.heap.size + 1, [{ target := .collected w.heap.size, args := #[] }], W1, { target := .fn (.func gf) lb, args := #[.func (.yield (w.heap.size + 1)) #[] #[]] }, W1, gf,
    #[.func (.yield (w.heap.size + 1)) #[] #[]] ++ lb, W1, ?_, ?_, fun _ _ => trivial, ?_, (fun h => by cases h), ?_⟩
  · rw [← hW1, hrec]; exact run_enterLoop_outer _ _ _ _ _
  · simp only [resolve, hg]
    simp [go_sem]
  · simp [invoke, go_sem, eg]
  · have hput : ∀ (W : World) (r r' : Loop), W.heap[w.heap.size + 1]? = some (.loop r) → W.heap[w.heap.size]? = some (.deferred (some [])) →
        (W.putObj (w.heap.size + 1) (.loop r')).heap[w.heap.size + 1]? = some (.loop r') ∧ (W.putObj (w.heap.size + 1) (.loop r')).heap[w.heap.size]? = some (.deferred (some [])) := fun W r r' h1 h2 =>
      ⟨World.putObj_heap_same (Array.getElem?_eq_some_iff.1 h1).1, (World.putObj_heap_other (by omega)).trans h2⟩
    refine (hseq (w.heap.size + 1) (fun pre W => I pre W ∧ W.heap[w.heap.size + 1]? = some (.loop (rec .ready none)) ∧ W.heap[w.heap.size]? = some (.deferred (some []))) W1 x1
      (fun s A B h hx => ⟨hIe s A B h.1 hx, hx.keeps h.2.1, hx.keeps h.2.2⟩)
      (fun s A v h => ⟨hIs s A v h.1, (KeepsOthers.setCell A _ v).same _ _ h.2.1 rfl, (KeepsOthers.setCell A _ v).same _ _ h.2.2 rfl⟩) (fun s A h => hIo s A h.1) ?_ ⟨hIe _ _ _ h0 x1, hl1, hD1⟩).mono ?_
    · rintro pre x W hpre ⟨hi, hl, hd⟩
      have hy := run_yield (P := P) (args := encs x) hl (by rw [hrec]; exact hps x)
      rw [hrec] at hy
      refine ⟨fn, _, assign, body, hy, roundIn_of_wpIn hfn (hassign _ pre x W _ hi fun a' W2 x2 hA => ⟨_, run_beginRound (x2.keeps hl) (by rw [hrec]), ?_⟩)⟩
      have hl2 := x2.keeps hl
      have hd2 := x2.keeps hd
      have hi2 := hIe _ _ _ hi x2
      obtain ⟨hl3, hd3⟩ := hput W2 _ { rec .ready none with state := .busy } hl2 hd2
      have hA3 := hAp _ _ _ _ _ (.loop { rec .ready none with state := .busy }) hl2 rfl hA
      have hi3 := hIp _ _ _ _ (.loop { rec .ready none with state := .busy }) (by omega) hl2 rfl hi2
      refine wpIn_mono (hbody _ pre x a' _ hpre hi3 hA3) ?_
      rintro e a3 W3 ⟨rfl, hk, hkp, hi4⟩
      have hl4 := hk.same _ _ hl3 rfl
      have hd4 := hk.same _ _ hd3 rfl
      have hr := run_endRound (P := P) none hl4
      obtain ⟨hl5, hd5⟩ := hput W3 _ (rec .ready none) hl4 hd4
      refine ⟨_, _, hr, rfl, ⟨?_, ?_, ?_⟩, ?_⟩
      · exact hIp _ _ _ _ _ (by omega) hl4 rfl hi4
      · rw [hrec] at hl5 ⊢; exact hl5
      · rw [hrec] at hd5 ⊢; exact hd5
      · exact hKe x2 (hKp _ _ _ _ _ hl2 rfl (hKq _ _ _ _ _ hl4 rfl hkp))
    · rintro e W2 ⟨⟨v, rfl⟩, hi, hl, hd⟩
      have he := run_endLoop (P := P) hl (by rw [hrec]; simp)
      rw [hrec] at he
      refine ⟨none, _, he, ?_⟩
      exact hdone _ _ (Nat.le_refl _) (hIp _ _ _ _ _ (by omega) hl rfl hi) ((World.putObj_heap_other (by omega)).trans hd)
end Go.Proofs.Ythomdpdiknnahaa
