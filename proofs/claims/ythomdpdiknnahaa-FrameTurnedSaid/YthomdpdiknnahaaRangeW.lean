/- Stores and loads of whole structs in a walk behind the wide fence. -/
import Derived.Test.YthomdpdiknnahaaRangeV
import Derived.Test.YthomdpdiknnahaaGen
namespace Go.Proofs.Ythomdpdiknnahaa
set_option linter.unusedVariables false
set_option linter.unusedSimpArgs false
open Go.RowKit Go.Shelf

section
variable {P : Program} {ops : Array Oper} {Q : Exit → Act → World → Prop} {n : Nat} {a : Act} {w : World} {rest : List Oper} {o : Oper}
theorem upon_wide {K : Act → World → Prop} {r : Result Next} (h : o.upon P a K Q r) : o.uponIn Fence.wide n P a K Q r := by
  cases r with
  | ok x w' =>
    cases x with
    | value v => exact h
    | skip => exact h
    | defer d => exact h
    | enter f args => exact ⟨(fun h => by cases h), (callsIn_wide.2 (Calls.mono h fun e w'' he => by cases e <;> exact he))⟩
    | row row args => exact ⟨(fun h => by cases h), fun c cs _ => let ⟨v, w1, r1, s1⟩ := h c cs; ⟨v, w1, r1, stepsIn_wide.2 s1⟩⟩
    | _ => exact False.elim h
  | halt x w' =>
    cases x with
    | panic v => exact h
    | _ => exact False.elim h
theorem wpListIn_of (hw : Region.wanted o (yielded ops a.tmps) = true) (h : ∀ K : Act → World → Prop, (∀ a w, wpListIn Fence.wide n P ops Q rest a w → K a w) → o.wp P a w K Q) : wpListIn Fence.wide n P ops Q (o :: rest) a w := by
  unfold wpListIn
  rw [if_pos hw]
  refine ⟨fun _ _ => trivial, ?_⟩
  exact upon_wide (h _ fun _ _ hh => hh)
theorem wpListIn_store_new (hgd : o.guard = none) (ty : TypeId) (x y : Operand) (ho : o.op = .store ty x y) {t : TypeId} {z cs' : Array Value}
    (hx : a.eval x = .pointer (some ⟨w.heap.size, 0, none⟩)) (hy : a.eval y = .agg cs') (hs : z.size = cs'.size)
    (hi : (P.info? ty).map (·.size) = some cs'.size) (h1 : cs'.all (·.oneCell') = true)
    (h : wpListIn Fence.wide n P ops Q rest (a.put o.dst undef) (w.alloc (.cells cs' t))) : wpListIn Fence.wide n P ops Q (o :: rest) a (w.alloc (.cells z t)) :=
  wpListIn_of (by unfold Region.wanted; rw [hgd]) fun K hK => wp_store_blk ty x y ho hx hy (Blk.new w t z) hs hi h1 (by rw [World.setRow_alloc_new]; exact hK _ _ h)
theorem wpListIn_load_blk_g (hw : Region.wanted o (yielded ops a.tmps) = true) (ty : TypeId) (x : Operand) (ho : o.op = .load ty x)
    {g : Nat} (hx : a.eval x = .pointer (some ⟨g, 0, none⟩)) {t : TypeId} {cs : Array Value} {d : TypeDesc} (hg : Blk w g t cs)
    (hu : P.underlying ty = some d) (hd : d.isRow = true) (hi : (P.info? ty).map (·.size) = some cs.size)
    (h : wpListIn Fence.wide n P ops Q rest (a.put o.dst (.agg cs)) w) : wpListIn Fence.wide n P ops Q (o :: rest) a w :=
  wpListIn_of hw fun K hK => by
    unfold Oper.wp execOp
    simp only [ho, hx, Instr.loadAt, Instr.sureAddr, Sem.run_bind, Sem.run_pure, Result.andThen_ok, run_loadVar_row w g t ty cs (0, 0) d hg hu (by cases d <;> first | rfl | (exact hd)) hi]
    exact hK _ _ h
theorem wpListIn_ofR {lp : Nat} (hw : Region.wanted o (yielded ops a.tmps) = true) (hd : ∀ c, o.op ≠ .defer c) (h : ∀ K : Act → World → Prop, (∀ a w, wpListIn (Fence.wide.inRound lp) n P ops Q rest a w → K a w) → o.wp P a w K Q) : wpListIn (Fence.wide.inRound lp) n P ops Q (o :: rest) a w := by
  unfold wpListIn
  rw [if_pos hw]
  refine ⟨fun _ _ => trivial, ?_⟩
  rw [Oper.semAt_eq _ _ _ hd]
  exact upon_in (h _ fun _ _ hh => hh)
theorem wpListIn_store_newR {lp : Nat} (hgd : o.guard = none) (ty : TypeId) (x y : Operand) (ho : o.op = .store ty x y) {t : TypeId} {z cs' : Array Value}
    (hx : a.eval x = .pointer (some ⟨w.heap.size, 0, none⟩)) (hy : a.eval y = .agg cs') (hs : z.size = cs'.size)
    (hi : (P.info? ty).map (·.size) = some cs'.size) (h1 : cs'.all (·.oneCell') = true)
    (h : wpListIn (Fence.wide.inRound lp) n P ops Q rest (a.put o.dst undef) (w.alloc (.cells cs' t))) : wpListIn (Fence.wide.inRound lp) n P ops Q (o :: rest) a (w.alloc (.cells z t)) :=
  wpListIn_ofR (by unfold Region.wanted; rw [hgd]) (by intro c hc; rw [ho] at hc; cases hc) fun K hK => wp_store_blk ty x y ho hx hy (Blk.new w t z) hs hi h1 (by rw [World.setRow_alloc_new]; exact hK _ _ h)
end

/-- a cell, whose value's own block is there -/
def OcS (gO : Nat) (A : World) : Prop := ∃ v, A.cell? ⟨gO, 0, none⟩ = some v ∧ ∀ k, v.ownBlock = some k → k < A.heap.size
/-- what the body of a loop keeps: each block of cells that is neither of two variables', nor the row's that one of them holds (which is of a type) -/
def KpS (gA gO : Nat) (tF : TypeId) (W W' : World) : Prop := ∀ k t cs v, W.cell? ⟨gO, 0, none⟩ = some v → Blk W k t cs → k ≠ gA → k ≠ gO → (t ≠ tF ∨ v.ownBlock ≠ some k) → Blk W' k t cs
theorem KpS.pre {gA gO : Nat} {tF : TypeId} {A B C : World} (h : Ext A B) (k : KpS gA gO tF B C) : KpS gA gO tF A C := fun i t cs v hc hb h1 h2 h3 => k i t cs v (Go.cell_later h hc) (hb.ext h) h1 h2 h3
theorem put_cells {W : World} {l : Nat} {o o' : Obj} (h : W.heap[l]? = some o) (ho : o.isCells = false) {i : Nat} {t : TypeId} {cs : Array Value} (hb : Blk W i t cs) : Blk (W.putObj l o') i t cs := by
  have hne : l ≠ i := by
    rintro rfl
    unfold Blk at hb
    rw [hb] at h
    cases h
    cases ho
  exact (World.putObj_heap_other (by omega)).trans hb
theorem put_cell {W : World} {l : Nat} {o o' : Obj} (h : W.heap[l]? = some o) (ho : o.isCells = false) {p : Addr} {v : Value} (hc : W.cell? p = some v) : (W.putObj l o').cell? p = some v := by
  obtain ⟨o2, h2, hc2⟩ := cells_of_cell hc
  have hne : l ≠ p.block := by
    rintro rfl
    rw [h] at h2
    cases h2
    rw [ho] at hc2
    cases hc2
  rw [World.cell?_of_block (w := W) (w' := W.putObj l o') (World.putObj_heap_other (by omega))]
  exact hc
theorem KpS.put {gA gO : Nat} {tF : TypeId} (A C : World) (l : Nat) (o o' : Obj) (h : A.heap[l]? = some o) (ho : o.isCells = false) (k : KpS gA gO tF (A.putObj l o') C) : KpS gA gO tF A C :=
  fun i t cs v hc hb h1 h2 h3 => k i t cs v (put_cell h ho hc) (put_cells h ho hb) h1 h2 h3
theorem KpS.post {gA gO : Nat} {tF : TypeId} (A B : World) (l : Nat) (o o' : Obj) (h : B.heap[l]? = some o) (ho : o.isCells = false) (k : KpS gA gO tF A B) : KpS gA gO tF A (B.putObj l o') :=
  fun i t cs v hc hb h1 h2 h3 => put_cells h ho (k i t cs v hc hb h1 h2 h3)
theorem Ext.put {a W : World} (h : Ext a W) {l : Nat} (hl : a.heap.size ≤ l) (o : Obj) : Ext a (W.putObj l o) :=
  h.grown (grownBy_putObj' W l o) (fun k e => by cases e; exact hl)
theorem WR.put {α : Type} {f : α → List Value} {s : Nat} {W : World} {B : Nat} {e : TypeId} {v : Value} {l : List α} (h : WR f s W B e v l) {i : Nat} {o o' : Obj} (hi : W.heap[i]? = some o) (ho : o.isCells = false) : WR f s (W.putObj i o') B e v l := by
  rcases h.2 with ⟨h1, h2⟩ | ⟨g, cap, cur, h1, h2, h3, h4⟩
  · exact ⟨h.1, .inl ⟨h1, h2⟩⟩
  · exact ⟨h.1, .inr ⟨g, cap, cur, h1, h2, put_cells hi ho (show Blk W g e cur from h3), h4⟩⟩
end Go.Proofs.Ythomdpdiknnahaa
