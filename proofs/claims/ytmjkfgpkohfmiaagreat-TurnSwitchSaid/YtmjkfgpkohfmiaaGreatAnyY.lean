/- Regions that draw their order, more: an operation that is taken ahead of its place; several variables that are made, in whatever order. -/
import Derived.Test.YtmjkfgpkohfmiaaGreatAnyX
import Derived.Test.YtmjkfgpkohfmiaaGreatWide
namespace Go.Proofs.YtmjkfgpkohfmiaaGreat
set_option linter.unusedVariables false
set_option linter.unusedSimpArgs false
open Go.RowKit

section
variable {P : Program} {ops : Array Oper} {Q : Exit → Act → World → Prop} {md : Region.Mode}

/-- the operations from the k-th on, where those that are listed are done -/
def OutAt (P : Program) (md : Region.Mode) (ops : Array Oper) (Q : Exit → Act → World → Prop) (fuel : Nat) (listed : Array Bool) (k : Nat) (l : List Oper) (a : Act) (w : World) : Prop :=
  ops.toList.drop k = l → wpAnyX P md ops Q fuel listed a w
theorem any_want {fuel k : Nat} {listed : Array Bool} {a : Act} {w : World} {oi : Oper} (hi : ops[k]? = some oi) (hs : Region.noSelect ops = true) (hf : Region.free md ops listed k = true)
    (hr : (Region.ready md ops listed).contains k = true) (hQ : ∀ v, ∀ c a w, Q (.panic c) (a.put oi.dst v) w → Q (.panic c) a w)
    (hw : Region.wanted oi (yielded ops a.tmps) = true)
    (h : ∀ K : Act → Prop, (∀ a', wpAnyX P md ops Q fuel (listed.setIfInBounds k true) a' w → K a') → ∃ v, (∀ x : Up w, upAt P oi a x.val v) ∧ K (a.put oi.dst v)) :
    wpAnyX P md ops Q (fuel + 1) listed a w := by
  obtain ⟨v, h1, h2⟩ := h _ (fun _ h => h)
  exact wpAnyX_first hi (Region.noSelect_spec hs) (hQ v) fuel _ a w (Region.free_spec hi hf) (by simpa using hr) (.inl ⟨hw, fun w1 hx => h1 ⟨w1, hx⟩⟩) h2
/-- an operation is taken ahead of its place -/
theorem lex_ahead (d : Nat) {n k fuel : Nat} {a : Act} {w : World} {oi : Oper} {l : List Oper} (hi : l[d]? = some oi) (hs : Region.noSelect ops = true) (hf : Region.free md ops (lst n k) (k + d) = true)
    (hr : (Region.ready md ops (lst n k)).contains (k + d) = true) (hQ : ∀ v, ∀ c a w, Q (.panic c) (a.put oi.dst v) w → Q (.panic c) a w)
    (hw : Region.wanted oi (yielded ops a.tmps) = true)
    (h : ∀ K : Act → Prop, (∀ a', OutAt P md ops Q fuel ((lst n k).setIfInBounds (k + d) true) k l a' w → K a') → ∃ v, (∀ x : Up w, upAt P oi a x.val v) ∧ K (a.put oi.dst v)) :
    LexAt P md ops Q (fuel + 1) n k l a w := by
  intro hd
  have hi' : ops[k + d]? = some oi := by
    rw [← hd, List.getElem?_drop] at hi
    simpa using hi
  exact any_want hi' hs hf hr hQ hw fun K hK => h K fun a' h' => hK a' (h' hd)
/-- a load of a whole array or struct is taken ahead of its place -/
theorem lex_ahead_load (d : Nat) {n k fuel : Nat} {a : Act} {w : World} {oi : Oper} {l : List Oper} (hi : l[d]? = some oi) (hs : Region.noSelect ops = true) (hf : Region.free md ops (lst n k) (k + d) = true)
    (hr : (Region.ready md ops (lst n k)).contains (k + d) = true) (hQ : ∀ v, ∀ c a w, Q (.panic c) (a.put oi.dst v) w → Q (.panic c) a w)
    (hw : Region.wanted oi (yielded ops a.tmps) = true) (ty : TypeId) (x : Operand) (ho : oi.op = .load ty x)
    {g : Nat} (hx : a.eval x = .pointer (some ⟨g, 0, none⟩)) {t : TypeId} {cs : Array Value} {dd : TypeDesc} (hg : Blk w g t cs)
    (hu : P.underlying ty = some dd) (hd : (match dd with | .struct _ | .array _ _ => true | _ => false) = true) (hsz : (P.info? ty).map (·.size) = some cs.size)
    (h : OutAt P md ops Q fuel ((lst n k).setIfInBounds (k + d) true) k l (a.put oi.dst (.agg cs)) w) : LexAt P md ops Q (fuel + 1) n k l a w :=
  lex_ahead d hi hs hf hr hQ hw fun K hK => by
    refine ⟨.agg cs, fun y => ?_, hK _ h⟩
    unfold upAt
    simp only [execOp, ho, hx, Instr.loadAt, Instr.sureAddr, Sem.run_bind, Sem.run_pure, Result.andThen_ok, run_loadVar_row y.val g t ty cs (0, 0) dd (hg.ext y.ext) hu hd hsz]
    exact ⟨rfl, rfl⟩
/-- the next one is wanted -/
theorem out_want {listed : Array Bool} {k fuel : Nat} {a : Act} {w : World} {oi : Oper} {rest : List Oper} (hs : Region.noSelect ops = true) (hf : Region.free md ops listed k = true)
    (hr : (Region.ready md ops listed).contains k = true) (hQ : ∀ v, ∀ c a w, Q (.panic c) (a.put oi.dst v) w → Q (.panic c) a w)
    (hw : Region.wanted oi (yielded ops a.tmps) = true)
    (h : ∀ K : Act → Prop, (∀ a', OutAt P md ops Q fuel (listed.setIfInBounds k true) (k + 1) rest a' w → K a') → ∃ v, (∀ x : Up w, upAt P oi a x.val v) ∧ K (a.put oi.dst v)) :
    OutAt P md ops Q (fuel + 1) listed k (oi :: rest) a w := by
  intro hd
  obtain ⟨hi', hd'⟩ := drop_cons hd
  have hi : ops[k]? = some oi := by simpa using hi'
  exact any_want hi hs hf hr hQ hw fun K hK => h K fun a' h' => hK a' (h' hd')
/-- none but the next one may come up: it is carried out -/
theorem out_only {listed : Array Bool} {k fuel : Nat} {a : Act} {w : World} {oi : Oper} {rest : List Oper} (hr : Region.ready md ops listed = [k])
    (hw : Region.wanted oi (yielded ops a.tmps) = true)
    (h : ∀ x : Up w, ∀ K : Act → World → Prop, Hid (∀ a' w', Ext x.val w' → OutAt P md ops Q fuel (listed.setIfInBounds k true) (k + 1) rest a' w' → K a' w') → oi.wp P a x.val K Q) :
    OutAt P md ops Q (fuel + 1) listed k (oi :: rest) a w := by
  intro hd
  obtain ⟨hi', hd'⟩ := drop_cons hd
  have hi : ops[k]? = some oi := by simpa using hi'
  intro _ w1 hx
  refine ⟨fun h0 => (by rw [hr] at h0; cases h0), fun i hik => ?_⟩
  rw [hr, List.mem_singleton] at hik
  subst hik
  have h0 := h ⟨w1, hx⟩ (fun a' w' => (lastB md ops i = false → Ext w1 w') ∧ wpAnyX P md ops Q fuel (listed.setIfInBounds i true) a' w') (fun _ _ h1 h2 => ⟨fun _ => h1, h2 hd'⟩)
  unfold Go.wpOp
  simp only [hi]
  rw [if_pos hw]
  exact .inl h0
/-- an element or a part of an array or struct is loaded -/
theorem lex_load_range {n k fuel : Nat} {a : Act} {w : World} {oi : Oper} {rest : List Oper} (hs : Region.noSelect ops = true) (hf : Region.free md ops (lst n k) k = true)
    (hr : (Region.ready md ops (lst n k)).contains k = true) (hl : (lst n k).setIfInBounds k true = lst n (k + 1)) (hQ : ∀ v, ∀ c a w, Q (.panic c) (a.put oi.dst v) w → Q (.panic c) a w)
    (hw : Region.wanted oi (yielded ops a.tmps) = true) (ty : TypeId) (x : Operand) (ho : oi.op = .load ty x)
    {g m : Nat} (hx : a.eval x = .pointer (some ⟨g, m, none⟩)) {cs : List Value} {d : TypeDesc} (hg : w.rangeAt g m cs)
    (hu : P.underlying ty = some d) (hd : d.isRow = true) (hsz : (P.info? ty).map (·.size) = some cs.length)
    (h : LexAt P md ops Q fuel n (k + 1) rest (a.put oi.dst (.agg cs.toArray)) w) : LexAt P md ops Q (fuel + 1) n k (oi :: rest) a w :=
  lex_take hs hf hr hl hQ fun K hK => by
    rw [if_pos hw]
    refine ⟨.agg cs.toArray, fun y => ?_, hK _ h⟩
    unfold upAt
    simp only [execOp, ho, hx, Instr.loadAt, Instr.sureAddr, Sem.run_bind, Sem.run_pure, Result.andThen_ok, run_loadVar_mid y.val g m ty cs d (rangeAt_ext hg y.ext) hu hd hsz]
    exact ⟨rfl, rfl⟩
/-- the next one is done -/
theorem out_done {listed : Array Bool} {k fuel : Nat} {a : Act} {w : World} {oi : Oper} {rest : List Oper} (h : OutAt P md ops Q fuel listed (k + 1) rest a w) :
    OutAt P md ops Q fuel listed k (oi :: rest) a w := fun hd => h (drop_cons hd).2
/-- just the first k are done -/
theorem out_lex {listed : Array Bool} {n k fuel : Nat} {a : Act} {w : World} {l : List Oper} (hl : listed = lst n k) (h : LexAt P md ops Q fuel n k l a w) :
    OutAt P md ops Q fuel listed k l a w := fun hd => hl ▸ h hd
/-- each of those that may come up is carried out -/
theorem any_all {fuel : Nat} {listed : Array Bool} {a : Act} {w : World} (R : List Nat) (hr : Region.ready md ops listed = R) (hne : R ≠ [])
    (h : ∀ i ∈ R, ∀ x : Up w, ∀ K : Act → World → Prop, (∀ a' w', Ext x.val w' → wpAnyX P md ops Q fuel (listed.setIfInBounds i true) a' w' → K a' w') → wpOp P ops Q i K a x.val) :
    wpAnyX P md ops Q (fuel + 1) listed a w := by
  intro _ w1 hx
  refine ⟨fun h0 => absurd (hr.symm.trans h0) hne, fun i hik => ?_⟩
  rw [hr] at hik
  exact h i hik ⟨w1, hx⟩ _ (fun _ _ h1 h2 => ⟨fun _ => h1, h2⟩)
theorem wpOp_wp {i : Nat} {oi : Oper} {a : Act} {w : World} {K : Act → World → Prop} (hi : ops[i]? = some oi) (hw : Region.wanted oi (yielded ops a.tmps) = true) (h : oi.wp P a w K Q) : wpOp P ops Q i K a w := by
  unfold Go.wpOp
  simp only [hi]
  rw [if_pos hw]
  exact .inl h
/-- a variable is made -/
theorem run_alloc_row {t : TypeId} {z : Array Value} (hz : ∀ w, (zeroValue t).run P w = .ok (.agg z) w) (w : World) :
    (Instr.alloc t true (.tuple #[])).run P w = .ok (.pointer (some ⟨w.heap.size, 0, none⟩)) (w.alloc (.cells z t)) := by
  unfold Instr.alloc
  simp only [Sem.run_bind, hz, Result.andThen_ok]
  rfl
theorem wp_alloc_row {oi : Oper} {t : TypeId} {z : Array Value} {a : Act} {w : World} {K : Act → World → Prop} (ho : oi.op = .alloc t) (hz : ∀ w, (zeroValue t).run P w = .ok (.agg z) w)
    (h : K (a.put oi.dst (.pointer (some ⟨w.heap.size, 0, none⟩))) (w.alloc (.cells z t))) : oi.wp P a w K Q := by
  unfold Oper.wp execOp
  simp only [ho, Sem.run_bind, run_alloc_row hz, Result.andThen_ok]
  exact h
/-- two variables are made, in whatever order -/
theorem any_alloc2 {fuel i j : Nat} {listed : Array Bool} {a : Act} {w : World} {oi oj : Oper} {ti tj : TypeId} {zi zj : Array Value} (hi : ops[i]? = some oi) (hj : ops[j]? = some oj)
    (hr : Region.ready md ops listed = [i, j]) (hri : Region.ready md ops (listed.setIfInBounds i true) = [j]) (hrj : Region.ready md ops (listed.setIfInBounds j true) = [i])
    (hij : i ≠ j) (hoi : oi.op = .alloc ti) (hoj : oj.op = .alloc tj) (hgi : oi.guard = none) (hgj : oj.guard = none) (hd : ∀ d, oi.dst = some d → oj.dst ≠ some d)
    (hzi : ∀ w, (zeroValue ti).run P w = .ok (.agg zi) w) (hzj : ∀ w, (zeroValue tj).run P w = .ok (.agg zj) w)
    (h : ∀ gi gj w', Ext w w' → w.heap.size ≤ gi → w.heap.size ≤ gj → gi ≠ gj → Blk w' gi ti zi → Blk w' gj tj zj → wpAnyX P md ops Q fuel ((listed.setIfInBounds i true).setIfInBounds j true) ((a.put oi.dst (.pointer (some ⟨gi, 0, none⟩))).put oj.dst (.pointer (some ⟨gj, 0, none⟩))) w') :
    wpAnyX P md ops Q (fuel + 2) listed a w := by
  have wi : ∀ f, Region.wanted oi f = true := fun f => by unfold Region.wanted; rw [hgi]
  have wj : ∀ f, Region.wanted oj f = true := fun f => by unfold Region.wanted; rw [hgj]
  refine any_all [i, j] hr (by simp) (fun m hm x K hK => ?_)
  have hm : m = i ∨ m = j := by simpa using hm
  rcases hm with rfl | rfl
  · refine wpOp_wp hi (wi _) (wp_alloc_row hoi hzi (hK _ _ ((Ext.refl _).alloc _) ?_))
    refine any_all [j] hri (by simp) (fun m' hm' y K' hK' => ?_)
    have hm' : m' = j := by simpa using hm'
    subst hm'
    refine wpOp_wp hj (wj _) (wp_alloc_row hoj hzj (hK' _ _ ((Ext.refl _).alloc _) ?_))
    have b1 := ((Blk.new x.val ti zi).ext y.ext)
    have hlt := b1.lt
    exact h x.val.heap.size y.val.heap.size _ ((((x.ext).alloc _).trans y.ext).alloc _) x.ext.le (((x.ext).alloc (.cells zi ti)).trans y.ext).le (by omega) (b1.alloc _) (Blk.new _ _ _)
  · refine wpOp_wp hj (wj _) (wp_alloc_row hoj hzj (hK _ _ ((Ext.refl _).alloc _) ?_))
    refine any_all [i] hrj (by simp) (fun m' hm' y K' hK' => ?_)
    have hm' : m' = i := by simpa using hm'
    subst hm'
    refine wpOp_wp hi (wi _) (wp_alloc_row hoi hzi (hK' _ _ ((Ext.refl _).alloc _) ?_))
    have b1 := ((Blk.new x.val tj zj).ext y.ext)
    have hlt := b1.lt
    have := h y.val.heap.size x.val.heap.size _ ((((x.ext).alloc (.cells zj tj)).trans y.ext).alloc (.cells zi ti)) (((x.ext).alloc (.cells zj tj)).trans y.ext).le x.ext.le (by omega) (Blk.new _ _ _) (b1.alloc _)
    rw [Array.setIfInBounds_comm _ _ hij.symm, Act.put_comm a _ _ (fun d h1 h2 => hd d h2 h1)]
    exact this
/-- .. at the list of the operations that are left -/
theorem lex_alloc2 {n k fuel : Nat} {a : Act} {w : World} {oi oj : Oper} {rest : List Oper} {ti tj : TypeId} {zi zj : Array Value}
    (hr : Region.ready md ops (lst n k) = [k, k + 1]) (hri : Region.ready md ops ((lst n k).setIfInBounds k true) = [k + 1]) (hrj : Region.ready md ops ((lst n k).setIfInBounds (k + 1) true) = [k])
    (hl : ((lst n k).setIfInBounds k true).setIfInBounds (k + 1) true = lst n (k + 1 + 1))
    (hoi : oi.op = .alloc ti) (hoj : oj.op = .alloc tj) (hgi : oi.guard = none) (hgj : oj.guard = none) (hd : ∀ d, oi.dst = some d → oj.dst ≠ some d)
    (hzi : ∀ w, (zeroValue ti).run P w = .ok (.agg zi) w) (hzj : ∀ w, (zeroValue tj).run P w = .ok (.agg zj) w)
    (h : ∀ gi gj w', Ext w w' → w.heap.size ≤ gi → w.heap.size ≤ gj → gi ≠ gj → Blk w' gi ti zi → Blk w' gj tj zj → LexAt P md ops Q fuel n (k + 1 + 1) rest ((a.put oi.dst (.pointer (some ⟨gi, 0, none⟩))).put oj.dst (.pointer (some ⟨gj, 0, none⟩))) w') :
    LexAt P md ops Q (fuel + 2) n k (oi :: oj :: rest) a w := by
  intro hd0
  obtain ⟨hi', hd'⟩ := drop_cons hd0
  obtain ⟨hj', hd''⟩ := drop_cons hd'
  exact any_alloc2 (by simpa using hi') (by simpa using hj') hr hri hrj (by omega) hoi hoj hgi hgj hd hzi hzj fun gi gj w' h1 h2 h3 h4 h5 h6 => by
    rw [hl]; exact h gi gj w' h1 h2 h3 h4 h5 h6 hd''
/-- a slice that is written out, at any of these worlds -/
def BsAt (P : Program) (o : Oper) (a : Act) (m : Nat) (te : TypeId) (cs : Array Value) : Prop :=
  ∀ w, (execOp a.eval o).run P w = .ok (.value (.slice (some ⟨w.heap.size, 0, none⟩) m m)) (w.alloc (.cells cs te))
theorem BsAt.wp {o : Oper} {a : Act} {m : Nat} {te : TypeId} {cs : Array Value} (h : BsAt P o a m te cs) {w : World} {K : Act → World → Prop}
    (hk : K (a.put o.dst (.slice (some ⟨w.heap.size, 0, none⟩) m m)) (w.alloc (.cells cs te))) : o.wp P a w K Q := by
  unfold Oper.wp
  rw [h w]
  exact hk
theorem BsAt.of {o : Oper} {a : Act} {m : Nat} {te : TypeId} {cs : Array Value} {vs : Array (Nat × Value)} (t : TypeId) (parts : Array (Nat × Operand)) (ho : o.op = .buildSlice t m parts) (hx : (parts.toList.map fun (i, x) => (i, a.eval x)) = vs.toList)
    (hrun : ∀ w, (Instr.buildSlice t m vs).run P w = .ok (.slice (some ⟨w.heap.size, 0, none⟩) m m) (w.alloc (.cells cs te))) : BsAt P o a m te cs := by
  have hx : (parts.map fun (i, x) => (i, a.eval x)) = vs := by
    apply Array.ext'
    rw [Array.toList_map]; exact hx
  intro w
  unfold execOp
  simp only [ho, hx, Sem.run_bind, Sem.run_pure, Result.andThen_ok, hrun]

/-- a slice is written out, a call is made with it, and a variable is made, in whatever order -/
theorem lex_bs_call_alloc {n k fuel : Nat} {a : Act} {w : World} {ob oc oi : Oper} {rest : List Oper} {m : Nat} {te ti : TypeId} {cs zi : Array Value} {vc : Value} (hs : Region.noSelect ops = true)
    (hr : Region.ready md ops (lst n k) = [k, k + 2]) (hrc : (Region.ready md ops ((lst n k).setIfInBounds k true)).contains (k + 1) = true) (hri : Region.ready md ops (((lst n k).setIfInBounds k true).setIfInBounds (k + 1) true) = [k + 2])
    (hrb : Region.ready md ops ((lst n k).setIfInBounds (k + 2) true) = [k]) (hrc2 : (Region.ready md ops (((lst n k).setIfInBounds (k + 2) true).setIfInBounds k true)).contains (k + 1) = true)
    (hf : Region.free md ops ((lst n k).setIfInBounds k true) (k + 1) = true) (hf2 : Region.free md ops (((lst n k).setIfInBounds (k + 2) true).setIfInBounds k true) (k + 1) = true)
    (hl : (((lst n k).setIfInBounds k true).setIfInBounds (k + 1) true).setIfInBounds (k + 2) true = lst n (k + 1 + 1 + 1))
    (hQ : ∀ v, ∀ c a w, Q (.panic c) (a.put oc.dst v) w → Q (.panic c) a w)
    (hgb : ob.guard = none) (hgc : oc.guard = none) (hgi : oi.guard = none)
    (hdb : ∀ d, oi.dst = some d → ob.dst ≠ some d) (hdc : ∀ d, oi.dst = some d → oc.dst ≠ some d)
    (hoi : oi.op = .alloc ti) (hzi : ∀ w, (zeroValue ti).run P w = .ok (.agg zi) w)
    (hb : ∀ a', (a' = a ∨ ∃ u, a' = a.put oi.dst u) → BsAt P ob a' m te cs)
    (hc : ∀ a', (a' = a ∨ ∃ u, a' = a.put oi.dst u) → ∀ g w', Ext w w' → w.heap.size ≤ g → Blk w' g te cs → upAt P oc (a'.put ob.dst (.slice (some ⟨g, 0, none⟩) m m)) w' vc)
    (h : ∀ gb gi w', Ext w w' → w.heap.size ≤ gi → Blk w' gi ti zi → LexAt P md ops Q fuel n (k + 1 + 1 + 1) rest (((a.put ob.dst (.slice (some ⟨gb, 0, none⟩) m m)).put oc.dst vc).put oi.dst (.pointer (some ⟨gi, 0, none⟩))) w') :
    LexAt P md ops Q (fuel + 3) n k (ob :: oc :: oi :: rest) a w := by
  intro hd0
  obtain ⟨hb', hd1⟩ := drop_cons hd0
  obtain ⟨hc', hd2⟩ := drop_cons hd1
  obtain ⟨hi', hd3⟩ := drop_cons hd2
  have eb : ops[k]? = some ob := by simpa using hb'
  have ec : ops[k + 1]? = some oc := by simpa using hc'
  have ei : ops[k + 2]? = some oi := by simpa using hi'
  have gb : ∀ f, Region.wanted ob f = true := fun f => by unfold Region.wanted; rw [hgb]
  have gc : ∀ f, Region.wanted oc f = true := fun f => by unfold Region.wanted; rw [hgc]
  have gi : ∀ f, Region.wanted oi f = true := fun f => by unfold Region.wanted; rw [hgi]
  refine any_all [k, k + 2] hr (by simp) (fun j hj x K hK => ?_)
  have hj : j = k ∨ j = k + 2 := by simpa using hj
  rcases hj with rfl | rfl
  · refine wpOp_wp eb (gb _) ((hb a (.inl rfl)).wp (hK _ _ ((Ext.refl _).alloc _) ?_))
    have b1 := Blk.new x.val te cs
    have x1 : Ext w (x.val.alloc (.cells cs te)) := x.ext.alloc _
    have hx := x.ext.le
    refine any_want ec hs hf hrc hQ (gc _) (fun K' hK' => ⟨vc, fun y => hc a (.inl rfl) _ y.val (x1.trans y.ext) hx (b1.ext y.ext), hK' _ ?_⟩)
    refine any_all [j + 2] hri (by simp) (fun i hi y K'' hK'' => ?_)
    obtain rfl : i = j + 2 := by simpa using hi
    refine wpOp_wp ei (gi _) (wp_alloc_row hoi hzi (hK'' _ _ ((Ext.refl _).alloc _) ?_))
    rw [hl]
    exact h _ _ _ ((x1.trans y.ext).alloc _) (x1.trans y.ext).le (Blk.new _ _ _) hd3
  · refine wpOp_wp ei (gi _) (wp_alloc_row hoi hzi (hK _ _ ((Ext.refl _).alloc _) ?_))
    have z1 := Blk.new x.val ti zi
    have x1 : Ext w (x.val.alloc (.cells zi ti)) := x.ext.alloc _
    refine any_all [k] hrb (by simp) (fun i hi y K'' hK'' => ?_)
    obtain rfl : i = k := by simpa using hi
    refine wpOp_wp eb (gb _) ((hb _ (.inr ⟨_, rfl⟩)).wp (hK'' _ _ ((Ext.refl _).alloc _) ?_))
    have b1 := Blk.new y.val te cs
    have x2 : Ext w (y.val.alloc (.cells cs te)) := (x1.trans y.ext).alloc _
    have hx := (x1.trans y.ext).le
    refine any_want ec hs hf2 hrc2 hQ (gc _) (fun K' hK' => ⟨vc, fun v => hc _ (.inr ⟨_, rfl⟩) _ v.val (x2.trans v.ext) hx (b1.ext v.ext), hK' _ ?_⟩)
    have e : (((lst n i).setIfInBounds (i + 2) true).setIfInBounds i true).setIfInBounds (i + 1) true = lst n (i + 1 + 1 + 1) := by
      rw [← hl, Array.setIfInBounds_comm _ _ (show i + 2 ≠ i by omega), Array.setIfInBounds_comm _ _ (show i + 2 ≠ i + 1 by omega)]
    rw [e, Act.put_comm a _ _ hdb, Act.put_comm _ _ _ hdc]
    exact h _ _ _ x2 x.ext.le ((z1.ext y.ext).alloc _) hd3
end
end Go.Proofs.YtmjkfgpkohfmiaaGreat
