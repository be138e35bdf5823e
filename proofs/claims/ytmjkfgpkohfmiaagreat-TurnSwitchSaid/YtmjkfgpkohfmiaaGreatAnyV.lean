/- Regions that draw their order, in which one of the last operations turns what the region itself has made (append onto append), while operations that look at no memory may come up behind it: these (listed in S) are taken first, whatever the world. -/
import Derived.Test.YtmjkfgpkohfmiaaGreatAnyY
namespace Go.Proofs.YtmjkfgpkohfmiaaGreat
set_option linter.unusedVariables false
set_option linter.unusedSimpArgs false
open Go.RowKit

section
variable {P : Program} {ops : Array Oper} {Q : Exit → Act → World → Prop} {md : Region.Mode} {S : List Nat}

/-- operation k waits for each one ahead of it, at last, and is waited for by each one behind it, but those of S -/
def lastS (md : Region.Mode) (ops : Array Oper) (S : List Nat) (k : Nat) : Bool :=
  (List.range ops.size).all fun i => i == k || S.contains i || (decide (i < k) && (List.range' (i + 1) (k - i)).any fun m => waitB md ops m i && (m == k || !S.contains m)) || (decide (k < i) && waitB md ops i k)
theorem lastS_spec {k i : Nat} {listed : Array Bool} (hc : Closed md ops listed) (h : lastS md ops S k = true) (hk : k ∈ Region.ready md ops listed) (hi : i ∈ Region.ready md ops listed) (hS : S.contains i = false) : i = k := by
  obtain ⟨hunk, ok, hok, hall⟩ := mem_ready.1 hk
  obtain ⟨hun, oi, hoi, halli⟩ := mem_ready.1 hi
  have hlt : i < ops.size := (Array.getElem?_eq_some_iff.1 hoi).1
  have hkt : k < ops.size := (Array.getElem?_eq_some_iff.1 hok).1
  have hA := fun j hj => List.all_eq_true.1 h j (List.mem_range.2 hj)
  have down : ∀ d j, j < k → k - j ≤ d → S.contains j = false → listed.getD j false = true := by
    intro d
    induction d with
    | zero => intro j h1 h2; omega
    | succ d ih =>
      intro j h1 h2 hSj
      have h3 := hA j (by omega)
      rw [show (j == k) = false by simp; omega, hSj, decide_eq_true h1, decide_eq_false (show ¬ k < j by omega)] at h3
      simp only [Bool.false_or, Bool.true_and, Bool.false_and, Bool.or_false] at h3
      obtain ⟨m, hm, hw⟩ := List.any_eq_true.1 h3
      rw [List.mem_range'_1] at hm
      obtain ⟨hw, hm2⟩ := Bool.and_eq_true_iff.1 hw
      obtain ⟨o, ho, e, he, hb, rfl⟩ := waitB_spec hw
      by_cases hmk : m = k
      · subst hmk
        rw [hok] at ho
        obtain rfl := Option.some.inj ho
        exact hall e he hb
      · have hSm : S.contains m = false := by
          rw [show (m == k) = false by simp; omega] at hm2
          simpa using hm2
        exact hc m o ho (ih m (by omega) (by omega) hSm) e he hb
  rcases Nat.lt_trichotomy i k with h1 | h1 | h1
  · have := down _ i h1 (Nat.le_refl _) hS
    rw [getD_true hun] at this
    cases this
  · exact h1
  · have h3 := hA i hlt
    rw [show (i == k) = false by simp; omega, hS, decide_eq_true h1, decide_eq_false (show ¬ i < k by omega)] at h3
    simp only [Bool.false_or, Bool.true_and, Bool.false_and, Bool.or_false] at h3
    obtain ⟨o, ho, e, he, hb, rfl⟩ := waitB_spec h3
    rw [hoi] at ho
    obtain rfl := Option.some.inj ho
    have h4 := halli e he hb
    rw [getD_true hunk] at h4
    cases h4

/-- whatever order is picked from here on, in every later world -/
def wpAnyV (P : Program) (md : Region.Mode) (ops : Array Oper) (Q : Exit → Act → World → Prop) (S : List Nat) : Nat → Array Bool → Act → World → Prop
  | 0, listed, a, w => ∀ w1, Ext w w1 → Region.ready md ops listed = [] ∧ Q .normal a w1
  | fuel + 1, listed, a, w => Closed md ops listed → ∀ w1, Ext w w1 →
    (Region.ready md ops listed = [] → Q .normal a w1) ∧
    ∀ i ∈ Region.ready md ops listed, wpOp P ops Q i (fun a' w' => (lastS md ops S i = false → Ext w1 w') ∧ wpAnyV P md ops Q S fuel (listed.setIfInBounds i true) a' w') a w1
theorem wpAnyV_up : ∀ (fuel : Nat) (listed : Array Bool) (a : Act) (w w' : World), Ext w w' → wpAnyV P md ops Q S fuel listed a w → wpAnyV P md ops Q S fuel listed a w'
  | 0, _, _, _, _, hx, h => fun w1 h1 => h w1 (hx.trans h1)
  | _ + 1, _, _, _, _, hx, h => fun hc w1 h1 => h hc w1 (hx.trans h1)
theorem wpAny_of_V : ∀ (fuel : Nat) (listed : Array Bool) (a : Act) (w : World), Closed md ops listed → wpAnyV P md ops Q S fuel listed a w → wpAny P md ops Q fuel listed a w
  | 0, _, _, w, _, h => h w (Ext.refl w)
  | fuel + 1, _, _, w, hc, h => ⟨(h hc w (Ext.refl w)).1, fun i hi => wpOp_mono (fun a' w' h' => wpAny_of_V fuel _ a' w' (hc.step hi) h'.2) ((h hc w (Ext.refl w)).2 i hi)⟩
/-- an operation that yields one value in every later world may be taken first (it is not one of S); one that yields one value in every world, too -/
theorem wpAnyV_first {i : Nat} {oi : Oper} {v : Value} (hi : ops[i]? = some oi) (hsel : ∀ (j : Nat) (o : Oper) cs b, ops[j]? = some o → o.op ≠ .select cs b)
    (hQ : ∀ c a w, Q (.panic c) (a.put oi.dst v) w → Q (.panic c) a w) :
    ∀ (fuel : Nat) (listed : Array Bool) (a : Act) (w : World),
      (∀ j oj, ops[j]? = some oj → j ≠ i → listed.getD j true = false → (∀ e ∈ oj.after, Region.binds md e = true → e.on ≠ i) → oi.apart ops oj = true) →
      i ∈ Region.ready md ops listed → (S.contains i = false ∧ YieldsUp P ops oi v a w ∨ ∀ W, YieldsUp P ops oi v a W) →
      wpAnyV P md ops Q S fuel (listed.setIfInBounds i true) (a.put oi.dst v) w → wpAnyV P md ops Q S (fuel + 1) listed a w := by
  intro fuel
  have atw : ∀ {a : Act} {w : World}, (S.contains i = false ∧ YieldsUp P ops oi v a w ∨ ∀ W, YieldsUp P ops oi v a W) → YieldsUp P ops oi v a w := fun h => h.elim (fun h => h.2) (fun h => h _)
  induction fuel with
  | zero =>
    intro listed a w _ hr hy H hc w1 hx
    refine ⟨fun h => (by rw [h] at hr; cases hr), fun j hj => ?_⟩
    by_cases hji : j = i
    · subst hji; exact (atw hy).wpOp hi hx fun w' hw' => ⟨fun _ => hw', wpAnyV_up _ _ _ _ _ (hx.trans hw') H⟩
    · have := ready_mono hj hji
      rw [(H w (Ext.refl w)).1] at this
      cases this
  | succ fuel ih =>
    intro listed a w hfree hr hy H hc w1 hx
    refine ⟨fun h => (by rw [h] at hr; cases hr), fun j hj => ?_⟩
    by_cases hji : j = i
    · subst hji; exact (atw hy).wpOp hi hx fun w' hw' => ⟨fun _ => hw', wpAnyV_up _ _ _ _ _ (hx.trans hw') H⟩
    · have h1 := (H (hc.step hr) w1 hx).2 j (ready_mono hj hji)
      obtain ⟨hjun, oj, hoj, hall⟩ := mem_ready.1 hj
      have hnot : ∀ e ∈ oj.after, Region.binds md e = true → e.on ≠ i := fun e he hb heq => by
        have h1 := hall e he hb
        have h0 := (mem_ready.1 hr).1
        rw [heq] at h1
        rcases Nat.lt_or_ge i listed.size with h' | h'
        · simp [h'] at h0 h1; rw [h0] at h1; cases h1
        · simp [Array.getElem?_eq_none h'] at h1
      have hfree' : ∀ k ok, ops[k]? = some ok → k ≠ i → (listed.setIfInBounds j true).getD k true = false →
          (∀ e ∈ ok.after, Region.binds md e = true → e.on ≠ i) → oi.apart ops ok = true := fun k ok hk hki hun hno => by
        refine hfree k ok hk hki ?_ hno
        by_cases hjk : j = k
        · subst hjk; exact hjun
        · rw [getD_set_ne true hjk] at hun; exact hun
      rcases hy with ⟨hS, hy⟩ | hy
      · have h2 := wpOp_putX hoj (hfree j oj hoj hji hjun hnot) (fun cs b => hsel i oi cs b hi) (fun cs b => hsel j oj cs b hoj) hQ hy h1
        refine wpOp_mono (fun a' w' h3 => ?_) h2
        obtain ⟨hy', hx0, h4⟩ := h3
        have hx' : Ext w1 w' := hx0 (by
          cases hb : lastS md ops S j with
          | false => rfl
          | true => exact absurd (lastS_spec hc hb hj hr hS).symm hji)
        refine ⟨fun _ => hx', ih (listed.setIfInBounds j true) a' w' hfree' (ready_mono hr (Ne.symm hji)) (.inl ⟨hS, hy'.mono (hx.trans hx')⟩) ?_⟩
        rw [Array.setIfInBounds_comm _ _ hji]
        exact h4
      · obtain ⟨p1, p2, p3⟩ := Oper.apart_spec (hfree j oj hoj hji hjun hnot)
        have keep : ∀ (a : Act) (u : Value), (∀ W, YieldsUp P ops oi v a W) → ∀ W, YieldsUp P ops oi v (a.put oj.dst u) W := fun a u hy W =>
          (hy W).of_same (execOp_put oi (fun cs b => hsel i oi cs b hi) a oj.dst u p3) (wanted_put oi a oj.dst u p3)
        -- what the operation j yields does not hang on the world of the first one's yield
        have h2 : wpOp P ops Q j (fun a' w' => (∀ W, YieldsUp P ops oi v a' W) ∧ (lastS md ops S j = false → Ext w1 w') ∧ wpAnyV P md ops Q S fuel ((listed.setIfInBounds i true).setIfInBounds j true) (a'.put oi.dst v) w') a w1 := by
          have hall : wpOp P ops Q j (fun a' w' => YieldsUp P ops oi v a' w1 ∧ (lastS md ops S j = false → Ext w1 w') ∧ wpAnyV P md ops Q S fuel ((listed.setIfInBounds i true).setIfInBounds j true) (a'.put oi.dst v) w') a w1 :=
            wpOp_putX hoj (hfree j oj hoj hji hjun hnot) (fun cs b => hsel i oi cs b hi) (fun cs b => hsel j oj cs b hoj) hQ (hy w1) h1
          clear h1
          unfold Go.wpOp at hall ⊢
          simp only [hoj] at hall ⊢
          by_cases hw : Region.wanted oj (yielded ops a.tmps) = true
          · rw [if_pos hw] at hall ⊢
            rcases hall with hall | ⟨hasks, hlets⟩
            case inr => exact .inr ⟨hasks, hlets⟩
            refine .inl ?_
            unfold Oper.wp at hall ⊢
            generalize (execOp a.eval oj).run P w1 = r at *
            cases r with
            | ok n w' =>
              cases n <;> simp only [Oper.upon] at hall ⊢
              case value u => exact ⟨keep _ _ hy, hall.2⟩
              case skip => exact ⟨keep _ _ hy, hall.2⟩
              case defer d => exact ⟨fun W => (keep { a with defers := d :: a.defers } undef (fun W => (hy W).of_same rfl rfl)) W, hall.2⟩
              case enter f args =>
                refine Calls.mono hall fun e w'' he => ?_
                cases e with
                | returned u => exact ⟨keep _ _ hy, he.2⟩
                | panicked c => exact he
                | outgrown => exact he
              case row row args => exact Rows.mono hall fun u w'' he => ⟨keep _ _ hy, he.2⟩
            | halt x w' =>
              cases x <;> simp only [Oper.upon] at hall ⊢
              case panic u => exact hall
          · rw [if_neg hw] at hall ⊢
            exact ⟨keep _ _ hy, hall.2⟩
        refine wpOp_mono (fun a' w' h3 => ?_) h2
        obtain ⟨hy', hx0, h4⟩ := h3
        refine ⟨hx0, ih (listed.setIfInBounds j true) a' w' hfree' (ready_mono hr (Ne.symm hji)) (.inr hy') ?_⟩
        rw [Array.setIfInBounds_comm _ _ hji]
        exact h4

/-- the operations from the k-th on, where those that are listed are done -/
def OutV (P : Program) (md : Region.Mode) (ops : Array Oper) (Q : Exit → Act → World → Prop) (S : List Nat) (fuel : Nat) (listed : Array Bool) (k : Nat) (l : List Oper) (a : Act) (w : World) : Prop :=
  ops.toList.drop k = l → wpAnyV P md ops Q S fuel listed a w
/-- the next one is wanted, and yields one value in every later world -/
theorem v_want {listed : Array Bool} {k fuel : Nat} {a : Act} {w : World} {oi : Oper} {rest : List Oper} (hs : Region.noSelect ops = true) (hf : Region.free md ops listed k = true)
    (hr : (Region.ready md ops listed).contains k = true) (hQ : ∀ v, ∀ c a w, Q (.panic c) (a.put oi.dst v) w → Q (.panic c) a w)
    (hw : Region.wanted oi (yielded ops a.tmps) = true) (hS : S.contains k = false)
    (h : ∀ K : Act → Prop, (∀ a', OutV P md ops Q S fuel (listed.setIfInBounds k true) (k + 1) rest a' w → K a') → ∃ v, (∀ x : Up w, upAt P oi a x.val v) ∧ K (a.put oi.dst v)) :
    OutV P md ops Q S (fuel + 1) listed k (oi :: rest) a w := by
  intro hd
  obtain ⟨hi', hd'⟩ := drop_cons hd
  have hi : ops[k]? = some oi := by simpa using hi'
  obtain ⟨v, h1, h2⟩ := h (fun a' => OutV P md ops Q S fuel (listed.setIfInBounds k true) (k + 1) rest a' w) (fun _ h => h)
  exact wpAnyV_first hi (Region.noSelect_spec hs) (hQ v) fuel _ a w (Region.free_spec hi hf) (by simpa using hr) (.inl ⟨hS, .inl ⟨hw, fun w1 hx => h1 ⟨w1, hx⟩⟩⟩) (h2 hd')
/-- the next one is wanted, and yields one value in every world -/
theorem v_pure {listed : Array Bool} {k fuel : Nat} {a : Act} {w : World} {oi : Oper} {rest : List Oper} (hs : Region.noSelect ops = true) (hf : Region.free md ops listed k = true)
    (hr : (Region.ready md ops listed).contains k = true) (hQ : ∀ v, ∀ c a w, Q (.panic c) (a.put oi.dst v) w → Q (.panic c) a w)
    (hw : Region.wanted oi (yielded ops a.tmps) = true)
    (h : ∀ K : Act → Prop, (∀ a', OutV P md ops Q S fuel (listed.setIfInBounds k true) (k + 1) rest a' w → K a') → ∃ v, (∀ w' : World, upAt P oi a w' v) ∧ K (a.put oi.dst v)) :
    OutV P md ops Q S (fuel + 1) listed k (oi :: rest) a w := by
  intro hd
  obtain ⟨hi', hd'⟩ := drop_cons hd
  have hi : ops[k]? = some oi := by simpa using hi'
  obtain ⟨v, h1, h2⟩ := h (fun a' => OutV P md ops Q S fuel (listed.setIfInBounds k true) (k + 1) rest a' w) (fun _ h => h)
  exact wpAnyV_first hi (Region.noSelect_spec hs) (hQ v) fuel _ a w (Region.free_spec hi hf) (by simpa using hr) (.inr fun W => .inl ⟨hw, fun w1 hx => h1 w1⟩) (h2 hd')
/-- the next one is left for later -/
theorem v_late {listed : Array Bool} {k fuel : Nat} {a : Act} {w : World} {oi : Oper} {rest : List Oper} (h : OutV P md ops Q S fuel listed (k + 1) rest a w) :
    OutV P md ops Q S fuel listed k (oi :: rest) a w := fun hd => h (drop_cons hd).2
/-- all that look at no memory are done -/
theorem v_rest {listed : Array Bool} {k fuel : Nat} {a : Act} {w : World} {l : List Oper} (h : wpAnyV P md ops Q S fuel listed a w) : OutV P md ops Q S fuel listed k l a w := fun _ => h
/-- each of those that may come up is carried out -/
theorem v_all {fuel : Nat} {listed : Array Bool} {a : Act} {w : World} (R : List Nat) (hr : Region.ready md ops listed = R) (hne : R ≠ [])
    (h : ∀ i ∈ R, ∀ x : Up w, ∀ K : Act → World → Prop, (∀ a' w', (lastS md ops S i = false → Ext x.val w') → wpAnyV P md ops Q S fuel (listed.setIfInBounds i true) a' w' → K a' w') → wpOp P ops Q i K a x.val) :
    wpAnyV P md ops Q S (fuel + 1) listed a w := by
  intro _ w1 hx
  refine ⟨fun h0 => absurd (hr.symm.trans h0) hne, fun i hik => ?_⟩
  rw [hr] at hik
  exact h i hik ⟨w1, hx⟩ _ (fun _ _ h1 h2 => ⟨h1, h2⟩)
/-- the one that may come up is carried out -/
theorem v_one {fuel : Nat} {listed : Array Bool} {a : Act} {w : World} (i : Nat) {oi : Oper} (hr : Region.ready md ops listed = [i]) (hi : ops[i]? = some oi) (hw : Region.wanted oi (yielded ops a.tmps) = true)
    (h : ∀ x : Up w, ∀ K : Act → World → Prop, (∀ a' w', (lastS md ops S i = false → Ext x.val w') → wpAnyV P md ops Q S fuel (listed.setIfInBounds i true) a' w' → K a' w') → oi.wp P a x.val K Q) :
    wpAnyV P md ops Q S (fuel + 1) listed a w :=
  v_all [i] hr (by simp) fun j hj x K hK => by
    obtain rfl : j = i := by simpa using hj
    exact wpOp_wp hi hw (h x K hK)
theorem v_done {fuel : Nat} {listed : Array Bool} {a : Act} {w : World} (hr : Region.ready md ops listed = []) (h : ∀ x : Up w, Q .normal a x.val) : wpAnyV P md ops Q S fuel listed a w := by
  cases fuel with
  | zero => exact fun w1 hx => ⟨hr, h ⟨w1, hx⟩⟩
  | succ f => exact fun _ w1 hx => ⟨fun _ => h ⟨w1, hx⟩, by rw [hr]; simp⟩
theorem wp_region_v {id : Nat} {l : List Oper} {a : Act} {w : World} (S : List Nat) (n : Nat) (hn : l.length = n) (hm : P.follows .mixedOrders = true)
    (h : OutV P .any l.toArray Q S n (lst n 0) 0 l a w.drew) : (Code.region id l.toArray true).wp P Q a w := by
  subst hn
  exact wp_region_any hm (wpAny_of_V (S := S) _ _ _ _ (Closed.none _) (by simpa [lst, List.toArray_replicate] using h rfl))

/-- two lists of one element each, one written out, one made by a call of builtin append: the effects of 'append(append(append(T{}, s...), x), u...)', in whatever order -/
theorem v_app3 {fuel : Nat} {L : Array Bool} {a : Act} {w : World} {iA iB iC iD iE : Nat} {oA oB oC oD oE : Oper} {m : Nat} {te : TypeId} {csA csC : Array Value} (R1 R2 R3 : Value → World → Prop)
    (hA : ops[iA]? = some oA) (hB : ops[iB]? = some oB) (hC : ops[iC]? = some oC) (hD : ops[iD]? = some oD) (hE : ops[iE]? = some oE)
    (gA : oA.guard = none) (gB : oB.guard = none) (gC : oC.guard = none) (gD : oD.guard = none) (gE : oE.guard = none)
    (dAC : ∀ d, oA.dst = some d → oC.dst ≠ some d) (dBC : ∀ d, oB.dst = some d → oC.dst ≠ some d)
    (r0 : Region.ready md ops L = [iA, iC]) (rA : Region.ready md ops (L.setIfInBounds iA true) = [iB, iC]) (rAB : Region.ready md ops ((L.setIfInBounds iA true).setIfInBounds iB true) = [iC])
    (rAC : Region.ready md ops ((L.setIfInBounds iA true).setIfInBounds iC true) = [iB]) (rC : Region.ready md ops (L.setIfInBounds iC true) = [iA])
    (rABC : Region.ready md ops (((L.setIfInBounds iA true).setIfInBounds iB true).setIfInBounds iC true) = [iD]) (rD : Region.ready md ops ((((L.setIfInBounds iA true).setIfInBounds iB true).setIfInBounds iC true).setIfInBounds iD true) = [iE])
    (lD : lastS md ops S iD = true) (lE : lastS md ops S iE = true) (nAC : iA ≠ iC) (nBC : iB ≠ iC)
    (up1 : ∀ v w w', R1 v w → Ext w w' → R1 v w')
    (eA : ∀ u, BsAt P oA a 0 te csA ∧ BsAt P oA (a.put oC.dst u) 0 te csA)
    (eB : ∀ (gA : Nat) (u : Value) (a' : Act), (a' = a.put oA.dst (.slice (some ⟨gA, 0, none⟩) 0 0) ∨ a' = (a.put oA.dst (.slice (some ⟨gA, 0, none⟩) 0 0)).put oC.dst u) → ∀ w', Ext w w' → w.heap.size ≤ gA → Blk w' gA te csA →
      ∃ v w'', (execOp a'.eval oB).run P w' = .ok (.value v) w'' ∧ Ext w' w'' ∧ R1 v w'')
    (eC : ∀ (gA : Nat) (v : Value) (a' : Act), (a' = a ∨ a' = a.put oA.dst (.slice (some ⟨gA, 0, none⟩) 0 0) ∨ a' = (a.put oA.dst (.slice (some ⟨gA, 0, none⟩) 0 0)).put oB.dst v) → BsAt P oC a' m te csC)
    (eD : ∀ (gA gC : Nat) (v : Value) (w' : World), Ext w w' → R1 v w' → Blk w' gC te csC →
      ∃ v' w'', (execOp (((a.put oA.dst (.slice (some ⟨gA, 0, none⟩) 0 0)).put oB.dst v).put oC.dst (.slice (some ⟨gC, 0, none⟩) m m)).eval oD).run P w' = .ok (.value v') w'' ∧ Ext w w'' ∧ R2 v' w'')
    (eE : ∀ (gA gC : Nat) (v1 v2 : Value) (w' : World), Ext w w' → R2 v2 w' →
      ∃ v' w'', (execOp ((((a.put oA.dst (.slice (some ⟨gA, 0, none⟩) 0 0)).put oB.dst v1).put oC.dst (.slice (some ⟨gC, 0, none⟩) m m)).put oD.dst v2).eval oE).run P w' = .ok (.value v') w'' ∧ Ext w w'' ∧ R3 v' w'')
    (up2 : ∀ v w w', R2 v w → Ext w w' → R2 v w')
    (h : ∀ (gA gC : Nat) (v1 v2 v3 : Value) (w' : World), Ext w w' → R3 v3 w' →
      wpAnyV P md ops Q S fuel (((((L.setIfInBounds iA true).setIfInBounds iB true).setIfInBounds iC true).setIfInBounds iD true).setIfInBounds iE true)
        (((((a.put oA.dst (.slice (some ⟨gA, 0, none⟩) 0 0)).put oB.dst v1).put oC.dst (.slice (some ⟨gC, 0, none⟩) m m)).put oD.dst v2).put oE.dst v3) w') :
    wpAnyV P md ops Q S (fuel + 5) L a w := by
  have wt : ∀ {o : Oper} (f), o.guard = none → Region.wanted o f = true := fun {o} f hg => by unfold Region.wanted; rw [hg]
  -- D and E, behind A, B, C
  have fin : ∀ (gA gC : Nat) (v : Value) (w' : World), Ext w w' → R1 v w' → Blk w' gC te csC →
      wpAnyV P md ops Q S (fuel + 2) (((L.setIfInBounds iA true).setIfInBounds iB true).setIfInBounds iC true) (((a.put oA.dst (.slice (some ⟨gA, 0, none⟩) 0 0)).put oB.dst v).put oC.dst (.slice (some ⟨gC, 0, none⟩) m m)) w' := by
    intro gA gC v w' hx h1 hb
    refine v_one iD rABC hD (wt _ gD) fun x K hK => ?_
    obtain ⟨v2, w2, e2, x2, h2⟩ := eD gA gC v x.val (hx.trans x.ext) (up1 _ _ _ h1 x.ext) (hb.ext x.ext)
    unfold Oper.wp
    rw [e2]
    refine hK _ _ (fun h0 => by rw [lD] at h0; cases h0) ?_
    refine v_one iE rD hE (wt _ gE) fun y K' hK' => ?_
    obtain ⟨v3, w3, e3, x3, h3⟩ := eE gA gC v v2 y.val (x2.trans y.ext) (up2 _ _ _ h2 y.ext)
    unfold Oper.wp
    rw [e3]
    exact hK' _ _ (fun h0 => by rw [lE] at h0; cases h0) (h gA gC v v2 v3 _ x3 h3)
  refine v_all [iA, iC] r0 (by simp) (fun j hj x K hK => ?_)
  have hj : j = iA ∨ j = iC := by simpa using hj
  rcases hj with rfl | rfl
  · refine wpOp_wp hA (wt _ gA) (((eA undef).1).wp (hK _ _ (fun _ => (Ext.refl _).alloc _) ?_))
    have b1 := Blk.new x.val te csA
    have x1 : Ext w (x.val.alloc (.cells csA te)) := x.ext.alloc _
    refine v_all [iB, iC] rA (by simp) (fun i hi y K2 hK2 => ?_)
    have hi : i = iB ∨ i = iC := by simpa using hi
    rcases hi with rfl | rfl
    · obtain ⟨v1, w1, e1, y1, h1⟩ := eB _ undef _ (.inl rfl) y.val (x1.trans y.ext) x.ext.le (b1.ext y.ext)
      refine wpOp_wp hB (wt _ gB) ?_
      unfold Oper.wp
      rw [e1]
      refine hK2 _ _ (fun _ => y1) ?_
      refine v_one iC rAB hC (wt _ gC) fun z K3 hK3 => ?_
      exact (eC x.val.heap.size v1 _ (.inr (.inr rfl))).wp (hK3 _ _ (fun _ => (Ext.refl _).alloc _) (fin _ _ _ _ ((((x1.trans y.ext).trans y1).trans z.ext).alloc _) (up1 _ _ _ h1 (z.ext.alloc _)) (Blk.new _ _ _)))
    · refine wpOp_wp hC (wt _ gC) ((eC x.val.heap.size undef _ (.inr (.inl rfl))).wp (hK2 _ _ (fun _ => (Ext.refl _).alloc _) ?_))
      refine v_one iB rAC hB (wt _ gB) fun z K3 hK3 => ?_
      have b2 := (Blk.new y.val te csC).ext z.ext
      obtain ⟨v1, w1, e1, y1, h1⟩ := eB _ _ _ (.inr rfl) z.val (((x1.trans y.ext).alloc _).trans z.ext) x.ext.le (((b1.ext y.ext).alloc _).ext z.ext)
      unfold Oper.wp
      rw [e1]
      refine hK3 _ _ (fun _ => y1) ?_
      have := fin x.val.heap.size y.val.heap.size _ _ ((((x1.trans y.ext).alloc (.cells csC te)).trans z.ext).trans y1) h1 (b2.ext y1)
      rw [Array.setIfInBounds_comm _ _ (Ne.symm nBC), ← Act.put_comm _ _ _ dBC]
      exact this
  · refine wpOp_wp hC (wt _ gC) ((eC 0 undef _ (.inl rfl)).wp (hK _ _ (fun _ => (Ext.refl _).alloc _) ?_))
    have b2 := Blk.new x.val te csC
    have x1 : Ext w (x.val.alloc (.cells csC te)) := x.ext.alloc _
    refine v_one iA rC hA (wt _ gA) fun y K2 hK2 => ?_
    refine ((eA _).2).wp (hK2 _ _ (fun _ => (Ext.refl _).alloc _) ?_)
    have b1 := Blk.new y.val te csA
    have hle : w.heap.size ≤ y.val.heap.size := (x1.trans y.ext).le
    rw [← Array.setIfInBounds_comm _ _ nAC, ← Act.put_comm _ _ _ dAC]
    refine v_one iB rAC hB (wt _ gB) fun z K3 hK3 => ?_
    obtain ⟨v1, w1, e1, y1, h1⟩ := eB _ _ _ (.inr rfl) z.val (((x1.trans y.ext).alloc _).trans z.ext) hle (b1.ext z.ext)
    unfold Oper.wp
    rw [e1]
    refine hK3 _ _ (fun _ => y1) ?_
    have := fin y.val.heap.size x.val.heap.size _ _ ((((x1.trans y.ext).alloc (.cells csA te)).trans z.ext).trans y1) h1 ((((b2.ext y.ext).alloc _).ext z.ext).ext y1)
    rw [Array.setIfInBounds_comm _ _ (Ne.symm nBC), ← Act.put_comm _ _ _ dBC]
    exact this
end
end Go.Proofs.YtmjkfgpkohfmiaaGreat
