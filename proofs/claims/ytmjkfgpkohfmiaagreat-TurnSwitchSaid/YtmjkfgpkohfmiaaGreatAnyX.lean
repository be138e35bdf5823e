/- Regions that draw their order, whose operations and callees leave all that was there as it was: an operation that yields one value in every later world may be taken first; where just one operation may come up, it is carried out. (The make is that of the kit's OrdersHeld, with 'every later world' in the place of 'every world that meets S'.) -/
import Derived.Test.YtmjkfgpkohfmiaaGreatQuiet
import Derived.Orders
namespace Go.Proofs.YtmjkfgpkohfmiaaGreat
set_option linter.unusedVariables false
set_option linter.unusedSimpArgs false
open Go.RowKit

section
variable {P : Program} {ops : Array Oper} {Q : Exit → Act → World → Prop} {md : Region.Mode}

/-- what is asked of an operation, carried out in the world w, that is to yield v -/
def upUpon (P : Program) (w : World) (v : Value) : Result Next → Prop
  | .ok (.value u) w' => w' = w ∧ u = v
  | .ok .skip w' => w' = w ∧ v = undef
  | .ok (.enter f args) w' => w' = w ∧ Calls P f args w (fun e w'' => e = .returned v ∧ Ext w w'')
  | _ => False
def upAt (P : Program) (o : Oper) (a : Act) (w : World) (v : Value) : Prop := upUpon P w v ((execOp a.eval o).run P w)
def YieldsUp (P : Program) (ops : Array Oper) (o : Oper) (v : Value) (a : Act) (W : World) : Prop :=
  (Region.wanted o (yielded ops a.tmps) = true ∧ ∀ w, Ext W w → upAt P o a w v) ∨ (Region.wanted o (yielded ops a.tmps) = false ∧ v = undef)
theorem YieldsUp.mono {o : Oper} {v : Value} {a : Act} {W W' : World} (h : YieldsUp P ops o v a W) (hx : Ext W W') : YieldsUp P ops o v a W' :=
  h.imp (fun ⟨h1, h2⟩ => ⟨h1, fun w hw => h2 w (hx.trans hw)⟩) id
theorem YieldsUp.of_same {o : Oper} {v : Value} {a a' : Act} {W : World} (hy : YieldsUp P ops o v a W) (he : execOp a'.eval o = execOp a.eval o)
    (hw : Region.wanted o (yielded ops a'.tmps) = Region.wanted o (yielded ops a.tmps)) : YieldsUp P ops o v a' W := by
  unfold YieldsUp upAt at *
  rw [he, hw]
  exact hy
theorem YieldsUp.wpOp {i : Nat} {o : Oper} {v : Value} {a : Act} {W w : World} (hi : ops[i]? = some o) (hy : YieldsUp P ops o v a W) (hw : Ext W w)
    {K : Act → World → Prop} (h : ∀ w', Ext w w' → K (a.put o.dst v) w') : wpOp P ops Q i K a w := by
  unfold Go.wpOp
  simp only [hi]
  rcases hy with ⟨hwn, hv⟩ | ⟨hwn, rfl⟩
  · simp only [hwn, if_true]
    refine .inl ?_
    have h3 := hv w hw
    unfold upAt at h3
    unfold Oper.wp
    generalize (execOp a.eval o).run P w = r at *
    cases r with
    | ok n w' =>
      cases n <;> simp only [upUpon] at h3 <;> simp only [Oper.upon]
      case value u => obtain ⟨e1, e2⟩ := h3; rw [e1, e2]; exact h _ (Ext.refl _)
      case skip => obtain ⟨e1, e2⟩ := h3; rw [e1, ← e2]; exact h _ (Ext.refl _)
      case enter f args =>
        obtain ⟨e1, hc⟩ := h3
        rw [e1]
        exact hc.mono fun e w'' ⟨he, hx⟩ => by subst he; exact h _ hx
    | halt x w' => simp only [upUpon] at h3
  · simp only [hwn, Bool.false_eq_true, if_false]; exact h _ (Ext.refl _)

/-- who is listed, for him all are listed that he waits for -/
def Closed (md : Region.Mode) (ops : Array Oper) (listed : Array Bool) : Prop :=
  ∀ j o, ops[j]? = some o → listed.getD j false = true → ∀ e ∈ o.after, Region.binds md e = true → listed.getD e.on false = true
theorem getD_true {l : Array Bool} {m : Nat} (h : l.getD m true = false) : l.getD m false = false := by
  rcases Nat.lt_or_ge m l.size with h' | h'
  · simp [h'] at h ⊢; exact h
  · simp [Array.getElem?_eq_none h']
theorem getD_set_keep {l : Array Bool} {m j : Nat} (h : l.getD m false = true) : (l.setIfInBounds j true).getD m false = true := by
  have hm : m < l.size := by
    rcases Nat.lt_or_ge m l.size with h' | h'
    · exact h'
    · simp [Array.getElem?_eq_none h'] at h
  simp [hm] at h
  simp [hm, Array.getElem_setIfInBounds, h]
theorem Closed.step {listed : Array Bool} {j : Nat} (h : Closed md ops listed) (hj : j ∈ Region.ready md ops listed) : Closed md ops (listed.setIfInBounds j true) := by
  obtain ⟨hun, oj, hoj, hall⟩ := mem_ready.1 hj
  intro m o ho hm e he hb
  by_cases hmj : m = j
  · subst hmj
    rw [hoj] at ho
    obtain rfl := Option.some.inj ho
    exact getD_set_keep (hall e he hb)
  · have hm' : listed.getD m false = true := by
      simp [Array.getElem?_setIfInBounds, Ne.symm hmj] at hm ⊢
      exact hm
    exact getD_set_keep (h m o ho hm' e he hb)
theorem Closed.none (n : Nat) : Closed md ops (Array.replicate n false) := by
  intro j o ho hj
  rcases Nat.lt_or_ge j n with h' | h'
  · simp [h'] at hj
  · simp [Array.getElem?_eq_none (show (Array.replicate n false).size ≤ j by simpa using h')] at hj

theorem after_any {o : Oper} {i : Nat} (h : (o.after.any fun e => Region.binds md e && e.on == i) = true) : ∃ e ∈ o.after, Region.binds md e = true ∧ e.on = i := by
  simp only [Array.any_eq_true] at h
  obtain ⟨j, hj, h3⟩ := h
  have h4 := Bool.and_eq_true _ _ ▸ h3
  exact ⟨o.after[j], Array.getElem_mem hj, h4.1, by simpa using h4.2⟩
/-- does operation m wait for i? -/
def waitB (md : Region.Mode) (ops : Array Oper) (m i : Nat) : Bool :=
  match ops[m]? with | none => false | some o => o.after.any fun e => Region.binds md e && e.on == i
/-- operation k waits for each one ahead of it, at last, and is waited for by each one behind it -/
def lastB (md : Region.Mode) (ops : Array Oper) (k : Nat) : Bool :=
  (List.range ops.size).all fun i => i == k || (decide (i < k) && (List.range' (i + 1) (k - i)).any fun m => waitB md ops m i) || (decide (k < i) && waitB md ops i k)
theorem waitB_spec {m i : Nat} (h : waitB md ops m i = true) : ∃ o, ops[m]? = some o ∧ ∃ e ∈ o.after, Region.binds md e = true ∧ e.on = i := by
  unfold waitB at h
  cases ho : ops[m]? with
  | none => rw [ho] at h; cases h
  | some o => rw [ho] at h; exact ⟨o, rfl, after_any h⟩
theorem lastB_spec {k i : Nat} {listed : Array Bool} (hc : Closed md ops listed) (h : lastB md ops k = true) (hk : k ∈ Region.ready md ops listed) (hi : i ∈ Region.ready md ops listed) : i = k := by
  obtain ⟨hunk, ok, hok, hall⟩ := mem_ready.1 hk
  obtain ⟨hun, oi, hoi, halli⟩ := mem_ready.1 hi
  have hlt : i < ops.size := (Array.getElem?_eq_some_iff.1 hoi).1
  have hkt : k < ops.size := (Array.getElem?_eq_some_iff.1 hok).1
  have hA := fun j hj => List.all_eq_true.1 h j (List.mem_range.2 hj)
  have down : ∀ d j, j < k → k - j ≤ d → listed.getD j false = true := by
    intro d
    induction d with
    | zero => intro j h1 h2; omega
    | succ d ih =>
      intro j h1 h2
      have h3 := hA j (by omega)
      rw [show (j == k) = false by simp; omega, decide_eq_true h1, decide_eq_false (show ¬ k < j by omega)] at h3
      simp only [Bool.false_or, Bool.true_and, Bool.false_and, Bool.or_false] at h3
      obtain ⟨m, hm, hw⟩ := List.any_eq_true.1 h3
      rw [List.mem_range'_1] at hm
      obtain ⟨o, ho, e, he, hb, rfl⟩ := waitB_spec hw
      by_cases hmk : m = k
      · subst hmk
        rw [hok] at ho
        obtain rfl := Option.some.inj ho
        exact hall e he hb
      · exact hc m o ho (ih m (by omega) (by omega)) e he hb
  rcases Nat.lt_trichotomy i k with h1 | h1 | h1
  · have := down _ i h1 (Nat.le_refl _)
    rw [getD_true hun] at this
    cases this
  · exact h1
  · have h3 := hA i hlt
    rw [show (i == k) = false by simp; omega, decide_eq_true h1, decide_eq_false (show ¬ i < k by omega)] at h3
    simp only [Bool.false_or, Bool.true_and, Bool.false_and] at h3
    obtain ⟨o, ho, e, he, hb, rfl⟩ := waitB_spec h3
    rw [hoi] at ho
    obtain rfl := Option.some.inj ho
    have h4 := halli e he hb
    rw [getD_true hunk] at h4
    cases h4

/-- whatever order is picked from here on, in every later world -/
def wpAnyX (P : Program) (md : Region.Mode) (ops : Array Oper) (Q : Exit → Act → World → Prop) : Nat → Array Bool → Act → World → Prop
  | 0, listed, a, w => ∀ w1, Ext w w1 → Region.ready md ops listed = [] ∧ Q .normal a w1
  | fuel + 1, listed, a, w => Closed md ops listed → ∀ w1, Ext w w1 →
    (Region.ready md ops listed = [] → Q .normal a w1) ∧
    ∀ i ∈ Region.ready md ops listed, wpOp P ops Q i (fun a' w' => (lastB md ops i = false → Ext w1 w') ∧ wpAnyX P md ops Q fuel (listed.setIfInBounds i true) a' w') a w1
theorem wpAnyX_up : ∀ (fuel : Nat) (listed : Array Bool) (a : Act) (w w' : World), Ext w w' → wpAnyX P md ops Q fuel listed a w → wpAnyX P md ops Q fuel listed a w'
  | 0, _, _, _, _, hx, h => fun w1 h1 => h w1 (hx.trans h1)
  | _ + 1, _, _, _, _, hx, h => fun hc w1 h1 => h hc w1 (hx.trans h1)
theorem wpAny_of_X : ∀ (fuel : Nat) (listed : Array Bool) (a : Act) (w : World), Closed md ops listed → wpAnyX P md ops Q fuel listed a w → wpAny P md ops Q fuel listed a w
  | 0, _, _, w, _, h => h w (Ext.refl w)
  | fuel + 1, _, _, w, hc, h => ⟨(h hc w (Ext.refl w)).1, fun i hi => wpOp_mono (fun a' w' h' => wpAny_of_X fuel _ a' w' (hc.step hi) h'.2) ((h hc w (Ext.refl w)).2 i hi)⟩
theorem wpOp_putX {j : Nat} {oi oj : Oper} {v : Value} (hj : ops[j]? = some oj) (hap : oi.apart ops oj = true)
    (hsi : ∀ cs b, oi.op ≠ .select cs b) (hsj : ∀ cs b, oj.op ≠ .select cs b)
    (hQ : ∀ c a w, Q (.panic c) (a.put oi.dst v) w → Q (.panic c) a w) {K : Act → World → Prop} {a : Act} {w W : World}
    (hy : YieldsUp P ops oi v a W) (h : wpOp P ops Q j K (a.put oi.dst v) w) :
    wpOp P ops Q j (fun a' w' => YieldsUp P ops oi v a' W ∧ K (a'.put oi.dst v) w') a w := by
  obtain ⟨h1, h2, h3⟩ := Oper.apart_spec hap
  have keep : ∀ (a : Act), YieldsUp P ops oi v a W → ∀ u, YieldsUp P ops oi v (a.put oj.dst u) W := fun a hy u =>
    hy.of_same (execOp_put oi hsi a oj.dst u h3) (wanted_put oi a oj.dst u h3)
  have keepD : ∀ d, YieldsUp P ops oi v { a with defers := d :: a.defers } W := fun d => hy.of_same rfl rfl
  unfold wpOp at *
  simp only [hj] at *
  rw [wanted_put oj a oi.dst v h1] at h
  split
  · rename_i hw
    simp only [hw, if_true] at h
    rcases h with h | ⟨hasks, hlets⟩
    case inr => exact .inr ⟨by unfold Oper.asks at *; rw [execOp_put oj hsj a oi.dst v h1] at hasks; exact hasks, hlets⟩
    refine .inl ?_
    unfold Oper.wp at *
    rw [execOp_put oj hsj a oi.dst v h1] at h
    generalize (execOp a.eval oj).run P w = r at *
    cases r with
    | ok n w' =>
      cases n <;> simp only [Oper.upon] at h ⊢
      case value u => exact ⟨keep a hy u, by rw [← Act.put_comm a v u h2]; exact h⟩
      case skip => exact ⟨keep a hy _, by rw [← Act.put_comm a v undef h2]; exact h⟩
      case defer d =>
        refine ⟨keep _ (keepD d) _, ?_⟩
        rw [← Act.put_comm _ v undef h2, ← Act.put_defers]
        exact h
      case enter f args =>
        refine Calls.mono h fun e w'' he => ?_
        cases e with
        | returned u => exact ⟨keep a hy u, by rw [← Act.put_comm a v u h2]; exact he⟩
        | panicked c => exact hQ _ _ _ he
        | outgrown => exact he
      case row row args => exact Rows.mono h fun u w'' he => ⟨keep a hy u, by rw [← Act.put_comm a v u h2]; exact he⟩
    | halt x w' =>
      cases x <;> simp only [Oper.upon] at h ⊢
      case panic u => exact hQ _ _ _ h
  · rename_i hw
    simp only [hw] at h
    exact ⟨keep a hy _, by rw [← Act.put_comm a v undef h2]; exact h⟩
/-- **an operation that yields one value in every later world may be taken first** -/
theorem wpAnyX_first {i : Nat} {oi : Oper} {v : Value} (hi : ops[i]? = some oi) (hsel : ∀ (j : Nat) (o : Oper) cs b, ops[j]? = some o → o.op ≠ .select cs b)
    (hQ : ∀ c a w, Q (.panic c) (a.put oi.dst v) w → Q (.panic c) a w) :
    ∀ (fuel : Nat) (listed : Array Bool) (a : Act) (w : World),
      (∀ j oj, ops[j]? = some oj → j ≠ i → listed.getD j true = false → (∀ e ∈ oj.after, Region.binds md e = true → e.on ≠ i) → oi.apart ops oj = true) →
      i ∈ Region.ready md ops listed → YieldsUp P ops oi v a w →
      wpAnyX P md ops Q fuel (listed.setIfInBounds i true) (a.put oi.dst v) w → wpAnyX P md ops Q (fuel + 1) listed a w := by
  intro fuel
  induction fuel with
  | zero =>
    intro listed a w _ hr hy H hc w1 hx
    refine ⟨fun h => (by rw [h] at hr; cases hr), fun j hj => ?_⟩
    by_cases hji : j = i
    · subst hji; exact hy.wpOp hi hx fun w' hw' => ⟨fun _ => hw', wpAnyX_up _ _ _ _ _ (hx.trans hw') H⟩
    · have := ready_mono hj hji
      rw [(H w (Ext.refl w)).1] at this
      cases this
  | succ fuel ih =>
    intro listed a w hfree hr hy H hc w1 hx
    refine ⟨fun h => (by rw [h] at hr; cases hr), fun j hj => ?_⟩
    by_cases hji : j = i
    · subst hji; exact hy.wpOp hi hx fun w' hw' => ⟨fun _ => hw', wpAnyX_up _ _ _ _ _ (hx.trans hw') H⟩
    · have h1 := (H (hc.step hr) w1 hx).2 j (ready_mono hj hji)
      obtain ⟨hjun, oj, hoj, hall⟩ := mem_ready.1 hj
      have hnot : ∀ e ∈ oj.after, Region.binds md e = true → e.on ≠ i := fun e he hb heq => by
        have h1 := hall e he hb
        have h0 := (mem_ready.1 hr).1
        rw [heq] at h1
        rcases Nat.lt_or_ge i listed.size with h' | h'
        · simp [h'] at h0 h1; rw [h0] at h1; cases h1
        · simp [Array.getElem?_eq_none h'] at h1
      have h2 := wpOp_putX hoj (hfree j oj hoj hji hjun hnot) (fun cs b => hsel i oi cs b hi) (fun cs b => hsel j oj cs b hoj) hQ hy h1
      have hfree' : ∀ k ok, ops[k]? = some ok → k ≠ i → (listed.setIfInBounds j true).getD k true = false →
          (∀ e ∈ ok.after, Region.binds md e = true → e.on ≠ i) → oi.apart ops ok = true := fun k ok hk hki hun hno => by
        refine hfree k ok hk hki ?_ hno
        by_cases hjk : j = k
        · subst hjk; exact hjun
        · rw [getD_set_ne true hjk] at hun; exact hun
      refine wpOp_mono (fun a' w' h3 => ?_) h2
      obtain ⟨hy', hx0, h4⟩ := h3
      have hx' : Ext w1 w' := hx0 (by
        cases hb : lastB md ops j with
        | false => rfl
        | true => exact absurd (lastB_spec hc hb hj hr).symm hji)
      refine ⟨fun _ => hx', ih (listed.setIfInBounds j true) a' w' hfree' (ready_mono hr (Ne.symm hji)) (hy'.mono (hx.trans hx')) ?_⟩
      rw [Array.setIfInBounds_comm _ _ hji]
      exact h4

/-- the first k are listed -/
def lst (n k : Nat) : Array Bool := (List.replicate k true ++ List.replicate (n - k) false).toArray

/-- the operations that are left, as they stand in the text -/
def LexAt (P : Program) (md : Region.Mode) (ops : Array Oper) (Q : Exit → Act → World → Prop) (fuel n k : Nat) (l : List Oper) (a : Act) (w : World) : Prop :=
  ops.toList.drop k = l → wpAnyX P md ops Q fuel (lst n k) a w
theorem drop_cons {l r : List Oper} {o : Oper} {k : Nat} (h : l.drop k = o :: r) : l[k]? = some o ∧ l.drop (k + 1) = r := by
  have hk : k < l.length := by
    rcases Nat.lt_or_ge k l.length with h' | h'
    · exact h'
    · rw [List.drop_eq_nil_of_le h'] at h; cases h
  rw [List.drop_eq_getElem_cons hk] at h
  injection h with h1 h2
  exact ⟨by rw [List.getElem?_eq_getElem hk, h1], h2⟩

/-- the next one in the text's order is taken -/
theorem lex_take {n k fuel : Nat} {a : Act} {w : World} {oi : Oper} {rest : List Oper} (hs : Region.noSelect ops = true) (hf : Region.free md ops (lst n k) k = true)
    (hr : (Region.ready md ops (lst n k)).contains k = true) (hl : (lst n k).setIfInBounds k true = lst n (k + 1)) (hQ : ∀ v, ∀ c a w, Q (.panic c) (a.put oi.dst v) w → Q (.panic c) a w)
    (h : ∀ K : Act → Prop, (∀ a', LexAt P md ops Q fuel n (k + 1) rest a' w → K a') →
      if Region.wanted oi (yielded ops a.tmps) = true then ∃ v, (∀ x : Up w, upAt P oi a x.val v) ∧ K (a.put oi.dst v) else K (a.put oi.dst undef)) :
    LexAt P md ops Q (fuel + 1) n k (oi :: rest) a w := by
  intro hd
  obtain ⟨hi', hd'⟩ := drop_cons hd
  have hi : ops[k]? = some oi := by simpa using hi'
  have h0 := h _ (fun _ h => h)
  have go : ∀ v, YieldsUp P ops oi v a w → LexAt P md ops Q fuel n (k + 1) rest (a.put oi.dst v) w → wpAnyX P md ops Q (fuel + 1) (lst n k) a w := fun v hy hn =>
    wpAnyX_first hi (Region.noSelect_spec hs) (hQ v) fuel _ a w (Region.free_spec hi hf) (by simpa using hr) hy (by rw [hl]; exact hn hd')
  by_cases hw : Region.wanted oi (yielded ops a.tmps) = true
  · rw [if_pos hw] at h0
    obtain ⟨v, h1, h2⟩ := h0
    exact go v (.inl ⟨hw, fun w1 hx => h1 ⟨w1, hx⟩⟩) h2
  · rw [if_neg hw] at h0
    exact go undef (.inr ⟨by simpa using hw, rfl⟩) h0
/-- none but the next one may come up: it is carried out -/
theorem lex_only {n k fuel : Nat} {a : Act} {w : World} {oi : Oper} {rest : List Oper} (hr : Region.ready md ops (lst n k) = [k]) (hl : (lst n k).setIfInBounds k true = lst n (k + 1))
    (h : ∀ x : Up w, ∀ K : Act → World → Prop, Hid (∀ a' w', Ext x.val w' → LexAt P md ops Q fuel n (k + 1) rest a' w' → K a' w') →
      if Region.wanted oi (yielded ops a.tmps) = true then oi.wp P a x.val K Q else K (a.put oi.dst undef) x.val) :
    LexAt P md ops Q (fuel + 1) n k (oi :: rest) a w := by
  intro hd
  obtain ⟨hi', hd'⟩ := drop_cons hd
  have hi : ops[k]? = some oi := by simpa using hi'
  intro _ w1 hx
  refine ⟨fun h0 => (by rw [hr] at h0; cases h0), fun i hik => ?_⟩
  rw [hr, List.mem_singleton] at hik
  subst hik
  have h0 := h ⟨w1, hx⟩ (fun a' w' => (lastB md ops i = false → Ext w1 w') ∧ wpAnyX P md ops Q fuel (lst n (i + 1)) a' w') (fun _ _ h1 h2 => ⟨fun _ => h1, h2 hd'⟩)
  unfold Go.wpOp
  simp only [hi]
  rw [hl]
  by_cases hw : Region.wanted oi (yielded ops a.tmps) = true
  · rw [if_pos hw] at h0 ⊢; exact .inl h0
  · rw [if_neg hw] at h0 ⊢; exact h0
/-- the last one: it may do what it likes -/
theorem lex_last {n k fuel : Nat} {a : Act} {w : World} {oi : Oper} (hr : Region.ready md ops (lst n k) = [k]) (hl : (lst n k).setIfInBounds k true = lst n (k + 1)) (hr2 : Region.ready md ops (lst n (k + 1)) = []) (hlast : lastB md ops k = true)
    (hw : Region.wanted oi (yielded ops a.tmps) = true) (h : ∀ x : Up w, ∀ K : Act → World → Prop, (∀ a' w', (∀ y : Up w', Q .normal a' y.val) → K a' w') → oi.wp P a x.val K Q) :
    LexAt P md ops Q (fuel + 1) n k [oi] a w := by
  intro hd
  obtain ⟨hi', hd'⟩ := drop_cons hd
  have hi : ops[k]? = some oi := by simpa using hi'
  intro _ w1 hx
  refine ⟨fun h0 => (by rw [hr] at h0; cases h0), fun i hik => ?_⟩
  rw [hr, List.mem_singleton] at hik
  subst hik
  have h0 := h ⟨w1, hx⟩ (fun a' w' => (lastB md ops i = false → Ext w1 w') ∧ wpAnyX P md ops Q fuel (lst n (i + 1)) a' w') (fun a' w' h1 => ⟨fun h2 => by (rw [hlast] at h2; cases h2), by
    cases fuel with
    | zero => exact fun w2 hx2 => ⟨hr2, h1 ⟨w2, hx2⟩⟩
    | succ f => exact fun _ w2 hx2 => ⟨fun _ => h1 ⟨w2, hx2⟩, by rw [hr2]; simp⟩⟩)
  unfold Go.wpOp
  simp only [hi]
  rw [hl, if_pos hw]
  exact .inl h0
/-- one of the last ones, each of which comes behind the one ahead: it may do what it likes -/
theorem lex_tail {n k fuel : Nat} {a : Act} {w : World} {oi : Oper} {rest : List Oper} (hr : Region.ready md ops (lst n k) = [k]) (hl : (lst n k).setIfInBounds k true = lst n (k + 1)) (hlast : lastB md ops k = true)
    (hw : Region.wanted oi (yielded ops a.tmps) = true) (h : ∀ x : Up w, ∀ K : Act → World → Prop, (∀ a' w', LexAt P md ops Q fuel n (k + 1) rest a' w' → K a' w') → oi.wp P a x.val K Q) :
    LexAt P md ops Q (fuel + 1) n k (oi :: rest) a w := by
  intro hd
  obtain ⟨hi', hd'⟩ := drop_cons hd
  have hi : ops[k]? = some oi := by simpa using hi'
  intro _ w1 hx
  refine ⟨fun h0 => (by rw [hr] at h0; cases h0), fun i hik => ?_⟩
  rw [hr, List.mem_singleton] at hik
  subst hik
  have h0 := h ⟨w1, hx⟩ (fun a' w' => (lastB md ops i = false → Ext w1 w') ∧ wpAnyX P md ops Q fuel (lst n (i + 1)) a' w') (fun a' w' h1 => ⟨fun h2 => by (rw [hlast] at h2; cases h2), h1 hd'⟩)
  unfold Go.wpOp
  simp only [hi]
  rw [hl, if_pos hw]
  exact .inl h0
/-- the next one is wanted -/
theorem lex_want {n k fuel : Nat} {a : Act} {w : World} {oi : Oper} {rest : List Oper} (hs : Region.noSelect ops = true) (hf : Region.free md ops (lst n k) k = true)
    (hr : (Region.ready md ops (lst n k)).contains k = true) (hl : (lst n k).setIfInBounds k true = lst n (k + 1)) (hQ : ∀ v, ∀ c a w, Q (.panic c) (a.put oi.dst v) w → Q (.panic c) a w)
    (hw : Region.wanted oi (yielded ops a.tmps) = true)
    (h : ∀ K : Act → Prop, (∀ a', LexAt P md ops Q fuel n (k + 1) rest a' w → K a') → ∃ v, (∀ x : Up w, upAt P oi a x.val v) ∧ K (a.put oi.dst v)) :
    LexAt P md ops Q (fuel + 1) n k (oi :: rest) a w := lex_take hs hf hr hl hQ fun K hK => by rw [if_pos hw]; exact h K hK
/-- the next one is not wanted -/
theorem lex_skip {n k fuel : Nat} {a : Act} {w : World} {oi : Oper} {rest : List Oper} (hs : Region.noSelect ops = true) (hf : Region.free md ops (lst n k) k = true)
    (hr : (Region.ready md ops (lst n k)).contains k = true) (hl : (lst n k).setIfInBounds k true = lst n (k + 1)) (hQ : ∀ v, ∀ c a w, Q (.panic c) (a.put oi.dst v) w → Q (.panic c) a w)
    (hw : Region.wanted oi (yielded ops a.tmps) = false) (h : LexAt P md ops Q fuel n (k + 1) rest (a.put oi.dst undef) w) :
    LexAt P md ops Q (fuel + 1) n k (oi :: rest) a w := lex_take hs hf hr hl hQ fun K hK => by rw [if_neg (by rw [hw]; exact Bool.false_ne_true)]; exact hK _ h
theorem lex_done {n k fuel : Nat} {a : Act} {w : World} (hr : Region.ready md ops (lst n k) = []) (h : ∀ x : Up w, Q .normal a x.val) : LexAt P md ops Q fuel n k [] a w := by
  intro _
  cases fuel with
  | zero => exact fun w1 hx => ⟨hr, h ⟨w1, hx⟩⟩
  | succ f => exact fun _ w1 hx => ⟨fun _ => h ⟨w1, hx⟩, by rw [hr]; simp⟩
/-- the beginning -/
theorem wp_region_lex {id : Nat} {l : List Oper} {a : Act} {w : World} (n : Nat) (hn : l.length = n) (hm : P.follows .mixedOrders = true)
    (h : LexAt P .any l.toArray Q n n 0 l a w.drew) : (Code.region id l.toArray true).wp P Q a w := by
  subst hn
  exact wp_region_any hm (wpAny_of_X _ _ _ _ (Closed.none _) (by simpa [lst, List.toArray_replicate] using h rfl))
/-- a whole array or struct is loaded out of its block -/
theorem lex_load_blk {n k fuel : Nat} {a : Act} {w : World} {oi : Oper} {rest : List Oper} (hs : Region.noSelect ops = true) (hf : Region.free md ops (lst n k) k = true)
    (hr : (Region.ready md ops (lst n k)).contains k = true) (hl : (lst n k).setIfInBounds k true = lst n (k + 1)) (hQ : ∀ v, ∀ c a w, Q (.panic c) (a.put oi.dst v) w → Q (.panic c) a w)
    (hw : Region.wanted oi (yielded ops a.tmps) = true) (ty : TypeId) (x : Operand) (ho : oi.op = .load ty x)
    {g : Nat} (hx : a.eval x = .pointer (some ⟨g, 0, none⟩)) {t : TypeId} {cs : Array Value} {d : TypeDesc} (hg : Blk w g t cs)
    (hu : P.underlying ty = some d) (hd : (match d with | .struct _ | .array _ _ => true | _ => false) = true) (hsz : (P.info? ty).map (·.size) = some cs.size)
    (h : LexAt P md ops Q fuel n (k + 1) rest (a.put oi.dst (.agg cs)) w) : LexAt P md ops Q (fuel + 1) n k (oi :: rest) a w :=
  lex_take hs hf hr hl hQ fun K hK => by
    rw [if_pos hw]
    refine ⟨.agg cs, fun y => ?_, hK _ h⟩
    unfold upAt
    simp only [execOp, ho, hx, Instr.loadAt, Instr.sureAddr, Sem.run_bind, Sem.run_pure, Result.andThen_ok, run_loadVar_row y.val g t ty cs (0, 0) d (hg.ext y.ext) hu hd hsz]
    exact ⟨rfl, rfl⟩
end
attribute [go_sem] upAt upUpon
end Go.Proofs.YtmjkfgpkohfmiaaGreat
