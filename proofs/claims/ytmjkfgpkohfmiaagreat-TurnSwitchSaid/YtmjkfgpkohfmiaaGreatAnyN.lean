/- Regions that draw their order, in which calls turn what was there: operations that only read, and yield one value in every world that a relation leads to, may be taken first; the calls come one behind the other, in exact worlds; one operation may come up anywhere beside them. -/
import Derived.Test.YtmjkfgpkohfmiaaGreatAnyY
namespace Go.Proofs.YtmjkfgpkohfmiaaGreat
set_option linter.unusedVariables false
set_option linter.unusedSimpArgs false
open Go.RowKit

/-- a relation between worlds that holds on, step by step -/
structure Pre (ρ : World → World → Prop) : Prop where
  refl : ∀ w, ρ w w
  trans : ∀ {a b c}, ρ a b → ρ b c → ρ a c

section
variable {P : Program} {ops : Array Oper} {Q : Exit → Act → World → Prop} {md : Region.Mode} {ρ : World → World → Prop}

def YieldsN (P : Program) (ops : Array Oper) (ρ : World → World → Prop) (o : Oper) (v : Value) (a : Act) (W : World) : Prop :=
  (Region.wanted o (yielded ops a.tmps) = true ∧ ∀ w, ρ W w → (execOp a.eval o).run P w = .ok (.value v) w) ∨ (Region.wanted o (yielded ops a.tmps) = false ∧ v = undef)
theorem YieldsN.mono (hp : Pre ρ) {o : Oper} {v : Value} {a : Act} {W W' : World} (h : YieldsN P ops ρ o v a W) (hx : ρ W W') : YieldsN P ops ρ o v a W' :=
  h.imp (fun ⟨h1, h2⟩ => ⟨h1, fun w hw => h2 w (hp.trans hx hw)⟩) id
theorem YieldsN.of_same {o : Oper} {v : Value} {a a' : Act} {W : World} (hy : YieldsN P ops ρ o v a W) (he : execOp a'.eval o = execOp a.eval o)
    (hw : Region.wanted o (yielded ops a'.tmps) = Region.wanted o (yielded ops a.tmps)) : YieldsN P ops ρ o v a' W := by
  unfold YieldsN at *
  rw [he, hw]
  exact hy
theorem YieldsN.wpOp (hp : Pre ρ) {i : Nat} {o : Oper} {v : Value} {a : Act} {w : World} (hi : ops[i]? = some o) (hy : YieldsN P ops ρ o v a w)
    {K : Act → World → Prop} (h : K (a.put o.dst v) w) : wpOp P ops Q i K a w := by
  unfold Go.wpOp
  simp only [hi]
  rcases hy with ⟨hwn, hv⟩ | ⟨hwn, rfl⟩
  · simp only [hwn, if_true]
    refine .inl ?_
    unfold Oper.wp
    rw [hv w (hp.refl w)]
    exact h
  · simp only [hwn, Bool.false_eq_true, if_false]; exact h
theorem wpOp_putN {j : Nat} {oi oj : Oper} {v : Value} (hj : ops[j]? = some oj) (hap : oi.apart ops oj = true)
    (hsi : ∀ cs b, oi.op ≠ .select cs b) (hsj : ∀ cs b, oj.op ≠ .select cs b)
    (hQ : ∀ c a w, Q (.panic c) (a.put oi.dst v) w → Q (.panic c) a w) {K : Act → World → Prop} {a : Act} {w W : World}
    (hy : YieldsN P ops ρ oi v a W) (h : wpOp P ops Q j K (a.put oi.dst v) w) :
    wpOp P ops Q j (fun a' w' => YieldsN P ops ρ oi v a' W ∧ K (a'.put oi.dst v) w') a w := by
  obtain ⟨h1, h2, h3⟩ := Oper.apart_spec hap
  have keep : ∀ (a : Act), YieldsN P ops ρ oi v a W → ∀ u, YieldsN P ops ρ oi v (a.put oj.dst u) W := fun a hy u =>
    hy.of_same (execOp_put oi hsi a oj.dst u h3) (wanted_put oi a oj.dst u h3)
  have keepD : ∀ d, YieldsN P ops ρ oi v { a with defers := d :: a.defers } W := fun d => hy.of_same rfl rfl
  unfold wpOp at *
  simp only [hj] at *
  rw [wanted_put oj a oi.dst v h1] at h
  split
  · rename_i hw
    simp only [hw, if_true] at h
    rcases h with h | ⟨hasks, hlets⟩
    case inr => exact .inr ⟨by unfold Oper.asks at *; rw [execOp_put oj hsj a oi.dst v h1] at hasks; exact hasks, hlets⟩
    refine .inl ?_
    unfold Oper.wp at *
    rw [execOp_put oj hsj a oi.dst v h1] at h
    generalize (execOp a.eval oj).run P w = r at *
    cases r with
    | ok n w' =>
      cases n <;> simp only [Oper.upon] at h ⊢
      case value u => exact ⟨keep a hy u, by rw [← Act.put_comm a v u h2]; exact h⟩
      case skip => exact ⟨keep a hy _, by rw [← Act.put_comm a v undef h2]; exact h⟩
      case defer d =>
        refine ⟨keep _ (keepD d) _, ?_⟩
        rw [← Act.put_comm _ v undef h2, ← Act.put_defers]
        exact h
      case enter f args =>
        refine Calls.mono h fun e w'' he => ?_
        cases e with
        | returned u => exact ⟨keep a hy u, by rw [← Act.put_comm a v u h2]; exact he⟩
        | panicked c => exact hQ _ _ _ he
        | outgrown => exact he
      case row row args => exact Rows.mono h fun u w'' he => ⟨keep a hy u, by rw [← Act.put_comm a v u h2]; exact he⟩
    | halt x w' =>
      cases x <;> simp only [Oper.upon] at h ⊢
      case panic u => exact hQ _ _ _ h
  · rename_i hw
    simp only [hw] at h
    exact ⟨keep a hy _, by rw [← Act.put_comm a v undef h2]; exact h⟩

/-- whatever order is picked from here on -/
def wpAnyN (P : Program) (md : Region.Mode) (ops : Array Oper) (Q : Exit → Act → World → Prop) (ρ : World → World → Prop) : Nat → Array Bool → Act → World → Prop
  | 0, listed, a, w => Region.ready md ops listed = [] ∧ Q .normal a w
  | fuel + 1, listed, a, w => Closed md ops listed →
    (Region.ready md ops listed = [] → Q .normal a w) ∧
    ∀ i ∈ Region.ready md ops listed, wpOp P ops Q i (fun a' w' => (lastB md ops i = false → ρ w w') ∧ wpAnyN P md ops Q ρ fuel (listed.setIfInBounds i true) a' w') a w
theorem wpAny_of_N : ∀ (fuel : Nat) (listed : Array Bool) (a : Act) (w : World), Closed md ops listed → wpAnyN P md ops Q ρ fuel listed a w → wpAny P md ops Q fuel listed a w
  | 0, _, _, w, _, h => h
  | fuel + 1, _, _, w, hc, h => ⟨(h hc).1, fun i hi => wpOp_mono (fun a' w' h' => wpAny_of_N fuel _ a' w' (hc.step hi) h'.2) ((h hc).2 i hi)⟩
/-- an operation that yields one value in every world that the relation leads to may be taken first -/
theorem wpAnyN_first (hp : Pre ρ) {i : Nat} {oi : Oper} {v : Value} (hi : ops[i]? = some oi) (hsel : ∀ (j : Nat) (o : Oper) cs b, ops[j]? = some o → o.op ≠ .select cs b)
    (hQ : ∀ c a w, Q (.panic c) (a.put oi.dst v) w → Q (.panic c) a w) (hil : lastB md ops i = false ∨ True) :
    ∀ (fuel : Nat) (listed : Array Bool) (a : Act) (w : World),
      (∀ j oj, ops[j]? = some oj → j ≠ i → listed.getD j true = false → (∀ e ∈ oj.after, Region.binds md e = true → e.on ≠ i) → oi.apart ops oj = true) →
      i ∈ Region.ready md ops listed → YieldsN P ops ρ oi v a w →
      wpAnyN P md ops Q ρ fuel (listed.setIfInBounds i true) (a.put oi.dst v) w → wpAnyN P md ops Q ρ (fuel + 1) listed a w := by
  intro fuel
  induction fuel with
  | zero =>
    intro listed a w _ hr hy H hc
    refine ⟨fun h => (by rw [h] at hr; cases hr), fun j hj => ?_⟩
    by_cases hji : j = i
    · subst hji; exact hy.wpOp hp hi ⟨fun _ => hp.refl _, H⟩
    · have := ready_mono hj hji
      rw [H.1] at this
      cases this
  | succ fuel ih =>
    intro listed a w hfree hr hy H hc
    refine ⟨fun h => (by rw [h] at hr; cases hr), fun j hj => ?_⟩
    by_cases hji : j = i
    · subst hji; exact hy.wpOp hp hi ⟨fun _ => hp.refl _, H⟩
    · have h1 := (H (hc.step hr)).2 j (ready_mono hj hji)
      obtain ⟨hjun, oj, hoj, hall⟩ := mem_ready.1 hj
      have hnot : ∀ e ∈ oj.after, Region.binds md e = true → e.on ≠ i := fun e he hb heq => by
        have h1 := hall e he hb
        have h0 := (mem_ready.1 hr).1
        rw [heq] at h1
        rcases Nat.lt_or_ge i listed.size with h' | h'
        · simp [h'] at h0 h1; rw [h0] at h1; cases h1
        · simp [Array.getElem?_eq_none h'] at h1
      have h2 := wpOp_putN hoj (hfree j oj hoj hji hjun hnot) (fun cs b => hsel i oi cs b hi) (fun cs b => hsel j oj cs b hoj) hQ hy h1
      have hfree' : ∀ k ok, ops[k]? = some ok → k ≠ i → (listed.setIfInBounds j true).getD k true = false →
          (∀ e ∈ ok.after, Region.binds md e = true → e.on ≠ i) → oi.apart ops ok = true := fun k ok hk hki hun hno => by
        refine hfree k ok hk hki ?_ hno
        by_cases hjk : j = k
        · subst hjk; exact hjun
        · rw [getD_set_ne true hjk] at hun; exact hun
      refine wpOp_mono (fun a' w' h3 => ?_) h2
      obtain ⟨hy', hx0, h4⟩ := h3
      have hx' : ρ w w' := hx0 (by
        cases hb : lastB md ops j with
        | false => rfl
        | true => exact absurd (lastB_spec hc hb hj hr).symm hji)
      refine ⟨fun _ => hx', ih (listed.setIfInBounds j true) a' w' hfree' (ready_mono hr (Ne.symm hji)) (hy'.mono hp hx') ?_⟩
      rw [Array.setIfInBounds_comm _ _ hji]
      exact h4

/-- the operations from the k-th on, where those that are listed are done -/
def OutN (P : Program) (md : Region.Mode) (ops : Array Oper) (Q : Exit → Act → World → Prop) (ρ : World → World → Prop) (fuel : Nat) (listed : Array Bool) (k : Nat) (l : List Oper) (a : Act) (w : World) : Prop :=
  ops.toList.drop k = l → wpAnyN P md ops Q ρ fuel listed a w
/-- the next one only reads: it is taken first -/
theorem n_want (hp : Pre ρ) {listed : Array Bool} {k fuel : Nat} {a : Act} {w : World} {oi : Oper} {rest : List Oper} (hs : Region.noSelect ops = true) (hf : Region.free md ops listed k = true)
    (hr : (Region.ready md ops listed).contains k = true) (hQ : ∀ v, ∀ c a w, Q (.panic c) (a.put oi.dst v) w → Q (.panic c) a w)
    (hw : Region.wanted oi (yielded ops a.tmps) = true) (v : Value) (hv : ∀ w', ρ w w' → (execOp a.eval oi).run P w' = .ok (.value v) w')
    (h : OutN P md ops Q ρ fuel (listed.setIfInBounds k true) (k + 1) rest (a.put oi.dst v) w) :
    OutN P md ops Q ρ (fuel + 1) listed k (oi :: rest) a w := by
  intro hd
  obtain ⟨hi', hd'⟩ := drop_cons hd
  have hi : ops[k]? = some oi := by simpa using hi'
  exact wpAnyN_first hp hi (Region.noSelect_spec hs) (hQ v) (.inr trivial) fuel _ a w (Region.free_spec hi hf) (by simpa using hr) (.inl ⟨hw, hv⟩) (h hd')
theorem n_late {listed : Array Bool} {k fuel : Nat} {a : Act} {w : World} {oi : Oper} {rest : List Oper} (h : OutN P md ops Q ρ fuel listed (k + 1) rest a w) :
    OutN P md ops Q ρ fuel listed k (oi :: rest) a w := fun hd => h (drop_cons hd).2
theorem n_rest {listed : Array Bool} {k fuel : Nat} {a : Act} {w : World} {l : List Oper} (h : wpAnyN P md ops Q ρ fuel listed a w) : OutN P md ops Q ρ fuel listed k l a w := fun _ => h
/-- the one that may come up is carried out -/
theorem n_one {fuel : Nat} {listed : Array Bool} {a : Act} {w : World} (i : Nat) {oi : Oper} (hr : Region.ready md ops listed = [i]) (hi : ops[i]? = some oi) (hw : Region.wanted oi (yielded ops a.tmps) = true)
    (h : ∀ K : Act → World → Prop, (∀ a' w', (lastB md ops i = false → ρ w w') → wpAnyN P md ops Q ρ fuel (listed.setIfInBounds i true) a' w' → K a' w') → oi.wp P a w K Q) :
    wpAnyN P md ops Q ρ (fuel + 1) listed a w := by
  intro _
  refine ⟨fun h0 => (by rw [hr] at h0; cases h0), fun j hj => ?_⟩
  rw [hr] at hj
  obtain rfl : j = i := by simpa using hj
  exact wpOp_wp hi hw (h _ (fun _ _ h1 h2 => ⟨h1, h2⟩))
/-- it yields a value -/
theorem n_val {fuel : Nat} {listed : Array Bool} {a : Act} {w : World} (i : Nat) {oi : Oper} (hr : Region.ready md ops listed = [i]) (hi : ops[i]? = some oi) (hw : Region.wanted oi (yielded ops a.tmps) = true)
    (v : Value) (w' : World) (he : (execOp a.eval oi).run P w = .ok (.value v) w') (hx : lastB md ops i = false → ρ w w') (h : wpAnyN P md ops Q ρ fuel (listed.setIfInBounds i true) (a.put oi.dst v) w') :
    wpAnyN P md ops Q ρ (fuel + 1) listed a w :=
  n_one i hr hi hw fun K hK => by
    unfold Oper.wp
    rw [he]
    exact hK _ _ hx h
/-- it is a store -/
theorem n_skip {fuel : Nat} {listed : Array Bool} {a : Act} {w : World} (i : Nat) {oi : Oper} (hr : Region.ready md ops listed = [i]) (hi : ops[i]? = some oi) (hw : Region.wanted oi (yielded ops a.tmps) = true)
    (w' : World) (he : (execOp a.eval oi).run P w = .ok .skip w') (hx : lastB md ops i = false → ρ w w') (h : wpAnyN P md ops Q ρ fuel (listed.setIfInBounds i true) (a.put oi.dst undef) w') :
    wpAnyN P md ops Q ρ (fuel + 1) listed a w :=
  n_one i hr hi hw fun K hK => by
    unfold Oper.wp
    rw [he]
    exact hK _ _ hx h
theorem wp_enter {o : Oper} {a : Act} {w w0 : World} {f : Nat} {args : Array Value} {K : Act → World → Prop} (he : (execOp a.eval o).run P w = .ok (.enter f args) w0) (v : Value) (w1 : World)
    (hc : Calls P f args w0 fun e w'' => e = .returned v ∧ w'' = w1) (h : K (a.put o.dst v) w1) : o.wp P a w K Q := by
  unfold Oper.wp
  rw [he]
  exact Calls.mono hc fun e w'' ⟨h1, h2⟩ => by subst h1; subst h2; exact h
theorem wp_enter_panic {o : Oper} {a : Act} {w w0 : World} {f : Nat} {args : Array Value} {K : Act → World → Prop} (he : (execOp a.eval o).run P w = .ok (.enter f args) w0) (c : List PanicEntry) (w1 : World)
    (hc : Calls P f args w0 fun e w'' => e = .panicked c ∧ w'' = w1) (h : Q (.panic c) a w1) : o.wp P a w K Q := by
  unfold Oper.wp
  rw [he]
  exact Calls.mono hc fun e w'' ⟨h1, h2⟩ => by subst h1; subst h2; exact h
/-- it is a call that comes back -/
theorem n_call {fuel : Nat} {listed : Array Bool} {a : Act} {w w0 : World} (i : Nat) {oi : Oper} {f : Nat} {args : Array Value} (hr : Region.ready md ops listed = [i]) (hi : ops[i]? = some oi) (hw : Region.wanted oi (yielded ops a.tmps) = true)
    (he : (execOp a.eval oi).run P w = .ok (.enter f args) w0) (v : Value) (w' : World) (hc : Calls P f args w0 fun e w'' => e = .returned v ∧ w'' = w') (hx : lastB md ops i = false → ρ w w')
    (h : wpAnyN P md ops Q ρ fuel (listed.setIfInBounds i true) (a.put oi.dst v) w') :
    wpAnyN P md ops Q ρ (fuel + 1) listed a w :=
  n_one i hr hi hw fun K hK => wp_enter he v w' hc (hK _ _ hx h)
/-- it is a call that panics -/
theorem n_panic {fuel : Nat} {listed : Array Bool} {a : Act} {w w0 : World} (i : Nat) {oi : Oper} {f : Nat} {args : Array Value} (hr : Region.ready md ops listed = [i]) (hi : ops[i]? = some oi) (hw : Region.wanted oi (yielded ops a.tmps) = true)
    (he : (execOp a.eval oi).run P w = .ok (.enter f args) w0) (c : List PanicEntry) (w' : World) (hc : Calls P f args w0 fun e w'' => e = .panicked c ∧ w'' = w') (h : Q (.panic c) a w') :
    wpAnyN P md ops Q ρ (fuel + 1) listed a w :=
  n_one i hr hi hw fun K hK => wp_enter_panic he c w' hc h
theorem n_done {fuel : Nat} {listed : Array Bool} {a : Act} {w : World} (hr : Region.ready md ops listed = []) (h : Q .normal a w) : wpAnyN P md ops Q ρ fuel listed a w := by
  cases fuel with
  | zero => exact ⟨hr, h⟩
  | succ f => exact fun _ => ⟨fun _ => h, by rw [hr]; simp⟩
theorem wp_region_n {id : Nat} {l : List Oper} {a : Act} {w : World} (ρ : World → World → Prop) (n : Nat) (hn : l.length = n) (hm : P.follows .mixedOrders = true)
    (h : OutN P .any l.toArray Q ρ n (lst n 0) 0 l a w.drew) : (Code.region id l.toArray true).wp P Q a w := by
  subst hn
  exact wp_region_any hm (wpAny_of_N (ρ := ρ) _ _ _ _ (Closed.none _) (by simpa [lst, List.toArray_replicate] using h rfl))

/-- a chain of operations, and operation iC that may come up anywhere: wF is the world w behind it -/
def SerN (P : Program) (md : Region.Mode) (ops : Array Oper) (Q : Exit → Act → World → Prop) (ρ : World → World → Prop) (iC : Nat) (oC : Oper) (vC : Value) : Nat → Array Bool → Act → World → World → Prop
  | 0, _, _, _, _ => False
  | fuel + 1, L, a, w, wF => (execOp a.eval oC).run P w = .ok (.value vC) wF ∧ ρ w wF ∧
    ((Region.ready md ops L = [iC] ∧ wpAnyN P md ops Q ρ fuel (L.setIfInBounds iC true) (a.put oC.dst vC) wF) ∨
     ∃ i o, (Region.ready md ops L = [i, iC] ∨ Region.ready md ops L = [iC, i]) ∧ Region.ready md ops (L.setIfInBounds iC true) = [i] ∧ ops[i]? = some o ∧ o.guard = none ∧ i ≠ iC ∧ (∀ d, o.dst = some d → oC.dst ≠ some d) ∧
       ((∃ v w1 wF1, o.wp P a w (fun a1 x => a1 = a.put o.dst v ∧ x = w1) Q ∧ o.wp P (a.put oC.dst vC) wF (fun a1 x => a1 = (a.put oC.dst vC).put o.dst v ∧ x = wF1) Q ∧ ρ w w1 ∧ ρ wF wF1 ∧
          SerN P md ops Q ρ iC oC vC fuel (L.setIfInBounds i true) (a.put o.dst v) w1 wF1) ∨
        (0 < fuel ∧ o.wp P a w (fun _ _ => False) Q ∧ o.wp P (a.put oC.dst vC) wF (fun _ _ => False) Q)))
theorem SerN.any {iC : Nat} {oC : Oper} {vC : Value} (hC : ops[iC]? = some oC) (gC : oC.guard = none) : ∀ (fuel : Nat) (L : Array Bool) (a : Act) (w wF : World), SerN P md ops Q ρ iC oC vC (fuel + 1) L a w wF →
    wpAnyN P md ops Q ρ (fuel + 1) L a w ∧ wpAnyN P md ops Q ρ fuel (L.setIfInBounds iC true) (a.put oC.dst vC) wF := by
  have wt : ∀ {o : Oper} (f), o.guard = none → Region.wanted o f = true := fun {o} f hg => by unfold Region.wanted; rw [hg]
  intro fuel
  induction fuel with
  | zero =>
    rintro L a w wF ⟨eC, rC, ⟨r0, h⟩ | ⟨i, o, hr, hrC, hi, hg, hne, hd, h⟩⟩
    · exact ⟨n_val iC r0 hC (wt _ gC) vC wF eC (fun _ => rC) h, h⟩
    · rcases h with ⟨v, w1, wF1, h1, h2, x1, x2, h3⟩ | ⟨h0, h1, h2⟩
      · exact absurd h3 id
      · exact absurd h0 (Nat.lt_irrefl 0)
  | succ fuel ih =>
    rintro L a w wF ⟨eC, rC, ⟨r0, h⟩ | ⟨i, o, hr, hrC, hi, hg, hne, hd, h⟩⟩
    · exact ⟨n_val iC r0 hC (wt _ gC) vC wF eC (fun _ => rC) h, h⟩
    · have p2 : wpAnyN P md ops Q ρ (fuel + 1) (L.setIfInBounds iC true) (a.put oC.dst vC) wF := by
        refine n_one i hrC hi (wt _ hg) fun K hK => ?_
        rcases h with ⟨v, w1, wF1, h1, h2, x1, x2, h3⟩ | ⟨h0, h1, h2⟩
        · refine Oper.wp_mono (fun a1 x hx => ?_) h2
          obtain ⟨rfl, rfl⟩ := hx
          refine hK _ _ (fun _ => x2) ?_
          have := (ih _ _ _ _ h3).2
          rw [Array.setIfInBounds_comm _ _ hne, Act.put_comm _ _ _ hd] at this
          exact this
        · exact Oper.wp_mono (fun a1 x hx => hx.elim) h2
      refine ⟨fun hc => ⟨fun h0 => (by rcases hr with hr | hr <;> (rw [hr] at h0; cases h0)), fun j hj => ?_⟩, p2⟩
      have hj : j = i ∨ j = iC := by rcases hr with hr | hr <;> (rw [hr] at hj; simp at hj; omega)
      rcases hj with rfl | rfl
      · refine wpOp_wp hi (wt _ hg) ?_
        rcases h with ⟨v, w1, wF1, h1, h2, x1, x2, h3⟩ | ⟨h0, h1, h2⟩
        · refine Oper.wp_mono (fun a1 x hx => ?_) h1
          obtain ⟨rfl, rfl⟩ := hx
          exact ⟨fun _ => x1, (ih _ _ _ _ h3).1⟩
        · exact Oper.wp_mono (fun a1 x hx => hx.elim) h1
      · refine wpOp_wp hC (wt _ gC) ?_
        unfold Oper.wp
        rw [eC]
        exact ⟨fun _ => rC, p2⟩
/-- the chain begins -/
theorem n_ser {iC : Nat} {oC : Oper} (vC : Value) (wF : World) {fuel : Nat} {L : Array Bool} {a : Act} {w : World} (hC : ops[iC]? = some oC) (gC : oC.guard = none) (h : SerN P md ops Q ρ iC oC vC (fuel + 1) L a w wF) : wpAnyN P md ops Q ρ (fuel + 1) L a w :=
  (SerN.any hC gC fuel L a w wF h).1
theorem SerN.last {iC : Nat} {oC : Oper} {vC : Value} {fuel : Nat} {L : Array Bool} {a : Act} {w wF : World} (e : (execOp a.eval oC).run P w = .ok (.value vC) wF) (x : ρ w wF) (r : Region.ready md ops L = [iC]) (h : wpAnyN P md ops Q ρ fuel (L.setIfInBounds iC true) (a.put oC.dst vC) wF) : SerN P md ops Q ρ iC oC vC (fuel + 1) L a w wF := ⟨e, x, .inl ⟨r, h⟩⟩
/-- a call of the chain comes back -/
theorem SerN.call {iC : Nat} {oC : Oper} {vC : Value} {fuel : Nat} {L : Array Bool} {a : Act} {w wF : World} (i : Nat) {o : Oper} {f : Nat} {args : Array Value} (e : (execOp a.eval oC).run P w = .ok (.value vC) wF) (x : ρ w wF) (r : Region.ready md ops L = [i, iC] ∨ Region.ready md ops L = [iC, i])
    (rC : Region.ready md ops (L.setIfInBounds iC true) = [i]) (hi : ops[i]? = some o) (hg : o.guard = none) (hne : i ≠ iC) (hd : ∀ d, o.dst = some d → oC.dst ≠ some d)
    (he : ∀ w, (execOp a.eval o).run P w = .ok (.enter f args) w) (heF : ∀ w, (execOp (a.put oC.dst vC).eval o).run P w = .ok (.enter f args) w) (v : Value) (w1 wF1 : World)
    (hc : Calls P f args w fun e w'' => e = .returned v ∧ w'' = w1) (hcF : Calls P f args wF fun e w'' => e = .returned v ∧ w'' = wF1) (x1 : ρ w w1) (x2 : ρ wF wF1)
    (h : SerN P md ops Q ρ iC oC vC fuel (L.setIfInBounds i true) (a.put o.dst v) w1 wF1) : SerN P md ops Q ρ iC oC vC (fuel + 1) L a w wF :=
  ⟨e, x, .inr ⟨i, o, r, rC, hi, hg, hne, hd, .inl ⟨v, w1, wF1, wp_enter (he w) v w1 hc ⟨rfl, rfl⟩, wp_enter (heF wF) v wF1 hcF ⟨rfl, rfl⟩, x1, x2, h⟩⟩⟩
/-- a call of the chain panics -/
theorem SerN.panic {iC : Nat} {oC : Oper} {vC : Value} {fuel : Nat} {L : Array Bool} {a : Act} {w wF : World} (i : Nat) {o : Oper} {f : Nat} {args : Array Value} (e : (execOp a.eval oC).run P w = .ok (.value vC) wF) (x : ρ w wF) (r : Region.ready md ops L = [i, iC] ∨ Region.ready md ops L = [iC, i])
    (rC : Region.ready md ops (L.setIfInBounds iC true) = [i]) (hi : ops[i]? = some o) (hg : o.guard = none) (hne : i ≠ iC) (hd : ∀ d, o.dst = some d → oC.dst ≠ some d)
    (he : ∀ w, (execOp a.eval o).run P w = .ok (.enter f args) w) (heF : ∀ w, (execOp (a.put oC.dst vC).eval o).run P w = .ok (.enter f args) w) (c : List PanicEntry) (w1 wF1 : World) (hfu : 0 < fuel)
    (hc : Calls P f args w fun e w'' => e = .panicked c ∧ w'' = w1) (hcF : Calls P f args wF fun e w'' => e = .panicked c ∧ w'' = wF1)
    (h1 : Q (.panic c) a w1) (h2 : Q (.panic c) (a.put oC.dst vC) wF1) : SerN P md ops Q ρ iC oC vC (fuel + 1) L a w wF :=
  ⟨e, x, .inr ⟨i, o, r, rC, hi, hg, hne, hd, .inr ⟨hfu, wp_enter_panic (he w) c w1 hc h1, wp_enter_panic (heF wF) c wF1 hcF h2⟩⟩⟩
end
end Go.Proofs.YtmjkfgpkohfmiaaGreat
