/- What a disk keeps by a name, plainly. -/
import Derived.Test.YtfipfljiohdlhaaGreatMgU
namespace Go.Proofs.YtfipfljiohdlhaaGreat
set_option linter.unusedVariables false
set_option linter.unusedSimpArgs false

section
variable {α : Type}
theorem dGet_dIns_ne {s : List UInt8} {x : List UInt8 × α} (h : x.1 ≠ s) : ∀ l : List (List UInt8 × α), dGet s (dIns x l) = dGet s l
  | [] => by simp [dGet, dIns, h]
  | y :: r => by
    unfold dIns
    split
    · simp [dGet, List.find?_cons, h]
    · have ih := dGet_dIns_ne h r
      unfold dGet at ih ⊢
      rw [List.find?_cons, List.find?_cons]
      split
      · rfl
      · exact ih
theorem dGet_dDel_ne {s t : List UInt8} (h : t ≠ s) (l : List (List UInt8 × α)) : dGet s (dDel t l) = dGet s l := by
  unfold dGet dDel
  induction l with
  | nil => rfl
  | cons y r ih =>
    rw [List.filter_cons, List.find?_cons]
    by_cases hy : y.1 = t
    · have : (y.1 == s) = false := by rw [hy]; simpa using h
      simp only [hy, beq_self_eq_true, Bool.not_true, Bool.false_eq_true, if_false]
      rw [← hy, this]; rw [hy]; exact ih
    · have : (!(y.1 == t)) = true := by simpa using hy
      rw [if_pos this, List.find?_cons]
      split
      · rfl
      · exact ih
theorem dGet_dApply {s t f : List UInt8} (ht : t ≠ s) (hf : f ≠ s) (l : List (List UInt8 × α)) (o : Option α) : dGet s (dApply l t f o) = dGet s l := by
  have h : dGet s (if f = [] then l else dDel f l) = dGet s l := by
    split
    · rfl
    · exact dGet_dDel_ne hf l
  cases o with
  | none => exact h
  | some n =>
    show dGet s (dPut t n (if f = [] then l else dDel f l)) = _
    unfold dPut
    rw [dGet_dIns_ne ht, dGet_dDel_ne ht, h]
end
theorem leftL_prefix {a b T : List UInt8} (h1 : T <+: a) (h2 : a <+: b) (cut : Int) (mark : List UInt8) : T <+: leftL a b cut mark := by
  obtain ⟨c, rfl⟩ := h2
  unfold leftL
  rw [if_pos (by simp), List.drop_left]
  exact h1.trans (List.prefix_append _ _)

/-- an act that has to do with a name -/
def oursB (s : List UInt8) (a : ActD) : Bool := ((a.kind = 5 ∨ a.kind = 4 ∨ a.kind = 3) ∧ a.s = s) ∨ (a.kind = 4 ∧ a.t = s) ∨ a.kind = 9
/-- what was synced by a name is still there -/
structure Kept (s : List UInt8) (n : Nat) (T : List UInt8) (d : Dsk) : Prop where
  ne : s ≠ []
  safe : dGet s d.safe = some n
  dir : dGet s d.dir = some n
  chs : ∀ c ∈ d.chs, c.1 ≠ s ∧ c.2.1 ≠ s
  lt : n < d.files.length
  t1 : T <+: (d.file n).1
  t2 : (d.file n).1 <+: (d.file n).2
theorem fput_at (d : Dsk) (m i : Nat) (f : List UInt8 × List UInt8) (hm : m < d.files.length) : (d.put m f).file i = if i = m then f else d.file i := by
  unfold Dsk.file Dsk.put
  simp only [List.getD_eq_getElem?_getD]
  by_cases e : i = m
  · subst e; rw [if_pos rfl, List.getElem?_set_self hm]; rfl
  · rw [if_neg e, List.getElem?_set_ne (fun x => e x.symm)]
theorem Dsk.Ok.file_lt {d : Dsk} (ok : d.Ok) {t : List UInt8} {m : Nat} (hg : dGet t d.dir = some m) : m < d.files.length := (ok.dirN _ (dGet_mem hg)).2
section
variable {s : List UInt8} {n : Nat} {T : List UInt8} {d : Dsk} (h : Kept s n T d)
include h
theorem Kept.cnt : Kept s n T d.cnt := { h with }
theorem Kept.more : Kept s n T d.more := { h with lt := by have := h.lt; simp only [Dsk.more, List.length_append]; omega, t1 := by rw [file_more d h.lt]; exact h.t1, t2 := by rw [file_more d h.lt]; exact h.t2 }
theorem Kept.put {m : Nat} {f : List UInt8 × List UInt8} (hm : m < d.files.length) (hf : m = n → T <+: f.1 ∧ f.1 <+: f.2) : Kept s n T (d.put m f) := by
  have e := fput_at d m n f hm
  refine { h with lt := by have := h.lt; simpa [Dsk.put] using this, t1 := ?_, t2 := ?_ }
  · rw [e]; split
    · rename_i x; exact (hf x.symm).1
    · exact h.t1
  · rw [e]; split
    · rename_i x; exact (hf x.symm).2
    · exact h.t2
theorem Kept.chg {c : List UInt8 × List UInt8 × Option Nat} (h1 : c.1 ≠ s) (h2 : c.2.1 ≠ s) : Kept s n T (d.chg c) :=
by
  refine { h with dir := (show dGet s (dApply d.dir c.1 c.2.1 c.2.2) = _ from (dGet_dApply h1 h2 _ _).trans h.dir), chs := fun x hx => ?_ }
  rcases List.mem_append.1 hx with hx | hx
  · exact h.chs x hx
  · rw [List.mem_singleton] at hx; subst hx; exact ⟨h1, h2⟩
theorem Kept.one (ok : d.Ok) {t : List UInt8} (hg : dGet t d.dir = some n) : t = s :=
  congrArg Prod.fst (once_eq ok.chain.last (dGet_mem hg) (dGet_mem h.dir) rfl)
theorem Kept.act (ok : d.Ok) {a : ActD} (ho : oursB s a = false) : Kept s n T (d.act a).1 := by
  simp only [oursB, decide_eq_false_iff_not, not_or, not_and, Classical.not_imp] at ho
  obtain ⟨o1, o2, o3⟩ := ho
  unfold Dsk.act
  split
  · unfold Dsk.create
    split
    · exact h
    split
    · exact h
    split
    · exact h
    split
    · exact h
    · rename_i g1 g2 g3 g4
      refine Kept.chg (d := d.more) h.more (fun e => ?_) (fun e => h.ne e.symm)
      simp only at e
      rw [e, h.dir] at g3; exact g3 rfl
  split
  · unfold Dsk.append
    split
    · exact h
    split
    · exact h
    split
    · exact h
    split
    · exact h
    · rename_i m hg g3 g4
      refine Kept.put (d := d.cnt) h.cnt (ok.file_lt hg) (fun e => ?_)
      subst e
      have g3 := Decidable.not_not.1 g3
      unfold fappend at g3 ⊢
      split at g3
      · exact absurd g3 (by decide)
      · rename_i g5
        rw [if_neg g5]
        exact ⟨h.t1, h.t2.trans (List.prefix_append _ _)⟩
  split
  · unfold Dsk.sync
    split
    · exact h
    split
    · exact h
    split
    · exact h.cnt
    · rename_i m hg g3
      refine Kept.put (d := d.cnt) h.cnt (ok.file_lt hg) (fun e => ?_)
      subst e
      exact ⟨h.t1.trans h.t2, List.prefix_refl _⟩
  split
  · rename_i k3
    unfold Dsk.cut
    split
    · exact h
    split
    · exact h
    split
    · exact h
    · rename_i m hg g3
      refine Kept.put (d := d.cnt) h.cnt (ok.file_lt hg) (fun e => ?_)
      subst e
      exact absurd (h.one ok hg) (o1 (.inr (.inr k3)))
  split
  · rename_i k4
    unfold Dsk.rename
    split
    · exact h
    split
    · exact h
    split
    · exact h
    split
    · exact h
    · exact h.chg (o2 k4) (o1 (.inr (.inl k4)))
  split
  · rename_i k5
    unfold Dsk.remove
    split
    · exact h
    split
    · exact h
    · exact h.chg (fun e => h.ne e.symm) (o1 (.inl k5))
  split
  · unfold Dsk.dirSync
    split
    · exact h
    split
    · exact h.cnt
    · exact { h.cnt with safe := h.dir, chs := fun c hc => by simp at hc }
  split
  · unfold Dsk.arm
    split
    · exact h
    split
    · exact h
    · exact { h with }
  split
  · exact { h with }
  exact h
end
theorem fallAll_keeps (cuts : List Int) (marks : List (List UInt8)) (T : List UInt8) (n : Nat) : ∀ (L : List (List UInt8 × Nat)) (k : Nat) (fs : List (List UInt8 × List UInt8)), n < fs.length → (T <+: (fs.getD n ([], [])).1 ∧ (fs.getD n ([], [])).1 <+: (fs.getD n ([], [])).2) →
    T <+: ((fallAll cuts marks L k fs).getD n ([], [])).1 ∧ ((fallAll cuts marks L k fs).getD n ([], [])).1 <+: ((fallAll cuts marks L k fs).getD n ([], [])).2
  | [], _, fs, _, h => h
  | p :: r, k, fs, hn, h => by
    unfold fallAll
    simp only
    split
    · exact fallAll_keeps cuts marks T n r k fs hn h
    · refine fallAll_keeps cuts marks T n r (k + 1) _ (by simpa using hn) ?_
      by_cases e : p.2 = n
      · rw [e, List.getD_eq_getElem?_getD, List.getElem?_set_self hn]
        exact ⟨leftL_prefix h.1 h.2 _ _, List.prefix_refl _⟩
      · rw [List.getD_eq_getElem?_getD, List.getElem?_set_ne e, ← List.getD_eq_getElem?_getD]
        exact h
theorem Kept.left {s : List UInt8} {n : Nat} {T : List UInt8} {d : Dsk} (h : Kept s n T d) (k : Int) : dGet s (d.left k) = some n := by
  have : ∀ (cs : List (List UInt8 × List UInt8 × Option Nat)) (l : List (List UInt8 × Nat)), (∀ c ∈ cs, c.1 ≠ s ∧ c.2.1 ≠ s) → dGet s l = some n → dGet s (cs.foldl appC l) = some n := by
    intro cs
    induction cs with
    | nil => intro l _ h; exact h
    | cons c cs ih =>
      intro l hc hl
      rw [List.foldl_cons]
      refine ih _ (fun x hx => hc x (by simp [hx])) ?_
      have := hc c (by simp)
      rw [show appC l c = dApply l c.1 c.2.1 c.2.2 from rfl, dGet_dApply this.1 this.2]; exact hl
  exact this _ _ (fun c hc => h.chs c (List.mem_of_mem_take hc)) h.safe
/-- behind a fall the text begins with what was synced -/
theorem Kept.boot {s : List UInt8} {n : Nat} {T : List UInt8} {d : Dsk} (h : Kept s n T d) (k : Int) (cuts : List Int) (marks : List (List UInt8)) : ∃ x, (d.boot k cuts marks).read s = (x, 0) ∧ T <+: x := by
  have hf := fallAll_keeps cuts marks T n (d.left k) 0 d.files h.lt ⟨h.t1, h.t2⟩
  refine ⟨((d.boot k cuts marks).file n).2, ?_, hf.1.trans hf.2⟩
  unfold Dsk.read
  rw [show (d.boot k cuts marks).dead = false from rfl, show (d.boot k cuts marks).dir = d.left k from rfl, h.left k]
  rfl
/-- acts, one behind the other -/
def Dsk.acts (d : Dsk) (l : List ActD) : Dsk := l.foldl (fun d a => (d.act a).1) d
theorem Dsk.acts_snoc (d : Dsk) (l : List ActD) (a : ActD) : d.acts (l ++ [a]) = ((d.acts l).act a).1 := by unfold Dsk.acts; rw [List.foldl_append]; rfl
theorem Dsk.Ok.acts {d : Dsk} (ok : d.Ok) : ∀ {l : List ActD}, (∀ a ∈ l, a.n ≤ 9223372036854775807) → (d.acts l).Ok := by
  intro l
  induction l generalizing d with
  | nil => intro _; exact ok
  | cons a r ih => intro h; exact ih (ok.act (h a (by simp))) (fun x hx => h x (by simp [hx]))
theorem Kept.acts {s : List UInt8} {n : Nat} {T : List UInt8} : ∀ {l : List ActD} {d : Dsk}, d.Ok → Kept s n T d → (∀ a ∈ l, a.n ≤ 9223372036854775807) → l.any (oursB s) = false → Kept s n T (d.acts l)
  | [], d, _, h, _, _ => h
  | a :: r, d, ok, h, hn, ho => by
    rw [List.any_cons, Bool.or_eq_false_iff] at ho
    exact Kept.acts (l := r) (ok.act (hn a (by simp))) (h.act ok ho.1) (fun x hx => hn x (by simp [hx])) ho.2
end Go.Proofs.YtfipfljiohdlhaaGreat
