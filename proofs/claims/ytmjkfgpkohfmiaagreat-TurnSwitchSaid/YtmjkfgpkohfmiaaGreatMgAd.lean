/- Several texts in one. merged: TmC TmA TmD TmE TmB TmF -/
import Derived.Test.YtmjkfgpkohfmiaaGreatTgU
namespace Go.Proofs.YtmjkfgpkohfmiaaGreat
set_option linter.unusedVariables false
set_option linter.unusedSimpArgs false
open Go.RowKit

attribute [local go_sem] S_size S_toList S_append S_extract S_beq S_bne S_empty S_nil

def fewA (a : ActD) : Prop := (a.s.length : Int) ≤ 100 ∧ (a.t.length : Int) ≤ 2000 ∧ (a.marks.length : Int) ≤ 100 ∧ ∀ m ∈ a.marks, (m.length : Int) ≤ 500
instance (a : ActD) : Decidable (fewA a) := by unfold fewA; infer_instance
def FewA (l : List ActD) : Prop := (l.length : Int) ≤ 60 ∧ ∀ a ∈ l, fewA a
instance (l : List ActD) : Decidable (FewA l) := by unfold FewA; infer_instance
theorem act_size (a : ActD) : (actC a).length = 7 := rfl
theorem few_step {l : List ActD} {k : Nat} (h0 : ∀ j, j < k → ∀ a, l[j]? = some a → fewA a) {x : ActD} (hx : l[k]? = some x) (h : fewA x) : ∀ j, j < k + 1 → ∀ a, l[j]? = some a → fewA a := by
  intro j hj a ha
  rcases Nat.lt_or_ge j k with h1 | h1
  · exact h0 j h1 a ha
  · obtain rfl : j = k := by omega
    rw [hx] at ha; injection ha with ha; exact ha ▸ h
theorem few_all {l : List ActD} (hl : (l.length : Int) ≤ 60) {k : Nat} (h0 : ∀ j, j < k → ∀ a, l[j]? = some a → fewA a) (hk : l.length ≤ k) : decide (FewA l) = true := by
  refine decide_eq_true ⟨hl, fun a ha => ?_⟩
  obtain ⟨j, hj, e⟩ := List.getElem_of_mem ha
  exact h0 j (by omega) a (by rw [List.getElem?_eq_getElem hj, e])
theorem few_no {l : List ActD} {k : Nat} {x : ActD} (hx : l[k]? = some x) (h : ¬ fewA x) : decide (FewA l) = false :=
  decide_eq_false (fun hh => h (hh.2 x (List.mem_of_getElem? hx)))
theorem marks_step {m : List (List UInt8)} {k : Nat} (h0 : ∀ j, j < k → ∀ a, m[j]? = some a → (a.length : Int) ≤ 500) {x : List UInt8} (hx : m[k]? = some x) (h : (x.length : Int) ≤ 500) : ∀ j, j < k + 1 → ∀ a, m[j]? = some a → (a.length : Int) ≤ 500 := by
  intro j hj a ha
  rcases Nat.lt_or_ge j k with h1 | h1
  · exact h0 j h1 a ha
  · obtain rfl : j = k := by omega
    rw [hx] at ha; injection ha with ha; exact ha ▸ h
theorem marks_all {m : List (List UInt8)} {k : Nat} (h0 : ∀ j, j < k → ∀ a, m[j]? = some a → (a.length : Int) ≤ 500) (hk : m.length ≤ k) : ∀ s ∈ m, (s.length : Int) ≤ 500 := by
  intro a ha
  obtain ⟨j, hj, e⟩ := List.getElem_of_mem ha
  exact h0 j (by omega) a (by rw [List.getElem?_eq_getElem hj, e])
set_option maxRecDepth 20000 in
set_option maxHeartbeats 4000000 in
theorem few_any {w : World} {v : Value} {l : List ActD} (h : RR actC 7 w v l) (ha : ∀ a ∈ l, ActW w a) (hl : (l.length : Int) ≤ 9223372036854775807) :
    Calls Tryz.prog 5 #[v] w fun e w' => e = .returned (.bool (decide (FewA l))) ∧ w = w' := by
  obtain ⟨pa, ca, rfl, _, _, hsa⟩ := h
  by_cases hlen : (60 : Int) < (l.length : Int)
  · have hr : decide (FewA l) = false := decide_eq_false (fun hh => by have := hh.1; omega)
    rw [hr]
    clear hsa hr ha
    go_enter Tryz.func5, Tryz.ntmps5
    go_wp2
    go_ret
    exact ⟨rfl, rfl⟩
  have HALL := Lib.hid (fun k h0 hk => few_all (l := l) (k := k) (by omega) h0 hk)
  have HNO := Lib.hid (fun k x hx h => few_no (l := l) (k := k) (x := x) hx h)
  have HST := Lib.hid (fun k h0 x hx h => few_step (l := l) (k := k) h0 (x := x) hx h)
  have HSA := Lib.hid hsa
  have HA := Lib.hid ha
  generalize decide (FewA l) = r at *
  clear hsa ha
  go_enter Tryz.func5, Tryz.ntmps5
  go_wp2
  go_loopw [3] (fun i wr => ∃ k : Nat, i = .int .i64 (k : Int) ∧ k ≤ l.length ∧ RowKit.Hid (∀ j, j < k → ∀ a, l[j]? = some a → fewA a) ∧ w = wr) (fun i _ => l.length - (intOf i).toNat)
  case atStart => exact ⟨0, rfl, Nat.zero_le _, Lib.hid (fun j hj => by omega), rfl⟩
  case round =>
    obtain ⟨k, rfl, hk, hsm, rfl⟩ := hrel
    have HK := Lib.hid hk
    by_cases hlt : k < l.length
    · have hI : (k : Int) < (l.length : Int) := by omega
      obtain ⟨g, o, rfl, hc⟩ := HSA.out (by omega)
      obtain ⟨x, hx⟩ : ∃ x, l[k]? = some x := ⟨_, List.getElem?_eq_getElem hlt⟩
      have hr := hc k x hx
      have hw := HA.out x (List.mem_of_getElem? hx)
      have c2 := hr 2 _ rfl
      have c3 := hr 3 _ rfl
      have c6 := hr 6 _ rfl
      obtain ⟨pm, cm, hvm, _, _, hm⟩ := hw.marks
      have HM := Lib.hid hm
      rw [hvm] at c6
      have hm1 := hw.ml
      have hm2 := Lib.hid hw.mkl
      have hs1 := hw.sl
      have ht1 := hw.tl
      have NO := Lib.hid (fun h => HNO.out k x hx h)
      have ST := Lib.hid (fun h => HST.out k hsm.out x hx h)
      have FD := Lib.hid (show fewA x ↔ ((x.s.length : Int) ≤ 100 ∧ (x.t.length : Int) ≤ 2000 ∧ (x.marks.length : Int) ≤ 100 ∧ ∀ m ∈ x.marks, (m.length : Int) ≤ 500) from Iff.rfl)
      have MS := Lib.hid (fun k h0 y hy h => marks_step (m := x.marks) (k := k) h0 (x := y) hy h)
      have MA := Lib.hid (fun k h0 hk => marks_all (m := x.marks) (k := k) h0 hk)
      unfold maxLen at hs1 ht1
      clear hc hr hw hm hvm hx hsm hk
      generalize fewA x = fx at *
      generalize x.marks = ms at *
      generalize x.s = xs at *
      generalize x.t = xt at *
      by_cases h1 : (100 : Int) < (xs.length : Int)
      · have hn := NO.out (fun h => by have := (FD.out.1 h).1; omega)
        subst hn
        go_wp2
        go_ret
        exact ⟨rfl, rfl⟩
      by_cases h2 : (2000 : Int) < (xt.length : Int)
      · have hn := NO.out (fun h => by have := (FD.out.1 h).2.1; omega)
        subst hn
        go_wp2
        go_ret
        exact ⟨rfl, rfl⟩
      by_cases h3 : (100 : Int) < (ms.length : Int)
      · have hn := NO.out (fun h => by have := (FD.out.1 h).2.2.1; omega)
        subst hn
        go_wp2
        go_ret
        exact ⟨rfl, rfl⟩
      have HI := Lib.hid (fun (h : ∀ m ∈ ms, (m.length : Int) ≤ 500) => FD.out.2 ⟨by omega, by omega, by omega, h⟩)
      have HJ := Lib.hid (fun (h : fx) => (FD.out.1 h).2.2.2)
      have hkm := Lib.hid hlt
      clear FD
      go_wp2
      go_loopw [4] (fun i wr => ∃ j : Nat, i = .int .i64 (j : Int) ∧ j ≤ ms.length ∧ RowKit.Hid (∀ i, i < j → ∀ a, ms[i]? = some a → (a.length : Int) ≤ 500) ∧ w = wr) (fun i _ => ms.length - (intOf i).toNat)
      case atStart => exact ⟨0, rfl, Nat.zero_le _, Lib.hid (fun j hj => by omega), rfl⟩
      case round =>
        obtain ⟨j, rfl, hj, hsm, rfl⟩ := hrel
        by_cases hjt : j < ms.length
        · have hJ : (j : Int) < (ms.length : Int) := by omega
          obtain ⟨gm, om, rfl, hcm⟩ := HM.out (by omega)
          obtain ⟨y, hy⟩ : ∃ y, ms[j]? = some y := ⟨_, List.getElem?_eq_getElem hjt⟩
          have cy := hcm j y hy 0 _ rfl
          simp only [Nat.mul_one, Nat.add_zero] at cy
          have hyl := hm2.out y (List.mem_of_getElem? hy)
          have SS := Lib.hid (fun h => MS.out j hsm.out y hy h)
          have YM := Lib.hid (List.mem_of_getElem? hy)
          have hjm := Lib.hid hjt
          clear hcm hy hsm hjt
          by_cases h5 : (500 : Int) < (y.length : Int)
          · have hn := NO.out (fun h => by have := HJ.out h y YM.out; omega)
            subst hn
            go_wp2
            go_ret
            exact ⟨rfl, rfl⟩
          · have SS := Lib.hid (SS.out (by omega))
            go_wp2
            go_roundw
            case rel => exact ⟨j + 1, by go_num, by have := hjm.out; omega, SS, trivial⟩
            case measure => simp [intOf]; have := hjm.out; omega
        · have hf := Lib.hid (ST.out (HI.out (MA.out j hsm.out (by omega))))
          have hjt : (ms.length : Int) ≤ (j : Int) := by omega
          clear hj
          go_wp2
          go_roundw
          case rel => exact ⟨k + 1, by go_num, by have := hkm.out; omega, hf, trivial⟩
          case measure => simp [intOf]; have := hkm.out; omega
    · have hn := HALL.out k hsm.out (by omega)
      have hI : (l.length : Int) ≤ (k : Int) := by omega
      clear hk hlt
      subst hn
      go_wp2
      go_ret
      exact ⟨rfl, rfl⟩
end Go.Proofs.YtmjkfgpkohfmiaaGreat
namespace Go.Proofs.YtmjkfgpkohfmiaaGreat
set_option linter.unusedVariables false
set_option linter.unusedSimpArgs false

section

variable {α : Type}

theorem dGet_dIns_ne {s : List UInt8} {x : List UInt8 × α} (h : x.1 ≠ s) : ∀ l : List (List UInt8 × α), dGet s (dIns x l) = dGet s l
  | [] => by simp [dGet, dIns, h]
  | y :: r => by
    unfold dIns
    split
    · simp [dGet, List.find?_cons, h]
    · have ih := dGet_dIns_ne h r
      unfold dGet at ih ⊢
      rw [List.find?_cons, List.find?_cons]
      split
      · rfl
      · exact ih
theorem dGet_dDel_ne {s t : List UInt8} (h : t ≠ s) (l : List (List UInt8 × α)) : dGet s (dDel t l) = dGet s l := by
  unfold dGet dDel
  induction l with
  | nil => rfl
  | cons y r ih =>
    rw [List.filter_cons, List.find?_cons]
    by_cases hy : y.1 = t
    · have : (y.1 == s) = false := by rw [hy]; simpa using h
      simp only [hy, beq_self_eq_true, Bool.not_true, Bool.false_eq_true, if_false]
      rw [← hy, this]; rw [hy]; exact ih
    · have : (!(y.1 == t)) = true := by simpa using hy
      rw [if_pos this, List.find?_cons]
      split
      · rfl
      · exact ih
theorem dGet_dApply {s t f : List UInt8} (ht : t ≠ s) (hf : f ≠ s) (l : List (List UInt8 × α)) (o : Option α) : dGet s (dApply l t f o) = dGet s l := by
  have h : dGet s (if f = [] then l else dDel f l) = dGet s l := by
    split
    · rfl
    · exact dGet_dDel_ne hf l
  cases o with
  | none => exact h
  | some n =>
    show dGet s (dPut t n (if f = [] then l else dDel f l)) = _
    unfold dPut
    rw [dGet_dIns_ne ht, dGet_dDel_ne ht, h]
end

theorem leftL_prefix {a b T : List UInt8} (h1 : T <+: a) (h2 : a <+: b) (cut : Int) (mark : List UInt8) : T <+: leftL a b cut mark := by
  obtain ⟨c, rfl⟩ := h2
  unfold leftL
  rw [if_pos (by simp), List.drop_left]
  exact h1.trans (List.prefix_append _ _)

/-- an act that has to do with a name -/
def oursB (s : List UInt8) (a : ActD) : Bool := ((a.kind = 5 ∨ a.kind = 4 ∨ a.kind = 3) ∧ a.s = s) ∨ (a.kind = 4 ∧ a.t = s) ∨ a.kind = 9
/-- what was synced by a name is still there -/
structure Kept (s : List UInt8) (n : Nat) (T : List UInt8) (d : Dsk) : Prop where
  ne : s ≠ []
  safe : dGet s d.safe = some n
  dir : dGet s d.dir = some n
  chs : ∀ c ∈ d.chs, c.1 ≠ s ∧ c.2.1 ≠ s
  lt : n < d.files.length
  t1 : T <+: (d.file n).1
  t2 : (d.file n).1 <+: (d.file n).2
theorem fput_at (d : Dsk) (m i : Nat) (f : List UInt8 × List UInt8) (hm : m < d.files.length) : (d.put m f).file i = if i = m then f else d.file i := by
  unfold Dsk.file Dsk.put
  simp only [List.getD_eq_getElem?_getD]
  by_cases e : i = m
  · subst e; rw [if_pos rfl, List.getElem?_set_self hm]; rfl
  · rw [if_neg e, List.getElem?_set_ne (fun x => e x.symm)]
theorem Dsk.Ok.file_lt {d : Dsk} (ok : d.Ok) {t : List UInt8} {m : Nat} (hg : dGet t d.dir = some m) : m < d.files.length := (ok.dirN _ (dGet_mem hg)).2
section

variable {s : List UInt8} {n : Nat} {T : List UInt8} {d : Dsk} (h : Kept s n T d)

include h

theorem Kept.cnt : Kept s n T d.cnt := { h with }
theorem Kept.more : Kept s n T d.more := { h with lt := by have := h.lt; simp only [Dsk.more, List.length_append]; omega, t1 := by rw [file_more d h.lt]; exact h.t1, t2 := by rw [file_more d h.lt]; exact h.t2 }
theorem Kept.put {m : Nat} {f : List UInt8 × List UInt8} (hm : m < d.files.length) (hf : m = n → T <+: f.1 ∧ f.1 <+: f.2) : Kept s n T (d.put m f) := by
  have e := fput_at d m n f hm
  refine { h with lt := by have := h.lt; simpa [Dsk.put] using this, t1 := ?_, t2 := ?_ }
  · rw [e]; split
    · rename_i x; exact (hf x.symm).1
    · exact h.t1
  · rw [e]; split
    · rename_i x; exact (hf x.symm).2
    · exact h.t2
theorem Kept.chg {c : List UInt8 × List UInt8 × Option Nat} (h1 : c.1 ≠ s) (h2 : c.2.1 ≠ s) : Kept s n T (d.chg c) :=
by
  refine { h with dir := (show dGet s (dApply d.dir c.1 c.2.1 c.2.2) = _ from (dGet_dApply h1 h2 _ _).trans h.dir), chs := fun x hx => ?_ }
  rcases List.mem_append.1 hx with hx | hx
  · exact h.chs x hx
  · rw [List.mem_singleton] at hx; subst hx; exact ⟨h1, h2⟩
theorem Kept.one (ok : d.Ok) {t : List UInt8} (hg : dGet t d.dir = some n) : t = s :=
  congrArg Prod.fst (once_eq ok.chain.last (dGet_mem hg) (dGet_mem h.dir) rfl)
theorem Kept.act (ok : d.Ok) {a : ActD} (ho : oursB s a = false) : Kept s n T (d.act a).1 := by
  simp only [oursB, decide_eq_false_iff_not, not_or, not_and, Classical.not_imp] at ho
  obtain ⟨o1, o2, o3⟩ := ho
  unfold Dsk.act
  split
  · unfold Dsk.create
    split
    · exact h
    split
    · exact h
    split
    · exact h
    split
    · exact h
    · rename_i g1 g2 g3 g4
      refine Kept.chg (d := d.more) h.more (fun e => ?_) (fun e => h.ne e.symm)
      simp only at e
      rw [e, h.dir] at g3; exact g3 rfl
  split
  · unfold Dsk.append
    split
    · exact h
    split
    · exact h
    split
    · exact h
    split
    · exact h
    · rename_i m hg g3 g4
      refine Kept.put (d := d.cnt) h.cnt (ok.file_lt hg) (fun e => ?_)
      subst e
      have g3 := Decidable.not_not.1 g3
      unfold fappend at g3 ⊢
      split at g3
      · exact absurd g3 (by decide)
      · rename_i g5
        rw [if_neg g5]
        exact ⟨h.t1, h.t2.trans (List.prefix_append _ _)⟩
  split
  · unfold Dsk.sync
    split
    · exact h
    split
    · exact h
    split
    · exact h.cnt
    · rename_i m hg g3
      refine Kept.put (d := d.cnt) h.cnt (ok.file_lt hg) (fun e => ?_)
      subst e
      exact ⟨h.t1.trans h.t2, List.prefix_refl _⟩
  split
  · rename_i k3
    unfold Dsk.cut
    split
    · exact h
    split
    · exact h
    split
    · exact h
    · rename_i m hg g3
      refine Kept.put (d := d.cnt) h.cnt (ok.file_lt hg) (fun e => ?_)
      subst e
      exact absurd (h.one ok hg) (o1 (.inr (.inr k3)))
  split
  · rename_i k4
    unfold Dsk.rename
    split
    · exact h
    split
    · exact h
    split
    · exact h
    split
    · exact h
    · exact h.chg (o2 k4) (o1 (.inr (.inl k4)))
  split
  · rename_i k5
    unfold Dsk.remove
    split
    · exact h
    split
    · exact h
    · exact h.chg (fun e => h.ne e.symm) (o1 (.inl k5))
  split
  · unfold Dsk.dirSync
    split
    · exact h
    split
    · exact h.cnt
    · exact { h.cnt with safe := h.dir, chs := fun c hc => by simp at hc }
  split
  · unfold Dsk.arm
    split
    · exact h
    split
    · exact h
    · exact { h with }
  split
  · exact { h with }
  exact h
end

theorem fallAll_keeps (cuts : List Int) (marks : List (List UInt8)) (T : List UInt8) (n : Nat) : ∀ (L : List (List UInt8 × Nat)) (k : Nat) (fs : List (List UInt8 × List UInt8)), n < fs.length → (T <+: (fs.getD n ([], [])).1 ∧ (fs.getD n ([], [])).1 <+: (fs.getD n ([], [])).2) →
    T <+: ((fallAll cuts marks L k fs).getD n ([], [])).1 ∧ ((fallAll cuts marks L k fs).getD n ([], [])).1 <+: ((fallAll cuts marks L k fs).getD n ([], [])).2
  | [], _, fs, _, h => h
  | p :: r, k, fs, hn, h => by
    unfold fallAll
    simp only
    split
    · exact fallAll_keeps cuts marks T n r k fs hn h
    · refine fallAll_keeps cuts marks T n r (k + 1) _ (by simpa using hn) ?_
      by_cases e : p.2 = n
      · rw [e, List.getD_eq_getElem?_getD, List.getElem?_set_self hn]
        exact ⟨leftL_prefix h.1 h.2 _ _, List.prefix_refl _⟩
      · rw [List.getD_eq_getElem?_getD, List.getElem?_set_ne e, ← List.getD_eq_getElem?_getD]
        exact h
theorem Kept.left {s : List UInt8} {n : Nat} {T : List UInt8} {d : Dsk} (h : Kept s n T d) (k : Int) : dGet s (d.left k) = some n := by
  have : ∀ (cs : List (List UInt8 × List UInt8 × Option Nat)) (l : List (List UInt8 × Nat)), (∀ c ∈ cs, c.1 ≠ s ∧ c.2.1 ≠ s) → dGet s l = some n → dGet s (cs.foldl appC l) = some n := by
    intro cs
    induction cs with
    | nil => intro l _ h; exact h
    | cons c cs ih =>
      intro l hc hl
      rw [List.foldl_cons]
      refine ih _ (fun x hx => hc x (by simp [hx])) ?_
      have := hc c (by simp)
      rw [show appC l c = dApply l c.1 c.2.1 c.2.2 from rfl, dGet_dApply this.1 this.2]; exact hl
  exact this _ _ (fun c hc => h.chs c (List.mem_of_mem_take hc)) h.safe
/-- behind a fall the text begins with what was synced -/
theorem Kept.boot {s : List UInt8} {n : Nat} {T : List UInt8} {d : Dsk} (h : Kept s n T d) (k : Int) (cuts : List Int) (marks : List (List UInt8)) : ∃ x, (d.boot k cuts marks).read s = (x, 0) ∧ T <+: x := by
  have hf := fallAll_keeps cuts marks T n (d.left k) 0 d.files h.lt ⟨h.t1, h.t2⟩
  refine ⟨((d.boot k cuts marks).file n).2, ?_, hf.1.trans hf.2⟩
  unfold Dsk.read
  rw [show (d.boot k cuts marks).dead = false from rfl, show (d.boot k cuts marks).dir = d.left k from rfl, h.left k]
  rfl
/-- acts, one behind the other -/
def Dsk.acts (d : Dsk) (l : List ActD) : Dsk := l.foldl (fun d a => (d.act a).1) d
theorem Dsk.acts_snoc (d : Dsk) (l : List ActD) (a : ActD) : d.acts (l ++ [a]) = ((d.acts l).act a).1 := by unfold Dsk.acts; rw [List.foldl_append]; rfl
theorem Dsk.Ok.acts {d : Dsk} (ok : d.Ok) : ∀ {l : List ActD}, (∀ a ∈ l, a.n ≤ 9223372036854775807) → (d.acts l).Ok := by
  intro l
  induction l generalizing d with
  | nil => intro _; exact ok
  | cons a r ih => intro h; exact ih (ok.act (h a (by simp))) (fun x hx => h x (by simp [hx]))
theorem Kept.acts {s : List UInt8} {n : Nat} {T : List UInt8} : ∀ {l : List ActD} {d : Dsk}, d.Ok → Kept s n T d → (∀ a ∈ l, a.n ≤ 9223372036854775807) → l.any (oursB s) = false → Kept s n T (d.acts l)
  | [], d, _, h, _, _ => h
  | a :: r, d, ok, h, hn, ho => by
    rw [List.any_cons, Bool.or_eq_false_iff] at ho
    exact Kept.acts (l := r) (ok.act (hn a (by simp))) (h.act ok ho.1) (fun x hx => hn x (by simp [hx])) ho.2
end Go.Proofs.YtmjkfgpkohfmiaaGreat
namespace Go.Proofs.YtmjkfgpkohfmiaaGreat
set_option linter.unusedVariables false
set_option linter.unusedSimpArgs false
open Go.RowKit

attribute [local go_sem] S_size S_toList S_append S_extract S_beq S_bne S_empty S_nil

/-- a slice of texts that no call on the disk in K turns -/
def SR (K : List Nat) (w : World) (v : Value) (l : List (List UInt8)) : Prop := RR sC 1 w v l ∧ ∀ p n c, v = .slice (some p) n c → p.block ∉ K ∧ p.block < w.heap.size
theorem SR.rr {K : List Nat} {w : World} {v : Value} {l : List (List UInt8)} (h : SR K w v l) : RR sC 1 w v l := h.1
theorem SR.stp {K K' : List Nat} {w w' : World} {v : Value} {l : List (List UInt8)} (h : SR K w v l) (x : Stp K K' w w') : SR K' w' v l := by
  obtain ⟨⟨a, c, rfl, h0, hn, h2⟩, hb⟩ := h
  refine ⟨⟨a, c, rfl, h0, hn, fun hl => ?_⟩, fun p n c' e => ?_⟩
  · obtain ⟨g, o, rfl, h4⟩ := h2 hl
    have hg := hb _ _ _ rfl
    exact ⟨g, o, rfl, fun k y hk j u hu => by rw [x.1.cell hg.2 hg.1]; exact h4 k y hk j u hu⟩
  · have hg := hb p n c' e
    exact ⟨fun hm => (x.2 _ hm).elim hg.1 (fun h => by omega), Nat.lt_of_lt_of_le hg.2 x.1.size⟩
theorem SW.sr {w : World} {B : Nat} {v : Value} {l : List (List UInt8)} (h : SW w B v l) {K : List Nat} (hK : ∀ k ∈ K, k < B) : SR K w v l := by
  obtain ⟨a, c, rfl, h1, h2⟩ := RW.shape h
  rw [List.length_map] at h1 h2 ⊢
  rcases h.2 with ⟨e, _⟩ | ⟨g, cap, cur, e, hg, hgg, _⟩
  · injection e with e1 e2 e3
    subst e1 e3
    obtain rfl : l = [] := List.eq_nil_of_length_eq_zero (by simpa using h1)
    exact ⟨RR.nil w, fun p n c e => by simp at e⟩
  · injection e with e1 e2 e3
    subst e1 e3
    have hlt : g < w.heap.size := by
      rcases Nat.lt_or_ge g w.heap.size with h | h
      · exact h
      · rw [Array.getElem?_eq_none h] at hgg; cases hgg
    refine ⟨⟨_, _, rfl, h1, fun e => (by cases e), fun hl => ?_⟩, fun p n c e => ?_⟩
    · obtain ⟨g', e', _, _, hc, _⟩ := h2 hl
      refine ⟨g', 0, e', fun k y hk j u hu => ?_⟩
      have hkl : k < l.length := (List.getElem?_eq_some_iff.1 hk).1
      have := hc k hkl
      rw [List.getElem?_map, hk] at this
      match j, hu with
      | 0, hu =>
        injection hu with hu
        subst hu
        simpa using this
    · injection e with e1 e2 e3
      injection e1 with e1
      subst e1
      exact ⟨fun hm => absurd (hK _ hm) (Nat.not_lt.2 hg), hlt⟩
theorem texts_step {l1 l2 : List (List UInt8)} (k : Nat) (h1 : k < l1.length) (h2 : k < l2.length) (hp : l1.take k = l2.take k) (he : l1[k]? = l2[k]?) : l1.take (k + 1) = l2.take (k + 1) := by
  rw [List.take_add_one, List.take_add_one, hp, he]
end Go.Proofs.YtmjkfgpkohfmiaaGreat
namespace Go.Proofs.YtmjkfgpkohfmiaaGreat
set_option linter.unusedVariables false
set_option linter.unusedSimpArgs false
open Go.RowKit

attribute [local go_sem] S_size S_toList S_append S_extract S_beq S_bne S_empty S_nil

theorem ours_step {l : List ActD} {s : List UInt8} {k : Nat} (h0 : ∀ j, j < k → ∀ a, l[j]? = some a → oursB s a = false) {x : ActD} (hx : l[k]? = some x) (h : oursB s x = false) : ∀ j, j < k + 1 → ∀ a, l[j]? = some a → oursB s a = false := by
  intro j hj a ha
  rcases Nat.lt_or_ge j k with h1 | h1
  · exact h0 j h1 a ha
  · obtain rfl : j = k := by omega
    rw [hx] at ha; injection ha with ha; exact ha ▸ h
theorem ours_all {l : List ActD} {s : List UInt8} {k : Nat} (h0 : ∀ j, j < k → ∀ a, l[j]? = some a → oursB s a = false) (hk : l.length ≤ k) : l.any (oursB s) = false := by
  rw [List.any_eq_false]
  intro a ha
  obtain ⟨j, hj, e⟩ := List.getElem_of_mem ha
  rw [h0 j (by omega) a (by rw [List.getElem?_eq_getElem hj, e])]; decide
theorem ours_yes {l : List ActD} {s : List UInt8} {k : Nat} {x : ActD} (hx : l[k]? = some x) (h : oursB s x = true) : l.any (oursB s) = true :=
  List.any_eq_true.2 ⟨x, List.mem_of_getElem? hx, h⟩
end Go.Proofs.YtmjkfgpkohfmiaaGreat
namespace Go.Proofs.YtmjkfgpkohfmiaaGreat
set_option linter.unusedVariables false
set_option linter.unusedSimpArgs false

/-- the files of these names are synced -/
def FirmTo (d : Dsk) (L : List (List UInt8)) : Prop := ∀ s ∈ L, ∀ n, dGet s d.dir = some n → (d.file n).1 = (d.file n).2
theorem sync_dir (d : Dsk) (s : List UInt8) : (d.sync s).1.dir = d.dir := by
  unfold Dsk.sync
  split
  · rfl
  split
  · rfl
  split <;> rfl
theorem sync_ops (d : Dsk) (s : List UInt8) : (d.sync s).1.ops ≤ d.ops + 1 := by
  unfold Dsk.sync
  split
  · show d.ops ≤ _; omega
  split
  · show d.ops ≤ _; omega
  split
  · exact Int.le_refl _
  · exact Int.le_refl _
theorem sync_firm {d : Dsk} (ok : d.Ok) {L : List (List UInt8)} (s : List UInt8) (h : d.dead = true ∨ FirmTo d L) : (d.sync s).1.dead = true ∨ FirmTo (d.sync s).1 (L ++ [s]) := by
  unfold Dsk.sync
  split
  · rename_i h1; exact .inl h1
  · rename_i h1
    have h := h.resolve_left h1
    split
    · rename_i hg
      refine .inr (fun t ht n hn => ?_)
      rcases List.mem_append.1 ht with ht | ht
      · exact h t ht n hn
      · rw [List.mem_singleton] at ht; subst ht; rw [hg] at hn; cases hn
    · rename_i m hg
      split
      · rename_i h2; exact .inl (by simp [Dsk.cnt, h2])
      · refine .inr (fun t ht n hn => ?_)
        have hm : m < d.cnt.files.length := (ok.dirN _ (dGet_mem hg)).2
        have e : ∀ i, (d.cnt.put m ((d.file m).2, (d.file m).2)).file i = if i = m then ((d.file m).2, (d.file m).2) else d.file i := by
          intro i
          unfold Dsk.file Dsk.put
          simp only [List.getD_eq_getElem?_getD]
          by_cases e : i = m
          · subst e; rw [if_pos rfl, List.getElem?_set_self hm]; rfl
          · rw [if_neg e, List.getElem?_set_ne (fun x => e x.symm)]; rfl
        rw [e]
        split
        · rfl
        · rename_i hne
          rcases List.mem_append.1 ht with ht | ht
          · exact h t ht n hn
          · rw [List.mem_singleton] at ht; subst ht
            have hn : dGet t d.dir = some n := hn
            rw [hg] at hn; injection hn with hn; exact absurd hn.symm hne
theorem sync_good {d : Dsk} {s : List UInt8} (hd : d.dead = false) (ha : d.armed = 0) (hs : (dGet s d.dir).isSome = true) : (d.sync s).2 = 0 ∧ (d.sync s).1.dead = false ∧ (d.sync s).1.armed = 0 := by
  obtain ⟨n, hn⟩ := Option.isSome_iff_exists.1 hs
  unfold Dsk.sync
  simp only [hd, hn, ha, Bool.false_eq_true, if_false]
  rw [if_neg (by decide)]
  exact ⟨rfl, by simp [Dsk.put, Dsk.cnt, ha], by show max (d.armed - 1) 0 = 0; omega⟩
theorem dGet_some {s : List UInt8} {l : List (List UInt8 × Nat)} (h : s ∈ l.map (·.1)) : (dGet s l).isSome = true := by
  unfold dGet
  rw [Option.isSome_map, List.isSome_find?, List.any_eq_true]
  obtain ⟨p, hp, e⟩ := List.mem_map.1 h
  exact ⟨p, hp, by simpa using e⟩
theorem dirSync_good {d : Dsk} (hd : d.dead = false) (ha : d.armed ≠ 1) : d.dirSync = ({ d.cnt with safe := d.dir, chs := [] }, 0) := by
  unfold Dsk.dirSync
  rw [if_neg (by simp [hd]), if_neg ha]
theorem dirSync_alive {d : Dsk} (h : d.dirSync.1.dead = false) : d.dead = false ∧ d.armed ≠ 1 := by
  unfold Dsk.dirSync at h
  split at h
  · rename_i h1; rw [h1] at h; cases h
  · rename_i h1
    refine ⟨by simpa using h1, fun e => ?_⟩
    rw [if_pos e] at h
    simp [Dsk.cnt, e] at h
theorem act_ops (d : Dsk) (a : ActD) : (d.act a).1.ops ≤ d.ops + 1 := by
  have h0 : d.ops ≤ d.ops + 1 := by omega
  have h1 : d.cnt.ops ≤ d.ops + 1 := Int.le_refl _
  unfold Dsk.act
  split
  · unfold Dsk.create
    (repeat' split) <;> first | exact h0 | exact h1
  split
  · unfold Dsk.append
    (repeat' split) <;> first | exact h0 | exact h1
  split
  · exact sync_ops d _
  split
  · unfold Dsk.cut
    (repeat' split) <;> first | exact h0 | exact h1
  split
  · unfold Dsk.rename
    (repeat' split) <;> first | exact h0 | exact h1
  split
  · unfold Dsk.remove
    (repeat' split) <;> first | exact h0 | exact h1
  split
  · unfold Dsk.dirSync
    (repeat' split) <;> first | exact h0 | exact h1
  split
  · unfold Dsk.arm
    (repeat' split) <;> first | exact h0 | exact h1
  split
  · exact h0
  split
  · exact h0
  · exact h0
/-- no act but these two turns a disk off -/
theorem act_calm {d : Dsk} (hd : d.dead = false) (ha : d.armed = 0) {a : ActD} (h7 : a.kind ≠ 7) (h8 : a.kind ≠ 8) : (d.act a).1.dead = false ∧ (d.act a).1.armed = 0 := by
  have h1 : d.cnt.dead = false ∧ d.cnt.armed = 0 := ⟨by simp [Dsk.cnt, ha], by show max (d.armed - 1) 0 = 0; omega⟩
  have h0 : d.dead = false ∧ d.armed = 0 := ⟨hd, ha⟩
  unfold Dsk.act
  split
  · unfold Dsk.create
    (repeat' split) <;> first | exact h0 | exact h1
  split
  · unfold Dsk.append
    (repeat' split) <;> first | exact h0 | exact h1
  split
  · unfold Dsk.sync
    (repeat' split) <;> first | exact h0 | exact h1
  split
  · unfold Dsk.cut
    (repeat' split) <;> first | exact h0 | exact h1
  split
  · unfold Dsk.rename
    (repeat' split) <;> first | exact h0 | exact h1
  split
  · unfold Dsk.remove
    (repeat' split) <;> first | exact h0 | exact h1
  split
  · unfold Dsk.dirSync
    (repeat' split) <;> first | exact h0 | exact h1
  split
  · exact ⟨rfl, rfl⟩
  · exact h0

/-- no file falls that is synced -/
theorem fallAll_firm_all (cuts : List Int) (marks : List (List UInt8)) : ∀ (L : List (List UInt8 × Nat)) (k : Nat) (fs : List (List UInt8 × List UInt8)), (∀ p ∈ L, (fs.getD p.2 ([], [])).1 = (fs.getD p.2 ([], [])).2) → fallAll cuts marks L k fs = fs
  | [], _, _, _ => rfl
  | p :: r, k, fs, h => by
    unfold fallAll
    simp only
    rw [if_pos (h p (by simp))]
    exact fallAll_firm_all cuts marks r k fs (fun q hq => h q (by simp [hq]))
/-- behind a sync of all a fall changes nothing -/
theorem boot_whole {d : Dsk} (hs : d.dir.Pairwise (fun p q => p.1 ≠ q.1)) (hf : FirmTo d (d.dir.map (·.1))) (h1 : d.safe = d.dir) (h2 : d.chs = []) (k : Int) (cuts : List Int) (marks : List (List UInt8)) : d.off.boot k cuts marks = { d with dead := false, armed := 0 } := by
  have hl : d.off.left k = d.dir := by
    unfold Dsk.left
    rw [show d.off.chs = [] from h2, show d.off.safe = d.dir from h1]
    simp
  unfold Dsk.boot
  rw [hl, show d.off.files = d.files from rfl, fallAll_firm_all cuts marks d.dir 0 d.files (fun p hp => hf p.1 (List.mem_map.2 ⟨p, hp, rfl⟩) p.2 (dGet_eq hs hp))]
  obtain ⟨a1, a2, a3, a4, a5, a6, a7, a8⟩ := d
  simp only at h1 h2
  subst h1 h2
  rfl

/-- how much is used -/
def sumL (g : Nat → Int) (l : List (List UInt8 × Nat)) : Int := (l.map fun p => g p.2).sum
theorem sumL_cons (g : Nat → Int) (p : List UInt8 × Nat) (l : List (List UInt8 × Nat)) : sumL g (p :: l) = g p.2 + sumL g l := by simp [sumL]
theorem sumL_del {g : Nat → Int} (h : ∀ n, 0 ≤ g n) (s : List UInt8) : ∀ l, sumL g (dDel s l) ≤ sumL g l
  | [] => Int.le_refl _
  | p :: r => by
    have ih := sumL_del h s r
    unfold dDel at ih ⊢
    rw [List.filter_cons]
    split
    · rw [sumL_cons, sumL_cons]; omega
    · rw [sumL_cons]; have := h p.2; omega
theorem sumL_del_mem {g : Nat → Int} (h : ∀ n, 0 ≤ g n) {s : List UInt8} {n : Nat} : ∀ {l : List (List UInt8 × Nat)}, (s, n) ∈ l → g n + sumL g (dDel s l) ≤ sumL g l
  | p :: r, hm => by
    rcases List.mem_cons.1 hm with e | hm
    · subst e
      have := sumL_del h s r
      unfold dDel at this ⊢
      rw [List.filter_cons, sumL_cons]
      simp only [beq_self_eq_true, Bool.not_true, Bool.false_eq_true, if_false]
      omega
    · have ih := sumL_del_mem h hm
      unfold dDel at ih ⊢
      rw [List.filter_cons]
      split
      · rw [sumL_cons, sumL_cons]; omega
      · rw [sumL_cons]; have := h p.2; omega
theorem sumL_ins (g : Nat → Int) (x : List UInt8 × Nat) : ∀ l, sumL g (dIns x l) = g x.2 + sumL g l
  | [] => by simp [dIns, sumL]
  | y :: r => by
    unfold dIns
    split
    · rw [sumL_cons]
    · rw [sumL_cons, sumL_ins g x r, sumL_cons]; omega
theorem sumL_le {g g' : Nat → Int} : ∀ {l : List (List UInt8 × Nat)}, (∀ p ∈ l, g' p.2 ≤ g p.2) → sumL g' l ≤ sumL g l
  | [], _ => Int.le_refl _
  | p :: r, h => by
    have := sumL_le (l := r) (fun q hq => h q (by simp [hq]))
    have := h p (by simp)
    rw [sumL_cons, sumL_cons]; omega
theorem sumL_one {g g' : Nat → Int} {n : Nat} (hg : ∀ i, i ≠ n → g' i = g i) (hx : g n ≤ g' n) : ∀ {l : List (List UInt8 × Nat)}, Once l → sumL g' l ≤ sumL g l + (g' n - g n)
  | [], _ => by simp [sumL]; omega
  | p :: r, h => by
    unfold Once at h
    rw [List.map_cons, List.nodup_cons] at h
    rw [sumL_cons, sumL_cons]
    by_cases e : p.2 = n
    · have := sumL_le (l := r) (g := g) (g' := g') (fun q hq => by
        rw [hg q.2 (fun x => h.1 (List.mem_map.2 ⟨q, hq, by rw [x, e]⟩))]; exact Int.le_refl _)
      rw [e]; omega
    · have := sumL_one hg hx (l := r) h.2
      rw [hg _ e]; omega
def Dsk.len (d : Dsk) (n : Nat) : Int := ((d.file n).2.length : Int)
theorem used_sumL (d : Dsk) : d.used = sumL d.len d.dir := rfl
theorem len_pos (d : Dsk) (n : Nat) : 0 ≤ d.len n := by unfold Dsk.len; omega
theorem len_put (d : Dsk) {m : Nat} (hm : m < d.files.length) (f : List UInt8 × List UInt8) (i : Nat) : (d.put m f).len i = if i = m then (f.2.length : Int) else d.len i := by
  unfold Dsk.len Dsk.file Dsk.put
  simp only [List.getD_eq_getElem?_getD]
  by_cases e : i = m
  · subst e; rw [if_pos rfl, List.getElem?_set_self hm]; rfl
  · rw [if_neg e, List.getElem?_set_ne (fun x => e x.symm)]
theorem used_act {d : Dsk} (ok : d.Ok) (h : d.used ≤ d.cap) {a : ActD} (h9 : a.kind ≠ 9) : (d.act a).1.used ≤ (d.act a).1.cap ∧ (d.act a).1.cap = d.cap := by
  have h0 : d.used ≤ d.cap ∧ d.cap = d.cap := ⟨h, rfl⟩
  have h1 : d.cnt.used ≤ d.cnt.cap ∧ d.cnt.cap = d.cap := ⟨h, rfl⟩
  unfold Dsk.act
  split
  · unfold Dsk.create
    split
    · exact h0
    split
    · exact h0
    split
    · exact h0
    split
    · exact h0
    · refine ⟨?_, rfl⟩
      have hm : ∀ p ∈ d.dir, p.2 < d.files.length := fun p hp => (ok.dirN p hp).2
      have e1 : sumL d.more.len (dDel a.s d.dir) ≤ sumL d.len (dDel a.s d.dir) := sumL_le (fun p hp => by
        unfold Dsk.len; rw [file_more d (hm p (List.mem_filter.1 hp).1)]; exact Int.le_refl _)
      have e2 := sumL_del (len_pos d) a.s d.dir
      have e3 : (d.more.chg (a.s, [], some d.files.length)).used = d.more.len d.files.length + sumL d.more.len (dDel a.s d.dir) := by
        show sumL d.more.len (dIns (a.s, d.files.length) (dDel a.s d.dir)) = _
        rw [sumL_ins]
      have e4 : d.more.len d.files.length = 0 := by unfold Dsk.len; rw [file_new]; rfl
      show (d.more.chg (a.s, [], some d.files.length)).used ≤ d.cap
      rw [used_sumL] at h
      omega
  split
  · unfold Dsk.append
    split
    · exact h0
    split
    · exact h0
    split
    · exact h0
    split
    · exact h0
    · rename_i m hg g3 g4
      refine ⟨?_, rfl⟩
      have hm : m < d.cnt.files.length := (ok.dirN _ (dGet_mem hg)).2
      have g3 := Decidable.not_not.1 g3
      have hf : (fappend (d.file m) a.t).1.2 = (d.file m).2 ++ a.t := by
        unfold fappend at g3 ⊢
        split at g3
        · exact absurd g3 (by decide)
        · rename_i g5; rw [if_neg g5]
      have e := sumL_one (g := d.len) (g' := (d.cnt.put m (fappend (d.file m) a.t).1).len) (n := m) (fun i hi => by rw [len_put _ hm, if_neg hi]; rfl) (by
        rw [len_put _ hm, if_pos rfl, hf]
        unfold Dsk.len
        rw [List.length_append]; omega) ok.chain.last
      rw [len_put _ hm, if_pos rfl, hf, List.length_append] at e
      unfold Dsk.len at e
      show sumL (d.cnt.put m (fappend (d.file m) a.t).1).len d.dir ≤ d.cap
      unfold Dsk.len
      rw [used_sumL] at g4
      unfold Dsk.len at g4
      omega
  split
  · unfold Dsk.sync
    split
    · exact h0
    split
    · exact h0
    split
    · exact h1
    · rename_i m hg g3
      refine ⟨?_, rfl⟩
      have hm : m < d.cnt.files.length := (ok.dirN _ (dGet_mem hg)).2
      refine Int.le_trans (show sumL (d.cnt.put m ((d.file m).2, (d.file m).2)).len d.dir ≤ sumL d.len d.dir from sumL_le (fun p hp => ?_)) h
      rw [len_put _ hm]
      split
      · rename_i e; rw [e]; exact Int.le_refl _
      · exact Int.le_refl _
  split
  · unfold Dsk.cut
    split
    · exact h0
    split
    · exact h0
    split
    · exact h0
    · rename_i m hg g3
      refine ⟨?_, rfl⟩
      have hm : m < d.cnt.files.length := (ok.dirN _ (dGet_mem hg)).2
      refine Int.le_trans (show sumL (d.cnt.put m (fcut (d.file m) a.n).1).len d.dir ≤ sumL d.len d.dir from sumL_le (fun p hp => ?_)) h
      rw [len_put _ hm]
      split
      · rename_i e; rw [e]
        unfold Dsk.len fcut
        split
        · simp
        · simp only [List.length_take]; omega
      · exact Int.le_refl _
  split
  · unfold Dsk.rename
    split
    · exact h0
    split
    · exact h0
    split
    · exact h0
    split
    · exact h0
    · rename_i m hg g3 g4
      refine ⟨?_, rfl⟩
      have hm := dGet_mem hg
      have hne : a.s ≠ [] := fun e => by have := (chk_len (ok.dirN _ hm).1).1; simp only at this; rw [e] at this; simp at this
      have e1 := sumL_del_mem (len_pos d) hm
      have e2 := sumL_del (len_pos d) a.t (dDel a.s d.dir)
      have e3 : (d.chg (a.t, a.s, some m)).used = d.len m + sumL d.len (dDel a.t (dDel a.s d.dir)) := by
        show sumL d.len (dPut a.t m (if a.s = [] then d.dir else dDel a.s d.dir)) = _
        rw [if_neg hne]
        unfold dPut
        rw [sumL_ins]
      show (d.chg (a.t, a.s, some m)).used ≤ d.cap
      rw [used_sumL] at h
      omega
  split
  · unfold Dsk.remove
    split
    · exact h0
    split
    · exact h0
    · refine ⟨?_, rfl⟩
      refine Int.le_trans ?_ h
      show sumL d.len (if a.s = [] then d.dir else dDel a.s d.dir) ≤ sumL d.len d.dir
      split
      · exact Int.le_refl _
      · exact sumL_del (len_pos d) a.s d.dir
  split
  · unfold Dsk.dirSync
    (repeat' split) <;> first | exact h0 | exact h1
  split
  · unfold Dsk.arm
    (repeat' split) <;> first | exact h0 | exact h1
  split
  · exact h0
  · exact h0
end Go.Proofs.YtmjkfgpkohfmiaaGreat
namespace Go.Proofs.YtmjkfgpkohfmiaaGreat
set_option linter.unusedVariables false
set_option linter.unusedSimpArgs false
set_option linter.unusedSectionVars false
open Go.RowKit

attribute [local go_sem] S_size S_toList S_append S_extract S_beq S_bne S_empty S_nil

/-- the disk d lies in just the blocks K -/
def Has (w : World) (b : Nat) (K : List Nat) (d : Dsk) : Prop := d.Ok ∧ ∃ fb mn ms cv, MemD w b d fb mn ms cv ∧ owns b mn ms cv fb = K
theorem Has.ok {w : World} {b : Nat} {K : List Nat} {d : Dsk} (h : Has w b K d) : d.Ok := h.1
theorem Has.lt {w : World} {b : Nat} {K : List Nat} {d : Dsk} (h : Has w b K d) : ∀ k ∈ K, k < w.heap.size := by
  obtain ⟨_, fb, mn, ms, cv, m, rfl⟩ := h
  exact m.lt
theorem Has.ext {w w' : World} {b : Nat} {K : List Nat} {d : Dsk} (h : Has w b K d) (x : Ext w w') : Has w' b K d := by
  obtain ⟨ok, fb, mn, ms, cv, m, hK⟩ := h
  exact ⟨ok, fb, mn, ms, cv, m.ext x, hK⟩
theorem Has.names {w : World} {b : Nat} {K : List Nat} {d : Dsk} (h : Has w b K d) : d.dir.Pairwise (fun p q => p.1 ≠ q.1) := by
  obtain ⟨_, fb, mn, ms, cv, m, _⟩ := h
  have := m.now.canon
  unfold blks at this
  rw [List.pairwise_map] at this
  exact this.imp (fun h => before_neq h)
theorem OpR.own {w w' : World} {b : Nat} {d' : Dsk} {fb : List Nat} {mn ms : Nat} {cv : Value} (h : OpR w b d' fb mn ms cv w') (ok : d'.Ok) : ∃ K', Has w' b K' d' ∧ Stp (owns b mn ms cv fb) K' w w' := by
  obtain ⟨h1, fb', mn', ms', cv', m, h2⟩ := h
  exact ⟨_, ⟨ok, fb', mn', ms', cv', m, rfl⟩, h1, h2⟩
theorem Stp.trans {K K' K'' : List Nat} {w w' w'' : World} (h : Stp K K' w w') (k : Stp K' K'' w' w'') : Stp K K'' w w'' := by
  refine ⟨⟨k.1.os.trans h.1.os, k.1.tape.trans h.1.tape, k.1.output.trans h.1.output, Nat.le_trans h.1.size k.1.size, fun i h1 h2 => ?_⟩, fun i hi => ?_⟩
  · refine (k.1.block i (Nat.lt_of_lt_of_le h1 h.1.size) (fun hm => ?_)).trans (h.1.block i h1 h2)
    rcases h.2 i hm with h3 | h3
    · exact h2 h3
    · omega
  · rcases k.2 i hi with h3 | h3
    · exact h.2 i h3
    · exact .inr (Nat.le_trans h.1.size h3)
theorem Stp.then {K K' : List Nat} {w w' w'' : World} (h : Stp K K' w w') (x : Ext w' w'') : Stp K K' w w'' := h.trans (Stp.of_ext x)
theorem Stp.ext {K : List Nat} {w w' : World} (h : Stp [] K w w') : Ext w w' := ⟨h.1.os, h.1.tape, h.1.output, h.1.size, fun k hk => h.1.block k hk (by simp)⟩
section

variable {w : World} {b : Nat} {K : List Nat} {d : Dsk} (h : Has w b K d) (hop : d.ops ≤ 1000000)

include h hop

theorem has_do {a : ActD} (ha : ActW w a) : Calls Tryz.prog 16 #[.pointer (some ⟨b, 0, none⟩), .agg (actC a).toArray] w fun e w' => e = .returned (.int .i64 (d.act a).2) ∧ ∃ K', Has w' b K' (d.act a).1 ∧ Stp K K' w w' := by
  obtain ⟨ok, fb, mn, ms, cv, m, rfl⟩ := h
  exact (do_mem m ok hop ha).mono (fun _ w' ⟨h1, h2⟩ => ⟨h1, h2.own (ok.act ha.n1)⟩)
theorem has_sync (s : List UInt8) (hs : s.length ≤ maxLen) : Calls Tryz.prog 19 #[.pointer (some ⟨b, 0, none⟩), .string (S s)] w fun e w' => e = .returned (.int .i64 (d.sync s).2) ∧ ∃ K', Has w' b K' (d.sync s).1 ∧ Stp K K' w w' := by
  obtain ⟨ok, fb, mn, ms, cv, m, rfl⟩ := h
  exact (sync_any m ok (by omega) s hs).mono (fun _ w' ⟨h1, h2⟩ => ⟨h1, h2.own (ok.sync s)⟩)
theorem has_dirSync : Calls Tryz.prog 32 #[.pointer (some ⟨b, 0, none⟩)] w fun e w' => e = .returned (.int .i64 d.dirSync.2) ∧ ∃ K', Has w' b K' d.dirSync.1 ∧ Stp K K' w w' := by
  obtain ⟨ok, fb, mn, ms, cv, m, rfl⟩ := h
  exact (dirSync_any m ok (by omega)).mono (fun _ w' ⟨h1, h2⟩ => ⟨h1, h2.own ok.dirSync⟩)
theorem has_off : Calls Tryz.prog 12 #[.pointer (some ⟨b, 0, none⟩)] w fun e w' => e = .returned (.int .i64 0) ∧ ∃ K', Has w' b K' d.off ∧ Stp K K' w w' := by
  obtain ⟨ok, fb, mn, ms, cv, m, rfl⟩ := h
  exact (off_any m).mono (fun _ w' ⟨h1, h2⟩ => ⟨h1, h2.own ok.off⟩)
theorem has_boot (k : Int) {vc vm : Value} {cuts : List Int} {marks : List (List UInt8)} (hc : RR iC 1 w vc cuts) (hm : RR sC 1 w vm marks) (hcl : (cuts.length : Int) ≤ 9223372036854775807) (hml : (marks.length : Int) ≤ 9223372036854775807) (hmk : ∀ s ∈ marks, (s.length : Int) ≤ 9223372036854775807) :
    Calls Tryz.prog 13 #[.pointer (some ⟨b, 0, none⟩), .agg #[.int .i64 k, vc, vm]] w fun e w' => e = .returned (.int .i64 0) ∧ ∃ K', Has w' b K' (d.boot k cuts marks) ∧ Stp K K' w w' := by
  obtain ⟨ok, fb, mn, ms, cv, m, rfl⟩ := h
  exact (boot_any m ok hop k hc hm hcl hml hmk).mono (fun _ w' ⟨h1, h2⟩ => ⟨h1, h2.own (ok.boot k cuts marks)⟩)
theorem has_read (s : List UInt8) (hs : s.length ≤ maxLen) : Calls Tryz.prog 18 #[.pointer (some ⟨b, 0, none⟩), .string (S s)] w fun e w' => e = .returned (.tuple #[.string (S (d.read s).1), .int .i64 (d.read s).2]) ∧ w = w' := by
  obtain ⟨ok, fb, mn, ms, cv, m, rfl⟩ := h
  exact read_any m ok s hs
theorem has_list : Calls Tryz.prog 17 #[.pointer (some ⟨b, 0, none⟩)] w fun e w' => ∃ v, e = .returned v ∧ SW w' w.heap.size v d.list ∧ Ext w w' := by
  obtain ⟨ok, fb, mn, ms, cv, m, rfl⟩ := h
  exact (list_any m ok hop).mono (fun _ w' ⟨v, h1, h2, h3, h4⟩ => ⟨v, h1, h2, h4⟩)
end

theorem has_new (cap : Int) (w : World) (h1 : 0 ≤ cap) (h2 : cap ≤ 10000000) : Calls Tryz.prog 7 #[.int .i64 cap] w fun e w' => ∃ b, e = .returned (.tuple #[.pointer (some ⟨b, 0, none⟩), .int .i64 0]) ∧ ∃ K, Has w' b K (Dsk.new cap) ∧ Stp [] K w w' :=
  (new_any cap w h1 h2).mono (fun _ w' ⟨b, e1, e2, mn, ms, m, hk⟩ => ⟨b, e1, _, ⟨Dsk.Ok.new h1 h2, [], mn, ms, _, m, rfl⟩, But.of_ext e2, fun k hm => .inr (hk k hm)⟩)

theorem list_short {d : Dsk} (ok : d.Ok) (hop : d.ops ≤ 1000000) : d.list.length ≤ 1000000 := by
  have := ok.dirL
  unfold Dsk.list
  split
  · simp
  · rw [List.length_map]; omega
theorem list_len {d : Dsk} (ok : d.Ok) : ∀ s ∈ d.list, s.length ≤ 64 ∧ s ≠ [] := by
  intro s hs
  unfold Dsk.list at hs
  split at hs
  · simp at hs
  · obtain ⟨p, hp, rfl⟩ := List.mem_map.1 hs
    have := chk_len (ok.dirN p hp).1
    exact ⟨this.2, fun e => by rw [e] at this; simp at this⟩
def texts (d : Dsk) (l : List (List UInt8)) : List (List UInt8) := l.map fun s => (d.read s).1
theorem read_len {d : Dsk} (ok : d.Ok) (s : List UInt8) : (d.read s).1.length ≤ 1000000 := by
  unfold Dsk.read
  split
  · simp
  · split
    · simp
    · exact (file_big ok _).2
end Go.Proofs.YtmjkfgpkohfmiaaGreat
