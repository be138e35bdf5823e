/- Disks: what is synced stays; how much is used; plainly. -/
import Derived.Test.YtfipfljiohdlhaaGreatDmA
namespace Go.Proofs.YtfipfljiohdlhaaGreat
set_option linter.unusedVariables false
set_option linter.unusedSimpArgs false

/-- the files of these names are synced -/
def FirmTo (d : Dsk) (L : List (List UInt8)) : Prop := ∀ s ∈ L, ∀ n, dGet s d.dir = some n → (d.file n).1 = (d.file n).2
theorem sync_dir (d : Dsk) (s : List UInt8) : (d.sync s).1.dir = d.dir := by
  unfold Dsk.sync
  split
  · rfl
  split
  · rfl
  split <;> rfl
theorem sync_ops (d : Dsk) (s : List UInt8) : (d.sync s).1.ops ≤ d.ops + 1 := by
  unfold Dsk.sync
  split
  · show d.ops ≤ _; omega
  split
  · show d.ops ≤ _; omega
  split
  · exact Int.le_refl _
  · exact Int.le_refl _
theorem sync_firm {d : Dsk} (ok : d.Ok) {L : List (List UInt8)} (s : List UInt8) (h : d.dead = true ∨ FirmTo d L) : (d.sync s).1.dead = true ∨ FirmTo (d.sync s).1 (L ++ [s]) := by
  unfold Dsk.sync
  split
  · rename_i h1; exact .inl h1
  · rename_i h1
    have h := h.resolve_left h1
    split
    · rename_i hg
      refine .inr (fun t ht n hn => ?_)
      rcases List.mem_append.1 ht with ht | ht
      · exact h t ht n hn
      · rw [List.mem_singleton] at ht; subst ht; rw [hg] at hn; cases hn
    · rename_i m hg
      split
      · rename_i h2; exact .inl (by simp [Dsk.cnt, h2])
      · refine .inr (fun t ht n hn => ?_)
        have hm : m < d.cnt.files.length := (ok.dirN _ (dGet_mem hg)).2
        have e : ∀ i, (d.cnt.put m ((d.file m).2, (d.file m).2)).file i = if i = m then ((d.file m).2, (d.file m).2) else d.file i := by
          intro i
          unfold Dsk.file Dsk.put
          simp only [List.getD_eq_getElem?_getD]
          by_cases e : i = m
          · subst e; rw [if_pos rfl, List.getElem?_set_self hm]; rfl
          · rw [if_neg e, List.getElem?_set_ne (fun x => e x.symm)]; rfl
        rw [e]
        split
        · rfl
        · rename_i hne
          rcases List.mem_append.1 ht with ht | ht
          · exact h t ht n hn
          · rw [List.mem_singleton] at ht; subst ht
            have hn : dGet t d.dir = some n := hn
            rw [hg] at hn; injection hn with hn; exact absurd hn.symm hne
theorem sync_good {d : Dsk} {s : List UInt8} (hd : d.dead = false) (ha : d.armed = 0) (hs : (dGet s d.dir).isSome = true) : (d.sync s).2 = 0 ∧ (d.sync s).1.dead = false ∧ (d.sync s).1.armed = 0 := by
  obtain ⟨n, hn⟩ := Option.isSome_iff_exists.1 hs
  unfold Dsk.sync
  simp only [hd, hn, ha, Bool.false_eq_true, if_false]
  rw [if_neg (by decide)]
  exact ⟨rfl, by simp [Dsk.put, Dsk.cnt, ha], by show max (d.armed - 1) 0 = 0; omega⟩
theorem dGet_some {s : List UInt8} {l : List (List UInt8 × Nat)} (h : s ∈ l.map (·.1)) : (dGet s l).isSome = true := by
  unfold dGet
  rw [Option.isSome_map, List.isSome_find?, List.any_eq_true]
  obtain ⟨p, hp, e⟩ := List.mem_map.1 h
  exact ⟨p, hp, by simpa using e⟩
theorem dirSync_good {d : Dsk} (hd : d.dead = false) (ha : d.armed ≠ 1) : d.dirSync = ({ d.cnt with safe := d.dir, chs := [] }, 0) := by
  unfold Dsk.dirSync
  rw [if_neg (by simp [hd]), if_neg ha]
theorem dirSync_alive {d : Dsk} (h : d.dirSync.1.dead = false) : d.dead = false ∧ d.armed ≠ 1 := by
  unfold Dsk.dirSync at h
  split at h
  · rename_i h1; rw [h1] at h; cases h
  · rename_i h1
    refine ⟨by simpa using h1, fun e => ?_⟩
    rw [if_pos e] at h
    simp [Dsk.cnt, e] at h
theorem act_ops (d : Dsk) (a : ActD) : (d.act a).1.ops ≤ d.ops + 1 := by
  have h0 : d.ops ≤ d.ops + 1 := by omega
  have h1 : d.cnt.ops ≤ d.ops + 1 := Int.le_refl _
  unfold Dsk.act
  split
  · unfold Dsk.create
    (repeat' split) <;> first | exact h0 | exact h1
  split
  · unfold Dsk.append
    (repeat' split) <;> first | exact h0 | exact h1
  split
  · exact sync_ops d _
  split
  · unfold Dsk.cut
    (repeat' split) <;> first | exact h0 | exact h1
  split
  · unfold Dsk.rename
    (repeat' split) <;> first | exact h0 | exact h1
  split
  · unfold Dsk.remove
    (repeat' split) <;> first | exact h0 | exact h1
  split
  · unfold Dsk.dirSync
    (repeat' split) <;> first | exact h0 | exact h1
  split
  · unfold Dsk.arm
    (repeat' split) <;> first | exact h0 | exact h1
  split
  · exact h0
  split
  · exact h0
  · exact h0
/-- no act but these two turns a disk off -/
theorem act_calm {d : Dsk} (hd : d.dead = false) (ha : d.armed = 0) {a : ActD} (h7 : a.kind ≠ 7) (h8 : a.kind ≠ 8) : (d.act a).1.dead = false ∧ (d.act a).1.armed = 0 := by
  have h1 : d.cnt.dead = false ∧ d.cnt.armed = 0 := ⟨by simp [Dsk.cnt, ha], by show max (d.armed - 1) 0 = 0; omega⟩
  have h0 : d.dead = false ∧ d.armed = 0 := ⟨hd, ha⟩
  unfold Dsk.act
  split
  · unfold Dsk.create
    (repeat' split) <;> first | exact h0 | exact h1
  split
  · unfold Dsk.append
    (repeat' split) <;> first | exact h0 | exact h1
  split
  · unfold Dsk.sync
    (repeat' split) <;> first | exact h0 | exact h1
  split
  · unfold Dsk.cut
    (repeat' split) <;> first | exact h0 | exact h1
  split
  · unfold Dsk.rename
    (repeat' split) <;> first | exact h0 | exact h1
  split
  · unfold Dsk.remove
    (repeat' split) <;> first | exact h0 | exact h1
  split
  · unfold Dsk.dirSync
    (repeat' split) <;> first | exact h0 | exact h1
  split
  · exact ⟨rfl, rfl⟩
  · exact h0

/-- no file falls that is synced -/
theorem fallAll_firm_all (cuts : List Int) (marks : List (List UInt8)) : ∀ (L : List (List UInt8 × Nat)) (k : Nat) (fs : List (List UInt8 × List UInt8)), (∀ p ∈ L, (fs.getD p.2 ([], [])).1 = (fs.getD p.2 ([], [])).2) → fallAll cuts marks L k fs = fs
  | [], _, _, _ => rfl
  | p :: r, k, fs, h => by
    unfold fallAll
    simp only
    rw [if_pos (h p (by simp))]
    exact fallAll_firm_all cuts marks r k fs (fun q hq => h q (by simp [hq]))
/-- behind a sync of all a fall changes nothing -/
theorem boot_whole {d : Dsk} (hs : d.dir.Pairwise (fun p q => p.1 ≠ q.1)) (hf : FirmTo d (d.dir.map (·.1))) (h1 : d.safe = d.dir) (h2 : d.chs = []) (k : Int) (cuts : List Int) (marks : List (List UInt8)) : d.off.boot k cuts marks = { d with dead := false, armed := 0 } := by
  have hl : d.off.left k = d.dir := by
    unfold Dsk.left
    rw [show d.off.chs = [] from h2, show d.off.safe = d.dir from h1]
    simp
  unfold Dsk.boot
  rw [hl, show d.off.files = d.files from rfl, fallAll_firm_all cuts marks d.dir 0 d.files (fun p hp => hf p.1 (List.mem_map.2 ⟨p, hp, rfl⟩) p.2 (dGet_eq hs hp))]
  obtain ⟨a1, a2, a3, a4, a5, a6, a7, a8⟩ := d
  simp only at h1 h2
  subst h1 h2
  rfl

/-- how much is used -/
def sumL (g : Nat → Int) (l : List (List UInt8 × Nat)) : Int := (l.map fun p => g p.2).sum
theorem sumL_cons (g : Nat → Int) (p : List UInt8 × Nat) (l : List (List UInt8 × Nat)) : sumL g (p :: l) = g p.2 + sumL g l := by simp [sumL]
theorem sumL_del {g : Nat → Int} (h : ∀ n, 0 ≤ g n) (s : List UInt8) : ∀ l, sumL g (dDel s l) ≤ sumL g l
  | [] => Int.le_refl _
  | p :: r => by
    have ih := sumL_del h s r
    unfold dDel at ih ⊢
    rw [List.filter_cons]
    split
    · rw [sumL_cons, sumL_cons]; omega
    · rw [sumL_cons]; have := h p.2; omega
theorem sumL_del_mem {g : Nat → Int} (h : ∀ n, 0 ≤ g n) {s : List UInt8} {n : Nat} : ∀ {l : List (List UInt8 × Nat)}, (s, n) ∈ l → g n + sumL g (dDel s l) ≤ sumL g l
  | p :: r, hm => by
    rcases List.mem_cons.1 hm with e | hm
    · subst e
      have := sumL_del h s r
      unfold dDel at this ⊢
      rw [List.filter_cons, sumL_cons]
      simp only [beq_self_eq_true, Bool.not_true, Bool.false_eq_true, if_false]
      omega
    · have ih := sumL_del_mem h hm
      unfold dDel at ih ⊢
      rw [List.filter_cons]
      split
      · rw [sumL_cons, sumL_cons]; omega
      · rw [sumL_cons]; have := h p.2; omega
theorem sumL_ins (g : Nat → Int) (x : List UInt8 × Nat) : ∀ l, sumL g (dIns x l) = g x.2 + sumL g l
  | [] => by simp [dIns, sumL]
  | y :: r => by
    unfold dIns
    split
    · rw [sumL_cons]
    · rw [sumL_cons, sumL_ins g x r, sumL_cons]; omega
theorem sumL_le {g g' : Nat → Int} : ∀ {l : List (List UInt8 × Nat)}, (∀ p ∈ l, g' p.2 ≤ g p.2) → sumL g' l ≤ sumL g l
  | [], _ => Int.le_refl _
  | p :: r, h => by
    have := sumL_le (l := r) (fun q hq => h q (by simp [hq]))
    have := h p (by simp)
    rw [sumL_cons, sumL_cons]; omega
theorem sumL_one {g g' : Nat → Int} {n : Nat} (hg : ∀ i, i ≠ n → g' i = g i) (hx : g n ≤ g' n) : ∀ {l : List (List UInt8 × Nat)}, Once l → sumL g' l ≤ sumL g l + (g' n - g n)
  | [], _ => by simp [sumL]; omega
  | p :: r, h => by
    unfold Once at h
    rw [List.map_cons, List.nodup_cons] at h
    rw [sumL_cons, sumL_cons]
    by_cases e : p.2 = n
    · have := sumL_le (l := r) (g := g) (g' := g') (fun q hq => by
        rw [hg q.2 (fun x => h.1 (List.mem_map.2 ⟨q, hq, by rw [x, e]⟩))]; exact Int.le_refl _)
      rw [e]; omega
    · have := sumL_one hg hx (l := r) h.2
      rw [hg _ e]; omega
def Dsk.len (d : Dsk) (n : Nat) : Int := ((d.file n).2.length : Int)
theorem used_sumL (d : Dsk) : d.used = sumL d.len d.dir := rfl
theorem len_pos (d : Dsk) (n : Nat) : 0 ≤ d.len n := by unfold Dsk.len; omega
theorem len_put (d : Dsk) {m : Nat} (hm : m < d.files.length) (f : List UInt8 × List UInt8) (i : Nat) : (d.put m f).len i = if i = m then (f.2.length : Int) else d.len i := by
  unfold Dsk.len Dsk.file Dsk.put
  simp only [List.getD_eq_getElem?_getD]
  by_cases e : i = m
  · subst e; rw [if_pos rfl, List.getElem?_set_self hm]; rfl
  · rw [if_neg e, List.getElem?_set_ne (fun x => e x.symm)]
theorem used_act {d : Dsk} (ok : d.Ok) (h : d.used ≤ d.cap) {a : ActD} (h9 : a.kind ≠ 9) : (d.act a).1.used ≤ (d.act a).1.cap ∧ (d.act a).1.cap = d.cap := by
  have h0 : d.used ≤ d.cap ∧ d.cap = d.cap := ⟨h, rfl⟩
  have h1 : d.cnt.used ≤ d.cnt.cap ∧ d.cnt.cap = d.cap := ⟨h, rfl⟩
  unfold Dsk.act
  split
  · unfold Dsk.create
    split
    · exact h0
    split
    · exact h0
    split
    · exact h0
    split
    · exact h0
    · refine ⟨?_, rfl⟩
      have hm : ∀ p ∈ d.dir, p.2 < d.files.length := fun p hp => (ok.dirN p hp).2
      have e1 : sumL d.more.len (dDel a.s d.dir) ≤ sumL d.len (dDel a.s d.dir) := sumL_le (fun p hp => by
        unfold Dsk.len; rw [file_more d (hm p (List.mem_filter.1 hp).1)]; exact Int.le_refl _)
      have e2 := sumL_del (len_pos d) a.s d.dir
      have e3 : (d.more.chg (a.s, [], some d.files.length)).used = d.more.len d.files.length + sumL d.more.len (dDel a.s d.dir) := by
        show sumL d.more.len (dIns (a.s, d.files.length) (dDel a.s d.dir)) = _
        rw [sumL_ins]
      have e4 : d.more.len d.files.length = 0 := by unfold Dsk.len; rw [file_new]; rfl
      show (d.more.chg (a.s, [], some d.files.length)).used ≤ d.cap
      rw [used_sumL] at h
      omega
  split
  · unfold Dsk.append
    split
    · exact h0
    split
    · exact h0
    split
    · exact h0
    split
    · exact h0
    · rename_i m hg g3 g4
      refine ⟨?_, rfl⟩
      have hm : m < d.cnt.files.length := (ok.dirN _ (dGet_mem hg)).2
      have g3 := Decidable.not_not.1 g3
      have hf : (fappend (d.file m) a.t).1.2 = (d.file m).2 ++ a.t := by
        unfold fappend at g3 ⊢
        split at g3
        · exact absurd g3 (by decide)
        · rename_i g5; rw [if_neg g5]
      have e := sumL_one (g := d.len) (g' := (d.cnt.put m (fappend (d.file m) a.t).1).len) (n := m) (fun i hi => by rw [len_put _ hm, if_neg hi]; rfl) (by
        rw [len_put _ hm, if_pos rfl, hf]
        unfold Dsk.len
        rw [List.length_append]; omega) ok.chain.last
      rw [len_put _ hm, if_pos rfl, hf, List.length_append] at e
      unfold Dsk.len at e
      show sumL (d.cnt.put m (fappend (d.file m) a.t).1).len d.dir ≤ d.cap
      unfold Dsk.len
      rw [used_sumL] at g4
      unfold Dsk.len at g4
      omega
  split
  · unfold Dsk.sync
    split
    · exact h0
    split
    · exact h0
    split
    · exact h1
    · rename_i m hg g3
      refine ⟨?_, rfl⟩
      have hm : m < d.cnt.files.length := (ok.dirN _ (dGet_mem hg)).2
      refine Int.le_trans (show sumL (d.cnt.put m ((d.file m).2, (d.file m).2)).len d.dir ≤ sumL d.len d.dir from sumL_le (fun p hp => ?_)) h
      rw [len_put _ hm]
      split
      · rename_i e; rw [e]; exact Int.le_refl _
      · exact Int.le_refl _
  split
  · unfold Dsk.cut
    split
    · exact h0
    split
    · exact h0
    split
    · exact h0
    · rename_i m hg g3
      refine ⟨?_, rfl⟩
      have hm : m < d.cnt.files.length := (ok.dirN _ (dGet_mem hg)).2
      refine Int.le_trans (show sumL (d.cnt.put m (fcut (d.file m) a.n).1).len d.dir ≤ sumL d.len d.dir from sumL_le (fun p hp => ?_)) h
      rw [len_put _ hm]
      split
      · rename_i e; rw [e]
        unfold Dsk.len fcut
        split
        · simp
        · simp only [List.length_take]; omega
      · exact Int.le_refl _
  split
  · unfold Dsk.rename
    split
    · exact h0
    split
    · exact h0
    split
    · exact h0
    split
    · exact h0
    · rename_i m hg g3 g4
      refine ⟨?_, rfl⟩
      have hm := dGet_mem hg
      have hne : a.s ≠ [] := fun e => by have := (chk_len (ok.dirN _ hm).1).1; simp only at this; rw [e] at this; simp at this
      have e1 := sumL_del_mem (len_pos d) hm
      have e2 := sumL_del (len_pos d) a.t (dDel a.s d.dir)
      have e3 : (d.chg (a.t, a.s, some m)).used = d.len m + sumL d.len (dDel a.t (dDel a.s d.dir)) := by
        show sumL d.len (dPut a.t m (if a.s = [] then d.dir else dDel a.s d.dir)) = _
        rw [if_neg hne]
        unfold dPut
        rw [sumL_ins]
      show (d.chg (a.t, a.s, some m)).used ≤ d.cap
      rw [used_sumL] at h
      omega
  split
  · unfold Dsk.remove
    split
    · exact h0
    split
    · exact h0
    · refine ⟨?_, rfl⟩
      refine Int.le_trans ?_ h
      show sumL d.len (if a.s = [] then d.dir else dDel a.s d.dir) ≤ sumL d.len d.dir
      split
      · exact Int.le_refl _
      · exact sumL_del (len_pos d) a.s d.dir
  split
  · unfold Dsk.dirSync
    (repeat' split) <;> first | exact h0 | exact h1
  split
  · unfold Dsk.arm
    (repeat' split) <;> first | exact h0 | exact h1
  split
  · exact h0
  · exact h0
end Go.Proofs.YtfipfljiohdlhaaGreat
