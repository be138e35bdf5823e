/- Several texts in one. merged: TnL TnM -/
import Derived.Test.YtmjkfgpkohfmiaaGreatTxJ
import Derived.Test.YtmjkfgpkohfmiaaGreatMgAg
namespace Go.Proofs.YtmjkfgpkohfmiaaGreat
set_option linter.unusedVariables false
set_option linter.unusedSimpArgs false
set_option linter.unusedSectionVars false
open Go.RowKit

/-- what a clean leaves -/
structure Cleaned (keep L : List (List UInt8)) (n : Nat) (d : Dsk) (r : Dsk × Nat × Int) : Prop where
  ok : r.2.2 = 0
  num : r.2.1 = n + (L.filter fun s => !decide (s ∈ keep)).length
  files : r.1.files = d.files
  dir : r.1.dir = d.dir.filter fun p => decide (p.1 ∈ keep) || !decide (p.1 ∈ L)
  dead : r.1.dead = false
  ops : r.1.ops ≤ d.ops + L.length + 1
  synced : 0 < r.2.1 → r.1.safe = r.1.dir ∧ r.1.chs = []
theorem remove_calm {d : Dsk} {s : List UInt8} (hd : d.dead = false) (ha : d.armed = 0) (hs : s ∈ d.dir.map (·.1)) (h0 : s ≠ []) :
    (d.remove s).2 = 0 ∧ (d.remove s).1.dir = dDel s d.dir ∧ (d.remove s).1.files = d.files ∧ (d.remove s).1.dead = false ∧ (d.remove s).1.armed = 0 ∧ (d.remove s).1.ops = d.ops + 1 := by
  obtain ⟨n, hn⟩ := Option.isSome_iff_exists.1 (dGet_some hs)
  unfold Dsk.remove
  rw [if_neg (by simp [hd]), hn]
  refine ⟨?_, ?_, rfl, ?_, ?_, rfl⟩
  · show d.tld = 0
    unfold Dsk.tld
    rw [ha]; rfl
  · show appC d.dir ([], s, none) = _
    unfold appC dApply
    simp only
    rw [if_neg h0]
  · show (d.armed == 1) = false
    rw [ha]; rfl
  · show max (d.armed - 1) 0 = 0
    rw [ha]; rfl
theorem cleanN_law (keep : List (List UInt8)) : ∀ (L : List (List UInt8)) (n : Nat) (d : Dsk), L.Nodup → (∀ s ∈ L, s ∈ d.dir.map (·.1) ∧ s ≠ []) → d.dead = false → d.armed = 0 → Cleaned keep L n d (cleanN keep L n d)
  | [], n, d, _, _, hd, ha => by
    have hf : (d.dir.filter fun p => decide (p.1 ∈ keep) || !decide (p.1 ∈ ([] : List (List UInt8)))) = d.dir := List.filter_eq_self.2 (fun p _ => by simp)
    unfold cleanN
    by_cases h0 : n = 0
    · subst h0
      rw [if_pos rfl]
      exact ⟨rfl, rfl, rfl, hf.symm, hd, by simp only [List.length_nil]; omega, fun h => absurd h (by simp)⟩
    · rw [if_neg h0]
      rw [dirSync_good hd (by rw [ha]; decide)]
      refine ⟨rfl, rfl, rfl, hf.symm, ?_, ?_, fun _ => ⟨rfl, rfl⟩⟩
      · show (d.armed == 1) = false
        rw [ha]; rfl
      · show d.ops + 1 ≤ _
        simp
  | s :: r, n, d, hN, hm, hd, ha => by
    obtain ⟨hs, hr⟩ := List.nodup_cons.1 hN
    unfold cleanN
    by_cases hk : s ∈ keep
    · rw [if_pos hk]
      have ih := cleanN_law keep r n d hr (fun x hx => hm x (List.mem_cons_of_mem _ hx)) hd ha
      refine ⟨ih.ok, ?_, ih.files, ?_, ih.dead, ?_, ih.synced⟩
      · rw [ih.num, List.filter_cons_of_neg (by simp [hk])]
      · rw [ih.dir]
        refine List.filter_congr (fun p _ => ?_)
        by_cases e : p.1 = s
        · rw [e]; simp [hk]
        · simp [e]
      · have := ih.ops; rw [List.length_cons]; omega
    · rw [if_neg hk]
      obtain ⟨m1, m2⟩ := hm s (List.mem_cons_self ..)
      obtain ⟨e1, e2, e3, e4, e5, e6⟩ := remove_calm hd ha m1 m2
      rw [if_pos e1]
      have ih := cleanN_law keep r (n + 1) (d.remove s).1 hr (fun x hx => by
        obtain ⟨a, b⟩ := hm x (List.mem_cons_of_mem _ hx)
        refine ⟨?_, b⟩
        rw [e2]
        obtain ⟨p, hp, rfl⟩ := List.mem_map.1 a
        refine List.mem_map.2 ⟨p, ?_, rfl⟩
        unfold dDel
        refine List.mem_filter.2 ⟨hp, ?_⟩
        have : p.1 ≠ s := fun e => hs (e ▸ hx)
        simpa using this) e4 e5
      refine ⟨ih.ok, ?_, ih.files.trans e3, ?_, ih.dead, ?_, ih.synced⟩
      · rw [ih.num, List.filter_cons_of_pos (by simp [hk]), List.length_cons]; omega
      · rw [ih.dir, e2]
        unfold dDel
        rw [List.filter_filter]
        refine List.filter_congr (fun p _ => ?_)
        by_cases e : p.1 = s
        · rw [e]; simp [hk]
        · simp [e]
      · have := ih.ops; rw [e6] at this; rw [List.length_cons]; omega
/-- the first k names are read and synced -/
structure SyncT (d0 : Dsk) (k : Nat) (d : Dsk) : Prop where
  calm : Calm d (60 + k)
  dir : d.dir = d0.dir
  firm : FirmTo d ((d0.dir.map (·.1)).take k)
  same : ∀ n, (d.file n).2 = (d0.file n).2
theorem sync_same {d : Dsk} (s : List UInt8) (n : Nat) : ((d.sync s).1.file n).2 = (d.file n).2 := by
  unfold Dsk.sync
  split
  · rfl
  · split
    · rfl
    · rename_i m hm
      split
      · rfl
      · show ((d.cnt.put m ((d.file m).2, (d.file m).2)).file n).2 = _
        by_cases hlt : m < d.files.length
        · have := fput_at d.cnt m n ((d.file m).2, (d.file m).2) hlt
          rw [this]
          split
          · rename_i e; subst e; rfl
          · rfl
        · unfold Dsk.put Dsk.file Dsk.cnt
          simp only
          rw [List.set_eq_of_length_le (by omega)]
theorem SyncT.step {d0 d : Dsk} {k : Nat} (h : SyncT d0 k d) (ok : d.Ok) {s : List UInt8} (hs : (d0.dir.map (·.1))[k]? = some s) : SyncT d0 (k + 1) (d.sync s).1 := by
  have g := (Syncd.step (d0 := d0) ⟨h.calm, h.dir, h.firm⟩ ok hs).2
  exact ⟨g.calm, g.dir, g.firm, fun n => (sync_same s n).trans (h.same n)⟩
theorem read_calm {d0 d : Dsk} (hd : d.dead = false) (h0 : d0.dead = false) (s : List UInt8) (hg : dGet s d.dir = dGet s d0.dir) (hf : ∀ n, (d.file n).2 = (d0.file n).2) : d.read s = d0.read s := by
  unfold Dsk.read
  rw [hd, h0, hg]
  simp only [Bool.false_eq_true, if_false]
  split
  · rfl
  · rw [hf]
theorem dGet_filter {p : List UInt8 → Bool} {s : List UInt8} (hs : p s = true) : ∀ L : List (List UInt8 × Nat), dGet s (L.filter fun x => p x.1) = dGet s L
  | [] => rfl
  | x :: r => by
    by_cases hx : p x.1 = true
    · rw [List.filter_cons_of_pos (p := fun (y : List UInt8 × Nat) => p y.1) hx]
      unfold dGet
      rw [List.find?_cons, List.find?_cons]
      split
      · rfl
      · exact dGet_filter hs r
    · rw [List.filter_cons_of_neg (p := fun (y : List UInt8 × Nat) => p y.1) hx]
      have : (x.1 == s) = false := by
        rw [beq_eq_false_iff_ne]
        rintro e
        rw [e] at hx
        exact hx hs
      unfold dGet
      rw [List.find?_cons, this]
      exact dGet_filter hs r
/-- what is there in the end: names to keep, their texts -/
structure Ended (d0 : Dsk) (keep : List (List UInt8)) (d : Dsk) : Prop where
  dead : d.dead = false
  list : d.list = (d0.dir.map (·.1)).filter fun s => decide (s ∈ keep)
  read : ∀ s, s ∈ d0.dir.map (·.1) → s ∈ keep → d.read s = ((d0.read s).1, 0)
theorem read_zero {d : Dsk} {s : List UInt8} (hd : d.dead = false) (hs : s ∈ d.dir.map (·.1)) : (d.read s).2 = 0 := by
  obtain ⟨n, hn⟩ := Option.isSome_iff_exists.1 (dGet_some hs)
  unfold Dsk.read
  rw [hd, hn]; rfl
section
variable {d0 d : Dsk} {k : Nat} {keep : List (List UInt8)} (h : SyncT d0 k d) (ok : d.Ok) (hu : d.dir.Pairwise (fun p q => p.1 ≠ q.1)) (h0 : d0.dead = false) (hk : d0.dir.length ≤ k)
include h ok hu h0 hk
theorem synct_list : d.list = d.dir.map (·.1) := h.calm.list
theorem clean_law : Cleaned keep (d.dir.map (·.1)) 0 d (d.clean keep) := by
  unfold Dsk.clean
  rw [h.calm.list]
  refine cleanN_law keep _ 0 d ?_ (fun s hs => ⟨hs, ?_⟩) h.calm.dead h.calm.armed
  · unfold List.Nodup
    rw [List.pairwise_map]
    exact hu
  · have := list_len ok s (by rw [h.calm.list]; exact hs)
    exact this.2
theorem clean_dir : (d.clean keep).1.dir = d.dir.filter fun p => decide (p.1 ∈ keep) := by
  rw [(clean_law h ok hu h0 hk (keep := keep)).dir]
  refine List.filter_congr (fun p hp => ?_)
  have : p.1 ∈ d.dir.map (·.1) := List.mem_map.2 ⟨p, hp, rfl⟩
  simp only [this, decide_true, Bool.not_true, Bool.or_false]
/-- the end, of a disk with these names and files -/
theorem ended_of {e : Dsk} (hd : e.dead = false) (hdir : e.dir = d.dir.filter fun p => decide (p.1 ∈ keep)) (hf : e.files = d.files) : Ended d0 keep e := by
  have hfile : ∀ n, (e.file n).2 = (d0.file n).2 := fun n => by
    rw [← h.same n]; unfold Dsk.file; rw [hf]
  refine ⟨hd, ?_, fun s hs hkp => ?_⟩
  · unfold Dsk.list
    rw [hd, if_neg (by simp), hdir, h.dir, List.filter_map]
    rfl
  · have hg : dGet s e.dir = dGet s d0.dir := by
      rw [hdir, h.dir]
      exact dGet_filter (p := fun x => decide (x ∈ keep)) (decide_eq_true hkp) _
    rw [read_calm hd h0 s hg hfile]
    exact Prod.ext rfl (read_zero h0 hs)
theorem clean_none (hn : (d.clean keep).2.1 = 0) : Ended d0 keep (d.clean keep).1 :=
  ended_of h ok hu h0 hk (clean_law h ok hu h0 hk).dead (clean_dir h ok hu h0 hk) (clean_law h ok hu h0 hk).files
theorem clean_some (hn : 0 < (d.clean keep).2.1) (x : Int) (cuts : List Int) (marks : List (List UInt8)) : Ended d0 keep ((d.clean keep).1.off.boot x cuts marks) := by
  have c := clean_law h ok hu h0 hk (keep := keep)
  obtain ⟨s1, s2⟩ := c.synced hn
  have hdir := clean_dir h ok hu h0 hk (keep := keep)
  have hp : (d.clean keep).1.dir.Pairwise (fun p q => p.1 ≠ q.1) := by rw [hdir]; exact hu.filter _
  have hfm : FirmTo (d.clean keep).1 ((d.clean keep).1.dir.map (·.1)) := by
    intro s hs n hn
    have hsk : s ∈ d.dir.map (·.1) ∧ s ∈ keep := by
      rw [hdir] at hs
      obtain ⟨p, hp, rfl⟩ := List.mem_map.1 hs
      obtain ⟨a, b⟩ := List.mem_filter.1 hp
      exact ⟨List.mem_map.2 ⟨p, a, rfl⟩, of_decide_eq_true b⟩
    have hg : dGet s d.dir = some n := by
      rw [← hn, hdir]
      exact (dGet_filter (p := fun x => decide (x ∈ keep)) (decide_eq_true hsk.2) _).symm
    have := h.firm s (by rw [List.take_of_length_le (by rw [List.length_map]; exact hk), ← h.dir]; exact hsk.1) n hg
    show ((d.clean keep).1.file n).1 = ((d.clean keep).1.file n).2
    unfold Dsk.file at this ⊢
    rw [c.files]; exact this
  rw [boot_whole hp hfm s1 s2 x cuts marks]
  exact ended_of h ok hu h0 hk rfl hdir c.files
end
/-- as many names of the first ones are to be kept -/
def keptN (keep L : List (List UInt8)) (i : Nat) : Nat := ((L.take i).filter fun s => decide (s ∈ keep)).length
theorem keptN_yes {keep L : List (List UInt8)} {i : Nat} {s : List UInt8} (hs : L[i]? = some s) (hk : s ∈ keep) : keptN keep L (i + 1) = keptN keep L i + 1 ∧ (L.filter fun s => decide (s ∈ keep))[keptN keep L i]? = some s := by
  obtain ⟨hlt, e⟩ := List.getElem?_eq_some_iff.1 hs
  constructor
  · unfold keptN
    rw [List.take_add_one, hs, List.filter_append, List.length_append, Option.toList_some, List.filter_cons_of_pos (by simp [hk])]
    rfl
  · have : (L.filter fun s => decide (s ∈ keep)) = (L.take i).filter (fun s => decide (s ∈ keep)) ++ s :: (L.drop (i + 1)).filter (fun s => decide (s ∈ keep)) := by
      conv => lhs; rw [← List.take_append_drop i L]
      rw [List.filter_append, List.drop_eq_getElem_cons hlt, e, List.filter_cons_of_pos (by simp [hk])]
    rw [this]
    unfold keptN
    rw [List.getElem?_append_right (Nat.le_refl _), Nat.sub_self]
    rfl
theorem keptN_no {keep L : List (List UInt8)} {i : Nat} {s : List UInt8} (hs : L[i]? = some s) (hk : ¬ s ∈ keep) : keptN keep L (i + 1) = keptN keep L i := by
  unfold keptN
  rw [List.take_add_one, hs, List.filter_append, Option.toList_some, List.filter_cons_of_neg (by simp [hk]), List.filter_nil, List.append_nil]
theorem keptN_all (keep L : List (List UInt8)) : keptN keep L L.length = (L.filter fun s => decide (s ∈ keep)).length := by unfold keptN; rw [List.take_length]
theorem keptN_le (keep L : List (List UInt8)) (i : Nat) : keptN keep L i ≤ (L.filter fun s => decide (s ∈ keep)).length := by
  unfold keptN
  exact ((List.take_sublist i L).filter _).length_le
theorem filter_two (keep L : List (List UInt8)) : (L.filter fun s => decide (s ∈ keep)).length + (L.filter fun s => !decide (s ∈ keep)).length = L.length := by
  induction L with
  | nil => rfl
  | cons s r ih =>
    by_cases hk : s ∈ keep
    · rw [List.filter_cons_of_pos (by simp [hk]), List.filter_cons_of_neg (by simp [hk]), List.length_cons, List.length_cons]; omega
    · rw [List.filter_cons_of_neg (by simp [hk]), List.filter_cons_of_pos (by simp [hk]), List.length_cons, List.length_cons]; omega
end Go.Proofs.YtmjkfgpkohfmiaaGreat
namespace Go.Proofs.YtmjkfgpkohfmiaaGreat
set_option linter.unusedVariables false
set_option linter.unusedSimpArgs false
open Go.RowKit

theorem Has.but {w w' : World} {b : Nat} {K G : List Nat} {d : Dsk} (h : Has w b K d) (x : But G w w') (hG : ∀ k ∈ K, k ∉ G) : Has w' b K d := by
  obtain ⟨ok, fb, mn, ms, cv, m, rfl⟩ := h
  exact ⟨ok, fb, mn, ms, cv, m.but x hG, rfl⟩
/-- arguments' texts, beside a disk that was made later -/
theorem KR.of {W w : World} {K : List Nat} {v : Value} {l : List (List UInt8)} (h : RR sC 1 W v l) (x : Stp [] K W w) : KR K w v l := by
  refine KR.stp (K := []) (w := W) ⟨h, fun h0 k hk => ⟨by simp, ?_⟩⟩ x
  obtain ⟨a, c, rfl, _, _, h2⟩ := h
  obtain ⟨g, o, rfl, h4⟩ := h2 h0
  injection hk with hk
  subst hk
  obtain ⟨y, hy⟩ : ∃ y, l[0]? = some y := ⟨_, List.getElem?_eq_getElem h0⟩
  have hc := h4 0 y hy 0 _ rfl
  rcases Nat.lt_or_ge g W.heap.size with h | h
  · exact h
  · unfold World.cell? at hc; simp [h] at hc
/-- a row of texts of the law's own -/
def TR (K : List Nat) (w : World) (B : Nat) (v : Value) (l : List (List UInt8)) : Prop := WR sC 1 w B 9 v l ∧ ∀ k, v.ownBlock = some k → k ∉ K
theorem TR.nil (K : List Nat) (w : World) (B : Nat) : TR K w B (.slice none 0 0) [] := ⟨WR.nil w B _, fun k hk => by cases hk⟩
theorem TR.stp {K K' : List Nat} {w w' : World} {B : Nat} {v : Value} {l : List (List UInt8)} (h : TR K w B v l) (x : Stp K K' w w') : TR K' w' B v l :=
  ⟨h.1.butO x.1 h.2, fun k hk hm => (x.2 k hm).elim (h.2 k hk) (fun h2 => by have := (World.ownsRow.lt h.1 k hk).2; omega)⟩
theorem TR.sr {K : List Nat} {w : World} {B : Nat} {v : Value} {l : List (List UInt8)} (h : TR K w B v l) : SR K w v l := by
  refine ⟨WR.rr (fun _ => rfl) h.1, fun p n c e => ?_⟩
  subst e
  exact ⟨h.2 p.block rfl, (World.ownsRow.lt h.1 p.block rfl).2⟩
/-- a text is appended: nothing turns but the row's own block -/
theorem TR.app {K : List Nat} {w : World} {B : Nat} {v : Value} {l : List (List UInt8)} {b : Nat} {d : Dsk} (h : TR K w B v l) (hd : Has w b K d) (hB : B ≤ w.heap.size) (s : List UInt8) (hl : l.length ≤ 1000000) :
    ∃ v' w', (Builtin.append_ #[24, 24] 24 #[v, .slice (some ⟨w.heap.size, 0, none⟩) 1 1]).run Tryz.prog (w.alloc (.cells #[.string (S s)] 9)) = .ok v' w' ∧ TR K w' B v' (l ++ [s]) ∧ Has w' b K d ∧ Below B w w' := by
  have hk : Blk (w.alloc (.cells #[.string (S s)] 9)) w.heap.size 9 (sC s).toArray := Blk.new w _ _
  obtain ⟨v', w', p1, p2, p3, p4⟩ := WR.app1 (f := sC) (s := 1) (fun _ => rfl) (by omega) (fun x u hu => by simp only [sC, List.mem_singleton] at hu; subst hu; rfl) (WR.ext h.1 ((Ext.refl w).alloc _)) hk (by rw [World.size_alloc]; omega) (P := Tryz.prog) (t := 24) Tryz.underlying24 str_info rfl (by omega) (by unfold maxLen; omega)
  have hb : But (v.ownBlock.toList) w w' := (But.of_ext ((Ext.refl w).alloc _)).trans (But.grown p3 (fun k hk => by simp [hk]))
  refine ⟨v', w', p1, ⟨p2, fun k hk hm => ?_⟩, hd.but hb (fun k hm hv => ?_), ?_⟩
  · rcases p4 with e | e
    · exact h.2 k (e ▸ hk) hm
    · rw [e] at hk
      injection hk with hk
      have := hd.lt k hm
      rw [World.size_alloc] at hk
      omega
  · rw [Option.mem_toList] at hv
    exact h.2 k hv hm
  · refine ⟨hb.os, hb.tape, hb.output, hb.size, fun k hkB => hb.block k (Nat.lt_of_lt_of_le hkB hB) (fun hv => ?_)⟩
    rw [Option.mem_toList] at hv
    have := (World.ownsRow.lt h.1 k hv).1
    omega
theorem SR.below {K : List Nat} {w w' : World} {B : Nat} {v : Value} {l : List (List UInt8)} (h : SR K w v l) (x : Below B w w') (hB : ∀ k, v.ownBlock = some k → k < B) : SR K w' v l := by
  obtain ⟨⟨a, c, rfl, h0, hn, h2⟩, hb⟩ := h
  refine ⟨⟨a, c, rfl, h0, hn, fun hl => ?_⟩, fun p n c' e => ?_⟩
  · obtain ⟨g, o, rfl, h4⟩ := h2 hl
    refine ⟨g, o, rfl, fun k y hk j u hu => ?_⟩
    have hc := h4 k y hk j u hu
    unfold World.cell? at hc ⊢
    rw [x.block g (hB g rfl)]
    exact hc
  · have hg := hb p n c' e
    exact ⟨hg.1, Nat.lt_of_lt_of_le hg.2 x.size⟩
theorem Stp.below {K : List Nat} {W w w' : World} {B : Nat} (h : Stp [] K W w) (x : Below B w w') (hB : W.heap.size ≤ B) : Stp [] K W w' :=
  ⟨But.of_ext (Below.trans h.ext (Below.mono x hB)), h.2⟩
theorem texts_step2 {d : Dsk} {L : List (List UInt8)} {k : Nat} {s : List UInt8} (h : L[k]? = some s) : texts d (L.take (k + 1)) = texts d (L.take k) ++ [(d.read s).1] := by
  unfold texts
  rw [List.take_add_one, h, List.map_append]; rfl
end Go.Proofs.YtmjkfgpkohfmiaaGreat
