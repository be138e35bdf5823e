/- The document's disk: each call, on any disk. -/
import Derived.Test.YtfipfljiohdlhaaGreatDnN
import Derived.Test.YtfipfljiohdlhaaGreatDmB
namespace Go.Proofs.YtfipfljiohdlhaaGreat
set_option linter.unusedVariables false
set_option linter.unusedSimpArgs false
open Go.RowKit
variable {K : List Nat}

/-- what the document's disks keep -/
structure RG (d : Dsk) : Prop where
  ok : d.Ok
  chs : ∀ c ∈ d.chs, c.2.2 = none → c.1 = []
  fl : (d.files.length : Int) ≤ d.ops
  op : d.ops ≤ 100000
section
variable {d : Dsk} (g : RG d)
include g
theorem RG.dl : (d.dir.length : Int) ≤ 1000000 := by have := g.ok.dirL; have := g.op; omega
theorem RG.cl : d.chs.length ≤ 1000000 := by have := g.ok.safeL; have := g.op; omega
theorem RG.f1 : d.files.length ≤ 1000000 := by have := g.fl; have := g.op; omega
theorem RG.o : 0 ≤ d.ops ∧ d.ops ≤ 100000000 := ⟨by have := g.fl; omega, by have := g.op; omega⟩
theorem RG.a : 0 ≤ d.armed ∧ d.armed ≤ 9223372036854775807 := ⟨g.ok.arm0, g.ok.arm1⟩
theorem rcreate_any {w : World} {v : V4} (hK : ∀ k ∈ K, k < w.heap.size) (h : RefD K w v d) (s : List UInt8) (hs : (s.length : Int) ≤ 9223372036854775807) :
    Calls Tryz.prog 21 #[refV v d, .string (S s)] w fun x w' => RRet K w (d.create s).1 (d.create s).2 x w' := by
  unfold Dsk.create
  split
  · rename_i hd; exact rcreate_dead hK h hd s
  · rename_i hd
    have hd : d.dead = false := by simpa using hd
    split
    · rename_i hc
      have hc2 : chk s = 180 := (chk_or s).resolve_left hc
      rw [hc2]; exact rcreate_name hK h hd s hs hc2
    · rename_i hc
      have hc : chk s = 0 := Decidable.not_not.1 hc
      split
      · rename_i hg
        obtain ⟨n, hg⟩ := Option.isSome_iff_exists.1 hg
        exact rcreate_there hK h hd s hs hc g.dl hg
      · rename_i hg
        have hg : dGet s d.dir = none := by simpa using hg
        split
        · rename_i hf; exact rcreate_full hK h hd s hs hc g.dl hg hf
        · rename_i hf; exact rcreate_new hK h hd s hs hc g.dl hg hf g.o g.a g.cl g.f1
theorem rappend_anyD {w : World} {v : V4} (hK : ∀ k ∈ K, k < w.heap.size) (h : RefD K w v d) (s t : List UInt8) (ht : (t.length : Int) ≤ 1000000000) :
    Calls Tryz.prog 22 #[refV v d, .string (S s), .string (S t)] w fun x w' => RRet K w (d.append s t).1 (d.append s t).2 x w' := by
  unfold Dsk.append
  split
  · rename_i hd; exact rappendD_dead hK h hd s t g.dl
  · rename_i hd
    have hd : d.dead = false := by simpa using hd
    split
    · rename_i hg; exact rappendD_none hK h hd s t g.dl hg
    · rename_i n hg
      have hn := (g.ok.dirN _ (dGet_mem hg)).2
      have hb := fun n => file_big g.ok n
      split
      · rename_i he; exact rappend_bad hK h hd s t ht g.dl hg hn g.f1 hb rfl he
      · rename_i he
        have he : (fappend (d.file n) t).2 = 0 := Decidable.not_not.1 he
        split
        · rename_i hf; exact rappend_full hK h hd s t ht g.dl hg hn g.f1 g.ok hb he (by omega)
        · rename_i hf; exact rappend_good hK h hd s t ht g.dl hg hn g.f1 g.ok hb he g.o g.a (by omega)
theorem rsync_anyD {w : World} {v : V4} (hK : ∀ k ∈ K, k < w.heap.size) (h : RefD K w v d) (s : List UInt8) :
    Calls Tryz.prog 23 #[refV v d, .string (S s)] w fun x w' => RRet K w (d.sync s).1 (d.sync s).2 x w' := by
  unfold Dsk.sync
  split
  · rename_i hd; exact rsyncD_dead hK h hd s g.dl
  · rename_i hd
    have hd : d.dead = false := by simpa using hd
    split
    · rename_i hg; exact rsyncD_none hK h hd s g.dl hg
    · rename_i n hg
      have hn := (g.ok.dirN _ (dGet_mem hg)).2
      split
      · rename_i h1; exact rsync_last hK h hd s g.dl hg hn g.f1 g.o g.a (by simpa using h1)
      · rename_i h1; exact rsync_done hK h hd s g.dl hg hn g.f1 g.o g.a (by simpa using h1)
theorem rcut_anyD {w : World} {v : V4} (hK : ∀ k ∈ K, k < w.heap.size) (h : RefD K w v d) (s : List UInt8) (k : Int) :
    Calls Tryz.prog 24 #[refV v d, .string (S s), .int .i64 k] w fun x w' => RRet K w (d.cut s k).1 (d.cut s k).2 x w' := by
  unfold Dsk.cut
  split
  · rename_i hd; exact rcutD_dead hK h hd s k g.dl
  · rename_i hd
    have hd : d.dead = false := by simpa using hd
    split
    · rename_i hg; exact rcutD_none hK h hd s k g.dl hg
    · rename_i n hg
      have hn := (g.ok.dirN _ (dGet_mem hg)).2
      have hb := fun n => file_big g.ok n
      split
      · rename_i he; exact rcut_bad hK h hd s k g.dl hg hn g.f1 hb rfl he
      · rename_i he; exact rcut_good hK h hd s k g.dl hg hn g.f1 hb (Decidable.not_not.1 he) g.o g.a
theorem rrename_anyD {w : World} {v : V4} (hK : ∀ k ∈ K, k < w.heap.size) (h : RefD K w v d) (s t : List UInt8) (ht : (t.length : Int) ≤ 9223372036854775807) :
    Calls Tryz.prog 25 #[refV v d, .string (S s), .string (S t)] w fun x w' => RRet K w (d.rename s t).1 (d.rename s t).2 x w' := by
  unfold Dsk.rename
  split
  · rename_i hd; exact rrename_dead hK h hd s t g.dl
  · rename_i hd
    have hd : d.dead = false := by simpa using hd
    split
    · rename_i hg; exact rrename_none hK h hd s t g.dl hg
    · rename_i n hg
      split
      · rename_i hc
        have hc2 : chk t = 180 := (chk_or t).resolve_left hc
        rw [hc2]; exact rrename_name hK h hd s t ht g.dl hg hc2
      · rename_i hc
        have hc : chk t = 0 := Decidable.not_not.1 hc
        split
        · rename_i he; subst he; exact rrename_self hK h hd s ht g.dl hg hc
        · rename_i he; exact rrename_new hK h hd s t ht g.dl hg hc he g.o g.a g.cl
theorem rremove_anyD {w : World} {v : V4} (hK : ∀ k ∈ K, k < w.heap.size) (h : RefD K w v d) (s : List UInt8) :
    Calls Tryz.prog 26 #[refV v d, .string (S s)] w fun x w' => RRet K w (d.remove s).1 (d.remove s).2 x w' := by
  unfold Dsk.remove
  split
  · rename_i hd; exact rremove_dead hK h hd s g.dl
  · rename_i hd
    have hd : d.dead = false := by simpa using hd
    split
    · rename_i hg; exact rremove_none hK h hd s g.dl hg
    · rename_i n hg; exact rremove_new hK h hd s g.dl hg g.o g.a g.cl
theorem rdirSync_anyD {w : World} {v : V4} (hK : ∀ k ∈ K, k < w.heap.size) (h : RefD K w v d) :
    Calls Tryz.prog 27 #[refV v d] w fun x w' => RRet K w d.dirSync.1 d.dirSync.2 x w' := by
  unfold Dsk.dirSync
  split
  · rename_i hd; exact rdirSync_dead hK h hd
  · rename_i hd
    have hd : d.dead = false := by simpa using hd
    split
    · rename_i h1; exact rdirSync_last hK h hd (by simpa using h1) g.o g.a
    · rename_i h1; exact rdirSync_done hK h hd (by simpa using h1) g.o g.a
end
theorem rarm_anyD {d : Dsk} {w : World} {v : V4} (hK : ∀ k ∈ K, k < w.heap.size) (h : RefD K w v d) (k : Int) :
    Calls Tryz.prog 28 #[refV v d, .int .i64 k] w fun x w' => RRet K w (d.arm k).1 (d.arm k).2 x w' := by
  unfold Dsk.arm
  split
  · rename_i hd; exact rarm_dead hK h hd k
  · rename_i hd
    have hd : d.dead = false := by simpa using hd
    split
    · rename_i h1; exact rarm_bad hK h hd k h1
    · rename_i h1; exact rarm_good hK h hd k h1
theorem chg_chs {d : Dsk} (g : ∀ c ∈ d.chs, c.2.2 = none → c.1 = []) {c : List UInt8 × List UInt8 × Option Nat} (hc : c.2.2 = none → c.1 = []) : ∀ x ∈ (d.chg c).chs, x.2.2 = none → x.1 = [] := fun x hx => by
  rcases List.mem_append.1 hx with hx | hx
  · exact g x hx
  · rw [List.mem_singleton] at hx; subst hx; exact hc
/-- changes and files behind an act -/
theorem act_rg {d : Dsk} (h1 : ∀ c ∈ d.chs, c.2.2 = none → c.1 = []) (h2 : (d.files.length : Int) ≤ d.ops) (a : ActD) : (∀ c ∈ (d.act a).1.chs, c.2.2 = none → c.1 = []) ∧ ((d.act a).1.files.length : Int) ≤ (d.act a).1.ops := by
  have h0 : (∀ c ∈ d.chs, c.2.2 = none → c.1 = []) ∧ (d.files.length : Int) ≤ d.ops := ⟨h1, h2⟩
  have hc : (∀ c ∈ d.cnt.chs, c.2.2 = none → c.1 = []) ∧ (d.cnt.files.length : Int) ≤ d.cnt.ops := ⟨h1, by show (d.files.length : Int) ≤ d.ops + 1; omega⟩
  have hp : ∀ n f, (∀ c ∈ (d.cnt.put n f).chs, c.2.2 = none → c.1 = []) ∧ ((d.cnt.put n f).files.length : Int) ≤ (d.cnt.put n f).ops := fun n f => ⟨h1, by
    show ((d.files.set n f).length : Int) ≤ d.ops + 1
    rw [List.length_set]; omega⟩
  unfold Dsk.act
  split
  · unfold Dsk.create
    (repeat' split) <;> first | exact h0 | skip
    exact ⟨chg_chs h1 (fun e => by cases e), by show ((d.files ++ [([], [])]).length : Int) ≤ d.ops + 1; rw [List.length_append, List.length_singleton]; omega⟩
  split
  · unfold Dsk.append
    (repeat' split) <;> first | exact h0 | exact hp _ _
  split
  · unfold Dsk.sync
    (repeat' split) <;> first | exact h0 | exact hc | exact hp _ _
  split
  · unfold Dsk.cut
    (repeat' split) <;> first | exact h0 | exact hp _ _
  split
  · unfold Dsk.rename
    (repeat' split) <;> first | exact h0 | skip
    exact ⟨chg_chs h1 (fun e => by cases e), hc.2⟩
  split
  · unfold Dsk.remove
    (repeat' split) <;> first | exact h0 | skip
    exact ⟨chg_chs h1 (fun _ => rfl), hc.2⟩
  split
  · unfold Dsk.dirSync
    (repeat' split) <;> first | exact h0 | exact hc | skip
    exact ⟨fun c hc => by simp at hc, hc.2⟩
  split
  · unfold Dsk.arm
    (repeat' split) <;> exact h0
  split
  · exact h0
  split
  · refine ⟨fun c hc => by simp [Dsk.boot] at hc, ?_⟩
    have : ∀ (L : List (List UInt8 × Nat)) (k : Nat) (fs : List (List UInt8 × List UInt8)), (fallAll a.cuts a.marks L k fs).length = fs.length := by
      intro L
      induction L with
      | nil => intro k fs; rfl
      | cons p r ih =>
        intro k fs
        unfold fallAll
        simp only
        split
        · exact ih k fs
        · rw [ih, List.length_set]
    show ((fallAll a.cuts a.marks (d.left a.dir) 0 d.files).length : Int) ≤ d.ops
    rw [this]; exact h2
  · exact h0
end Go.Proofs.YtfipfljiohdlhaaGreat
