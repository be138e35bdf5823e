/- Several texts in one. merged: DkD DkP DkE DkF DkG -/
import Derived.Test.YtmjkfgpkohfmiaaGreatTgQ
import Derived.Test.YtmjkfgpkohfmiaaGreatAnyL
import Derived.Test.YtmjkfgpkohfmiaaGreatAppV
import Derived.Test.YtmjkfgpkohfmiaaGreatAnyY
import Derived.Test.YtmjkfgpkohfmiaaGreatAppOwn
import Derived.Test.YtmjkfgpkohfmiaaGreatApp3G
import Derived.Test.YtmjkfgpkohfmiaaGreatTgP
import Derived.Laws.EntriesVeiled
namespace Go.Proofs.YtmjkfgpkohfmiaaGreat
set_option linter.unusedVariables false
set_option linter.unusedSimpArgs false
open Go.RowKit

attribute [local go_sem] S_size S_toList S_append S_extract S_beq S_bne S_empty S_nil

/-- a change's cells: to, from, file -/
def chC (c : List UInt8 × List UInt8 × Option Nat) : List Value := [.string (S c.1), .string (S c.2.1), ptrV c.2.2]
theorem chC_length (c) : (chC c).length = 3 := rfl
theorem chC_one (c) : ∀ u ∈ chC c, u.oneCell' = true := by
  intro u hu
  obtain ⟨a, b, o⟩ := c
  simp only [chC, List.mem_cons, List.mem_nil_iff, or_false] at hu
  rcases hu with rfl | rfl | rfl
  · rfl
  · rfl
  · cases o <;> rfl
theorem ch_info : (Tryz.prog.info? 80).map (fun i => (i.zero, i.size, i.bytes)) = some (some (.agg #[.string ⟨#[]⟩, .string ⟨#[]⟩, .pointer none]), 3, 40) := by kernel_rfl
theorem run_bs1c (c : List UInt8 × List UInt8 × Option Nat) (w : World) : (Instr.buildSlice 61 1 #[(0, .agg (chC c).toArray)]).run Tryz.prog w = .ok (.slice (some ⟨w.heap.size, 0, none⟩) 1 1) (w.alloc (.cells (chC c).toArray 80)) := by
  obtain ⟨a, b, o⟩ := c
  cases o <;> kernel_rfl
set_option maxRecDepth 20000 in
set_option maxHeartbeats 2000000 in
theorem changed1_any {w : World} {b mn ms g5 g3 g2 : Nat} {cv : Value} {cap ops armed : Int} {off : Bool} {l : List (List UInt8 × Nat)} {cs : List (List UInt8 × List UInt8 × Option Nat)} (h : DskB w b mn ms cv cap ops armed off) (hd : HasDir w mn l) (hc : WR chC 3 w 0 80 cv cs)
    (c : List UInt8 × List UInt8 × Option Nat) (b5 : Blk w g5 81 #[.func (.func 38) #[.map (some mn)] #[]]) (b3 : Blk w g3 80 (chC c).toArray) (b2 : Blk w g2 32 #[.pointer (some ⟨b, 0, none⟩)])
    (n5 : g5 ∉ b :: mn :: cv.ownBlock.toList) (n3 : g3 ∉ b :: mn :: cv.ownBlock.toList) (n2 : g2 ∉ b :: mn :: cv.ownBlock.toList) (nd : (b :: mn :: cv.ownBlock.toList).Nodup)
    (ht : c.1.length ≤ maxLen) (hf : c.2.1.length ≤ maxLen) (hl : l.length < maxLen) (hcl : cs.length ≤ 1000000000) :
    Calls Tryz.prog 91 #[.pointer (some ⟨g5, 0, none⟩), .pointer (some ⟨g3, 0, none⟩), .pointer (some ⟨g2, 0, none⟩)] w fun e w' => e = .returned (.tuple #[]) ∧ But (b :: mn :: cv.ownBlock.toList) w w' ∧ HasDir w' mn (dApply l c.1 c.2.1 c.2.2) ∧
      ∃ cv', DskB w' b mn ms cv' cap ops armed off ∧ WR chC 3 w' 0 80 cv' (cs ++ [c]) ∧ (cv'.ownBlock = cv.ownBlock ∨ ∃ k, cv'.ownBlock = some k ∧ w.heap.size ≤ k ∧ k < w'.heap.size) := by
  have c5 := b5.cell 0
  have q := Lib.hid (apply_any hd c.1 c.2.1 c.2.2 ht hf hl)
  have H := Lib.hid h
  have HC := Lib.hid hc
  have B3 := Lib.hid b3
  have B2 := Lib.hid b2
  have HS := Lib.hid (show (Tryz.prog.info? 80).map (·.size) = some (chC c).toArray.size by kernel_rfl)
  simp only [List.nodup_cons, List.mem_cons, not_or] at n5 n3 n2 nd
  have N := Lib.hid (And.intro n3 (And.intro n2 nd))
  have HCL := Lib.hid hcl
  clear nd n5 n3 n2 h hc b3 b2 b5 hd hl hcl ht hf
  go_enter Tryz.func91, Tryz.ntmps91
  go_wp2_with (first | (refine wpList_load_blk rfl 80 (.tmp 1) rfl rfl B3.out Tryz.underlying80 rfl HS.out ?_) | fail)
  refine Calls.mono q.out ?_
  rintro _ w1 ⟨rfl, hd1, x1⟩
  obtain ⟨⟨n31, n32, n33⟩, ⟨n21, n22, n23⟩, ⟨m1, m2⟩, m3, m4⟩ := N.out
  have hmb : b ∉ [mn] := by simp; exact m1
  have D1 := Lib.hid (Blk.but H.out x1 hmb)
  have C1 := Lib.hid (WR.butO HC.out x1 (fun k hk hm => m3 (by rw [hk]; simp only [List.mem_singleton] at hm; simp [hm])))
  have A3 := Lib.hid (B3.out.but x1 (by simp; exact n32))
  have A2 := Lib.hid (B2.out.but x1 (by simp; exact n22))
  have HD1 := Lib.hid hd1
  have X1 := Lib.hid x1
  have HS2 := Lib.hid (run_bs1c c)
  have k2 := Lib.hid (fun W (x : But cv.ownBlock.toList w1.drew W) => (A2.out.drew.but x n23).cell 0)
  have k2' : ∀ x : Up w1.drew, x.val.cell? ⟨g2, 0, none⟩ = some (.pointer (some ⟨b, 0, none⟩)) := up_cell (A2.out.drew.cell 0)
  have kc : ∀ x : Up w1.drew, x.val.cell? ⟨b, 2, none⟩ = some cv := up_cell (DskB.c2 D1.out)
  have M2 := Lib.hid m2
  clear hd1 x1 H HC B3 B2 n31 n32 n33 n21 n22 n23 hmb c5 q m1 m2 m3 m4
  go_wp2
  refine wp_region_v [0] _ rfl (by kernel_rfl) ?_
  dsimp only [List.length_cons, List.length_nil]
  refine v_late ?_
  iterate 4
    (refine v_want (by kernel_rfl) (by kernel_rfl) (by kernel_rfl) (fun _ _ _ _ h => h) (by kernel_rfl) (by kernel_rfl) (fun K hK => ?_)
     go_simp
     (refine hK _ ?_; clear hK K))
  refine v_load (by kernel_rfl) (by kernel_rfl) (by kernel_rfl) (fun _ _ _ _ h => h) (by kernel_rfl) (by kernel_rfl) 80 (.tmp 1) rfl rfl A3.out.drew Tryz.underlying80 rfl HS.out ?_
  dsimp only [Act.put]
  simp only [List.setIfInBounds_toArray, List.set_cons_succ, List.set_cons_zero]
  clear k2' kc
  refine v_rest ?_
  refine v_sab (iS := 0) (iA := 6) (iB := 7) (m := 1) (te := 80) (cs := (chC c).toArray) (u := .pointer (some ⟨b, 0, none⟩)) cv.ownBlock.toList
    (fun v W => WR chC 3 W 0 80 v (cs ++ [c]) ∧ (v.ownBlock = cv.ownBlock ∨ ∃ k, v.ownBlock = some k ∧ w1.heap.size ≤ k ∧ k < W.heap.size))
    rfl rfl rfl rfl rfl rfl (by intro d h; cases h; decide) (by intro d h; cases h; decide) (by kernel_rfl) (by kernel_rfl) (by kernel_rfl) (by kernel_rfl) (by kernel_rfl) (by kernel_rfl) (by decide) (by decide) ?_ ?_ ?_ ?_ ?_
  · rintro v W W' ⟨h1, h2⟩ hx
    exact ⟨WR.ext h1 hx, h2.imp id (fun ⟨k, e1, e2, e3⟩ => ⟨k, e1, e2, Nat.lt_of_lt_of_le e3 hx.size⟩)⟩
  · intro g v a' ha W hW
    have e2 := k2.out W hW
    rcases ha with rfl | rfl | rfl
    all_goals
      unfold execOp
      go_simp
  · exact ⟨BsAt.of (vs := #[(0, .agg (chC c).toArray)]) 61 _ rfl rfl HS2.out, BsAt.of (vs := #[(0, .agg (chC c).toArray)]) 61 _ rfl rfl HS2.out⟩
  · intro g a' ha W hW hg hB
    obtain ⟨v', w3, p1, p2, p3, p4⟩ := WR.app1 chC_length (by omega) chC_one (WR.ext (WR.drew C1.out) hW) hB (Nat.zero_le _) (P := Tryz.prog) (t := 61) Tryz.underlying61 ch_info rfl (by have := HCL.out; omega) (by have := HCL.out; unfold maxLen; omega)
    refine ⟨v', w3, ?_, But.grown p3 (fun k hk => by simp [hk]), p2, p4.imp id (fun h => ⟨_, h, hW.size, (World.ownsRow.lt p2 _ h).2⟩)⟩
    rcases ha with rfl | rfl
    · exact exec_app (.tmp 10) (.tmp 12) 61 rfl rfl rfl rfl p1
    · exact exec_app (.tmp 10) (.tmp 12) 61 rfl rfl rfl rfl p1
  · rintro g v W hW ⟨hR, hO⟩
    dsimp only [Act.put]
    simp only [List.setIfInBounds_toArray, List.set_cons_succ, List.set_cons_zero]
    refine v_back 8 ?_
    dsimp only [List.drop]
    iterate 2
      (refine v_want (by kernel_rfl) (by kernel_rfl) (by kernel_rfl) (fun _ _ _ _ h => h) (by kernel_rfl) (by kernel_rfl) (fun K hK => ?_)
       go_simp
       (refine hK _ ?_; clear hK K))
    refine v_rest ?_
    refine v_one 10 (by kernel_rfl) rfl (by kernel_rfl) (fun xs K hK => ?_)
    have D3 : DskB xs.val b mn ms cv cap ops armed off := Blk.but (Blk.drew D1.out) (hW.trans (But.of_ext xs.ext)) M2.out
    have e2 := DskB.c2 D3
    have f2 := DskB.fr D3 2
    have HR := Lib.hid hK
    clear hK
    obtain ⟨va, vn, vc, rfl⟩ : ∃ a n c, v = .slice a n c := by obtain ⟨a, c, h, _⟩ := WR.shape chC_length hR; exact ⟨a, _, c, h⟩
    have hN := M2.out
    have hNV : ∀ k, (Value.slice va vn vc).ownBlock = some k → k ≠ b := by
      intro k hk e
      subst e
      rcases hO with h | ⟨k', h, h2, _⟩
      · rw [h] at hk; exact hN (by simp [hk])
      · rw [h] at hk; injection hk with hk; have := D1.out.lt; omega
    have Z1 := Lib.hid (show But (b :: mn :: cv.ownBlock.toList) w (xs.val.setCell ⟨b, 2, none⟩ (.slice va vn vc)) from
      ((((But.more (K' := b :: mn :: cv.ownBlock.toList) X1.out (by simp)).trans (But.of_ext (Ext.refl w1).drew)).trans (But.more (K' := b :: mn :: cv.ownBlock.toList) (hW.trans (But.of_ext xs.ext)) (fun k hk => List.mem_cons_of_mem _ (List.mem_cons_of_mem _ hk)))).set (by simp) _))
    have hmb : mn ∉ cv.ownBlock.toList := N.out.2.2.2.1
    have Z2 := Lib.hid (HasDir.but ((HasDir.but (HD1.out.ext (Ext.refl w1).drew) (hW.trans (But.of_ext xs.ext)) hmb)) ((But.refl [b] xs.val).set (p := ⟨b, 2, none⟩) (List.mem_singleton.2 rfl) (.slice va vn vc)) (by simp; exact fun e => N.out.2.2.1.1 e.symm))
    have Z3 := Lib.hid (DskB.s2 D3 (.slice va vn vc))
    have Z4 := Lib.hid (WR.butO (WR.ext hR xs.ext) ((But.refl [b] xs.val).set (p := ⟨b, 2, none⟩) (List.mem_singleton.2 rfl) (.slice va vn vc)) (fun k hk hm => hNV k hk (by simpa using hm)))
    have Z5 := Lib.hid (show (Value.slice va vn vc).ownBlock = cv.ownBlock ∨ ∃ k, (Value.slice va vn vc).ownBlock = some k ∧ w.heap.size ≤ k ∧ k < (xs.val.setCell ⟨b, 2, none⟩ (.slice va vn vc)).heap.size from
      hO.imp id (fun ⟨k, h1, h2, h3⟩ => ⟨k, h1, Nat.le_trans X1.out.size h2, by have := xs.ext.size; simp only [World.setCell, Array.size_modify]; omega⟩))
    clear hR hO hNV hmb hN D3 hW
    go_simp
    refine HR.out _ _ (fun h => absurd (show false = true from h.symm.trans (by kernel_rfl)) (by decide)) (v_done (by kernel_rfl) (fun y => ?_))
    exact bodyPost_end (v := .tuple #[]) (by simp [results, Tryz.results91]) rfl ⟨rfl, Z1.out.trans (But.of_ext y.ext), Z2.out.ext y.ext, _, Blk.ext Z3.out y.ext, WR.ext Z4.out y.ext, Z5.out.imp id (fun ⟨k, h1, h2, h3⟩ => ⟨k, h1, h2, Nat.lt_of_lt_of_le h3 y.ext.size⟩)⟩
def CW (w : World) (v : Value) (l : List (List UInt8 × List UInt8 × Option Nat)) : Prop := WR chC 3 w 0 80 v l
end Go.Proofs.YtmjkfgpkohfmiaaGreat
namespace Go.Proofs.YtmjkfgpkohfmiaaGreat
set_option linter.unusedVariables false
set_option linter.unusedSimpArgs false

structure Dsk where
  files : List (List UInt8 × List UInt8)
  dir : List (List UInt8 × Nat)
  safe : List (List UInt8 × Nat)
  chs : List (List UInt8 × List UInt8 × Option Nat)
  cap : Int
  ops : Int
  armed : Int
  dead : Bool

/-- an op is counted -/
def Dsk.cnt (d : Dsk) : Dsk := { d with ops := d.ops + 1, armed := max (d.armed - 1) 0, dead := d.armed == 1 }
/-- what it tells -/
def Dsk.tld (d : Dsk) : Int := if d.armed = 1 then 200 else 0
def appC {α : Type} (l : List (List UInt8 × α)) (c : List UInt8 × List UInt8 × Option α) : List (List UInt8 × α) := dApply l c.1 c.2.1 c.2.2
def Dsk.chg (d : Dsk) (c : List UInt8 × List UInt8 × Option Nat) : Dsk := { d.cnt with dir := appC d.dir c, chs := d.chs ++ [c] }
def Dsk.file (d : Dsk) (n : Nat) : List UInt8 × List UInt8 := d.files.getD n ([], [])
def Dsk.put (d : Dsk) (n : Nat) (f : List UInt8 × List UInt8) : Dsk := { d with files := d.files.set n f }
def Dsk.used (d : Dsk) : Int := (d.dir.map fun p => ((d.file p.2).2.length : Int)).sum
def Dsk.new (cap : Int) : Dsk := ⟨[], [], [], [], cap, 0, 0, false⟩
def Dsk.create (d : Dsk) (s : List UInt8) : Dsk × Int :=
  if d.dead then (d, 200) else if chk s ≠ 0 then (d, chk s) else if (dGet s d.dir).isSome then (d, 202) else if 200 ≤ d.dir.length then (d, 203)
  else (Dsk.chg { d with files := d.files ++ [([], [])] } (s, [], some d.files.length), d.tld)
def Dsk.append (d : Dsk) (s t : List UInt8) : Dsk × Int :=
  if d.dead then (d, 200) else match dGet s d.dir with
  | none => (d, 201)
  | some n =>
    if (fappend (d.file n) t).2 ≠ 0 then (d, (fappend (d.file n) t).2) else if d.cap - d.used < t.length then (d, 203)
    else (d.cnt.put n (fappend (d.file n) t).1, d.tld)
def Dsk.sync (d : Dsk) (s : List UInt8) : Dsk × Int :=
  if d.dead then (d, 200) else match dGet s d.dir with
  | none => (d, 201)
  | some n => if d.armed = 1 then (d.cnt, 200) else (d.cnt.put n ((d.file n).2, (d.file n).2), 0)
def Dsk.cut (d : Dsk) (s : List UInt8) (k : Int) : Dsk × Int :=
  if d.dead then (d, 200) else match dGet s d.dir with
  | none => (d, 201)
  | some n => if (fcut (d.file n) k).2 ≠ 0 then (d, (fcut (d.file n) k).2) else (d.cnt.put n (fcut (d.file n) k).1, d.tld)
def Dsk.rename (d : Dsk) (s t : List UInt8) : Dsk × Int :=
  if d.dead then (d, 200) else match dGet s d.dir with
  | none => (d, 201)
  | some n => if chk t ≠ 0 then (d, chk t) else if s = t then (d, 2) else (d.chg (t, s, some n), d.tld)
def Dsk.remove (d : Dsk) (s : List UInt8) : Dsk × Int :=
  if d.dead then (d, 200) else match dGet s d.dir with
  | none => (d, 201)
  | some n => (d.chg ([], s, none), d.tld)
def Dsk.dirSync (d : Dsk) : Dsk × Int :=
  if d.dead then (d, 200) else if d.armed = 1 then (d.cnt, 200) else ({ d.cnt with safe := d.dir, chs := [] }, 0)
def Dsk.arm (d : Dsk) (k : Int) : Dsk × Int :=
  if d.dead then (d, 200) else if k < 1 then (d, 2) else ({ d with armed := k }, 0)
def Dsk.off (d : Dsk) : Dsk := { d with dead := true, armed := 0 }
def Dsk.read (d : Dsk) (s : List UInt8) : List UInt8 × Int :=
  if d.dead then ([], 200) else match dGet s d.dir with
  | none => ([], 201)
  | some n => ((d.file n).2, 0)
def Dsk.list (d : Dsk) : List (List UInt8) := if d.dead then [] else d.dir.map (·.1)
/-- the directory that is left -/
def Dsk.left (d : Dsk) (k : Int) : List (List UInt8 × Nat) := (d.chs.take k.toNat).foldl appC d.safe
/-- loose files fall -/
def fallAll (cuts : List Int) (marks : List (List UInt8)) : List (List UInt8 × Nat) → Nat → List (List UInt8 × List UInt8) → List (List UInt8 × List UInt8)
  | [], _, fs => fs
  | p :: r, k, fs =>
    let f := fs.getD p.2 ([], [])
    if f.1 = f.2 then fallAll cuts marks r k fs
    else fallAll cuts marks r (k + 1) (fs.set p.2 (leftL f.1 f.2 (cuts.getD k 0) (marks.getD k []), leftL f.1 f.2 (cuts.getD k 0) (marks.getD k [])))
def Dsk.boot (d : Dsk) (k : Int) (cuts : List Int) (marks : List (List UInt8)) : Dsk :=
  { d with files := fallAll cuts marks (d.left k) 0 d.files, dir := d.left k, safe := d.left k, chs := [], dead := false, armed := 0 }

/-- no file stands twice -/
def Once (l : List (List UInt8 × Nat)) : Prop := (l.map (·.2)).Nodup
/-- the changes lead from a directory to another one, and no file stands twice on the way -/
def Chain : List (List UInt8 × Nat) → List (List UInt8 × List UInt8 × Option Nat) → List (List UInt8 × Nat) → Prop
  | l, [], m => Once l ∧ l = m
  | l, c :: cs, m => Once l ∧ Chain (appC l c) cs m
/-- a name that is checked -/
def Named (l : List (List UInt8 × Nat)) (n : Nat) : Prop := ∀ p ∈ l, chk p.1 = 0 ∧ p.2 < n
structure Dsk.Ok (d : Dsk) : Prop where
  dirN : Named d.dir d.files.length
  safeN : Named d.safe d.files.length
  chsN : ∀ c ∈ d.chs, c.1.length ≤ 64 ∧ c.2.1.length ≤ 64 ∧ (∀ n, c.2.2 = some n → chk c.1 = 0 ∧ n < d.files.length)
  chain : Chain d.safe d.chs d.dir
  dirL : (d.dir.length : Int) ≤ d.ops
  safeL : (d.safe.length : Int) + d.chs.length ≤ d.ops
  cap0 : 0 ≤ d.cap
  cap1 : d.cap ≤ 10000000
  arm0 : 0 ≤ d.armed
  arm1 : d.armed ≤ 9223372036854775807
  big : ∀ f ∈ d.files, f.1.length ≤ 1000000 ∧ f.2.length ≤ 1000000
end Go.Proofs.YtmjkfgpkohfmiaaGreat
namespace Go.Proofs.YtmjkfgpkohfmiaaGreat
set_option linter.unusedVariables false
set_option linter.unusedSimpArgs false
open Go.RowKit

attribute [local go_sem] S_size S_toList S_append S_extract S_beq S_bne S_empty S_nil

def blkN (fb : List Nat) (n : Nat) : Nat := fb.getD n 0
def blks (fb : List Nat) (l : List (List UInt8 × Nat)) : List (List UInt8 × Nat) := l.map fun p => (p.1, blkN fb p.2)
def chB (fb : List Nat) (c : List UInt8 × List UInt8 × Option Nat) : List UInt8 × List UInt8 × Option Nat := (c.1, c.2.1, c.2.2.map (blkN fb))
/-- what lies in memory for a disk -/
def owns (b mn ms : Nat) (cv : Value) (fb : List Nat) : List Nat := b :: mn :: ms :: (cv.ownBlock.toList ++ fb)
structure MemD (w : World) (b : Nat) (d : Dsk) (fb : List Nat) (mn ms : Nat) (cv : Value) : Prop where
  dsk : DskB w b mn ms cv d.cap d.ops d.armed d.dead
  now : HasDir w mn (blks fb d.dir)
  safe : HasDir w ms (blks fb d.safe)
  chs : WR chC 3 w 0 80 cv (d.chs.map (chB fb))
  fls : ∀ i, i < fb.length → Blk w (blkN fb i) 84 #[.string (S (d.file i).1), .string (S (d.file i).2)]
  len : fb.length = d.files.length
  nod : (owns b mn ms cv fb).Nodup
theorem MemD.lt {w : World} {b : Nat} {d : Dsk} {fb : List Nat} {mn ms : Nat} {cv : Value} (h : MemD w b d fb mn ms cv) : ∀ k ∈ owns b mn ms cv fb, k < w.heap.size := by
  intro k hk
  simp only [owns, List.mem_cons, List.mem_append, Option.mem_toList] at hk
  rcases hk with rfl | rfl | rfl | hk | hk
  · exact Blk.lt h.dsk
  · exact h.now.lt
  · exact h.safe.lt
  · exact (World.ownsRow.lt h.chs k hk).2
  · obtain ⟨i, hi, rfl⟩ := List.getElem_of_mem hk
    have := (h.fls i hi).lt
    unfold blkN at this
    rwa [List.getD_eq_getElem?_getD, List.getElem?_eq_getElem hi] at this
theorem MemD.but {w w' : World} {b : Nat} {d : Dsk} {fb : List Nat} {mn ms : Nat} {cv : Value} (h : MemD w b d fb mn ms cv) {K : List Nat} (x : But K w w') (hK : ∀ k ∈ owns b mn ms cv fb, k ∉ K) : MemD w' b d fb mn ms cv where
  dsk := Blk.but h.dsk x (hK _ (by simp [owns]))
  now := h.now.but x (hK _ (by simp [owns]))
  safe := h.safe.but x (hK _ (by simp [owns]))
  chs := h.chs.butO x (fun k hk => hK k (by simp [owns, hk]))
  fls i hi := (h.fls i hi).but x (hK _ (by
    unfold blkN
    rw [List.getD_eq_getElem?_getD, List.getElem?_eq_getElem hi]
    simp [owns]))
  len := h.len
  nod := h.nod
theorem MemD.ext {w w' : World} {b : Nat} {d : Dsk} {fb : List Nat} {mn ms : Nat} {cv : Value} (h : MemD w b d fb mn ms cv) (x : Ext w w') : MemD w' b d fb mn ms cv := h.but (K := []) (But.of_ext x) (by simp)

theorem blks_dDel (fb : List Nat) (s : List UInt8) (l : List (List UInt8 × Nat)) : blks fb (dDel s l) = dDel s (blks fb l) := by
  unfold blks dDel
  rw [List.filter_map]
  rfl
theorem blks_dIns (fb : List Nat) (s : List UInt8) (n : Nat) : ∀ l : List (List UInt8 × Nat), blks fb (dIns (s, n) l) = dIns (s, blkN fb n) (blks fb l)
  | [] => rfl
  | y :: r => by
    show blks fb (if bytesBefore s y.1 = true then (s, n) :: y :: r else y :: dIns (s, n) r) = if bytesBefore s y.1 = true then (s, blkN fb n) :: (y.1, blkN fb y.2) :: blks fb r else (y.1, blkN fb y.2) :: dIns (s, blkN fb n) (blks fb r)
    split
    · rfl
    · rw [← blks_dIns fb s n r]; rfl
theorem blks_dPut (fb : List Nat) (s : List UInt8) (n : Nat) (l : List (List UInt8 × Nat)) : blks fb (dPut s n l) = dPut s (blkN fb n) (blks fb l) := by
  unfold dPut
  rw [blks_dIns, blks_dDel]
theorem blks_dApply (fb : List Nat) (l : List (List UInt8 × Nat)) (t f : List UInt8) (o : Option Nat) : blks fb (dApply l t f o) = dApply (blks fb l) t f (o.map (blkN fb)) := by
  cases o with
  | none =>
    simp only [dApply, Option.map_none]
    split
    · rfl
    · rw [blks_dDel]
  | some n =>
    simp only [dApply, Option.map_some]
    rw [blks_dPut]
    split
    · rfl
    · rw [blks_dDel]
theorem blks_length (fb : List Nat) (l : List (List UInt8 × Nat)) : (blks fb l).length = l.length := by simp [blks]
theorem dGet_blks (fb : List Nat) (s : List UInt8) (l : List (List UInt8 × Nat)) : dGet s (blks fb l) = (dGet s l).map (blkN fb) := by
  unfold dGet blks
  rw [List.find?_map, Option.map_map, Option.map_map]
  rfl

theorem blkN_mem {fb : List Nat} {i : Nat} (hi : i < fb.length) : blkN fb i ∈ fb := by
  unfold blkN
  rw [List.getD_eq_getElem?_getD, List.getElem?_eq_getElem hi]
  exact List.getElem_mem hi
theorem owns_nod {b mn ms : Nat} {cv cv' : Value} {fb : List Nat} {n : Nat} (h : (owns b mn ms cv fb).Nodup) (hlt : ∀ k ∈ owns b mn ms cv fb, k < n) (ho : cv'.ownBlock = cv.ownBlock ∨ ∃ k, cv'.ownBlock = some k ∧ n ≤ k) : (owns b mn ms cv' fb).Nodup := by
  rcases ho with e | ⟨k, e, hk⟩
  · unfold owns at *; rw [e]; exact h
  · have hn : ∀ x ∈ owns b mn ms cv fb, x ≠ k := fun x hx e => by have := hlt x hx; omega
    unfold owns at *
    rw [e]
    simp only [Option.toList_some, List.cons_append, List.nil_append, List.nodup_cons, List.mem_cons, not_or, List.nodup_append, List.mem_append, Option.mem_toList] at h hn ⊢
    obtain ⟨⟨p1, p2, p3, p4⟩, ⟨p5, p6, p7⟩, ⟨p8, p9⟩, p10, p11, p12⟩ := h
    refine ⟨⟨p1, p2, hn b (.inl rfl), p4⟩, ⟨p5, hn mn (.inr (.inl rfl)), p7⟩, ⟨hn ms (.inr (.inr (.inl rfl))), p9⟩, ⟨fun hm => hn k (.inr (.inr (.inr (.inr hm)))) rfl, p11⟩⟩
/-- the disk behind a change -/
theorem MemD.chg {W w1 : World} {b : Nat} {d : Dsk} {fb : List Nat} {mn ms : Nat} {cv : Value} (h : MemD W b d fb mn ms cv) (c : List UInt8 × List UInt8 × Option Nat) {cv' : Value} (off : Bool)
    (x : But (b :: mn :: cv.ownBlock.toList) W w1) (hd : HasDir w1 mn (dApply (blks fb d.dir) (chB fb c).1 (chB fb c).2.1 (chB fb c).2.2))
    (hk : DskB w1 b mn ms cv' d.cap (d.ops + 1) (max (d.armed - 1) 0) off) (hc : WR chC 3 w1 0 80 cv' (d.chs.map (chB fb) ++ [chB fb c])) (ho : cv'.ownBlock = cv.ownBlock ∨ ∃ k, cv'.ownBlock = some k ∧ W.heap.size ≤ k) :
    MemD w1 b { d.chg c with dead := off } fb mn ms cv' := by
  have hlt := h.lt
  have nod := h.nod
  simp only [owns, List.nodup_cons, List.mem_cons, List.mem_append, not_or, List.nodup_append] at nod
  obtain ⟨⟨p1, p2, p3, p4⟩, ⟨p5, p6, p7⟩, ⟨p8, p9⟩, p10, p11, p12⟩ := nod
  refine ⟨hk, ?_, h.safe.but x ?_, ?_, fun i hi => (h.fls i hi).but x ?_, h.len, owns_nod h.nod hlt ho⟩
  · rw [show blks fb ({ d.chg c with dead := off } : Dsk).dir = _ from blks_dApply fb d.dir c.1 c.2.1 c.2.2]; exact hd
  · simp only [List.mem_cons, not_or]; exact ⟨fun e => p2 e.symm, fun e => p5 e.symm, p8⟩
  · show WR chC 3 w1 0 80 cv' ((d.chs ++ [c]).map (chB fb))
    rw [List.map_append, List.map_singleton]; exact hc
  · have hm := blkN_mem hi
    simp only [List.mem_cons, not_or]
    exact ⟨fun e => p4 (e ▸ hm), fun e => p7 (e ▸ hm), fun hm2 => p12 _ hm2 _ hm rfl⟩
/-- an op that changes the directory -/
theorem chg_op {W : World} {b : Nat} {d : Dsk} {fb : List Nat} {mn ms : Nat} {cv : Value} (h : MemD W b d fb mn ms cv) (c : List UInt8 × List UInt8 × Option Nat) (hdd : d.dead = false) {g5 g3 g2 : Nat}
    (b5 : Blk W g5 81 #[.func (.func 38) #[.map (some mn)] #[]]) (b3 : Blk W g3 80 (chC (chB fb c)).toArray) (b2 : Blk W g2 32 #[.pointer (some ⟨b, 0, none⟩)])
    (n5 : g5 ∉ owns b mn ms cv fb) (n3 : g3 ∉ owns b mn ms cv fb) (n2 : g2 ∉ owns b mn ms cv fb)
    (ho : 0 ≤ d.ops) (ho2 : d.ops ≤ 1000000000) (ha : 0 ≤ d.armed) (ha2 : d.armed ≤ 9223372036854775807) (ht : c.1.length ≤ maxLen) (hf : c.2.1.length ≤ maxLen) (hl : d.dir.length ≤ 1000000000) (hcl : d.chs.length ≤ 1000000000) :
    Calls Tryz.prog 52 #[.pointer (some ⟨b, 0, none⟩), .bool false, .func (.func 91) #[] #[.pointer (some ⟨g5, 0, none⟩), .pointer (some ⟨g3, 0, none⟩), .pointer (some ⟨g2, 0, none⟩)]] W fun e w' => e = .returned (.int .i64 d.tld) ∧ But (b :: mn :: cv.ownBlock.toList) W w' ∧
      ∃ cv', MemD w' b (d.chg c) fb mn ms cv' ∧ (cv'.ownBlock = cv.ownBlock ∨ ∃ k, cv'.ownBlock = some k ∧ W.heap.size ≤ k) := by
  have nod := h.nod
  simp only [owns, List.nodup_cons, List.mem_cons, List.mem_append, not_or, List.nodup_append] at nod n5 n3 n2
  obtain ⟨⟨p1, p2, p3, p4⟩, ⟨p5, p6, p7⟩, ⟨p8, p9⟩, p10, p11, p12⟩ := nod
  have ow := fun x y => opW_but W b x y
  have hnb : ∀ {k : Nat}, k ≠ b → k ∉ [b] := fun h => by simpa using h
  have hmn : ∀ y, HasDir (opW W b (d.ops + 1) y) mn (blks fb d.dir) := fun y => h.now.but (ow _ y) (hnb (fun e => p1 e.symm))
  have hcv : ∀ y, WR chC 3 (opW W b (d.ops + 1) y) 0 80 cv (d.chs.map (chB fb)) := fun y => h.chs.butO (ow _ y) (fun k hk hm => by
    rw [List.mem_singleton] at hm
    subst hm
    exact p3 (by simp [hk]))
  have q := fun y => changed1_any (opW_dsk h.dsk (d.ops + 1) y) (hmn y) (hcv y) (chB fb c) (b5.but (ow _ y) (hnb n5.1)) (b3.but (ow _ y) (hnb n3.1)) (b2.but (ow _ y) (hnb n2.1))
    (by simp only [List.mem_cons, not_or]; exact ⟨n5.1, n5.2.1, n5.2.2.2.1⟩) (by simp only [List.mem_cons, not_or]; exact ⟨n3.1, n3.2.1, n3.2.2.2.1⟩) (by simp only [List.mem_cons, not_or]; exact ⟨n2.1, n2.2.1, n2.2.2.2.1⟩)
    (by simp only [List.nodup_cons, List.mem_cons, not_or]; exact ⟨⟨p1, p3⟩, p6, p10⟩) ht hf (by rw [blks_length]; unfold maxLen; omega) (by rw [List.length_map]; exact hcl)
  have hent : Ent 91 := ent_of Tryz.func91 (by kernel_rfl) rfl
  have ow2 : ∀ x y, But (b :: mn :: cv.ownBlock.toList) W (opW W b x y) := fun x y => (ow x y).more (by intro k hk; rw [List.mem_singleton] at hk; simp [hk])
  have hdsk := h.dsk
  rw [hdd] at hdsk
  by_cases h1 : d.armed = 1
  · have hq := q 0
    have hm0 : max (d.armed - 1) 0 = 0 := by omega
    refine (op_last hdsk ho (by omega) ha ha2 h1 _ hent #[] _ (fun w' => But (b :: mn :: cv.ownBlock.toList) (opW W b (d.ops + 1) 0) w' ∧ HasDir w' mn (dApply (blks fb d.dir) (chB fb c).1 (chB fb c).2.1 (chB fb c).2.2) ∧ ∃ cv', DskB w' b mn ms cv' d.cap (d.ops + 1) 0 d.dead ∧ WR chC 3 w' 0 80 cv' (d.chs.map (chB fb) ++ [chB fb c]) ∧ (cv'.ownBlock = cv.ownBlock ∨ ∃ k, cv'.ownBlock = some k ∧ (opW W b (d.ops + 1) 0).heap.size ≤ k ∧ k < w'.heap.size)) (fun w1 ⟨_, _, cv', hk, _⟩ => ⟨_, DskB.c6 hk, DskB.fr hk 6⟩) (by simpa using hq)).mono ?_
    rintro e w' ⟨rfl, w1, ⟨x1, hd1, cv', hk, hc1, ho1⟩, rfl⟩
    have xs := (But.refl [b] w1).set (p := ⟨b, 6, none⟩) (List.mem_singleton.2 rfl) (.bool true)
    have xs' : But (b :: mn :: cv.ownBlock.toList) W (w1.setCell ⟨b, 6, none⟩ (.bool true)) := (((ow2 _ _).trans x1)).set (by simp) _
    have hoo : cv'.ownBlock = cv.ownBlock ∨ ∃ k, cv'.ownBlock = some k ∧ W.heap.size ≤ k := ho1.imp id (fun ⟨k, e1, e2, _⟩ => ⟨k, e1, by rw [opW_size] at e2; exact e2⟩)
    have hbl : b < W.heap.size := Blk.lt hdsk
    have hcb : ∀ k, cv'.ownBlock = some k → k ∉ [b] := fun k hkk hm => by
      rw [List.mem_singleton] at hm
      rcases hoo with e | ⟨k', e, e2⟩
      · rw [e] at hkk; exact p3 (by simp [hkk, hm])
      · rw [e] at hkk; injection hkk with hkk; omega
    refine ⟨by simp [Dsk.tld, h1], xs', cv', ?_, hoo⟩
    have := h.chg c true xs' (hd1.but xs (hnb (fun e => p1 e.symm))) (by rw [hm0]; exact hk.s6 true) (hc1.butO xs hcb) hoo
    rw [show ({ d.chg c with dead := true } : Dsk) = d.chg c by simp [Dsk.chg, Dsk.cnt, h1]] at this
    exact this
  · refine (op_plain hdsk ho (by omega) ha ha2 h1 false _ hent #[] _ _ (by simpa using q _)).mono ?_
    rintro e w' ⟨rfl, x1, hd1, cv', hk, hc1, ho1⟩
    have hoo : cv'.ownBlock = cv.ownBlock ∨ ∃ k, cv'.ownBlock = some k ∧ W.heap.size ≤ k := ho1.imp id (fun ⟨k, e1, e2, _⟩ => ⟨k, e1, by rw [opW_size] at e2; exact e2⟩)
    refine ⟨by simp [Dsk.tld, h1], (ow2 _ _).trans x1, cv', ?_, hoo⟩
    have := h.chg c false ((ow2 _ _).trans x1) hd1 (hdd ▸ hk) hc1 hoo
    rw [show ({ d.chg c with dead := false } : Dsk) = d.chg c by simp [Dsk.chg, Dsk.cnt, h1]] at this
    exact this
set_option maxRecDepth 20000 in
set_option maxHeartbeats 2000000 in
theorem changed_any {w : World} {b : Nat} {d : Dsk} {fb : List Nat} {mn ms : Nat} {cv : Value} (h : MemD w b d fb mn ms cv) (c : List UInt8 × List UInt8 × Option Nat) (hd : d.dead = false)
    (ho : 0 ≤ d.ops) (ho2 : d.ops ≤ 1000000000) (ha : 0 ≤ d.armed) (ha2 : d.armed ≤ 9223372036854775807) (ht : c.1.length ≤ maxLen) (hf : c.2.1.length ≤ maxLen) (hl : d.dir.length ≤ 1000000000) (hcl : d.chs.length ≤ 1000000000) :
    Calls Tryz.prog 57 #[.pointer (some ⟨b, 0, none⟩), .agg (chC (chB fb c)).toArray] w fun e w' => e = .returned (.int .i64 d.tld) ∧ But (b :: mn :: cv.ownBlock.toList) w w' ∧
      ∃ cv', MemD w' b (d.chg c) fb mn ms cv' ∧ (cv'.ownBlock = cv.ownBlock ∨ ∃ k, cv'.ownBlock = some k ∧ w.heap.size ≤ k) := by
  have H := Lib.hid h
  have HS := Lib.hid (show (Tryz.prog.info? 80).map (·.size) = some (chC (chB fb c)).toArray.size by kernel_rfl)
  have c0 := h.dsk.c0
  have hb := Blk.lt h.dsk
  clear h
  go_enter Tryz.func57, Tryz.ntmps57
  go_wp2_with fail
  have X3 : Ext w (((w.alloc (.cells #[.pointer (some ⟨b, 0, none⟩)] 32)).alloc (.cells (chC (chB fb c)).toArray 80)).alloc (.cells #[.func (.func 38) #[.map (some mn)] #[]] 81)) := (((Ext.refl w).alloc _).alloc _).alloc _
  have M3 := H.out.ext X3
  have b2 := ((Blk.new w 32 #[.pointer (some ⟨b, 0, none⟩)]).alloc (.cells (chC (chB fb c)).toArray 80)).alloc (.cells #[.func (.func 38) #[.map (some mn)] #[]] 81)
  have b3 := (Blk.new (w.alloc (.cells #[.pointer (some ⟨b, 0, none⟩)] 32)) 80 (chC (chB fb c)).toArray).alloc (.cells #[.func (.func 38) #[.map (some mn)] #[]] 81)
  have b5 := Blk.new ((w.alloc (.cells #[.pointer (some ⟨b, 0, none⟩)] 32)).alloc (.cells (chC (chB fb c)).toArray 80)) 81 #[.func (.func 38) #[.map (some mn)] #[]]
  simp only [World.size_alloc] at b3 b5
  have hlt := H.out.lt
  have q := chg_op M3 c hd b5 b3 b2 (fun h => by have := hlt _ h; omega) (fun h => by have := hlt _ h; omega) (fun h => by have := hlt _ h; omega) ho ho2 ha ha2 ht hf hl hcl
  have Q := Lib.hid q
  have X := Lib.hid X3
  clear b2 b3 b5 hlt q M3 X3
  refine Calls.mono Q.out ?_
  rintro _ w1 ⟨rfl, x1, cv', m1, o1⟩
  have G := Lib.hid (And.intro x1 (And.intro m1 o1))
  clear x1 m1 o1
  go_wp2
  go_ret
  obtain ⟨x1, m1, o1⟩ := G.out
  exact ⟨rfl, (But.of_ext X.out).trans x1, cv', m1, o1.imp id (fun ⟨k, e1, e2⟩ => ⟨k, e1, Nat.le_trans X.out.size e2⟩)⟩
end Go.Proofs.YtmjkfgpkohfmiaaGreat
namespace Go.Proofs.YtmjkfgpkohfmiaaGreat
set_option linter.unusedVariables false
set_option linter.unusedSimpArgs false
open Go.RowKit

attribute [local go_sem] S_size S_toList S_append S_extract S_beq S_bne S_empty S_nil

theorem chk_len {s : List UInt8} (h : chk s = 0) : 1 ≤ s.length ∧ s.length ≤ 64 := by
  unfold chk at h
  split at h
  · rename_i h1; exact ⟨h1.1, h1.2.1⟩
  · exact absurd h (by decide)
theorem chk_or (s : List UInt8) : chk s = 0 ∨ chk s = 180 := by unfold chk; split; exact .inl rfl; exact .inr rfl
theorem blkN_app {fb : List Nat} {g i : Nat} (h : i < fb.length) : blkN (fb ++ [g]) i = blkN fb i := by
  unfold blkN
  rw [List.getD_eq_getElem?_getD, List.getD_eq_getElem?_getD, List.getElem?_append_left h]
theorem blkN_new (fb : List Nat) (g : Nat) : blkN (fb ++ [g]) fb.length = g := by
  unfold blkN
  rw [List.getD_eq_getElem?_getD, List.getElem?_append_right (Nat.le_refl _)]
  simp
theorem blks_app {fb : List Nat} {g : Nat} {l : List (List UInt8 × Nat)} (h : ∀ p ∈ l, p.2 < fb.length) : blks (fb ++ [g]) l = blks fb l := by
  unfold blks
  exact List.map_congr_left (fun p hp => by rw [blkN_app (h p hp)])
theorem chB_app {fb : List Nat} {g : Nat} {l : List (List UInt8 × List UInt8 × Option Nat)} (h : ∀ c ∈ l, ∀ n, c.2.2 = some n → n < fb.length) : l.map (chB (fb ++ [g])) = l.map (chB fb) := by
  refine List.map_congr_left (fun c hc => ?_)
  obtain ⟨t, f, o⟩ := c
  cases o with
  | none => rfl
  | some n => simp only [chB, Option.map_some, blkN_app (h _ hc n rfl)]
/-- a file more -/
def Dsk.more (d : Dsk) : Dsk := { d with files := d.files ++ [([], [])] }
theorem file_more (d : Dsk) {i : Nat} (h : i < d.files.length) : d.more.file i = d.file i := by
  unfold Dsk.file Dsk.more
  rw [List.getD_eq_getElem?_getD, List.getD_eq_getElem?_getD, List.getElem?_append_left h]
theorem file_new (d : Dsk) : d.more.file d.files.length = ([], []) := by
  unfold Dsk.file Dsk.more
  rw [List.getD_eq_getElem?_getD, List.getElem?_append_right (Nat.le_refl _)]
  simp
theorem MemD.more {w : World} {b : Nat} {d : Dsk} {fb : List Nat} {mn ms : Nat} {cv : Value} (h : MemD w b d fb mn ms cv) (ok : d.Ok) {g : Nat} (hg : Blk w g 84 #[.string (S []), .string (S [])]) (hn : g ∉ owns b mn ms cv fb) : MemD w b d.more (fb ++ [g]) mn ms cv where
  dsk := h.dsk
  now := by rw [show d.more.dir = d.dir from rfl, blks_app (fun p hp => by rw [h.len]; exact (ok.dirN p hp).2)]; exact h.now
  safe := by rw [show d.more.safe = d.safe from rfl, blks_app (fun p hp => by rw [h.len]; exact (ok.safeN p hp).2)]; exact h.safe
  chs := by rw [show d.more.chs = d.chs from rfl, chB_app (fun c hc n e => by rw [h.len]; exact ((ok.chsN c hc).2.2 n e).2)]; exact h.chs
  fls i hi := by
    rw [List.length_append, List.length_singleton] at hi
    by_cases e : i < fb.length
    · rw [blkN_app e, file_more d (by rw [← h.len]; exact e)]; exact h.fls i e
    · obtain rfl : i = fb.length := by omega
      rw [blkN_new, h.len, file_new]; exact hg
  len := by simp [Dsk.more, h.len]
  nod := by
    have h1 := h.nod
    unfold owns at h1 hn ⊢
    simp only [List.nodup_cons, List.mem_cons, List.mem_append, not_or, List.nodup_append, List.mem_singleton, List.not_mem_nil, or_false] at h1 hn ⊢
    obtain ⟨⟨p1, p2, p3, p4⟩, ⟨p5, p6, p7⟩, ⟨p8, p9⟩, p10, p11, p12⟩ := h1
    obtain ⟨n1, n2, n3, n4, n5⟩ := hn
    refine ⟨⟨p1, p2, p3, p4, fun e => n1 e.symm⟩, ⟨p5, p6, p7, fun e => n2 e.symm⟩, ⟨p8, p9, fun e => n3 e.symm⟩, p10, ⟨p11, by simp, fun a ha c hc e => n5 (by rw [← hc, ← e]; exact ha)⟩, fun a ha c hc => ?_⟩
    rcases hc with hc | rfl
    · exact p12 a ha c hc
    · exact fun e => n4 (e ▸ ha)

/-- what an op leaves -/
def OpR (w : World) (b : Nat) (d' : Dsk) (fb : List Nat) (mn ms : Nat) (cv : Value) (w' : World) : Prop :=
  But (owns b mn ms cv fb) w w' ∧ ∃ fb' mn' ms' cv', MemD w' b d' fb' mn' ms' cv' ∧ ∀ k ∈ owns b mn' ms' cv' fb', k ∈ owns b mn ms cv fb ∨ w.heap.size ≤ k
theorem OpR.same {w w' : World} {b : Nat} {d : Dsk} {fb : List Nat} {mn ms : Nat} {cv : Value} (h : MemD w b d fb mn ms cv) (x : Ext w w') : OpR w b d fb mn ms cv w' :=
  ⟨But.of_ext x, fb, mn, ms, cv, h.ext x, fun k hk => .inl hk⟩
theorem OpR.cv {w w1 w' : World} {b : Nat} {d' : Dsk} {fb fb' : List Nat} {mn ms : Nat} {cv cv' : Value} (x0 : Ext w w1) (x : But (b :: mn :: cv.ownBlock.toList) w1 w') (m : MemD w' b d' fb' mn ms cv') (ho : cv'.ownBlock = cv.ownBlock ∨ ∃ k, cv'.ownBlock = some k ∧ w1.heap.size ≤ k)
    (hfb : ∀ k ∈ fb', k ∈ fb ∨ w.heap.size ≤ k) : OpR w b d' fb mn ms cv w' := by
  refine ⟨(But.of_ext x0).trans (x.more ?_), fb', mn, ms, cv', m, ?_⟩
  · intro k hk
    simp only [List.mem_cons] at hk
    simp only [owns, List.mem_cons, List.mem_append]
    rcases hk with h | h | h
    · exact .inl h
    · exact .inr (.inl h)
    · exact .inr (.inr (.inr (.inl h)))
  · intro k hk
    simp only [owns, List.mem_cons, List.mem_append] at hk ⊢
    rcases hk with h | h | h | h | h
    · exact .inl (.inl h)
    · exact .inl (.inr (.inl h))
    · exact .inl (.inr (.inr (.inl h)))
    · rcases ho with e | ⟨k', e, h'⟩
      · exact .inl (.inr (.inr (.inr (.inl (e ▸ h)))))
      · rw [e] at h
        simp only [Option.toList_some, List.mem_singleton] at h
        exact .inr (by have := x0.size; omega)
    · exact (hfb k h).imp (fun h => .inr (.inr (.inr (.inr h)))) id

set_option maxRecDepth 20000 in
set_option maxHeartbeats 2000000 in
theorem create_any {w : World} {b : Nat} {d : Dsk} {fb : List Nat} {mn ms : Nat} {cv : Value} (h : MemD w b d fb mn ms cv) (ok : d.Ok) (hop : d.ops ≤ 100000000) (s : List UInt8) (hs : s.length ≤ maxLen) :
    Calls Tryz.prog 22 #[.pointer (some ⟨b, 0, none⟩), .string (S s)] w fun e w' => e = .returned (.int .i64 (d.create s).2) ∧ OpR w b (d.create s).1 fb mn ms cv w' := by
  have HR := Lib.hid (fun (w' : World) (x : Ext w w') => OpR.same h x)
  have qu := Lib.hid (up_any h.dsk)
  by_cases h1 : d.dead = true
  · have E := Lib.hid (show d.create s = (d, 200) from if_pos h1)
    rw [h1] at qu
    go_enter Tryz.func22, Tryz.ntmps22
    go_wp2_with fail
    refine qu.out.mono ?_
    rintro _ w1 ⟨rfl, rfl⟩
    go_wp2
    go_ret
    exact ⟨by rw [E.out]; rfl, by rw [E.out]; exact HR.out _ (Ext.refl _)⟩
  have hd : d.dead = false := by simpa using h1
  rw [hd] at qu
  have hlen : (s.length : Int) ≤ 9223372036854775807 := by unfold maxLen at hs; omega
  have qc := Lib.hid (check_any s w hlen)
  rcases chk_or s with hc | hc
  case inr =>
    have E := Lib.hid (show d.create s = (d, 180) by simp [Dsk.create, hd, hc])
    rw [hc] at qc
    clear hc h1
    go_enter Tryz.func22, Tryz.ntmps22
    go_wp2_with fail
    refine qu.out.mono ?_
    rintro _ w1 ⟨rfl, rfl⟩
    go_wp2_with fail
    refine qc.out.mono ?_
    rintro _ w2 ⟨rfl, x2⟩
    go_wp2
    go_ret
    exact ⟨by rw [E.out]; rfl, by rw [E.out]; exact HR.out _ x2⟩
  have hl64 := chk_len hc
  rw [hc] at qc
  have H := Lib.hid h
  cases hg : dGet s d.dir with
  | some n =>
    have E := Lib.hid (show d.create s = (d, 202) by simp [Dsk.create, hd, hc, hg])
    clear hc h1 hl64
    go_enter Tryz.func22, Tryz.ntmps22
    go_wp2_with fail
    refine qu.out.mono ?_
    rintro _ w1 ⟨rfl, rfl⟩
    go_wp2_with fail
    refine qc.out.mono ?_
    rintro _ w2 ⟨rfl, x2⟩
    have M2 := Lib.hid (H.out.ext x2)
    have c0 := DskB.c0 M2.out.dsk
    have hlk := HasDir.look M2.out.now hs
    rw [dGet_blks, hg] at hlk
    simp only [Option.map_some, Option.isSome_some, ptrV] at hlk
    go_wp2
    go_ret
    exact ⟨by rw [E.out]; rfl, by rw [E.out]; exact HR.out _ x2⟩
  | none =>
    by_cases hfull : 200 ≤ d.dir.length
    · have E := Lib.hid (show d.create s = (d, 203) by simp [Dsk.create, hd, hc, hg, hfull])
      have hfi : (200 : Int) ≤ (d.dir.length : Int) := by omega
      clear hc h1 hl64
      go_enter Tryz.func22, Tryz.ntmps22
      go_wp2_with fail
      refine qu.out.mono ?_
      rintro _ w1 ⟨rfl, rfl⟩
      go_wp2_with fail
      refine qc.out.mono ?_
      rintro _ w2 ⟨rfl, x2⟩
      have M2 := Lib.hid (H.out.ext x2)
      have c0 := DskB.c0 M2.out.dsk
      have hlk := HasDir.look M2.out.now hs
      have hll := HasDir.len M2.out.now
      rw [dGet_blks, hg] at hlk
      rw [blks_length] at hll
      simp only [Option.map_none, Option.isSome_none, ptrV] at hlk
      go_wp2
      go_ret
      exact ⟨by rw [E.out]; rfl, by rw [E.out]; exact HR.out _ x2⟩
    · have E := Lib.hid (show d.create s = (d.more.chg (s, [], some d.files.length), d.tld) by simp [Dsk.create, hd, hc, hg, hfull, Dsk.more])
      have hfi : ¬ (200 : Int) ≤ (d.dir.length : Int) := by omega
      have OK := Lib.hid ok
      clear hc h1 ok
      go_enter Tryz.func22, Tryz.ntmps22
      go_wp2_with fail
      refine qu.out.mono ?_
      rintro _ w1 ⟨rfl, rfl⟩
      go_wp2_with fail
      refine qc.out.mono ?_
      rintro _ w2 ⟨rfl, x2⟩
      have M2 := Lib.hid (H.out.ext x2)
      have c0 := DskB.c0 M2.out.dsk
      have hlk := HasDir.look M2.out.now hs
      have hll := HasDir.len M2.out.now
      rw [dGet_blks, hg] at hlk
      rw [blks_length] at hll
      simp only [Option.map_none, Option.isSome_none, ptrV] at hlk
      go_wp2_with fail
      have M3 := MemD.more (M2.out.ext ((Ext.refl w2).alloc (.cells #[.string (S []), .string (S [])] 84))) OK.out (Blk.new w2 _ _) (fun hm => by have := M2.out.lt _ hm; omega)
      have q := changed_any M3 (s, [], some d.files.length) hd (by have := OK.out.dirL; show 0 ≤ d.ops; omega) (by show d.ops ≤ _; omega) OK.out.arm0 OK.out.arm1 hs (by simp) (by show d.dir.length ≤ _; have := OK.out.dirL; omega) (by show d.chs.length ≤ _; have := OK.out.safeL; omega)
      rw [show chC (chB (fb ++ [w2.heap.size]) (s, [], some d.files.length)) = [.string (S s), .string (S []), .pointer (some ⟨w2.heap.size, 0, none⟩)] by
        unfold chC chB
        simp only [Option.map_some]
        rw [← H.out.len, blkN_new]; rfl] at q
      have Q := Lib.hid q
      clear q M3 hlk hll
      refine Calls.mono Q.out ?_
      rintro _ w3 ⟨rfl, x3, cv', m3, o3⟩
      have G := Lib.hid (And.intro x3 (And.intro m3 o3))
      clear x3 m3 o3
      go_wp2
      go_ret
      obtain ⟨x3, m3, o3⟩ := G.out
      rw [E.out]
      refine ⟨rfl, OpR.cv (x2.alloc _) x3 m3 o3 (fun k hk => ?_)⟩
      rw [List.mem_append, List.mem_singleton] at hk
      exact hk.imp id (fun e => by have := x2.size; omega)
end Go.Proofs.YtmjkfgpkohfmiaaGreat
namespace Go.Proofs.YtmjkfgpkohfmiaaGreat
set_option linter.unusedVariables false
set_option linter.unusedSimpArgs false
open Go.RowKit

attribute [local go_sem] S_size S_toList S_append S_extract S_beq S_bne S_empty S_nil

theorem find_mem {w : World} {b : Nat} {d : Dsk} {fb : List Nat} {mn ms : Nat} {cv : Value} (h : MemD w b d fb mn ms cv) (s : List UInt8) (hs : s.length ≤ maxLen) :
    Calls Tryz.prog 51 #[.pointer (some ⟨b, 0, none⟩), .string (S s)] w fun e w' =>
      e = .returned (.tuple #[if d.dead then .pointer none else ptrV ((dGet s d.dir).map (blkN fb)), .int .i64 (if d.dead then 200 else if (dGet s d.dir).isSome then 0 else 201)]) ∧ w = w' := by
  have q := find_any h.dsk h.now s hs
  rw [dGet_blks, Option.isSome_map] at q
  exact q

set_option maxRecDepth 20000 in
set_option maxHeartbeats 2000000 in
theorem remove_any {w : World} {b : Nat} {d : Dsk} {fb : List Nat} {mn ms : Nat} {cv : Value} (h : MemD w b d fb mn ms cv) (ok : d.Ok) (hop : d.ops ≤ 100000000) (s : List UInt8) (hs : s.length ≤ maxLen) :
    Calls Tryz.prog 50 #[.pointer (some ⟨b, 0, none⟩), .string (S s)] w fun e w' => e = .returned (.int .i64 (d.remove s).2) ∧ OpR w b (d.remove s).1 fb mn ms cv w' := by
  have HR := Lib.hid (fun (w' : World) (x : Ext w w') => OpR.same h x)
  have q := find_mem h s hs
  cases hd : d.dead with
  | true =>
    have E := Lib.hid (show d.remove s = (d, 200) from if_pos hd)
    rw [hd] at q
    have Q := Lib.hid q
    clear q
    go_enter Tryz.func50, Tryz.ntmps50
    go_wp2_with fail
    refine Q.out.mono ?_
    rintro _ w1 ⟨rfl, rfl⟩
    go_wp2
    go_ret
    exact ⟨by rw [E.out]; rfl, by rw [E.out]; exact HR.out _ (Ext.refl _)⟩
  | false =>
    rw [hd] at q
    cases hg : dGet s d.dir with
    | none =>
      have E := Lib.hid (show d.remove s = (d, 201) by simp [Dsk.remove, hd, hg])
      rw [hg] at q
      have Q := Lib.hid q
      clear q
      go_enter Tryz.func50, Tryz.ntmps50
      go_wp2_with fail
      refine Q.out.mono ?_
      rintro _ w1 ⟨rfl, rfl⟩
      go_wp2
      go_ret
      exact ⟨by rw [E.out]; rfl, by rw [E.out]; exact HR.out _ (Ext.refl _)⟩
    | some n =>
      have E := Lib.hid (show d.remove s = (d.chg ([], s, none), d.tld) by simp [Dsk.remove, hd, hg])
      rw [hg] at q
      have Q := Lib.hid q
      have C := Lib.hid (changed_any h ([], s, none) hd (by have := ok.dirL; omega) (by omega) ok.arm0 ok.arm1 (by simp) hs (by have := ok.dirL; omega) (by have := ok.safeL; omega))
      clear q
      go_enter Tryz.func50, Tryz.ntmps50
      go_wp2_with fail
      refine Q.out.mono ?_
      rintro _ w1 ⟨rfl, rfl⟩
      go_wp2_with fail
      refine Calls.mono C.out ?_
      rintro _ w3 ⟨rfl, x3, cv', m3, o3⟩
      have G := Lib.hid (And.intro x3 (And.intro m3 o3))
      clear x3 m3 o3
      go_wp2
      go_ret
      obtain ⟨x3, m3, o3⟩ := G.out
      rw [E.out]
      exact ⟨rfl, OpR.cv (Ext.refl _) x3 m3 o3 (fun k hk => .inl hk)⟩

set_option maxRecDepth 20000 in
set_option maxHeartbeats 2000000 in
theorem rename_any {w : World} {b : Nat} {d : Dsk} {fb : List Nat} {mn ms : Nat} {cv : Value} (h : MemD w b d fb mn ms cv) (ok : d.Ok) (hop : d.ops ≤ 100000000) (s t : List UInt8) (hs : s.length ≤ maxLen) (ht : t.length ≤ maxLen) :
    Calls Tryz.prog 29 #[.pointer (some ⟨b, 0, none⟩), .string (S s), .string (S t)] w fun e w' => e = .returned (.int .i64 (d.rename s t).2) ∧ OpR w b (d.rename s t).1 fb mn ms cv w' := by
  have HR := Lib.hid (fun (w' : World) (x : Ext w w') => OpR.same h x)
  have q := find_mem h s hs
  cases hd : d.dead with
  | true =>
    have E := Lib.hid (show d.rename s t = (d, 200) from if_pos hd)
    rw [hd] at q
    have Q := Lib.hid q
    clear q
    go_enter Tryz.func29, Tryz.ntmps29
    go_wp2_with fail
    refine Q.out.mono ?_
    rintro _ w1 ⟨rfl, rfl⟩
    go_wp2
    go_ret
    exact ⟨by rw [E.out]; rfl, by rw [E.out]; exact HR.out _ (Ext.refl _)⟩
  | false =>
    rw [hd] at q
    cases hg : dGet s d.dir with
    | none =>
      have E := Lib.hid (show d.rename s t = (d, 201) by simp [Dsk.rename, hd, hg])
      rw [hg] at q
      have Q := Lib.hid q
      clear q
      go_enter Tryz.func29, Tryz.ntmps29
      go_wp2_with fail
      refine Q.out.mono ?_
      rintro _ w1 ⟨rfl, rfl⟩
      go_wp2
      go_ret
      exact ⟨by rw [E.out]; rfl, by rw [E.out]; exact HR.out _ (Ext.refl _)⟩
    | some n =>
      rw [hg] at q
      simp only [Option.map_some, ptrV, Option.isSome_some, if_true, Bool.false_eq_true, if_false] at q
      have Q := Lib.hid q
      clear q
      have qc := Lib.hid (check_any t w (by unfold maxLen at ht; omega))
      rcases chk_or t with hc | hc
      case inr =>
        have E := Lib.hid (show d.rename s t = (d, 180) by simp [Dsk.rename, hd, hg, hc])
        rw [hc] at qc
        clear hc
        go_enter Tryz.func29, Tryz.ntmps29
        go_wp2_with fail
        refine Q.out.mono ?_
        rintro _ w1 ⟨rfl, rfl⟩
        go_wp2_with fail
        refine qc.out.mono ?_
        rintro _ w2 ⟨rfl, x2⟩
        go_wp2
        go_ret
        exact ⟨by rw [E.out]; rfl, by rw [E.out]; exact HR.out _ x2⟩
      rw [hc] at qc
      by_cases he : s = t
      · subst he
        have E := Lib.hid (show d.rename s s = (d, 2) by simp [Dsk.rename, hd, hg, hc])
        clear hc
        go_enter Tryz.func29, Tryz.ntmps29
        go_wp2_with fail
        refine Q.out.mono ?_
        rintro _ w1 ⟨rfl, rfl⟩
        go_wp2_with fail
        refine qc.out.mono ?_
        rintro _ w2 ⟨rfl, x2⟩
        go_wp2
        go_ret
        exact ⟨by rw [E.out]; rfl, by rw [E.out]; exact HR.out _ x2⟩
      · have E := Lib.hid (show d.rename s t = (d.chg (t, s, some n), d.tld) by simp [Dsk.rename, hd, hg, hc, he])
        have hbe : (s == t) = false := by simpa using he
        have H := Lib.hid h
        have OK := Lib.hid ok
        clear hc he ok h
        go_enter Tryz.func29, Tryz.ntmps29
        go_wp2_with fail
        refine Q.out.mono ?_
        rintro _ w1 ⟨rfl, rfl⟩
        go_wp2_with fail
        refine qc.out.mono ?_
        rintro _ w2 ⟨rfl, x2⟩
        have C := Lib.hid (changed_any (H.out.ext x2) (t, s, some n) hd (by have := OK.out.dirL; omega) (by omega) OK.out.arm0 OK.out.arm1 ht hs (by have := OK.out.dirL; omega) (by have := OK.out.safeL; omega))
        go_wp2_with fail
        refine Calls.mono C.out ?_
        rintro _ w3 ⟨rfl, x3, cv', m3, o3⟩
        have G := Lib.hid (And.intro x3 (And.intro m3 o3))
        clear x3 m3 o3
        go_wp2
        go_ret
        obtain ⟨x3, m3, o3⟩ := G.out
        rw [E.out]
        exact ⟨rfl, OpR.cv x2 x3 m3 o3 (fun k hk => .inl hk)⟩
end Go.Proofs.YtmjkfgpkohfmiaaGreat
