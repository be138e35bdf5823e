/- Several texts in one. merged: DkH DkI DkJ DkK DkL -/
import Derived.Test.YtmjkfgpkohfmiaaGreatTgR
import Derived.Test.YtmjkfgpkohfmiaaGreatGen
import Derived.Sort.KeysCollected
import Derived.LoopTactic
import Derived.BigGuard
namespace Go.Proofs.YtmjkfgpkohfmiaaGreat
set_option linter.unusedVariables false
set_option linter.unusedSimpArgs false
open Go.RowKit

attribute [local go_sem] S_size S_toList S_append S_extract S_beq S_bne S_empty S_nil file_f0 file_f1

def fV (f : List UInt8 × List UInt8) : Array Value := #[.string (S f.1), .string (S f.2)]
theorem fV_size (f : List UInt8 × List UInt8) : (Tryz.prog.info? 84).map (·.size) = some (fV f).size := by kernel_rfl
theorem fV_one (f : List UInt8 × List UInt8) : (fV f).all (·.oneCell') = true := by kernel_rfl
/-- what a closure does to a file -/
def FilR (k : Nat) (f : List UInt8 × List UInt8) (W w' : World) : Prop := But [k] W w' ∧ Blk w' k 84 (fV f)

set_option maxRecDepth 20000 in
theorem append1_any {W : World} {g9 g7 k : Nat} {f g : List UInt8 × List UInt8} (h9 : Blk W g9 84 (fV f)) (h7 : Blk W g7 78 #[.pointer (some ⟨k, 0, none⟩)]) (hk : Blk W k 84 (fV g)) :
    Calls Tryz.prog 86 #[.pointer (some ⟨g9, 0, none⟩), .pointer (some ⟨g7, 0, none⟩)] W fun e w' => e = .returned (.tuple #[]) ∧ FilR k f W w' := by
  have c7 := h7.cell 0
  have H9 := Lib.hid h9
  have HK := Lib.hid hk
  have HS := Lib.hid (fV_size f)
  have HO := Lib.hid (fV_one f)
  clear h9 hk h7
  go_enter Tryz.func86, Tryz.ntmps86
  go_wp2_with (first | (refine wpList_load_blk rfl 84 (.tmp 0) rfl rfl H9.out Tryz.underlying84 rfl HS.out ?_) | (refine wpList_store_blk rfl 84 (.tmp 4) (.tmp 3) rfl rfl rfl HK.out rfl HS.out HO.out ?_))
  exact bodyPost_end (v := .tuple #[]) (by simp [results, Tryz.results86]) rfl ⟨rfl, But.grown (grownBy_setRow W k (fV f)) (fun j hj => by injection hj with hj; simp [hj]), HK.out.setRow (fV f)⟩
set_option maxRecDepth 20000 in
theorem cut1_any {W : World} {g9 g7 k : Nat} {f g : List UInt8 × List UInt8} (h9 : Blk W g9 84 (fV f)) (h7 : Blk W g7 78 #[.pointer (some ⟨k, 0, none⟩)]) (hk : Blk W k 84 (fV g)) :
    Calls Tryz.prog 88 #[.pointer (some ⟨g9, 0, none⟩), .pointer (some ⟨g7, 0, none⟩)] W fun e w' => e = .returned (.tuple #[]) ∧ FilR k f W w' := by
  have c7 := h7.cell 0
  have H9 := Lib.hid h9
  have HK := Lib.hid hk
  have HS := Lib.hid (fV_size f)
  have HO := Lib.hid (fV_one f)
  clear h9 hk h7
  go_enter Tryz.func88, Tryz.ntmps88
  go_wp2_with (first | (refine wpList_load_blk rfl 84 (.tmp 0) rfl rfl H9.out Tryz.underlying84 rfl HS.out ?_) | (refine wpList_store_blk rfl 84 (.tmp 4) (.tmp 3) rfl rfl rfl HK.out rfl HS.out HO.out ?_))
  exact bodyPost_end (v := .tuple #[]) (by simp [results, Tryz.results88]) rfl ⟨rfl, But.grown (grownBy_setRow W k (fV f)) (fun j hj => by injection hj with hj; simp [hj]), HK.out.setRow (fV f)⟩
set_option maxRecDepth 20000 in
set_option maxHeartbeats 1000000 in
theorem sync1_any {W : World} {g5 k : Nat} {g : List UInt8 × List UInt8} (h5 : Blk W g5 78 #[.pointer (some ⟨k, 0, none⟩)]) (hk : Blk W k 84 (fV g)) :
    Calls Tryz.prog 53 #[.pointer (some ⟨g5, 0, none⟩)] W fun e w' => e = .returned (.tuple #[]) ∧ FilR k (g.2, g.2) W w' := by
  have c5 : ∀ x : Up W.drew, x.val.cell? ⟨g5, 0, none⟩ = some (.pointer (some ⟨k, 0, none⟩)) := up_cell (h5.drew.cell 0)
  have HK := Lib.hid hk
  have HS := Lib.hid (fV_size g)
  have HS2 := Lib.hid (fV_size (g.2, g.2))
  have HO := Lib.hid (fV_one (g.2, g.2))
  have q := Lib.hid (fun w => fsync_any g.1 g.2 w)
  clear hk h5
  go_enter Tryz.func53, Tryz.ntmps53
  go_wp2
  refine wp_region_lex _ rfl (by kernel_rfl) ?_
  iterate 3
    (refine lex_want (by kernel_rfl) (by kernel_rfl) (by kernel_rfl) rfl (fun _ _ _ _ h => h) (by kernel_rfl) (fun K hK => ?_)
     go_simp
     (refine hK _ ?_; clear hK K))
  refine lex_load_blk (by kernel_rfl) (by kernel_rfl) (by kernel_rfl) rfl (fun _ _ _ _ h => h) (by kernel_rfl) 84 (.tmp 3) rfl rfl HK.out.drew Tryz.underlying84 rfl HS.out ?_
  dsimp only [Act.put]
  simp only [List.setIfInBounds_toArray, List.set_cons_succ, List.set_cons_zero]
  (refine lex_want (by kernel_rfl) (by kernel_rfl) (by kernel_rfl) rfl (fun _ _ _ _ h => h) (by kernel_rfl) (fun K hK => ?_)
   go_simp
   (apply Exists.intro; refine ⟨fun x => ?_, hK _ ?_⟩; exact q.out _; clear hK K))
  (refine lex_want (by kernel_rfl) (by kernel_rfl) (by kernel_rfl) rfl (fun _ _ _ _ h => h) (by kernel_rfl) (fun K hK => ?_)
   go_simp
   (refine hK _ ?_; clear hK K))
  refine lex_last (by kernel_rfl) rfl (by kernel_rfl) (by kernel_rfl) (by kernel_rfl) (fun x K hK => ?_)
  have B := Lib.hid (HK.out.drew.ext x.ext)
  refine wp_store_blk 84 (.tmp 6) (.tmp 5) rfl rfl (cs' := fV (g.2, g.2)) rfl B.out rfl HS2.out HO.out (hK _ _ (fun y => ?_))
  exact bodyPost_end (v := .tuple #[]) (by simp [results, Tryz.results53]) rfl ⟨rfl, (((But.of_ext (((Ext.refl W).drew).trans x.ext)).trans (But.grown (grownBy_setRow x.val k _) (fun j hj => by injection hj with hj; simp [hj]))).trans (But.of_ext y.ext)), (B.out.setRow (fV (g.2, g.2))).ext y.ext⟩

theorem blkN_ne {fb : List Nat} (hn : fb.Nodup) {i j : Nat} (hi : i < fb.length) (hj : j < fb.length) (h : i ≠ j) : blkN fb i ≠ blkN fb j := by
  unfold blkN
  rw [List.getD_eq_getElem?_getD, List.getD_eq_getElem?_getD, List.getElem?_eq_getElem hi, List.getElem?_eq_getElem hj]
  simp only [Option.getD_some]
  intro e
  rcases Nat.lt_or_gt_of_ne h with hl | hl
  · exact (List.pairwise_iff_getElem.1 hn) i j hi hj hl e
  · exact (List.pairwise_iff_getElem.1 hn) j i hj hi hl e.symm
theorem file_put (d : Dsk) {n : Nat} (hn : n < d.files.length) (f : List UInt8 × List UInt8) (i : Nat) : (d.put n f).file i = if i = n then f else d.file i := by
  unfold Dsk.file Dsk.put
  simp only [List.getD_eq_getElem?_getD]
  by_cases h : i = n
  · subst h
    rw [if_pos rfl, List.getElem?_set_self hn]; rfl
  · rw [if_neg h, List.getElem?_set_ne (fun e => h e.symm)]
/-- a file is turned -/
theorem MemD.put {W w1 : World} {b : Nat} {d : Dsk} {fb : List Nat} {mn ms : Nat} {cv : Value} (h : MemD W b d fb mn ms cv) {n : Nat} (hn : n < fb.length) {f : List UInt8 × List UInt8} (x : FilR (blkN fb n) f W w1) : MemD w1 b (d.put n f) fb mn ms cv := by
  have nod := h.nod
  simp only [owns, List.nodup_cons, List.mem_cons, List.mem_append, not_or, List.nodup_append] at nod
  obtain ⟨⟨p1, p2, p3, p4⟩, ⟨p5, p6, p7⟩, ⟨p8, p9⟩, p10, p11, p12⟩ := nod
  have hm := blkN_mem hn
  have ne : ∀ {k : Nat}, k ≠ blkN fb n → k ∉ [blkN fb n] := fun h => by simpa using h
  refine ⟨Blk.but h.dsk x.1 (ne (fun e => p4 (e ▸ hm))), h.now.but x.1 (ne (fun e => p7 (e ▸ hm))), h.safe.but x.1 (ne (fun e => p9 (e ▸ hm))), h.chs.butO x.1 (fun k hk => ne (fun e => p12 k (by simp [hk]) _ hm e)), fun i hi => ?_, by rw [h.len]; simp [Dsk.put], h.nod⟩
  rw [file_put d (by rw [← h.len]; exact hn)]
  split
  · rename_i e; subst e; exact x.2
  · rename_i e
    exact (h.fls i hi).but x.1 (ne (blkN_ne p11 hi hn e))
theorem MemD.cnt {W : World} {b : Nat} {d : Dsk} {fb : List Nat} {mn ms : Nat} {cv : Value} (h : MemD W b d fb mn ms cv) (hd : d.dead = false) (h1 : d.armed ≠ 1) : MemD (opW W b (d.ops + 1) (max (d.armed - 1) 0)) b d.cnt fb mn ms cv := by
  have hk := opW_dsk h.dsk (d.ops + 1) (max (d.armed - 1) 0)
  have nod := h.nod
  simp only [owns, List.nodup_cons, List.mem_cons, List.mem_append, not_or, List.nodup_append] at nod
  obtain ⟨⟨p1, p2, p3, p4⟩, ⟨p5, p6, p7⟩, ⟨p8, p9⟩, p10, p11, p12⟩ := nod
  have ne : ∀ {k : Nat}, k ≠ b → k ∉ [b] := fun h => by simpa using h
  have x := opW_but W b (d.ops + 1) (max (d.armed - 1) 0)
  have e : d.cnt.dead = d.dead := by simp [Dsk.cnt, h1, hd]
  exact ⟨by rw [e]; exact hk, h.now.but x (ne (fun e => p1 e.symm)), h.safe.but x (ne (fun e => p2 e.symm)), h.chs.butO x (fun k hk => ne (fun e => p3 (by rw [← e]; simp [hk]))), fun i hi => (h.fls i hi).but x (ne (fun e => p4 (e ▸ blkN_mem hi))), h.len, h.nod⟩
theorem MemD.die {W : World} {b : Nat} {d : Dsk} {fb : List Nat} {mn ms : Nat} {cv : Value} (h : MemD W b d fb mn ms cv) : MemD (W.setCell ⟨b, 6, none⟩ (.bool true)) b { d with dead := true } fb mn ms cv := by
  have nod := h.nod
  simp only [owns, List.nodup_cons, List.mem_cons, List.mem_append, not_or, List.nodup_append] at nod
  obtain ⟨⟨p1, p2, p3, p4⟩, ⟨p5, p6, p7⟩, ⟨p8, p9⟩, p10, p11, p12⟩ := nod
  have ne : ∀ {k : Nat}, k ≠ b → k ∉ [b] := fun h => by simpa using h
  have x := (But.refl [b] W).set (p := ⟨b, 6, none⟩) (List.mem_singleton.2 rfl) (.bool true)
  exact ⟨h.dsk.s6 true, h.now.but x (ne (fun e => p1 e.symm)), h.safe.but x (ne (fun e => p2 e.symm)), h.chs.butO x (fun k hk => ne (fun e => p3 (by rw [← e]; simp [hk]))), fun i hi => (h.fls i hi).but x (ne (fun e => p4 (e ▸ blkN_mem hi))), h.len, h.nod⟩
/-- an op counted: the one that is armed too -/
theorem MemD.cnt' {W : World} {b : Nat} {d : Dsk} {fb : List Nat} {mn ms : Nat} {cv : Value} (h : MemD W b d fb mn ms cv) : MemD (opW W b (d.ops + 1) (max (d.armed - 1) 0)) b { d.cnt with dead := d.dead } fb mn ms cv := by
  have hk := opW_dsk h.dsk (d.ops + 1) (max (d.armed - 1) 0)
  have nod := h.nod
  simp only [owns, List.nodup_cons, List.mem_cons, List.mem_append, not_or, List.nodup_append] at nod
  obtain ⟨⟨p1, p2, p3, p4⟩, ⟨p5, p6, p7⟩, ⟨p8, p9⟩, p10, p11, p12⟩ := nod
  have ne : ∀ {k : Nat}, k ≠ b → k ∉ [b] := fun h => by simpa using h
  have x := opW_but W b (d.ops + 1) (max (d.armed - 1) 0)
  exact ⟨hk, h.now.but x (ne (fun e => p1 e.symm)), h.safe.but x (ne (fun e => p2 e.symm)), h.chs.butO x (fun k hk => ne (fun e => p3 (by rw [← e]; simp [hk]))), fun i hi => (h.fls i hi).but x (ne (fun e => p4 (e ▸ blkN_mem hi))), h.len, h.nod⟩
end Go.Proofs.YtmjkfgpkohfmiaaGreat
namespace Go.Proofs.YtmjkfgpkohfmiaaGreat
set_option linter.unusedVariables false
set_option linter.unusedSimpArgs false
open Go.RowKit Go.Maps

attribute [local go_sem] S_size S_toList S_append S_extract S_beq S_bne S_empty S_nil

/-- the sum over those that are not left to come -/
def sumF (len : Nat → Int) (left : List UInt8 → Bool) (L : List (List UInt8 × Nat)) : Int := (L.map fun p => if left p.1 then 0 else len p.2).sum
theorem sumF_all (len : Nat → Int) {left : List UInt8 → Bool} {L : List (List UInt8 × Nat)} (h : ∀ p ∈ L, left p.1 = true) : sumF len left L = 0 := by
  induction L with
  | nil => rfl
  | cons p r ih =>
    have h1 := h p (by simp)
    have h2 := ih (fun q hq => h q (by simp [hq]))
    unfold sumF at h2 ⊢
    rw [List.map_cons, List.sum_cons, h2, h1]; simp
theorem sumF_none (len : Nat → Int) {left : List UInt8 → Bool} {L : List (List UInt8 × Nat)} (h : ∀ p ∈ L, left p.1 = false) : sumF len left L = (L.map fun p => len p.2).sum := by
  unfold sumF
  congr 1
  exact List.map_congr_left (fun p hp => by rw [h p hp]; simp)
theorem sumF_congr (len : Nat → Int) {f g : List UInt8 → Bool} {L : List (List UInt8 × Nat)} (h : ∀ p ∈ L, f p.1 = g p.1) : sumF len f L = sumF len g L := by
  unfold sumF
  congr 1
  exact List.map_congr_left (fun p hp => by rw [h p hp])
theorem sumF_step (len : Nat → Int) {left : List UInt8 → Bool} {s : List UInt8} {n : Nat} : ∀ {L : List (List UInt8 × Nat)}, L.Pairwise (fun p q => p.1 ≠ q.1) → (s, n) ∈ L → left s = true → sumF len (fun x => left x && !(x == s)) L = sumF len left L + len n
  | [], _, h, _ => by simp at h
  | q :: r, hp, h, hs => by
    obtain ⟨h1, h2⟩ := List.pairwise_cons.1 hp
    rcases List.mem_cons.1 h with e | h
    · subst e
      have : sumF len (fun x => left x && !(x == s)) r = sumF len left r := sumF_congr len (fun p hp => by
        have : (p.1 == s) = false := by simpa using fun e => h1 p hp e.symm
        simp [this])
      unfold sumF at this ⊢
      rw [List.map_cons, List.sum_cons, List.map_cons, List.sum_cons, this, hs]
      simp; omega
    · have hne : (q.1 == s) = false := by simpa using h1 _ h
      have := sumF_step len h2 h hs
      unfold sumF at this ⊢
      rw [List.map_cons, List.sum_cons, List.map_cons, List.sum_cons, this]
      simp only [hne, Bool.not_false, Bool.and_true]; omega
theorem sumF_le (len : Nat → Int) {left : List UInt8 → Bool} {L : List (List UInt8 × Nat)} (h : ∀ p ∈ L, 0 ≤ len p.2 ∧ len p.2 ≤ 1000000) : 0 ≤ sumF len left L ∧ sumF len left L ≤ 1000000 * (L.length : Int) := by
  induction L with
  | nil => exact ⟨Int.le_refl _, by simp [sumF]⟩
  | cons p r ih =>
    have h1 := h p (by simp)
    have h2 := ih (fun q hq => h q (by simp [hq]))
    unfold sumF at h2 ⊢
    rw [List.map_cons, List.sum_cons, List.length_cons]
    split <;> omega
theorem dGet_mem {s : List UInt8} {n : Nat} {L : List (List UInt8 × Nat)} (h : dGet s L = some n) : (s, n) ∈ L := by
  unfold dGet at h
  obtain ⟨p, hp, rfl⟩ := Option.map_eq_some_iff.1 h
  have h1 := List.mem_of_find?_eq_some hp
  have h2 := List.find?_some hp
  simp only [beq_iff_eq] at h2
  rw [← h2]; exact h1
theorem before_ne {l : List (List UInt8 × Nat)} (h : l.Pairwise (fun p q => bytesBefore p.1 q.1 = true)) : l.Pairwise (fun p q => p.1 ≠ q.1) :=
  h.imp (fun {a b} hab e => by
    have := Go.WideShapes.before_irrefl (.string a.1)
    rw [e] at hab
    rw [e] at this
    exact absurd (hab.symm.trans this) (by decide))

theorem Ext.trans_range {a b c : World} {r : Nat} (h : Ext a b) (k : b.grownBy c (some r)) (hr : a.heap.size ≤ r := by omega) : Ext a c := Ext.grown h k (fun j hj => by injection hj with hj; omega)
set_option maxRecDepth 20000 in
set_option maxHeartbeats 1000000 in
theorem usedL_any {w : World} {b mn ms : Nat} {cv : Value} {cap ops armed : Int} {off : Bool} (h : DskB w b mn ms cv cap ops armed off) {L : List (List UInt8 × Nat)} (hd : HasDir w mn L) (fl : Nat → List UInt8 × List UInt8)
    (hf : ∀ p ∈ L, Blk w p.2 84 (fV (fl p.2)) ∧ (fl p.2).2.length ≤ 1000000) (hL : L.length ≤ 1000000000) :
    Calls Tryz.prog 85 #[.pointer (some ⟨b, 0, none⟩)] w fun e w' => e = .returned (.int .i64 (L.map fun p => ((fl p.2).2.length : Int)).sum) ∧ Ext w w' := by
  have c0 := h.c0
  have HF := Lib.hid hf
  have HD := Lib.hid hd
  have PW := Lib.hid (before_ne hd.canon)
  have HLE := Lib.hid (fun left => sumF_le (fun k => ((fl k).2.length : Int)) (left := left) (L := L) (fun p hp => ⟨by omega, by have := (hf p hp).2; omega⟩))
  have HL := Lib.hid hL
  clear hf hd hL h
  go_enter Tryz.func85, Tryz.ntmps85
  go_wp2_with (first | (at_range; refine wpList_range_own _ rfl _ 60 rfl 9 _ dir_keyed Tryz.underlying60 ptrR mn L.length (dirD L) rfl HD.out ?_; intro w0 hrg0 hg0 hs0))
  go_frame
  have X0 := Lib.hid (show Ext w w0 from ⟨hg0.os, hg0.tape, hg0.output, hg0.size, fun k hk => hg0.block k hk (by simp)⟩)
  have HR0 := Lib.hid hrg0
  clear hg0 hs0 hrg0 c0
  go_loopw [3] (fun n wr => ∃ (left : Lit → Bool) (cnt : Nat), wr.ranges Tryz.prog 9 ptrR mn w.heap.size L.length (dirD L) left cnt ∧ n = .int .i64 (sumF (fun k => ((fl k).2.length : Int)) (fun x => left (.string x)) L) ∧ Ext w wr) (fun _ wr => wr.rangeLeft mn w.heap.size)
  case atStart =>
    refine ⟨_, _, HR0.out, ?_, X0.out⟩
    rw [sumF_all]
    intro p hp
    rw [dirD_has]
    have : (dGet p.1 L).isSome = true := by
      unfold dGet
      rw [Option.isSome_map, List.find?_isSome]
      exact ⟨p, hp, by simp⟩
    exact this
  case round =>
    obtain ⟨left, cnt, hrg, rfl, hx⟩ := hrel
    have HRG := Lib.hid hrg
    have HX := Lib.hid hx
    clear hrg hx
    have hb0 := HLE.out (fun x => left (.string x))
    generalize hacc : sumF (fun k => ((fl k).2.length : Int)) (fun x => left (.string x)) L = acc at *
    have HACC := Lib.hid hacc
    clear hacc
    go_wp2_with (first | (at_next; refine wpList_next_ranges _ rfl (.tmp 10) rfl 9 dir_keyed ptrR encStr ptrV (fun key kl hk => by obtain ⟨x, hx, _⟩ := Maps.keyOf_str Tryz.underlying9 hk; exact ⟨x, hx⟩) (fun v y hv => by rcases ptrR_inv hv with ⟨rfl, _⟩ | ⟨c, rfl, _⟩; exact ⟨none, rfl⟩; exact ⟨some c, rfl⟩) mn w.heap.size L.length (dirD L) left cnt rfl HRG.out ?_ ?_))
    · intro hc0 hl0
      have HE := Lib.hid (show acc = (L.map fun p => ((fl p.2).2.length : Int)).sum by rw [← HACC.out, sumF_none _ (fun p hp => hl0 _)])
      clear hc0 hl0 hb0
      go_wp2
      go_ret
      exact ⟨by rw [← HE.out]; rfl, HX.out⟩
    · intro x c kl y ps w1 cnt1 hkey hlk hv hat hrg1 hlt hg1 hs1 hen
      obtain ⟨x', hx', rfl, _⟩ := Maps.keyOf_str Tryz.underlying9 hkey
      have := encStr_inj hx'
      subst this
      clear hx' hkey
      obtain ⟨n, hn⟩ : ∃ n, dGet x L = some n := by
        cases e : dGet x L with
        | some n => exact ⟨n, rfl⟩
        | none =>
          have h1 := hat .nil
          have h2 := hat (.lit (.bool true))
          rw [dirD_at, e] at h1 h2
          rw [← h1] at h2
          cases h2
      have hcn : c = some n := by
        have h1 := hat .nil
        rw [dirD_at, hn] at h1
        rw [← h1] at hv
        cases c with
        | none => rw [show ptrV none = .pointer none from rfl, ptrR_nil] at hv; injection hv with hv; injection hv with hv _; cases hv
        | some c =>
          rw [show ptrV (some c) = .pointer (some ⟨c, 0, none⟩) from rfl, ptrR_mk] at hv
          injection hv with hv; injection hv with hv _; injection hv with hv; injection hv with _ hv
          rw [Int.ofNat.inj hv]
      subst hcn
      have hmem := dGet_mem hn
      obtain ⟨hblk, hle⟩ := HF.out _ hmem
      replace hle : (fl n).2.length ≤ 1000000 := hle
      have X1 := Lib.hid (show Ext w w1 from HX.out.trans_range hg1)
      have HS := Lib.hid (show sumF (fun k => ((fl k).2.length : Int)) (fun z => left (.string z) && !(z == x)) L = acc + ((fl n).2.length : Int) by rw [← HACC.out]; exact sumF_step _ PW.out hmem hlk)
      have HG1 := Lib.hid hrg1
      have HLT := Lib.hid (show w1.rangeLeft mn w.heap.size < wr.rangeLeft mn w.heap.size by rw [hrg1.left_eq, HRG.out.left_eq]; exact hlt)
      have b1 := hblk.ext X1.out
      have p1 := b1.cell 1
      have hb1 := HL.out
      have e1 : IntKind.i64.wrap (acc + ((fl n).2.length : Int)) = acc + ((fl n).2.length : Int) := by rw [IntKind.wrap_i64]; omega
      simp only [fV, ptrV] at p1 hen ⊢
      clear hat hv hrg1 hlt hg1 hs1 hlk hn hmem hblk b1 hb0 hb1 hle
      go_wp2
      go_roundw
      case rel => exact ⟨_, _, HG1.out, by rw [← HS.out]; rfl, X1.out⟩
      case measure => exact HLT.out
end Go.Proofs.YtmjkfgpkohfmiaaGreat
namespace Go.Proofs.YtmjkfgpkohfmiaaGreat
set_option linter.unusedVariables false
set_option linter.unusedSimpArgs false
open Go.RowKit

attribute [local go_sem] S_size S_toList S_append S_extract S_beq S_bne S_empty S_nil file_f0 file_f1

/-- an op that turns a file -/
theorem fil_op {W : World} {b : Nat} {d : Dsk} {fb : List Nat} {mn ms : Nat} {cv : Value} (h : MemD W b d fb mn ms cv) (hdd : d.dead = false) {n : Nat} (hn : n < fb.length) {f : List UInt8 × List UInt8} (syncs : Bool) (m : Nat) (hent : Ent m) (caps : Array Value)
    (hc : ∀ y, Calls Tryz.prog m caps (opW W b (d.ops + 1) y) fun e w' => e = .returned (.tuple #[]) ∧ FilR (blkN fb n) f (opW W b (d.ops + 1) y) w') (hsy : syncs = false ∨ d.armed ≠ 1)
    (ho : 0 ≤ d.ops) (ho2 : d.ops ≤ 1000000000) (ha : 0 ≤ d.armed) (ha2 : d.armed ≤ 9223372036854775807) :
    Calls Tryz.prog 52 #[.pointer (some ⟨b, 0, none⟩), .bool syncs, .func (.func m) #[] caps] W fun e w' => e = .returned (.int .i64 d.tld) ∧ But [b, blkN fb n] W w' ∧ MemD w' b (d.cnt.put n f) fb mn ms cv := by
  have hdsk := h.dsk
  have ow2 : ∀ x y, But [b, blkN fb n] W (opW W b x y) := fun x y => (opW_but W b x y).more (by intro k hk; rw [List.mem_singleton] at hk; simp [hk])
  have nb : blkN fb n ≠ b := fun e => by
    have nod := h.nod
    simp only [owns, List.nodup_cons, List.mem_cons, List.mem_append, not_or] at nod
    exact nod.1.2.2.2 (e ▸ blkN_mem hn)
  by_cases h1 : d.armed = 1
  · have hs0 : syncs = false := hsy.resolve_right (fun e => e h1)
    subst hs0
    have hm0 : max (d.armed - 1) 0 = 0 := by omega
    have mc := h.cnt'
    rw [hm0] at mc
    refine (op_last hdsk ho (by omega) ha ha2 h1 m hent #[] caps (fun w' => FilR (blkN fb n) f (opW W b (d.ops + 1) 0) w') (fun w1 hw => ⟨_, DskB.c6 (mc.put hn hw).dsk, DskB.fr (mc.put hn hw).dsk 6⟩) (by simpa using hc 0)).mono ?_
    rintro e w' ⟨rfl, w1, hw, rfl⟩
    have mp := (mc.put hn hw).die
    refine ⟨by simp [Dsk.tld, h1], (((ow2 _ _).trans (hw.1.more (by simp))).set (by simp) _), ?_⟩
    have e1 : ({ (({ d.cnt with dead := d.dead } : Dsk).put n f) with dead := true } : Dsk) = d.cnt.put n f := by simp [Dsk.put, Dsk.cnt, h1]
    rw [e1] at mp
    exact mp
  · refine (op_plain hdsk ho (by omega) ha ha2 h1 syncs m hent #[] caps _ (by simpa using hc _)).mono ?_
    rintro e w' ⟨rfl, hw⟩
    exact ⟨by simp [Dsk.tld, h1], (ow2 _ _).trans (hw.1.more (by simp)), (h.cnt hdd h1).put hn hw⟩
/-- an op that is lost -/
theorem lost_op {W : World} {b : Nat} {d : Dsk} {fb : List Nat} {mn ms : Nat} {cv : Value} (h : MemD W b d fb mn ms cv) (m : Nat) (bound caps : Array Value) (h1 : d.armed = 1) (ho : 0 ≤ d.ops) (ho2 : d.ops ≤ 1000000000) :
    Calls Tryz.prog 52 #[.pointer (some ⟨b, 0, none⟩), .bool true, .func (.func m) bound caps] W fun e w' => e = .returned (.int .i64 200) ∧ But [b] W w' ∧ MemD w' b d.cnt fb mn ms cv := by
  have hm0 : max (d.armed - 1) 0 = 0 := by omega
  have mc := h.cnt'
  rw [hm0] at mc
  refine (op_lost h.dsk ho (by omega) (by omega) (by omega) h1 m bound caps).mono ?_
  rintro e w' ⟨rfl, rfl⟩
  have mp := mc.die
  rw [show ({ ({ d.cnt with dead := d.dead } : Dsk) with dead := true } : Dsk) = d.cnt by simp [Dsk.cnt, h1]] at mp
  exact ⟨rfl, (opW_but W b _ _).set (by simp) _, mp⟩
theorem OpR.fil {w w1 w' : World} {b : Nat} {d' : Dsk} {fb : List Nat} {mn ms : Nat} {cv : Value} (x0 : Ext w w1) {n : Nat} (hn : n < fb.length) (x : But [b, blkN fb n] w1 w') (m : MemD w' b d' fb mn ms cv) : OpR w b d' fb mn ms cv w' := by
  refine ⟨(But.of_ext x0).trans (x.more ?_), fb, mn, ms, cv, m, fun k hk => .inl hk⟩
  intro k hk
  simp only [List.mem_cons, List.not_mem_nil, or_false] at hk
  rcases hk with rfl | rfl
  · simp [owns]
  · have := blkN_mem hn
    simp [owns, this]
theorem OpR.one {w w1 w' : World} {b : Nat} {d' : Dsk} {fb : List Nat} {mn ms : Nat} {cv : Value} (x0 : Ext w w1) (x : But [b] w1 w') (m : MemD w' b d' fb mn ms cv) : OpR w b d' fb mn ms cv w' :=
  ⟨(But.of_ext x0).trans (x.more (by simp [owns])), fb, mn, ms, cv, m, fun k hk => .inl hk⟩

set_option maxRecDepth 20000 in
set_option maxHeartbeats 2000000 in
theorem sync_any {w : World} {b : Nat} {d : Dsk} {fb : List Nat} {mn ms : Nat} {cv : Value} (h : MemD w b d fb mn ms cv) (ok : d.Ok) (hop : d.ops ≤ 100000000) (s : List UInt8) (hs : s.length ≤ maxLen) :
    Calls Tryz.prog 19 #[.pointer (some ⟨b, 0, none⟩), .string (S s)] w fun e w' => e = .returned (.int .i64 (d.sync s).2) ∧ OpR w b (d.sync s).1 fb mn ms cv w' := by
  have HR := Lib.hid (fun (w' : World) (x : Ext w w') => OpR.same h x)
  have q := find_mem h s hs
  cases hd : d.dead with
  | true =>
    have E := Lib.hid (show d.sync s = (d, 200) from if_pos hd)
    rw [hd] at q
    simp only [if_true] at q
    have Q := Lib.hid q
    clear q
    go_enter Tryz.func19, Tryz.ntmps19
    go_wp2_with fail
    refine Q.out.mono ?_
    rintro _ w1 ⟨rfl, rfl⟩
    go_wp2
    go_ret
    exact ⟨by rw [E.out]; rfl, by rw [E.out]; exact HR.out _ ((Ext.refl _).alloc _)⟩
  | false =>
    rw [hd] at q
    cases hg : dGet s d.dir with
    | none =>
      have E := Lib.hid (show d.sync s = (d, 201) by simp [Dsk.sync, hd, hg])
      rw [hg] at q
      simp only [Option.map_none, ptrV, Option.isSome_none, if_true, Bool.false_eq_true, if_false] at q
      have Q := Lib.hid q
      clear q
      go_enter Tryz.func19, Tryz.ntmps19
      go_wp2_with fail
      refine Q.out.mono ?_
      rintro _ w1 ⟨rfl, rfl⟩
      go_wp2
      go_ret
      exact ⟨by rw [E.out]; rfl, by rw [E.out]; exact HR.out _ ((Ext.refl _).alloc _)⟩
    | some n =>
      rw [hg] at q
      simp only [Option.map_some, ptrV, Option.isSome_some, if_true, Bool.false_eq_true, if_false] at q
      have Q := Lib.hid q
      have hn : n < fb.length := by rw [h.len]; exact (ok.dirN _ (dGet_mem hg)).2
      have X := (Ext.refl w).alloc (.cells #[.pointer (some ⟨blkN fb n, 0, none⟩)] 78)
      have M1 := h.ext X
      have g5 := Blk.new w 78 #[.pointer (some ⟨blkN fb n, 0, none⟩)]
      have hlt := h.lt
      have ne5 : w.heap.size ∉ [b] := by
        have := hlt b (by simp [owns])
        simp; omega
      have nb : blkN fb n ∉ [b] := by
        have nod := h.nod
        simp only [owns, List.nodup_cons, List.mem_cons, List.mem_append, not_or] at nod
        have := blkN_mem hn
        simp; exact fun e => nod.1.2.2.2 (e ▸ this)
      by_cases h1 : d.armed = 1
      · have E := Lib.hid (show d.sync s = (d.cnt, 200) by simp [Dsk.sync, hd, hg, h1])
        have C := Lib.hid (lost_op M1 53 #[] #[.pointer (some ⟨w.heap.size, 0, none⟩)] h1 (by have := ok.dirL; omega) (by omega))
        clear q h1 X M1 g5 hlt ne5 nb
        go_enter Tryz.func19, Tryz.ntmps19
        go_wp2_with fail
        refine Q.out.mono ?_
        rintro _ w1 ⟨rfl, rfl⟩
        go_wp2_with fail
        refine Calls.mono C.out ?_
        rintro _ w3 ⟨rfl, x3, m3⟩
        have G := Lib.hid (And.intro x3 m3)
        clear x3 m3
        go_wp2
        go_ret
        rw [E.out]
        exact ⟨rfl, OpR.one ((Ext.refl _).alloc _) G.out.1 G.out.2⟩
      · have E := Lib.hid (show d.sync s = (d.cnt.put n ((d.file n).2, (d.file n).2), d.tld) by simp [Dsk.sync, hd, hg, h1, Dsk.tld])
        have C := Lib.hid (fil_op M1 hd hn true 53 (ent_of Tryz.func53 (by kernel_rfl) rfl) #[.pointer (some ⟨w.heap.size, 0, none⟩)]
          (fun y => sync1_any (g5.but (opW_but _ b _ y) ne5) (g := d.file n) ((M1.fls n hn).but (opW_but _ b _ y) nb)) (.inr h1) (by have := ok.dirL; omega) (by omega) ok.arm0 ok.arm1)
        clear q h1 X M1 g5 hlt ne5 nb
        go_enter Tryz.func19, Tryz.ntmps19
        go_wp2_with fail
        refine Q.out.mono ?_
        rintro _ w1 ⟨rfl, rfl⟩
        go_wp2_with fail
        refine Calls.mono C.out ?_
        rintro _ w3 ⟨rfl, x3, m3⟩
        have G := Lib.hid (And.intro x3 m3)
        clear x3 m3
        go_wp2
        go_ret
        rw [E.out]
        exact ⟨rfl, OpR.fil ((Ext.refl _).alloc _) hn G.out.1 G.out.2⟩
end Go.Proofs.YtmjkfgpkohfmiaaGreat
namespace Go.Proofs.YtmjkfgpkohfmiaaGreat
set_option linter.unusedVariables false
set_option linter.unusedSimpArgs false
open Go.RowKit

attribute [local go_sem] S_size S_toList S_append S_extract S_beq S_bne S_empty S_nil file_f0 file_f1

theorem file_mem {d : Dsk} (ok : d.Ok) {n : Nat} (hn : n < d.files.length) : (d.file n).1.length ≤ 1000000 ∧ (d.file n).2.length ≤ 1000000 := by
  refine ok.big _ ?_
  unfold Dsk.file
  rw [List.getD_eq_getElem?_getD, List.getElem?_eq_getElem hn]
  exact List.getElem_mem hn
theorem used_mem {w : World} {b : Nat} {d : Dsk} {fb : List Nat} {mn ms : Nat} {cv : Value} (h : MemD w b d fb mn ms cv) (ok : d.Ok) (hop : d.ops ≤ 100000000) :
    Calls Tryz.prog 85 #[.pointer (some ⟨b, 0, none⟩)] w fun e w' => e = .returned (.int .i64 d.used) ∧ Ext w w' := by
  have nod := h.nod
  simp only [owns, List.nodup_cons, List.mem_cons, List.mem_append, not_or, List.nodup_append] at nod
  have hfb := nod.2.2.2.2.1
  -- a file by its block
  let fl : Nat → List UInt8 × List UInt8 := fun k => d.file (fb.idxOf k)
  have hfl : ∀ i, i < fb.length → fl (blkN fb i) = d.file i := fun i hi => by
    show d.file (fb.idxOf (blkN fb i)) = d.file i
    congr 1
    unfold blkN
    rw [List.getD_eq_getElem?_getD, List.getElem?_eq_getElem hi]
    exact hfb.idxOf_getElem i hi
  have q := usedL_any h.dsk h.now fl (fun p hp => by
    obtain ⟨p', hp', rfl⟩ := List.mem_map.1 hp
    have hi : p'.2 < fb.length := by rw [h.len]; exact (ok.dirN _ hp').2
    simp only
    rw [hfl _ hi]
    exact ⟨h.fls _ hi, (file_mem ok (by rw [← h.len]; exact hi)).2⟩) (by rw [blks_length]; have := ok.dirL; omega)
  have e : ((blks fb d.dir).map fun p => ((fl p.2).2.length : Int)).sum = d.used := by
    unfold Dsk.used blks
    rw [List.map_map]
    congr 1
    refine List.map_congr_left (fun p hp => ?_)
    have hi : p.2 < fb.length := by rw [h.len]; exact (ok.dirN _ hp).2
    simp only [Function.comp]
    rw [hfl _ hi]
  rw [e] at q
  exact q

set_option maxRecDepth 20000 in
set_option maxHeartbeats 2000000 in
theorem cut_any {w : World} {b : Nat} {d : Dsk} {fb : List Nat} {mn ms : Nat} {cv : Value} (h : MemD w b d fb mn ms cv) (ok : d.Ok) (hop : d.ops ≤ 100000000) (s : List UInt8) (hs : s.length ≤ maxLen) (k : Int) :
    Calls Tryz.prog 49 #[.pointer (some ⟨b, 0, none⟩), .string (S s), .int .i64 k] w fun e w' => e = .returned (.int .i64 (d.cut s k).2) ∧ OpR w b (d.cut s k).1 fb mn ms cv w' := by
  have HR := Lib.hid (fun (w' : World) (x : Ext w w') => OpR.same h x)
  have q := find_mem h s hs
  cases hd : d.dead with
  | true =>
    have E := Lib.hid (show d.cut s k = (d, 200) from if_pos hd)
    rw [hd] at q
    simp only [if_true] at q
    have Q := Lib.hid q
    clear q
    go_enter Tryz.func49, Tryz.ntmps49
    go_wp2_with fail
    refine Q.out.mono ?_
    rintro _ w1 ⟨rfl, rfl⟩
    go_wp2
    go_ret
    exact ⟨by rw [E.out]; rfl, by rw [E.out]; exact HR.out _ ((Ext.refl _).alloc _)⟩
  | false =>
    rw [hd] at q
    cases hg : dGet s d.dir with
    | none =>
      have E := Lib.hid (show d.cut s k = (d, 201) by simp [Dsk.cut, hd, hg])
      rw [hg] at q
      simp only [Option.map_none, ptrV, Option.isSome_none, if_true, Bool.false_eq_true, if_false] at q
      have Q := Lib.hid q
      clear q
      go_enter Tryz.func49, Tryz.ntmps49
      go_wp2_with fail
      refine Q.out.mono ?_
      rintro _ w1 ⟨rfl, rfl⟩
      go_wp2
      go_ret
      exact ⟨by rw [E.out]; rfl, by rw [E.out]; exact HR.out _ ((Ext.refl _).alloc _)⟩
    | some n =>
      rw [hg] at q
      simp only [Option.map_some, ptrV, Option.isSome_some, if_true, Bool.false_eq_true, if_false] at q
      have Q := Lib.hid q
      have hnf : n < d.files.length := (ok.dirN _ (dGet_mem hg)).2
      have hn : n < fb.length := by rw [h.len]; exact hnf
      have hfl : (d.file n).2.length ≤ 1000000 := (file_mem ok hnf).2
      have X := (Ext.refl w).alloc (.cells #[.pointer (some ⟨blkN fb n, 0, none⟩)] 78)
      have M1 := Lib.hid (h.ext X)
      have G5 := Lib.hid (Blk.new w 78 #[.pointer (some ⟨blkN fb n, 0, none⟩)])
      have BK := Lib.hid (show Blk (w.alloc (.cells #[.pointer (some ⟨blkN fb n, 0, none⟩)] 78)) (blkN fb n) 84 #[.string (S (d.file n).1), .string (S (d.file n).2)] from M1.out.fls n hn)
      have HS := Lib.hid (show (Tryz.prog.info? 84).map (·.size) = some #[Value.string (S (d.file n).1), .string (S (d.file n).2)].size from fV_size (d.file n))
      have qa := Lib.hid (fun w => fcut_any (d.file n).1 (d.file n).2 k w (by omega))
      obtain ⟨⟨⟨fa, fc⟩, er⟩, hfa⟩ : ∃ r, r = fcut (d.file n) k := ⟨_, rfl⟩
      rw [show fcut ((d.file n).1, (d.file n).2) k = ((fa, fc), er) from hfa.symm] at qa
      simp only [okV] at qa
      have hlt := h.lt
      have hbl : b < w.heap.size := hlt b (by simp [owns])
      have nb : blkN fb n ≠ b := by
        have nod := h.nod
        simp only [owns, List.nodup_cons, List.mem_cons, List.mem_append, not_or] at nod
        have := blkN_mem hn
        exact fun e => nod.1.2.2.2 (e ▸ this)
      by_cases he : er = 0
      · have E := Lib.hid (show d.cut s k = (d.cnt.put n (fa, fc), d.tld) by simp [Dsk.cut, hd, hg, ← hfa, he])
        subst he
        have OKB := Lib.hid (show 0 ≤ d.ops ∧ d.ops ≤ 1000000000 ∧ 0 ≤ d.armed ∧ d.armed ≤ 9223372036854775807 from ⟨by have := ok.dirL; omega, by omega, ok.arm0, ok.arm1⟩)
        clear q X hlt hfa hfl
        go_enter Tryz.func49, Tryz.ntmps49
        go_wp2_with fail
        refine Q.out.mono ?_
        rintro _ w1 ⟨rfl, rfl⟩
        go_wp2_with (refine wpList_load_blk rfl 84 (.tmp 21) rfl rfl BK.out Tryz.underlying84 rfl HS.out ?_)
        refine (qa.out _).mono ?_
        rintro _ w2 ⟨rfl, x2⟩
        have M2 := Lib.hid ((M1.out.ext x2).ext ((Ext.refl w2).alloc (.cells #[.string (S fa), .string (S fc)] 84)))
        have G7 := Lib.hid ((G5.out.ext x2).alloc (.cells #[.string (S fa), .string (S fc)] 84))
        have G9 := Lib.hid (Blk.new w2 84 #[.string (S fa), .string (S fc)])
        have X2 := Lib.hid ((((Ext.refl w).alloc (.cells #[.pointer (some ⟨blkN fb n, 0, none⟩)] 78)).trans x2).alloc (.cells #[.string (S fa), .string (S fc)] 84))
        have hle := x2.size
        simp only [World.size_alloc] at hle
        have C := Lib.hid (fil_op M2.out hd hn (f := (fa, fc)) false 88 (ent_of Tryz.func88 (by kernel_rfl) rfl) #[.pointer (some ⟨w2.heap.size, 0, none⟩), .pointer (some ⟨w.heap.size, 0, none⟩)]
          (fun y => cut1_any (Blk.but G9.out (opW_but _ b _ y) (by simp; omega)) (G7.out.but (opW_but _ b _ y) (by simp; omega)) (g := d.file n) ((M2.out.fls n hn).but (opW_but _ b _ y) (by simpa using nb))) (.inl rfl) OKB.out.1 OKB.out.2.1 OKB.out.2.2.1 OKB.out.2.2.2)
        go_wp2_with fail
        refine Calls.mono C.out ?_
        rintro _ w3 ⟨rfl, x3, m3⟩
        have G := Lib.hid (And.intro x3 m3)
        clear x3 m3
        go_wp2
        go_ret
        rw [E.out]
        exact ⟨rfl, OpR.fil X2.out hn G.out.1 G.out.2⟩
      · have E := Lib.hid (show d.cut s k = (d, er) by simp [Dsk.cut, hd, hg, ← hfa, he])
        clear q X hlt hfa hfl
        go_enter Tryz.func49, Tryz.ntmps49
        go_wp2_with fail
        refine Q.out.mono ?_
        rintro _ w1 ⟨rfl, rfl⟩
        go_wp2_with (refine wpList_load_blk rfl 84 (.tmp 21) rfl rfl BK.out Tryz.underlying84 rfl HS.out ?_)
        refine (qa.out _).mono ?_
        rintro _ w2 ⟨rfl, x2⟩
        go_wp2
        go_ret
        rw [E.out]
        exact ⟨rfl, HR.out _ ((((Ext.refl _).alloc _).trans x2).alloc _)⟩
end Go.Proofs.YtmjkfgpkohfmiaaGreat
namespace Go.Proofs.YtmjkfgpkohfmiaaGreat
set_option linter.unusedVariables false
set_option linter.unusedSimpArgs false
open Go.RowKit

attribute [local go_sem] S_size S_toList S_append S_extract S_beq S_bne S_empty S_nil file_f0 file_f1

theorem fappend_err {f : List UInt8 × List UInt8} {s : List UInt8} : (fappend f s).2 = 0 → s.length ≤ 1000000 := by
  intro h
  unfold fappend at h
  split at h
  · exact absurd h (by decide)
  · omega
set_option maxRecDepth 20000 in
set_option maxHeartbeats 2000000 in
theorem append_any {w : World} {b : Nat} {d : Dsk} {fb : List Nat} {mn ms : Nat} {cv : Value} (h : MemD w b d fb mn ms cv) (ok : d.Ok) (hop : d.ops ≤ 100000000) (s : List UInt8) (hs : s.length ≤ maxLen) (t : List UInt8) (ht : t.length ≤ maxLen) :
    Calls Tryz.prog 48 #[.pointer (some ⟨b, 0, none⟩), .string (S s), .string (S t)] w fun e w' => e = .returned (.int .i64 (d.append s t).2) ∧ OpR w b (d.append s t).1 fb mn ms cv w' := by
  have HR := Lib.hid (fun (w' : World) (x : Ext w w') => OpR.same h x)
  have q := find_mem h s hs
  cases hd : d.dead with
  | true =>
    have E := Lib.hid (show d.append s t = (d, 200) from if_pos hd)
    rw [hd] at q
    simp only [if_true] at q
    have Q := Lib.hid q
    clear q
    go_enter Tryz.func48, Tryz.ntmps48
    go_wp2_with fail
    refine Q.out.mono ?_
    rintro _ w1 ⟨rfl, rfl⟩
    go_wp2
    go_ret
    exact ⟨by rw [E.out]; rfl, by rw [E.out]; exact HR.out _ ((Ext.refl _).alloc _)⟩
  | false =>
    rw [hd] at q
    cases hg : dGet s d.dir with
    | none =>
      have E := Lib.hid (show d.append s t = (d, 201) by simp [Dsk.append, hd, hg])
      rw [hg] at q
      simp only [Option.map_none, ptrV, Option.isSome_none, if_true, Bool.false_eq_true, if_false] at q
      have Q := Lib.hid q
      clear q
      go_enter Tryz.func48, Tryz.ntmps48
      go_wp2_with fail
      refine Q.out.mono ?_
      rintro _ w1 ⟨rfl, rfl⟩
      go_wp2
      go_ret
      exact ⟨by rw [E.out]; rfl, by rw [E.out]; exact HR.out _ ((Ext.refl _).alloc _)⟩
    | some n =>
      rw [hg] at q
      simp only [Option.map_some, ptrV, Option.isSome_some, if_true, Bool.false_eq_true, if_false] at q
      have Q := Lib.hid q
      have hnf : n < d.files.length := (ok.dirN _ (dGet_mem hg)).2
      have hn : n < fb.length := by rw [h.len]; exact hnf
      have hfl : (d.file n).2.length ≤ 1000000 := (file_mem ok hnf).2
      have hfl1 : (d.file n).1.length ≤ 1000000 := (file_mem ok hnf).1
      have X := (Ext.refl w).alloc (.cells #[.pointer (some ⟨blkN fb n, 0, none⟩)] 78)
      have M1 := Lib.hid (h.ext X)
      have G5 := Lib.hid (Blk.new w 78 #[.pointer (some ⟨blkN fb n, 0, none⟩)])
      have BK := Lib.hid (show Blk (w.alloc (.cells #[.pointer (some ⟨blkN fb n, 0, none⟩)] 78)) (blkN fb n) 84 #[.string (S (d.file n).1), .string (S (d.file n).2)] from M1.out.fls n hn)
      have HS := Lib.hid (show (Tryz.prog.info? 84).map (·.size) = some #[Value.string (S (d.file n).1), .string (S (d.file n).2)].size from fV_size (d.file n))
      have qa := Lib.hid (fun w => fappend_any (d.file n).1 (d.file n).2 t w (by omega) (by omega) (by unfold maxLen at ht; omega))
      obtain ⟨⟨⟨fa, fc⟩, er⟩, hfa⟩ : ∃ r, r = fappend (d.file n) t := ⟨_, rfl⟩
      rw [show fappend ((d.file n).1, (d.file n).2) t = ((fa, fc), er) from hfa.symm] at qa
      simp only [okV] at qa
      have hlt := h.lt
      have hbl : b < w.heap.size := hlt b (by simp [owns])
      have nb : blkN fb n ≠ b := by
        have nod := h.nod
        simp only [owns, List.nodup_cons, List.mem_cons, List.mem_append, not_or] at nod
        have := blkN_mem hn
        exact fun e => nod.1.2.2.2 (e ▸ this)
      by_cases he : er = 0
      · subst he
        have htl : t.length ≤ 1000000 := fappend_err (by rw [← hfa])
        have OKB := Lib.hid (show 0 ≤ d.ops ∧ d.ops ≤ 1000000000 ∧ 0 ≤ d.armed ∧ d.armed ≤ 9223372036854775807 from ⟨by have := ok.dirL; omega, by omega, ok.arm0, ok.arm1⟩)
        have OK := Lib.hid ok
        have hu : 0 ≤ d.used ∧ d.used ≤ 1000000 * (d.dir.length : Int) := by
          have := sumF_le (fun k => ((d.file k).2.length : Int)) (left := fun _ => false) (L := d.dir) (fun p hp => ⟨by omega, by have := (file_mem ok (ok.dirN p hp).2).2; omega⟩)
          rw [sumF_none _ (fun p hp => rfl)] at this
          exact this
        have hul : d.used ≤ 1000000000000000 := by have := ok.dirL; omega
        have e1 : IntKind.i64.wrap (d.cap - d.used) = d.cap - d.used := by have := ok.cap0; have := ok.cap1; rw [IntKind.wrap_i64]; omega
        have BR := Lib.hid (show (d.cap - d.used < (t.length : Int)) ∨ ¬ (d.cap - d.used < (t.length : Int)) from Classical.em _)
        have E1 := Lib.hid (show d.cap - d.used < (t.length : Int) → d.append s t = (d, 203) from fun h => by simp [Dsk.append, hd, hg, ← hfa, h])
        have E2 := Lib.hid (show ¬ (d.cap - d.used < (t.length : Int)) → d.append s t = (d.cnt.put n (fa, fc), d.tld) from fun h => by simp only [Dsk.append, hd, hg, ← hfa]; simp [h])
        clear q X hlt hfa hfl hfl1 hu hul
        generalize hU : d.used = U at *
        have UE := Lib.hid hU
        clear hU
        rcases BR.out with hfull | hfull
        all_goals
          go_enter Tryz.func48, Tryz.ntmps48
          go_wp2_with fail
          refine Q.out.mono ?_
          rintro _ w1 ⟨rfl, rfl⟩
          go_wp2_with (refine wpList_load_blk rfl 84 (.tmp 21) rfl rfl BK.out Tryz.underlying84 rfl HS.out ?_)
          refine (qa.out _).mono ?_
          rintro _ w2 ⟨rfl, x2⟩
          have M2 := Lib.hid ((M1.out.ext x2).ext ((Ext.refl w2).alloc (.cells #[.string (S fa), .string (S fc)] 84)))
          have G7 := Lib.hid ((G5.out.ext x2).alloc (.cells #[.string (S fa), .string (S fc)] 84))
          have G9 := Lib.hid (Blk.new w2 84 #[.string (S fa), .string (S fc)])
          have X2 := Lib.hid ((((Ext.refl w).alloc (.cells #[.pointer (some ⟨blkN fb n, 0, none⟩)] 78)).trans x2).alloc (.cells #[.string (S fa), .string (S fc)] 84))
          have hle := x2.size
          simp only [World.size_alloc] at hle
          go_wp2_with fail
          have c3 : ∀ x : Up (w2.alloc (.cells #[.string (S fa), .string (S fc)] 84)), x.val.cell? ⟨b, 3, none⟩ = some (.int .i64 d.cap) := up_cell (DskB.c3 M2.out.dsk)
          have QU := Lib.hid (fun x : Up (w2.alloc (.cells #[.string (S fa), .string (S fc)] 84)) => show Calls Tryz.prog 85 #[.pointer (some ⟨b, 0, none⟩)] x.val fun e w' => e = .returned (.int .i64 U) ∧ Ext x.val w' by rw [← UE.out]; exact used_mem (M2.out.ext x.ext) OK.out hop)
          refine wp_region_up (by kernel_rfl) (by kernel_rfl) ?_
          repeat (go_big_quiet_step (first | (go_at_call 85; (with_reducible exact up_call (QU.out _)))))
          refine wpQuiet_nil ?_
          rintro _ ⟨y, rfl⟩
          have XY := Lib.hid y.ext
          clear c3 QU
          generalize y.val = w4 at *
        · have E := Lib.hid (E1.out hfull)
          go_wp2
          go_ret
          rw [E.out]
          exact ⟨rfl, HR.out _ (X2.out.trans XY.out)⟩
        · have E := Lib.hid (E2.out hfull)
          have hle4 := XY.out.size
          simp only [World.size_alloc] at hle4
          have C := Lib.hid (fil_op (M2.out.ext XY.out) hd hn (f := (fa, fc)) false 86 (ent_of Tryz.func86 (by kernel_rfl) rfl) #[.pointer (some ⟨w2.heap.size, 0, none⟩), .pointer (some ⟨w.heap.size, 0, none⟩)]
            (fun y => append1_any (Blk.but (G9.out.ext XY.out) (opW_but _ b _ y) (by simp; omega)) ((G7.out.ext XY.out).but (opW_but _ b _ y) (by simp; omega)) (g := d.file n) (((M2.out.ext XY.out).fls n hn).but (opW_but _ b _ y) (by simpa using nb))) (.inl rfl) OKB.out.1 OKB.out.2.1 OKB.out.2.2.1 OKB.out.2.2.2)
          go_wp2_with fail
          refine Calls.mono C.out ?_
          rintro _ w3 ⟨rfl, x3, m3⟩
          have G := Lib.hid (And.intro x3 m3)
          clear x3 m3
          go_wp2
          go_ret
          rw [E.out]
          exact ⟨rfl, OpR.fil (X2.out.trans XY.out) hn G.out.1 G.out.2⟩
      · have E := Lib.hid (show d.append s t = (d, er) by simp [Dsk.append, hd, hg, ← hfa, he])
        clear q X hlt hfa hfl hfl1
        go_enter Tryz.func48, Tryz.ntmps48
        go_wp2_with fail
        refine Q.out.mono ?_
        rintro _ w1 ⟨rfl, rfl⟩
        go_wp2_with (refine wpList_load_blk rfl 84 (.tmp 21) rfl rfl BK.out Tryz.underlying84 rfl HS.out ?_)
        refine (qa.out _).mono ?_
        rintro _ w2 ⟨rfl, x2⟩
        go_wp2
        go_ret
        rw [E.out]
        exact ⟨rfl, HR.out _ ((((Ext.refl _).alloc _).trans x2).alloc _)⟩
end Go.Proofs.YtmjkfgpkohfmiaaGreat
