/- The document's disk: an act. -/
import Derived.Test.YtfipfljiohdlhaaGreatDnO
import Derived.Test.YtfipfljiohdlhaaGreatMgU
namespace Go.Proofs.YtfipfljiohdlhaaGreat
set_option linter.unusedVariables false
set_option linter.unusedSimpArgs false
open Go.RowKit
attribute [local go_sem] S_size S_toList S_append S_extract S_beq S_bne S_empty S_nil
variable {K : List Nat}
set_option maxRecDepth 20000 in
set_option maxHeartbeats 8000000 in
theorem rdo_any {w : World} {v : V4} {d : Dsk} (hK : ∀ k ∈ K, k < w.heap.size) (h : RefD K w v d) (g : RG d) {a : ActD} (ha : ActW w a) (hs : (a.s.length : Int) ≤ 1000000000) (ht : (a.t.length : Int) ≤ 1000000000) (hmk : ∀ s ∈ a.marks, (s.length : Int) ≤ 1000000000) :
    Calls Tryz.prog 8 #[refV v d, .agg (actC a).toArray] w fun x w' => RRet K w (d.act a).1 (d.act a).2 x w' := by
  obtain ⟨kind, n, s, t, dir, vc, vm, cuts, marks⟩ := a
  obtain ⟨ac, cc, hvc⟩ := rr_sl ha.cuts
  obtain ⟨am, cm, hvm⟩ := rr_sl ha.marks
  dsimp only at hvc hvm hs ht hmk
  subst hvc
  subst hvm
  obtain ⟨aF, cF, aD, cD, aS, cS, aC, cC, rfl⟩ := h.open_
  have H := Lib.hid h
  have HK := Lib.hid hK
  clear hK
  have G := Lib.hid g
  have AW := Lib.hid ha
  have HMK := Lib.hid hmk
  have hs2 : (s.length : Int) ≤ 9223372036854775807 := by omega
  have ht2 : (t.length : Int) ≤ 9223372036854775807 := by omega
  simp only [actC]
  have X := Lib.hid ((((Ext.refl w).alloc (.cells #[.slice aF d.files.length cF, .slice aD d.dir.length cD, .slice aS d.safe.length cS, .slice aC d.chs.length cC, .int .i64 d.cap, .int .i64 d.ops, .int .i64 d.armed, .bool d.dead] 33)).alloc (.cells #[.int .i64 kind, .int .i64 n, .string (S s), .string (S t), .int .i64 dir, .slice ac cuts.length cc, .slice am marks.length cm] 43)).alloc (.cells #[.slice none 0 0, .slice none 0 0, .slice none 0 0, .slice none 0 0, .int .i64 0, .int .i64 0, .int .i64 0, .bool false] 33))
  have HKX := Lib.hid (show ∀ k ∈ K, k < ((((w.alloc (.cells #[.slice aF d.files.length cF, .slice aD d.dir.length cD, .slice aS d.safe.length cS, .slice aC d.chs.length cC, .int .i64 d.cap, .int .i64 d.ops, .int .i64 d.armed, .bool d.dead] 33)).alloc (.cells #[.int .i64 kind, .int .i64 n, .string (S s), .string (S t), .int .i64 dir, .slice ac cuts.length cc, .slice am marks.length cm] 43)).alloc (.cells #[.slice none 0 0, .slice none 0 0, .slice none 0 0, .slice none 0 0, .int .i64 0, .int .i64 0, .int .i64 0, .bool false] 33))).heap.size from fun k hk => Nat.lt_of_lt_of_le (HK.out k hk) X.out.size)
  have BD := Lib.hid (((Blk.new w 33 #[.slice aF d.files.length cF, .slice aD d.dir.length cD, .slice aS d.safe.length cS, .slice aC d.chs.length cC, .int .i64 d.cap, .int .i64 d.ops, .int .i64 d.armed, .bool d.dead]).alloc (.cells #[.int .i64 kind, .int .i64 n, .string (S s), .string (S t), .int .i64 dir, .slice ac cuts.length cc, .slice am marks.length cm] 43)).alloc (.cells #[.slice none 0 0, .slice none 0 0, .slice none 0 0, .slice none 0 0, .int .i64 0, .int .i64 0, .int .i64 0, .bool false] 33))
  have ba := (Blk.new (w.alloc (.cells #[.slice aF d.files.length cF, .slice aD d.dir.length cD, .slice aS d.safe.length cS, .slice aC d.chs.length cC, .int .i64 d.cap, .int .i64 d.ops, .int .i64 d.armed, .bool d.dead] 33)) 43 #[.int .i64 kind, .int .i64 n, .string (S s), .string (S t), .int .i64 dir, .slice ac cuts.length cc, .slice am marks.length cm]).alloc (.cells #[.slice none 0 0, .slice none 0 0, .slice none 0 0, .slice none 0 0, .int .i64 0, .int .i64 0, .int .i64 0, .bool false] 33)
  have br := Blk.new ((w.alloc (.cells #[.slice aF d.files.length cF, .slice aD d.dir.length cD, .slice aS d.safe.length cS, .slice aC d.chs.length cC, .int .i64 d.cap, .int .i64 d.ops, .int .i64 d.armed, .bool d.dead] 33)).alloc (.cells #[.int .i64 kind, .int .i64 n, .string (S s), .string (S t), .int .i64 dir, .slice ac cuts.length cc, .slice am marks.length cm] 43)) 33 #[.slice none 0 0, .slice none 0 0, .slice none 0 0, .slice none 0 0, .int .i64 0, .int .i64 0, .int .i64 0, .bool false]
  simp only [World.size_alloc] at ba br
  have BA := Lib.hid ba
  have BR := Lib.hid br
  have R4 := Lib.hid (show (((w.alloc (.cells #[.slice aF d.files.length cF, .slice aD d.dir.length cD, .slice aS d.safe.length cS, .slice aC d.chs.length cC, .int .i64 d.cap, .int .i64 d.ops, .int .i64 d.armed, .bool d.dead] 33)).alloc (.cells #[.int .i64 kind, .int .i64 n, .string (S s), .string (S t), .int .i64 dir, .slice ac cuts.length cc, .slice am marks.length cm] 43)).alloc (.cells #[.slice none 0 0, .slice none 0 0, .slice none 0 0, .slice none 0 0, .int .i64 0, .int .i64 0, .int .i64 0, .bool false] 33)).rangeAt (w.heap.size + 1) 4 [.int .i64 dir, .slice ac cuts.length cc, .slice am marks.length cm] from fun j u hj => by
    rw [BA.out.cell]
    match j, hj with
    | 0, hj => exact hj
    | 1, hj => exact hj
    | 2, hj => exact hj)
  have RS := Lib.hid (show (Tryz.prog.info? 41).map (·.size) = some [Value.int .i64 dir, .slice ac cuts.length cc, .slice am marks.length cm].length by kernel_rfl)
  have DS0 := Lib.hid (show (Tryz.prog.info? 33).map (·.size) = some (#[.slice aF d.files.length cF, .slice aD d.dir.length cD, .slice aS d.safe.length cS, .slice aC d.chs.length cC, .int .i64 d.cap, .int .i64 d.ops, .int .i64 d.armed, .bool d.dead] : Array Value).size from rdisk_size)
  have DO0 := Lib.hid (disk_all _ _ _ _ (sl_ex aF d.files.length cF) (sl_ex aD d.dir.length cD) (sl_ex aS d.safe.length cS) (sl_ex aC d.chs.length cC) d.cap d.ops d.armed d.dead)
  clear ha h g ba br hmk
  unfold RRet
  by_cases k0 : kind = 0
  · subst k0
    have E : d.act ⟨0, n, s, t, dir, .slice ac cuts.length cc, .slice am marks.length cm, cuts, marks⟩ = d.create s := rfl
    rw [E]
    obtain ⟨⟨d6, e6⟩, hd6⟩ : ∃ r, r = d.create s := ⟨_, rfl⟩
    have q := rcreate_any G.out (HKX.out) (H.out.ext X.out) s hs2
    rw [← hd6] at q ⊢
    unfold RRet at q
    dsimp only at q ⊢
    clear E hd6
    simp only [refV] at *
    have Q := Lib.hid q
    clear q
    go_enter Tryz.func8, Tryz.ntmps8
    go_wp2_with fail
    refine Q.out.mono ?_
    rintro _ w6 ⟨v6, rfl, r6, x6⟩
    obtain ⟨a1, c1, a2, c2, a3, c3, a4, c4, rfl⟩ := r6.open_
    have R6 := Lib.hid r6
    replace BR := Lib.hid (BR.out.ext x6)
    replace X := Lib.hid (X.out.trans x6)
    clear r6 x6
    dsimp only
    have DS6 := Lib.hid (show (Tryz.prog.info? 33).map (·.size) = some (#[.slice a1 d6.files.length c1, .slice a2 d6.dir.length c2, .slice a3 d6.safe.length c3, .slice a4 d6.chs.length c4, .int .i64 d6.cap, .int .i64 d6.ops, .int .i64 d6.armed, .bool d6.dead] : Array Value).size from rdisk_size)
    have DO6 := Lib.hid (disk_all _ _ _ _ (sl_ex a1 d6.files.length c1) (sl_ex a2 d6.dir.length c2) (sl_ex a3 d6.safe.length c3) (sl_ex a4 d6.chs.length c4) d6.cap d6.ops d6.armed d6.dead)
    go_wp2_with (refine wpList_store_blk rfl 33 (.tmp 4) (.tmp 14) rfl rfl rfl BR.out rfl DS6.out DO6.out ?_; refine Held.go ?_)
    refine ⟨?_⟩
    go_wp2
    exact bodyPost_ret (results_row_tmp rfl _ _ (w.heap.size + 1 + 1) _ _ (0, 0) _ rfl (BR.out.setRow #[.slice a1 d6.files.length c1, .slice a2 d6.dir.length c2, .slice a3 d6.safe.length c3, .slice a4 d6.chs.length c4, .int .i64 d6.cap, .int .i64 d6.ops, .int .i64 d6.armed, .bool d6.dead]) Tryz.underlying33 rfl DS6.out) rfl ⟨⟨.slice a1 d6.files.length c1, .slice a2 d6.dir.length c2, .slice a3 d6.safe.length c3, .slice a4 d6.chs.length c4⟩, rfl, R6.out.butG BR.out zero_nostr (But.row1 _ _ _), X.out.setRow (by omega) _⟩
  by_cases k1 : kind = 1
  · subst k1
    have E : d.act ⟨1, n, s, t, dir, .slice ac cuts.length cc, .slice am marks.length cm, cuts, marks⟩ = d.append s t := rfl
    rw [E]
    obtain ⟨⟨d6, e6⟩, hd6⟩ : ∃ r, r = d.append s t := ⟨_, rfl⟩
    have q := rappend_anyD G.out (HKX.out) (H.out.ext X.out) s t ht
    rw [← hd6] at q ⊢
    unfold RRet at q
    dsimp only at q ⊢
    clear E hd6
    simp only [refV] at *
    have Q := Lib.hid q
    clear q
    go_enter Tryz.func8, Tryz.ntmps8
    go_wp2_with fail
    refine Q.out.mono ?_
    rintro _ w6 ⟨v6, rfl, r6, x6⟩
    obtain ⟨a1, c1, a2, c2, a3, c3, a4, c4, rfl⟩ := r6.open_
    have R6 := Lib.hid r6
    replace BR := Lib.hid (BR.out.ext x6)
    replace X := Lib.hid (X.out.trans x6)
    clear r6 x6
    dsimp only
    have DS6 := Lib.hid (show (Tryz.prog.info? 33).map (·.size) = some (#[.slice a1 d6.files.length c1, .slice a2 d6.dir.length c2, .slice a3 d6.safe.length c3, .slice a4 d6.chs.length c4, .int .i64 d6.cap, .int .i64 d6.ops, .int .i64 d6.armed, .bool d6.dead] : Array Value).size from rdisk_size)
    have DO6 := Lib.hid (disk_all _ _ _ _ (sl_ex a1 d6.files.length c1) (sl_ex a2 d6.dir.length c2) (sl_ex a3 d6.safe.length c3) (sl_ex a4 d6.chs.length c4) d6.cap d6.ops d6.armed d6.dead)
    go_wp2_with (refine wpList_store_blk rfl 33 (.tmp 4) (.tmp 24) rfl rfl rfl BR.out rfl DS6.out DO6.out ?_; refine Held.go ?_)
    refine ⟨?_⟩
    go_wp2
    exact bodyPost_ret (results_row_tmp rfl _ _ (w.heap.size + 1 + 1) _ _ (0, 0) _ rfl (BR.out.setRow #[.slice a1 d6.files.length c1, .slice a2 d6.dir.length c2, .slice a3 d6.safe.length c3, .slice a4 d6.chs.length c4, .int .i64 d6.cap, .int .i64 d6.ops, .int .i64 d6.armed, .bool d6.dead]) Tryz.underlying33 rfl DS6.out) rfl ⟨⟨.slice a1 d6.files.length c1, .slice a2 d6.dir.length c2, .slice a3 d6.safe.length c3, .slice a4 d6.chs.length c4⟩, rfl, R6.out.butG BR.out zero_nostr (But.row1 _ _ _), X.out.setRow (by omega) _⟩
  by_cases k2 : kind = 2
  · subst k2
    have E : d.act ⟨2, n, s, t, dir, .slice ac cuts.length cc, .slice am marks.length cm, cuts, marks⟩ = d.sync s := rfl
    rw [E]
    obtain ⟨⟨d6, e6⟩, hd6⟩ : ∃ r, r = d.sync s := ⟨_, rfl⟩
    have q := rsync_anyD G.out (HKX.out) (H.out.ext X.out) s
    rw [← hd6] at q ⊢
    unfold RRet at q
    dsimp only at q ⊢
    clear E hd6
    simp only [refV] at *
    have Q := Lib.hid q
    clear q
    go_enter Tryz.func8, Tryz.ntmps8
    go_wp2_with fail
    refine Q.out.mono ?_
    rintro _ w6 ⟨v6, rfl, r6, x6⟩
    obtain ⟨a1, c1, a2, c2, a3, c3, a4, c4, rfl⟩ := r6.open_
    have R6 := Lib.hid r6
    replace BR := Lib.hid (BR.out.ext x6)
    replace X := Lib.hid (X.out.trans x6)
    clear r6 x6
    dsimp only
    have DS6 := Lib.hid (show (Tryz.prog.info? 33).map (·.size) = some (#[.slice a1 d6.files.length c1, .slice a2 d6.dir.length c2, .slice a3 d6.safe.length c3, .slice a4 d6.chs.length c4, .int .i64 d6.cap, .int .i64 d6.ops, .int .i64 d6.armed, .bool d6.dead] : Array Value).size from rdisk_size)
    have DO6 := Lib.hid (disk_all _ _ _ _ (sl_ex a1 d6.files.length c1) (sl_ex a2 d6.dir.length c2) (sl_ex a3 d6.safe.length c3) (sl_ex a4 d6.chs.length c4) d6.cap d6.ops d6.armed d6.dead)
    go_wp2_with (refine wpList_store_blk rfl 33 (.tmp 4) (.tmp 32) rfl rfl rfl BR.out rfl DS6.out DO6.out ?_; refine Held.go ?_)
    refine ⟨?_⟩
    go_wp2
    exact bodyPost_ret (results_row_tmp rfl _ _ (w.heap.size + 1 + 1) _ _ (0, 0) _ rfl (BR.out.setRow #[.slice a1 d6.files.length c1, .slice a2 d6.dir.length c2, .slice a3 d6.safe.length c3, .slice a4 d6.chs.length c4, .int .i64 d6.cap, .int .i64 d6.ops, .int .i64 d6.armed, .bool d6.dead]) Tryz.underlying33 rfl DS6.out) rfl ⟨⟨.slice a1 d6.files.length c1, .slice a2 d6.dir.length c2, .slice a3 d6.safe.length c3, .slice a4 d6.chs.length c4⟩, rfl, R6.out.butG BR.out zero_nostr (But.row1 _ _ _), X.out.setRow (by omega) _⟩
  by_cases k3 : kind = 3
  · subst k3
    have E : d.act ⟨3, n, s, t, dir, .slice ac cuts.length cc, .slice am marks.length cm, cuts, marks⟩ = d.cut s n := rfl
    rw [E]
    obtain ⟨⟨d6, e6⟩, hd6⟩ : ∃ r, r = d.cut s n := ⟨_, rfl⟩
    have q := rcut_anyD G.out (HKX.out) (H.out.ext X.out) s n
    rw [← hd6] at q ⊢
    unfold RRet at q
    dsimp only at q ⊢
    clear E hd6
    simp only [refV] at *
    have Q := Lib.hid q
    clear q
    go_enter Tryz.func8, Tryz.ntmps8
    go_wp2_with fail
    refine Q.out.mono ?_
    rintro _ w6 ⟨v6, rfl, r6, x6⟩
    obtain ⟨a1, c1, a2, c2, a3, c3, a4, c4, rfl⟩ := r6.open_
    have R6 := Lib.hid r6
    replace BR := Lib.hid (BR.out.ext x6)
    replace X := Lib.hid (X.out.trans x6)
    clear r6 x6
    dsimp only
    have DS6 := Lib.hid (show (Tryz.prog.info? 33).map (·.size) = some (#[.slice a1 d6.files.length c1, .slice a2 d6.dir.length c2, .slice a3 d6.safe.length c3, .slice a4 d6.chs.length c4, .int .i64 d6.cap, .int .i64 d6.ops, .int .i64 d6.armed, .bool d6.dead] : Array Value).size from rdisk_size)
    have DO6 := Lib.hid (disk_all _ _ _ _ (sl_ex a1 d6.files.length c1) (sl_ex a2 d6.dir.length c2) (sl_ex a3 d6.safe.length c3) (sl_ex a4 d6.chs.length c4) d6.cap d6.ops d6.armed d6.dead)
    go_wp2_with (refine wpList_store_blk rfl 33 (.tmp 4) (.tmp 42) rfl rfl rfl BR.out rfl DS6.out DO6.out ?_; refine Held.go ?_)
    refine ⟨?_⟩
    go_wp2
    exact bodyPost_ret (results_row_tmp rfl _ _ (w.heap.size + 1 + 1) _ _ (0, 0) _ rfl (BR.out.setRow #[.slice a1 d6.files.length c1, .slice a2 d6.dir.length c2, .slice a3 d6.safe.length c3, .slice a4 d6.chs.length c4, .int .i64 d6.cap, .int .i64 d6.ops, .int .i64 d6.armed, .bool d6.dead]) Tryz.underlying33 rfl DS6.out) rfl ⟨⟨.slice a1 d6.files.length c1, .slice a2 d6.dir.length c2, .slice a3 d6.safe.length c3, .slice a4 d6.chs.length c4⟩, rfl, R6.out.butG BR.out zero_nostr (But.row1 _ _ _), X.out.setRow (by omega) _⟩
  by_cases k4 : kind = 4
  · subst k4
    have E : d.act ⟨4, n, s, t, dir, .slice ac cuts.length cc, .slice am marks.length cm, cuts, marks⟩ = d.rename s t := rfl
    rw [E]
    obtain ⟨⟨d6, e6⟩, hd6⟩ : ∃ r, r = d.rename s t := ⟨_, rfl⟩
    have q := rrename_anyD G.out (HKX.out) (H.out.ext X.out) s t ht2
    rw [← hd6] at q ⊢
    unfold RRet at q
    dsimp only at q ⊢
    clear E hd6
    simp only [refV] at *
    have Q := Lib.hid q
    clear q
    go_enter Tryz.func8, Tryz.ntmps8
    go_wp2_with fail
    refine Q.out.mono ?_
    rintro _ w6 ⟨v6, rfl, r6, x6⟩
    obtain ⟨a1, c1, a2, c2, a3, c3, a4, c4, rfl⟩ := r6.open_
    have R6 := Lib.hid r6
    replace BR := Lib.hid (BR.out.ext x6)
    replace X := Lib.hid (X.out.trans x6)
    clear r6 x6
    dsimp only
    have DS6 := Lib.hid (show (Tryz.prog.info? 33).map (·.size) = some (#[.slice a1 d6.files.length c1, .slice a2 d6.dir.length c2, .slice a3 d6.safe.length c3, .slice a4 d6.chs.length c4, .int .i64 d6.cap, .int .i64 d6.ops, .int .i64 d6.armed, .bool d6.dead] : Array Value).size from rdisk_size)
    have DO6 := Lib.hid (disk_all _ _ _ _ (sl_ex a1 d6.files.length c1) (sl_ex a2 d6.dir.length c2) (sl_ex a3 d6.safe.length c3) (sl_ex a4 d6.chs.length c4) d6.cap d6.ops d6.armed d6.dead)
    go_wp2_with (refine wpList_store_blk rfl 33 (.tmp 4) (.tmp 52) rfl rfl rfl BR.out rfl DS6.out DO6.out ?_; refine Held.go ?_)
    refine ⟨?_⟩
    go_wp2
    exact bodyPost_ret (results_row_tmp rfl _ _ (w.heap.size + 1 + 1) _ _ (0, 0) _ rfl (BR.out.setRow #[.slice a1 d6.files.length c1, .slice a2 d6.dir.length c2, .slice a3 d6.safe.length c3, .slice a4 d6.chs.length c4, .int .i64 d6.cap, .int .i64 d6.ops, .int .i64 d6.armed, .bool d6.dead]) Tryz.underlying33 rfl DS6.out) rfl ⟨⟨.slice a1 d6.files.length c1, .slice a2 d6.dir.length c2, .slice a3 d6.safe.length c3, .slice a4 d6.chs.length c4⟩, rfl, R6.out.butG BR.out zero_nostr (But.row1 _ _ _), X.out.setRow (by omega) _⟩
  by_cases k5 : kind = 5
  · subst k5
    have E : d.act ⟨5, n, s, t, dir, .slice ac cuts.length cc, .slice am marks.length cm, cuts, marks⟩ = d.remove s := rfl
    rw [E]
    obtain ⟨⟨d6, e6⟩, hd6⟩ : ∃ r, r = d.remove s := ⟨_, rfl⟩
    have q := rremove_anyD G.out (HKX.out) (H.out.ext X.out) s
    rw [← hd6] at q ⊢
    unfold RRet at q
    dsimp only at q ⊢
    clear E hd6
    simp only [refV] at *
    have Q := Lib.hid q
    clear q
    go_enter Tryz.func8, Tryz.ntmps8
    go_wp2_with fail
    refine Q.out.mono ?_
    rintro _ w6 ⟨v6, rfl, r6, x6⟩
    obtain ⟨a1, c1, a2, c2, a3, c3, a4, c4, rfl⟩ := r6.open_
    have R6 := Lib.hid r6
    replace BR := Lib.hid (BR.out.ext x6)
    replace X := Lib.hid (X.out.trans x6)
    clear r6 x6
    dsimp only
    have DS6 := Lib.hid (show (Tryz.prog.info? 33).map (·.size) = some (#[.slice a1 d6.files.length c1, .slice a2 d6.dir.length c2, .slice a3 d6.safe.length c3, .slice a4 d6.chs.length c4, .int .i64 d6.cap, .int .i64 d6.ops, .int .i64 d6.armed, .bool d6.dead] : Array Value).size from rdisk_size)
    have DO6 := Lib.hid (disk_all _ _ _ _ (sl_ex a1 d6.files.length c1) (sl_ex a2 d6.dir.length c2) (sl_ex a3 d6.safe.length c3) (sl_ex a4 d6.chs.length c4) d6.cap d6.ops d6.armed d6.dead)
    go_wp2_with (refine wpList_store_blk rfl 33 (.tmp 4) (.tmp 60) rfl rfl rfl BR.out rfl DS6.out DO6.out ?_; refine Held.go ?_)
    refine ⟨?_⟩
    go_wp2
    exact bodyPost_ret (results_row_tmp rfl _ _ (w.heap.size + 1 + 1) _ _ (0, 0) _ rfl (BR.out.setRow #[.slice a1 d6.files.length c1, .slice a2 d6.dir.length c2, .slice a3 d6.safe.length c3, .slice a4 d6.chs.length c4, .int .i64 d6.cap, .int .i64 d6.ops, .int .i64 d6.armed, .bool d6.dead]) Tryz.underlying33 rfl DS6.out) rfl ⟨⟨.slice a1 d6.files.length c1, .slice a2 d6.dir.length c2, .slice a3 d6.safe.length c3, .slice a4 d6.chs.length c4⟩, rfl, R6.out.butG BR.out zero_nostr (But.row1 _ _ _), X.out.setRow (by omega) _⟩
  by_cases k6 : kind = 6
  · subst k6
    have E : d.act ⟨6, n, s, t, dir, .slice ac cuts.length cc, .slice am marks.length cm, cuts, marks⟩ = d.dirSync := rfl
    rw [E]
    obtain ⟨⟨d6, e6⟩, hd6⟩ : ∃ r, r = d.dirSync := ⟨_, rfl⟩
    have q := rdirSync_anyD G.out (HKX.out) (H.out.ext X.out)
    rw [← hd6] at q ⊢
    unfold RRet at q
    dsimp only at q ⊢
    clear E hd6
    simp only [refV] at *
    have Q := Lib.hid q
    clear q
    go_enter Tryz.func8, Tryz.ntmps8
    go_wp2_with fail
    refine Q.out.mono ?_
    rintro _ w6 ⟨v6, rfl, r6, x6⟩
    obtain ⟨a1, c1, a2, c2, a3, c3, a4, c4, rfl⟩ := r6.open_
    have R6 := Lib.hid r6
    replace BR := Lib.hid (BR.out.ext x6)
    replace X := Lib.hid (X.out.trans x6)
    clear r6 x6
    dsimp only
    have DS6 := Lib.hid (show (Tryz.prog.info? 33).map (·.size) = some (#[.slice a1 d6.files.length c1, .slice a2 d6.dir.length c2, .slice a3 d6.safe.length c3, .slice a4 d6.chs.length c4, .int .i64 d6.cap, .int .i64 d6.ops, .int .i64 d6.armed, .bool d6.dead] : Array Value).size from rdisk_size)
    have DO6 := Lib.hid (disk_all _ _ _ _ (sl_ex a1 d6.files.length c1) (sl_ex a2 d6.dir.length c2) (sl_ex a3 d6.safe.length c3) (sl_ex a4 d6.chs.length c4) d6.cap d6.ops d6.armed d6.dead)
    go_wp2_with (refine wpList_store_blk rfl 33 (.tmp 4) (.tmp 66) rfl rfl rfl BR.out rfl DS6.out DO6.out ?_; refine Held.go ?_)
    refine ⟨?_⟩
    go_wp2
    exact bodyPost_ret (results_row_tmp rfl _ _ (w.heap.size + 1 + 1) _ _ (0, 0) _ rfl (BR.out.setRow #[.slice a1 d6.files.length c1, .slice a2 d6.dir.length c2, .slice a3 d6.safe.length c3, .slice a4 d6.chs.length c4, .int .i64 d6.cap, .int .i64 d6.ops, .int .i64 d6.armed, .bool d6.dead]) Tryz.underlying33 rfl DS6.out) rfl ⟨⟨.slice a1 d6.files.length c1, .slice a2 d6.dir.length c2, .slice a3 d6.safe.length c3, .slice a4 d6.chs.length c4⟩, rfl, R6.out.butG BR.out zero_nostr (But.row1 _ _ _), X.out.setRow (by omega) _⟩
  by_cases k7 : kind = 7
  · subst k7
    have E : d.act ⟨7, n, s, t, dir, .slice ac cuts.length cc, .slice am marks.length cm, cuts, marks⟩ = d.arm n := rfl
    rw [E]
    obtain ⟨⟨d6, e6⟩, hd6⟩ : ∃ r, r = d.arm n := ⟨_, rfl⟩
    have q := rarm_anyD (HKX.out) (H.out.ext X.out) n
    rw [← hd6] at q ⊢
    unfold RRet at q
    dsimp only at q ⊢
    clear E hd6
    simp only [refV] at *
    have Q := Lib.hid q
    clear q
    go_enter Tryz.func8, Tryz.ntmps8
    go_wp2_with fail
    refine Q.out.mono ?_
    rintro _ w6 ⟨v6, rfl, r6, x6⟩
    obtain ⟨a1, c1, a2, c2, a3, c3, a4, c4, rfl⟩ := r6.open_
    have R6 := Lib.hid r6
    replace BR := Lib.hid (BR.out.ext x6)
    replace X := Lib.hid (X.out.trans x6)
    clear r6 x6
    dsimp only
    have DS6 := Lib.hid (show (Tryz.prog.info? 33).map (·.size) = some (#[.slice a1 d6.files.length c1, .slice a2 d6.dir.length c2, .slice a3 d6.safe.length c3, .slice a4 d6.chs.length c4, .int .i64 d6.cap, .int .i64 d6.ops, .int .i64 d6.armed, .bool d6.dead] : Array Value).size from rdisk_size)
    have DO6 := Lib.hid (disk_all _ _ _ _ (sl_ex a1 d6.files.length c1) (sl_ex a2 d6.dir.length c2) (sl_ex a3 d6.safe.length c3) (sl_ex a4 d6.chs.length c4) d6.cap d6.ops d6.armed d6.dead)
    go_wp2_with (refine wpList_store_blk rfl 33 (.tmp 4) (.tmp 74) rfl rfl rfl BR.out rfl DS6.out DO6.out ?_; refine Held.go ?_)
    refine ⟨?_⟩
    go_wp2
    exact bodyPost_ret (results_row_tmp rfl _ _ (w.heap.size + 1 + 1) _ _ (0, 0) _ rfl (BR.out.setRow #[.slice a1 d6.files.length c1, .slice a2 d6.dir.length c2, .slice a3 d6.safe.length c3, .slice a4 d6.chs.length c4, .int .i64 d6.cap, .int .i64 d6.ops, .int .i64 d6.armed, .bool d6.dead]) Tryz.underlying33 rfl DS6.out) rfl ⟨⟨.slice a1 d6.files.length c1, .slice a2 d6.dir.length c2, .slice a3 d6.safe.length c3, .slice a4 d6.chs.length c4⟩, rfl, R6.out.butG BR.out zero_nostr (But.row1 _ _ _), X.out.setRow (by omega) _⟩
  by_cases k8 : kind = 8
  · subst k8
    have E : d.act ⟨8, n, s, t, dir, .slice ac cuts.length cc, .slice am marks.length cm, cuts, marks⟩ = (d.off, 0) := rfl
    rw [E]
    obtain ⟨d6, hd6⟩ : ∃ r, r = d.off := ⟨_, rfl⟩
    have q := roff_any (H.out.ext X.out)
    rw [← hd6] at q ⊢
    dsimp only at q ⊢
    clear E hd6
    simp only [refV] at *
    have Q := Lib.hid q
    clear q
    go_enter Tryz.func8, Tryz.ntmps8
    go_wp2_with fail
    refine Q.out.mono ?_
    rintro _ w6 ⟨v6, rfl, r6, x6⟩
    obtain ⟨a1, c1, a2, c2, a3, c3, a4, c4, rfl⟩ := r6.open_
    have R6 := Lib.hid r6
    replace BR := Lib.hid (BR.out.ext x6)
    replace X := Lib.hid (X.out.trans x6)
    clear r6 x6
    dsimp only
    have DS6 := Lib.hid (show (Tryz.prog.info? 33).map (·.size) = some (#[.slice a1 d6.files.length c1, .slice a2 d6.dir.length c2, .slice a3 d6.safe.length c3, .slice a4 d6.chs.length c4, .int .i64 d6.cap, .int .i64 d6.ops, .int .i64 d6.armed, .bool d6.dead] : Array Value).size from rdisk_size)
    have DO6 := Lib.hid (disk_all _ _ _ _ (sl_ex a1 d6.files.length c1) (sl_ex a2 d6.dir.length c2) (sl_ex a3 d6.safe.length c3) (sl_ex a4 d6.chs.length c4) d6.cap d6.ops d6.armed d6.dead)
    go_wp2_with (refine wpList_store_blk rfl 33 (.tmp 4) (.tmp 79) rfl rfl rfl BR.out rfl DS6.out DO6.out ?_; refine Held.go ?_)
    refine ⟨?_⟩
    go_wp2
    exact bodyPost_ret (results_row_tmp rfl _ _ (w.heap.size + 1 + 1) _ _ (0, 0) _ rfl (BR.out.setRow #[.slice a1 d6.files.length c1, .slice a2 d6.dir.length c2, .slice a3 d6.safe.length c3, .slice a4 d6.chs.length c4, .int .i64 d6.cap, .int .i64 d6.ops, .int .i64 d6.armed, .bool d6.dead]) Tryz.underlying33 rfl DS6.out) rfl ⟨⟨.slice a1 d6.files.length c1, .slice a2 d6.dir.length c2, .slice a3 d6.safe.length c3, .slice a4 d6.chs.length c4⟩, rfl, R6.out.butG BR.out zero_nostr (But.row1 _ _ _), X.out.setRow (by omega) _⟩
  by_cases k9 : kind = 9
  · subst k9
    have E : d.act ⟨9, n, s, t, dir, .slice ac cuts.length cc, .slice am marks.length cm, cuts, marks⟩ = (d.boot dir cuts marks, 0) := rfl
    rw [E]
    obtain ⟨d6, hd6⟩ : ∃ r, r = d.boot dir cuts marks := ⟨_, rfl⟩
    have q := rboot_any (HKX.out) (H.out.ext X.out) G.out.ok G.out.chs (by have := G.out.op; omega) G.out.f1 dir (AW.out.ext X.out).cuts (AW.out.ext X.out).marks AW.out.cl AW.out.ml HMK.out
    rw [← hd6] at q ⊢
    dsimp only at q ⊢
    clear E hd6
    simp only [refV] at *
    have Q := Lib.hid q
    clear q
    go_enter Tryz.func8, Tryz.ntmps8
    go_wp2_with (refine wpList_load_mid rfl 41 (.tmp 83) rfl (w.heap.size + 1) 4 rfl [.int .i64 dir, .slice ac cuts.length cc, .slice am marks.length cm] _ R4.out Tryz.underlying41 rfl RS.out ?_; refine Held.go ?_)
    refine ⟨?_⟩
    go_wp2_with fail
    refine Q.out.mono ?_
    rintro _ w6 ⟨v6, rfl, r6, x6⟩
    obtain ⟨a1, c1, a2, c2, a3, c3, a4, c4, rfl⟩ := r6.open_
    have R6 := Lib.hid r6
    replace BR := Lib.hid (BR.out.ext x6)
    replace X := Lib.hid (X.out.trans x6)
    clear r6 x6
    dsimp only
    have DS6 := Lib.hid (show (Tryz.prog.info? 33).map (·.size) = some (#[.slice a1 d6.files.length c1, .slice a2 d6.dir.length c2, .slice a3 d6.safe.length c3, .slice a4 d6.chs.length c4, .int .i64 d6.cap, .int .i64 d6.ops, .int .i64 d6.armed, .bool d6.dead] : Array Value).size from rdisk_size)
    have DO6 := Lib.hid (disk_all _ _ _ _ (sl_ex a1 d6.files.length c1) (sl_ex a2 d6.dir.length c2) (sl_ex a3 d6.safe.length c3) (sl_ex a4 d6.chs.length c4) d6.cap d6.ops d6.armed d6.dead)
    go_wp2_with (refine wpList_store_blk rfl 33 (.tmp 4) (.tmp 85) rfl rfl rfl BR.out rfl DS6.out DO6.out ?_; refine Held.go ?_)
    refine ⟨?_⟩
    go_wp2
    exact bodyPost_ret (results_row_tmp rfl _ _ (w.heap.size + 1 + 1) _ _ (0, 0) _ rfl (BR.out.setRow #[.slice a1 d6.files.length c1, .slice a2 d6.dir.length c2, .slice a3 d6.safe.length c3, .slice a4 d6.chs.length c4, .int .i64 d6.cap, .int .i64 d6.ops, .int .i64 d6.armed, .bool d6.dead]) Tryz.underlying33 rfl DS6.out) rfl ⟨⟨.slice a1 d6.files.length c1, .slice a2 d6.dir.length c2, .slice a3 d6.safe.length c3, .slice a4 d6.chs.length c4⟩, rfl, R6.out.butG BR.out zero_nostr (But.row1 _ _ _), X.out.setRow (by omega) _⟩
  have E : d.act ⟨kind, n, s, t, dir, .slice ac cuts.length cc, .slice am marks.length cm, cuts, marks⟩ = (d, 0) := by simp [Dsk.act, k0, k1, k2, k3, k4, k5, k6, k7, k8, k9]
  rw [E]
  have b0 : (kind == 0) = false := by simpa using k0
  have b1 : (kind == 1) = false := by simpa using k1
  have b2 : (kind == 2) = false := by simpa using k2
  have b3 : (kind == 3) = false := by simpa using k3
  have b4 : (kind == 4) = false := by simpa using k4
  have b5 : (kind == 5) = false := by simpa using k5
  have b6 : (kind == 6) = false := by simpa using k6
  have b7 : (kind == 7) = false := by simpa using k7
  have b8 : (kind == 8) = false := by simpa using k8
  have b9 : (kind == 9) = false := by simpa using k9
  clear E k0 k1 k2 k3 k4 k5 k6 k7 k8 k9
  simp only [refV]
  go_enter Tryz.func8, Tryz.ntmps8
  go_wp2
  exact bodyPost_ret (v := .tuple #[.agg #[.slice aF d.files.length cF, .slice aD d.dir.length cD, .slice aS d.safe.length cS, .slice aC d.chs.length cC, .int .i64 d.cap, .int .i64 d.ops, .int .i64 d.armed, .bool d.dead], .int .i64 0]) (by simp [results, Tryz.results8, go_sem]) rfl ⟨⟨.slice aF d.files.length cF, .slice aD d.dir.length cD, .slice aS d.safe.length cS, .slice aC d.chs.length cC⟩, rfl, H.out.ext ((((Ext.refl w).alloc _).alloc _).alloc _), (((Ext.refl w).alloc _).alloc _).alloc _⟩
end Go.Proofs.YtfipfljiohdlhaaGreat
