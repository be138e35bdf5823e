/- The document's disk: Rename, Remove, DirSync, Arm, Off, New; errors of open. -/
import Derived.Test.YtfipfljiohdlhaaGreatDnI
namespace Go.Proofs.YtfipfljiohdlhaaGreat
set_option linter.unusedVariables false
set_option linter.unusedSimpArgs false
open Go.RowKit
attribute [local go_sem] S_size S_toList S_append S_extract S_beq S_bne S_empty S_nil
variable {K : List Nat}
theorem cnt_dead (d : Dsk) : d.cnt.dead = (d.armed == 1) := rfl

set_option maxRecDepth 20000 in
set_option maxHeartbeats 4000000 in
theorem rrename_dead {w : World} {v : V4} {d : Dsk} (hK : ∀ k ∈ K, k < w.heap.size) (h : RefD K w v d) (hd : d.dead = true) (s : List UInt8) (t : List UInt8) (hl : (d.dir.length : Int) ≤ 1000000) :
    Calls Tryz.prog 25 #[refV v d, .string (S s), .string (S t)] w fun x w' => RRet K w d 200 x w' := by
  obtain ⟨aF, cF, aD, cD, aS, cS, aC, cC, rfl⟩ := h.open_
  have H := Lib.hid h
  have HK := Lib.hid hK
  clear hK
  have qo := fun W (x : Ext w W) => ropen_any (h.ext x) s hl
  simp only [hd, if_true] at qo
  have QO := Lib.hid qo
  clear qo
  clear h
  obtain ⟨files, dir, safe, chs, cap, ops, armed, dead⟩ := d
  dsimp only at hd
  subst hd
  dsimp only at *
  have X := Lib.hid (((Ext.refl w).alloc (.cells #[.slice aF files.length cF, .slice aD dir.length cD, .slice aS safe.length cS, .slice aC chs.length cC, .int .i64 cap, .int .i64 ops, .int .i64 armed, .bool true] 33)).alloc (.cells #[.slice none 0 0, .slice none 0 0, .slice none 0 0, .slice none 0 0, .int .i64 0, .int .i64 0, .int .i64 0, .bool false] 33))
  have BD := Lib.hid ((Blk.new w 33 #[.slice aF files.length cF, .slice aD dir.length cD, .slice aS safe.length cS, .slice aC chs.length cC, .int .i64 cap, .int .i64 ops, .int .i64 armed, .bool true]).alloc (.cells #[.slice none 0 0, .slice none 0 0, .slice none 0 0, .slice none 0 0, .int .i64 0, .int .i64 0, .int .i64 0, .bool false] 33))
  have br := Blk.new (w.alloc (.cells #[.slice aF files.length cF, .slice aD dir.length cD, .slice aS safe.length cS, .slice aC chs.length cC, .int .i64 cap, .int .i64 ops, .int .i64 armed, .bool true] 33)) 33 #[.slice none 0 0, .slice none 0 0, .slice none 0 0, .slice none 0 0, .int .i64 0, .int .i64 0, .int .i64 0, .bool false]
  simp only [World.size_alloc] at br
  have BR := Lib.hid br
  clear br
  have DS := Lib.hid (show (Tryz.prog.info? 33).map (·.size) = some (#[.slice aF files.length cF, .slice aD dir.length cD, .slice aS safe.length cS, .slice aC chs.length cC, .int .i64 cap, .int .i64 ops, .int .i64 armed, .bool true] : Array Value).size from rdisk_size)
  have DO := Lib.hid (disk_all _ _ _ _ (sl_ex aF files.length cF) (sl_ex aD dir.length cD) (sl_ex aS safe.length cS) (sl_ex aC chs.length cC) cap ops armed true)
  unfold RRet
  simp only [refV] at *
  go_enter Tryz.func25, Tryz.ntmps25
  go_wp2_with fail
  refine (QO.out _ X.out).mono ?_
  rintro _ w1 ⟨rfl, x1⟩
  replace BD := Lib.hid (BD.out.ext x1)
  replace BR := Lib.hid (BR.out.ext x1)
  replace X := Lib.hid (X.out.trans x1)
  clear x1
  go_wp2_with (refine wpList_load_blk rfl 33 (.tmp 3) rfl rfl BD.out Tryz.underlying33 rfl DS.out ?_; refine Held.go ?_)
  refine ⟨?_⟩
  go_wp2_with (refine wpList_store_blk rfl 33 (.tmp 6) (.tmp 18) rfl rfl rfl BR.out rfl DS.out DO.out ?_; refine Held.go ?_)
  refine ⟨?_⟩
  go_wp2
  exact bodyPost_ret (results_row_tmp rfl _ _ (w.heap.size + 1) _ _ (0, 0) _ rfl (BR.out.setRow #[.slice aF files.length cF, .slice aD dir.length cD, .slice aS safe.length cS, .slice aC chs.length cC, .int .i64 cap, .int .i64 ops, .int .i64 armed, .bool true]) Tryz.underlying33 rfl DS.out) rfl ⟨⟨.slice aF files.length cF, .slice aD dir.length cD, .slice aS safe.length cS, .slice aC chs.length cC⟩, rfl, H.out.ext (X.out.setRow (by omega) _), X.out.setRow (by omega) _⟩
set_option maxRecDepth 20000 in
set_option maxHeartbeats 4000000 in
theorem rrename_none {w : World} {v : V4} {d : Dsk} (hK : ∀ k ∈ K, k < w.heap.size) (h : RefD K w v d) (hd : d.dead = false) (s : List UInt8) (t : List UInt8) (hl : (d.dir.length : Int) ≤ 1000000) (hg : dGet s d.dir = none) :
    Calls Tryz.prog 25 #[refV v d, .string (S s), .string (S t)] w fun x w' => RRet K w d 201 x w' := by
  obtain ⟨aF, cF, aD, cD, aS, cS, aC, cC, rfl⟩ := h.open_
  have H := Lib.hid h
  have HK := Lib.hid hK
  clear hK
  have qo := fun W (x : Ext w W) => ropen_any (h.ext x) s hl
  simp only [hd, hg, if_false, Bool.false_eq_true] at qo
  have QO := Lib.hid qo
  clear qo
  clear h
  obtain ⟨files, dir, safe, chs, cap, ops, armed, dead⟩ := d
  dsimp only at hd
  subst hd
  dsimp only at *
  have X := Lib.hid (((Ext.refl w).alloc (.cells #[.slice aF files.length cF, .slice aD dir.length cD, .slice aS safe.length cS, .slice aC chs.length cC, .int .i64 cap, .int .i64 ops, .int .i64 armed, .bool false] 33)).alloc (.cells #[.slice none 0 0, .slice none 0 0, .slice none 0 0, .slice none 0 0, .int .i64 0, .int .i64 0, .int .i64 0, .bool false] 33))
  have BD := Lib.hid ((Blk.new w 33 #[.slice aF files.length cF, .slice aD dir.length cD, .slice aS safe.length cS, .slice aC chs.length cC, .int .i64 cap, .int .i64 ops, .int .i64 armed, .bool false]).alloc (.cells #[.slice none 0 0, .slice none 0 0, .slice none 0 0, .slice none 0 0, .int .i64 0, .int .i64 0, .int .i64 0, .bool false] 33))
  have br := Blk.new (w.alloc (.cells #[.slice aF files.length cF, .slice aD dir.length cD, .slice aS safe.length cS, .slice aC chs.length cC, .int .i64 cap, .int .i64 ops, .int .i64 armed, .bool false] 33)) 33 #[.slice none 0 0, .slice none 0 0, .slice none 0 0, .slice none 0 0, .int .i64 0, .int .i64 0, .int .i64 0, .bool false]
  simp only [World.size_alloc] at br
  have BR := Lib.hid br
  clear br
  have DS := Lib.hid (show (Tryz.prog.info? 33).map (·.size) = some (#[.slice aF files.length cF, .slice aD dir.length cD, .slice aS safe.length cS, .slice aC chs.length cC, .int .i64 cap, .int .i64 ops, .int .i64 armed, .bool false] : Array Value).size from rdisk_size)
  have DO := Lib.hid (disk_all _ _ _ _ (sl_ex aF files.length cF) (sl_ex aD dir.length cD) (sl_ex aS safe.length cS) (sl_ex aC chs.length cC) cap ops armed false)
  unfold RRet
  simp only [refV] at *
  go_enter Tryz.func25, Tryz.ntmps25
  go_wp2_with fail
  refine (QO.out _ X.out).mono ?_
  rintro _ w1 ⟨rfl, x1⟩
  replace BD := Lib.hid (BD.out.ext x1)
  replace BR := Lib.hid (BR.out.ext x1)
  replace X := Lib.hid (X.out.trans x1)
  clear x1
  go_wp2_with (refine wpList_load_blk rfl 33 (.tmp 3) rfl rfl BD.out Tryz.underlying33 rfl DS.out ?_; refine Held.go ?_)
  refine ⟨?_⟩
  go_wp2_with (refine wpList_store_blk rfl 33 (.tmp 6) (.tmp 18) rfl rfl rfl BR.out rfl DS.out DO.out ?_; refine Held.go ?_)
  refine ⟨?_⟩
  go_wp2
  exact bodyPost_ret (results_row_tmp rfl _ _ (w.heap.size + 1) _ _ (0, 0) _ rfl (BR.out.setRow #[.slice aF files.length cF, .slice aD dir.length cD, .slice aS safe.length cS, .slice aC chs.length cC, .int .i64 cap, .int .i64 ops, .int .i64 armed, .bool false]) Tryz.underlying33 rfl DS.out) rfl ⟨⟨.slice aF files.length cF, .slice aD dir.length cD, .slice aS safe.length cS, .slice aC chs.length cC⟩, rfl, H.out.ext (X.out.setRow (by omega) _), X.out.setRow (by omega) _⟩
set_option maxRecDepth 20000 in
set_option maxHeartbeats 4000000 in
theorem rremove_dead {w : World} {v : V4} {d : Dsk} (hK : ∀ k ∈ K, k < w.heap.size) (h : RefD K w v d) (hd : d.dead = true) (s : List UInt8)  (hl : (d.dir.length : Int) ≤ 1000000) :
    Calls Tryz.prog 26 #[refV v d, .string (S s)] w fun x w' => RRet K w d 200 x w' := by
  obtain ⟨aF, cF, aD, cD, aS, cS, aC, cC, rfl⟩ := h.open_
  have H := Lib.hid h
  have HK := Lib.hid hK
  clear hK
  have qo := fun W (x : Ext w W) => ropen_any (h.ext x) s hl
  simp only [hd, if_true] at qo
  have QO := Lib.hid qo
  clear qo
  clear h
  obtain ⟨files, dir, safe, chs, cap, ops, armed, dead⟩ := d
  dsimp only at hd
  subst hd
  dsimp only at *
  have X := Lib.hid (((Ext.refl w).alloc (.cells #[.slice aF files.length cF, .slice aD dir.length cD, .slice aS safe.length cS, .slice aC chs.length cC, .int .i64 cap, .int .i64 ops, .int .i64 armed, .bool true] 33)).alloc (.cells #[.slice none 0 0, .slice none 0 0, .slice none 0 0, .slice none 0 0, .int .i64 0, .int .i64 0, .int .i64 0, .bool false] 33))
  have BD := Lib.hid ((Blk.new w 33 #[.slice aF files.length cF, .slice aD dir.length cD, .slice aS safe.length cS, .slice aC chs.length cC, .int .i64 cap, .int .i64 ops, .int .i64 armed, .bool true]).alloc (.cells #[.slice none 0 0, .slice none 0 0, .slice none 0 0, .slice none 0 0, .int .i64 0, .int .i64 0, .int .i64 0, .bool false] 33))
  have br := Blk.new (w.alloc (.cells #[.slice aF files.length cF, .slice aD dir.length cD, .slice aS safe.length cS, .slice aC chs.length cC, .int .i64 cap, .int .i64 ops, .int .i64 armed, .bool true] 33)) 33 #[.slice none 0 0, .slice none 0 0, .slice none 0 0, .slice none 0 0, .int .i64 0, .int .i64 0, .int .i64 0, .bool false]
  simp only [World.size_alloc] at br
  have BR := Lib.hid br
  clear br
  have DS := Lib.hid (show (Tryz.prog.info? 33).map (·.size) = some (#[.slice aF files.length cF, .slice aD dir.length cD, .slice aS safe.length cS, .slice aC chs.length cC, .int .i64 cap, .int .i64 ops, .int .i64 armed, .bool true] : Array Value).size from rdisk_size)
  have DO := Lib.hid (disk_all _ _ _ _ (sl_ex aF files.length cF) (sl_ex aD dir.length cD) (sl_ex aS safe.length cS) (sl_ex aC chs.length cC) cap ops armed true)
  unfold RRet
  simp only [refV] at *
  go_enter Tryz.func26, Tryz.ntmps26
  go_wp2_with fail
  refine (QO.out _ X.out).mono ?_
  rintro _ w1 ⟨rfl, x1⟩
  replace BD := Lib.hid (BD.out.ext x1)
  replace BR := Lib.hid (BR.out.ext x1)
  replace X := Lib.hid (X.out.trans x1)
  clear x1
  go_wp2_with (refine wpList_load_blk rfl 33 (.tmp 2) rfl rfl BD.out Tryz.underlying33 rfl DS.out ?_; refine Held.go ?_)
  refine ⟨?_⟩
  go_wp2_with (refine wpList_store_blk rfl 33 (.tmp 4) (.tmp 16) rfl rfl rfl BR.out rfl DS.out DO.out ?_; refine Held.go ?_)
  refine ⟨?_⟩
  go_wp2
  exact bodyPost_ret (results_row_tmp rfl _ _ (w.heap.size + 1) _ _ (0, 0) _ rfl (BR.out.setRow #[.slice aF files.length cF, .slice aD dir.length cD, .slice aS safe.length cS, .slice aC chs.length cC, .int .i64 cap, .int .i64 ops, .int .i64 armed, .bool true]) Tryz.underlying33 rfl DS.out) rfl ⟨⟨.slice aF files.length cF, .slice aD dir.length cD, .slice aS safe.length cS, .slice aC chs.length cC⟩, rfl, H.out.ext (X.out.setRow (by omega) _), X.out.setRow (by omega) _⟩
set_option maxRecDepth 20000 in
set_option maxHeartbeats 4000000 in
theorem rremove_none {w : World} {v : V4} {d : Dsk} (hK : ∀ k ∈ K, k < w.heap.size) (h : RefD K w v d) (hd : d.dead = false) (s : List UInt8)  (hl : (d.dir.length : Int) ≤ 1000000) (hg : dGet s d.dir = none) :
    Calls Tryz.prog 26 #[refV v d, .string (S s)] w fun x w' => RRet K w d 201 x w' := by
  obtain ⟨aF, cF, aD, cD, aS, cS, aC, cC, rfl⟩ := h.open_
  have H := Lib.hid h
  have HK := Lib.hid hK
  clear hK
  have qo := fun W (x : Ext w W) => ropen_any (h.ext x) s hl
  simp only [hd, hg, if_false, Bool.false_eq_true] at qo
  have QO := Lib.hid qo
  clear qo
  clear h
  obtain ⟨files, dir, safe, chs, cap, ops, armed, dead⟩ := d
  dsimp only at hd
  subst hd
  dsimp only at *
  have X := Lib.hid (((Ext.refl w).alloc (.cells #[.slice aF files.length cF, .slice aD dir.length cD, .slice aS safe.length cS, .slice aC chs.length cC, .int .i64 cap, .int .i64 ops, .int .i64 armed, .bool false] 33)).alloc (.cells #[.slice none 0 0, .slice none 0 0, .slice none 0 0, .slice none 0 0, .int .i64 0, .int .i64 0, .int .i64 0, .bool false] 33))
  have BD := Lib.hid ((Blk.new w 33 #[.slice aF files.length cF, .slice aD dir.length cD, .slice aS safe.length cS, .slice aC chs.length cC, .int .i64 cap, .int .i64 ops, .int .i64 armed, .bool false]).alloc (.cells #[.slice none 0 0, .slice none 0 0, .slice none 0 0, .slice none 0 0, .int .i64 0, .int .i64 0, .int .i64 0, .bool false] 33))
  have br := Blk.new (w.alloc (.cells #[.slice aF files.length cF, .slice aD dir.length cD, .slice aS safe.length cS, .slice aC chs.length cC, .int .i64 cap, .int .i64 ops, .int .i64 armed, .bool false] 33)) 33 #[.slice none 0 0, .slice none 0 0, .slice none 0 0, .slice none 0 0, .int .i64 0, .int .i64 0, .int .i64 0, .bool false]
  simp only [World.size_alloc] at br
  have BR := Lib.hid br
  clear br
  have DS := Lib.hid (show (Tryz.prog.info? 33).map (·.size) = some (#[.slice aF files.length cF, .slice aD dir.length cD, .slice aS safe.length cS, .slice aC chs.length cC, .int .i64 cap, .int .i64 ops, .int .i64 armed, .bool false] : Array Value).size from rdisk_size)
  have DO := Lib.hid (disk_all _ _ _ _ (sl_ex aF files.length cF) (sl_ex aD dir.length cD) (sl_ex aS safe.length cS) (sl_ex aC chs.length cC) cap ops armed false)
  unfold RRet
  simp only [refV] at *
  go_enter Tryz.func26, Tryz.ntmps26
  go_wp2_with fail
  refine (QO.out _ X.out).mono ?_
  rintro _ w1 ⟨rfl, x1⟩
  replace BD := Lib.hid (BD.out.ext x1)
  replace BR := Lib.hid (BR.out.ext x1)
  replace X := Lib.hid (X.out.trans x1)
  clear x1
  go_wp2_with (refine wpList_load_blk rfl 33 (.tmp 2) rfl rfl BD.out Tryz.underlying33 rfl DS.out ?_; refine Held.go ?_)
  refine ⟨?_⟩
  go_wp2_with (refine wpList_store_blk rfl 33 (.tmp 4) (.tmp 16) rfl rfl rfl BR.out rfl DS.out DO.out ?_; refine Held.go ?_)
  refine ⟨?_⟩
  go_wp2
  exact bodyPost_ret (results_row_tmp rfl _ _ (w.heap.size + 1) _ _ (0, 0) _ rfl (BR.out.setRow #[.slice aF files.length cF, .slice aD dir.length cD, .slice aS safe.length cS, .slice aC chs.length cC, .int .i64 cap, .int .i64 ops, .int .i64 armed, .bool false]) Tryz.underlying33 rfl DS.out) rfl ⟨⟨.slice aF files.length cF, .slice aD dir.length cD, .slice aS safe.length cS, .slice aC chs.length cC⟩, rfl, H.out.ext (X.out.setRow (by omega) _), X.out.setRow (by omega) _⟩
set_option maxRecDepth 20000 in
set_option maxHeartbeats 4000000 in
theorem rsyncD_dead {w : World} {v : V4} {d : Dsk} (hK : ∀ k ∈ K, k < w.heap.size) (h : RefD K w v d) (hd : d.dead = true) (s : List UInt8)  (hl : (d.dir.length : Int) ≤ 1000000) :
    Calls Tryz.prog 23 #[refV v d, .string (S s)] w fun x w' => RRet K w d 200 x w' := by
  obtain ⟨aF, cF, aD, cD, aS, cS, aC, cC, rfl⟩ := h.open_
  have H := Lib.hid h
  have HK := Lib.hid hK
  clear hK
  have qo := fun W (x : Ext w W) => ropen_any (h.ext x) s hl
  simp only [hd, if_true] at qo
  have QO := Lib.hid qo
  clear qo
  clear h
  obtain ⟨files, dir, safe, chs, cap, ops, armed, dead⟩ := d
  dsimp only at hd
  subst hd
  dsimp only at *
  have X := Lib.hid (((Ext.refl w).alloc (.cells #[.slice aF files.length cF, .slice aD dir.length cD, .slice aS safe.length cS, .slice aC chs.length cC, .int .i64 cap, .int .i64 ops, .int .i64 armed, .bool true] 33)).alloc (.cells #[.slice none 0 0, .slice none 0 0, .slice none 0 0, .slice none 0 0, .int .i64 0, .int .i64 0, .int .i64 0, .bool false] 33))
  have BD := Lib.hid ((Blk.new w 33 #[.slice aF files.length cF, .slice aD dir.length cD, .slice aS safe.length cS, .slice aC chs.length cC, .int .i64 cap, .int .i64 ops, .int .i64 armed, .bool true]).alloc (.cells #[.slice none 0 0, .slice none 0 0, .slice none 0 0, .slice none 0 0, .int .i64 0, .int .i64 0, .int .i64 0, .bool false] 33))
  have br := Blk.new (w.alloc (.cells #[.slice aF files.length cF, .slice aD dir.length cD, .slice aS safe.length cS, .slice aC chs.length cC, .int .i64 cap, .int .i64 ops, .int .i64 armed, .bool true] 33)) 33 #[.slice none 0 0, .slice none 0 0, .slice none 0 0, .slice none 0 0, .int .i64 0, .int .i64 0, .int .i64 0, .bool false]
  simp only [World.size_alloc] at br
  have BR := Lib.hid br
  clear br
  have DS := Lib.hid (show (Tryz.prog.info? 33).map (·.size) = some (#[.slice aF files.length cF, .slice aD dir.length cD, .slice aS safe.length cS, .slice aC chs.length cC, .int .i64 cap, .int .i64 ops, .int .i64 armed, .bool true] : Array Value).size from rdisk_size)
  have DO := Lib.hid (disk_all _ _ _ _ (sl_ex aF files.length cF) (sl_ex aD dir.length cD) (sl_ex aS safe.length cS) (sl_ex aC chs.length cC) cap ops armed true)
  unfold RRet
  simp only [refV] at *
  go_enter Tryz.func23, Tryz.ntmps23
  go_wp2_with fail
  refine (QO.out _ X.out).mono ?_
  rintro _ w1 ⟨rfl, x1⟩
  replace BD := Lib.hid (BD.out.ext x1)
  replace BR := Lib.hid (BR.out.ext x1)
  replace X := Lib.hid (X.out.trans x1)
  clear x1
  go_wp2_with (refine wpList_load_blk rfl 33 (.tmp 2) rfl rfl BD.out Tryz.underlying33 rfl DS.out ?_; refine Held.go ?_)
  refine ⟨?_⟩
  go_wp2_with (refine wpList_store_blk rfl 33 (.tmp 4) (.tmp 17) rfl rfl rfl BR.out rfl DS.out DO.out ?_; refine Held.go ?_)
  refine ⟨?_⟩
  go_wp2
  exact bodyPost_ret (results_row_tmp rfl _ _ (w.heap.size + 1) _ _ (0, 0) _ rfl (BR.out.setRow #[.slice aF files.length cF, .slice aD dir.length cD, .slice aS safe.length cS, .slice aC chs.length cC, .int .i64 cap, .int .i64 ops, .int .i64 armed, .bool true]) Tryz.underlying33 rfl DS.out) rfl ⟨⟨.slice aF files.length cF, .slice aD dir.length cD, .slice aS safe.length cS, .slice aC chs.length cC⟩, rfl, H.out.ext (X.out.setRow (by omega) _), X.out.setRow (by omega) _⟩
set_option maxRecDepth 20000 in
set_option maxHeartbeats 4000000 in
theorem rsyncD_none {w : World} {v : V4} {d : Dsk} (hK : ∀ k ∈ K, k < w.heap.size) (h : RefD K w v d) (hd : d.dead = false) (s : List UInt8)  (hl : (d.dir.length : Int) ≤ 1000000) (hg : dGet s d.dir = none) :
    Calls Tryz.prog 23 #[refV v d, .string (S s)] w fun x w' => RRet K w d 201 x w' := by
  obtain ⟨aF, cF, aD, cD, aS, cS, aC, cC, rfl⟩ := h.open_
  have H := Lib.hid h
  have HK := Lib.hid hK
  clear hK
  have qo := fun W (x : Ext w W) => ropen_any (h.ext x) s hl
  simp only [hd, hg, if_false, Bool.false_eq_true] at qo
  have QO := Lib.hid qo
  clear qo
  clear h
  obtain ⟨files, dir, safe, chs, cap, ops, armed, dead⟩ := d
  dsimp only at hd
  subst hd
  dsimp only at *
  have X := Lib.hid (((Ext.refl w).alloc (.cells #[.slice aF files.length cF, .slice aD dir.length cD, .slice aS safe.length cS, .slice aC chs.length cC, .int .i64 cap, .int .i64 ops, .int .i64 armed, .bool false] 33)).alloc (.cells #[.slice none 0 0, .slice none 0 0, .slice none 0 0, .slice none 0 0, .int .i64 0, .int .i64 0, .int .i64 0, .bool false] 33))
  have BD := Lib.hid ((Blk.new w 33 #[.slice aF files.length cF, .slice aD dir.length cD, .slice aS safe.length cS, .slice aC chs.length cC, .int .i64 cap, .int .i64 ops, .int .i64 armed, .bool false]).alloc (.cells #[.slice none 0 0, .slice none 0 0, .slice none 0 0, .slice none 0 0, .int .i64 0, .int .i64 0, .int .i64 0, .bool false] 33))
  have br := Blk.new (w.alloc (.cells #[.slice aF files.length cF, .slice aD dir.length cD, .slice aS safe.length cS, .slice aC chs.length cC, .int .i64 cap, .int .i64 ops, .int .i64 armed, .bool false] 33)) 33 #[.slice none 0 0, .slice none 0 0, .slice none 0 0, .slice none 0 0, .int .i64 0, .int .i64 0, .int .i64 0, .bool false]
  simp only [World.size_alloc] at br
  have BR := Lib.hid br
  clear br
  have DS := Lib.hid (show (Tryz.prog.info? 33).map (·.size) = some (#[.slice aF files.length cF, .slice aD dir.length cD, .slice aS safe.length cS, .slice aC chs.length cC, .int .i64 cap, .int .i64 ops, .int .i64 armed, .bool false] : Array Value).size from rdisk_size)
  have DO := Lib.hid (disk_all _ _ _ _ (sl_ex aF files.length cF) (sl_ex aD dir.length cD) (sl_ex aS safe.length cS) (sl_ex aC chs.length cC) cap ops armed false)
  unfold RRet
  simp only [refV] at *
  go_enter Tryz.func23, Tryz.ntmps23
  go_wp2_with fail
  refine (QO.out _ X.out).mono ?_
  rintro _ w1 ⟨rfl, x1⟩
  replace BD := Lib.hid (BD.out.ext x1)
  replace BR := Lib.hid (BR.out.ext x1)
  replace X := Lib.hid (X.out.trans x1)
  clear x1
  go_wp2_with (refine wpList_load_blk rfl 33 (.tmp 2) rfl rfl BD.out Tryz.underlying33 rfl DS.out ?_; refine Held.go ?_)
  refine ⟨?_⟩
  go_wp2_with (refine wpList_store_blk rfl 33 (.tmp 4) (.tmp 17) rfl rfl rfl BR.out rfl DS.out DO.out ?_; refine Held.go ?_)
  refine ⟨?_⟩
  go_wp2
  exact bodyPost_ret (results_row_tmp rfl _ _ (w.heap.size + 1) _ _ (0, 0) _ rfl (BR.out.setRow #[.slice aF files.length cF, .slice aD dir.length cD, .slice aS safe.length cS, .slice aC chs.length cC, .int .i64 cap, .int .i64 ops, .int .i64 armed, .bool false]) Tryz.underlying33 rfl DS.out) rfl ⟨⟨.slice aF files.length cF, .slice aD dir.length cD, .slice aS safe.length cS, .slice aC chs.length cC⟩, rfl, H.out.ext (X.out.setRow (by omega) _), X.out.setRow (by omega) _⟩
set_option maxRecDepth 20000 in
set_option maxHeartbeats 4000000 in
theorem rcutD_dead {w : World} {v : V4} {d : Dsk} (hK : ∀ k ∈ K, k < w.heap.size) (h : RefD K w v d) (hd : d.dead = true) (s : List UInt8) (t : Int) (hl : (d.dir.length : Int) ≤ 1000000) :
    Calls Tryz.prog 24 #[refV v d, .string (S s), .int .i64 t] w fun x w' => RRet K w d 200 x w' := by
  obtain ⟨aF, cF, aD, cD, aS, cS, aC, cC, rfl⟩ := h.open_
  have H := Lib.hid h
  have HK := Lib.hid hK
  clear hK
  have qo := fun W (x : Ext w W) => ropen_any (h.ext x) s hl
  simp only [hd, if_true] at qo
  have QO := Lib.hid qo
  clear qo
  clear h
  obtain ⟨files, dir, safe, chs, cap, ops, armed, dead⟩ := d
  dsimp only at hd
  subst hd
  dsimp only at *
  have X := Lib.hid (((Ext.refl w).alloc (.cells #[.slice aF files.length cF, .slice aD dir.length cD, .slice aS safe.length cS, .slice aC chs.length cC, .int .i64 cap, .int .i64 ops, .int .i64 armed, .bool true] 33)).alloc (.cells #[.slice none 0 0, .slice none 0 0, .slice none 0 0, .slice none 0 0, .int .i64 0, .int .i64 0, .int .i64 0, .bool false] 33))
  have BD := Lib.hid ((Blk.new w 33 #[.slice aF files.length cF, .slice aD dir.length cD, .slice aS safe.length cS, .slice aC chs.length cC, .int .i64 cap, .int .i64 ops, .int .i64 armed, .bool true]).alloc (.cells #[.slice none 0 0, .slice none 0 0, .slice none 0 0, .slice none 0 0, .int .i64 0, .int .i64 0, .int .i64 0, .bool false] 33))
  have br := Blk.new (w.alloc (.cells #[.slice aF files.length cF, .slice aD dir.length cD, .slice aS safe.length cS, .slice aC chs.length cC, .int .i64 cap, .int .i64 ops, .int .i64 armed, .bool true] 33)) 33 #[.slice none 0 0, .slice none 0 0, .slice none 0 0, .slice none 0 0, .int .i64 0, .int .i64 0, .int .i64 0, .bool false]
  simp only [World.size_alloc] at br
  have BR := Lib.hid br
  clear br
  have DS := Lib.hid (show (Tryz.prog.info? 33).map (·.size) = some (#[.slice aF files.length cF, .slice aD dir.length cD, .slice aS safe.length cS, .slice aC chs.length cC, .int .i64 cap, .int .i64 ops, .int .i64 armed, .bool true] : Array Value).size from rdisk_size)
  have DO := Lib.hid (disk_all _ _ _ _ (sl_ex aF files.length cF) (sl_ex aD dir.length cD) (sl_ex aS safe.length cS) (sl_ex aC chs.length cC) cap ops armed true)
  unfold RRet
  simp only [refV] at *
  go_enter Tryz.func24, Tryz.ntmps24
  go_wp2_with fail
  refine (QO.out _ X.out).mono ?_
  rintro _ w1 ⟨rfl, x1⟩
  replace BD := Lib.hid (BD.out.ext x1)
  replace BR := Lib.hid (BR.out.ext x1)
  replace X := Lib.hid (X.out.trans x1)
  clear x1
  go_wp2_with (refine wpList_load_blk rfl 33 (.tmp 3) rfl rfl BD.out Tryz.underlying33 rfl DS.out ?_; refine Held.go ?_)
  refine ⟨?_⟩
  go_wp2_with (refine wpList_store_blk rfl 33 (.tmp 6) (.tmp 20) rfl rfl rfl BR.out rfl DS.out DO.out ?_; refine Held.go ?_)
  refine ⟨?_⟩
  go_wp2
  exact bodyPost_ret (results_row_tmp rfl _ _ (w.heap.size + 1) _ _ (0, 0) _ rfl (BR.out.setRow #[.slice aF files.length cF, .slice aD dir.length cD, .slice aS safe.length cS, .slice aC chs.length cC, .int .i64 cap, .int .i64 ops, .int .i64 armed, .bool true]) Tryz.underlying33 rfl DS.out) rfl ⟨⟨.slice aF files.length cF, .slice aD dir.length cD, .slice aS safe.length cS, .slice aC chs.length cC⟩, rfl, H.out.ext (X.out.setRow (by omega) _), X.out.setRow (by omega) _⟩
set_option maxRecDepth 20000 in
set_option maxHeartbeats 4000000 in
theorem rcutD_none {w : World} {v : V4} {d : Dsk} (hK : ∀ k ∈ K, k < w.heap.size) (h : RefD K w v d) (hd : d.dead = false) (s : List UInt8) (t : Int) (hl : (d.dir.length : Int) ≤ 1000000) (hg : dGet s d.dir = none) :
    Calls Tryz.prog 24 #[refV v d, .string (S s), .int .i64 t] w fun x w' => RRet K w d 201 x w' := by
  obtain ⟨aF, cF, aD, cD, aS, cS, aC, cC, rfl⟩ := h.open_
  have H := Lib.hid h
  have HK := Lib.hid hK
  clear hK
  have qo := fun W (x : Ext w W) => ropen_any (h.ext x) s hl
  simp only [hd, hg, if_false, Bool.false_eq_true] at qo
  have QO := Lib.hid qo
  clear qo
  clear h
  obtain ⟨files, dir, safe, chs, cap, ops, armed, dead⟩ := d
  dsimp only at hd
  subst hd
  dsimp only at *
  have X := Lib.hid (((Ext.refl w).alloc (.cells #[.slice aF files.length cF, .slice aD dir.length cD, .slice aS safe.length cS, .slice aC chs.length cC, .int .i64 cap, .int .i64 ops, .int .i64 armed, .bool false] 33)).alloc (.cells #[.slice none 0 0, .slice none 0 0, .slice none 0 0, .slice none 0 0, .int .i64 0, .int .i64 0, .int .i64 0, .bool false] 33))
  have BD := Lib.hid ((Blk.new w 33 #[.slice aF files.length cF, .slice aD dir.length cD, .slice aS safe.length cS, .slice aC chs.length cC, .int .i64 cap, .int .i64 ops, .int .i64 armed, .bool false]).alloc (.cells #[.slice none 0 0, .slice none 0 0, .slice none 0 0, .slice none 0 0, .int .i64 0, .int .i64 0, .int .i64 0, .bool false] 33))
  have br := Blk.new (w.alloc (.cells #[.slice aF files.length cF, .slice aD dir.length cD, .slice aS safe.length cS, .slice aC chs.length cC, .int .i64 cap, .int .i64 ops, .int .i64 armed, .bool false] 33)) 33 #[.slice none 0 0, .slice none 0 0, .slice none 0 0, .slice none 0 0, .int .i64 0, .int .i64 0, .int .i64 0, .bool false]
  simp only [World.size_alloc] at br
  have BR := Lib.hid br
  clear br
  have DS := Lib.hid (show (Tryz.prog.info? 33).map (·.size) = some (#[.slice aF files.length cF, .slice aD dir.length cD, .slice aS safe.length cS, .slice aC chs.length cC, .int .i64 cap, .int .i64 ops, .int .i64 armed, .bool false] : Array Value).size from rdisk_size)
  have DO := Lib.hid (disk_all _ _ _ _ (sl_ex aF files.length cF) (sl_ex aD dir.length cD) (sl_ex aS safe.length cS) (sl_ex aC chs.length cC) cap ops armed false)
  unfold RRet
  simp only [refV] at *
  go_enter Tryz.func24, Tryz.ntmps24
  go_wp2_with fail
  refine (QO.out _ X.out).mono ?_
  rintro _ w1 ⟨rfl, x1⟩
  replace BD := Lib.hid (BD.out.ext x1)
  replace BR := Lib.hid (BR.out.ext x1)
  replace X := Lib.hid (X.out.trans x1)
  clear x1
  go_wp2_with (refine wpList_load_blk rfl 33 (.tmp 3) rfl rfl BD.out Tryz.underlying33 rfl DS.out ?_; refine Held.go ?_)
  refine ⟨?_⟩
  go_wp2_with (refine wpList_store_blk rfl 33 (.tmp 6) (.tmp 20) rfl rfl rfl BR.out rfl DS.out DO.out ?_; refine Held.go ?_)
  refine ⟨?_⟩
  go_wp2
  exact bodyPost_ret (results_row_tmp rfl _ _ (w.heap.size + 1) _ _ (0, 0) _ rfl (BR.out.setRow #[.slice aF files.length cF, .slice aD dir.length cD, .slice aS safe.length cS, .slice aC chs.length cC, .int .i64 cap, .int .i64 ops, .int .i64 armed, .bool false]) Tryz.underlying33 rfl DS.out) rfl ⟨⟨.slice aF files.length cF, .slice aD dir.length cD, .slice aS safe.length cS, .slice aC chs.length cC⟩, rfl, H.out.ext (X.out.setRow (by omega) _), X.out.setRow (by omega) _⟩
set_option maxRecDepth 20000 in
set_option maxHeartbeats 4000000 in
theorem rappendD_dead {w : World} {v : V4} {d : Dsk} (hK : ∀ k ∈ K, k < w.heap.size) (h : RefD K w v d) (hd : d.dead = true) (s : List UInt8) (t : List UInt8) (hl : (d.dir.length : Int) ≤ 1000000) :
    Calls Tryz.prog 22 #[refV v d, .string (S s), .string (S t)] w fun x w' => RRet K w d 200 x w' := by
  obtain ⟨aF, cF, aD, cD, aS, cS, aC, cC, rfl⟩ := h.open_
  have H := Lib.hid h
  have HK := Lib.hid hK
  clear hK
  have qo := fun W (x : Ext w W) => ropen_any (h.ext x) s hl
  simp only [hd, if_true] at qo
  have QO := Lib.hid qo
  clear qo
  clear h
  obtain ⟨files, dir, safe, chs, cap, ops, armed, dead⟩ := d
  dsimp only at hd
  subst hd
  dsimp only at *
  have X := Lib.hid (((Ext.refl w).alloc (.cells #[.slice aF files.length cF, .slice aD dir.length cD, .slice aS safe.length cS, .slice aC chs.length cC, .int .i64 cap, .int .i64 ops, .int .i64 armed, .bool true] 33)).alloc (.cells #[.slice none 0 0, .slice none 0 0, .slice none 0 0, .slice none 0 0, .int .i64 0, .int .i64 0, .int .i64 0, .bool false] 33))
  have BD := Lib.hid ((Blk.new w 33 #[.slice aF files.length cF, .slice aD dir.length cD, .slice aS safe.length cS, .slice aC chs.length cC, .int .i64 cap, .int .i64 ops, .int .i64 armed, .bool true]).alloc (.cells #[.slice none 0 0, .slice none 0 0, .slice none 0 0, .slice none 0 0, .int .i64 0, .int .i64 0, .int .i64 0, .bool false] 33))
  have br := Blk.new (w.alloc (.cells #[.slice aF files.length cF, .slice aD dir.length cD, .slice aS safe.length cS, .slice aC chs.length cC, .int .i64 cap, .int .i64 ops, .int .i64 armed, .bool true] 33)) 33 #[.slice none 0 0, .slice none 0 0, .slice none 0 0, .slice none 0 0, .int .i64 0, .int .i64 0, .int .i64 0, .bool false]
  simp only [World.size_alloc] at br
  have BR := Lib.hid br
  clear br
  have DS := Lib.hid (show (Tryz.prog.info? 33).map (·.size) = some (#[.slice aF files.length cF, .slice aD dir.length cD, .slice aS safe.length cS, .slice aC chs.length cC, .int .i64 cap, .int .i64 ops, .int .i64 armed, .bool true] : Array Value).size from rdisk_size)
  have DO := Lib.hid (disk_all _ _ _ _ (sl_ex aF files.length cF) (sl_ex aD dir.length cD) (sl_ex aS safe.length cS) (sl_ex aC chs.length cC) cap ops armed true)
  unfold RRet
  simp only [refV] at *
  go_enter Tryz.func22, Tryz.ntmps22
  go_wp2_with fail
  refine (QO.out _ X.out).mono ?_
  rintro _ w1 ⟨rfl, x1⟩
  replace BD := Lib.hid (BD.out.ext x1)
  replace BR := Lib.hid (BR.out.ext x1)
  replace X := Lib.hid (X.out.trans x1)
  clear x1
  go_wp2_with (refine wpList_load_blk rfl 33 (.tmp 3) rfl rfl BD.out Tryz.underlying33 rfl DS.out ?_; refine Held.go ?_)
  refine ⟨?_⟩
  go_wp2_with (refine wpList_store_blk rfl 33 (.tmp 6) (.tmp 20) rfl rfl rfl BR.out rfl DS.out DO.out ?_; refine Held.go ?_)
  refine ⟨?_⟩
  go_wp2
  exact bodyPost_ret (results_row_tmp rfl _ _ (w.heap.size + 1) _ _ (0, 0) _ rfl (BR.out.setRow #[.slice aF files.length cF, .slice aD dir.length cD, .slice aS safe.length cS, .slice aC chs.length cC, .int .i64 cap, .int .i64 ops, .int .i64 armed, .bool true]) Tryz.underlying33 rfl DS.out) rfl ⟨⟨.slice aF files.length cF, .slice aD dir.length cD, .slice aS safe.length cS, .slice aC chs.length cC⟩, rfl, H.out.ext (X.out.setRow (by omega) _), X.out.setRow (by omega) _⟩
set_option maxRecDepth 20000 in
set_option maxHeartbeats 4000000 in
theorem rappendD_none {w : World} {v : V4} {d : Dsk} (hK : ∀ k ∈ K, k < w.heap.size) (h : RefD K w v d) (hd : d.dead = false) (s : List UInt8) (t : List UInt8) (hl : (d.dir.length : Int) ≤ 1000000) (hg : dGet s d.dir = none) :
    Calls Tryz.prog 22 #[refV v d, .string (S s), .string (S t)] w fun x w' => RRet K w d 201 x w' := by
  obtain ⟨aF, cF, aD, cD, aS, cS, aC, cC, rfl⟩ := h.open_
  have H := Lib.hid h
  have HK := Lib.hid hK
  clear hK
  have qo := fun W (x : Ext w W) => ropen_any (h.ext x) s hl
  simp only [hd, hg, if_false, Bool.false_eq_true] at qo
  have QO := Lib.hid qo
  clear qo
  clear h
  obtain ⟨files, dir, safe, chs, cap, ops, armed, dead⟩ := d
  dsimp only at hd
  subst hd
  dsimp only at *
  have X := Lib.hid (((Ext.refl w).alloc (.cells #[.slice aF files.length cF, .slice aD dir.length cD, .slice aS safe.length cS, .slice aC chs.length cC, .int .i64 cap, .int .i64 ops, .int .i64 armed, .bool false] 33)).alloc (.cells #[.slice none 0 0, .slice none 0 0, .slice none 0 0, .slice none 0 0, .int .i64 0, .int .i64 0, .int .i64 0, .bool false] 33))
  have BD := Lib.hid ((Blk.new w 33 #[.slice aF files.length cF, .slice aD dir.length cD, .slice aS safe.length cS, .slice aC chs.length cC, .int .i64 cap, .int .i64 ops, .int .i64 armed, .bool false]).alloc (.cells #[.slice none 0 0, .slice none 0 0, .slice none 0 0, .slice none 0 0, .int .i64 0, .int .i64 0, .int .i64 0, .bool false] 33))
  have br := Blk.new (w.alloc (.cells #[.slice aF files.length cF, .slice aD dir.length cD, .slice aS safe.length cS, .slice aC chs.length cC, .int .i64 cap, .int .i64 ops, .int .i64 armed, .bool false] 33)) 33 #[.slice none 0 0, .slice none 0 0, .slice none 0 0, .slice none 0 0, .int .i64 0, .int .i64 0, .int .i64 0, .bool false]
  simp only [World.size_alloc] at br
  have BR := Lib.hid br
  clear br
  have DS := Lib.hid (show (Tryz.prog.info? 33).map (·.size) = some (#[.slice aF files.length cF, .slice aD dir.length cD, .slice aS safe.length cS, .slice aC chs.length cC, .int .i64 cap, .int .i64 ops, .int .i64 armed, .bool false] : Array Value).size from rdisk_size)
  have DO := Lib.hid (disk_all _ _ _ _ (sl_ex aF files.length cF) (sl_ex aD dir.length cD) (sl_ex aS safe.length cS) (sl_ex aC chs.length cC) cap ops armed false)
  unfold RRet
  simp only [refV] at *
  go_enter Tryz.func22, Tryz.ntmps22
  go_wp2_with fail
  refine (QO.out _ X.out).mono ?_
  rintro _ w1 ⟨rfl, x1⟩
  replace BD := Lib.hid (BD.out.ext x1)
  replace BR := Lib.hid (BR.out.ext x1)
  replace X := Lib.hid (X.out.trans x1)
  clear x1
  go_wp2_with (refine wpList_load_blk rfl 33 (.tmp 3) rfl rfl BD.out Tryz.underlying33 rfl DS.out ?_; refine Held.go ?_)
  refine ⟨?_⟩
  go_wp2_with (refine wpList_store_blk rfl 33 (.tmp 6) (.tmp 20) rfl rfl rfl BR.out rfl DS.out DO.out ?_; refine Held.go ?_)
  refine ⟨?_⟩
  go_wp2
  exact bodyPost_ret (results_row_tmp rfl _ _ (w.heap.size + 1) _ _ (0, 0) _ rfl (BR.out.setRow #[.slice aF files.length cF, .slice aD dir.length cD, .slice aS safe.length cS, .slice aC chs.length cC, .int .i64 cap, .int .i64 ops, .int .i64 armed, .bool false]) Tryz.underlying33 rfl DS.out) rfl ⟨⟨.slice aF files.length cF, .slice aD dir.length cD, .slice aS safe.length cS, .slice aC chs.length cC⟩, rfl, H.out.ext (X.out.setRow (by omega) _), X.out.setRow (by omega) _⟩
set_option maxRecDepth 20000 in
set_option maxHeartbeats 4000000 in
theorem rrename_name {w : World} {v : V4} {d : Dsk} (hK : ∀ k ∈ K, k < w.heap.size) (h : RefD K w v d) (hd : d.dead = false) (s t : List UInt8) (ht : (t.length : Int) ≤ 9223372036854775807) (hl : (d.dir.length : Int) ≤ 1000000) {n : Nat} (hg : dGet s d.dir = some n) (hc : chk t = 180) :
    Calls Tryz.prog 25 #[refV v d, .string (S s), .string (S t)] w fun x w' => RRet K w d 180 x w' := by
  obtain ⟨aF, cF, aD, cD, aS, cS, aC, cC, rfl⟩ := h.open_
  have H := Lib.hid h
  have HK := Lib.hid hK
  clear hK
  have qo := fun W (x : Ext w W) => ropen_any (h.ext x) s hl
  simp only [hd, hg, if_false, Bool.false_eq_true] at qo
  have QO := Lib.hid qo
  clear qo
  have QC := Lib.hid (fun W => rcheck_any t W ht)
  rw [hc] at QC
  clear h
  obtain ⟨files, dir, safe, chs, cap, ops, armed, dead⟩ := d
  dsimp only at hd
  subst hd
  dsimp only at *
  have X := Lib.hid (((Ext.refl w).alloc (.cells #[.slice aF files.length cF, .slice aD dir.length cD, .slice aS safe.length cS, .slice aC chs.length cC, .int .i64 cap, .int .i64 ops, .int .i64 armed, .bool false] 33)).alloc (.cells #[.slice none 0 0, .slice none 0 0, .slice none 0 0, .slice none 0 0, .int .i64 0, .int .i64 0, .int .i64 0, .bool false] 33))
  have BD := Lib.hid ((Blk.new w 33 #[.slice aF files.length cF, .slice aD dir.length cD, .slice aS safe.length cS, .slice aC chs.length cC, .int .i64 cap, .int .i64 ops, .int .i64 armed, .bool false]).alloc (.cells #[.slice none 0 0, .slice none 0 0, .slice none 0 0, .slice none 0 0, .int .i64 0, .int .i64 0, .int .i64 0, .bool false] 33))
  have br := Blk.new (w.alloc (.cells #[.slice aF files.length cF, .slice aD dir.length cD, .slice aS safe.length cS, .slice aC chs.length cC, .int .i64 cap, .int .i64 ops, .int .i64 armed, .bool false] 33)) 33 #[.slice none 0 0, .slice none 0 0, .slice none 0 0, .slice none 0 0, .int .i64 0, .int .i64 0, .int .i64 0, .bool false]
  simp only [World.size_alloc] at br
  have BR := Lib.hid br
  clear br
  have DS := Lib.hid (show (Tryz.prog.info? 33).map (·.size) = some (#[.slice aF files.length cF, .slice aD dir.length cD, .slice aS safe.length cS, .slice aC chs.length cC, .int .i64 cap, .int .i64 ops, .int .i64 armed, .bool false] : Array Value).size from rdisk_size)
  have DO := Lib.hid (disk_all _ _ _ _ (sl_ex aF files.length cF) (sl_ex aD dir.length cD) (sl_ex aS safe.length cS) (sl_ex aC chs.length cC) cap ops armed false)
  unfold RRet
  simp only [refV] at *
  go_enter Tryz.func25, Tryz.ntmps25
  go_wp2_with fail
  refine (QO.out _ X.out).mono ?_
  rintro _ w1 ⟨rfl, x1⟩
  replace BD := Lib.hid (BD.out.ext x1)
  replace BR := Lib.hid (BR.out.ext x1)
  replace X := Lib.hid (X.out.trans x1)
  clear x1
  go_wp2_with fail
  refine (QC.out _).mono ?_
  rintro _ w2 ⟨rfl, x2⟩
  replace BD := Lib.hid (BD.out.ext x2)
  replace BR := Lib.hid (BR.out.ext x2)
  replace X := Lib.hid (X.out.trans x2)
  clear x2
  go_wp2_with (refine wpList_load_blk rfl 33 (.tmp 3) rfl rfl BD.out Tryz.underlying33 rfl DS.out ?_; refine Held.go ?_)
  refine ⟨?_⟩
  go_wp2_with (refine wpList_store_blk rfl 33 (.tmp 6) (.tmp 24) rfl rfl rfl BR.out rfl DS.out DO.out ?_; refine Held.go ?_)
  refine ⟨?_⟩
  go_wp2
  exact bodyPost_ret (results_row_tmp rfl _ _ (w.heap.size + 1) _ _ (0, 0) _ rfl (BR.out.setRow #[.slice aF files.length cF, .slice aD dir.length cD, .slice aS safe.length cS, .slice aC chs.length cC, .int .i64 cap, .int .i64 ops, .int .i64 armed, .bool false]) Tryz.underlying33 rfl DS.out) rfl ⟨⟨.slice aF files.length cF, .slice aD dir.length cD, .slice aS safe.length cS, .slice aC chs.length cC⟩, rfl, H.out.ext (X.out.setRow (by omega) _), X.out.setRow (by omega) _⟩
set_option maxRecDepth 20000 in
set_option maxHeartbeats 4000000 in
theorem rrename_self {w : World} {v : V4} {d : Dsk} (hK : ∀ k ∈ K, k < w.heap.size) (h : RefD K w v d) (hd : d.dead = false) (s : List UInt8) (ht : (s.length : Int) ≤ 9223372036854775807) (hl : (d.dir.length : Int) ≤ 1000000) {n : Nat} (hg : dGet s d.dir = some n) (hc : chk s = 0) :
    Calls Tryz.prog 25 #[refV v d, .string (S s), .string (S s)] w fun x w' => RRet K w d 2 x w' := by
  obtain ⟨aF, cF, aD, cD, aS, cS, aC, cC, rfl⟩ := h.open_
  have H := Lib.hid h
  have HK := Lib.hid hK
  clear hK
  have qo := fun W (x : Ext w W) => ropen_any (h.ext x) s hl
  simp only [hd, hg, if_false, Bool.false_eq_true] at qo
  have QO := Lib.hid qo
  clear qo
  have QC := Lib.hid (fun W => rcheck_any s W ht)
  rw [hc] at QC
  clear h
  obtain ⟨files, dir, safe, chs, cap, ops, armed, dead⟩ := d
  dsimp only at hd
  subst hd
  dsimp only at *
  have X := Lib.hid (((Ext.refl w).alloc (.cells #[.slice aF files.length cF, .slice aD dir.length cD, .slice aS safe.length cS, .slice aC chs.length cC, .int .i64 cap, .int .i64 ops, .int .i64 armed, .bool false] 33)).alloc (.cells #[.slice none 0 0, .slice none 0 0, .slice none 0 0, .slice none 0 0, .int .i64 0, .int .i64 0, .int .i64 0, .bool false] 33))
  have BD := Lib.hid ((Blk.new w 33 #[.slice aF files.length cF, .slice aD dir.length cD, .slice aS safe.length cS, .slice aC chs.length cC, .int .i64 cap, .int .i64 ops, .int .i64 armed, .bool false]).alloc (.cells #[.slice none 0 0, .slice none 0 0, .slice none 0 0, .slice none 0 0, .int .i64 0, .int .i64 0, .int .i64 0, .bool false] 33))
  have br := Blk.new (w.alloc (.cells #[.slice aF files.length cF, .slice aD dir.length cD, .slice aS safe.length cS, .slice aC chs.length cC, .int .i64 cap, .int .i64 ops, .int .i64 armed, .bool false] 33)) 33 #[.slice none 0 0, .slice none 0 0, .slice none 0 0, .slice none 0 0, .int .i64 0, .int .i64 0, .int .i64 0, .bool false]
  simp only [World.size_alloc] at br
  have BR := Lib.hid br
  clear br
  have DS := Lib.hid (show (Tryz.prog.info? 33).map (·.size) = some (#[.slice aF files.length cF, .slice aD dir.length cD, .slice aS safe.length cS, .slice aC chs.length cC, .int .i64 cap, .int .i64 ops, .int .i64 armed, .bool false] : Array Value).size from rdisk_size)
  have DO := Lib.hid (disk_all _ _ _ _ (sl_ex aF files.length cF) (sl_ex aD dir.length cD) (sl_ex aS safe.length cS) (sl_ex aC chs.length cC) cap ops armed false)
  unfold RRet
  simp only [refV] at *
  go_enter Tryz.func25, Tryz.ntmps25
  go_wp2_with fail
  refine (QO.out _ X.out).mono ?_
  rintro _ w1 ⟨rfl, x1⟩
  replace BD := Lib.hid (BD.out.ext x1)
  replace BR := Lib.hid (BR.out.ext x1)
  replace X := Lib.hid (X.out.trans x1)
  clear x1
  go_wp2_with fail
  refine (QC.out _).mono ?_
  rintro _ w2 ⟨rfl, x2⟩
  replace BD := Lib.hid (BD.out.ext x2)
  replace BR := Lib.hid (BR.out.ext x2)
  replace X := Lib.hid (X.out.trans x2)
  clear x2
  go_wp2_with (refine wpList_load_blk rfl 33 (.tmp 3) rfl rfl BD.out Tryz.underlying33 rfl DS.out ?_; refine Held.go ?_)
  refine ⟨?_⟩
  go_wp2_with (refine wpList_store_blk rfl 33 (.tmp 6) (.tmp 29) rfl rfl rfl BR.out rfl DS.out DO.out ?_; refine Held.go ?_)
  refine ⟨?_⟩
  go_wp2
  exact bodyPost_ret (results_row_tmp rfl _ _ (w.heap.size + 1) _ _ (0, 0) _ rfl (BR.out.setRow #[.slice aF files.length cF, .slice aD dir.length cD, .slice aS safe.length cS, .slice aC chs.length cC, .int .i64 cap, .int .i64 ops, .int .i64 armed, .bool false]) Tryz.underlying33 rfl DS.out) rfl ⟨⟨.slice aF files.length cF, .slice aD dir.length cD, .slice aS safe.length cS, .slice aC chs.length cC⟩, rfl, H.out.ext (X.out.setRow (by omega) _), X.out.setRow (by omega) _⟩
set_option maxRecDepth 20000 in
set_option maxHeartbeats 4000000 in
theorem rrename_new {w : World} {v : V4} {d : Dsk} (hK : ∀ k ∈ K, k < w.heap.size) (h : RefD K w v d) (hd : d.dead = false) (s t : List UInt8) (ht : (t.length : Int) ≤ 9223372036854775807) (hl : (d.dir.length : Int) ≤ 1000000) {n : Nat} (hg : dGet s d.dir = some n) (hc : chk t = 0) (hne : s ≠ t) (ho : 0 ≤ d.ops ∧ d.ops ≤ 100000000) (ha : 0 ≤ d.armed ∧ d.armed ≤ 9223372036854775807) (hcl : d.chs.length ≤ 1000000) :
    Calls Tryz.prog 25 #[refV v d, .string (S s), .string (S t)] w fun x w' => RRet K w (d.chg (t, s, some n)) d.tld x w' := by
  obtain ⟨aF, cF, aD, cD, aS, cS, aC, cC, rfl⟩ := h.open_
  have H := Lib.hid h
  have HK := Lib.hid hK
  clear hK
  obtain ⟨d6, hd6⟩ : ∃ d6, d6 = d.chg (t, s, some n) := ⟨_, rfl⟩
  rw [← hd6]
  have qo := fun W (x : Ext w W) => ropen_any (h.ext x) s hl
  simp only [hd, hg, if_false, Bool.false_eq_true] at qo
  have QO := Lib.hid qo
  clear qo
  have QC := Lib.hid (fun W => rcheck_any t W ht)
  rw [hc] at QC
  have hst : (s == t) = false := by simpa using hne
  have QG := Lib.hid (fun W (x : Ext w W) => rchange_any (fun k hk => Nat.lt_of_lt_of_le (HK.out k hk) x.size) (H.out.ext x) hd ho ha (t, s, some n) (fun e => by cases e) (fun m e => by have := (chk_len hc).1; rintro rfl; simp at this) hl hcl)
  rw [← hd6] at QG
  clear hd6
  generalize d.tld = tl at *
  clear ho ha hcl hl
  clear h
  obtain ⟨files, dir, safe, chs, cap, ops, armed, dead⟩ := d
  dsimp only at hd
  subst hd
  dsimp only at *
  have X := Lib.hid (((Ext.refl w).alloc (.cells #[.slice aF files.length cF, .slice aD dir.length cD, .slice aS safe.length cS, .slice aC chs.length cC, .int .i64 cap, .int .i64 ops, .int .i64 armed, .bool false] 33)).alloc (.cells #[.slice none 0 0, .slice none 0 0, .slice none 0 0, .slice none 0 0, .int .i64 0, .int .i64 0, .int .i64 0, .bool false] 33))
  have BD := Lib.hid ((Blk.new w 33 #[.slice aF files.length cF, .slice aD dir.length cD, .slice aS safe.length cS, .slice aC chs.length cC, .int .i64 cap, .int .i64 ops, .int .i64 armed, .bool false]).alloc (.cells #[.slice none 0 0, .slice none 0 0, .slice none 0 0, .slice none 0 0, .int .i64 0, .int .i64 0, .int .i64 0, .bool false] 33))
  have br := Blk.new (w.alloc (.cells #[.slice aF files.length cF, .slice aD dir.length cD, .slice aS safe.length cS, .slice aC chs.length cC, .int .i64 cap, .int .i64 ops, .int .i64 armed, .bool false] 33)) 33 #[.slice none 0 0, .slice none 0 0, .slice none 0 0, .slice none 0 0, .int .i64 0, .int .i64 0, .int .i64 0, .bool false]
  simp only [World.size_alloc] at br
  have BR := Lib.hid br
  clear br
  have DS := Lib.hid (show (Tryz.prog.info? 33).map (·.size) = some (#[.slice aF files.length cF, .slice aD dir.length cD, .slice aS safe.length cS, .slice aC chs.length cC, .int .i64 cap, .int .i64 ops, .int .i64 armed, .bool false] : Array Value).size from rdisk_size)
  have DO := Lib.hid (disk_all _ _ _ _ (sl_ex aF files.length cF) (sl_ex aD dir.length cD) (sl_ex aS safe.length cS) (sl_ex aC chs.length cC) cap ops armed false)
  unfold RRet
  simp only [refV] at *
  go_enter Tryz.func25, Tryz.ntmps25
  go_wp2_with fail
  refine (QO.out _ X.out).mono ?_
  rintro _ w1 ⟨rfl, x1⟩
  replace BD := Lib.hid (BD.out.ext x1)
  replace BR := Lib.hid (BR.out.ext x1)
  replace X := Lib.hid (X.out.trans x1)
  clear x1
  go_wp2_with fail
  refine (QC.out _).mono ?_
  rintro _ w2 ⟨rfl, x2⟩
  replace BD := Lib.hid (BD.out.ext x2)
  replace BR := Lib.hid (BR.out.ext x2)
  replace X := Lib.hid (X.out.trans x2)
  clear x2
  go_wp2_with (refine wpList_load_blk rfl 33 (.tmp 3) rfl rfl BD.out Tryz.underlying33 rfl DS.out ?_; refine Held.go ?_)
  refine ⟨?_⟩
  go_wp2_with fail
  refine (QG.out _ X.out).mono ?_
  rintro _ w6 ⟨v6, rfl, r6, x6⟩
  obtain ⟨a1, c1, a2, c2, a3, c3, a4, c4, rfl⟩ := r6.open_
  have R6 := Lib.hid r6
  replace BD := Lib.hid (BD.out.ext x6)
  replace BR := Lib.hid (BR.out.ext x6)
  replace X := Lib.hid (X.out.trans x6)
  clear x6
  clear r6
  dsimp only
  have DS6 := Lib.hid (show (Tryz.prog.info? 33).map (·.size) = some (#[.slice a1 d6.files.length c1, .slice a2 d6.dir.length c2, .slice a3 d6.safe.length c3, .slice a4 d6.chs.length c4, .int .i64 d6.cap, .int .i64 d6.ops, .int .i64 d6.armed, .bool d6.dead] : Array Value).size from rdisk_size)
  have DO6 := Lib.hid (disk_all _ _ _ _ (sl_ex a1 d6.files.length c1) (sl_ex a2 d6.dir.length c2) (sl_ex a3 d6.safe.length c3) (sl_ex a4 d6.chs.length c4) d6.cap d6.ops d6.armed d6.dead)
  go_wp2_with (refine wpList_store_blk rfl 33 (.tmp 6) (.tmp 37) rfl rfl rfl BR.out rfl DS6.out DO6.out ?_; refine Held.go ?_)
  refine ⟨?_⟩
  go_wp2
  exact bodyPost_ret (results_row_tmp rfl _ _ (w.heap.size + 1) _ _ (0, 0) _ rfl (BR.out.setRow #[.slice a1 d6.files.length c1, .slice a2 d6.dir.length c2, .slice a3 d6.safe.length c3, .slice a4 d6.chs.length c4, .int .i64 d6.cap, .int .i64 d6.ops, .int .i64 d6.armed, .bool d6.dead]) Tryz.underlying33 rfl DS6.out) rfl ⟨⟨.slice a1 d6.files.length c1, .slice a2 d6.dir.length c2, .slice a3 d6.safe.length c3, .slice a4 d6.chs.length c4⟩, rfl, R6.out.butG BR.out zero_nostr (But.row1 _ _ _), X.out.setRow (by omega) _⟩
set_option maxRecDepth 20000 in
set_option maxHeartbeats 4000000 in
theorem rremove_new {w : World} {v : V4} {d : Dsk} (hK : ∀ k ∈ K, k < w.heap.size) (h : RefD K w v d) (hd : d.dead = false) (s : List UInt8) (hl : (d.dir.length : Int) ≤ 1000000) {n : Nat} (hg : dGet s d.dir = some n) (ho : 0 ≤ d.ops ∧ d.ops ≤ 100000000) (ha : 0 ≤ d.armed ∧ d.armed ≤ 9223372036854775807) (hcl : d.chs.length ≤ 1000000) :
    Calls Tryz.prog 26 #[refV v d, .string (S s)] w fun x w' => RRet K w (d.chg ([], s, none)) d.tld x w' := by
  obtain ⟨aF, cF, aD, cD, aS, cS, aC, cC, rfl⟩ := h.open_
  have H := Lib.hid h
  have HK := Lib.hid hK
  clear hK
  obtain ⟨d6, hd6⟩ : ∃ d6, d6 = d.chg ([], s, none) := ⟨_, rfl⟩
  rw [← hd6]
  have qo := fun W (x : Ext w W) => ropen_any (h.ext x) s hl
  simp only [hd, hg, if_false, Bool.false_eq_true] at qo
  have QO := Lib.hid qo
  clear qo
  have QG := Lib.hid (fun W (x : Ext w W) => rchange_any (fun k hk => Nat.lt_of_lt_of_le (HK.out k hk) x.size) (H.out.ext x) hd ho ha ([], s, none) (fun _ => rfl) (fun m e => by cases e) hl hcl)
  rw [← hd6] at QG
  clear hd6
  generalize d.tld = tl at *
  clear ho ha hcl hl
  clear h
  obtain ⟨files, dir, safe, chs, cap, ops, armed, dead⟩ := d
  dsimp only at hd
  subst hd
  dsimp only at *
  have X := Lib.hid (((Ext.refl w).alloc (.cells #[.slice aF files.length cF, .slice aD dir.length cD, .slice aS safe.length cS, .slice aC chs.length cC, .int .i64 cap, .int .i64 ops, .int .i64 armed, .bool false] 33)).alloc (.cells #[.slice none 0 0, .slice none 0 0, .slice none 0 0, .slice none 0 0, .int .i64 0, .int .i64 0, .int .i64 0, .bool false] 33))
  have BD := Lib.hid ((Blk.new w 33 #[.slice aF files.length cF, .slice aD dir.length cD, .slice aS safe.length cS, .slice aC chs.length cC, .int .i64 cap, .int .i64 ops, .int .i64 armed, .bool false]).alloc (.cells #[.slice none 0 0, .slice none 0 0, .slice none 0 0, .slice none 0 0, .int .i64 0, .int .i64 0, .int .i64 0, .bool false] 33))
  have br := Blk.new (w.alloc (.cells #[.slice aF files.length cF, .slice aD dir.length cD, .slice aS safe.length cS, .slice aC chs.length cC, .int .i64 cap, .int .i64 ops, .int .i64 armed, .bool false] 33)) 33 #[.slice none 0 0, .slice none 0 0, .slice none 0 0, .slice none 0 0, .int .i64 0, .int .i64 0, .int .i64 0, .bool false]
  simp only [World.size_alloc] at br
  have BR := Lib.hid br
  clear br
  have DS := Lib.hid (show (Tryz.prog.info? 33).map (·.size) = some (#[.slice aF files.length cF, .slice aD dir.length cD, .slice aS safe.length cS, .slice aC chs.length cC, .int .i64 cap, .int .i64 ops, .int .i64 armed, .bool false] : Array Value).size from rdisk_size)
  have DO := Lib.hid (disk_all _ _ _ _ (sl_ex aF files.length cF) (sl_ex aD dir.length cD) (sl_ex aS safe.length cS) (sl_ex aC chs.length cC) cap ops armed false)
  unfold RRet
  simp only [refV] at *
  go_enter Tryz.func26, Tryz.ntmps26
  go_wp2_with fail
  refine (QO.out _ X.out).mono ?_
  rintro _ w1 ⟨rfl, x1⟩
  replace BD := Lib.hid (BD.out.ext x1)
  replace BR := Lib.hid (BR.out.ext x1)
  replace X := Lib.hid (X.out.trans x1)
  clear x1
  go_wp2_with (refine wpList_load_blk rfl 33 (.tmp 2) rfl rfl BD.out Tryz.underlying33 rfl DS.out ?_; refine Held.go ?_)
  refine ⟨?_⟩
  go_wp2_with fail
  refine (QG.out _ X.out).mono ?_
  rintro _ w6 ⟨v6, rfl, r6, x6⟩
  obtain ⟨a1, c1, a2, c2, a3, c3, a4, c4, rfl⟩ := r6.open_
  have R6 := Lib.hid r6
  replace BD := Lib.hid (BD.out.ext x6)
  replace BR := Lib.hid (BR.out.ext x6)
  replace X := Lib.hid (X.out.trans x6)
  clear x6
  clear r6
  dsimp only
  have DS6 := Lib.hid (show (Tryz.prog.info? 33).map (·.size) = some (#[.slice a1 d6.files.length c1, .slice a2 d6.dir.length c2, .slice a3 d6.safe.length c3, .slice a4 d6.chs.length c4, .int .i64 d6.cap, .int .i64 d6.ops, .int .i64 d6.armed, .bool d6.dead] : Array Value).size from rdisk_size)
  have DO6 := Lib.hid (disk_all _ _ _ _ (sl_ex a1 d6.files.length c1) (sl_ex a2 d6.dir.length c2) (sl_ex a3 d6.safe.length c3) (sl_ex a4 d6.chs.length c4) d6.cap d6.ops d6.armed d6.dead)
  go_wp2_with (refine wpList_store_blk rfl 33 (.tmp 4) (.tmp 22) rfl rfl rfl BR.out rfl DS6.out DO6.out ?_; refine Held.go ?_)
  refine ⟨?_⟩
  go_wp2
  exact bodyPost_ret (results_row_tmp rfl _ _ (w.heap.size + 1) _ _ (0, 0) _ rfl (BR.out.setRow #[.slice a1 d6.files.length c1, .slice a2 d6.dir.length c2, .slice a3 d6.safe.length c3, .slice a4 d6.chs.length c4, .int .i64 d6.cap, .int .i64 d6.ops, .int .i64 d6.armed, .bool d6.dead]) Tryz.underlying33 rfl DS6.out) rfl ⟨⟨.slice a1 d6.files.length c1, .slice a2 d6.dir.length c2, .slice a3 d6.safe.length c3, .slice a4 d6.chs.length c4⟩, rfl, R6.out.butG BR.out zero_nostr (But.row1 _ _ _), X.out.setRow (by omega) _⟩
set_option maxRecDepth 20000 in
set_option maxHeartbeats 4000000 in
theorem rdirSync_dead {w : World} {v : V4} {d : Dsk} (hK : ∀ k ∈ K, k < w.heap.size) (h : RefD K w v d) (hd : d.dead = true)  :
    Calls Tryz.prog 27 #[refV v d] w fun x w' => RRet K w d 200 x w' := by
  obtain ⟨aF, cF, aD, cD, aS, cS, aC, cC, rfl⟩ := h.open_
  have H := Lib.hid h
  have HK := Lib.hid hK
  clear hK

  clear h
  obtain ⟨files, dir, safe, chs, cap, ops, armed, dead⟩ := d
  dsimp only at hd
  subst hd
  dsimp only at *
  have X := Lib.hid (((Ext.refl w).alloc (.cells #[.slice aF files.length cF, .slice aD dir.length cD, .slice aS safe.length cS, .slice aC chs.length cC, .int .i64 cap, .int .i64 ops, .int .i64 armed, .bool true] 33)).alloc (.cells #[.slice none 0 0, .slice none 0 0, .slice none 0 0, .slice none 0 0, .int .i64 0, .int .i64 0, .int .i64 0, .bool false] 33))
  have BD := Lib.hid ((Blk.new w 33 #[.slice aF files.length cF, .slice aD dir.length cD, .slice aS safe.length cS, .slice aC chs.length cC, .int .i64 cap, .int .i64 ops, .int .i64 armed, .bool true]).alloc (.cells #[.slice none 0 0, .slice none 0 0, .slice none 0 0, .slice none 0 0, .int .i64 0, .int .i64 0, .int .i64 0, .bool false] 33))
  have br := Blk.new (w.alloc (.cells #[.slice aF files.length cF, .slice aD dir.length cD, .slice aS safe.length cS, .slice aC chs.length cC, .int .i64 cap, .int .i64 ops, .int .i64 armed, .bool true] 33)) 33 #[.slice none 0 0, .slice none 0 0, .slice none 0 0, .slice none 0 0, .int .i64 0, .int .i64 0, .int .i64 0, .bool false]
  simp only [World.size_alloc] at br
  have BR := Lib.hid br
  clear br
  have DS := Lib.hid (show (Tryz.prog.info? 33).map (·.size) = some (#[.slice aF files.length cF, .slice aD dir.length cD, .slice aS safe.length cS, .slice aC chs.length cC, .int .i64 cap, .int .i64 ops, .int .i64 armed, .bool true] : Array Value).size from rdisk_size)
  have DO := Lib.hid (disk_all _ _ _ _ (sl_ex aF files.length cF) (sl_ex aD dir.length cD) (sl_ex aS safe.length cS) (sl_ex aC chs.length cC) cap ops armed true)
  unfold RRet
  simp only [refV] at *
  go_enter Tryz.func27, Tryz.ntmps27
  go_wp2
  exact bodyPost_ret (v := .tuple #[.agg #[.slice aF files.length cF, .slice aD dir.length cD, .slice aS safe.length cS, .slice aC chs.length cC, .int .i64 cap, .int .i64 ops, .int .i64 armed, .bool true], .int .i64 200]) (by simp [results, Tryz.results27, go_sem]) rfl ⟨⟨.slice aF files.length cF, .slice aD dir.length cD, .slice aS safe.length cS, .slice aC chs.length cC⟩, rfl, H.out.ext (((Ext.refl w).alloc _).alloc _), ((Ext.refl w).alloc _).alloc _⟩
set_option maxRecDepth 20000 in
set_option maxHeartbeats 4000000 in
theorem rdirSync_last {w : World} {v : V4} {d : Dsk} (hK : ∀ k ∈ K, k < w.heap.size) (h : RefD K w v d) (hd : d.dead = false) (h1 : (d.armed == 1) = true) (ho : 0 ≤ d.ops ∧ d.ops ≤ 100000000) (ha : 0 ≤ d.armed ∧ d.armed ≤ 9223372036854775807) :
    Calls Tryz.prog 27 #[refV v d] w fun x w' => RRet K w d.cnt 200 x w' := by
  obtain ⟨aF, cF, aD, cD, aS, cS, aC, cC, rfl⟩ := h.open_
  have H := Lib.hid h
  have HK := Lib.hid hK
  clear hK
  have Q1 := Lib.hid (fun W (x : Ext w W) => counted_any (h.ext x) hd ho ha)
  have HN := Lib.hid (show ∀ W, Ext w W → RefD K W ⟨.slice aF d.files.length cF, .slice aD d.dir.length cD, .slice aS d.safe.length cS, .slice aC d.chs.length cC⟩ d.cnt from fun W x => ⟨(h.ext x).fs, (h.ext x).dir, (h.ext x).safe, (h.ext x).chs⟩)
  have CH := Lib.hid (show refV ⟨.slice aF d.files.length cF, .slice aD d.dir.length cD, .slice aS d.safe.length cS, .slice aC d.chs.length cC⟩ d.cnt = .agg #[.slice aF d.files.length cF, .slice aD d.dir.length cD, .slice aS d.safe.length cS, .slice aC d.chs.length cC, .int .i64 d.cap, .int .i64 d.cnt.ops, .int .i64 d.cnt.armed, .bool true] from by rw [← h1]; rfl)
  rw [CH.out, h1] at Q1
  have EO := Lib.hid (show ∃ o1 a1, o1 = d.cnt.ops ∧ a1 = d.cnt.armed from ⟨_, _, rfl, rfl⟩)
  obtain ⟨o1, a1, ho1, ha1⟩ := EO.out
  rw [← ho1, ← ha1] at Q1 CH
  clear ho ha h1 EO ho1 ha1
  clear h
  obtain ⟨files, dir, safe, chs, cap, ops, armed, dead⟩ := d
  dsimp only at hd
  subst hd
  dsimp only at *
  have X := Lib.hid (((Ext.refl w).alloc (.cells #[.slice aF files.length cF, .slice aD dir.length cD, .slice aS safe.length cS, .slice aC chs.length cC, .int .i64 cap, .int .i64 ops, .int .i64 armed, .bool false] 33)).alloc (.cells #[.slice none 0 0, .slice none 0 0, .slice none 0 0, .slice none 0 0, .int .i64 0, .int .i64 0, .int .i64 0, .bool false] 33))
  have BD := Lib.hid ((Blk.new w 33 #[.slice aF files.length cF, .slice aD dir.length cD, .slice aS safe.length cS, .slice aC chs.length cC, .int .i64 cap, .int .i64 ops, .int .i64 armed, .bool false]).alloc (.cells #[.slice none 0 0, .slice none 0 0, .slice none 0 0, .slice none 0 0, .int .i64 0, .int .i64 0, .int .i64 0, .bool false] 33))
  have br := Blk.new (w.alloc (.cells #[.slice aF files.length cF, .slice aD dir.length cD, .slice aS safe.length cS, .slice aC chs.length cC, .int .i64 cap, .int .i64 ops, .int .i64 armed, .bool false] 33)) 33 #[.slice none 0 0, .slice none 0 0, .slice none 0 0, .slice none 0 0, .int .i64 0, .int .i64 0, .int .i64 0, .bool false]
  simp only [World.size_alloc] at br
  have BR := Lib.hid br
  clear br
  have DS := Lib.hid (show (Tryz.prog.info? 33).map (·.size) = some (#[.slice aF files.length cF, .slice aD dir.length cD, .slice aS safe.length cS, .slice aC chs.length cC, .int .i64 cap, .int .i64 ops, .int .i64 armed, .bool false] : Array Value).size from rdisk_size)
  have DO := Lib.hid (disk_all _ _ _ _ (sl_ex aF files.length cF) (sl_ex aD dir.length cD) (sl_ex aS safe.length cS) (sl_ex aC chs.length cC) cap ops armed false)
  unfold RRet
  simp only [refV] at *
  go_enter Tryz.func27, Tryz.ntmps27
  go_wp2_with fail
  refine (Q1.out _ X.out).mono ?_
  rintro _ w1 ⟨rfl, x1⟩
  replace BD := Lib.hid (BD.out.ext x1)
  replace BR := Lib.hid (BR.out.ext x1)
  replace X := Lib.hid (X.out.trans x1)
  clear x1
  have DSc := Lib.hid (show (Tryz.prog.info? 33).map (·.size) = some (#[.slice aF files.length cF, .slice aD dir.length cD, .slice aS safe.length cS, .slice aC chs.length cC, .int .i64 cap, .int .i64 o1, .int .i64 a1, .bool true] : Array Value).size from rdisk_size)
  have DOc := Lib.hid (disk_all _ _ _ _ (sl_ex aF files.length cF) (sl_ex aD dir.length cD) (sl_ex aS safe.length cS) (sl_ex aC chs.length cC) cap o1 a1 true)
  go_wp2_with (refine wpList_store_blk rfl 33 (.tmp 1) (.tmp 11) rfl rfl rfl BD.out rfl DSc.out DOc.out ?_; refine Held.go ?_)
  refine ⟨?_⟩
  have BD := Lib.hid (BD.out.setRow #[.slice aF files.length cF, .slice aD dir.length cD, .slice aS safe.length cS, .slice aC chs.length cC, .int .i64 cap, .int .i64 o1, .int .i64 a1, .bool true])
  have BR := Lib.hid (BR.out.setRow_far (k := w.heap.size) (by omega) #[.slice aF files.length cF, .slice aD dir.length cD, .slice aS safe.length cS, .slice aC chs.length cC, .int .i64 cap, .int .i64 o1, .int .i64 a1, .bool true])
  have X := Lib.hid (X.out.setRow (Nat.le_refl _) #[.slice aF files.length cF, .slice aD dir.length cD, .slice aS safe.length cS, .slice aC chs.length cC, .int .i64 cap, .int .i64 o1, .int .i64 a1, .bool true])
  generalize w1.setRow w.heap.size #[.slice aF files.length cF, .slice aD dir.length cD, .slice aS safe.length cS, .slice aC chs.length cC, .int .i64 cap, .int .i64 o1, .int .i64 a1, .bool true] = w2 at *
  go_wp2_with (refine wpList_load_blk rfl 33 (.tmp 1) rfl rfl BD.out Tryz.underlying33 rfl DSc.out ?_; refine Held.go ?_)
  refine ⟨?_⟩
  go_wp2_with (refine wpList_store_blk rfl 33 (.tmp 2) (.tmp 14) rfl rfl rfl BR.out rfl DSc.out DOc.out ?_; refine Held.go ?_)
  refine ⟨?_⟩
  go_wp2
  exact bodyPost_ret (results_row_tmp rfl _ _ (w.heap.size + 1) _ _ (0, 0) _ rfl (BR.out.setRow #[.slice aF files.length cF, .slice aD dir.length cD, .slice aS safe.length cS, .slice aC chs.length cC, .int .i64 cap, .int .i64 o1, .int .i64 a1, .bool true]) Tryz.underlying33 rfl DSc.out) rfl ⟨⟨.slice aF files.length cF, .slice aD dir.length cD, .slice aS safe.length cS, .slice aC chs.length cC⟩, by rw [CH.out]; rfl, HN.out _ (X.out.setRow (by omega) _), X.out.setRow (by omega) _⟩
set_option maxRecDepth 20000 in
set_option maxHeartbeats 4000000 in
theorem rdirSync_done {w : World} {v : V4} {d : Dsk} (hK : ∀ k ∈ K, k < w.heap.size) (h : RefD K w v d) (hd : d.dead = false) (h1 : (d.armed == 1) = false) (ho : 0 ≤ d.ops ∧ d.ops ≤ 100000000) (ha : 0 ≤ d.armed ∧ d.armed ≤ 9223372036854775807) :
    Calls Tryz.prog 27 #[refV v d] w fun x w' => RRet K w { d.cnt with safe := d.dir, chs := [] } 0 x w' := by
  obtain ⟨aF, cF, aD, cD, aS, cS, aC, cC, rfl⟩ := h.open_
  have H := Lib.hid h
  have HK := Lib.hid hK
  clear hK
  have Q1 := Lib.hid (fun W (x : Ext w W) => counted_any (h.ext x) hd ho ha)
  have HN := Lib.hid (show ∀ W, Ext w W → RefD K W ⟨.slice aF d.files.length cF, .slice aD d.dir.length cD, .slice aS d.safe.length cS, .slice aC d.chs.length cC⟩ d.cnt from fun W x => ⟨(h.ext x).fs, (h.ext x).dir, (h.ext x).safe, (h.ext x).chs⟩)
  have CH := Lib.hid (show refV ⟨.slice aF d.files.length cF, .slice aD d.dir.length cD, .slice aS d.safe.length cS, .slice aC d.chs.length cC⟩ d.cnt = .agg #[.slice aF d.files.length cF, .slice aD d.dir.length cD, .slice aS d.safe.length cS, .slice aC d.chs.length cC, .int .i64 d.cap, .int .i64 d.cnt.ops, .int .i64 d.cnt.armed, .bool false] from by rw [← h1]; rfl)
  rw [CH.out, h1] at Q1
  have EO := Lib.hid (show ∃ o1 a1, o1 = d.cnt.ops ∧ a1 = d.cnt.armed from ⟨_, _, rfl, rfl⟩)
  obtain ⟨o1, a1, ho1, ha1⟩ := EO.out
  rw [← ho1, ← ha1] at Q1 CH
  have HZ := Lib.hid (show ∀ W, Ext w W → RefD K W ⟨.slice aF d.files.length cF, .slice aD d.dir.length cD, .slice aD d.dir.length cD, .slice none 0 0⟩ { d.cnt with safe := d.dir, chs := [] } from fun W x => ⟨(h.ext x).fs, (h.ext x).dir, (h.ext x).dir, RK.nil W⟩)
  have CZ := Lib.hid (show refV ⟨.slice aF d.files.length cF, .slice aD d.dir.length cD, .slice aD d.dir.length cD, .slice none 0 0⟩ { d.cnt with safe := d.dir, chs := [] } = .agg #[.slice aF d.files.length cF, .slice aD d.dir.length cD, .slice aD d.dir.length cD, .slice none 0 0, .int .i64 d.cap, .int .i64 o1, .int .i64 a1, .bool false] from by rw [ho1, ha1, ← h1]; rfl)
  clear ho ha h1 EO ho1 ha1
  clear h
  obtain ⟨files, dir, safe, chs, cap, ops, armed, dead⟩ := d
  dsimp only at hd
  subst hd
  dsimp only at *
  have X := Lib.hid (((Ext.refl w).alloc (.cells #[.slice aF files.length cF, .slice aD dir.length cD, .slice aS safe.length cS, .slice aC chs.length cC, .int .i64 cap, .int .i64 ops, .int .i64 armed, .bool false] 33)).alloc (.cells #[.slice none 0 0, .slice none 0 0, .slice none 0 0, .slice none 0 0, .int .i64 0, .int .i64 0, .int .i64 0, .bool false] 33))
  have BD := Lib.hid ((Blk.new w 33 #[.slice aF files.length cF, .slice aD dir.length cD, .slice aS safe.length cS, .slice aC chs.length cC, .int .i64 cap, .int .i64 ops, .int .i64 armed, .bool false]).alloc (.cells #[.slice none 0 0, .slice none 0 0, .slice none 0 0, .slice none 0 0, .int .i64 0, .int .i64 0, .int .i64 0, .bool false] 33))
  have br := Blk.new (w.alloc (.cells #[.slice aF files.length cF, .slice aD dir.length cD, .slice aS safe.length cS, .slice aC chs.length cC, .int .i64 cap, .int .i64 ops, .int .i64 armed, .bool false] 33)) 33 #[.slice none 0 0, .slice none 0 0, .slice none 0 0, .slice none 0 0, .int .i64 0, .int .i64 0, .int .i64 0, .bool false]
  simp only [World.size_alloc] at br
  have BR := Lib.hid br
  clear br
  have DS := Lib.hid (show (Tryz.prog.info? 33).map (·.size) = some (#[.slice aF files.length cF, .slice aD dir.length cD, .slice aS safe.length cS, .slice aC chs.length cC, .int .i64 cap, .int .i64 ops, .int .i64 armed, .bool false] : Array Value).size from rdisk_size)
  have DO := Lib.hid (disk_all _ _ _ _ (sl_ex aF files.length cF) (sl_ex aD dir.length cD) (sl_ex aS safe.length cS) (sl_ex aC chs.length cC) cap ops armed false)
  unfold RRet
  simp only [refV] at *
  go_enter Tryz.func27, Tryz.ntmps27
  go_wp2_with fail
  refine (Q1.out _ X.out).mono ?_
  rintro _ w1 ⟨rfl, x1⟩
  replace BD := Lib.hid (BD.out.ext x1)
  replace BR := Lib.hid (BR.out.ext x1)
  replace X := Lib.hid (X.out.trans x1)
  clear x1
  have DSc := Lib.hid (show (Tryz.prog.info? 33).map (·.size) = some (#[.slice aF files.length cF, .slice aD dir.length cD, .slice aS safe.length cS, .slice aC chs.length cC, .int .i64 cap, .int .i64 o1, .int .i64 a1, .bool false] : Array Value).size from rdisk_size)
  have DOc := Lib.hid (disk_all _ _ _ _ (sl_ex aF files.length cF) (sl_ex aD dir.length cD) (sl_ex aS safe.length cS) (sl_ex aC chs.length cC) cap o1 a1 false)
  go_wp2_with (refine wpList_store_blk rfl 33 (.tmp 1) (.tmp 11) rfl rfl rfl BD.out rfl DSc.out DOc.out ?_; refine Held.go ?_)
  refine ⟨?_⟩
  have BD := Lib.hid (BD.out.setRow #[.slice aF files.length cF, .slice aD dir.length cD, .slice aS safe.length cS, .slice aC chs.length cC, .int .i64 cap, .int .i64 o1, .int .i64 a1, .bool false])
  have BR := Lib.hid (BR.out.setRow_far (k := w.heap.size) (by omega) #[.slice aF files.length cF, .slice aD dir.length cD, .slice aS safe.length cS, .slice aC chs.length cC, .int .i64 cap, .int .i64 o1, .int .i64 a1, .bool false])
  have X := Lib.hid (X.out.setRow (Nat.le_refl _) #[.slice aF files.length cF, .slice aD dir.length cD, .slice aS safe.length cS, .slice aC chs.length cC, .int .i64 cap, .int .i64 o1, .int .i64 a1, .bool false])
  generalize w1.setRow w.heap.size #[.slice aF files.length cF, .slice aD dir.length cD, .slice aS safe.length cS, .slice aC chs.length cC, .int .i64 cap, .int .i64 o1, .int .i64 a1, .bool false] = w2 at *
  have c1 : w2.cell? ⟨w.heap.size, 1, none⟩ = some (.slice aD dir.length cD) := BD.out.cell 1
  have c2 : w2.cell? ⟨w.heap.size, 2, none⟩ = some (.slice aS safe.length cS) := BD.out.cell 2
  have c3 : w2.cell? ⟨w.heap.size, 3, none⟩ = some (.slice aC chs.length cC) := BD.out.cell 3
  have f2 := BD.out.frozen 2
  have f3 := BD.out.frozen 3
  have bd := Blk.set_ (Blk.set_ BD.out 2 (.slice aD dir.length cD)) 3 (.slice none 0 0)
  simp only [List.setIfInBounds_toArray, List.set_cons_succ, List.set_cons_zero] at bd
  have BD := Lib.hid bd
  have BR := Lib.hid ((BR.out.far (p := ⟨w.heap.size, 2, none⟩) (by simp) (.slice aD dir.length cD)).far (p := ⟨w.heap.size, 3, none⟩) (by simp) (.slice none 0 0))
  have X := Lib.hid ((X.out.set (p := ⟨w.heap.size, 2, none⟩) (Nat.le_refl _) (.slice aD dir.length cD)).set (p := ⟨w.heap.size, 3, none⟩) (Nat.le_refl _) (.slice none 0 0))
  have DSc := Lib.hid (show (Tryz.prog.info? 33).map (·.size) = some (#[.slice aF files.length cF, .slice aD dir.length cD, .slice aD dir.length cD, .slice none 0 0, .int .i64 cap, .int .i64 o1, .int .i64 a1, .bool false] : Array Value).size from rdisk_size)
  have DOc := Lib.hid (disk_all _ _ _ _ (sl_ex aF files.length cF) (sl_ex aD dir.length cD) (sl_ex aD dir.length cD) (sl_ex none 0 0) cap o1 a1 false)
  clear bd
  go_wp2_with (refine wpList_load_blk rfl 33 (.tmp 1) rfl rfl BD.out Tryz.underlying33 rfl DSc.out ?_; refine Held.go ?_)
  refine ⟨?_⟩
  go_wp2_with (refine wpList_store_blk rfl 33 (.tmp 2) (.tmp 19) rfl rfl rfl BR.out rfl DSc.out DOc.out ?_; refine Held.go ?_)
  refine ⟨?_⟩
  go_wp2
  exact bodyPost_ret (results_row_tmp rfl _ _ (w.heap.size + 1) _ _ (0, 0) _ rfl (BR.out.setRow #[.slice aF files.length cF, .slice aD dir.length cD, .slice aD dir.length cD, .slice none 0 0, .int .i64 cap, .int .i64 o1, .int .i64 a1, .bool false]) Tryz.underlying33 rfl DSc.out) rfl ⟨⟨.slice aF files.length cF, .slice aD dir.length cD, .slice aD dir.length cD, .slice none 0 0⟩, by rw [CZ.out]; rfl, HZ.out _ (X.out.setRow (by omega) _), X.out.setRow (by omega) _⟩
set_option maxRecDepth 20000 in
set_option maxHeartbeats 4000000 in
theorem rarm_dead {w : World} {v : V4} {d : Dsk} (hK : ∀ k ∈ K, k < w.heap.size) (h : RefD K w v d) (hd : d.dead = true) (k : Int) :
    Calls Tryz.prog 28 #[refV v d, .int .i64 k] w fun x w' => RRet K w d 200 x w' := by
  obtain ⟨aF, cF, aD, cD, aS, cS, aC, cC, rfl⟩ := h.open_
  have H := Lib.hid h
  have HK := Lib.hid hK
  clear hK

  clear h
  obtain ⟨files, dir, safe, chs, cap, ops, armed, dead⟩ := d
  dsimp only at hd
  subst hd
  dsimp only at *
  have X := Lib.hid (((Ext.refl w).alloc (.cells #[.slice aF files.length cF, .slice aD dir.length cD, .slice aS safe.length cS, .slice aC chs.length cC, .int .i64 cap, .int .i64 ops, .int .i64 armed, .bool true] 33)).alloc (.cells #[.slice none 0 0, .slice none 0 0, .slice none 0 0, .slice none 0 0, .int .i64 0, .int .i64 0, .int .i64 0, .bool false] 33))
  have BD := Lib.hid ((Blk.new w 33 #[.slice aF files.length cF, .slice aD dir.length cD, .slice aS safe.length cS, .slice aC chs.length cC, .int .i64 cap, .int .i64 ops, .int .i64 armed, .bool true]).alloc (.cells #[.slice none 0 0, .slice none 0 0, .slice none 0 0, .slice none 0 0, .int .i64 0, .int .i64 0, .int .i64 0, .bool false] 33))
  have br := Blk.new (w.alloc (.cells #[.slice aF files.length cF, .slice aD dir.length cD, .slice aS safe.length cS, .slice aC chs.length cC, .int .i64 cap, .int .i64 ops, .int .i64 armed, .bool true] 33)) 33 #[.slice none 0 0, .slice none 0 0, .slice none 0 0, .slice none 0 0, .int .i64 0, .int .i64 0, .int .i64 0, .bool false]
  simp only [World.size_alloc] at br
  have BR := Lib.hid br
  clear br
  have DS := Lib.hid (show (Tryz.prog.info? 33).map (·.size) = some (#[.slice aF files.length cF, .slice aD dir.length cD, .slice aS safe.length cS, .slice aC chs.length cC, .int .i64 cap, .int .i64 ops, .int .i64 armed, .bool true] : Array Value).size from rdisk_size)
  have DO := Lib.hid (disk_all _ _ _ _ (sl_ex aF files.length cF) (sl_ex aD dir.length cD) (sl_ex aS safe.length cS) (sl_ex aC chs.length cC) cap ops armed true)
  unfold RRet
  simp only [refV] at *
  go_enter Tryz.func28, Tryz.ntmps28
  go_wp2
  exact bodyPost_ret (v := .tuple #[.agg #[.slice aF files.length cF, .slice aD dir.length cD, .slice aS safe.length cS, .slice aC chs.length cC, .int .i64 cap, .int .i64 ops, .int .i64 armed, .bool true], .int .i64 200]) (by simp [results, Tryz.results28, go_sem]) rfl ⟨⟨.slice aF files.length cF, .slice aD dir.length cD, .slice aS safe.length cS, .slice aC chs.length cC⟩, rfl, H.out.ext (((Ext.refl w).alloc _).alloc _), ((Ext.refl w).alloc _).alloc _⟩
set_option maxRecDepth 20000 in
set_option maxHeartbeats 4000000 in
theorem rarm_bad {w : World} {v : V4} {d : Dsk} (hK : ∀ k ∈ K, k < w.heap.size) (h : RefD K w v d) (hd : d.dead = false) (k : Int) (hk : k < 1) :
    Calls Tryz.prog 28 #[refV v d, .int .i64 k] w fun x w' => RRet K w d 2 x w' := by
  obtain ⟨aF, cF, aD, cD, aS, cS, aC, cC, rfl⟩ := h.open_
  have H := Lib.hid h
  have HK := Lib.hid hK
  clear hK

  clear h
  obtain ⟨files, dir, safe, chs, cap, ops, armed, dead⟩ := d
  dsimp only at hd
  subst hd
  dsimp only at *
  have X := Lib.hid (((Ext.refl w).alloc (.cells #[.slice aF files.length cF, .slice aD dir.length cD, .slice aS safe.length cS, .slice aC chs.length cC, .int .i64 cap, .int .i64 ops, .int .i64 armed, .bool false] 33)).alloc (.cells #[.slice none 0 0, .slice none 0 0, .slice none 0 0, .slice none 0 0, .int .i64 0, .int .i64 0, .int .i64 0, .bool false] 33))
  have BD := Lib.hid ((Blk.new w 33 #[.slice aF files.length cF, .slice aD dir.length cD, .slice aS safe.length cS, .slice aC chs.length cC, .int .i64 cap, .int .i64 ops, .int .i64 armed, .bool false]).alloc (.cells #[.slice none 0 0, .slice none 0 0, .slice none 0 0, .slice none 0 0, .int .i64 0, .int .i64 0, .int .i64 0, .bool false] 33))
  have br := Blk.new (w.alloc (.cells #[.slice aF files.length cF, .slice aD dir.length cD, .slice aS safe.length cS, .slice aC chs.length cC, .int .i64 cap, .int .i64 ops, .int .i64 armed, .bool false] 33)) 33 #[.slice none 0 0, .slice none 0 0, .slice none 0 0, .slice none 0 0, .int .i64 0, .int .i64 0, .int .i64 0, .bool false]
  simp only [World.size_alloc] at br
  have BR := Lib.hid br
  clear br
  have DS := Lib.hid (show (Tryz.prog.info? 33).map (·.size) = some (#[.slice aF files.length cF, .slice aD dir.length cD, .slice aS safe.length cS, .slice aC chs.length cC, .int .i64 cap, .int .i64 ops, .int .i64 armed, .bool false] : Array Value).size from rdisk_size)
  have DO := Lib.hid (disk_all _ _ _ _ (sl_ex aF files.length cF) (sl_ex aD dir.length cD) (sl_ex aS safe.length cS) (sl_ex aC chs.length cC) cap ops armed false)
  unfold RRet
  simp only [refV] at *
  go_enter Tryz.func28, Tryz.ntmps28
  go_wp2
  exact bodyPost_ret (v := .tuple #[.agg #[.slice aF files.length cF, .slice aD dir.length cD, .slice aS safe.length cS, .slice aC chs.length cC, .int .i64 cap, .int .i64 ops, .int .i64 armed, .bool false], .int .i64 2]) (by simp [results, Tryz.results28, go_sem]) rfl ⟨⟨.slice aF files.length cF, .slice aD dir.length cD, .slice aS safe.length cS, .slice aC chs.length cC⟩, rfl, H.out.ext (((Ext.refl w).alloc _).alloc _), ((Ext.refl w).alloc _).alloc _⟩
set_option maxRecDepth 20000 in
set_option maxHeartbeats 4000000 in
theorem rarm_good {w : World} {v : V4} {d : Dsk} (hK : ∀ k ∈ K, k < w.heap.size) (h : RefD K w v d) (hd : d.dead = false) (k : Int) (hk : ¬ k < 1) :
    Calls Tryz.prog 28 #[refV v d, .int .i64 k] w fun x w' => RRet K w { d with armed := k } 0 x w' := by
  obtain ⟨aF, cF, aD, cD, aS, cS, aC, cC, rfl⟩ := h.open_
  have H := Lib.hid h
  have HK := Lib.hid hK
  clear hK

  clear h
  obtain ⟨files, dir, safe, chs, cap, ops, armed, dead⟩ := d
  dsimp only at hd
  subst hd
  dsimp only at *
  have X := Lib.hid (((Ext.refl w).alloc (.cells #[.slice aF files.length cF, .slice aD dir.length cD, .slice aS safe.length cS, .slice aC chs.length cC, .int .i64 cap, .int .i64 ops, .int .i64 armed, .bool false] 33)).alloc (.cells #[.slice none 0 0, .slice none 0 0, .slice none 0 0, .slice none 0 0, .int .i64 0, .int .i64 0, .int .i64 0, .bool false] 33))
  have BD := Lib.hid ((Blk.new w 33 #[.slice aF files.length cF, .slice aD dir.length cD, .slice aS safe.length cS, .slice aC chs.length cC, .int .i64 cap, .int .i64 ops, .int .i64 armed, .bool false]).alloc (.cells #[.slice none 0 0, .slice none 0 0, .slice none 0 0, .slice none 0 0, .int .i64 0, .int .i64 0, .int .i64 0, .bool false] 33))
  have br := Blk.new (w.alloc (.cells #[.slice aF files.length cF, .slice aD dir.length cD, .slice aS safe.length cS, .slice aC chs.length cC, .int .i64 cap, .int .i64 ops, .int .i64 armed, .bool false] 33)) 33 #[.slice none 0 0, .slice none 0 0, .slice none 0 0, .slice none 0 0, .int .i64 0, .int .i64 0, .int .i64 0, .bool false]
  simp only [World.size_alloc] at br
  have BR := Lib.hid br
  clear br
  have DS := Lib.hid (show (Tryz.prog.info? 33).map (·.size) = some (#[.slice aF files.length cF, .slice aD dir.length cD, .slice aS safe.length cS, .slice aC chs.length cC, .int .i64 cap, .int .i64 ops, .int .i64 armed, .bool false] : Array Value).size from rdisk_size)
  have DO := Lib.hid (disk_all _ _ _ _ (sl_ex aF files.length cF) (sl_ex aD dir.length cD) (sl_ex aS safe.length cS) (sl_ex aC chs.length cC) cap ops armed false)
  unfold RRet
  simp only [refV] at *
  go_enter Tryz.func28, Tryz.ntmps28
  go_wp2
  exact bodyPost_ret (v := .tuple #[.agg #[.slice aF files.length cF, .slice aD dir.length cD, .slice aS safe.length cS, .slice aC chs.length cC, .int .i64 cap, .int .i64 ops, .int .i64 k, .bool false], .int .i64 0]) (by simp [results, Tryz.results28, go_sem]) rfl ⟨⟨.slice aF files.length cF, .slice aD dir.length cD, .slice aS safe.length cS, .slice aC chs.length cC⟩, rfl, ⟨(H.out.ext (((Ext.refl w).alloc _).alloc _)).fs, (H.out.ext (((Ext.refl w).alloc _).alloc _)).dir, (H.out.ext (((Ext.refl w).alloc _).alloc _)).safe, (H.out.ext (((Ext.refl w).alloc _).alloc _)).chs⟩, ((Ext.refl w).alloc _).alloc _⟩
set_option maxRecDepth 20000 in
set_option maxHeartbeats 2000000 in
theorem roff_any {w : World} {v : V4} {d : Dsk} (h : RefD K w v d) :
    Calls Tryz.prog 29 #[refV v d] w fun x w' => ∃ v', x = .returned (refV v' d.off) ∧ RefD K w' v' d.off ∧ Ext w w' := by
  obtain ⟨aF, cF, aD, cD, aS, cS, aC, cC, rfl⟩ := h.open_
  have H := Lib.hid h
  clear h
  obtain ⟨files, dir, safe, chs, cap, ops, armed, dead⟩ := d
  simp only [refV, Dsk.off] at *
  go_enter Tryz.func29, Tryz.ntmps29
  go_wp2
  exact bodyPost_ret (v := .agg #[.slice aF files.length cF, .slice aD dir.length cD, .slice aS safe.length cS, .slice aC chs.length cC, .int .i64 cap, .int .i64 ops, .int .i64 0, .bool true]) (by simp [results, Tryz.results29, go_sem]) rfl ⟨⟨.slice aF files.length cF, .slice aD dir.length cD, .slice aS safe.length cS, .slice aC chs.length cC⟩, rfl, ⟨(H.out.ext (((Ext.refl w).alloc _).alloc _)).fs, (H.out.ext (((Ext.refl w).alloc _).alloc _)).dir, (H.out.ext (((Ext.refl w).alloc _).alloc _)).safe, (H.out.ext (((Ext.refl w).alloc _).alloc _)).chs⟩, ((Ext.refl w).alloc _).alloc _⟩
set_option maxRecDepth 20000 in
set_option maxHeartbeats 2000000 in
theorem rnew_any (cap : Int) (w : World) :
    Calls Tryz.prog 7 #[.int .i64 cap] w fun x w' => ∃ v', x = .returned (.tuple #[refV v' (Dsk.new cap), .bool (decide (0 ≤ cap ∧ cap ≤ 10000000))]) ∧ RefD K w' v' (Dsk.new cap) ∧ Ext w w' := by
  obtain ⟨r, hr⟩ : ∃ r, r = decide (0 ≤ cap ∧ cap ≤ 10000000) := ⟨_, rfl⟩
  rw [← hr]
  have HR := Lib.hid hr
  clear hr
  simp only [refV, Dsk.new]
  by_cases h0 : 0 ≤ cap
  · by_cases h1 : cap ≤ 10000000
    · obtain rfl : r = true := HR.out.trans (decide_eq_true ⟨h0, h1⟩)
      go_enter Tryz.func7, Tryz.ntmps7
      go_wp2
      exact bodyPost_ret (v := .tuple #[.agg #[.slice none 0 0, .slice none 0 0, .slice none 0 0, .slice none 0 0, .int .i64 cap, .int .i64 0, .int .i64 0, .bool false], .bool true]) (by simp [results, Tryz.results7, go_sem]) rfl ⟨⟨.slice none 0 0, .slice none 0 0, .slice none 0 0, .slice none 0 0⟩, rfl, ⟨RK.nil _, RK.nil _, RK.nil _, RK.nil _⟩, (Ext.refl w).alloc _⟩
    · obtain rfl : r = false := HR.out.trans (decide_eq_false (fun h => h1 h.2))
      go_enter Tryz.func7, Tryz.ntmps7
      go_wp2
      exact bodyPost_ret (v := .tuple #[.agg #[.slice none 0 0, .slice none 0 0, .slice none 0 0, .slice none 0 0, .int .i64 cap, .int .i64 0, .int .i64 0, .bool false], .bool false]) (by simp [results, Tryz.results7, go_sem]) rfl ⟨⟨.slice none 0 0, .slice none 0 0, .slice none 0 0, .slice none 0 0⟩, rfl, ⟨RK.nil _, RK.nil _, RK.nil _, RK.nil _⟩, (Ext.refl w).alloc _⟩
  · obtain rfl : r = false := HR.out.trans (decide_eq_false (fun h => h0 h.1))
    go_enter Tryz.func7, Tryz.ntmps7
    go_wp2
    exact bodyPost_ret (v := .tuple #[.agg #[.slice none 0 0, .slice none 0 0, .slice none 0 0, .slice none 0 0, .int .i64 cap, .int .i64 0, .int .i64 0, .bool false], .bool false]) (by simp [results, Tryz.results7, go_sem]) rfl ⟨⟨.slice none 0 0, .slice none 0 0, .slice none 0 0, .slice none 0 0⟩, rfl, ⟨RK.nil _, RK.nil _, RK.nil _, RK.nil _⟩, (Ext.refl w).alloc _⟩
end Go.Proofs.YtfipfljiohdlhaaGreat
