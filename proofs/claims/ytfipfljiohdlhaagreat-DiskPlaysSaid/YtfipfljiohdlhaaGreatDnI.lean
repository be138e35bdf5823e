/- The document's disk: Create, Sync, Rename, Remove, DirSync, Arm, Off, New. -/
import Derived.Test.YtfipfljiohdlhaaGreatDnH
namespace Go.Proofs.YtfipfljiohdlhaaGreat
set_option linter.unusedVariables false
set_option linter.unusedSimpArgs false
open Go.RowKit
attribute [local go_sem] S_size S_toList S_append S_extract S_beq S_bne S_empty S_nil
variable {K : List Nat}

/-- what a call on the document's disk leaves -/
def RRet (K : List Nat) (w : World) (d' : Dsk) (e : Int) (x : Ending) (w' : World) : Prop := ∃ v', x = .returned (.tuple #[refV v' d', .int .i64 e]) ∧ RefD K w' v' d' ∧ Ext w w'
theorem zero_nostr : ∀ (i : Nat) (z : ByteArray), (#[.slice none 0 0, .slice none 0 0, .slice none 0 0, .slice none 0 0, .int .i64 0, .int .i64 0, .int .i64 0, .bool false] : Array Value)[i]? ≠ some (Value.string z) := dsk_nostr _ _ _ _ (sl_ex none 0 0) (sl_ex none 0 0) (sl_ex none 0 0) (sl_ex none 0 0) 0 0 0 false
/-- a new disk's slices stay where a block without texts turns -/
theorem RefD.butG {w w' : World} {v : V4} {d : Dsk} {g : Nat} {t : TypeId} {cs : Array Value} (h : RefD K w v d) (hb : Blk w g t cs) (hcs : ∀ (i : Nat) (z : ByteArray), cs[i]? ≠ some (Value.string z)) (x : But [g] w w') : RefD K w' v d :=
  ⟨h.fs.butG fC_str hb hcs x, h.dir.butG eC_str hb hcs x, h.safe.butG eC_str hb hcs x, h.chs.butG rC_str hb hcs x⟩
theorem But.row1 (w : World) (k : Nat) (cs : Array Value) : But [k] w (w.setRow k cs) := (But.refl [k] w).rowd (by simp) cs
theorem run_bs1f (w : World) : (Instr.buildSlice 29 1 #[(0, .agg (fC ([], [])).toArray)]).run Tryz.prog w = .ok (.slice (some ⟨w.heap.size, 0, none⟩) 1 1) (w.alloc (.cells (fC ([], [])).toArray 95)) := by kernel_rfl
theorem disk_all (v1 v2 v3 v4 : Value) (h1 : ∃ a n c, v1 = .slice a n c) (h2 : ∃ a n c, v2 = .slice a n c) (h3 : ∃ a n c, v3 = .slice a n c) (h4 : ∃ a n c, v4 = .slice a n c) (i1 i2 i3 : Int) (b : Bool) : (#[v1, v2, v3, v4, .int .i64 i1, .int .i64 i2, .int .i64 i3, .bool b] : Array Value).all (·.oneCell') = true := by
  obtain ⟨_, _, _, rfl⟩ := h1
  obtain ⟨_, _, _, rfl⟩ := h2
  obtain ⟨_, _, _, rfl⟩ := h3
  obtain ⟨_, _, _, rfl⟩ := h4
  kernel_rfl
set_option maxRecDepth 20000 in
set_option maxHeartbeats 4000000 in
theorem rcreate_dead {w : World} {v : V4} {d : Dsk} (hK : ∀ k ∈ K, k < w.heap.size) (h : RefD K w v d) (hd : d.dead = true) (s : List UInt8) :
    Calls Tryz.prog 21 #[refV v d, .string (S s)] w fun x w' => RRet K w d 200 x w' := by
  obtain ⟨aF, cF, aD, cD, aS, cS, aC, cC, rfl⟩ := h.open_
  have H := Lib.hid h
  have HK := Lib.hid hK
  clear hK

  clear h
  obtain ⟨files, dir, safe, chs, cap, ops, armed, dead⟩ := d
  dsimp only at hd
  subst hd
  dsimp only at *
  have X := Lib.hid (((Ext.refl w).alloc (.cells #[.slice aF files.length cF, .slice aD dir.length cD, .slice aS safe.length cS, .slice aC chs.length cC, .int .i64 cap, .int .i64 ops, .int .i64 armed, .bool true] 33)).alloc (.cells #[.slice none 0 0, .slice none 0 0, .slice none 0 0, .slice none 0 0, .int .i64 0, .int .i64 0, .int .i64 0, .bool false] 33))
  have BD := Lib.hid ((Blk.new w 33 #[.slice aF files.length cF, .slice aD dir.length cD, .slice aS safe.length cS, .slice aC chs.length cC, .int .i64 cap, .int .i64 ops, .int .i64 armed, .bool true]).alloc (.cells #[.slice none 0 0, .slice none 0 0, .slice none 0 0, .slice none 0 0, .int .i64 0, .int .i64 0, .int .i64 0, .bool false] 33))
  have br := Blk.new (w.alloc (.cells #[.slice aF files.length cF, .slice aD dir.length cD, .slice aS safe.length cS, .slice aC chs.length cC, .int .i64 cap, .int .i64 ops, .int .i64 armed, .bool true] 33)) 33 #[.slice none 0 0, .slice none 0 0, .slice none 0 0, .slice none 0 0, .int .i64 0, .int .i64 0, .int .i64 0, .bool false]
  simp only [World.size_alloc] at br
  have BR := Lib.hid br
  clear br
  have DS := Lib.hid (show (Tryz.prog.info? 33).map (·.size) = some (#[.slice aF files.length cF, .slice aD dir.length cD, .slice aS safe.length cS, .slice aC chs.length cC, .int .i64 cap, .int .i64 ops, .int .i64 armed, .bool true] : Array Value).size from rdisk_size)
  have DO := Lib.hid (disk_all _ _ _ _ (sl_ex aF files.length cF) (sl_ex aD dir.length cD) (sl_ex aS safe.length cS) (sl_ex aC chs.length cC) cap ops armed true)
  unfold RRet
  simp only [refV] at *
  go_enter Tryz.func21, Tryz.ntmps21
  go_wp2
  exact bodyPost_ret (v := .tuple #[.agg #[.slice aF files.length cF, .slice aD dir.length cD, .slice aS safe.length cS, .slice aC chs.length cC, .int .i64 cap, .int .i64 ops, .int .i64 armed, .bool true], .int .i64 200]) (by simp [results, Tryz.results21, go_sem]) rfl ⟨⟨.slice aF files.length cF, .slice aD dir.length cD, .slice aS safe.length cS, .slice aC chs.length cC⟩, rfl, H.out.ext (((Ext.refl w).alloc _).alloc _), ((Ext.refl w).alloc _).alloc _⟩
set_option maxRecDepth 20000 in
set_option maxHeartbeats 4000000 in
theorem rcreate_name {w : World} {v : V4} {d : Dsk} (hK : ∀ k ∈ K, k < w.heap.size) (h : RefD K w v d) (hd : d.dead = false) (s : List UInt8) (hs : (s.length : Int) ≤ 9223372036854775807) (hc : chk s = 180) :
    Calls Tryz.prog 21 #[refV v d, .string (S s)] w fun x w' => RRet K w d 180 x w' := by
  obtain ⟨aF, cF, aD, cD, aS, cS, aC, cC, rfl⟩ := h.open_
  have H := Lib.hid h
  have HK := Lib.hid hK
  clear hK
  have QC := Lib.hid (fun W => rcheck_any s W hs)
  rw [hc] at QC
  have CC := Lib.hid hc
  clear hc
  clear h
  obtain ⟨files, dir, safe, chs, cap, ops, armed, dead⟩ := d
  dsimp only at hd
  subst hd
  dsimp only at *
  have X := Lib.hid (((Ext.refl w).alloc (.cells #[.slice aF files.length cF, .slice aD dir.length cD, .slice aS safe.length cS, .slice aC chs.length cC, .int .i64 cap, .int .i64 ops, .int .i64 armed, .bool false] 33)).alloc (.cells #[.slice none 0 0, .slice none 0 0, .slice none 0 0, .slice none 0 0, .int .i64 0, .int .i64 0, .int .i64 0, .bool false] 33))
  have BD := Lib.hid ((Blk.new w 33 #[.slice aF files.length cF, .slice aD dir.length cD, .slice aS safe.length cS, .slice aC chs.length cC, .int .i64 cap, .int .i64 ops, .int .i64 armed, .bool false]).alloc (.cells #[.slice none 0 0, .slice none 0 0, .slice none 0 0, .slice none 0 0, .int .i64 0, .int .i64 0, .int .i64 0, .bool false] 33))
  have br := Blk.new (w.alloc (.cells #[.slice aF files.length cF, .slice aD dir.length cD, .slice aS safe.length cS, .slice aC chs.length cC, .int .i64 cap, .int .i64 ops, .int .i64 armed, .bool false] 33)) 33 #[.slice none 0 0, .slice none 0 0, .slice none 0 0, .slice none 0 0, .int .i64 0, .int .i64 0, .int .i64 0, .bool false]
  simp only [World.size_alloc] at br
  have BR := Lib.hid br
  clear br
  have DS := Lib.hid (show (Tryz.prog.info? 33).map (·.size) = some (#[.slice aF files.length cF, .slice aD dir.length cD, .slice aS safe.length cS, .slice aC chs.length cC, .int .i64 cap, .int .i64 ops, .int .i64 armed, .bool false] : Array Value).size from rdisk_size)
  have DO := Lib.hid (disk_all _ _ _ _ (sl_ex aF files.length cF) (sl_ex aD dir.length cD) (sl_ex aS safe.length cS) (sl_ex aC chs.length cC) cap ops armed false)
  unfold RRet
  simp only [refV] at *
  go_enter Tryz.func21, Tryz.ntmps21
  go_wp2_with fail
  refine (QC.out _).mono ?_
  rintro _ w1 ⟨rfl, x1⟩
  replace BD := Lib.hid (BD.out.ext x1)
  replace BR := Lib.hid (BR.out.ext x1)
  replace X := Lib.hid (X.out.trans x1)
  clear x1
  go_wp2_with (refine wpList_load_blk rfl 33 (.tmp 2) rfl rfl BD.out Tryz.underlying33 rfl DS.out ?_; refine Held.go ?_)
  refine ⟨?_⟩
  go_wp2_with (refine wpList_store_blk rfl 33 (.tmp 4) (.tmp 15) rfl rfl rfl BR.out rfl DS.out DO.out ?_; refine Held.go ?_)
  refine ⟨?_⟩
  go_wp2
  exact bodyPost_ret (results_row_tmp rfl _ _ (w.heap.size + 1) _ _ (0, 0) _ rfl (BR.out.setRow #[.slice aF files.length cF, .slice aD dir.length cD, .slice aS safe.length cS, .slice aC chs.length cC, .int .i64 cap, .int .i64 ops, .int .i64 armed, .bool false]) Tryz.underlying33 rfl DS.out) rfl ⟨⟨.slice aF files.length cF, .slice aD dir.length cD, .slice aS safe.length cS, .slice aC chs.length cC⟩, rfl, H.out.ext (X.out.setRow (by omega) _), X.out.setRow (by omega) _⟩
set_option maxRecDepth 20000 in
set_option maxHeartbeats 4000000 in
theorem rcreate_there {w : World} {v : V4} {d : Dsk} (hK : ∀ k ∈ K, k < w.heap.size) (h : RefD K w v d) (hd : d.dead = false) (s : List UInt8) (hs : (s.length : Int) ≤ 9223372036854775807) (hc : chk s = 0) (hl : (d.dir.length : Int) ≤ 1000000) {n : Nat} (hg : dGet s d.dir = some n) :
    Calls Tryz.prog 21 #[refV v d, .string (S s)] w fun x w' => RRet K w d 202 x w' := by
  obtain ⟨aF, cF, aD, cD, aS, cS, aC, cC, rfl⟩ := h.open_
  have H := Lib.hid h
  have HK := Lib.hid hK
  clear hK
  have QC := Lib.hid (fun W => rcheck_any s W hs)
  rw [hc] at QC
  have CC := Lib.hid hc
  clear hc
  have qf := fun W (x : Ext w W) => rfind_any (H.out.ext x) s hl
  rw [show findI s d.dir = (n : Int) by unfold findI; rw [hg]] at qf
  have QF := Lib.hid qf
  clear hg qf
  have hn : (0 : Int) ≤ (n : Int) := by omega
  clear h
  obtain ⟨files, dir, safe, chs, cap, ops, armed, dead⟩ := d
  dsimp only at hd
  subst hd
  dsimp only at *
  have X := Lib.hid (((Ext.refl w).alloc (.cells #[.slice aF files.length cF, .slice aD dir.length cD, .slice aS safe.length cS, .slice aC chs.length cC, .int .i64 cap, .int .i64 ops, .int .i64 armed, .bool false] 33)).alloc (.cells #[.slice none 0 0, .slice none 0 0, .slice none 0 0, .slice none 0 0, .int .i64 0, .int .i64 0, .int .i64 0, .bool false] 33))
  have BD := Lib.hid ((Blk.new w 33 #[.slice aF files.length cF, .slice aD dir.length cD, .slice aS safe.length cS, .slice aC chs.length cC, .int .i64 cap, .int .i64 ops, .int .i64 armed, .bool false]).alloc (.cells #[.slice none 0 0, .slice none 0 0, .slice none 0 0, .slice none 0 0, .int .i64 0, .int .i64 0, .int .i64 0, .bool false] 33))
  have br := Blk.new (w.alloc (.cells #[.slice aF files.length cF, .slice aD dir.length cD, .slice aS safe.length cS, .slice aC chs.length cC, .int .i64 cap, .int .i64 ops, .int .i64 armed, .bool false] 33)) 33 #[.slice none 0 0, .slice none 0 0, .slice none 0 0, .slice none 0 0, .int .i64 0, .int .i64 0, .int .i64 0, .bool false]
  simp only [World.size_alloc] at br
  have BR := Lib.hid br
  clear br
  have DS := Lib.hid (show (Tryz.prog.info? 33).map (·.size) = some (#[.slice aF files.length cF, .slice aD dir.length cD, .slice aS safe.length cS, .slice aC chs.length cC, .int .i64 cap, .int .i64 ops, .int .i64 armed, .bool false] : Array Value).size from rdisk_size)
  have DO := Lib.hid (disk_all _ _ _ _ (sl_ex aF files.length cF) (sl_ex aD dir.length cD) (sl_ex aS safe.length cS) (sl_ex aC chs.length cC) cap ops armed false)
  unfold RRet
  simp only [refV] at *
  go_enter Tryz.func21, Tryz.ntmps21
  go_wp2_with fail
  refine (QC.out _).mono ?_
  rintro _ w1 ⟨rfl, x1⟩
  replace BD := Lib.hid (BD.out.ext x1)
  replace BR := Lib.hid (BR.out.ext x1)
  replace X := Lib.hid (X.out.trans x1)
  clear x1
  go_wp2_with (refine wpList_load_blk rfl 33 (.tmp 2) rfl rfl BD.out Tryz.underlying33 rfl DS.out ?_; refine Held.go ?_)
  refine ⟨?_⟩
  go_wp2_with fail
  refine (QF.out _ X.out).mono ?_
  rintro _ w1 ⟨rfl, x1⟩
  replace BD := Lib.hid (BD.out.ext x1)
  replace BR := Lib.hid (BR.out.ext x1)
  replace X := Lib.hid (X.out.trans x1)
  clear x1
  go_wp2_with (refine wpList_load_blk rfl 33 (.tmp 2) rfl rfl BD.out Tryz.underlying33 rfl DS.out ?_; refine Held.go ?_)
  refine ⟨?_⟩
  go_wp2_with (refine wpList_store_blk rfl 33 (.tmp 4) (.tmp 21) rfl rfl rfl BR.out rfl DS.out DO.out ?_; refine Held.go ?_)
  refine ⟨?_⟩
  go_wp2
  exact bodyPost_ret (results_row_tmp rfl _ _ (w.heap.size + 1) _ _ (0, 0) _ rfl (BR.out.setRow #[.slice aF files.length cF, .slice aD dir.length cD, .slice aS safe.length cS, .slice aC chs.length cC, .int .i64 cap, .int .i64 ops, .int .i64 armed, .bool false]) Tryz.underlying33 rfl DS.out) rfl ⟨⟨.slice aF files.length cF, .slice aD dir.length cD, .slice aS safe.length cS, .slice aC chs.length cC⟩, rfl, H.out.ext (X.out.setRow (by omega) _), X.out.setRow (by omega) _⟩
set_option maxRecDepth 20000 in
set_option maxHeartbeats 4000000 in
theorem rcreate_full {w : World} {v : V4} {d : Dsk} (hK : ∀ k ∈ K, k < w.heap.size) (h : RefD K w v d) (hd : d.dead = false) (s : List UInt8) (hs : (s.length : Int) ≤ 9223372036854775807) (hc : chk s = 0) (hl : (d.dir.length : Int) ≤ 1000000) (hg : dGet s d.dir = none) (hf : 200 ≤ d.dir.length) :
    Calls Tryz.prog 21 #[refV v d, .string (S s)] w fun x w' => RRet K w d 203 x w' := by
  obtain ⟨aF, cF, aD, cD, aS, cS, aC, cC, rfl⟩ := h.open_
  have H := Lib.hid h
  have HK := Lib.hid hK
  clear hK
  have QC := Lib.hid (fun W => rcheck_any s W hs)
  rw [hc] at QC
  have CC := Lib.hid hc
  clear hc
  have qf := fun W (x : Ext w W) => rfind_any (H.out.ext x) s hl
  rw [show findI s d.dir = -1 by unfold findI; rw [hg]] at qf
  have QF := Lib.hid qf
  clear hg qf
  have hfi : (200 : Int) ≤ (d.dir.length : Int) := by omega
  clear h
  obtain ⟨files, dir, safe, chs, cap, ops, armed, dead⟩ := d
  dsimp only at hd
  subst hd
  dsimp only at *
  have X := Lib.hid (((Ext.refl w).alloc (.cells #[.slice aF files.length cF, .slice aD dir.length cD, .slice aS safe.length cS, .slice aC chs.length cC, .int .i64 cap, .int .i64 ops, .int .i64 armed, .bool false] 33)).alloc (.cells #[.slice none 0 0, .slice none 0 0, .slice none 0 0, .slice none 0 0, .int .i64 0, .int .i64 0, .int .i64 0, .bool false] 33))
  have BD := Lib.hid ((Blk.new w 33 #[.slice aF files.length cF, .slice aD dir.length cD, .slice aS safe.length cS, .slice aC chs.length cC, .int .i64 cap, .int .i64 ops, .int .i64 armed, .bool false]).alloc (.cells #[.slice none 0 0, .slice none 0 0, .slice none 0 0, .slice none 0 0, .int .i64 0, .int .i64 0, .int .i64 0, .bool false] 33))
  have br := Blk.new (w.alloc (.cells #[.slice aF files.length cF, .slice aD dir.length cD, .slice aS safe.length cS, .slice aC chs.length cC, .int .i64 cap, .int .i64 ops, .int .i64 armed, .bool false] 33)) 33 #[.slice none 0 0, .slice none 0 0, .slice none 0 0, .slice none 0 0, .int .i64 0, .int .i64 0, .int .i64 0, .bool false]
  simp only [World.size_alloc] at br
  have BR := Lib.hid br
  clear br
  have DS := Lib.hid (show (Tryz.prog.info? 33).map (·.size) = some (#[.slice aF files.length cF, .slice aD dir.length cD, .slice aS safe.length cS, .slice aC chs.length cC, .int .i64 cap, .int .i64 ops, .int .i64 armed, .bool false] : Array Value).size from rdisk_size)
  have DO := Lib.hid (disk_all _ _ _ _ (sl_ex aF files.length cF) (sl_ex aD dir.length cD) (sl_ex aS safe.length cS) (sl_ex aC chs.length cC) cap ops armed false)
  unfold RRet
  simp only [refV] at *
  go_enter Tryz.func21, Tryz.ntmps21
  go_wp2_with fail
  refine (QC.out _).mono ?_
  rintro _ w1 ⟨rfl, x1⟩
  replace BD := Lib.hid (BD.out.ext x1)
  replace BR := Lib.hid (BR.out.ext x1)
  replace X := Lib.hid (X.out.trans x1)
  clear x1
  go_wp2_with (refine wpList_load_blk rfl 33 (.tmp 2) rfl rfl BD.out Tryz.underlying33 rfl DS.out ?_; refine Held.go ?_)
  refine ⟨?_⟩
  go_wp2_with fail
  refine (QF.out _ X.out).mono ?_
  rintro _ w2 ⟨rfl, x2⟩
  replace BD := Lib.hid (BD.out.ext x2)
  replace BR := Lib.hid (BR.out.ext x2)
  replace X := Lib.hid (X.out.trans x2)
  clear x2
  have c1 : w2.cell? ⟨w.heap.size, 1, none⟩ = some (.slice aD dir.length cD) := BD.out.cell 1
  go_wp2_with (refine wpList_load_blk rfl 33 (.tmp 2) rfl rfl BD.out Tryz.underlying33 rfl DS.out ?_; refine Held.go ?_)
  refine ⟨?_⟩
  go_wp2_with (refine wpList_store_blk rfl 33 (.tmp 4) (.tmp 26) rfl rfl rfl BR.out rfl DS.out DO.out ?_; refine Held.go ?_)
  refine ⟨?_⟩
  go_wp2
  exact bodyPost_ret (results_row_tmp rfl _ _ (w.heap.size + 1) _ _ (0, 0) _ rfl (BR.out.setRow #[.slice aF files.length cF, .slice aD dir.length cD, .slice aS safe.length cS, .slice aC chs.length cC, .int .i64 cap, .int .i64 ops, .int .i64 armed, .bool false]) Tryz.underlying33 rfl DS.out) rfl ⟨⟨.slice aF files.length cF, .slice aD dir.length cD, .slice aS safe.length cS, .slice aC chs.length cC⟩, rfl, H.out.ext (X.out.setRow (by omega) _), X.out.setRow (by omega) _⟩
set_option maxRecDepth 20000 in
set_option maxHeartbeats 4000000 in
theorem rcreate_new {w : World} {v : V4} {d : Dsk} (hK : ∀ k ∈ K, k < w.heap.size) (h : RefD K w v d) (hd : d.dead = false) (s : List UInt8) (hs : (s.length : Int) ≤ 9223372036854775807) (hc : chk s = 0) (hl : (d.dir.length : Int) ≤ 1000000) (hg : dGet s d.dir = none) (hf : ¬ 200 ≤ d.dir.length) (ho : 0 ≤ d.ops ∧ d.ops ≤ 100000000) (ha : 0 ≤ d.armed ∧ d.armed ≤ 9223372036854775807) (hcl : d.chs.length ≤ 1000000) (hfl : d.files.length ≤ 1000000) :
    Calls Tryz.prog 21 #[refV v d, .string (S s)] w fun x w' => RRet K w (d.more.chg (s, [], some d.files.length)) d.tld x w' := by
  obtain ⟨aF, cF, aD, cD, aS, cS, aC, cC, rfl⟩ := h.open_
  have H := Lib.hid h
  have HK := Lib.hid hK
  clear hK
  obtain ⟨d6, hd6⟩ : ∃ d6, d6 = d.more.chg (s, [], some d.files.length) := ⟨_, rfl⟩
  rw [← hd6]
  have QGG := Lib.hid (fun (W : World) (v5 : V4) (hKW : ∀ k ∈ K, k < W.heap.size) (h5 : RefD K W v5 d.more) => rchange_any hKW h5 hd ho ha (s, [], some d.files.length) (fun e => by cases e) (fun n e => by have := (chk_len hc).1; rintro rfl; simp at this) hl hcl)
  rw [← hd6] at QGG
  clear hd6
  have HFL := Lib.hid hfl
  have QC := Lib.hid (fun W => rcheck_any s W hs)
  rw [hc] at QC
  have CC := Lib.hid hc
  clear hc
  have qf := fun W (x : Ext w W) => rfind_any (H.out.ext x) s hl
  rw [show findI s d.dir = -1 by unfold findI; rw [hg]] at qf
  have QF := Lib.hid qf
  clear hg qf
  have hfi : ¬ (200 : Int) ≤ (d.dir.length : Int) := by omega
  rw [show d.more.tld = d.tld from rfl] at QGG
  generalize d.tld = tl at *
  clear hl hf ho ha hcl hfl
  clear h
  obtain ⟨files, dir, safe, chs, cap, ops, armed, dead⟩ := d
  dsimp only at hd
  subst hd
  dsimp only at *
  have X := Lib.hid (((Ext.refl w).alloc (.cells #[.slice aF files.length cF, .slice aD dir.length cD, .slice aS safe.length cS, .slice aC chs.length cC, .int .i64 cap, .int .i64 ops, .int .i64 armed, .bool false] 33)).alloc (.cells #[.slice none 0 0, .slice none 0 0, .slice none 0 0, .slice none 0 0, .int .i64 0, .int .i64 0, .int .i64 0, .bool false] 33))
  have BD := Lib.hid ((Blk.new w 33 #[.slice aF files.length cF, .slice aD dir.length cD, .slice aS safe.length cS, .slice aC chs.length cC, .int .i64 cap, .int .i64 ops, .int .i64 armed, .bool false]).alloc (.cells #[.slice none 0 0, .slice none 0 0, .slice none 0 0, .slice none 0 0, .int .i64 0, .int .i64 0, .int .i64 0, .bool false] 33))
  have br := Blk.new (w.alloc (.cells #[.slice aF files.length cF, .slice aD dir.length cD, .slice aS safe.length cS, .slice aC chs.length cC, .int .i64 cap, .int .i64 ops, .int .i64 armed, .bool false] 33)) 33 #[.slice none 0 0, .slice none 0 0, .slice none 0 0, .slice none 0 0, .int .i64 0, .int .i64 0, .int .i64 0, .bool false]
  simp only [World.size_alloc] at br
  have BR := Lib.hid br
  clear br
  have DS := Lib.hid (show (Tryz.prog.info? 33).map (·.size) = some (#[.slice aF files.length cF, .slice aD dir.length cD, .slice aS safe.length cS, .slice aC chs.length cC, .int .i64 cap, .int .i64 ops, .int .i64 armed, .bool false] : Array Value).size from rdisk_size)
  have DO := Lib.hid (disk_all _ _ _ _ (sl_ex aF files.length cF) (sl_ex aD dir.length cD) (sl_ex aS safe.length cS) (sl_ex aC chs.length cC) cap ops armed false)
  unfold RRet
  simp only [refV] at *
  go_enter Tryz.func21, Tryz.ntmps21
  go_wp2_with fail
  refine (QC.out _).mono ?_
  rintro _ w1 ⟨rfl, x1⟩
  replace BD := Lib.hid (BD.out.ext x1)
  replace BR := Lib.hid (BR.out.ext x1)
  replace X := Lib.hid (X.out.trans x1)
  clear x1
  go_wp2_with (refine wpList_load_blk rfl 33 (.tmp 2) rfl rfl BD.out Tryz.underlying33 rfl DS.out ?_; refine Held.go ?_)
  refine ⟨?_⟩
  go_wp2_with fail
  refine (QF.out _ X.out).mono ?_
  rintro _ w2 ⟨rfl, x2⟩
  replace BD := Lib.hid (BD.out.ext x2)
  replace BR := Lib.hid (BR.out.ext x2)
  replace X := Lib.hid (X.out.trans x2)
  clear x2
  have c1 : w2.cell? ⟨w.heap.size, 1, none⟩ = some (.slice aD dir.length cD) := BD.out.cell 1
  have c0 : w2.cell? ⟨w.heap.size, 0, none⟩ = some (.slice aF files.length cF) := BD.out.cell 0
  obtain ⟨v', w3, p1, p2, p3⟩ := WR.app0 (B := w2.heap.size) (w := w2.alloc (.cells #[] 95)) fC_len (by decide) fC_one (Blk.new w2 95 #[]) (Nat.le_refl _) (H.out.fs.ext (X.out.alloc _)).1 (by rw [World.size_alloc]; omega) (P := Tryz.prog) (t := 29) Tryz.underlying29 rfile_info rfl (by have := HFL.out; show files.length * 32 ≤ _; omega) (by have := HFL.out; show files.length ≤ _; unfold maxLen; omega)
  obtain ⟨v2, w4, q1, q2, q3, _⟩ := WR.app1 fC_len (by decide) fC_one (p2.alloc (.cells (fC ([], [])).toArray 95)) (Blk.new w3 95 (fC ([], [])).toArray) (by rw [World.size_alloc]; have := p3.size; rw [World.size_alloc] at this; omega) (P := Tryz.prog) (t := 29) Tryz.underlying29 rfile_info rfl (by have := HFL.out; show (files.length + 1) * 32 ≤ _; omega) (by have := HFL.out; show files.length + 1 ≤ _; unfold maxLen; omega)
  have X4 := Lib.hid (show Ext w2 w4 from Below.trans (((Ext.refl w2).alloc _).trans p3 |>.alloc _) ((p2.alloc _).belowO (by rw [World.size_alloc]; have := p3.size; rw [World.size_alloc] at this; omega) q3))
  obtain ⟨av, cv, ev, _, _⟩ := WR.shape fC_len q2
  have Q2 := Lib.hid (WR.rk fC_len q2 (fun k hk => Nat.lt_of_lt_of_le (HK.out k hk) X.out.size))
  have BSF := fun W => run_bs1f W
  generalize (files ++ [([], [])] : List (List UInt8 × List UInt8)).length = nv at ev
  subst ev
  clear p2 p3 q2 q3
  go_wp2_with (refine wpList_bs (vs := #[]) rfl 29 0 _ rfl rfl (run_bs0f _) ?_; refine Held.go ?_)
  refine ⟨?_⟩
  have c0' : (w2.alloc (.cells #[] 95)).cell? ⟨w.heap.size, 0, none⟩ = some (.slice aF files.length cF) := (BD.out.alloc _).cell 0
  go_wp2_with (at_builtin; refine wpList_app rfl (.tmp 30) (.tmp 32) 29 rfl rfl rfl rfl p1 ?_; refine Held.go ?_)
  refine ⟨?_⟩
  go_wp2_with (refine wpList_bs (vs := #[(0, .agg (fC ([], [])).toArray)]) rfl 29 1 _ rfl rfl (BSF _) ?_; refine Held.go ?_)
  refine ⟨?_⟩
  go_wp2_with (at_builtin; refine wpList_app rfl (.tmp 33) (.tmp 35) 29 rfl rfl rfl rfl q1 ?_; refine Held.go ?_)
  refine ⟨?_⟩
  have BD := Lib.hid (BD.out.ext X4.out)
  have BR := Lib.hid (BR.out.ext X4.out)
  have X := Lib.hid (X.out.trans X4.out)
  clear c0 c0' p1 q1
  have c0 : w4.cell? ⟨w.heap.size, 0, none⟩ = some (.slice aF files.length cF) := BD.out.cell 0
  have f0 := BD.out.frozen 0
  have NSD := dsk_nostr _ _ _ _ (sl_ex aF files.length cF) (sl_ex aD dir.length cD) (sl_ex aS safe.length cS) (sl_ex aC chs.length cC) cap ops armed false
  have BX := (But.refl [w.heap.size] w4).set (p := ⟨w.heap.size, 0, none⟩) (by simp) (.slice av nv cv)
  have bd := Blk.set_ BD.out 0 (.slice av nv cv)
  simp only [List.setIfInBounds_toArray, List.set_cons_succ, List.set_cons_zero] at bd
  have H5 := Lib.hid (show RefD K (w4.setCell ⟨w.heap.size, 0, none⟩ (.slice av nv cv)) ⟨.slice av nv cv, .slice aD dir.length cD, .slice aS safe.length cS, .slice aC chs.length cC⟩ (Dsk.more ⟨files, dir, safe, chs, cap, ops, armed, false⟩) from ⟨Q2.out.butG fC_str BD.out NSD BX, (H.out.dir.ext X.out).butG eC_str BD.out NSD BX, (H.out.safe.ext X.out).butG eC_str BD.out NSD BX, (H.out.chs.ext X.out).butG rC_str BD.out NSD BX⟩)
  have BR := Lib.hid (BR.out.far (p := ⟨w.heap.size, 0, none⟩) (by simp) (.slice av nv cv))
  have X := Lib.hid (X.out.set (p := ⟨w.heap.size, 0, none⟩) (Nat.le_refl _) (.slice av nv cv))
  have BD := Lib.hid bd
  have DS5 := Lib.hid (show (Tryz.prog.info? 33).map (·.size) = some (#[.slice av nv cv, .slice aD dir.length cD, .slice aS safe.length cS, .slice aC chs.length cC, .int .i64 cap, .int .i64 ops, .int .i64 armed, .bool false] : Array Value).size from rdisk_size)
  have QG := Lib.hid (QGG.out _ _ (fun k hk => Nat.lt_of_lt_of_le (HK.out k hk) X.out.size) H5.out)
  simp only [refV, Dsk.more] at QG
  clear bd NSD BX
  go_wp2_with (refine wpList_load_blk rfl 33 (.tmp 2) rfl rfl BD.out Tryz.underlying33 rfl DS5.out ?_; refine Held.go ?_)
  refine ⟨?_⟩
  go_wp2_with fail
  refine (QG.out).mono ?_
  rintro _ w6 ⟨v6, rfl, r6, x6⟩
  obtain ⟨a1, c1, a2, c2, a3, c3, a4, c4, rfl⟩ := r6.open_
  have R6 := Lib.hid r6
  replace BD := Lib.hid (BD.out.ext x6)
  replace BR := Lib.hid (BR.out.ext x6)
  replace X := Lib.hid (X.out.trans x6)
  clear x6
  clear r6
  dsimp only
  have DS6 := Lib.hid (show (Tryz.prog.info? 33).map (·.size) = some (#[.slice a1 d6.files.length c1, .slice a2 d6.dir.length c2, .slice a3 d6.safe.length c3, .slice a4 d6.chs.length c4, .int .i64 d6.cap, .int .i64 d6.ops, .int .i64 d6.armed, .bool d6.dead] : Array Value).size from rdisk_size)
  have DO6 := Lib.hid (disk_all _ _ _ _ (sl_ex a1 d6.files.length c1) (sl_ex a2 d6.dir.length c2) (sl_ex a3 d6.safe.length c3) (sl_ex a4 d6.chs.length c4) d6.cap d6.ops d6.armed d6.dead)
  go_wp2_with (refine wpList_store_blk rfl 33 (.tmp 4) (.tmp 44) rfl rfl rfl BR.out rfl DS6.out DO6.out ?_; refine Held.go ?_)
  refine ⟨?_⟩
  go_wp2
  exact bodyPost_ret (results_row_tmp rfl _ _ (w.heap.size + 1) _ _ (0, 0) _ rfl (BR.out.setRow #[.slice a1 d6.files.length c1, .slice a2 d6.dir.length c2, .slice a3 d6.safe.length c3, .slice a4 d6.chs.length c4, .int .i64 d6.cap, .int .i64 d6.ops, .int .i64 d6.armed, .bool d6.dead]) Tryz.underlying33 rfl DS6.out) rfl ⟨⟨.slice a1 d6.files.length c1, .slice a2 d6.dir.length c2, .slice a3 d6.safe.length c3, .slice a4 d6.chs.length c4⟩, rfl, R6.out.butG BR.out zero_nostr (But.row1 _ _ _), X.out.setRow (by omega) _⟩
end Go.Proofs.YtfipfljiohdlhaaGreat
