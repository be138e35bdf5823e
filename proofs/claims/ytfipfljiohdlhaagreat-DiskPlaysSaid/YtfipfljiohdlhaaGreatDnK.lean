/- The document's disk: Sync, Append, Cut. -/
import Derived.Test.YtfipfljiohdlhaaGreatDnJ
namespace Go.Proofs.YtfipfljiohdlhaaGreat
set_option linter.unusedVariables false
set_option linter.unusedSimpArgs false
open Go.RowKit
attribute [local go_sem] S_size S_toList S_append S_extract S_beq S_bne S_empty S_nil
variable {K : List Nat}
theorem file_at {d : Dsk} {n : Nat} (h : n < d.files.length) : d.files[n]? = some (d.file n) := by
  unfold Dsk.file
  rw [List.getD_eq_getElem?_getD, List.getElem?_eq_getElem h]; rfl

set_option maxRecDepth 20000 in
set_option maxHeartbeats 4000000 in
theorem rsync_last {w : World} {v : V4} {d : Dsk} (hK : ∀ k ∈ K, k < w.heap.size) (h : RefD K w v d) (hd : d.dead = false) (s : List UInt8) (hl : (d.dir.length : Int) ≤ 1000000) {n : Nat} (hg : dGet s d.dir = some n) (hn : n < d.files.length) (hfl : d.files.length ≤ 1000000) (ho : 0 ≤ d.ops ∧ d.ops ≤ 100000000) (ha : 0 ≤ d.armed ∧ d.armed ≤ 9223372036854775807) (h1 : (d.armed == 1) = true) :
    Calls Tryz.prog 23 #[refV v d, .string (S s)] w fun x w' => RRet K w d.cnt 200 x w' := by
  obtain ⟨aF, cF, aD, cD, aS, cS, aC, cC, rfl⟩ := h.open_
  have H := Lib.hid h
  have HK := Lib.hid hK
  clear hK
  have qo := fun W (x : Ext w W) => ropen_any (h.ext x) s hl
  simp only [hd, hg, if_false, Bool.false_eq_true] at qo
  have QO := Lib.hid qo
  clear qo
  have Q1 := Lib.hid (fun W (x : Ext w W) => counted_any (h.ext x) hd ho ha)
  have HN := Lib.hid (show ∀ W, Ext w W → RefD K W ⟨.slice aF d.files.length cF, .slice aD d.dir.length cD, .slice aS d.safe.length cS, .slice aC d.chs.length cC⟩ d.cnt from fun W x => ⟨(h.ext x).fs, (h.ext x).dir, (h.ext x).safe, (h.ext x).chs⟩)
  have CH := Lib.hid (show refV ⟨.slice aF d.files.length cF, .slice aD d.dir.length cD, .slice aS d.safe.length cS, .slice aC d.chs.length cC⟩ d.cnt = .agg #[.slice aF d.files.length cF, .slice aD d.dir.length cD, .slice aS d.safe.length cS, .slice aC d.chs.length cC, .int .i64 d.cap, .int .i64 d.cnt.ops, .int .i64 d.cnt.armed, .bool true] from by rw [← h1]; rfl)
  have EO := Lib.hid (show ∃ o1 a1, o1 = d.cnt.ops ∧ a1 = d.cnt.armed from ⟨_, _, rfl, rfl⟩)
  obtain ⟨o1, a1, ho1, ha1⟩ := EO.out
  rw [CH.out, h1] at Q1
  rw [← ho1, ← ha1] at Q1 CH
  clear ho ha h1 EO ho1 ha1 hn hfl hl
  clear h
  obtain ⟨files, dir, safe, chs, cap, ops, armed, dead⟩ := d
  dsimp only at hd
  subst hd
  dsimp only at *
  have X := Lib.hid (((Ext.refl w).alloc (.cells #[.slice aF files.length cF, .slice aD dir.length cD, .slice aS safe.length cS, .slice aC chs.length cC, .int .i64 cap, .int .i64 ops, .int .i64 armed, .bool false] 33)).alloc (.cells #[.slice none 0 0, .slice none 0 0, .slice none 0 0, .slice none 0 0, .int .i64 0, .int .i64 0, .int .i64 0, .bool false] 33))
  have BD := Lib.hid ((Blk.new w 33 #[.slice aF files.length cF, .slice aD dir.length cD, .slice aS safe.length cS, .slice aC chs.length cC, .int .i64 cap, .int .i64 ops, .int .i64 armed, .bool false]).alloc (.cells #[.slice none 0 0, .slice none 0 0, .slice none 0 0, .slice none 0 0, .int .i64 0, .int .i64 0, .int .i64 0, .bool false] 33))
  have br := Blk.new (w.alloc (.cells #[.slice aF files.length cF, .slice aD dir.length cD, .slice aS safe.length cS, .slice aC chs.length cC, .int .i64 cap, .int .i64 ops, .int .i64 armed, .bool false] 33)) 33 #[.slice none 0 0, .slice none 0 0, .slice none 0 0, .slice none 0 0, .int .i64 0, .int .i64 0, .int .i64 0, .bool false]
  simp only [World.size_alloc] at br
  have BR := Lib.hid br
  clear br
  have DS := Lib.hid (show (Tryz.prog.info? 33).map (·.size) = some (#[.slice aF files.length cF, .slice aD dir.length cD, .slice aS safe.length cS, .slice aC chs.length cC, .int .i64 cap, .int .i64 ops, .int .i64 armed, .bool false] : Array Value).size from rdisk_size)
  have DO := Lib.hid (disk_all _ _ _ _ (sl_ex aF files.length cF) (sl_ex aD dir.length cD) (sl_ex aS safe.length cS) (sl_ex aC chs.length cC) cap ops armed false)
  unfold RRet
  simp only [refV] at *
  go_enter Tryz.func23, Tryz.ntmps23
  go_wp2_with fail
  refine (QO.out _ X.out).mono ?_
  rintro _ w1 ⟨rfl, x1⟩
  replace BD := Lib.hid (BD.out.ext x1)
  replace BR := Lib.hid (BR.out.ext x1)
  replace X := Lib.hid (X.out.trans x1)
  clear x1
  go_wp2_with (refine wpList_load_blk rfl 33 (.tmp 2) rfl rfl BD.out Tryz.underlying33 rfl DS.out ?_; refine Held.go ?_)
  refine ⟨?_⟩
  go_wp2_with fail
  refine (Q1.out _ X.out).mono ?_
  rintro _ w1 ⟨rfl, x1⟩
  replace BD := Lib.hid (BD.out.ext x1)
  replace BR := Lib.hid (BR.out.ext x1)
  replace X := Lib.hid (X.out.trans x1)
  clear x1
  have DSc := Lib.hid (show (Tryz.prog.info? 33).map (·.size) = some (#[.slice aF files.length cF, .slice aD dir.length cD, .slice aS safe.length cS, .slice aC chs.length cC, .int .i64 cap, .int .i64 o1, .int .i64 a1, .bool true] : Array Value).size from rdisk_size)
  have DOc := Lib.hid (disk_all _ _ _ _ (sl_ex aF files.length cF) (sl_ex aD dir.length cD) (sl_ex aS safe.length cS) (sl_ex aC chs.length cC) cap o1 a1 true)
  go_wp2_with (refine wpList_store_blk rfl 33 (.tmp 2) (.tmp 22) rfl rfl rfl BD.out rfl DSc.out DOc.out ?_; refine Held.go ?_)
  refine ⟨?_⟩
  replace BD := Lib.hid (BD.out.setRow #[.slice aF files.length cF, .slice aD dir.length cD, .slice aS safe.length cS, .slice aC chs.length cC, .int .i64 cap, .int .i64 o1, .int .i64 a1, .bool true])
  replace BR := Lib.hid (BR.out.setRow_far (k := w.heap.size) (by omega) #[.slice aF files.length cF, .slice aD dir.length cD, .slice aS safe.length cS, .slice aC chs.length cC, .int .i64 cap, .int .i64 o1, .int .i64 a1, .bool true])
  replace X := Lib.hid (X.out.setRow (Nat.le_refl _) #[.slice aF files.length cF, .slice aD dir.length cD, .slice aS safe.length cS, .slice aC chs.length cC, .int .i64 cap, .int .i64 o1, .int .i64 a1, .bool true])
  generalize w1.setRow w.heap.size #[.slice aF files.length cF, .slice aD dir.length cD, .slice aS safe.length cS, .slice aC chs.length cC, .int .i64 cap, .int .i64 o1, .int .i64 a1, .bool true] = w2 at *
  go_wp2_with (refine wpList_load_blk rfl 33 (.tmp 2) rfl rfl BD.out Tryz.underlying33 rfl DSc.out ?_; refine Held.go ?_)
  refine ⟨?_⟩
  go_wp2_with (refine wpList_store_blk rfl 33 (.tmp 4) (.tmp 25) rfl rfl rfl BR.out rfl DSc.out DOc.out ?_; refine Held.go ?_)
  refine ⟨?_⟩
  go_wp2
  exact bodyPost_ret (results_row_tmp rfl _ _ (w.heap.size + 1) _ _ (0, 0) _ rfl (BR.out.setRow #[.slice aF files.length cF, .slice aD dir.length cD, .slice aS safe.length cS, .slice aC chs.length cC, .int .i64 cap, .int .i64 o1, .int .i64 a1, .bool true]) Tryz.underlying33 rfl DSc.out) rfl ⟨⟨.slice aF files.length cF, .slice aD dir.length cD, .slice aS safe.length cS, .slice aC chs.length cC⟩, by rw [CH.out]; rfl, HN.out _ (X.out.setRow (by omega) _), X.out.setRow (by omega) _⟩
set_option maxRecDepth 20000 in
set_option maxHeartbeats 4000000 in
theorem rsync_done {w : World} {v : V4} {d : Dsk} (hK : ∀ k ∈ K, k < w.heap.size) (h : RefD K w v d) (hd : d.dead = false) (s : List UInt8) (hl : (d.dir.length : Int) ≤ 1000000) {n : Nat} (hg : dGet s d.dir = some n) (hn : n < d.files.length) (hfl : d.files.length ≤ 1000000) (ho : 0 ≤ d.ops ∧ d.ops ≤ 100000000) (ha : 0 ≤ d.armed ∧ d.armed ≤ 9223372036854775807) (h1 : (d.armed == 1) = false) :
    Calls Tryz.prog 23 #[refV v d, .string (S s)] w fun x w' => RRet K w (d.cnt.put n ((d.file n).2, (d.file n).2)) 0 x w' := by
  obtain ⟨aF, cF, aD, cD, aS, cS, aC, cC, rfl⟩ := h.open_
  have H := Lib.hid h
  have HK := Lib.hid hK
  clear hK
  obtain ⟨d6, hd6⟩ : ∃ d6, d6 = d.cnt.put n ((d.file n).2, (d.file n).2) := ⟨_, rfl⟩
  rw [← hd6]
  have qo := fun W (x : Ext w W) => ropen_any (h.ext x) s hl
  simp only [hd, hg, if_false, Bool.false_eq_true] at qo
  have QO := Lib.hid qo
  clear qo
  have Q1 := Lib.hid (fun W (x : Ext w W) => counted_any (h.ext x) hd ho ha)
  have HN := Lib.hid (show ∀ W, Ext w W → RefD K W ⟨.slice aF d.files.length cF, .slice aD d.dir.length cD, .slice aS d.safe.length cS, .slice aC d.chs.length cC⟩ d.cnt from fun W x => ⟨(h.ext x).fs, (h.ext x).dir, (h.ext x).safe, (h.ext x).chs⟩)
  have CH := Lib.hid (show refV ⟨.slice aF d.files.length cF, .slice aD d.dir.length cD, .slice aS d.safe.length cS, .slice aC d.chs.length cC⟩ d.cnt = .agg #[.slice aF d.files.length cF, .slice aD d.dir.length cD, .slice aS d.safe.length cS, .slice aC d.chs.length cC, .int .i64 d.cap, .int .i64 d.cnt.ops, .int .i64 d.cnt.armed, .bool false] from by rw [← h1]; rfl)
  have EO := Lib.hid (show ∃ o1 a1, o1 = d.cnt.ops ∧ a1 = d.cnt.armed from ⟨_, _, rfl, rfl⟩)
  obtain ⟨o1, a1, ho1, ha1⟩ := EO.out
  have QP := Lib.hid (fun W (x : Ext w W) => rput_any (fun k hk => Nat.lt_of_lt_of_le (HK.out k hk) x.size) (HN.out W x) n hn hfl ((d.file n).2, (d.file n).2))
  have QS := Lib.hid (show ∀ W, Calls Tryz.prog 67 #[.agg (fC (d.file n)).toArray] W (fun e w' => e = .returned (.agg #[.string (S (d.file n).2), .string (S (d.file n).2)]) ∧ Ext W w') from fun W => rsync_any (d.file n).1 (d.file n).2 W)
  rw [CH.out, h1] at Q1
  rw [CH.out, ← hd6] at QP
  rw [← ho1, ← ha1] at Q1 CH QP
  have HFL := Lib.hid (show 0 < d.files.length ∧ (n : Int) < (d.files.length : Int) from ⟨by omega, by omega⟩)
  have HFA := Lib.hid (file_at hn)
  clear ho ha h1 EO ho1 ha1 hn hfl hl hd6
  generalize d.file n = f at *
  obtain ⟨f1, f2⟩ := f
  clear h
  obtain ⟨files, dir, safe, chs, cap, ops, armed, dead⟩ := d
  dsimp only at hd
  subst hd
  dsimp only at *
  have X := Lib.hid (((Ext.refl w).alloc (.cells #[.slice aF files.length cF, .slice aD dir.length cD, .slice aS safe.length cS, .slice aC chs.length cC, .int .i64 cap, .int .i64 ops, .int .i64 armed, .bool false] 33)).alloc (.cells #[.slice none 0 0, .slice none 0 0, .slice none 0 0, .slice none 0 0, .int .i64 0, .int .i64 0, .int .i64 0, .bool false] 33))
  have BD := Lib.hid ((Blk.new w 33 #[.slice aF files.length cF, .slice aD dir.length cD, .slice aS safe.length cS, .slice aC chs.length cC, .int .i64 cap, .int .i64 ops, .int .i64 armed, .bool false]).alloc (.cells #[.slice none 0 0, .slice none 0 0, .slice none 0 0, .slice none 0 0, .int .i64 0, .int .i64 0, .int .i64 0, .bool false] 33))
  have br := Blk.new (w.alloc (.cells #[.slice aF files.length cF, .slice aD dir.length cD, .slice aS safe.length cS, .slice aC chs.length cC, .int .i64 cap, .int .i64 ops, .int .i64 armed, .bool false] 33)) 33 #[.slice none 0 0, .slice none 0 0, .slice none 0 0, .slice none 0 0, .int .i64 0, .int .i64 0, .int .i64 0, .bool false]
  simp only [World.size_alloc] at br
  have BR := Lib.hid br
  clear br
  have DS := Lib.hid (show (Tryz.prog.info? 33).map (·.size) = some (#[.slice aF files.length cF, .slice aD dir.length cD, .slice aS safe.length cS, .slice aC chs.length cC, .int .i64 cap, .int .i64 ops, .int .i64 armed, .bool false] : Array Value).size from rdisk_size)
  have DO := Lib.hid (disk_all _ _ _ _ (sl_ex aF files.length cF) (sl_ex aD dir.length cD) (sl_ex aS safe.length cS) (sl_ex aC chs.length cC) cap ops armed false)
  unfold RRet
  simp only [refV] at *
  go_enter Tryz.func23, Tryz.ntmps23
  go_wp2_with fail
  refine (QO.out _ X.out).mono ?_
  rintro _ w1 ⟨rfl, x1⟩
  replace BD := Lib.hid (BD.out.ext x1)
  replace BR := Lib.hid (BR.out.ext x1)
  replace X := Lib.hid (X.out.trans x1)
  clear x1
  go_wp2_with (refine wpList_load_blk rfl 33 (.tmp 2) rfl rfl BD.out Tryz.underlying33 rfl DS.out ?_; refine Held.go ?_)
  refine ⟨?_⟩
  go_wp2_with fail
  refine (Q1.out _ X.out).mono ?_
  rintro _ w1 ⟨rfl, x1⟩
  replace BD := Lib.hid (BD.out.ext x1)
  replace BR := Lib.hid (BR.out.ext x1)
  replace X := Lib.hid (X.out.trans x1)
  clear x1
  have DSc := Lib.hid (show (Tryz.prog.info? 33).map (·.size) = some (#[.slice aF files.length cF, .slice aD dir.length cD, .slice aS safe.length cS, .slice aC chs.length cC, .int .i64 cap, .int .i64 o1, .int .i64 a1, .bool false] : Array Value).size from rdisk_size)
  have DOc := Lib.hid (disk_all _ _ _ _ (sl_ex aF files.length cF) (sl_ex aD dir.length cD) (sl_ex aS safe.length cS) (sl_ex aC chs.length cC) cap o1 a1 false)
  go_wp2_with (refine wpList_store_blk rfl 33 (.tmp 2) (.tmp 22) rfl rfl rfl BD.out rfl DSc.out DOc.out ?_; refine Held.go ?_)
  refine ⟨?_⟩
  replace BD := Lib.hid (BD.out.setRow #[.slice aF files.length cF, .slice aD dir.length cD, .slice aS safe.length cS, .slice aC chs.length cC, .int .i64 cap, .int .i64 o1, .int .i64 a1, .bool false])
  replace BR := Lib.hid (BR.out.setRow_far (k := w.heap.size) (by omega) #[.slice aF files.length cF, .slice aD dir.length cD, .slice aS safe.length cS, .slice aC chs.length cC, .int .i64 cap, .int .i64 o1, .int .i64 a1, .bool false])
  replace X := Lib.hid (X.out.setRow (Nat.le_refl _) #[.slice aF files.length cF, .slice aD dir.length cD, .slice aS safe.length cS, .slice aC chs.length cC, .int .i64 cap, .int .i64 o1, .int .i64 a1, .bool false])
  generalize w1.setRow w.heap.size #[.slice aF files.length cF, .slice aD dir.length cD, .slice aS safe.length cS, .slice aC chs.length cC, .int .i64 cap, .int .i64 o1, .int .i64 a1, .bool false] = w2 at *
  have HF2 := Lib.hid (H.out.fs.ext X.out.drew)
  obtain ⟨_, _, ef, _, _, hfs⟩ := HF2.out.1
  injection ef with e1 e2 e3
  subst e1
  subst e3
  obtain ⟨g, o, rfl, hfx⟩ := hfs HFL.out.1
  have RA := Lib.hid (hfx n _ HFA.out)
  clear hfs hfx
  have c0 : w2.drew.cell? ⟨w.heap.size, 0, none⟩ = some (.slice (some ⟨g, o, none⟩) files.length cF) := (BD.out.drew).cell 0
  have c0 := up_cell c0
  have hni := HFL.out.2
  go_wp2_with fail
  refine wp_region_lex _ rfl (by kernel_rfl) ?_
  dsimp only [List.length_cons, List.length_nil]
  refine lex_load_blk (by kernel_rfl) (by kernel_rfl) (by kernel_rfl) (by kernel_rfl) (fun _ _ _ _ h => h) (by kernel_rfl) 33 (.tmp 2) rfl rfl BD.out.drew Tryz.underlying33 rfl DSc.out ?_
  iterate 5
    (refine lex_want (by kernel_rfl) (by kernel_rfl) (by kernel_rfl) (by kernel_rfl) (fun _ _ _ _ h => h) (by kernel_rfl) (fun K hK => ?_)
     go_simp
     (refine hK _ ?_; clear hK K))
  refine lex_load_range (by kernel_rfl) (by kernel_rfl) (by kernel_rfl) (by kernel_rfl) (fun _ _ _ _ h => h) (by kernel_rfl) 95 (.tmp 31) rfl rfl RA.out Tryz.underlying95 rfl rfile_size ?_
  (refine lex_want (by kernel_rfl) (by kernel_rfl) (by kernel_rfl) (by kernel_rfl) (fun _ _ _ _ h => h) (by kernel_rfl) (fun K hK => ?_)
   go_simp
   apply Exists.intro
   refine ⟨fun _ => ?_, hK _ ?_⟩
   (go_at_call 67; (with_reducible exact QS.out _))
   clear hK K)
  refine lex_only (by kernel_rfl) (by kernel_rfl) (fun x K hK => ?_)
  go_simp
  refine (QP.out _ (X.out.drew.trans x.ext)).mono ?_
  rintro _ w6 ⟨v6, rfl, r6, x6⟩
  refine hK.out _ _ x6 ?_
  obtain ⟨a1x, c1x, a2, c2, a3, c3, a4, c4, rfl⟩ := r6.open_
  have y6 := Ext.trans (Ext.trans (Ext.refl w2).drew x.ext) x6
  have R6 := Lib.hid r6
  replace BR := Lib.hid (BR.out.ext y6)
  replace X := Lib.hid (X.out.trans y6)
  clear hK K x6 r6 y6
  dsimp only
  have DS6 := Lib.hid (show (Tryz.prog.info? 33).map (·.size) = some (#[.slice a1x d6.files.length c1x, .slice a2 d6.dir.length c2, .slice a3 d6.safe.length c3, .slice a4 d6.chs.length c4, .int .i64 d6.cap, .int .i64 d6.ops, .int .i64 d6.armed, .bool d6.dead] : Array Value).size from rdisk_size)
  have DO6 := Lib.hid (disk_all _ _ _ _ (sl_ex a1x d6.files.length c1x) (sl_ex a2 d6.dir.length c2) (sl_ex a3 d6.safe.length c3) (sl_ex a4 d6.chs.length c4) d6.cap d6.ops d6.armed d6.dead)
  refine lex_tail (by kernel_rfl) (by kernel_rfl) (by kernel_rfl) (by kernel_rfl) (fun x K hK => ?_)
  refine wp_store_blk 33 (.tmp 4) (.tmp 34) rfl rfl rfl (BR.out.ext x.ext) rfl DS6.out DO6.out (hK _ _ ?_)
  clear hK K
  (refine lex_want (by kernel_rfl) (by kernel_rfl) (by kernel_rfl) (by kernel_rfl) (fun _ _ _ _ h => h) (by kernel_rfl) (fun K hK => ?_)
   go_simp
   (refine hK _ ?_; clear hK K))
  refine lex_done (by kernel_rfl) (fun y => ?_)
  go_wp2
  have XF := ((X.out.trans x.ext).setRow (g := w.heap.size + 1) (by omega) #[.slice a1x d6.files.length c1x, .slice a2 d6.dir.length c2, .slice a3 d6.safe.length c3, .slice a4 d6.chs.length c4, .int .i64 d6.cap, .int .i64 d6.ops, .int .i64 d6.armed, .bool d6.dead]).trans y.ext
  exact bodyPost_ret (results_row_tmp rfl _ _ (w.heap.size + 1) _ _ (0, 0) _ rfl (((BR.out.ext x.ext).setRow #[.slice a1x d6.files.length c1x, .slice a2 d6.dir.length c2, .slice a3 d6.safe.length c3, .slice a4 d6.chs.length c4, .int .i64 d6.cap, .int .i64 d6.ops, .int .i64 d6.armed, .bool d6.dead]).ext y.ext) Tryz.underlying33 rfl DS6.out) rfl ⟨⟨.slice a1x d6.files.length c1x, .slice a2 d6.dir.length c2, .slice a3 d6.safe.length c3, .slice a4 d6.chs.length c4⟩, rfl, ((R6.out.ext x.ext).butG (BR.out.ext x.ext) zero_nostr (But.row1 _ _ _)).ext y.ext, XF⟩
set_option maxRecDepth 20000 in
set_option maxHeartbeats 4000000 in
theorem rappend_bad {w : World} {v : V4} {d : Dsk} (hK : ∀ k ∈ K, k < w.heap.size) (h : RefD K w v d) (hd : d.dead = false) (s : List UInt8) (t : List UInt8) (ht : (t.length : Int) ≤ 1000000000) (hl : (d.dir.length : Int) ≤ 1000000) {n : Nat} (hg : dGet s d.dir = some n) (hn : n < d.files.length) (hfl : d.files.length ≤ 1000000) (hb : ∀ n, (d.file n).1.length ≤ 1000000 ∧ (d.file n).2.length ≤ 1000000) {E : Int} (he : (fappend (d.file n) t).2 = E) (he0 : E ≠ 0) :
    Calls Tryz.prog 22 #[refV v d, .string (S s), .string (S t)] w fun x w' => RRet K w d E x w' := by
  obtain ⟨aF, cF, aD, cD, aS, cS, aC, cC, rfl⟩ := h.open_
  have H := Lib.hid h
  have HK := Lib.hid hK
  clear hK
  have qo := fun W (x : Ext w W) => ropen_any (h.ext x) s hl
  simp only [hd, hg, if_false, Bool.false_eq_true] at qo
  have QO := Lib.hid qo
  clear qo
  obtain ⟨⟨⟨fa, fb⟩, er⟩, hfa⟩ : ∃ r, r = fappend (d.file n) t := ⟨_, rfl⟩
  have QA := Lib.hid (fun W => rappend_any (d.file n).1 (d.file n).2 t W (by have := (hb n).2; omega) ht)
  rw [show fappend ((d.file n).1, (d.file n).2) t = ((fa, fb), er) from hfa.symm] at QA
  simp only [okV] at QA
  rw [← hfa] at he
  dsimp only at he
  subst he
  have hne : (er == 0) = false := by simpa using he0
  have HFL := Lib.hid (show 0 < d.files.length ∧ (n : Int) < (d.files.length : Int) from ⟨by omega, by omega⟩)
  have HFA := Lib.hid (file_at hn)
  clear hfa hn hfl hl hb
  generalize d.file n = f at *
  obtain ⟨f1, f2⟩ := f

  clear h
  obtain ⟨files, dir, safe, chs, cap, ops, armed, dead⟩ := d
  dsimp only at hd
  subst hd
  dsimp only at *
  have X := Lib.hid (((Ext.refl w).alloc (.cells #[.slice aF files.length cF, .slice aD dir.length cD, .slice aS safe.length cS, .slice aC chs.length cC, .int .i64 cap, .int .i64 ops, .int .i64 armed, .bool false] 33)).alloc (.cells #[.slice none 0 0, .slice none 0 0, .slice none 0 0, .slice none 0 0, .int .i64 0, .int .i64 0, .int .i64 0, .bool false] 33))
  have BD := Lib.hid ((Blk.new w 33 #[.slice aF files.length cF, .slice aD dir.length cD, .slice aS safe.length cS, .slice aC chs.length cC, .int .i64 cap, .int .i64 ops, .int .i64 armed, .bool false]).alloc (.cells #[.slice none 0 0, .slice none 0 0, .slice none 0 0, .slice none 0 0, .int .i64 0, .int .i64 0, .int .i64 0, .bool false] 33))
  have br := Blk.new (w.alloc (.cells #[.slice aF files.length cF, .slice aD dir.length cD, .slice aS safe.length cS, .slice aC chs.length cC, .int .i64 cap, .int .i64 ops, .int .i64 armed, .bool false] 33)) 33 #[.slice none 0 0, .slice none 0 0, .slice none 0 0, .slice none 0 0, .int .i64 0, .int .i64 0, .int .i64 0, .bool false]
  simp only [World.size_alloc] at br
  have BR := Lib.hid br
  clear br
  have DS := Lib.hid (show (Tryz.prog.info? 33).map (·.size) = some (#[.slice aF files.length cF, .slice aD dir.length cD, .slice aS safe.length cS, .slice aC chs.length cC, .int .i64 cap, .int .i64 ops, .int .i64 armed, .bool false] : Array Value).size from rdisk_size)
  have DO := Lib.hid (disk_all _ _ _ _ (sl_ex aF files.length cF) (sl_ex aD dir.length cD) (sl_ex aS safe.length cS) (sl_ex aC chs.length cC) cap ops armed false)
  unfold RRet
  simp only [refV] at *
  go_enter Tryz.func22, Tryz.ntmps22
  go_wp2_with fail
  refine (QO.out _ X.out).mono ?_
  rintro _ w1 ⟨rfl, x1⟩
  replace BD := Lib.hid (BD.out.ext x1)
  replace BR := Lib.hid (BR.out.ext x1)
  replace X := Lib.hid (X.out.trans x1)
  clear x1
  have HF2 := Lib.hid (H.out.fs.ext X.out)
  obtain ⟨_, _, ef, _, _, hfs⟩ := HF2.out.1
  injection ef with e1 e2 e3
  subst e1
  subst e3
  obtain ⟨g, o, haF, hfx⟩ := hfs HFL.out.1
  have RA := Lib.hid (hfx n _ HFA.out)
  clear hfs hfx
  have c0 : w1.cell? ⟨w.heap.size, 0, none⟩ = some (.slice aF files.length cF) := BD.out.cell 0
  rw [haF] at c0
  clear haF
  have hni := HFL.out.2
  have ZA := Lib.hid (show (Tryz.prog.info? 95).map (·.size) = some (fC (f1, f2)).length from rfile_size)
  go_wp2_with (refine wpList_load_mid rfl 95 (.tmp 26) rfl g _ rfl _ _ RA.out Tryz.underlying95 rfl ZA.out ?_; refine Held.go ?_)
  refine ⟨?_⟩
  go_wp2_with fail
  refine (QA.out _).mono ?_
  rintro _ w3 ⟨rfl, x3⟩
  replace BD := Lib.hid (BD.out.ext x3)
  replace BR := Lib.hid (BR.out.ext x3)
  replace X := Lib.hid (X.out.trans x3)
  clear x3
  clear c0
  have hfw := Lib.hid BD.out.lt
  have XA := (Ext.refl w3).alloc (.cells #[.string (S fa), .string (S fb)] 95)
  replace BD := Lib.hid (BD.out.ext XA)
  replace BR := Lib.hid (BR.out.ext XA)
  replace X := Lib.hid (X.out.trans XA)
  clear XA
  go_wp2_with (refine wpList_load_blk rfl 33 (.tmp 3) rfl rfl BD.out Tryz.underlying33 rfl DS.out ?_; refine Held.go ?_)
  refine ⟨?_⟩
  go_wp2_with (refine wpList_store_blk rfl 33 (.tmp 6) (.tmp 34) rfl rfl rfl BR.out rfl DS.out DO.out ?_; refine Held.go ?_)
  refine ⟨?_⟩
  go_wp2
  exact bodyPost_ret (results_row_tmp rfl _ _ (w.heap.size + 1) _ _ (0, 0) _ rfl (BR.out.setRow #[.slice aF files.length cF, .slice aD dir.length cD, .slice aS safe.length cS, .slice aC chs.length cC, .int .i64 cap, .int .i64 ops, .int .i64 armed, .bool false]) Tryz.underlying33 rfl DS.out) rfl ⟨⟨.slice aF files.length cF, .slice aD dir.length cD, .slice aS safe.length cS, .slice aC chs.length cC⟩, rfl, H.out.ext (X.out.setRow (by omega) _), X.out.setRow (by omega) _⟩
set_option maxRecDepth 20000 in
set_option maxHeartbeats 4000000 in
theorem rcut_bad {w : World} {v : V4} {d : Dsk} (hK : ∀ k ∈ K, k < w.heap.size) (h : RefD K w v d) (hd : d.dead = false) (s : List UInt8) (t : Int) (hl : (d.dir.length : Int) ≤ 1000000) {n : Nat} (hg : dGet s d.dir = some n) (hn : n < d.files.length) (hfl : d.files.length ≤ 1000000) (hb : ∀ n, (d.file n).1.length ≤ 1000000 ∧ (d.file n).2.length ≤ 1000000) {E : Int} (he : (fcut (d.file n) t).2 = E) (he0 : E ≠ 0) :
    Calls Tryz.prog 24 #[refV v d, .string (S s), .int .i64 t] w fun x w' => RRet K w d E x w' := by
  obtain ⟨aF, cF, aD, cD, aS, cS, aC, cC, rfl⟩ := h.open_
  have H := Lib.hid h
  have HK := Lib.hid hK
  clear hK
  have qo := fun W (x : Ext w W) => ropen_any (h.ext x) s hl
  simp only [hd, hg, if_false, Bool.false_eq_true] at qo
  have QO := Lib.hid qo
  clear qo
  obtain ⟨⟨⟨fa, fb⟩, er⟩, hfa⟩ : ∃ r, r = fcut (d.file n) t := ⟨_, rfl⟩
  have QA := Lib.hid (fun W => rcut_any (d.file n).1 (d.file n).2 t W (by have := (hb n).2; omega))
  rw [show fcut ((d.file n).1, (d.file n).2) t = ((fa, fb), er) from hfa.symm] at QA
  simp only [okV] at QA
  rw [← hfa] at he
  dsimp only at he
  subst he
  have hne : (er == 0) = false := by simpa using he0
  have HFL := Lib.hid (show 0 < d.files.length ∧ (n : Int) < (d.files.length : Int) from ⟨by omega, by omega⟩)
  have HFA := Lib.hid (file_at hn)
  clear hfa hn hfl hl hb
  generalize d.file n = f at *
  obtain ⟨f1, f2⟩ := f

  clear h
  obtain ⟨files, dir, safe, chs, cap, ops, armed, dead⟩ := d
  dsimp only at hd
  subst hd
  dsimp only at *
  have X := Lib.hid (((Ext.refl w).alloc (.cells #[.slice aF files.length cF, .slice aD dir.length cD, .slice aS safe.length cS, .slice aC chs.length cC, .int .i64 cap, .int .i64 ops, .int .i64 armed, .bool false] 33)).alloc (.cells #[.slice none 0 0, .slice none 0 0, .slice none 0 0, .slice none 0 0, .int .i64 0, .int .i64 0, .int .i64 0, .bool false] 33))
  have BD := Lib.hid ((Blk.new w 33 #[.slice aF files.length cF, .slice aD dir.length cD, .slice aS safe.length cS, .slice aC chs.length cC, .int .i64 cap, .int .i64 ops, .int .i64 armed, .bool false]).alloc (.cells #[.slice none 0 0, .slice none 0 0, .slice none 0 0, .slice none 0 0, .int .i64 0, .int .i64 0, .int .i64 0, .bool false] 33))
  have br := Blk.new (w.alloc (.cells #[.slice aF files.length cF, .slice aD dir.length cD, .slice aS safe.length cS, .slice aC chs.length cC, .int .i64 cap, .int .i64 ops, .int .i64 armed, .bool false] 33)) 33 #[.slice none 0 0, .slice none 0 0, .slice none 0 0, .slice none 0 0, .int .i64 0, .int .i64 0, .int .i64 0, .bool false]
  simp only [World.size_alloc] at br
  have BR := Lib.hid br
  clear br
  have DS := Lib.hid (show (Tryz.prog.info? 33).map (·.size) = some (#[.slice aF files.length cF, .slice aD dir.length cD, .slice aS safe.length cS, .slice aC chs.length cC, .int .i64 cap, .int .i64 ops, .int .i64 armed, .bool false] : Array Value).size from rdisk_size)
  have DO := Lib.hid (disk_all _ _ _ _ (sl_ex aF files.length cF) (sl_ex aD dir.length cD) (sl_ex aS safe.length cS) (sl_ex aC chs.length cC) cap ops armed false)
  unfold RRet
  simp only [refV] at *
  go_enter Tryz.func24, Tryz.ntmps24
  go_wp2_with fail
  refine (QO.out _ X.out).mono ?_
  rintro _ w1 ⟨rfl, x1⟩
  replace BD := Lib.hid (BD.out.ext x1)
  replace BR := Lib.hid (BR.out.ext x1)
  replace X := Lib.hid (X.out.trans x1)
  clear x1
  have HF2 := Lib.hid (H.out.fs.ext X.out)
  obtain ⟨_, _, ef, _, _, hfs⟩ := HF2.out.1
  injection ef with e1 e2 e3
  subst e1
  subst e3
  obtain ⟨g, o, haF, hfx⟩ := hfs HFL.out.1
  have RA := Lib.hid (hfx n _ HFA.out)
  clear hfs hfx
  have c0 : w1.cell? ⟨w.heap.size, 0, none⟩ = some (.slice aF files.length cF) := BD.out.cell 0
  rw [haF] at c0
  clear haF
  have hni := HFL.out.2
  have ZA := Lib.hid (show (Tryz.prog.info? 95).map (·.size) = some (fC (f1, f2)).length from rfile_size)
  go_wp2_with (refine wpList_load_mid rfl 95 (.tmp 26) rfl g _ rfl _ _ RA.out Tryz.underlying95 rfl ZA.out ?_; refine Held.go ?_)
  refine ⟨?_⟩
  go_wp2_with fail
  refine (QA.out _).mono ?_
  rintro _ w3 ⟨rfl, x3⟩
  replace BD := Lib.hid (BD.out.ext x3)
  replace BR := Lib.hid (BR.out.ext x3)
  replace X := Lib.hid (X.out.trans x3)
  clear x3
  clear c0
  have hfw := Lib.hid BD.out.lt
  have XA := (Ext.refl w3).alloc (.cells #[.string (S fa), .string (S fb)] 95)
  replace BD := Lib.hid (BD.out.ext XA)
  replace BR := Lib.hid (BR.out.ext XA)
  replace X := Lib.hid (X.out.trans XA)
  clear XA
  go_wp2_with (refine wpList_load_blk rfl 33 (.tmp 3) rfl rfl BD.out Tryz.underlying33 rfl DS.out ?_; refine Held.go ?_)
  refine ⟨?_⟩
  go_wp2_with (refine wpList_store_blk rfl 33 (.tmp 6) (.tmp 34) rfl rfl rfl BR.out rfl DS.out DO.out ?_; refine Held.go ?_)
  refine ⟨?_⟩
  go_wp2
  exact bodyPost_ret (results_row_tmp rfl _ _ (w.heap.size + 1) _ _ (0, 0) _ rfl (BR.out.setRow #[.slice aF files.length cF, .slice aD dir.length cD, .slice aS safe.length cS, .slice aC chs.length cC, .int .i64 cap, .int .i64 ops, .int .i64 armed, .bool false]) Tryz.underlying33 rfl DS.out) rfl ⟨⟨.slice aF files.length cF, .slice aD dir.length cD, .slice aS safe.length cS, .slice aC chs.length cC⟩, rfl, H.out.ext (X.out.setRow (by omega) _), X.out.setRow (by omega) _⟩
set_option maxRecDepth 20000 in
set_option maxHeartbeats 4000000 in
theorem rcut_good {w : World} {v : V4} {d : Dsk} (hK : ∀ k ∈ K, k < w.heap.size) (h : RefD K w v d) (hd : d.dead = false) (s : List UInt8) (t : Int) (hl : (d.dir.length : Int) ≤ 1000000) {n : Nat} (hg : dGet s d.dir = some n) (hn : n < d.files.length) (hfl : d.files.length ≤ 1000000) (hb : ∀ n, (d.file n).1.length ≤ 1000000 ∧ (d.file n).2.length ≤ 1000000) (he : (fcut (d.file n) t).2 = 0) (ho : 0 ≤ d.ops ∧ d.ops ≤ 100000000) (ha : 0 ≤ d.armed ∧ d.armed ≤ 9223372036854775807) :
    Calls Tryz.prog 24 #[refV v d, .string (S s), .int .i64 t] w fun x w' => RRet K w (d.cnt.put n (fcut (d.file n) t).1) d.tld x w' := by
  obtain ⟨aF, cF, aD, cD, aS, cS, aC, cC, rfl⟩ := h.open_
  have H := Lib.hid h
  have HK := Lib.hid hK
  clear hK
  obtain ⟨d6, hd6⟩ : ∃ d6, d6 = d.cnt.put n (fcut (d.file n) t).1 := ⟨_, rfl⟩
  rw [← hd6]
  have qo := fun W (x : Ext w W) => ropen_any (h.ext x) s hl
  simp only [hd, hg, if_false, Bool.false_eq_true] at qo
  have QO := Lib.hid qo
  clear qo
  obtain ⟨⟨⟨fa, fb⟩, er⟩, hfa⟩ : ∃ r, r = fcut (d.file n) t := ⟨_, rfl⟩
  have QA := Lib.hid (fun W => rcut_any (d.file n).1 (d.file n).2 t W (by have := (hb n).2; omega))
  rw [show fcut ((d.file n).1, (d.file n).2) t = ((fa, fb), er) from hfa.symm] at QA
  simp only [okV] at QA
  rw [← hfa] at he
  dsimp only at he
  rw [← hfa] at hd6
  subst he
  have Q1 := Lib.hid (fun W (x : Ext w W) => counted_any (h.ext x) hd ho ha)
  have HN := Lib.hid (show ∀ W, Ext w W → RefD K W ⟨.slice aF d.files.length cF, .slice aD d.dir.length cD, .slice aS d.safe.length cS, .slice aC d.chs.length cC⟩ d.cnt from fun W x => ⟨(h.ext x).fs, (h.ext x).dir, (h.ext x).safe, (h.ext x).chs⟩)
  have CH := Lib.hid (show refV ⟨.slice aF d.files.length cF, .slice aD d.dir.length cD, .slice aS d.safe.length cS, .slice aC d.chs.length cC⟩ d.cnt = .agg #[.slice aF d.files.length cF, .slice aD d.dir.length cD, .slice aS d.safe.length cS, .slice aC d.chs.length cC, .int .i64 d.cap, .int .i64 d.cnt.ops, .int .i64 d.cnt.armed, .bool (d.armed == 1)] from by rfl)
  have EO := Lib.hid (show ∃ o1 a1, o1 = d.cnt.ops ∧ a1 = d.cnt.armed from ⟨_, _, rfl, rfl⟩)
  obtain ⟨o1, a1, ho1, ha1⟩ := EO.out
  have QP := Lib.hid (fun W (x : Ext w W) => rput_any (fun k hk => Nat.lt_of_lt_of_le (HK.out k hk) x.size) (HN.out W x) n hn hfl (fa, fb))
  have QT := Lib.hid (fun W => told_any (d.armed == 1) W)
  rw [tld_told d] at QT
  rw [CH.out] at Q1
  rw [CH.out, ← hd6] at QP
  rw [← ho1, ← ha1] at Q1 CH QP
  have HFL := Lib.hid (show 0 < d.files.length ∧ (n : Int) < (d.files.length : Int) from ⟨by omega, by omega⟩)
  have HFA := Lib.hid (file_at hn)
  generalize d.tld = tl at *
  generalize (d.armed == 1) = la at *
  clear ho ha EO ho1 ha1 hn hfl hl hd6 hfa hb
  generalize d.file n = f at *
  obtain ⟨f1, f2⟩ := f

  clear h
  obtain ⟨files, dir, safe, chs, cap, ops, armed, dead⟩ := d
  dsimp only at hd
  subst hd
  dsimp only at *
  have X := Lib.hid (((Ext.refl w).alloc (.cells #[.slice aF files.length cF, .slice aD dir.length cD, .slice aS safe.length cS, .slice aC chs.length cC, .int .i64 cap, .int .i64 ops, .int .i64 armed, .bool false] 33)).alloc (.cells #[.slice none 0 0, .slice none 0 0, .slice none 0 0, .slice none 0 0, .int .i64 0, .int .i64 0, .int .i64 0, .bool false] 33))
  have BD := Lib.hid ((Blk.new w 33 #[.slice aF files.length cF, .slice aD dir.length cD, .slice aS safe.length cS, .slice aC chs.length cC, .int .i64 cap, .int .i64 ops, .int .i64 armed, .bool false]).alloc (.cells #[.slice none 0 0, .slice none 0 0, .slice none 0 0, .slice none 0 0, .int .i64 0, .int .i64 0, .int .i64 0, .bool false] 33))
  have br := Blk.new (w.alloc (.cells #[.slice aF files.length cF, .slice aD dir.length cD, .slice aS safe.length cS, .slice aC chs.length cC, .int .i64 cap, .int .i64 ops, .int .i64 armed, .bool false] 33)) 33 #[.slice none 0 0, .slice none 0 0, .slice none 0 0, .slice none 0 0, .int .i64 0, .int .i64 0, .int .i64 0, .bool false]
  simp only [World.size_alloc] at br
  have BR := Lib.hid br
  clear br
  have DS := Lib.hid (show (Tryz.prog.info? 33).map (·.size) = some (#[.slice aF files.length cF, .slice aD dir.length cD, .slice aS safe.length cS, .slice aC chs.length cC, .int .i64 cap, .int .i64 ops, .int .i64 armed, .bool false] : Array Value).size from rdisk_size)
  have DO := Lib.hid (disk_all _ _ _ _ (sl_ex aF files.length cF) (sl_ex aD dir.length cD) (sl_ex aS safe.length cS) (sl_ex aC chs.length cC) cap ops armed false)
  unfold RRet
  simp only [refV] at *
  go_enter Tryz.func24, Tryz.ntmps24
  go_wp2_with fail
  refine (QO.out _ X.out).mono ?_
  rintro _ w1 ⟨rfl, x1⟩
  replace BD := Lib.hid (BD.out.ext x1)
  replace BR := Lib.hid (BR.out.ext x1)
  replace X := Lib.hid (X.out.trans x1)
  clear x1
  have HF2 := Lib.hid (H.out.fs.ext X.out)
  obtain ⟨_, _, ef, _, _, hfs⟩ := HF2.out.1
  injection ef with e1 e2 e3
  subst e1
  subst e3
  obtain ⟨g, o, haF, hfx⟩ := hfs HFL.out.1
  have RA := Lib.hid (hfx n _ HFA.out)
  clear hfs hfx
  have c0 : w1.cell? ⟨w.heap.size, 0, none⟩ = some (.slice aF files.length cF) := BD.out.cell 0
  rw [haF] at c0
  clear haF
  have hni := HFL.out.2
  have ZA := Lib.hid (show (Tryz.prog.info? 95).map (·.size) = some (fC (f1, f2)).length from rfile_size)
  go_wp2_with (refine wpList_load_mid rfl 95 (.tmp 26) rfl g _ rfl _ _ RA.out Tryz.underlying95 rfl ZA.out ?_; refine Held.go ?_)
  refine ⟨?_⟩
  go_wp2_with fail
  refine (QA.out _).mono ?_
  rintro _ w3 ⟨rfl, x3⟩
  replace BD := Lib.hid (BD.out.ext x3)
  replace BR := Lib.hid (BR.out.ext x3)
  replace X := Lib.hid (X.out.trans x3)
  clear x3
  clear c0
  have hfw := Lib.hid BD.out.lt
  have XA := (Ext.refl w3).alloc (.cells #[.string (S fa), .string (S fb)] 95)
  replace BD := Lib.hid (BD.out.ext XA)
  replace BR := Lib.hid (BR.out.ext XA)
  replace X := Lib.hid (X.out.trans XA)
  clear XA
  have BF := Lib.hid (Blk.new w3 95 #[.string (S fa), .string (S fb)])
  have FS := Lib.hid (show (Tryz.prog.info? 95).map (·.size) = some #[Value.string (S fa), .string (S fb)].size from rfile_size)
  go_wp2_with (refine wpList_load_blk rfl 33 (.tmp 3) rfl rfl BD.out Tryz.underlying33 rfl DS.out ?_; refine Held.go ?_)
  refine ⟨?_⟩
  go_wp2_with fail
  refine (Q1.out _ X.out).mono ?_
  rintro _ w5 ⟨rfl, x5⟩
  replace BF := Lib.hid (BF.out.ext x5)
  replace BD := Lib.hid (BD.out.ext x5)
  replace BR := Lib.hid (BR.out.ext x5)
  replace X := Lib.hid (X.out.trans x5)
  clear x5
  have DSc := Lib.hid (show (Tryz.prog.info? 33).map (·.size) = some (#[.slice aF files.length cF, .slice aD dir.length cD, .slice aS safe.length cS, .slice aC chs.length cC, .int .i64 cap, .int .i64 o1, .int .i64 a1, .bool la] : Array Value).size from rdisk_size)
  have DOc := Lib.hid (disk_all _ _ _ _ (sl_ex aF files.length cF) (sl_ex aD dir.length cD) (sl_ex aS safe.length cS) (sl_ex aC chs.length cC) cap o1 a1 la)
  go_wp2_with (refine wpList_store_blk rfl 33 (.tmp 3) (.tmp 39) rfl rfl rfl BD.out rfl DSc.out DOc.out ?_; refine Held.go ?_)
  refine ⟨?_⟩
  replace BD := Lib.hid (BD.out.setRow #[.slice aF files.length cF, .slice aD dir.length cD, .slice aS safe.length cS, .slice aC chs.length cC, .int .i64 cap, .int .i64 o1, .int .i64 a1, .bool la])
  replace BR := Lib.hid (BR.out.setRow_far (k := w.heap.size) (by omega) #[.slice aF files.length cF, .slice aD dir.length cD, .slice aS safe.length cS, .slice aC chs.length cC, .int .i64 cap, .int .i64 o1, .int .i64 a1, .bool la])
  replace BF := Lib.hid (BF.out.setRow_far (k := w.heap.size) (by have := hfw.out; omega) #[.slice aF files.length cF, .slice aD dir.length cD, .slice aS safe.length cS, .slice aC chs.length cC, .int .i64 cap, .int .i64 o1, .int .i64 a1, .bool la])
  replace X := Lib.hid (X.out.setRow (Nat.le_refl _) #[.slice aF files.length cF, .slice aD dir.length cD, .slice aS safe.length cS, .slice aC chs.length cC, .int .i64 cap, .int .i64 o1, .int .i64 a1, .bool la])
  generalize w5.setRow w.heap.size #[.slice aF files.length cF, .slice aD dir.length cD, .slice aS safe.length cS, .slice aC chs.length cC, .int .i64 cap, .int .i64 o1, .int .i64 a1, .bool la] = w6 at *
  go_wp2_with (refine wpList_load_blk rfl 33 (.tmp 3) rfl rfl BD.out Tryz.underlying33 rfl DSc.out ?_; refine Held.go ?_)
  refine ⟨?_⟩
  go_wp2_with (refine wpList_load_blk rfl 95 (.tmp 10) rfl rfl BF.out Tryz.underlying95 rfl FS.out ?_; refine Held.go ?_)
  refine ⟨?_⟩
  go_wp2_with fail
  refine (QP.out _ X.out).mono ?_
  rintro _ w7 ⟨v7, rfl, r7, x7⟩
  obtain ⟨a1x, c1x, a2, c2, a3, c3, a4, c4, rfl⟩ := r7.open_
  have R7 := Lib.hid r7
  replace BD := Lib.hid (BD.out.ext x7)
  replace BR := Lib.hid (BR.out.ext x7)
  replace X := Lib.hid (X.out.trans x7)
  clear x7
  clear r7
  dsimp only
  go_wp2_with fail
  refine (QT.out _).mono ?_
  rintro _ w8 ⟨rfl, x8⟩
  replace R7 := Lib.hid (R7.out.ext x8)
  replace BD := Lib.hid (BD.out.ext x8)
  replace BR := Lib.hid (BR.out.ext x8)
  replace X := Lib.hid (X.out.trans x8)
  clear x8
  have DS6 := Lib.hid (show (Tryz.prog.info? 33).map (·.size) = some (#[.slice a1x d6.files.length c1x, .slice a2 d6.dir.length c2, .slice a3 d6.safe.length c3, .slice a4 d6.chs.length c4, .int .i64 d6.cap, .int .i64 d6.ops, .int .i64 d6.armed, .bool d6.dead] : Array Value).size from rdisk_size)
  have DO6 := Lib.hid (disk_all _ _ _ _ (sl_ex a1x d6.files.length c1x) (sl_ex a2 d6.dir.length c2) (sl_ex a3 d6.safe.length c3) (sl_ex a4 d6.chs.length c4) d6.cap d6.ops d6.armed d6.dead)
  go_wp2_with (refine wpList_store_blk rfl 33 (.tmp 6) (.tmp 44) rfl rfl rfl BR.out rfl DS6.out DO6.out ?_; refine Held.go ?_)
  refine ⟨?_⟩
  go_wp2
  exact bodyPost_ret (results_row_tmp rfl _ _ (w.heap.size + 1) _ _ (0, 0) _ rfl (BR.out.setRow #[.slice a1x d6.files.length c1x, .slice a2 d6.dir.length c2, .slice a3 d6.safe.length c3, .slice a4 d6.chs.length c4, .int .i64 d6.cap, .int .i64 d6.ops, .int .i64 d6.armed, .bool d6.dead]) Tryz.underlying33 rfl DS6.out) rfl ⟨⟨.slice a1x d6.files.length c1x, .slice a2 d6.dir.length c2, .slice a3 d6.safe.length c3, .slice a4 d6.chs.length c4⟩, rfl, R7.out.butG BR.out zero_nostr (But.row1 _ _ _), X.out.setRow (by omega) _⟩
set_option maxRecDepth 20000 in
set_option maxHeartbeats 4000000 in
theorem rappend_full {w : World} {v : V4} {d : Dsk} (hK : ∀ k ∈ K, k < w.heap.size) (h : RefD K w v d) (hd : d.dead = false) (s : List UInt8) (t : List UInt8) (ht : (t.length : Int) ≤ 1000000000) (hl : (d.dir.length : Int) ≤ 1000000) {n : Nat} (hg : dGet s d.dir = some n) (hn : n < d.files.length) (hfl : d.files.length ≤ 1000000) (ok : d.Ok) (hb : ∀ n, (d.file n).1.length ≤ 1000000 ∧ (d.file n).2.length ≤ 1000000) (he : (fappend (d.file n) t).2 = 0) (hf : d.cap < d.used + (t.length : Int)) :
    Calls Tryz.prog 22 #[refV v d, .string (S s), .string (S t)] w fun x w' => RRet K w d 203 x w' := by
  obtain ⟨aF, cF, aD, cD, aS, cS, aC, cC, rfl⟩ := h.open_
  have H := Lib.hid h
  have HK := Lib.hid hK
  clear hK
  have qo := fun W (x : Ext w W) => ropen_any (h.ext x) s hl
  simp only [hd, hg, if_false, Bool.false_eq_true] at qo
  have QO := Lib.hid qo
  clear qo
  have QU := Lib.hid (fun W (x : Ext w W) => rused_any (h.ext x) ok hl)
  have hub := sumT_le (d := d) (fun n => (hb n).2) d.dir
  rw [show sumT d d.dir = d.used from rfl] at hub
  have huw : IntKind.i64.wrap (d.used + (t.length : Int)) = d.used + (t.length : Int) := by rw [IntKind.wrap_i64]; omega
  clear hub
  generalize d.used = u at *
  obtain ⟨⟨⟨fa, fb⟩, er⟩, hfa⟩ : ∃ r, r = fappend (d.file n) t := ⟨_, rfl⟩
  have QA := Lib.hid (fun W => rappend_any (d.file n).1 (d.file n).2 t W (by have := (hb n).2; omega) ht)
  rw [show fappend ((d.file n).1, (d.file n).2) t = ((fa, fb), er) from hfa.symm] at QA
  simp only [okV] at QA
  rw [← hfa] at he
  dsimp only at he
  subst he
  have HFL := Lib.hid (show 0 < d.files.length ∧ (n : Int) < (d.files.length : Int) from ⟨by omega, by omega⟩)
  have HFA := Lib.hid (file_at hn)
  clear hfa hn hfl hl hb ok
  generalize d.file n = f at *
  obtain ⟨f1, f2⟩ := f

  clear h
  obtain ⟨files, dir, safe, chs, cap, ops, armed, dead⟩ := d
  dsimp only at hd
  subst hd
  dsimp only at *
  have X := Lib.hid (((Ext.refl w).alloc (.cells #[.slice aF files.length cF, .slice aD dir.length cD, .slice aS safe.length cS, .slice aC chs.length cC, .int .i64 cap, .int .i64 ops, .int .i64 armed, .bool false] 33)).alloc (.cells #[.slice none 0 0, .slice none 0 0, .slice none 0 0, .slice none 0 0, .int .i64 0, .int .i64 0, .int .i64 0, .bool false] 33))
  have BD := Lib.hid ((Blk.new w 33 #[.slice aF files.length cF, .slice aD dir.length cD, .slice aS safe.length cS, .slice aC chs.length cC, .int .i64 cap, .int .i64 ops, .int .i64 armed, .bool false]).alloc (.cells #[.slice none 0 0, .slice none 0 0, .slice none 0 0, .slice none 0 0, .int .i64 0, .int .i64 0, .int .i64 0, .bool false] 33))
  have br := Blk.new (w.alloc (.cells #[.slice aF files.length cF, .slice aD dir.length cD, .slice aS safe.length cS, .slice aC chs.length cC, .int .i64 cap, .int .i64 ops, .int .i64 armed, .bool false] 33)) 33 #[.slice none 0 0, .slice none 0 0, .slice none 0 0, .slice none 0 0, .int .i64 0, .int .i64 0, .int .i64 0, .bool false]
  simp only [World.size_alloc] at br
  have BR := Lib.hid br
  clear br
  have DS := Lib.hid (show (Tryz.prog.info? 33).map (·.size) = some (#[.slice aF files.length cF, .slice aD dir.length cD, .slice aS safe.length cS, .slice aC chs.length cC, .int .i64 cap, .int .i64 ops, .int .i64 armed, .bool false] : Array Value).size from rdisk_size)
  have DO := Lib.hid (disk_all _ _ _ _ (sl_ex aF files.length cF) (sl_ex aD dir.length cD) (sl_ex aS safe.length cS) (sl_ex aC chs.length cC) cap ops armed false)
  unfold RRet
  simp only [refV] at *
  go_enter Tryz.func22, Tryz.ntmps22
  go_wp2_with fail
  refine (QO.out _ X.out).mono ?_
  rintro _ w1 ⟨rfl, x1⟩
  replace BD := Lib.hid (BD.out.ext x1)
  replace BR := Lib.hid (BR.out.ext x1)
  replace X := Lib.hid (X.out.trans x1)
  clear x1
  have HF2 := Lib.hid (H.out.fs.ext X.out)
  obtain ⟨_, _, ef, _, _, hfs⟩ := HF2.out.1
  injection ef with e1 e2 e3
  subst e1
  subst e3
  obtain ⟨g, o, haF, hfx⟩ := hfs HFL.out.1
  have RA := Lib.hid (hfx n _ HFA.out)
  clear hfs hfx
  have c0 : w1.cell? ⟨w.heap.size, 0, none⟩ = some (.slice aF files.length cF) := BD.out.cell 0
  rw [haF] at c0
  clear haF
  have hni := HFL.out.2
  have ZA := Lib.hid (show (Tryz.prog.info? 95).map (·.size) = some (fC (f1, f2)).length from rfile_size)
  go_wp2_with (refine wpList_load_mid rfl 95 (.tmp 26) rfl g _ rfl _ _ RA.out Tryz.underlying95 rfl ZA.out ?_; refine Held.go ?_)
  refine ⟨?_⟩
  go_wp2_with fail
  refine (QA.out _).mono ?_
  rintro _ w3 ⟨rfl, x3⟩
  replace BD := Lib.hid (BD.out.ext x3)
  replace BR := Lib.hid (BR.out.ext x3)
  replace X := Lib.hid (X.out.trans x3)
  clear x3
  clear c0
  have hfw := Lib.hid BD.out.lt
  have XA := (Ext.refl w3).alloc (.cells #[.string (S fa), .string (S fb)] 95)
  replace BD := Lib.hid (BD.out.ext XA)
  replace BR := Lib.hid (BR.out.ext XA)
  replace X := Lib.hid (X.out.trans XA)
  clear XA
  have QUU := Lib.hid (fun (x : Up (w3.alloc (.cells #[.string (S fa), .string (S fb)] 95))) => QU.out x.val (X.out.trans x.ext))
  have c4 := up_cell (show (w3.alloc (.cells #[.string (S fa), .string (S fb)] 95)).cell? ⟨w.heap.size, 4, none⟩ = some (.int .i64 cap) from BD.out.cell 4)
  go_wp2_with fail
  refine wp_region_up (by kernel_rfl) (by kernel_rfl) ?_
  refine wpQuiet_load_blk (by kernel_rfl) 33 (.tmp 3) rfl rfl BD.out Tryz.underlying33 rfl DS.out ?_
  dsimp only [Act.put]
  simp only [List.setIfInBounds_toArray, List.set_cons_succ, List.set_cons_zero]
  repeat (go_big_quiet_step (first | (go_at_call 38; (with_reducible exact up_call (QUU.out _))) | fail))
  refine wpQuiet_nil ?_
  rintro _ ⟨z, rfl⟩
  have xz := z.ext
  replace BD := Lib.hid (BD.out.ext xz)
  replace BR := Lib.hid (BR.out.ext xz)
  replace X := Lib.hid (X.out.trans xz)
  clear xz
  clear QUU c4
  go_wp2_with (refine wpList_load_blk rfl 33 (.tmp 3) rfl rfl BD.out Tryz.underlying33 rfl DS.out ?_; refine Held.go ?_)
  refine ⟨?_⟩
  go_wp2_with (refine wpList_store_blk rfl 33 (.tmp 6) (.tmp 44) rfl rfl rfl BR.out rfl DS.out DO.out ?_; refine Held.go ?_)
  refine ⟨?_⟩
  go_wp2
  exact bodyPost_ret (results_row_tmp rfl _ _ (w.heap.size + 1) _ _ (0, 0) _ rfl (BR.out.setRow #[.slice aF files.length cF, .slice aD dir.length cD, .slice aS safe.length cS, .slice aC chs.length cC, .int .i64 cap, .int .i64 ops, .int .i64 armed, .bool false]) Tryz.underlying33 rfl DS.out) rfl ⟨⟨.slice aF files.length cF, .slice aD dir.length cD, .slice aS safe.length cS, .slice aC chs.length cC⟩, rfl, H.out.ext (X.out.setRow (by omega) _), X.out.setRow (by omega) _⟩
set_option maxRecDepth 20000 in
set_option maxHeartbeats 4000000 in
theorem rappend_good {w : World} {v : V4} {d : Dsk} (hK : ∀ k ∈ K, k < w.heap.size) (h : RefD K w v d) (hd : d.dead = false) (s : List UInt8) (t : List UInt8) (ht : (t.length : Int) ≤ 1000000000) (hl : (d.dir.length : Int) ≤ 1000000) {n : Nat} (hg : dGet s d.dir = some n) (hn : n < d.files.length) (hfl : d.files.length ≤ 1000000) (ok : d.Ok) (hb : ∀ n, (d.file n).1.length ≤ 1000000 ∧ (d.file n).2.length ≤ 1000000) (he : (fappend (d.file n) t).2 = 0) (ho : 0 ≤ d.ops ∧ d.ops ≤ 100000000) (ha : 0 ≤ d.armed ∧ d.armed ≤ 9223372036854775807) (hf : ¬ d.cap < d.used + (t.length : Int)) :
    Calls Tryz.prog 22 #[refV v d, .string (S s), .string (S t)] w fun x w' => RRet K w (d.cnt.put n (fappend (d.file n) t).1) d.tld x w' := by
  obtain ⟨aF, cF, aD, cD, aS, cS, aC, cC, rfl⟩ := h.open_
  have H := Lib.hid h
  have HK := Lib.hid hK
  clear hK
  obtain ⟨d6, hd6⟩ : ∃ d6, d6 = d.cnt.put n (fappend (d.file n) t).1 := ⟨_, rfl⟩
  rw [← hd6]
  have qo := fun W (x : Ext w W) => ropen_any (h.ext x) s hl
  simp only [hd, hg, if_false, Bool.false_eq_true] at qo
  have QO := Lib.hid qo
  clear qo
  have QU := Lib.hid (fun W (x : Ext w W) => rused_any (h.ext x) ok hl)
  have hub := sumT_le (d := d) (fun n => (hb n).2) d.dir
  rw [show sumT d d.dir = d.used from rfl] at hub
  have huw : IntKind.i64.wrap (d.used + (t.length : Int)) = d.used + (t.length : Int) := by rw [IntKind.wrap_i64]; omega
  clear hub
  generalize d.used = u at *
  obtain ⟨⟨⟨fa, fb⟩, er⟩, hfa⟩ : ∃ r, r = fappend (d.file n) t := ⟨_, rfl⟩
  have QA := Lib.hid (fun W => rappend_any (d.file n).1 (d.file n).2 t W (by have := (hb n).2; omega) ht)
  rw [show fappend ((d.file n).1, (d.file n).2) t = ((fa, fb), er) from hfa.symm] at QA
  simp only [okV] at QA
  rw [← hfa] at he
  dsimp only at he
  rw [← hfa] at hd6
  subst he
  have Q1 := Lib.hid (fun W (x : Ext w W) => counted_any (h.ext x) hd ho ha)
  have HN := Lib.hid (show ∀ W, Ext w W → RefD K W ⟨.slice aF d.files.length cF, .slice aD d.dir.length cD, .slice aS d.safe.length cS, .slice aC d.chs.length cC⟩ d.cnt from fun W x => ⟨(h.ext x).fs, (h.ext x).dir, (h.ext x).safe, (h.ext x).chs⟩)
  have CH := Lib.hid (show refV ⟨.slice aF d.files.length cF, .slice aD d.dir.length cD, .slice aS d.safe.length cS, .slice aC d.chs.length cC⟩ d.cnt = .agg #[.slice aF d.files.length cF, .slice aD d.dir.length cD, .slice aS d.safe.length cS, .slice aC d.chs.length cC, .int .i64 d.cap, .int .i64 d.cnt.ops, .int .i64 d.cnt.armed, .bool (d.armed == 1)] from by rfl)
  have EO := Lib.hid (show ∃ o1 a1, o1 = d.cnt.ops ∧ a1 = d.cnt.armed from ⟨_, _, rfl, rfl⟩)
  obtain ⟨o1, a1, ho1, ha1⟩ := EO.out
  have QP := Lib.hid (fun W (x : Ext w W) => rput_any (fun k hk => Nat.lt_of_lt_of_le (HK.out k hk) x.size) (HN.out W x) n hn hfl (fa, fb))
  have QT := Lib.hid (fun W => told_any (d.armed == 1) W)
  rw [tld_told d] at QT
  rw [CH.out] at Q1
  rw [CH.out, ← hd6] at QP
  rw [← ho1, ← ha1] at Q1 CH QP
  have HFL := Lib.hid (show 0 < d.files.length ∧ (n : Int) < (d.files.length : Int) from ⟨by omega, by omega⟩)
  have HFA := Lib.hid (file_at hn)
  generalize d.tld = tl at *
  generalize (d.armed == 1) = la at *
  clear ho ha EO ho1 ha1 hn hfl hl hd6 hfa hb
  generalize d.file n = f at *
  obtain ⟨f1, f2⟩ := f

  clear h
  obtain ⟨files, dir, safe, chs, cap, ops, armed, dead⟩ := d
  dsimp only at hd
  subst hd
  dsimp only at *
  have X := Lib.hid (((Ext.refl w).alloc (.cells #[.slice aF files.length cF, .slice aD dir.length cD, .slice aS safe.length cS, .slice aC chs.length cC, .int .i64 cap, .int .i64 ops, .int .i64 armed, .bool false] 33)).alloc (.cells #[.slice none 0 0, .slice none 0 0, .slice none 0 0, .slice none 0 0, .int .i64 0, .int .i64 0, .int .i64 0, .bool false] 33))
  have BD := Lib.hid ((Blk.new w 33 #[.slice aF files.length cF, .slice aD dir.length cD, .slice aS safe.length cS, .slice aC chs.length cC, .int .i64 cap, .int .i64 ops, .int .i64 armed, .bool false]).alloc (.cells #[.slice none 0 0, .slice none 0 0, .slice none 0 0, .slice none 0 0, .int .i64 0, .int .i64 0, .int .i64 0, .bool false] 33))
  have br := Blk.new (w.alloc (.cells #[.slice aF files.length cF, .slice aD dir.length cD, .slice aS safe.length cS, .slice aC chs.length cC, .int .i64 cap, .int .i64 ops, .int .i64 armed, .bool false] 33)) 33 #[.slice none 0 0, .slice none 0 0, .slice none 0 0, .slice none 0 0, .int .i64 0, .int .i64 0, .int .i64 0, .bool false]
  simp only [World.size_alloc] at br
  have BR := Lib.hid br
  clear br
  have DS := Lib.hid (show (Tryz.prog.info? 33).map (·.size) = some (#[.slice aF files.length cF, .slice aD dir.length cD, .slice aS safe.length cS, .slice aC chs.length cC, .int .i64 cap, .int .i64 ops, .int .i64 armed, .bool false] : Array Value).size from rdisk_size)
  have DO := Lib.hid (disk_all _ _ _ _ (sl_ex aF files.length cF) (sl_ex aD dir.length cD) (sl_ex aS safe.length cS) (sl_ex aC chs.length cC) cap ops armed false)
  unfold RRet
  simp only [refV] at *
  go_enter Tryz.func22, Tryz.ntmps22
  go_wp2_with fail
  refine (QO.out _ X.out).mono ?_
  rintro _ w1 ⟨rfl, x1⟩
  replace BD := Lib.hid (BD.out.ext x1)
  replace BR := Lib.hid (BR.out.ext x1)
  replace X := Lib.hid (X.out.trans x1)
  clear x1
  have HF2 := Lib.hid (H.out.fs.ext X.out)
  obtain ⟨_, _, ef, _, _, hfs⟩ := HF2.out.1
  injection ef with e1 e2 e3
  subst e1
  subst e3
  obtain ⟨g, o, haF, hfx⟩ := hfs HFL.out.1
  have RA := Lib.hid (hfx n _ HFA.out)
  clear hfs hfx
  have c0 : w1.cell? ⟨w.heap.size, 0, none⟩ = some (.slice aF files.length cF) := BD.out.cell 0
  rw [haF] at c0
  clear haF
  have hni := HFL.out.2
  have ZA := Lib.hid (show (Tryz.prog.info? 95).map (·.size) = some (fC (f1, f2)).length from rfile_size)
  go_wp2_with (refine wpList_load_mid rfl 95 (.tmp 26) rfl g _ rfl _ _ RA.out Tryz.underlying95 rfl ZA.out ?_; refine Held.go ?_)
  refine ⟨?_⟩
  go_wp2_with fail
  refine (QA.out _).mono ?_
  rintro _ w3 ⟨rfl, x3⟩
  replace BD := Lib.hid (BD.out.ext x3)
  replace BR := Lib.hid (BR.out.ext x3)
  replace X := Lib.hid (X.out.trans x3)
  clear x3
  clear c0
  have hfw := Lib.hid BD.out.lt
  have XA := (Ext.refl w3).alloc (.cells #[.string (S fa), .string (S fb)] 95)
  replace BD := Lib.hid (BD.out.ext XA)
  replace BR := Lib.hid (BR.out.ext XA)
  replace X := Lib.hid (X.out.trans XA)
  clear XA
  have BF := Lib.hid (Blk.new w3 95 #[.string (S fa), .string (S fb)])
  have FS := Lib.hid (show (Tryz.prog.info? 95).map (·.size) = some #[Value.string (S fa), .string (S fb)].size from rfile_size)
  have QUU := Lib.hid (fun (x : Up (w3.alloc (.cells #[.string (S fa), .string (S fb)] 95))) => QU.out x.val (X.out.trans x.ext))
  have c4 := up_cell (show (w3.alloc (.cells #[.string (S fa), .string (S fb)] 95)).cell? ⟨w.heap.size, 4, none⟩ = some (.int .i64 cap) from BD.out.cell 4)
  go_wp2_with fail
  refine wp_region_up (by kernel_rfl) (by kernel_rfl) ?_
  refine wpQuiet_load_blk (by kernel_rfl) 33 (.tmp 3) rfl rfl BD.out Tryz.underlying33 rfl DS.out ?_
  dsimp only [Act.put]
  simp only [List.setIfInBounds_toArray, List.set_cons_succ, List.set_cons_zero]
  repeat (go_big_quiet_step (first | (go_at_call 38; (with_reducible exact up_call (QUU.out _))) | fail))
  refine wpQuiet_nil ?_
  rintro _ ⟨z, rfl⟩
  have xz := z.ext
  replace BF := Lib.hid (BF.out.ext xz)
  replace BD := Lib.hid (BD.out.ext xz)
  replace BR := Lib.hid (BR.out.ext xz)
  replace X := Lib.hid (X.out.trans xz)
  clear xz
  clear QUU c4
  go_wp2_with (refine wpList_load_blk rfl 33 (.tmp 3) rfl rfl BD.out Tryz.underlying33 rfl DS.out ?_; refine Held.go ?_)
  refine ⟨?_⟩
  go_wp2_with fail
  refine (Q1.out _ X.out).mono ?_
  rintro _ w5 ⟨rfl, x5⟩
  replace BF := Lib.hid (BF.out.ext x5)
  replace BD := Lib.hid (BD.out.ext x5)
  replace BR := Lib.hid (BR.out.ext x5)
  replace X := Lib.hid (X.out.trans x5)
  clear x5
  have DSc := Lib.hid (show (Tryz.prog.info? 33).map (·.size) = some (#[.slice aF files.length cF, .slice aD dir.length cD, .slice aS safe.length cS, .slice aC chs.length cC, .int .i64 cap, .int .i64 o1, .int .i64 a1, .bool la] : Array Value).size from rdisk_size)
  have DOc := Lib.hid (disk_all _ _ _ _ (sl_ex aF files.length cF) (sl_ex aD dir.length cD) (sl_ex aS safe.length cS) (sl_ex aC chs.length cC) cap o1 a1 la)
  go_wp2_with (refine wpList_store_blk rfl 33 (.tmp 3) (.tmp 48) rfl rfl rfl BD.out rfl DSc.out DOc.out ?_; refine Held.go ?_)
  refine ⟨?_⟩
  replace BD := Lib.hid (BD.out.setRow #[.slice aF files.length cF, .slice aD dir.length cD, .slice aS safe.length cS, .slice aC chs.length cC, .int .i64 cap, .int .i64 o1, .int .i64 a1, .bool la])
  replace BR := Lib.hid (BR.out.setRow_far (k := w.heap.size) (by omega) #[.slice aF files.length cF, .slice aD dir.length cD, .slice aS safe.length cS, .slice aC chs.length cC, .int .i64 cap, .int .i64 o1, .int .i64 a1, .bool la])
  replace BF := Lib.hid (BF.out.setRow_far (k := w.heap.size) (by have := hfw.out; omega) #[.slice aF files.length cF, .slice aD dir.length cD, .slice aS safe.length cS, .slice aC chs.length cC, .int .i64 cap, .int .i64 o1, .int .i64 a1, .bool la])
  replace X := Lib.hid (X.out.setRow (Nat.le_refl _) #[.slice aF files.length cF, .slice aD dir.length cD, .slice aS safe.length cS, .slice aC chs.length cC, .int .i64 cap, .int .i64 o1, .int .i64 a1, .bool la])
  generalize w5.setRow w.heap.size #[.slice aF files.length cF, .slice aD dir.length cD, .slice aS safe.length cS, .slice aC chs.length cC, .int .i64 cap, .int .i64 o1, .int .i64 a1, .bool la] = w6 at *
  go_wp2_with (refine wpList_load_blk rfl 33 (.tmp 3) rfl rfl BD.out Tryz.underlying33 rfl DSc.out ?_; refine Held.go ?_)
  refine ⟨?_⟩
  go_wp2_with (refine wpList_load_blk rfl 95 (.tmp 10) rfl rfl BF.out Tryz.underlying95 rfl FS.out ?_; refine Held.go ?_)
  refine ⟨?_⟩
  go_wp2_with fail
  refine (QP.out _ X.out).mono ?_
  rintro _ w7 ⟨v7, rfl, r7, x7⟩
  obtain ⟨a1x, c1x, a2, c2, a3, c3, a4, c4, rfl⟩ := r7.open_
  have R7 := Lib.hid r7
  replace BD := Lib.hid (BD.out.ext x7)
  replace BR := Lib.hid (BR.out.ext x7)
  replace X := Lib.hid (X.out.trans x7)
  clear x7
  clear r7
  dsimp only
  go_wp2_with fail
  refine (QT.out _).mono ?_
  rintro _ w8 ⟨rfl, x8⟩
  replace R7 := Lib.hid (R7.out.ext x8)
  replace BD := Lib.hid (BD.out.ext x8)
  replace BR := Lib.hid (BR.out.ext x8)
  replace X := Lib.hid (X.out.trans x8)
  clear x8
  have DS6 := Lib.hid (show (Tryz.prog.info? 33).map (·.size) = some (#[.slice a1x d6.files.length c1x, .slice a2 d6.dir.length c2, .slice a3 d6.safe.length c3, .slice a4 d6.chs.length c4, .int .i64 d6.cap, .int .i64 d6.ops, .int .i64 d6.armed, .bool d6.dead] : Array Value).size from rdisk_size)
  have DO6 := Lib.hid (disk_all _ _ _ _ (sl_ex a1x d6.files.length c1x) (sl_ex a2 d6.dir.length c2) (sl_ex a3 d6.safe.length c3) (sl_ex a4 d6.chs.length c4) d6.cap d6.ops d6.armed d6.dead)
  go_wp2_with (refine wpList_store_blk rfl 33 (.tmp 6) (.tmp 53) rfl rfl rfl BR.out rfl DS6.out DO6.out ?_; refine Held.go ?_)
  refine ⟨?_⟩
  go_wp2
  exact bodyPost_ret (results_row_tmp rfl _ _ (w.heap.size + 1) _ _ (0, 0) _ rfl (BR.out.setRow #[.slice a1x d6.files.length c1x, .slice a2 d6.dir.length c2, .slice a3 d6.safe.length c3, .slice a4 d6.chs.length c4, .int .i64 d6.cap, .int .i64 d6.ops, .int .i64 d6.armed, .bool d6.dead]) Tryz.underlying33 rfl DS6.out) rfl ⟨⟨.slice a1x d6.files.length c1x, .slice a2 d6.dir.length c2, .slice a3 d6.safe.length c3, .slice a4 d6.chs.length c4⟩, rfl, R7.out.butG BR.out zero_nostr (But.row1 _ _ _), X.out.setRow (by omega) _⟩
end Go.Proofs.YtfipfljiohdlhaaGreat
