/- The document's disk: put. -/
import Derived.Test.YtfipfljiohdlhaaGreatDnB
import Derived.Test.YtfipfljiohdlhaaGreatSetX
import Derived.Laws.Rows
namespace Go.Proofs.YtfipfljiohdlhaaGreat
set_option linter.unusedVariables false
set_option linter.unusedSimpArgs false
open Go.RowKit
attribute [local go_sem] S_size S_toList S_append S_extract S_beq S_bne S_empty S_nil
variable {K : List Nat}

theorem WR.farRow {α : Type} {f : α → List Value} {s : Nat} {w : World} {B : Nat} {e : TypeId} {v : Value} {l : List α} (h : WR f s w B e v l) {k : Nat} (hk : k < B) (cs : Array Value) : WR f s (w.setRow k cs) B e v l :=
  h.but (K := [k]) ⟨rfl, rfl, rfl, by simp, fun i _ hi => setRow_other w k i cs (fun e => hi (by simp [e]))⟩ (fun j hj => by rw [List.mem_singleton.1 hj]; exact hk)
theorem WR.belowO {α : Type} {f : α → List Value} {s : Nat} {w w' : World} {B : Nat} {e : TypeId} {v : Value} {l : List α} (h : WR f s w B e v l) (hB : B ≤ w.heap.size) (hg : w.grownBy w' v.ownBlock) : Below B w w' :=
  ⟨hg.os, hg.tape, hg.output, hg.size, fun k hk => hg.block k (by omega) (fun e => by
    have := World.ownsRow.lt h k e.symm
    omega)⟩
theorem fC_len (x : List UInt8 × List UInt8) : (fC x).length = 2 := rfl
theorem fC_one (x : List UInt8 × List UInt8) : ∀ u ∈ fC x, u.oneCell' = true := by
  intro u hu
  simp only [fC, List.mem_cons, List.not_mem_nil, or_false] at hu
  rcases hu with rfl | rfl <;> rfl
theorem fC_all (x : List UInt8 × List UInt8) : (fC x).toArray.all (·.oneCell') = true := by kernel_rfl
theorem rfile_info : (Tryz.prog.info? 95).map (fun i => (i.zero, i.size, i.bytes)) = some (some (.agg #[.string (S []), .string (S [])]), 2, 32) := by kernel_rfl
theorem rfile_size : (Tryz.prog.info? 95).map (·.size) = some 2 := by kernel_rfl
theorem rdisk_size : (Tryz.prog.info? 33).map (·.size) = some 8 := by kernel_rfl
theorem run_bs0f (w : World) : (Instr.buildSlice 29 0 #[]).run Tryz.prog w = .ok (.slice (some ⟨w.heap.size, 0, none⟩) 0 0) (w.alloc (.cells #[] 95)) := by kernel_rfl
set_option maxRecDepth 20000 in
set_option maxHeartbeats 2000000 in
theorem rput_any {w : World} {v : V4} {d : Dsk} (hK : ∀ k ∈ K, k < w.heap.size) (h : RefD K w v d) (n : Nat) (hn : n < d.files.length) (hfl : d.files.length ≤ 1000000) (f : List UInt8 × List UInt8) :
    Calls Tryz.prog 65 #[refV v d, .int .i64 (n : Int), .agg #[.string (S f.1), .string (S f.2)]] w fun e w' => ∃ v', e = .returned (refV v' (d.put n f)) ∧ RefD K w' v' (d.put n f) ∧ Ext w w' := by
  obtain ⟨aF, cF, aD, cD, aS, cS, aC, cC, rfl⟩ := h.open_
  have H := Lib.hid h
  clear h
  obtain ⟨files, dir, safe, chs, cap, ops, armed, dead⟩ := d
  obtain ⟨f1, f2⟩ := f
  simp only [refV, Dsk.put] at *
  have HF := Lib.hid H.out.fs.1
  have HK := Lib.hid hK
  clear hK
  have hni : (n : Int) < (files.length : Int) := by omega
  have X3 := Lib.hid ((((Ext.refl w).alloc (.cells #[.slice aF files.length cF, .slice aD dir.length cD, .slice aS safe.length cS, .slice aC chs.length cC, .int .i64 cap, .int .i64 ops, .int .i64 armed, .bool dead] 33)).alloc (.cells #[.string (S f1), .string (S f2)] 95)).alloc (.cells #[.slice none 0 0, .slice none 0 0, .slice none 0 0, .slice none 0 0, .int .i64 0, .int .i64 0, .int .i64 0, .bool false] 33))
  have B1 := Lib.hid (((Blk.new w 33 #[.slice aF files.length cF, .slice aD dir.length cD, .slice aS safe.length cS, .slice aC chs.length cC, .int .i64 cap, .int .i64 ops, .int .i64 armed, .bool dead]).alloc (.cells #[.string (S f1), .string (S f2)] 95)).alloc (.cells #[.slice none 0 0, .slice none 0 0, .slice none 0 0, .slice none 0 0, .int .i64 0, .int .i64 0, .int .i64 0, .bool false] 33))
  have b2 := (Blk.new (w.alloc (.cells #[.slice aF files.length cF, .slice aD dir.length cD, .slice aS safe.length cS, .slice aC chs.length cC, .int .i64 cap, .int .i64 ops, .int .i64 armed, .bool dead] 33)) 95 #[.string (S f1), .string (S f2)]).alloc (.cells #[.slice none 0 0, .slice none 0 0, .slice none 0 0, .slice none 0 0, .int .i64 0, .int .i64 0, .int .i64 0, .bool false] 33)
  have b3 := Blk.new ((w.alloc (.cells #[.slice aF files.length cF, .slice aD dir.length cD, .slice aS safe.length cS, .slice aC chs.length cC, .int .i64 cap, .int .i64 ops, .int .i64 armed, .bool dead] 33)).alloc (.cells #[.string (S f1), .string (S f2)] 95)) 33 #[.slice none 0 0, .slice none 0 0, .slice none 0 0, .slice none 0 0, .int .i64 0, .int .i64 0, .int .i64 0, .bool false]
  simp only [World.size_alloc] at b2 b3
  have B2 := Lib.hid b2
  have B3 := Lib.hid b3
  have SZ := Lib.hid (show (((w.alloc (.cells #[.slice aF files.length cF, .slice aD dir.length cD, .slice aS safe.length cS, .slice aC chs.length cC, .int .i64 cap, .int .i64 ops, .int .i64 armed, .bool dead] 33)).alloc (.cells #[.string (S f1), .string (S f2)] 95)).alloc (.cells #[.slice none 0 0, .slice none 0 0, .slice none 0 0, .slice none 0 0, .int .i64 0, .int .i64 0, .int .i64 0, .bool false] 33)).heap.size = w.heap.size + 1 + 1 + 1 by simp only [World.size_alloc])
  clear b2 b3
  go_enter Tryz.func65, Tryz.ntmps65
  go_wp2_with (refine wpList_bs (vs := #[]) rfl 29 0 _ rfl rfl (run_bs0f _) ?_; refine Held.go ?_)
  refine ⟨?_⟩
  generalize ((w.alloc (.cells #[.slice aF files.length cF, .slice aD dir.length cD, .slice aS safe.length cS, .slice aC chs.length cC, .int .i64 cap, .int .i64 ops, .int .i64 armed, .bool dead] 33)).alloc (.cells #[.string (S f1), .string (S f2)] 95)).alloc (.cells #[.slice none 0 0, .slice none 0 0, .slice none 0 0, .slice none 0 0, .int .i64 0, .int .i64 0, .int .i64 0, .bool false] 33) = W at *
  obtain ⟨v', w', p1, p2, p3⟩ := WR.app0 (B := W.heap.size) (w := W.alloc (.cells #[] 95)) fC_len (by decide) fC_one (Blk.new W 95 #[]) (Nat.le_refl _) (HF.out.ext (X3.out.alloc _)) (by rw [World.size_alloc]; omega) (P := Tryz.prog) (t := 29) Tryz.underlying29 rfile_info rfl (by omega) (by unfold maxLen; omega)
  rw [SZ.out] at p1
  obtain ⟨a2, c2, rfl, hlc2, hs2⟩ := WR.shape fC_len p2
  obtain ⟨g2, rfl, hg2, _⟩ := hs2 (by omega)
  have c0 : (W.alloc (.cells #[] 95)).cell? ⟨w.heap.size, 0, none⟩ = some (.slice aF files.length cF) := (B1.out.alloc _).cell 0
  have X4 := Lib.hid (show Ext W w' from ((Ext.refl W).alloc _).trans p3)
  have B2' := Lib.hid (B2.out.ext X4.out)
  have FS := Lib.hid (show (Tryz.prog.info? 95).map (·.size) = some #[Value.string (S f1), .string (S f2)].size from rfile_size)
  have FO := Lib.hid (fC_all (f1, f2))
  have HTH := Lib.hid (WR.there p2 n hn)
  have S5 := Lib.hid (show WR fC 2 (w'.setCells g2 (n * 2) #[Value.string (S f1), .string (S f2)].toList) W.heap.size 95 (.slice (some ⟨g2, 0, none⟩) files.length c2) (files.set n (f1, f2)) from WR.set fC_len p2 n hn (f1, f2))
  have X5 := Lib.hid (show Ext W (w'.setCells g2 (n * 2) #[Value.string (S f1), .string (S f2)].toList) from Ext.setCells hg2 _ _ _ X4.out)
  have HLC := Lib.hid hlc2
  have FRG := Lib.hid (show Fr K (.slice (some ⟨g2, 0, none⟩) files.length c2) from Fr.new HK.out (Nat.le_trans X3.out.size hg2))
  clear p2 p3 hs2 hg2 hn hlc2
  go_wp2_with (at_builtin; refine wpList_app rfl (.tmp 8) (.tmp 10) 29 rfl rfl rfl rfl p1 ?_; refine Held.go ?_)
  refine ⟨?_⟩
  clear c0 p1
  go_wp2_with (refine wpList_load_blk rfl 95 (.tmp 5) rfl rfl B2'.out Tryz.underlying95 rfl FS.out ?_; refine Held.go ?_)
  refine ⟨?_⟩
  go_wp2_with (refine wpList_store_mid rfl 95 (.tmp 15) (.tmp 14) rfl g2 (n * 2) #[.string (S f1), .string (S f2)] rfl rfl HTH.out FS.out FO.out ?_; refine Held.go ?_)
  refine ⟨?_⟩
  generalize w'.setCells g2 (n * 2) #[Value.string (S f1), .string (S f2)].toList = W5 at *
  have B1' := B1.out.ext X5.out
  have c0 := B1'.cell 0
  have f0 := B1'.frozen 0
  simp only [List.getElem?_toArray, List.getElem?_cons_zero] at c0
  have b1 := Blk.set_ B1' 0 (.slice (some ⟨g2, 0, none⟩) files.length c2)
  simp only [List.setIfInBounds_toArray, List.set_cons_zero] at b1
  have BS1 := Lib.hid b1
  have BS3 := Lib.hid ((B3.out.ext X5.out).far (p := ⟨w.heap.size, 0, none⟩) (by simp; omega) (.slice (some ⟨g2, 0, none⟩) files.length c2))
  have X6 := Lib.hid (show Ext w (W5.setCell ⟨w.heap.size, 0, none⟩ (.slice (some ⟨g2, 0, none⟩) files.length c2)) from (X3.out.trans X5.out).set (Nat.le_refl _) _)
  have S6 := Lib.hid (show RR fC 2 (W5.setCell ⟨w.heap.size, 0, none⟩ (.slice (some ⟨g2, 0, none⟩) files.length c2)) (.slice (some ⟨g2, 0, none⟩) files.length c2) (files.set n (f1, f2)) from WR.rr fC_len (S5.out.farSet (by have := SZ.out; show w.heap.size < _; omega) _))
  have DS := Lib.hid (show (Tryz.prog.info? 33).map (·.size) = some #[Value.slice (some ⟨g2, 0, none⟩) files.length c2, .slice aD dir.length cD, .slice aS safe.length cS, .slice aC chs.length cC, .int .i64 cap, .int .i64 ops, .int .i64 armed, .bool dead].size from rdisk_size)
  have DO := Lib.hid (show #[Value.slice (some ⟨g2, 0, none⟩) files.length c2, .slice aD dir.length cD, .slice aS safe.length cS, .slice aC chs.length cC, .int .i64 cap, .int .i64 ops, .int .i64 armed, .bool dead].all (·.oneCell') = true by kernel_rfl)
  clear b1 B1'
  go_wp2_with (refine wpList_load_blk rfl 33 (.tmp 3) rfl rfl BS1.out Tryz.underlying33 rfl DS.out ?_; refine Held.go ?_)
  refine ⟨?_⟩
  go_wp2_with (refine wpList_store_blk rfl 33 (.tmp 6) (.tmp 18) rfl rfl rfl BS3.out rfl DS.out DO.out ?_; refine Held.go ?_)
  refine ⟨?_⟩
  go_wp2
  have XR := (Ext.refl w).setRow (g := w.heap.size + 1 + 1)
  refine bodyPost_ret (results_cell_row rfl _ _ (w.heap.size + 1 + 1) _ _ (0, 0) _ rfl (BS3.out.setRow _) Tryz.underlying33 rfl DS.out) rfl ⟨⟨.slice (some ⟨g2, 0, none⟩) files.length c2, .slice aD dir.length cD, .slice aS safe.length cS, .slice aC chs.length cC⟩, rfl, ?_, X6.out.setRow (by omega) _⟩
  have XX := X6.out.setRow (g := w.heap.size + 1 + 1) (by omega) #[Value.slice (some ⟨g2, 0, none⟩) files.length c2, .slice aD dir.length cD, .slice aS safe.length cS, .slice aC chs.length cC, .int .i64 cap, .int .i64 ops, .int .i64 armed, .bool dead]
  refine ⟨?_, H.out.dir.ext XX, H.out.safe.ext XX, H.out.chs.ext XX⟩
  have := WR.rr fC_len ((S5.out.farSet (p := ⟨w.heap.size, 0, none⟩) (by have := SZ.out; show w.heap.size < _; omega) (.slice (some ⟨g2, 0, none⟩) files.length c2)).farRow (k := w.heap.size + 1 + 1) (by have := SZ.out; omega) #[Value.slice (some ⟨g2, 0, none⟩) files.length c2, .slice aD dir.length cD, .slice aS safe.length cS, .slice aC chs.length cC, .int .i64 cap, .int .i64 ops, .int .i64 armed, .bool dead])
  exact ⟨this, FRG.out⟩
end Go.Proofs.YtfipfljiohdlhaaGreat
