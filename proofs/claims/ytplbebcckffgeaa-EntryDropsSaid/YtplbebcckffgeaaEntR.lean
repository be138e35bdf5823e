/- entry: Of, at the blocks that awake asks for. -/
import Derived.Test.YtplbebcckffgeaaEntN
namespace Go.Proofs.Ytplbebcckffgeaa
set_option linter.unusedVariables false
set_option linter.unusedSimpArgs false
open Go.RowKit

theorem of_build (w : World) : (Instr.build 26 #[(0, .agg #[.int .i64 1, .int .i64 1, .int .i64 1]), (1, .bool true), (2, .int .i64 5), (3, .int .i64 1), (4, .int .i64 2), (5, .int .i64 3), (6, .int .i64 60)]).run Try.prog w = .ok (.agg (entC e0).toArray) w := by kernel_rfl
theorem zero9_run (w : World) : (zeroValue 26).run Try.prog w = .ok (.agg #[.int .i64 0, .int .i64 0, .int .i64 0, .bool false, .int .i64 0, .int .i64 0, .int .i64 0, .int .i64 0, .int .i64 0]) w := by kernel_rfl
theorem head111_ok : errI (headP 1 1 1) 210 = 0 := by decide +kernel
attribute [local go_sem] meta_zero ent_zero9
set_option maxRecDepth 20000 in
set_option maxHeartbeats 8000000 in
theorem eOf_one (g : Nat) (w : World) (h : w.rangeAt g 0 (metaC m0)) :
    Calls Try.prog 19 #[.agg #[.int .i64 1, .int .i64 1, .int .i64 1], .slice (some ⟨g, 0, none⟩) 1 1, .int .i64 60] w fun e w' => e = .returned (.tuple #[.agg (entC e0).toArray, .int .i64 0]) ∧ Ext w w' := by
  have qh := fun w => hcheck_any 1 1 1 w
  rw [head111_ok] at qh
  have QH := Lib.hid qh
  have qb := fun w' h' => hBlocks_any [m0] _ w' (one_rr (w := w') (g := g) h')
  rw [m0_row] at qb
  have QB := Lib.hid qb
  have qc := fun w => echeck_any e0 w
  rw [e0_ok] at qc
  simp only [errI, if_true] at qc
  have QC := Lib.hid qc
  have QN := Lib.hid (fun w' h' => hNext_one g w' h')
  clear qh qb qc
  have X0 := Lib.hid (((Ext.refl w).alloc (.cells #[.int .i64 1, .int .i64 1, .int .i64 1] 24)).alloc (.cells #[.int .i64 0, .int .i64 0, .int .i64 0, .bool false, .int .i64 0, .int .i64 0, .int .i64 0, .int .i64 0, .int .i64 0] 26))
  have B1 := Lib.hid ((Blk.new w 24 #[.int .i64 1, .int .i64 1, .int .i64 1]).alloc (.cells #[.int .i64 0, .int .i64 0, .int .i64 0, .bool false, .int .i64 0, .int .i64 0, .int .i64 0, .int .i64 0, .int .i64 0] 26))
  have B2 := Lib.hid (Blk.new (w.alloc (.cells #[.int .i64 1, .int .i64 1, .int .i64 1] 24)) 26 #[.int .i64 0, .int .i64 0, .int .i64 0, .bool false, .int .i64 0, .int .i64 0, .int .i64 0, .int .i64 0, .int .i64 0])
  rw [World.size_alloc] at B2
  have R := Lib.hid (rangeAt_ext h X0.out)
  have HS := Lib.hid head_size
  have ES := Lib.hid (show (Try.prog.info? 26).map (·.size) = some (entC e0).toArray.size from ent_size)
  have EO := Lib.hid (entC_all e0)
  have EZ := Lib.hid (show (#[.int .i64 0, .int .i64 0, .int .i64 0, .bool false, .int .i64 0, .int .i64 0, .int .i64 0, .int .i64 0, .int .i64 0] : Array Value).size = (entC e0).toArray.size from rfl)
  have HL := Lib.hid (show (Try.prog.info? 50).map (·.size) = some (metaC m0).length from meta_size)
  have HZ := Lib.hid (show (Try.prog.info? 50).map (·.size) = some (metaC m0).toArray.size from meta_size)
  have HZS := Lib.hid (show (#[.int .i64 0, .int .i64 0, .int .i64 0, .int .i64 0, .int .i64 0, .int .i64 0, .int .i64 0] : Array Value).size = (metaC m0).toArray.size from rfl)
  have H1 := Lib.hid (metaC_all m0)
  have HC4 := Lib.hid (fun (w' : World) (h' : w'.rangeAt g 0 (metaC m0)) => (show w'.cell? ⟨g, 4, none⟩ = some (.int .i64 1) from by have := h' 4 _ rfl; rw [Nat.zero_add] at this; exact this))
  have HC5 := Lib.hid (fun (w' : World) (h' : w'.rangeAt g 0 (metaC m0)) => (show w'.cell? ⟨g, 5, none⟩ = some (.int .i64 2) from by have := h' 5 _ rfl; rw [Nat.zero_add] at this; exact this))
  have HC6 := Lib.hid (fun (w' : World) => (show (w'.alloc (.cells (metaC m0).toArray 50)).cell? ⟨w'.heap.size, 6, none⟩ = some (.int .i64 3) from (Blk.new w' 50 (metaC m0).toArray).cell 6))
  have HOB := Lib.hid of_build
  have HCE := Lib.hid (show Value.agg #[.int .i64 1, .int .i64 1, .int .i64 1, .bool true, .int .i64 (IntKind.i64.wrap 5), .int .i64 1, .int .i64 2, .int .i64 3, .int .i64 60] = Value.agg (entC e0).toArray from by
    rw [show IntKind.i64.wrap 5 = 5 from by decide]; rfl)
  clear h
  generalize metaC m0 = cm at *
  generalize entC e0 = ce at *
  go_enter Try.func19, Try.ntmps19
  go_wp2_with (refine wpList_load_blk rfl 24 (.tmp 3) rfl rfl B1.out Try.underlying24 rfl HS.out ?_)
  refine (QH.out _).mono ?_
  rintro _ w1 ⟨rfl, x1⟩
  have R := Lib.hid (rangeAt_ext R.out x1)
  have B1 := Lib.hid (B1.out.ext x1)
  have B2 := Lib.hid (B2.out.ext x1)
  have X1 := Lib.hid (X0.out.trans x1)
  clear x1 X0
  go_wp2_with fail
  refine (QB.out _ R.out).mono ?_
  rintro _ w2 ⟨rfl, x2⟩
  have R := Lib.hid (rangeAt_ext R.out x2)
  have B1 := Lib.hid (B1.out.ext x2)
  have B2 := Lib.hid (B2.out.ext x2)
  have X2 := Lib.hid (X1.out.trans x2)
  clear x2 X1
  have c4 := up_cell (HC4.out _ R.out)
  have d2 := up_cell (show w2.cell? ⟨w.heap.size, 2, none⟩ = some (.int .i64 1) from B1.out.cell 2)
  go_wp2_with fail
  refine wp_region_up (by kernel_rfl) (by kernel_rfl) ?_
  repeat (go_big_quiet_step (fail))
  refine wpQuiet_nil ?_
  rintro _ ⟨z, rfl⟩
  have R := Lib.hid (rangeAt_ext R.out z.ext)
  have x3 : Ext w2 (z.val.alloc (.cells cm.toArray 50)) := z.ext.alloc _
  have RA := Lib.hid (rangeAt_ext R.out ((Ext.refl z.val).alloc (.cells cm.toArray 50)))
  have B1 := Lib.hid (B1.out.ext x3)
  have B2 := Lib.hid (B2.out.ext x3)
  have X3 := Lib.hid (X2.out.trans x3)
  clear x3 X2 c4 d2
  have c5 := up_cell (W := (z.val.alloc (.cells cm.toArray 50)).drew) (HC5.out _ RA.out)
  have c6 := up_cell (W := (z.val.alloc (.cells cm.toArray 50)).drew) (HC6.out z.val)
  have d2 := up_cell (W := (z.val.alloc (.cells cm.toArray 50)).drew) (show (z.val.alloc (.cells cm.toArray 50)).cell? ⟨w.heap.size, 2, none⟩ = some (.int .i64 1) from B1.out.cell 2)
  go_wp2_with (first
    | (refine wpList_load_mid rfl 50 (.tmp 42) rfl g 0 rfl cm _ R.out Try.underlying50 rfl HL.out ?_)
    | (refine wpList_store_new (cs' := cm.toArray) rfl 50 (.tmp 10) (.tmp 43) rfl rfl rfl HZS.out HZ.out H1.out ?_))
  refine wp_region_lex _ rfl (by kernel_rfl) ?_
  dsimp only [List.length_cons, List.length_nil]
  iterate 2
    (refine lex_load_blk (by kernel_rfl) (by kernel_rfl) (by kernel_rfl) (by kernel_rfl) (fun _ _ _ _ h => h) (by kernel_rfl) 24 (.tmp 3) rfl rfl B1.out Try.underlying24 rfl HS.out ?_)
  dsimp only [Act.put]
  simp only [List.setIfInBounds_toArray, List.set_cons_succ, List.set_cons_zero]
  have qn := fun (x : Up (z.val.alloc (.cells cm.toArray 50)).drew) => QN.out x.val (rangeAt_ext (rangeAt_drew RA.out) x.ext)
  have QNN := Lib.hid qn
  clear qn
  have hob := HOB.out
  iterate 15
    (refine lex_want (by kernel_rfl) (by kernel_rfl) (by kernel_rfl) (by kernel_rfl) (fun _ _ _ _ h => h) (by kernel_rfl) (fun K hK => ?_)
     go_simp
     first
       | (refine hK _ ?_; clear hK K)
       | (apply Exists.intro
          refine ⟨fun x => ?_, hK _ ?_⟩
          (go_at_call 29; (with_reducible exact QNN.out x))
          clear hK K))
  refine lex_only (by kernel_rfl) (by kernel_rfl) (fun x K hK => ?_)
  rw [if_pos (by kernel_rfl)]
  refine wp_alloc_row rfl zero9_run (hK.out _ _ ((Ext.refl _).alloc _) ?_)
  have X4 := Lib.hid (((X3.out.drew).trans x.ext).alloc (.cells #[.int .i64 0, .int .i64 0, .int .i64 0, .bool false, .int .i64 0, .int .i64 0, .int .i64 0, .int .i64 0, .int .i64 0] 26))
  have B4 := Lib.hid (Blk.new x.val 26 #[.int .i64 0, .int .i64 0, .int .i64 0, .bool false, .int .i64 0, .int .i64 0, .int .i64 0, .int .i64 0, .int .i64 0])
  have HX := Lib.hid (show w.heap.size ≤ x.val.heap.size from (X3.out.drew.trans x.ext).le)
  have HLT := Lib.hid (show w.heap.size + 1 < x.val.heap.size from (B2.out.drew.ext x.ext).lt)
  have B2 := Lib.hid ((B2.out.drew.ext x.ext).alloc (.cells #[.int .i64 0, .int .i64 0, .int .i64 0, .bool false, .int .i64 0, .int .i64 0, .int .i64 0, .int .i64 0, .int .i64 0] 26))
  clear hK K c5 c6 d2 hob QNN HC4 HC5 HC6 QN R RA
  refine lex_last (by kernel_rfl) (by kernel_rfl) (by kernel_rfl) (by kernel_rfl) (by kernel_rfl) (fun y K hK => ?_)
  refine wp_store_blk 26 (.tmp 11) (.tmp 60) rfl rfl HCE.out (B4.out.ext y.ext) EZ.out ES.out EO.out (hK _ _ (fun y2 => ?_))
  have X5 := Lib.hid ((Ext.setRow (X4.out.trans y.ext) HX.out ce.toArray).trans y2.ext)
  have B5 := Lib.hid (((B4.out.ext y.ext).setRow ce.toArray).ext y2.ext)
  have B2 := Lib.hid (((B2.out.ext y.ext).setRow_far (show w.heap.size + 1 ≠ x.val.heap.size by have := HLT.out; omega) ce.toArray).ext y2.ext)
  clear hK K
  generalize y2.val = w5 at *
  generalize x.val.heap.size = g5 at *
  dsimp only [Act.put]
  simp only [List.setIfInBounds_toArray, List.set_cons_succ, List.set_cons_zero]
  go_wp2_with (refine wpList_load_blk rfl 26 (.tmp 11) rfl rfl B5.out Try.underlying26 rfl ES.out ?_)
  refine (QC.out _).mono ?_
  rintro _ w6 ⟨rfl, x6⟩
  have X6 := Lib.hid (X5.out.trans x6)
  have B5 := Lib.hid (B5.out.ext x6)
  have B2 := Lib.hid (B2.out.ext x6)
  clear x6
  go_wp2_with (first
    | (refine wpList_load_blk rfl 26 (.tmp 11) rfl rfl B5.out Try.underlying26 rfl ES.out ?_)
    | (refine wpList_store_blk rfl 26 (.tmp 6) (.tmp 67) rfl rfl rfl B2.out EZ.out ES.out EO.out ?_))
  exact bodyPost_ret (results_row_tmp rfl _ _ (w.heap.size + 1) _ _ (0, 0) _ rfl (B2.out.setRow ce.toArray) Try.underlying26 rfl ES.out) rfl ⟨rfl, X6.out.setRow (by omega) _⟩
end Go.Proofs.Ytplbebcckffgeaa
