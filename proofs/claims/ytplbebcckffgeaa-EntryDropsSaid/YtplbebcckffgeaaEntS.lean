/- varvelaw24: awake. -/
import Derived.Test.YtplbebcckffgeaaEntR
import Derived.Test.YtplbebcckffgeaaEntK
namespace Go.Proofs.Ytplbebcckffgeaa
set_option linter.unusedVariables false
set_option linter.unusedSimpArgs false
open Go.RowKit

def a0 : E9 := openE 1 1 1
def b0 : E9 := openE 2 1 6
def c0 : E9 := ⟨1, 2, 1, true, 5, 1, 2, 3, 60⟩
def z0 : E9 := ⟨0, 0, 0, false, 0, 0, 0, 0, 0⟩
theorem meta_build7 (w : World) : (Instr.build 50 #[(0, .int .i64 12), (1, .int .i64 20), (2, .int .i64 9), (3, .int .i64 5), (4, .int .i64 1), (5, .int .i64 2), (6, .int .i64 3)]).run Try.prog w = .ok (.agg (metaC m0).toArray) w := by kernel_rfl
theorem metas_bs (w : World) : (Instr.buildSlice 51 1 #[(0, .agg (metaC m0).toArray)]).run Try.prog w = .ok (.slice (some ⟨w.heap.size, 0, none⟩) 1 1) (w.alloc (.cells (metaC m0).toArray 50)) := by kernel_rfl
theorem seal_e : sealE [a0] e0 2 1 6 = 0 := by decide +kernel
theorem seal_l : sealL [a0] e0 2 1 6 = [e0, b0] := by decide +kernel
theorem drop1_e : eDropE [e0, b0] 1 = 0 := by decide +kernel
theorem drop1_l : eDropL [e0, b0] 1 = [b0] := by decide +kernel
theorem drop2_e : eDropE [e0, b0] 2 = 2 := by decide +kernel
theorem rep_e : replE [e0, b0] c0 = 0 := by decide +kernel
theorem rep_l : replL [e0, b0] c0 = [c0, b0] := by decide +kernel
theorem head111 : headP 1 1 1 = true := by decide +kernel
theorem row_two : errI (rowP [e0, b0]) 240 = 0 := by decide +kernel
theorem zero_bad : errI (entP z0) 240 = 240 := by decide +kernel
theorem seq_e0 : seqLo e0 = 1 ∧ seqHi e0 = 5 ∧ tickLo e0 = 2 ∧ tickHi e0 = 3 := by decide +kernel
theorem rr_shape2 {w : World} {v : Value} {x y : E9} (h : RR entC 9 w v [x, y]) : ∃ g o c, v = .slice (some ⟨g, o, none⟩) 2 c ∧ w.rangeAt g o (entC x) := by
  obtain ⟨a, c, rfl, _, _, hs⟩ := h
  obtain ⟨g, o, rfl, hc⟩ := hs (Nat.zero_lt_succ _)
  refine ⟨g, o, c, rfl, ?_⟩
  have := hc 0 x rfl
  rwa [Nat.zero_mul, Nat.add_zero] at this
theorem rr_shape1 {w : World} {v : Value} {x : E9} (h : RR entC 9 w v [x]) : ∃ a c, v = .slice a 1 c := by
  obtain ⟨a, c, rfl, _⟩ := h
  exact ⟨a, c, rfl⟩
attribute [local go_sem] ent_zero9 meta_build7
set_option maxRecDepth 20000 in
set_option maxHeartbeats 16000000 in
theorem awake_any (w : World) : Calls Try.prog 6 #[] w fun e w' => e = .returned (.bool true) ∧ Ext w w' := by
  have q1 := fun w => eOpen_any 1 1 1 w
  rw [head111] at q1
  have q1' : ∀ w, Calls Try.prog 18 #[.agg #[.int .i64 1, .int .i64 1, .int .i64 1]] w fun x w' => x = .returned (.tuple #[.agg (entC a0).toArray, .int .i64 0]) ∧ Ext w w' := q1
  have Q1 := Lib.hid q1'
  clear q1'
  have Q2 := Lib.hid (fun g w h => eOf_one g w h)
  have q3 := fun v w h => eSeal_any [a0] e0 2 1 6 v w h
  rw [seal_e, seal_l] at q3
  have Q3 := Lib.hid q3
  have q4 := fun v w h => eDrop_any [e0, b0] 1 v w h (by decide)
  rw [drop1_e, drop1_l] at q4
  have Q4 := Lib.hid q4
  have q5 := fun v w h => eDrop_any [e0, b0] 2 v w h (by decide)
  rw [drop2_e] at q5
  have Q5 := Lib.hid q5
  have q6 := fun v w h => eReplace_any [e0, b0] c0 v w h
  rw [rep_e, rep_l] at q6
  have Q6 := Lib.hid q6
  have Q7 := Lib.hid (fun w => (eNext_small e0 w (by decide) (by decide) : Calls Try.prog 15 #[.agg (entC e0).toArray] w fun x w' => x = .returned (.int .i64 6) ∧ Ext w w'))
  have q8 := fun w => eSeqs_any e0 w
  rw [seq_e0.1, seq_e0.2.1] at q8
  have Q8 := Lib.hid q8
  have q9 := fun w => eTicks_any e0 w
  rw [seq_e0.2.2.1, seq_e0.2.2.2] at q9
  have Q9 := Lib.hid q9
  have q10 := fun v w h => eRow_any [e0, b0] v w h
  rw [row_two] at q10
  have Q10 := Lib.hid q10
  have q11 := fun w => echeck_any z0 w
  rw [zero_bad] at q11
  have Q11 := Lib.hid (show ∀ w, Calls Try.prog 20 #[.agg #[.int .i64 0, .int .i64 0, .int .i64 0, .bool false, .int .i64 0, .int .i64 0, .int .i64 0, .int .i64 0, .int .i64 0]] w fun x w' => x = .returned (.int .i64 240) ∧ Ext w w' from q11)
  have hr1 := Lib.hid (fun w => (range_eql 1 5 1 5 w : (binOp .eql 43 (.agg #[.int .i64 1, .int .i64 5]) (.agg #[.int .i64 1, .int .i64 5])).run Try.prog w = .ok (.bool true) w))
  have hr2 := Lib.hid (fun w => (range_eql 2 3 2 3 w : (binOp .eql 43 (.agg #[.int .i64 2, .int .i64 3]) (.agg #[.int .i64 2, .int .i64 3])).run Try.prog w = .ok (.bool true) w))
  clear q1 q3 q4 q5 q6 q8 q9 q10 q11
  have HBS1 := Lib.hid (fun w => run_bs1x a0 w)
  have HL1 := Lib.hid (fun (w : World) (c : Array Value) => (show RR entC 9 ((w.alloc (.cells c 26)).alloc (.cells (entC a0).toArray 26)) (.slice (some ⟨w.heap.size + 1, 0, none⟩) 1 1) [a0] from by
    have := WR.rr entC_length (WR.lit entC_length (w.alloc (.cells c 26)) 26 [a0] (show 1 ≤ 1000000000 by omega) (entC a0).toArray (by simp))
    rw [World.size_alloc] at this
    exact this))
  have HMB := Lib.hid metas_bs
  have HMR := Lib.hid (fun (w : World) => range_blk (Blk.new w 50 (metaC m0).toArray) 7)
  have ZA := Lib.hid (show (Try.prog.info? 26).map (·.size) = some (entC a0).toArray.size from ent_size)
  have ZE := Lib.hid (show (Try.prog.info? 26).map (·.size) = some (entC e0).toArray.size from ent_size)
  have ZC := Lib.hid (show (Try.prog.info? 26).map (·.size) = some (entC c0).toArray.size from ent_size)
  have OA := Lib.hid (entC_all a0)
  have OE := Lib.hid (entC_all e0)
  have SA := Lib.hid (show (#[.int .i64 0, .int .i64 0, .int .i64 0, .bool false, .int .i64 0, .int .i64 0, .int .i64 0, .int .i64 0, .int .i64 0] : Array Value).size = (entC a0).toArray.size from rfl)
  have SE := Lib.hid (show (#[.int .i64 0, .int .i64 0, .int .i64 0, .bool false, .int .i64 0, .int .i64 0, .int .i64 0, .int .i64 0, .int .i64 0] : Array Value).size = (entC e0).toArray.size from rfl)
  have HE4 := Lib.hid (show (entC e0).toArray[4]? = some (.int .i64 5) from rfl)
  have HE1 := Lib.hid (show (entC e0).toArray[1]? = some (.int .i64 1) from rfl)
  have HEC := Lib.hid (show (entC e0).set 1 (.int .i64 2) = entC c0 from rfl)
  have HC1 := Lib.hid (show (entC c0)[1]? = some (.int .i64 2) from rfl)
  have HMR := Lib.hid (fun (w : World) (c : Array Value) => (show ((w.alloc (.cells c 26)).alloc (.cells #[.int .i64 12, .int .i64 20, .int .i64 9, .int .i64 5, .int .i64 1, .int .i64 2, .int .i64 3] 50)).rangeAt (w.heap.size + 1) 0 (metaC m0) from by
    have := HMR.out (w.alloc (.cells c 26))
    rw [World.size_alloc] at this
    exact this))
  generalize entC a0 = ca at *
  generalize entC e0 = ce at *
  generalize entC c0 = cc at *
  generalize metaC m0 = cm at *
  go_enter Try.func6, Try.ntmps6
  go_wp2_with fail
  refine (Q1.out _).mono ?_
  rintro _ w1 ⟨rfl, x1⟩
  have A1 := Lib.hid (Blk.new w1 26 ca.toArray)
  have X1 := Lib.hid (x1.alloc (.cells ca.toArray 26))
  clear x1
  go_wp2_with (first
    | (refine wpList_store_new (cs' := ca.toArray) rfl 26 (.tmp 1) (.tmp 17) rfl rfl rfl SA.out ZA.out OA.out ?_)
    | (refine wpList_bs (vs := #[(0, .agg cm.toArray)]) rfl 51 1 _ rfl rfl (HMB.out _) ?_))
  refine (Q2.out _ _ (HMR.out w1 ca.toArray)).mono ?_
  rintro _ w2 ⟨rfl, x2⟩
  have x2' := Ext.alloc (Ext.trans ((Ext.refl (w1.alloc (.cells ca.toArray 26))).alloc (.cells #[.int .i64 12, .int .i64 20, .int .i64 9, .int .i64 5, .int .i64 1, .int .i64 2, .int .i64 3] 50)) x2) (.cells ce.toArray 26)
  have A1 := Lib.hid (A1.out.ext x2')
  have A3 := Lib.hid (Blk.new w2 26 ce.toArray)
  have X2 := Lib.hid (X1.out.trans x2')
  clear x2 x2' X1
  go_wp2_with (first
    | (refine wpList_store_new (cs' := ce.toArray) rfl 26 (.tmp 3) (.tmp 24) rfl rfl rfl SE.out ZE.out OE.out ?_)
    | (refine wpList_load_blk rfl 26 (.tmp 1) rfl rfl A1.out Try.underlying26 rfl ZA.out ?_; refine Held.go ?_))
  refine ⟨?_⟩
  have A3' := Lib.hid (A3.out.alloc (.cells ca.toArray 26))
  go_wp2_with (first
    | (refine wpList_bs (vs := #[(0, .agg ca.toArray)]) rfl 22 1 _ rfl rfl (HBS1.out _) ?_)
    | (refine wpList_load_blk rfl 26 (.tmp 3) rfl rfl A3'.out Try.underlying26 rfl ZE.out ?_))
  refine (Q3.out _ _ (HL1.out w2 ce.toArray)).mono ?_
  rintro _ w3 ⟨v5, rfl, x3, i3⟩
  obtain ⟨g5, o5, c5, rfl, _⟩ := rr_shape2 (WR.rr entC_length i3)
  have I5 := Lib.hid (WR.rr entC_length i3)
  have x3' := Ext.trans ((Ext.refl (w2.alloc (.cells ce.toArray 26))).alloc (.cells ca.toArray 26)) x3
  have A3 := Lib.hid (A3.out.ext x3')
  have X3 := Lib.hid (X2.out.trans x3')
  clear x3 x3' X2 i3 A1 A3'
  go_wp2_with fail
  refine (Q4.out _ _ I5.out).mono ?_
  rintro _ w4 ⟨v7, rfl, x4, i4⟩
  obtain ⟨a7, c7, rfl⟩ := rr_shape1 (WR.rr entC_length i4)
  have I5 := Lib.hid (I5.out.ext x4)
  have A3 := Lib.hid (A3.out.ext x4)
  have X4 := Lib.hid (X3.out.trans x4)
  clear x4 X3 i4
  go_wp2_with fail
  refine (Q5.out _ _ I5.out).mono ?_
  rintro _ w5 ⟨v9, rfl, x5, i5⟩
  have I5 := Lib.hid (I5.out.ext x5)
  have A3 := Lib.hid (A3.out.ext x5)
  have X5 := Lib.hid (X4.out.trans x5)
  clear x5 X4 i5
  have x6 : Ext w5 (w5.alloc (.cells ce.toArray 26)) := (Ext.refl w5).alloc _
  have x7 : Ext w5 (w5.alloc (.cells cc.toArray 26)) := (Ext.refl w5).alloc _
  have hset := HEC.out
  have A11 := Lib.hid (Blk.new w5 26 ce.toArray)
  have cell1 : (w5.alloc (.cells ce.toArray 26)).cell? ⟨w5.heap.size, 1, none⟩ = some (.int .i64 1) := (A11.out.cell 1).trans HE1.out
  have froz1 : (w5.alloc (.cells ce.toArray 26)).frozen? ⟨w5.heap.size, 1, none⟩ = false := A11.out.frozen 1
  have A12 := Lib.hid (Blk.new w5 26 cc.toArray)
  have I5 := Lib.hid (I5.out.ext x7)
  have A4 := Lib.hid (A3.out.ext x7)
  have X7 := Lib.hid (X5.out.trans x7)
  clear x6 x7 X5
  go_wp2_with (first
    | (refine wpList_load_blk rfl 26 (.tmp 3) rfl rfl A3.out Try.underlying26 rfl ZE.out ?_)
    | (refine wpList_store_new (cs' := ce.toArray) rfl 26 (.tmp 11) (.tmp 44) rfl rfl rfl SE.out ZE.out OE.out ?_; refine Held.go ?_))
  refine ⟨?_⟩
  go_wp2_with (refine wpList_load_blk rfl 26 (.tmp 11) rfl rfl A12.out Try.underlying26 rfl ZC.out ?_; refine Held.go ?_)
  refine ⟨?_⟩
  go_wp2_with fail
  refine (Q6.out _ _ I5.out).mono ?_
  rintro _ w8 ⟨v12, rfl, x8, i8⟩
  obtain ⟨g12, o12, c12, rfl, r12⟩ := rr_shape2 (WR.rr entC_length i8)
  have d12 : w8.cell? ⟨g12, o12 + 1, none⟩ = some (.int .i64 2) := r12 1 _ (show (entC c0)[1]? = some (Value.int .i64 2) from rfl)
  have A4 := Lib.hid (A4.out.ext x8)
  have d3 : w8.cell? ⟨w2.heap.size, 4, none⟩ = some (.int .i64 5) := (A4.out.cell 4).trans HE4.out
  have I5 := Lib.hid (I5.out.ext x8)
  have X8 := Lib.hid (X7.out.trans x8)
  clear x8 X7 i8 r12 A12 A11 A3 cell1 froz1 hset
  go_wp2_with (refine wpList_load_blk_g (by kernel_rfl) 26 (.tmp 3) rfl rfl A4.out Try.underlying26 rfl ZE.out ?_; refine Held.go ?_)
  refine ⟨?_⟩
  clear d3 d12
  go_wp2_with fail
  refine (Q7.out _).mono ?_
  rintro _ w9 ⟨rfl, x9⟩
  have A4 := Lib.hid (A4.out.ext x9)
  have I5 := Lib.hid (I5.out.ext x9)
  have X9 := Lib.hid (X8.out.trans x9)
  clear x9 X8
  go_wp2_with (refine wpList_load_blk_g (by kernel_rfl) 26 (.tmp 3) rfl rfl A4.out Try.underlying26 rfl ZE.out ?_; refine Held.go ?_)
  refine ⟨?_⟩
  go_wp2_with fail
  refine (Q8.out _).mono ?_
  rintro _ w10 ⟨rfl, x10⟩
  have A4 := Lib.hid (A4.out.ext x10)
  have I5 := Lib.hid (I5.out.ext x10)
  have X10 := Lib.hid (X9.out.trans x10)
  clear x10 X9
  have hr1 := hr1.out
  go_wp2_with (refine wpList_load_blk_g (by kernel_rfl) 26 (.tmp 3) rfl rfl A4.out Try.underlying26 rfl ZE.out ?_; refine Held.go ?_)
  refine ⟨?_⟩
  clear hr1
  go_wp2_with fail
  refine (Q9.out _).mono ?_
  rintro _ w11 ⟨rfl, x11⟩
  have I5 := Lib.hid (I5.out.ext x11)
  have X11 := Lib.hid (X10.out.trans x11)
  clear x11 X10 A4
  have hr2 := hr2.out
  go_wp2_with fail
  refine (Q10.out _ _ I5.out).mono ?_
  rintro _ w12 ⟨rfl, x12⟩
  have X12 := Lib.hid (X11.out.trans x12)
  clear x12 X11 hr2
  have hb0 := ent_build0
  go_wp2_with fail
  refine (Q11.out _).mono ?_
  rintro _ w13 ⟨rfl, x13⟩
  have X13 := Lib.hid (X12.out.trans x13)
  clear x13 X12
  go_wp2
  go_ret
  exact ⟨rfl, X13.out⟩
end Go.Proofs.Ytplbebcckffgeaa
