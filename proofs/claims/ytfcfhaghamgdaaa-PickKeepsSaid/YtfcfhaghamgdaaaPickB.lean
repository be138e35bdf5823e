/- pick, varveref27: Flush, Full, Aged. (Printed by wip/tools/pick2.py.) -/
import Derived.Test.YtfcfhaghamgdaaaPickA
namespace Go.Proofs.Ytfcfhaghamgdaaa
set_option linter.unusedVariables false
set_option linter.unusedSimpArgs false
open Go.RowKit

theorem conf_size : (Try.prog.info? 23).map (·.size) = some 7 := by kernel_rfl
theorem confP_seg {blk tgt seg age keep byt old : Int} (h : confP blk tgt seg age keep byt old = true) : 200 ≤ seg ∧ seg ≤ 100000 ∧ 0 ≤ age ∧ age ≤ 1000000000 ∧ 0 ≤ keep ∧ keep ≤ 90 ∧ 0 ≤ byt ∧ byt ≤ 10000000 ∧ 0 ≤ old ∧ old ≤ 1000000000 := by
  have h : confD blk tgt seg age keep byt old := of_decide_eq_true h
  unfold confD at h
  omega
def flushP (blk tgt seg age keep byt old raw : Int) : Bool := confP blk tgt seg age keep byt old && decide (blk ≤ clampI raw)
def fullP (blk tgt seg age keep byt old size more blocks : Int) : Bool := confP blk tgt seg age keep byt old && (decide (0 < blocks) && (decide (1000 ≤ blocks) || decide (seg < clampI size + clampI more)))
def agedP (blk tgt seg age keep byt old early now : Int) : Bool := confP blk tgt seg age keep byt old && (decide (0 < age) && decide (age ≤ clampI now - clampI early))

set_option maxRecDepth 20000 in
set_option maxHeartbeats 4000000 in
theorem wFlush_any (blk tgt seg age keep byt old : Int) (raw : Int) (w : World) : Calls Try.prog 13 #[.agg #[.int .i64 blk, .int .i64 tgt, .int .i64 seg, .int .i64 age, .int .i64 keep, .int .i64 byt, .int .i64 old], .int .i64 raw] w fun e w' => e = .returned (.bool (flushP blk tgt seg age keep byt old raw)) ∧ Ext w w' := by
  have qc := fun w => wconf_any blk tgt seg age keep byt old w
  unfold flushP
  have B1 := Lib.hid (Blk.new w 23 #[.int .i64 blk, .int .i64 tgt, .int .i64 seg, .int .i64 age, .int .i64 keep, .int .i64 byt, .int .i64 old])
  have HZ := Lib.hid conf_size
  have c0 := up_cell (B1.out.cell 0)
  have c1 := up_cell (B1.out.cell 1)
  have c2 := up_cell (B1.out.cell 2)
  have c3 := up_cell (B1.out.cell 3)
  have c4 := up_cell (B1.out.cell 4)
  have c5 := up_cell (B1.out.cell 5)
  have c6 := up_cell (B1.out.cell 6)
  have ql := Lib.hid (fun w => wclamp_any raw w)
  cases hb : confP blk tgt seg age keep byt old with
  | false =>
    rw [hb] at qc
    simp only [errC, Bool.false_eq_true, if_false] at qc
    have qc := Lib.hid qc
    clear hb
    simp only [Bool.false_and]
    go_enter Try.func13, Try.ntmps13
    go_wp2_with fail
    refine wp_region_up (by kernel_rfl) (by kernel_rfl) ?_
    refine wpQuiet_load_blk (by kernel_rfl) 23 (.tmp 2) rfl rfl B1.out Try.underlying23 rfl HZ.out ?_
    dsimp only [Act.put]
    simp only [List.setIfInBounds_toArray, List.set_cons_succ, List.set_cons_zero]
    repeat (go_big_quiet_step (first | (go_at_call 9; (with_reducible exact up_call (qc.out _))) | (go_at_call 27; (with_reducible exact up_same (ql.out _))) | fail))
    refine wpQuiet_nil ?_
    rintro _ ⟨z, rfl⟩
    go_wp2
    go_ret
    exact ⟨rfl, Ext.trans ((Ext.refl _).alloc _) z.ext⟩
  | true =>
    have hseg := confP_seg hb
    rw [hb] at qc
    simp only [errC, if_true] at qc
    have qc := Lib.hid qc
    clear hb
    simp only [Bool.true_and]
    generalize clampI raw = cr at *
    go_enter Try.func13, Try.ntmps13
    go_wp2_with fail
    refine wp_region_up (by kernel_rfl) (by kernel_rfl) ?_
    refine wpQuiet_load_blk (by kernel_rfl) 23 (.tmp 2) rfl rfl B1.out Try.underlying23 rfl HZ.out ?_
    dsimp only [Act.put]
    simp only [List.setIfInBounds_toArray, List.set_cons_succ, List.set_cons_zero]
    repeat (go_big_quiet_step (first | (go_at_call 9; (with_reducible exact up_call (qc.out _))) | (go_at_call 27; (with_reducible exact up_same (ql.out _))) | fail))
    refine wpQuiet_nil ?_
    rintro _ ⟨z, rfl⟩
    go_wp2
    go_ret
    exact ⟨rfl, Ext.trans ((Ext.refl _).alloc _) z.ext⟩

set_option maxRecDepth 20000 in
set_option maxHeartbeats 4000000 in
theorem wAged_any (blk tgt seg age keep byt old : Int) (early now : Int) (w : World) : Calls Try.prog 17 #[.agg #[.int .i64 blk, .int .i64 tgt, .int .i64 seg, .int .i64 age, .int .i64 keep, .int .i64 byt, .int .i64 old], .int .i64 early, .int .i64 now] w fun e w' => e = .returned (.bool (agedP blk tgt seg age keep byt old early now)) ∧ Ext w w' := by
  have qc := fun w => wconf_any blk tgt seg age keep byt old w
  unfold agedP
  have B1 := Lib.hid (Blk.new w 23 #[.int .i64 blk, .int .i64 tgt, .int .i64 seg, .int .i64 age, .int .i64 keep, .int .i64 byt, .int .i64 old])
  have HZ := Lib.hid conf_size
  have c0 := up_cell (B1.out.cell 0)
  have c1 := up_cell (B1.out.cell 1)
  have c2 := up_cell (B1.out.cell 2)
  have c3 := up_cell (B1.out.cell 3)
  have c4 := up_cell (B1.out.cell 4)
  have c5 := up_cell (B1.out.cell 5)
  have c6 := up_cell (B1.out.cell 6)
  have qe := Lib.hid (fun w => wclamp_any early w)
  have qn := Lib.hid (fun w => wclamp_any now w)
  have le := clampI_le early
  have ln := clampI_le now
  cases hb : confP blk tgt seg age keep byt old with
  | false =>
    rw [hb] at qc
    simp only [errC, Bool.false_eq_true, if_false] at qc
    have qc := Lib.hid qc
    clear hb
    simp only [Bool.false_and]
    go_enter Try.func17, Try.ntmps17
    go_wp2_with fail
    refine wp_region_up (by kernel_rfl) (by kernel_rfl) ?_
    refine wpQuiet_load_blk (by kernel_rfl) 23 (.tmp 3) rfl rfl B1.out Try.underlying23 rfl HZ.out ?_
    dsimp only [Act.put]
    simp only [List.setIfInBounds_toArray, List.set_cons_succ, List.set_cons_zero]
    repeat (go_big_quiet_step (first | (go_at_call 9; (with_reducible exact up_call (qc.out _))) | (go_at_call 27; (with_reducible exact up_same (qe.out _))) | (go_at_call 27; (with_reducible exact up_same (qn.out _))) | fail))
    refine wpQuiet_nil ?_
    rintro _ ⟨z, rfl⟩
    go_wp2
    go_ret
    exact ⟨rfl, Ext.trans ((Ext.refl _).alloc _) z.ext⟩
  | true =>
    have hseg := confP_seg hb
    rw [hb] at qc
    simp only [errC, if_true] at qc
    have qc := Lib.hid qc
    clear hb
    simp only [Bool.true_and]
    generalize clampI early = ce at *
    generalize clampI now = cn at *
    by_cases ha : 0 < age
    · have hd := Lib.hid (show (decide (0 < age) && decide (age ≤ cn - ce)) = decide (age ≤ cn - ce) by rw [decide_eq_true ha, Bool.true_and])
      have e1 : IntKind.i64.wrap (cn - ce) = cn - ce := by rw [IntKind.wrap_i64]; omega
      go_enter Try.func17, Try.ntmps17
      go_wp2_with fail
      refine wp_region_up (by kernel_rfl) (by kernel_rfl) ?_
      refine wpQuiet_load_blk (by kernel_rfl) 23 (.tmp 3) rfl rfl B1.out Try.underlying23 rfl HZ.out ?_
      dsimp only [Act.put]
      simp only [List.setIfInBounds_toArray, List.set_cons_succ, List.set_cons_zero]
      repeat (go_big_quiet_step (first | (go_at_call 9; (with_reducible exact up_call (qc.out _))) | (go_at_call 27; (with_reducible exact up_same (qe.out _))) | (go_at_call 27; (with_reducible exact up_same (qn.out _))) | fail))
      refine wpQuiet_nil ?_
      rintro _ ⟨z, rfl⟩
      go_wp2
      go_ret
      exact ⟨by rw [hd.out]; rfl, Ext.trans ((Ext.refl _).alloc _) z.ext⟩
    · have hd := Lib.hid (show (decide (0 < age) && decide (age ≤ cn - ce)) = false by rw [decide_eq_false ha, Bool.false_and])
      go_enter Try.func17, Try.ntmps17
      go_wp2_with fail
      have ha2 : ¬ 0 < age := by omega
      refine wp_region_up (by kernel_rfl) (by kernel_rfl) ?_
      refine wpQuiet_load_blk (by kernel_rfl) 23 (.tmp 3) rfl rfl B1.out Try.underlying23 rfl HZ.out ?_
      dsimp only [Act.put]
      simp only [List.setIfInBounds_toArray, List.set_cons_succ, List.set_cons_zero]
      repeat (go_big_quiet_step (first | (go_at_call 9; (with_reducible exact up_call (qc.out _))) | (go_at_call 27; (with_reducible exact up_same (qe.out _))) | (go_at_call 27; (with_reducible exact up_same (qn.out _))) | fail))
      refine wpQuiet_nil ?_
      rintro _ ⟨z, rfl⟩
      go_wp2
      go_ret
      exact ⟨by rw [hd.out]; rfl, Ext.trans ((Ext.refl _).alloc _) z.ext⟩

set_option maxRecDepth 20000 in
set_option maxHeartbeats 4000000 in
theorem wFull_any (blk tgt seg age keep byt old : Int) (size more blocks : Int) (w : World) : Calls Try.prog 15 #[.agg #[.int .i64 blk, .int .i64 tgt, .int .i64 seg, .int .i64 age, .int .i64 keep, .int .i64 byt, .int .i64 old], .int .i64 size, .int .i64 more, .int .i64 blocks] w fun e w' => e = .returned (.bool (fullP blk tgt seg age keep byt old size more blocks)) ∧ Ext w w' := by
  have qc := fun w => wconf_any blk tgt seg age keep byt old w
  unfold fullP
  have B1 := Lib.hid (Blk.new w 23 #[.int .i64 blk, .int .i64 tgt, .int .i64 seg, .int .i64 age, .int .i64 keep, .int .i64 byt, .int .i64 old])
  have HZ := Lib.hid conf_size
  have c0 := up_cell (B1.out.cell 0)
  have c1 := up_cell (B1.out.cell 1)
  have c2 := up_cell (B1.out.cell 2)
  have c3 := up_cell (B1.out.cell 3)
  have c4 := up_cell (B1.out.cell 4)
  have c5 := up_cell (B1.out.cell 5)
  have c6 := up_cell (B1.out.cell 6)
  have qs := Lib.hid (fun w => wclamp_any size w)
  have qm := Lib.hid (fun w => wclamp_any more w)
  have ls := clampI_le size
  have lm := clampI_le more
  cases hb : confP blk tgt seg age keep byt old with
  | false =>
    rw [hb] at qc
    simp only [errC, Bool.false_eq_true, if_false] at qc
    have qc := Lib.hid qc
    clear hb
    simp only [Bool.false_and]
    go_enter Try.func15, Try.ntmps15
    go_wp2_with (refine wpList_load_blk rfl 23 (.tmp 4) rfl rfl B1.out Try.underlying23 rfl HZ.out ?_)
    refine (qc.out _).mono ?_
    rintro _ w1 ⟨rfl, x1⟩
    go_wp2
    go_ret
    exact ⟨rfl, ((Ext.refl _).alloc _).trans x1⟩
  | true =>
    have hseg := confP_seg hb
    rw [hb] at qc
    simp only [errC, if_true] at qc
    have qc := Lib.hid qc
    clear hb
    simp only [Bool.true_and]
    generalize clampI size = cs at *
    generalize clampI more = cm at *
    have e1 : IntKind.i64.wrap (cs + cm) = cs + cm := by rw [IntKind.wrap_i64]; omega
    generalize hr : (decide (0 < blocks) && (decide (1000 ≤ blocks) || decide (seg < cs + cm))) = r
    have HR := Lib.hid hr
    clear hr
    by_cases h0 : 0 < blocks
    · have h0' : ¬ blocks < 1 := by omega
      by_cases h1 : 1000 ≤ blocks
      · have hd := Lib.hid (show r = true by rw [← HR.out, decide_eq_true h0, decide_eq_true h1]; rfl)
        go_enter Try.func15, Try.ntmps15
        go_wp2_with (refine wpList_load_blk rfl 23 (.tmp 4) rfl rfl B1.out Try.underlying23 rfl HZ.out ?_)
        refine (qc.out _).mono ?_
        rintro _ w1 ⟨rfl, x1⟩
        have d2 := up_cell (Go.cell_later x1 (B1.out.cell 2))
        go_wp2_with fail
        refine wp_region_up (by kernel_rfl) (by kernel_rfl) ?_
        repeat (go_big_quiet_step (first | (go_at_call 9; (with_reducible exact up_call (qc.out _))) | (go_at_call 27; (with_reducible exact up_same (qs.out _))) | (go_at_call 27; (with_reducible exact up_same (qm.out _))) | fail))
        refine wpQuiet_nil ?_
        rintro _ ⟨z, rfl⟩
        go_wp2
        go_ret
        exact ⟨by rw [hd.out]; rfl, (((Ext.refl _).alloc _).trans x1).trans z.ext⟩
      · have hd := Lib.hid (show r = decide (seg < cs + cm) by rw [← HR.out, decide_eq_true h0, decide_eq_false h1]; rfl)
        go_enter Try.func15, Try.ntmps15
        go_wp2_with (refine wpList_load_blk rfl 23 (.tmp 4) rfl rfl B1.out Try.underlying23 rfl HZ.out ?_)
        refine (qc.out _).mono ?_
        rintro _ w1 ⟨rfl, x1⟩
        have d2 := up_cell (Go.cell_later x1 (B1.out.cell 2))
        go_wp2_with fail
        have h1' : ¬ 1000 ≤ blocks := by omega
        refine wp_region_up (by kernel_rfl) (by kernel_rfl) ?_
        repeat (go_big_quiet_step (first | (go_at_call 9; (with_reducible exact up_call (qc.out _))) | (go_at_call 27; (with_reducible exact up_same (qs.out _))) | (go_at_call 27; (with_reducible exact up_same (qm.out _))) | fail))
        refine wpQuiet_nil ?_
        rintro _ ⟨z, rfl⟩
        go_wp2
        go_ret
        exact ⟨by rw [hd.out]; rfl, (((Ext.refl _).alloc _).trans x1).trans z.ext⟩
    · have h0' : blocks < 1 := by omega
      have hd := Lib.hid (show r = false by rw [← HR.out, decide_eq_false h0]; rfl)
      go_enter Try.func15, Try.ntmps15
      go_wp2_with (refine wpList_load_blk rfl 23 (.tmp 4) rfl rfl B1.out Try.underlying23 rfl HZ.out ?_)
      refine (qc.out _).mono ?_
      rintro _ w1 ⟨rfl, x1⟩
      go_wp2
      go_ret
      exact ⟨by rw [hd.out]; rfl, ((Ext.refl _).alloc _).trans x1⟩

set_option maxRecDepth 20000 in
set_option maxHeartbeats 4000000 in
theorem rFlush_any (blk tgt seg age keep byt old : Int) (raw : Int) (w : World) : Calls Try.prog 14 #[.agg #[.int .i64 blk, .int .i64 tgt, .int .i64 seg, .int .i64 age, .int .i64 keep, .int .i64 byt, .int .i64 old], .int .i64 raw] w fun e w' => e = .returned (.bool (flushP blk tgt seg age keep byt old raw)) ∧ Ext w w' := by
  have qc := fun w => rconf_any blk tgt seg age keep byt old w
  unfold flushP
  have B1 := Lib.hid (Blk.new w 23 #[.int .i64 blk, .int .i64 tgt, .int .i64 seg, .int .i64 age, .int .i64 keep, .int .i64 byt, .int .i64 old])
  have HZ := Lib.hid conf_size
  have c0 := up_cell (B1.out.cell 0)
  have c1 := up_cell (B1.out.cell 1)
  have c2 := up_cell (B1.out.cell 2)
  have c3 := up_cell (B1.out.cell 3)
  have c4 := up_cell (B1.out.cell 4)
  have c5 := up_cell (B1.out.cell 5)
  have c6 := up_cell (B1.out.cell 6)
  have ql := Lib.hid (fun w => rclamp_any raw w)
  cases hb : confP blk tgt seg age keep byt old with
  | false =>
    rw [hb] at qc
    simp only [errC, Bool.false_eq_true, if_false] at qc
    have qc := Lib.hid qc
    clear hb
    simp only [Bool.false_and]
    go_enter Try.func14, Try.ntmps14
    go_wp2_with fail
    refine wp_region_up (by kernel_rfl) (by kernel_rfl) ?_
    refine wpQuiet_load_blk (by kernel_rfl) 23 (.tmp 2) rfl rfl B1.out Try.underlying23 rfl HZ.out ?_
    dsimp only [Act.put]
    simp only [List.setIfInBounds_toArray, List.set_cons_succ, List.set_cons_zero]
    repeat (go_big_quiet_step (first | (go_at_call 10; (with_reducible exact up_call (qc.out _))) | (go_at_call 30; (with_reducible exact up_same (ql.out _))) | fail))
    refine wpQuiet_nil ?_
    rintro _ ⟨z, rfl⟩
    go_wp2
    go_ret
    exact ⟨rfl, Ext.trans ((Ext.refl _).alloc _) z.ext⟩
  | true =>
    have hseg := confP_seg hb
    rw [hb] at qc
    simp only [errC, if_true] at qc
    have qc := Lib.hid qc
    clear hb
    simp only [Bool.true_and]
    generalize clampI raw = cr at *
    go_enter Try.func14, Try.ntmps14
    go_wp2_with fail
    refine wp_region_up (by kernel_rfl) (by kernel_rfl) ?_
    refine wpQuiet_load_blk (by kernel_rfl) 23 (.tmp 2) rfl rfl B1.out Try.underlying23 rfl HZ.out ?_
    dsimp only [Act.put]
    simp only [List.setIfInBounds_toArray, List.set_cons_succ, List.set_cons_zero]
    repeat (go_big_quiet_step (first | (go_at_call 10; (with_reducible exact up_call (qc.out _))) | (go_at_call 30; (with_reducible exact up_same (ql.out _))) | fail))
    refine wpQuiet_nil ?_
    rintro _ ⟨z, rfl⟩
    go_wp2
    go_ret
    exact ⟨rfl, Ext.trans ((Ext.refl _).alloc _) z.ext⟩

set_option maxRecDepth 20000 in
set_option maxHeartbeats 4000000 in
theorem rAged_any (blk tgt seg age keep byt old : Int) (early now : Int) (w : World) : Calls Try.prog 18 #[.agg #[.int .i64 blk, .int .i64 tgt, .int .i64 seg, .int .i64 age, .int .i64 keep, .int .i64 byt, .int .i64 old], .int .i64 early, .int .i64 now] w fun e w' => e = .returned (.bool (agedP blk tgt seg age keep byt old early now)) ∧ Ext w w' := by
  have qc := fun w => rconf_any blk tgt seg age keep byt old w
  unfold agedP
  have B1 := Lib.hid (Blk.new w 23 #[.int .i64 blk, .int .i64 tgt, .int .i64 seg, .int .i64 age, .int .i64 keep, .int .i64 byt, .int .i64 old])
  have HZ := Lib.hid conf_size
  have c0 := up_cell (B1.out.cell 0)
  have c1 := up_cell (B1.out.cell 1)
  have c2 := up_cell (B1.out.cell 2)
  have c3 := up_cell (B1.out.cell 3)
  have c4 := up_cell (B1.out.cell 4)
  have c5 := up_cell (B1.out.cell 5)
  have c6 := up_cell (B1.out.cell 6)
  have qe := Lib.hid (fun w => rclamp_any early w)
  have qn := Lib.hid (fun w => rclamp_any now w)
  have le := clampI_le early
  have ln := clampI_le now
  cases hb : confP blk tgt seg age keep byt old with
  | false =>
    rw [hb] at qc
    simp only [errC, Bool.false_eq_true, if_false] at qc
    have qc := Lib.hid qc
    clear hb
    simp only [Bool.false_and]
    go_enter Try.func18, Try.ntmps18
    go_wp2_with fail
    refine wp_region_up (by kernel_rfl) (by kernel_rfl) ?_
    refine wpQuiet_load_blk (by kernel_rfl) 23 (.tmp 3) rfl rfl B1.out Try.underlying23 rfl HZ.out ?_
    dsimp only [Act.put]
    simp only [List.setIfInBounds_toArray, List.set_cons_succ, List.set_cons_zero]
    repeat (go_big_quiet_step (first | (go_at_call 10; (with_reducible exact up_call (qc.out _))) | (go_at_call 30; (with_reducible exact up_same (qe.out _))) | (go_at_call 30; (with_reducible exact up_same (qn.out _))) | fail))
    refine wpQuiet_nil ?_
    rintro _ ⟨z, rfl⟩
    go_wp2
    go_ret
    exact ⟨rfl, Ext.trans ((Ext.refl _).alloc _) z.ext⟩
  | true =>
    have hseg := confP_seg hb
    rw [hb] at qc
    simp only [errC, if_true] at qc
    have qc := Lib.hid qc
    clear hb
    simp only [Bool.true_and]
    generalize clampI early = ce at *
    generalize clampI now = cn at *
    by_cases ha : 0 < age
    · have hd := Lib.hid (show (decide (0 < age) && decide (age ≤ cn - ce)) = decide (ce + age ≤ cn) by rw [decide_eq_true ha, Bool.true_and]; exact decide_eq_decide.2 ⟨fun h => by omega, fun h => by omega⟩)
      have e1 : IntKind.i64.wrap (ce + age) = ce + age := by rw [IntKind.wrap_i64]; omega
      go_enter Try.func18, Try.ntmps18
      go_wp2_with fail
      refine wp_region_up (by kernel_rfl) (by kernel_rfl) ?_
      refine wpQuiet_load_blk (by kernel_rfl) 23 (.tmp 3) rfl rfl B1.out Try.underlying23 rfl HZ.out ?_
      dsimp only [Act.put]
      simp only [List.setIfInBounds_toArray, List.set_cons_succ, List.set_cons_zero]
      repeat (go_big_quiet_step (first | (go_at_call 10; (with_reducible exact up_call (qc.out _))) | (go_at_call 30; (with_reducible exact up_same (qe.out _))) | (go_at_call 30; (with_reducible exact up_same (qn.out _))) | fail))
      refine wpQuiet_nil ?_
      rintro _ ⟨z, rfl⟩
      go_wp2
      go_ret
      exact ⟨by rw [hd.out]; rfl, Ext.trans ((Ext.refl _).alloc _) z.ext⟩
    · have hd := Lib.hid (show (decide (0 < age) && decide (age ≤ cn - ce)) = false by rw [decide_eq_false ha, Bool.false_and])
      go_enter Try.func18, Try.ntmps18
      go_wp2_with fail
      have ha2 : ¬ 0 < age := by omega
      refine wp_region_up (by kernel_rfl) (by kernel_rfl) ?_
      refine wpQuiet_load_blk (by kernel_rfl) 23 (.tmp 3) rfl rfl B1.out Try.underlying23 rfl HZ.out ?_
      dsimp only [Act.put]
      simp only [List.setIfInBounds_toArray, List.set_cons_succ, List.set_cons_zero]
      repeat (go_big_quiet_step (first | (go_at_call 10; (with_reducible exact up_call (qc.out _))) | (go_at_call 30; (with_reducible exact up_same (qe.out _))) | (go_at_call 30; (with_reducible exact up_same (qn.out _))) | fail))
      refine wpQuiet_nil ?_
      rintro _ ⟨z, rfl⟩
      go_wp2
      go_ret
      exact ⟨by rw [hd.out]; rfl, Ext.trans ((Ext.refl _).alloc _) z.ext⟩

set_option maxRecDepth 20000 in
set_option maxHeartbeats 4000000 in
theorem rFull_any (blk tgt seg age keep byt old : Int) (size more blocks : Int) (w : World) : Calls Try.prog 16 #[.agg #[.int .i64 blk, .int .i64 tgt, .int .i64 seg, .int .i64 age, .int .i64 keep, .int .i64 byt, .int .i64 old], .int .i64 size, .int .i64 more, .int .i64 blocks] w fun e w' => e = .returned (.bool (fullP blk tgt seg age keep byt old size more blocks)) ∧ Ext w w' := by
  have qc := fun w => rconf_any blk tgt seg age keep byt old w
  unfold fullP
  have B1 := Lib.hid (Blk.new w 23 #[.int .i64 blk, .int .i64 tgt, .int .i64 seg, .int .i64 age, .int .i64 keep, .int .i64 byt, .int .i64 old])
  have HZ := Lib.hid conf_size
  have c0 := up_cell (B1.out.cell 0)
  have c1 := up_cell (B1.out.cell 1)
  have c2 := up_cell (B1.out.cell 2)
  have c3 := up_cell (B1.out.cell 3)
  have c4 := up_cell (B1.out.cell 4)
  have c5 := up_cell (B1.out.cell 5)
  have c6 := up_cell (B1.out.cell 6)
  have qs := Lib.hid (fun w => rclamp_any size w)
  have qm := Lib.hid (fun w => rclamp_any more w)
  have ls := clampI_le size
  have lm := clampI_le more
  cases hb : confP blk tgt seg age keep byt old with
  | false =>
    rw [hb] at qc
    simp only [errC, Bool.false_eq_true, if_false] at qc
    have qc := Lib.hid qc
    clear hb
    simp only [Bool.false_and]
    go_enter Try.func16, Try.ntmps16
    go_wp2_with fail
    refine wp_region_up (by kernel_rfl) (by kernel_rfl) ?_
    refine wpQuiet_load_blk (by kernel_rfl) 23 (.tmp 4) rfl rfl B1.out Try.underlying23 rfl HZ.out ?_
    dsimp only [Act.put]
    simp only [List.setIfInBounds_toArray, List.set_cons_succ, List.set_cons_zero]
    repeat (go_big_quiet_step (first | (go_at_call 10; (with_reducible exact up_call (qc.out _))) | (go_at_call 30; (with_reducible exact up_same (qs.out _))) | (go_at_call 30; (with_reducible exact up_same (qm.out _))) | fail))
    refine wpQuiet_nil ?_
    rintro _ ⟨z, rfl⟩
    go_wp2
    go_ret
    exact ⟨rfl, Ext.trans ((Ext.refl _).alloc _) z.ext⟩
  | true =>
    have hseg := confP_seg hb
    rw [hb] at qc
    simp only [errC, if_true] at qc
    have qc := Lib.hid qc
    clear hb
    simp only [Bool.true_and]
    generalize clampI size = cs at *
    generalize clampI more = cm at *
    have e1 : IntKind.i64.wrap (cs + cm) = cs + cm := by rw [IntKind.wrap_i64]; omega
    generalize hr : (decide (0 < blocks) && (decide (1000 ≤ blocks) || decide (seg < cs + cm))) = r
    have HR := Lib.hid hr
    clear hr
    by_cases h0 : 0 < blocks
    · by_cases h2 : seg < cs + cm
      · have hd := Lib.hid (show r = true by rw [← HR.out, decide_eq_true h0, decide_eq_true h2, Bool.or_true]; rfl)
        go_enter Try.func16, Try.ntmps16
        go_wp2_with fail
        refine wp_region_up (by kernel_rfl) (by kernel_rfl) ?_
        refine wpQuiet_load_blk (by kernel_rfl) 23 (.tmp 4) rfl rfl B1.out Try.underlying23 rfl HZ.out ?_
        dsimp only [Act.put]
        simp only [List.setIfInBounds_toArray, List.set_cons_succ, List.set_cons_zero]
        repeat (go_big_quiet_step (first | (go_at_call 10; (with_reducible exact up_call (qc.out _))) | (go_at_call 30; (with_reducible exact up_same (qs.out _))) | (go_at_call 30; (with_reducible exact up_same (qm.out _))) | fail))
        refine wpQuiet_nil ?_
        rintro _ ⟨z, rfl⟩
        go_wp2
        go_ret
        exact ⟨by rw [hd.out]; rfl, Ext.trans ((Ext.refl _).alloc _) z.ext⟩
      · have hd := Lib.hid (show r = decide (999 < blocks) by rw [← HR.out, decide_eq_true h0, decide_eq_false h2, Bool.or_false, Bool.true_and]; exact decide_eq_decide.2 ⟨fun h => by omega, fun h => by omega⟩)
        go_enter Try.func16, Try.ntmps16
        go_wp2_with fail
        have h2' : ¬ seg < cs + cm := by omega
        refine wp_region_up (by kernel_rfl) (by kernel_rfl) ?_
        refine wpQuiet_load_blk (by kernel_rfl) 23 (.tmp 4) rfl rfl B1.out Try.underlying23 rfl HZ.out ?_
        dsimp only [Act.put]
        simp only [List.setIfInBounds_toArray, List.set_cons_succ, List.set_cons_zero]
        repeat (go_big_quiet_step (first | (go_at_call 10; (with_reducible exact up_call (qc.out _))) | (go_at_call 30; (with_reducible exact up_same (qs.out _))) | (go_at_call 30; (with_reducible exact up_same (qm.out _))) | fail))
        refine wpQuiet_nil ?_
        rintro _ ⟨z, rfl⟩
        go_wp2
        go_ret
        exact ⟨by rw [hd.out]; rfl, Ext.trans ((Ext.refl _).alloc _) z.ext⟩
    · have hd := Lib.hid (show r = false by rw [← HR.out, decide_eq_false h0]; rfl)
      go_enter Try.func16, Try.ntmps16
      go_wp2_with fail
      have h0' : ¬ 0 < blocks := by omega
      refine wp_region_up (by kernel_rfl) (by kernel_rfl) ?_
      refine wpQuiet_load_blk (by kernel_rfl) 23 (.tmp 4) rfl rfl B1.out Try.underlying23 rfl HZ.out ?_
      dsimp only [Act.put]
      simp only [List.setIfInBounds_toArray, List.set_cons_succ, List.set_cons_zero]
      repeat (go_big_quiet_step (first | (go_at_call 10; (with_reducible exact up_call (qc.out _))) | (go_at_call 30; (with_reducible exact up_same (qs.out _))) | (go_at_call 30; (with_reducible exact up_same (qm.out _))) | fail))
      refine wpQuiet_nil ?_
      rintro _ ⟨z, rfl⟩
      go_wp2
      go_ret
      exact ⟨by rw [hd.out]; rfl, Ext.trans ((Ext.refl _).alloc _) z.ext⟩
end Go.Proofs.Ytfcfhaghamgdaaa
