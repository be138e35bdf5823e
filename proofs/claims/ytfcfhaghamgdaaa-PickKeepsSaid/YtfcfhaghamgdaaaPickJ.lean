/- PickLooks: the law; opening of the configuration and of the times. -/
import Derived.Test.YtfcfhaghamgdaaaPickI
import Derived.Test.YtfcfhaghamgdaaaPickG
import Derived.Test.YtfcfhaghamgdaaaPickR
import Derived.Test.YtfcfhaghamgdaaaStructO
import Derived.Test.YtfcfhaghamgdaaaEntO
namespace Go.Proofs.Ytfcfhaghamgdaaa
set_option linter.unusedVariables false
set_option linter.unusedSimpArgs false
open Go.RowKit Go.ChangeShapes Go.WideShapes Go.ChangeAt

section
variable {H : Type} {enc : TypeId × Value → H} {w : World} {base : Nat} {spare : Nat → Bool} {held : Bool}
theorem open_conf {r : Reach} {b0 : Nat} {v : Value} {d : DataW H} {p : List MemPlace} (hv : Value.okWide Try.prog w r b0 23 v) (h : DataW.Trod enc Try.prog w base spare held 23 v d p) :
    ∃ a0 a1 a2 a3 a4 a5 a6 : Int, v = .agg #[.int .i64 a0, .int .i64 a1, .int .i64 a2, .int .i64 a3, .int .i64 a4, .int .i64 a5, .int .i64 a6] := by
  obtain ⟨zs, hl, rfl⟩ := open_int_struct (ti := 3) 7 Try.underlying23 rfl (by kernel_rfl) (by kernel_rfl) Try.underlying3 (by kernel_rfl) hv h
  match zs, hl with
  | [a0, a1, a2, a3, a4, a5, a6], _ => exact ⟨a0, a1, a2, a3, a4, a5, a6, rfl⟩
theorem open_times {r : Reach} {b0 : Nat} {v : Value} {d : DataW H} {p : List MemPlace} (hv : Value.okWide Try.prog w r b0 26 v) (h : DataW.Trod enc Try.prog w base spare held 26 v d p) :
    ∃ a0 a1 a2 a3 : Int, v = .agg #[.int .i64 a0, .int .i64 a1, .int .i64 a2, .int .i64 a3] := by
  obtain ⟨zs, hl, rfl⟩ := open_int_struct (ti := 3) 4 Try.underlying26 rfl (by kernel_rfl) (by kernel_rfl) Try.underlying3 (by kernel_rfl) hv h
  match zs, hl with
  | [a0, a1, a2, a3], _ => exact ⟨a0, a1, a2, a3, rfl⟩
end

set_option maxRecDepth 20000 in
set_option maxHeartbeats 16000000 in
theorem pickLooks_law (blk tgt seg age keep byt old : Int) (v : Value) (l : List E9) (early now more blocks : Int) (w : World) (rd : RR entC 9 w v l) (b : (l.length : Int) ≤ 9223372036854775807) (R : ∀ x ∈ l, True) :
    Calls Try.prog 3 #[.agg #[.int .i64 blk, .int .i64 tgt, .int .i64 seg, .int .i64 age, .int .i64 keep, .int .i64 byt, .int .i64 old], v, .agg #[.int .i64 early, .int .i64 now, .int .i64 more, .int .i64 blocks]] w fun e w' => e = .returned (.bool true) ∧ Ext w w' := by
  have HR := Lib.hid rd
  have qa := Lib.hid awake_any
  have q0 := Lib.hid (fun w h => wDrop_any blk tgt seg age keep byt old now l v w h)
  have q1 := Lib.hid (fun w h => rDrop_any blk tgt seg age keep byt old now l v w h)
  have q2 := Lib.hid (wconf_any blk tgt seg age keep byt old)
  have q3 := Lib.hid (rconf_any blk tgt seg age keep byt old)
  have q4 := Lib.hid (fun w h => wSum_any l v w h)
  have q5 := Lib.hid (fun w h => rSum_any l v w h)
  have q6 := Lib.hid (wFlush_any blk tgt seg age keep byt old more)
  have q7 := Lib.hid (rFlush_any blk tgt seg age keep byt old more)
  have q8 := Lib.hid (wFull_any blk tgt seg age keep byt old early more blocks)
  have q9 := Lib.hid (rFull_any blk tgt seg age keep byt old early more blocks)
  have q10 := Lib.hid (wAged_any blk tgt seg age keep byt old early now)
  have q11 := Lib.hid (rAged_any blk tgt seg age keep byt old early now)
  have XA := Lib.hid (((Ext.refl w).alloc (.cells #[.int .i64 blk, .int .i64 tgt, .int .i64 seg, .int .i64 age, .int .i64 keep, .int .i64 byt, .int .i64 old] 23)).alloc (.cells #[.int .i64 early, .int .i64 now, .int .i64 more, .int .i64 blocks] 26))
  have b1 := (Blk.new w 23 #[.int .i64 blk, .int .i64 tgt, .int .i64 seg, .int .i64 age, .int .i64 keep, .int .i64 byt, .int .i64 old]).alloc (.cells #[.int .i64 early, .int .i64 now, .int .i64 more, .int .i64 blocks] 26)
  have b2 := Blk.new (w.alloc (.cells #[.int .i64 blk, .int .i64 tgt, .int .i64 seg, .int .i64 age, .int .i64 keep, .int .i64 byt, .int .i64 old] 23)) 26 #[.int .i64 early, .int .i64 now, .int .i64 more, .int .i64 blocks]
  rw [World.size_alloc] at b2
  have B1 := Lib.hid b1
  have B2 := Lib.hid b2
  have HZ := Lib.hid conf_size
  clear b1 b2
  obtain ⟨a, c, rfl, hlc, _, _⟩ := rd
  by_cases hn : (200 : Int) < (l.length : Int)
  · go_enter Try.func3, Try.ntmps3
    go_wp2_with fail
    refine (qa.out _).mono ?_
    rintro _ w1 ⟨rfl, x1⟩
    go_wp2
    go_ret
    exact ⟨rfl, XA.out.trans x1⟩
  · generalize dropI blk tgt seg age keep byt old now l = dI at *
    generalize dropE blk tgt seg age keep byt old l = dE at *
    generalize errC (confP blk tgt seg age keep byt old) = eC at *
    generalize sumP l = sP at *
    generalize flushP blk tgt seg age keep byt old more = fP at *
    generalize fullP blk tgt seg age keep byt old early more blocks = uP at *
    generalize agedP blk tgt seg age keep byt old early now = aP at *
    have d1 : ((w.alloc (.cells #[.int .i64 blk, .int .i64 tgt, .int .i64 seg, .int .i64 age, .int .i64 keep, .int .i64 byt, .int .i64 old] 23)).alloc (.cells #[.int .i64 early, .int .i64 now, .int .i64 more, .int .i64 blocks] 26)).cell? ⟨w.heap.size + 1, 1, none⟩ = some (.int .i64 now) := B2.out.cell 1
    go_enter Try.func3, Try.ntmps3
    go_wp2_with (refine wpList_load_blk_g (by kernel_rfl) 23 (.tmp 3) rfl rfl B1.out Try.underlying23 rfl HZ.out ?_)
    refine (q0.out _ (HR.out.ext XA.out)).mono ?_
    rintro _ w1 ⟨rfl, x1⟩
    have X1 := Lib.hid (XA.out.trans x1)
    have B1 := Lib.hid (B1.out.ext x1)
    have B2 := Lib.hid (B2.out.ext x1)
    clear x1
    have d1 : w1.cell? ⟨w.heap.size + 1, 1, none⟩ = some (.int .i64 now) := B2.out.cell 1
    go_wp2_with (refine wpList_load_blk_g (by kernel_rfl) 23 (.tmp 3) rfl rfl B1.out Try.underlying23 rfl HZ.out ?_)
    refine (q1.out _ (HR.out.ext X1.out)).mono ?_
    rintro _ w2 ⟨rfl, x2⟩
    have X2 := Lib.hid (X1.out.trans x2)
    have B1 := Lib.hid (B1.out.ext x2)
    have B2 := Lib.hid (B2.out.ext x2)
    clear x2 d1 X1 q0 q1
    have d0 := fun x => up_cell (W := w2) (show w2.cell? ⟨w.heap.size + 1, 0, none⟩ = some (.int .i64 early) from B2.out.cell 0) x
    have d1 := fun x => up_cell (W := w2) (show w2.cell? ⟨w.heap.size + 1, 1, none⟩ = some (.int .i64 now) from B2.out.cell 1) x
    have d2 := fun x => up_cell (W := w2) (show w2.cell? ⟨w.heap.size + 1, 2, none⟩ = some (.int .i64 more) from B2.out.cell 2) x
    have d3 := fun x => up_cell (W := w2) (show w2.cell? ⟨w.heap.size + 1, 3, none⟩ = some (.int .i64 blocks) from B2.out.cell 3) x
    have qa := Lib.hid (fun x : Up w2 => qa.out x.val)
    have q2 := Lib.hid (fun x : Up w2 => q2.out x.val)
    have q3 := Lib.hid (fun x : Up w2 => q3.out x.val)
    have q4 := Lib.hid (fun x : Up w2 => q4.out x.val (HR.out.ext (X2.out.trans x.ext)))
    have q5 := Lib.hid (fun x : Up w2 => q5.out x.val (HR.out.ext (X2.out.trans x.ext)))
    have q6 := Lib.hid (fun x : Up w2 => q6.out x.val)
    have q7 := Lib.hid (fun x : Up w2 => q7.out x.val)
    have q8 := Lib.hid (fun x : Up w2 => q8.out x.val)
    have q9 := Lib.hid (fun x : Up w2 => q9.out x.val)
    have q10 := Lib.hid (fun x : Up w2 => q10.out x.val)
    have q11 := Lib.hid (fun x : Up w2 => q11.out x.val)
    go_wp2_with fail
    dsimp only [List.append]
    refine wp_region_up (by kernel_rfl) (by kernel_rfl) ?_
    repeat (first
      | (refine wpQuiet_load_blk (by kernel_rfl) 23 (.tmp 3) rfl rfl B1.out Try.underlying23 rfl HZ.out ?_
         dsimp only [Act.put]
         simp only [List.setIfInBounds_toArray, List.set_cons_succ, List.set_cons_zero])
      | (go_big_quiet_step (first
        | (go_at_call 9; (with_reducible exact up_call (q2.out _)))
        | (go_at_call 10; (with_reducible exact up_call (q3.out _)))
        | (go_at_call 11; (with_reducible exact up_call (q4.out _)))
        | (go_at_call 12; (with_reducible exact up_call (q5.out _)))
        | (go_at_call 13; (with_reducible exact up_call (q6.out _)))
        | (go_at_call 14; (with_reducible exact up_call (q7.out _)))
        | (go_at_call 15; (with_reducible exact up_call (q8.out _)))
        | (go_at_call 16; (with_reducible exact up_call (q9.out _)))
        | (go_at_call 17; (with_reducible exact up_call (q10.out _)))
        | (go_at_call 18; (with_reducible exact up_call (q11.out _)))
        | (go_at_call 6; (with_reducible exact up_call (qa.out _)))
        | fail)))
    refine wpQuiet_nil ?_
    rintro _ ⟨z, rfl⟩
    go_wp2
    go_ret
    exact ⟨rfl, X2.out.trans z.ext⟩
end Go.Proofs.Ytfcfhaghamgdaaa
