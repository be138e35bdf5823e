/- PickKeeps: the law. -/
import Derived.Test.YtfcfhaghamgdaaaPickM
import Derived.Test.YtfcfhaghamgdaaaMinMax
namespace Go.Proofs.Ytfcfhaghamgdaaa
set_option linter.unusedVariables false
set_option linter.unusedSimpArgs false
open Go.RowKit

set_option maxRecDepth 20000 in
set_option maxHeartbeats 16000000 in
theorem pickKeeps_law (blk tgt seg age keep byt old : Int) (v : Value) (l : List E9) (early now more blocks : Int) (w : World) (rd : RR entC 9 w v l) (b : (l.length : Int) ≤ 9223372036854775807) (R : ∀ x ∈ l, True) :
    Calls Try.prog 5 #[.agg #[.int .i64 blk, .int .i64 tgt, .int .i64 seg, .int .i64 age, .int .i64 keep, .int .i64 byt, .int .i64 old], v, .agg #[.int .i64 early, .int .i64 now, .int .i64 more, .int .i64 blocks]] w fun e w' => e = .returned (.bool true) ∧ Ext w w' := by
  have HR := Lib.hid rd
  have qa := Lib.hid awake_any
  obtain ⟨late, hlate⟩ : ∃ late, late = max now early := ⟨_, rfl⟩
  have q0 := Lib.hid (fun w h => wDrop_any blk tgt seg age keep byt old now l v w h)
  have q1 := Lib.hid (fun w h => wDrop_any blk tgt seg age keep byt old late l v w h)
  have q3 := Lib.hid (fun w h => wDrop_any blk tgt seg age 0 0 0 now l v w h)
  have mx := fun w => max2_run now early late hlate w
  have hle : now ≤ late := by omega
  clear hlate
  have XA := Lib.hid (((Ext.refl w).alloc (.cells #[.int .i64 blk, .int .i64 tgt, .int .i64 seg, .int .i64 age, .int .i64 keep, .int .i64 byt, .int .i64 old] 23)).alloc (.cells #[.int .i64 early, .int .i64 now, .int .i64 more, .int .i64 blocks] 26))
  have b1 := (Blk.new w 23 #[.int .i64 blk, .int .i64 tgt, .int .i64 seg, .int .i64 age, .int .i64 keep, .int .i64 byt, .int .i64 old]).alloc (.cells #[.int .i64 early, .int .i64 now, .int .i64 more, .int .i64 blocks] 26)
  have b2 := Blk.new (w.alloc (.cells #[.int .i64 blk, .int .i64 tgt, .int .i64 seg, .int .i64 age, .int .i64 keep, .int .i64 byt, .int .i64 old] 23)) 26 #[.int .i64 early, .int .i64 now, .int .i64 more, .int .i64 blocks]
  rw [World.size_alloc] at b2
  have B1 := Lib.hid b1
  have B2 := Lib.hid b2
  have HZ := Lib.hid conf_size
  clear b1 b2
  obtain ⟨a, c, rfl, hlc, _, _⟩ := rd
  by_cases hn : (200 : Int) < (l.length : Int)
  · go_enter Try.func5, Try.ntmps5
    go_wp2_with fail
    refine (qa.out _).mono ?_
    rintro _ w1 ⟨rfl, x1⟩
    go_wp2
    go_ret
    exact ⟨rfl, XA.out.trans x1⟩
  · have d1 : ((w.alloc (.cells #[.int .i64 blk, .int .i64 tgt, .int .i64 seg, .int .i64 age, .int .i64 keep, .int .i64 byt, .int .i64 old] 23)).alloc (.cells #[.int .i64 early, .int .i64 now, .int .i64 more, .int .i64 blocks] 26)).cell? ⟨w.heap.size + 1, 1, none⟩ = some (.int .i64 now) := B2.out.cell 1
    cases hb : confP blk tgt seg age keep byt old && rowP l with
    | false =>
      obtain ⟨e1, e2⟩ := drop_bad now hb
      rw [e2] at q0
      clear hb e2
      generalize dropE blk tgt seg age keep byt old l = dE at *
      go_enter Try.func5, Try.ntmps5
      go_wp2_with (refine wpList_load_blk_g (by kernel_rfl) 23 (.tmp 3) rfl rfl B1.out Try.underlying23 rfl HZ.out ?_)
      refine (q0.out _ (HR.out.ext XA.out)).mono ?_
      rintro _ w1 ⟨rfl, x1⟩
      go_wp2_with fail
      refine (qa.out _).mono ?_
      rintro _ w2 ⟨rfl, x2⟩
      go_wp2
      go_ret
      exact ⟨rfl, (XA.out.trans x1).trans x2⟩
    | true =>
      rw [Bool.and_eq_true] at hb
      obtain ⟨hb, hrow⟩ := hb
      have hseg := confP_seg hb
      obtain ⟨e1, e2⟩ := drop_ok now hb hrow
      rw [e1, e2] at q0
      obtain ⟨e3, e4⟩ := drop_ok late hb hrow
      rw [e3, e4] at q1
      obtain ⟨e5, e6⟩ := drop_ok now (confP_none hb) hrow
      rw [e5, e6] at q3
      clear e1 e2 e3 e4 e5 e6
      obtain ⟨h1, h2, _, _⟩ := rowP_parts hrow
      obtain ⟨m, hm⟩ : ∃ m, l.length = m + 1 := ⟨l.length - 1, by omega⟩
      have HRI := row_rising hrow
      have hml : (l.take (l.length - 1)).length = m := by rw [List.length_take]; omega
      have hk0 := hseg.2.2.2.2.1
      have hb0 := hseg.2.2.2.2.2.2.1
      have z3 : dropL 0 0 0 now (l.take (l.length - 1)) = 0 := drop_enough (Int.le_refl _) (Int.le_refl _) (HRI 0) (enough_none _)
      rw [z3] at q3
      have hmono := dropL_mono (old := old) hk0 hb0 hle m _ hml HRI
      obtain ⟨s1, _⟩ := dropL_spec (old := old) (now := now) hk0 hb0 m _ hml HRI
      have hdl := dropL_le keep byt old now (l.take (l.length - 1))
      have hdl2 := dropL_le keep byt old late (l.take (l.length - 1))
      rw [hml] at hdl hdl2
      have z2 := drop_enough hk0 hb0 (HRI (dropL keep byt old now (l.take (l.length - 1)))) s1
      generalize dropL keep byt old now (l.take (l.length - 1)) = n at *
      generalize dropL keep byt old late (l.take (l.length - 1)) = n2 at *
      have hrow2 := rowP_drop hrow n (by omega)
      obtain ⟨e1, e2⟩ := drop_ok now hb hrow2
      have ht : (l.drop n).take ((l.drop n).length - 1) = (l.take (l.length - 1)).drop n := by
        rw [List.length_drop, List.drop_take, show l.length - n - 1 = l.length - 1 - n by omega]
      rw [ht, z2] at e2
      have q2 := Lib.hid (fun v w h => wDrop_any blk tgt seg age keep byt old now (l.drop n) v w h)
      rw [e1, e2] at q2
      have qd := Lib.hid (fun w h => eDrop_any l n (.slice a l.length c) w h (by omega))
      have ed : eDropE l (n : Int) = 0 := by
        unfold eDropE
        rw [hrow, if_pos rfl, if_pos (by omega)]
      rw [show eDropL l (n : Int) = l.drop n by unfold eDropL; rw [ed]; rfl, ed] at qd
      have hnn : (n : Int) ≤ (n2 : Int) := by omega
      clear hb hrow hseg h1 h2 hm HRI hml hk0 hb0 z3 hmono s1 hdl hdl2 z2 hrow2 e1 e2 ht ed hle
      go_enter Try.func5, Try.ntmps5
      go_wp2_with (refine wpList_load_blk_g (by kernel_rfl) 23 (.tmp 3) rfl rfl B1.out Try.underlying23 rfl HZ.out ?_)
      refine (q0.out _ (HR.out.ext XA.out)).mono ?_
      rintro _ w1 ⟨rfl, x1⟩
      have X1 := Lib.hid (XA.out.trans x1)
      have B1 := Lib.hid (B1.out.ext x1)
      have B2 := Lib.hid (B2.out.ext x1)
      clear x1 d1
      have d1 : w1.cell? ⟨w.heap.size + 1, 1, none⟩ = some (.int .i64 now) := B2.out.cell 1
      have d0 : w1.cell? ⟨w.heap.size + 1, 0, none⟩ = some (.int .i64 early) := B2.out.cell 0
      go_wp2_with (refine wpList_load_blk_g (by kernel_rfl) 23 (.tmp 3) rfl rfl B1.out Try.underlying23 rfl HZ.out ?_)
      refine (q1.out _ (HR.out.ext X1.out)).mono ?_
      rintro _ w2 ⟨rfl, x2⟩
      have X2 := Lib.hid (X1.out.trans x2)
      have B1 := Lib.hid (B1.out.ext x2)
      have B2 := Lib.hid (B2.out.ext x2)
      clear x2 d1 d0 X1
      go_wp2_with fail
      refine (qd.out _ (HR.out.ext X2.out)).mono ?_
      rintro _ w3 ⟨v3, rfl, x3, i3⟩
      have X3 := Lib.hid (X2.out.trans x3)
      have B1 := Lib.hid (B1.out.ext x3)
      have B2 := Lib.hid (B2.out.ext x3)
      have I3 := Lib.hid (i3.rr entC_length)
      clear x3 i3 X2
      have d1 : w3.cell? ⟨w.heap.size + 1, 1, none⟩ = some (.int .i64 now) := B2.out.cell 1
      go_wp2_with (refine wpList_load_blk_g (by kernel_rfl) 23 (.tmp 3) rfl rfl B1.out Try.underlying23 rfl HZ.out ?_)
      refine (q2.out _ _ I3.out).mono ?_
      rintro _ w4 ⟨rfl, x4⟩
      have X4 := Lib.hid (X3.out.trans x4)
      have B1 := Lib.hid (B1.out.ext x4)
      have B2 := Lib.hid (B2.out.ext x4)
      clear x4 d1 X3
      have k4 : w4.cell? ⟨w.heap.size, 4, none⟩ = some (.int .i64 keep) := B1.out.cell 4
      have f4 := B1.out.frozen 4
      have B11 := Lib.hid (show Blk (w4.setCell ⟨w.heap.size, 4, none⟩ (.int .i64 0)) w.heap.size 23 #[.int .i64 blk, .int .i64 tgt, .int .i64 seg, .int .i64 age, .int .i64 0, .int .i64 byt, .int .i64 old] from B1.out.set_ 4 (.int .i64 0))
      have k5 := B11.out.cell 5
      have f5 := B11.out.frozen 5
      have B12 := Lib.hid (show Blk ((w4.setCell ⟨w.heap.size, 4, none⟩ (.int .i64 0)).setCell ⟨w.heap.size, 5, none⟩ (.int .i64 0)) w.heap.size 23 #[.int .i64 blk, .int .i64 tgt, .int .i64 seg, .int .i64 age, .int .i64 0, .int .i64 0, .int .i64 old] from B11.out.set_ 5 (.int .i64 0))
      have k6 := B12.out.cell 6
      have f6 := B12.out.frozen 6
      have B13 := Lib.hid (show Blk (((w4.setCell ⟨w.heap.size, 4, none⟩ (.int .i64 0)).setCell ⟨w.heap.size, 5, none⟩ (.int .i64 0)).setCell ⟨w.heap.size, 6, none⟩ (.int .i64 0)) w.heap.size 23 #[.int .i64 blk, .int .i64 tgt, .int .i64 seg, .int .i64 age, .int .i64 0, .int .i64 0, .int .i64 0] from B12.out.set_ 6 (.int .i64 0))
      have X5 := Lib.hid (Ext.set (Ext.set (Ext.set X4.out (p := ⟨w.heap.size, 4, none⟩) (Nat.le_refl _) (.int .i64 0)) (p := ⟨w.heap.size, 5, none⟩) (Nat.le_refl _) (.int .i64 0)) (p := ⟨w.heap.size, 6, none⟩) (Nat.le_refl _) (.int .i64 0))
      have B23 := Lib.hid (((B2.out.far (p := ⟨w.heap.size, 4, none⟩) (by show w.heap.size + 1 ≠ w.heap.size; omega) (.int .i64 0)).far (p := ⟨w.heap.size, 5, none⟩) (by show w.heap.size + 1 ≠ w.heap.size; omega) (.int .i64 0)).far (p := ⟨w.heap.size, 6, none⟩) (by show w.heap.size + 1 ≠ w.heap.size; omega) (.int .i64 0))
      have d1 : (((w4.setCell ⟨w.heap.size, 4, none⟩ (.int .i64 0)).setCell ⟨w.heap.size, 5, none⟩ (.int .i64 0)).setCell ⟨w.heap.size, 6, none⟩ (.int .i64 0)).cell? ⟨w.heap.size + 1, 1, none⟩ = some (.int .i64 now) := B23.out.cell 1
      go_wp2_with (refine wpList_load_blk_g (by kernel_rfl) 23 (.tmp 3) rfl rfl B13.out Try.underlying23 rfl HZ.out ?_)
      refine (q3.out _ (HR.out.ext X5.out)).mono ?_
      rintro _ w5 ⟨rfl, x5⟩
      have X6 := Lib.hid (X5.out.trans x5)
      clear x5 d1 k4 k5 k6 f4 f5 f6
      go_wp2_with fail
      refine (qa.out _).mono ?_
      rintro _ w6 ⟨rfl, x6⟩
      go_wp2
      go_ret
      exact ⟨rfl, X6.out.trans x6⟩
end Go.Proofs.Ytfcfhaghamgdaaa
