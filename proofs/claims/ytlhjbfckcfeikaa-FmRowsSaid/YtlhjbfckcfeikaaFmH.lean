/- fm: none, Back. -/
import Derived.Test.YtlhjbfckcfeikaaFmG
import Derived.Test.YtlhjbfckcfeikaaMinMax
namespace Go.Proofs.Ytlhjbfckcfeikaa
set_option linter.unusedVariables false
set_option linter.unusedSimpArgs false
open Go.RowKit
attribute [local go_sem] S_size S_toList S_extract S_beq S_bne S_empty S_nil u8_beq U8_fold U8_toNat

set_option maxRecDepth 20000 in
theorem none_any (w : World) : Calls Try.prog 30 #[] w fun e w' => e = .returned (.agg #[.int .i64 1, .int .i64 0]) ∧ Ext w w' := by
  have RS := Lib.hid rng_size
  have X0 := Lib.hid ((Ext.refl w).alloc (.cells #[.int .i64 1, .int .i64 0] 23))
  have B0 := Lib.hid (Blk.new w 23 #[.int .i64 1, .int .i64 0])
  go_enter Try.func30, Try.ntmps30
  go_wp2_with (refine wpList_store_new rfl 23 (.tmp 0) (.tmp 1) rfl rfl rfl rfl RS.out (by kernel_rfl) ?_)
  exact bodyPost_ret (results_cell_row rfl _ _ w.heap.size _ _ (0, 0) _ rfl B0.out Try.underlying23 rfl RS.out) rfl ⟨rfl, X0.out⟩

set_option maxRecDepth 20000 in
set_option maxHeartbeats 8000000 in
theorem back_any (l : List UInt8) (q : Nat) (v : Value) (lo hi : Int) (b : UInt8) (w : World) (hl : (l.length : Int) ≤ 20000) (ho : okI l q = true) (hq : q < l.length + 1) (h : IX w v l q) :
    Calls Try.prog 18 #[v, .agg #[.int .i64 lo, .int .i64 hi], .int .u8 (U8 b)] w fun e w' => e = .returned (.agg #[.int .i64 (bkR l q lo hi b).1, .int .i64 (bkR l q lo hi b).2]) ∧ Ext w w' := by
  have RS := Lib.hid rng_size
  have QN := Lib.hid none_any
  obtain ⟨M, hM⟩ : ∃ M, M = max lo 0 := ⟨_, rfl⟩
  obtain ⟨N, hN⟩ : ∃ N, N = min hi (l.length : Int) := ⟨_, rfl⟩
  have hmx := fun w => max2_run lo 0 M hM w
  have hmn := fun w => min2_run hi (l.length : Int) N hN w
  rw [bk_clip, ← hM, ← hN]
  have X0 := Lib.hid (((Ext.refl w).alloc (.cells #[.int .i64 lo, .int .i64 hi] 23)).alloc (.cells #[.int .i64 0, .int .i64 0] 23))
  have B4 := Lib.hid ((Blk.new w 23 #[.int .i64 lo, .int .i64 hi]).alloc (.cells #[.int .i64 0, .int .i64 0] 23))
  have b6 := Blk.new (w.alloc (.cells #[.int .i64 lo, .int .i64 hi] 23)) 23 #[.int .i64 0, .int .i64 0]
  rw [World.size_alloc] at b6
  have B6 := Lib.hid b6
  have I0 := Lib.hid (h.ext X0.out)
  obtain ⟨g, kv, pv, rfl, hb, _, _⟩ := h
  have GB := Lib.hid (hb.ext X0.out)
  have hM0 : 0 ≤ M := by omega
  have hN0 : N ≤ (l.length : Int) := by omega
  clear b6 hb hM hN
  have cm := GB.out.cell 261
  rw [idx_m] at cm
  have c0 := GB.out.cell 0
  rw [idx_0] at c0
  have d4 := B4.out.cell 0
  have d5 := B4.out.cell 1
  simp only [List.getElem?_toArray, List.getElem?_cons_zero, List.getElem?_cons_succ] at d4 d5
  by_cases hlt : N < M
  · rw [bk_none b hlt]
    clear hM0 hN0
    go_enter Try.func18, Try.ntmps18
    go_wp2
    generalize (w.alloc (.cells #[.int .i64 lo, .int .i64 hi] 23)).alloc (.cells #[.int .i64 0, .int .i64 0] 23) = W0 at *
    have u0 := up_cell c0
    have u4 := up_cell d4
    have u5 := up_cell d5
    refine wp_region_up (by kernel_rfl) (by kernel_rfl) ?_
    repeat (go_big_quiet_step (fail))
    refine wpQuiet_nil ?_
    rintro _ ⟨z, rfl⟩
    have B6 := Lib.hid (B6.out.ext z.ext)
    have X1 := Lib.hid (X0.out.trans z.ext)
    clear u0 u4 u5 c0 d4 d5 cm
    generalize z.val = w1 at *
    go_wp2_with fail
    refine (QN.out _).mono ?_
    rintro _ w2 ⟨rfl, x2⟩
    have B7 := Lib.hid (B6.out.ext x2)
    have X2 := Lib.hid (X1.out.trans x2)
    clear x2
    go_wp2_with (refine wpList_store_blk rfl 23 (.tmp 6) (.tmp 35) rfl rfl rfl B7.out rfl RS.out (by kernel_rfl) ?_)
    exact bodyPost_ret (results_cell_row rfl _ _ (w.heap.size + 1) _ _ (0, 0) _ rfl (B7.out.setRow _) Try.underlying23 rfl RS.out) rfl ⟨rfl, Ext.setRow X2.out (by omega) _⟩
  · obtain ⟨m, rfl⟩ : ∃ m : Nat, M = (m : Int) := ⟨M.toNat, by omega⟩
    obtain ⟨n, rfl⟩ : ∃ n : Nat, N = (n : Int) := ⟨N.toNat, by omega⟩
    have hmn2 : m ≤ n := by omega
    have hnl : n ≤ l.length := by omega
    rw [bk_eq ho hq b hmn2 hnl, next_ahead (by omega) _ (by omega), next_ahead (by omega) _ (by omega)]
    have QA1 := Lib.hid (fun w h => ahead_any l q (.pointer (some ⟨g, 0, none⟩)) b m w hl (by omega) (by omega) h)
    have QA2 := Lib.hid (fun w h => (show Calls Try.prog 35 #[.pointer (some ⟨g, 0, none⟩), .int .u8 (U8 b), .int .i64 ((n : Int) + 1)] w fun e w' => e = .returned (.int .i64 (cntL (l.take (lastN q (n + 1))) (B8 b) : Int)) ∧ Ext w w' from ahead_any l q (.pointer (some ⟨g, 0, none⟩)) b (n + 1) w hl (by omega) (by omega) h))
    have cs := GB.out.cell (2 + B8 b)
    rw [idx_st (by have := B8_lt b; omega)] at cs
    have hs := st_le (l := l) (B8 b) (by have := B8_lt b; omega)
    have h1 := cntL_le (l.take (lastN q m)) (B8 b)
    have h2 := cntL_le (l.take (lastN q (n + 1))) (B8 b)
    rw [List.length_take] at h1 h2
    show Calls _ _ _ _ fun e w' => e = .returned (.agg #[.int .i64 (ivR (stN l (B8 b) + cntL (l.take (lastN q m)) (B8 b)) (stN l (B8 b) + cntL (l.take (lastN q (n + 1))) (B8 b))).1, .int .i64 (ivR (stN l (B8 b) + cntL (l.take (lastN q m)) (B8 b)) (stN l (B8 b) + cntL (l.take (lastN q (n + 1))) (B8 b))).2]) ∧ _
    have hu0 := U8_nonneg b
    have hu1 := U8_lt b
    have hu2 : U8 b < 257 := by omega
    have he : IX w (.pointer (some ⟨g, 0, none⟩)) l q → True := fun _ => trivial
    generalize stN l (B8 b) = s at *
    generalize cntL (l.take (lastN q m)) (B8 b) = x at *
    generalize cntL (l.take (lastN q (n + 1))) (B8 b) = y at *
    have hw1 : IntKind.i64.wrap ((s : Int) + (x : Int)) = (s : Int) + (x : Int) := by rw [IntKind.wrap_i64]; omega
    have hw2 : IntKind.i64.wrap ((s : Int) + (y : Int)) = (s : Int) + (y : Int) := by rw [IntKind.wrap_i64]; omega
    have hw3 : IntKind.i64.wrap ((n : Int) + 1) = (n : Int) + 1 := by rw [IntKind.wrap_i64]; omega
    have hsy : (s : Int) + (y : Int) ≤ 100000 := by omega
    clear h1 h2 ho hq he hnl hM0 hN0 hmn2
    go_enter Try.func18, Try.ntmps18
    go_wp2
    generalize (w.alloc (.cells #[.int .i64 lo, .int .i64 hi] 23)).alloc (.cells #[.int .i64 0, .int .i64 0] 23) = W0 at *
    have u0 := up_cell c0
    have u4 := up_cell d4
    have u5 := up_cell d5
    refine wp_region_up (by kernel_rfl) (by kernel_rfl) ?_
    repeat (go_big_quiet_step (fail))
    refine wpQuiet_nil ?_
    rintro _ ⟨z, rfl⟩
    have B6 := Lib.hid (B6.out.ext z.ext)
    have X1 := Lib.hid (X0.out.trans z.ext)
    have I1 := Lib.hid (I0.out.ext z.ext)
    have cs := Go.cell_later z.ext cs
    clear u0 u4 u5 c0 d4 d5 cm I0 X0
    generalize z.val = w1 at *
    go_wp2
    have us := up_cell cs
    have q1 := Lib.hid (fun x : Up w1 => QA1.out _ (I1.out.ext x.ext))
    have q2 := Lib.hid (fun x : Up w1 => QA2.out _ (I1.out.ext x.ext))
    refine wp_region_up (by kernel_rfl) (by kernel_rfl) ?_
    repeat (go_big_quiet_step (first | (go_at_call 35; (first | (with_reducible exact up_call (q1.out _)) | (with_reducible exact up_call (q2.out _))))))
    refine wpQuiet_nil ?_
    rintro _ ⟨z, rfl⟩
    have B6 := Lib.hid (B6.out.ext z.ext)
    have X2 := Lib.hid (X1.out.trans z.ext)
    clear X1 I1 us q1 q2 cs
    generalize z.val = w2 at *
    by_cases hft : y ≤ x
    · have hge : (s : Int) + (y : Int) ≤ (s : Int) + (x : Int) := by omega
      have HI := Lib.hid (show ivR (s + x) (s + y) = (1, 0) from by unfold ivR; rw [if_neg (by omega)])
      go_wp2_with fail
      refine (QN.out _).mono ?_
      rintro _ w3 ⟨rfl, x3⟩
      have B7 := Lib.hid (B6.out.ext x3)
      have X3 := Lib.hid (X2.out.trans x3)
      clear x3
      go_wp2_with (refine wpList_store_blk rfl 23 (.tmp 6) (.tmp 62) rfl rfl rfl B7.out rfl RS.out (by kernel_rfl) ?_)
      exact bodyPost_ret (results_cell_row rfl _ _ (w.heap.size + 1) _ _ (0, 0) _ rfl (B7.out.setRow _) Try.underlying23 rfl RS.out) rfl ⟨by rw [HI.out], Ext.setRow X3.out (by omega) _⟩
    · have hge : ¬ (s : Int) + (y : Int) ≤ (s : Int) + (x : Int) := by omega
      have hw4 : IntKind.i64.wrap ((s : Int) + (y : Int) - 1) = (s : Int) + (y : Int) - 1 := by rw [IntKind.wrap_i64]; omega
      have HI := Lib.hid (show ivR (s + x) (s + y) = ((s : Int) + (x : Int), (s : Int) + (y : Int) - 1) from by unfold ivR; rw [if_pos (by omega)]; exact Prod.ext rfl rfl)
      go_wp2_with (refine wpList_store_blk rfl 23 (.tmp 6) (.tmp 66) rfl rfl rfl B6.out rfl RS.out (by kernel_rfl) ?_)
      exact bodyPost_ret (results_cell_row rfl _ _ (w.heap.size + 1) _ _ (0, 0) _ rfl (B6.out.setRow _) Try.underlying23 rfl RS.out) rfl ⟨by rw [HI.out], Ext.setRow X2.out (by omega) _⟩
end Go.Proofs.Ytlhjbfckcfeikaa
