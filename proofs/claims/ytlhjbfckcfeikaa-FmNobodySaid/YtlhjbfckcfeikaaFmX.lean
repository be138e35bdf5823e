/- FmNobody: the law's walk. -/
import Derived.Test.YtlhjbfckcfeikaaFmW
namespace Go.Proofs.Ytlhjbfckcfeikaa
set_option linter.unusedVariables false
set_option linter.unusedSimpArgs false
open Go.RowKit
attribute [local go_sem] S_size S_toList S_beq S_bne S_empty S_nil

theorem ix0_made : (Try.zeroCells50)[261]? = some (.bool false) := by kernel_rfl
theorem run_bs2p (p q : Option Addr) (w : World) : (Instr.buildSlice 51 2 #[(0, .pointer p), (1, .pointer q)]).run Try.prog w = .ok (.slice (some ⟨w.heap.size, 0, none⟩) 2 2) (w.alloc (.cells #[.pointer p, .pointer q] 27)) := by kernel_rfl

theorem ask_range {w : World} {g : Nat} {t : TypeId} {a b c d e f : Value} (h : Blk w g t #[a, b, c, d, e, f]) : w.rangeAt g 3 [d, e] := fun j v hv => by
  rw [h.cell]
  match j with
  | 0 => exact hv
  | 1 => exact hv
  | j + 2 => simp at hv
set_option maxRecDepth 20000 in
set_option maxHeartbeats 16000000 in
theorem fmNobody_law (b1 : ByteArray) (h1 : b1.size ≤ maxLen) (at_ n lo hi : Int) (b : UInt8) (w : World) :
    Calls Try.prog 4 #[.agg #[.string b1, .int .i64 at_, .int .i64 n, .int .i64 lo, .int .i64 hi, .int .u8 (U8 b)]] w fun x w' => x = .returned (.bool true) ∧ Ext w w' := by
  obtain ⟨what, rfl, hsz⟩ := S_ex b1
  rw [← hsz] at h1
  have hb1 : (what.length : Int) ≤ 9223372036854775807 := by unfold maxLen at h1; omega
  clear hsz h1
  have QA := Lib.hid awake39_any
  have RS := Lib.hid rng_size
  have X0 := Lib.hid ((Ext.refl w).alloc (.cells #[.string (S what), .int .i64 at_, .int .i64 n, .int .i64 lo, .int .i64 hi, .int .u8 (U8 b)] 25))
  have B1 := Lib.hid (Blk.new w 25 #[.string (S what), .int .i64 at_, .int .i64 n, .int .i64 lo, .int .i64 hi, .int .u8 (U8 b)])
  by_cases hwl : (300 : Int) < (what.length : Int)
  · go_enter Try.func4, Try.ntmps4
    go_wp2_with fail
    refine (QA.out _).mono ?_
    rintro _ w1 ⟨rfl, x1⟩
    go_wp2
    go_ret
    exact ⟨rfl, X0.out.trans x1⟩
  have QR := Lib.hid (fun p w h => rows_none p what w h)
  have QB := Lib.hid (fun p w h => back_none p lo hi b w h)
  have QC := Lib.hid (fun p w h => count_none p what w h)
  have QP := Lib.hid (fun p w h => places_none p what w h)
  have QT := Lib.hid (fun p w h => text_none p at_ n w h)
  have hne := fun w => range_neq 1 0 1 0 w
  rw [decide_eq_true rfl, decide_eq_true rfl] at hne
  go_enter Try.func4, Try.ntmps4
  go_wp2_with (first
    | (refine wpList_bs (vs := #[(0, .pointer none), (1, .pointer (some ⟨w.heap.size + 1, 0, none⟩))]) rfl 51 2 _ rfl rfl (run_bs2p _ _ _) ?_; refine Held.go ?_))
  refine ⟨?_⟩
  have bz := (Blk.new (w.alloc (.cells #[.string (S what), .int .i64 at_, .int .i64 n, .int .i64 lo, .int .i64 hi, .int .u8 (U8 b)] 25)) 50 Try.zeroCells50).alloc (.cells #[.pointer none, .pointer (some ⟨w.heap.size + 1, 0, none⟩)] 27)
  rw [World.size_alloc] at bz
  have bp := Blk.new ((w.alloc (.cells #[.string (S what), .int .i64 at_, .int .i64 n, .int .i64 lo, .int .i64 hi, .int .u8 (U8 b)] 25)).alloc (.cells Try.zeroCells50 50)) 27 #[.pointer none, .pointer (some ⟨w.heap.size + 1, 0, none⟩)]
  rw [World.size_alloc, World.size_alloc] at bp
  have y1 := ((Ext.refl (w.alloc (.cells #[.string (S what), .int .i64 at_, .int .i64 n, .int .i64 lo, .int .i64 hi, .int .u8 (U8 b)] 25))).alloc (.cells Try.zeroCells50 50)).alloc (.cells #[.pointer none, .pointer (some ⟨w.heap.size + 1, 0, none⟩)] 27)
  have X1 := Lib.hid (X0.out.trans y1)
  have B1 := Lib.hid (B1.out.ext y1)
  have BZ := Lib.hid bz
  have BP := Lib.hid bp
  clear bz bp y1 X0
  generalize ((w.alloc (.cells #[.string (S what), .int .i64 at_, .int .i64 n, .int .i64 lo, .int .i64 hi, .int .u8 (U8 b)] 25)).alloc (.cells Try.zeroCells50 50)).alloc (.cells #[.pointer none, .pointer (some ⟨w.heap.size + 1, 0, none⟩)] 27) = W1 at *
  go_wp2_with (refine wpList_store_new rfl 23 (.tmp 5) (.tmp 16) rfl rfl rfl rfl RS.out (by kernel_rfl) ?_; refine Held.go ?_)
  refine ⟨?_⟩
  have y2 := (Ext.refl W1).alloc (.cells #[.int .i64 1, .int .i64 0] 23)
  have X2 := Lib.hid (X1.out.trans y2)
  have B1 := Lib.hid (B1.out.ext y2)
  have HZ := Lib.hid (show NX _ (some ⟨w.heap.size + 1, 0, none⟩) from .inr ⟨_, rfl, ((BZ.out.ext y2).cell 261).trans ix0_made⟩)
  have BP := Lib.hid (BP.out.ext y2)
  have B5 := Lib.hid (Blk.new W1 23 #[.int .i64 1, .int .i64 0])
  clear y2 X1 BZ
  generalize W1.alloc (.cells #[.int .i64 1, .int .i64 0] 23) = W2 at *
  generalize W1.heap.size = g5 at *
  go_wp2
  go_loopw [6] (fun i wr => ∃ k : Nat, k ≤ 2 ∧ i = .int .i64 (k : Int) ∧ Ext W2 wr) (fun i _ => 2 - (intOf i).toNat)
  case atStart => exact ⟨0, by omega, rfl, Ext.refl _⟩
  case round =>
    obtain ⟨k, hk, rfl, hx⟩ := hrel
    by_cases hlt : k < 2
    · obtain ⟨p, hp, hnx⟩ : ∃ p : Option Addr, wr.cell? ⟨w.heap.size + 1 + 1, k, none⟩ = some (.pointer p) ∧ NX wr p := by
        have : k = 0 ∨ k = 1 := by omega
        rcases this with rfl | rfl
        · exact ⟨none, (BP.out.ext hx).cell 0, .inl rfl⟩
        · exact ⟨_, (BP.out.ext hx).cell 1, HZ.out.ext hx⟩
      have hki : (k : Int) < 2 := by omega
      have B1w := B1.out.ext hx
      have NXw := Lib.hid hnx
      have B5w := Lib.hid (B5.out.ext hx)
      have XW := Lib.hid hx
      have HLT := Lib.hid hlt
      have RA := Lib.hid (ask_range B1w)
      have RG := Lib.hid (show (Try.prog.info? 23).map (·.size) = some [Value.int .i64 lo, .int .i64 hi].length from rng_size)
      have d0 := up_cell (B1w.cell 0)
      have d1 := up_cell (B1w.cell 1)
      have d2 := up_cell (B1w.cell 2)
      have d5 := up_cell (B1w.cell 5)
      have dp := up_cell hp
      have q1 := Lib.hid (fun x : Up wr => QR.out p _ (NXw.out.ext x.ext))
      have q2 := Lib.hid (fun x : Up wr => QB.out p _ (NXw.out.ext x.ext))
      have q3 := Lib.hid (fun x : Up wr => QC.out p _ (NXw.out.ext x.ext))
      have q4 := Lib.hid (fun x : Up wr => QP.out p _ (NXw.out.ext x.ext))
      have q5 := Lib.hid (fun x : Up wr => QT.out p _ (NXw.out.ext x.ext))
      clear hx hnx hlt hk B1w hp
      go_wp2
      refine wp_region_up (by kernel_rfl) (by kernel_rfl) ?_
      iterate 6 (go_big_quiet_step (fail))
      go_big_quiet_step (first | (go_at_call 10; (with_reducible exact up_call (q1.out _))))
      refine wpQuiet_load_blk (by kernel_rfl) 23 (.tmp 5) rfl rfl B5w.out Try.underlying23 rfl RS.out ?_
      dsimp only [Act.put]
      simp only [List.setIfInBounds_toArray, List.set_cons_succ, List.set_cons_zero]
      iterate 7 (go_big_quiet_step (fail))
      refine wpQuiet_load_range (by kernel_rfl) 23 (.tmp 37) rfl rfl RA.out Try.underlying23 rfl RG.out ?_
      dsimp only [Act.put]
      simp only [List.setIfInBounds_toArray, List.set_cons_succ, List.set_cons_zero]
      iterate 2 (go_big_quiet_step (fail))
      go_big_quiet_step (first | (go_at_call 18; (with_reducible exact up_call (q2.out _))))
      refine wpQuiet_load_blk (by kernel_rfl) 23 (.tmp 5) rfl rfl B5w.out Try.underlying23 rfl RS.out ?_
      dsimp only [Act.put]
      simp only [List.setIfInBounds_toArray, List.set_cons_succ, List.set_cons_zero]
      iterate 9 (go_big_quiet_step (fail))
      go_big_quiet_step (first | (go_at_call 12; (with_reducible exact up_call (q3.out _))))
      iterate 9 (go_big_quiet_step (fail))
      go_big_quiet_step (first | (go_at_call 15; (with_reducible exact up_call (q4.out _))))
      iterate 12 (go_big_quiet_step (fail))
      go_big_quiet_step (first | (go_at_call 16; (with_reducible exact up_call (q5.out _))))
      iterate 2 (go_big_quiet_step (fail))
      refine wpQuiet_nil ?_
      rintro _ ⟨z, rfl⟩
      have XZ := Lib.hid (XW.out.trans z.ext)
      clear d0 d1 d2 d5 dp q1 q2 q3 q4 q5
      go_wp2
      go_roundw
      case rel => exact ⟨k + 1, by have := HLT.out; omega, by go_num, XZ.out⟩
      case measure => simp [intOf]; have := HLT.out; omega
    · obtain rfl : k = 2 := by omega
      have XW := Lib.hid (X2.out.trans hx)
      clear hx hlt hk
      go_wp2_with fail
      refine (QA.out _).mono ?_
      rintro _ w9 ⟨rfl, x9⟩
      go_wp2
      go_ret
      exact ⟨rfl, XW.out.trans x9⟩
end Go.Proofs.Ytlhjbfckcfeikaa
