/- entry: Replace. (Printed by wip/tools/entry6.py.) -/
import Derived.Test.YtplbebcckffgeaaEntKp
namespace Go.Proofs.Ytplbebcckffgeaa
set_option linter.unusedVariables false
set_option linter.unusedSimpArgs false
open Go.RowKit

set_option maxRecDepth 20000 in
set_option maxHeartbeats 16000000 in
theorem eReplace_any (l : List E9) (e : E9) (v : Value) (w : World) (hr : RR entC 9 w v l) :
    Calls Try.prog 9 #[v, .agg (entC e).toArray] w fun x w' => ∃ v', x = .returned (.tuple #[v', .int .i64 (replE l e)]) ∧ Ext w w' ∧ EW w' w.heap.size v' (replL l e) := by
  have q := fun w' (h : RR entC 9 w' v l) => eRow_any l v w' h
  have B1 := Lib.hid (Blk.new w 26 (entC e).toArray)
  have X0 := Lib.hid ((Ext.refl w).alloc (.cells (entC e).toArray 26))
  have HR := Lib.hid (hr.ext X0.out)
  cases hrow : rowP l with
  | false =>
    rw [hrow] at q
    have Q := Lib.hid q
    have hs := repl_bad (e := e) hrow
    rw [hs.1, hs.2]
    clear hrow hs q hr
    generalize entC e = ce at *
    go_enter Try.func9, Try.ntmps9
    go_wp2_with fail
    refine (Q.out _ HR.out).mono ?_
    rintro _ w1 ⟨rfl, x1⟩
    simp only [errI, Bool.false_eq_true, if_false]
    go_wp2
    go_ret2
    exact ⟨_, rfl, X0.out.trans x1, WR.nil _ _ _⟩
  | true =>
    rw [hrow] at q
    have Q := Lib.hid q
    clear q
    obtain ⟨h1, h2⟩ := rowP_len hrow
    obtain ⟨a, c, rfl, hlc, _, hs⟩ := hr
    obtain ⟨g, o, rfl, hcells⟩ := hs (by omega)
    have HC := Lib.hid (fun k x hk => rangeAt_ext (hcells k x hk) X0.out)
    have HEN := Lib.hid (fun k (hk : k < l.length) => row_ent hrow hk)
    have HAT := Lib.hid (fun k (hk : k < l.length) (hn : noneTo l e k) hR => repl_at hrow hk hn hR)
    have HNO := Lib.hid (fun (hn : noneTo l e l.length) => repl_none hn)
    have HP := Lib.hid (fun k (hk : k < l.length) u w' k1 k2 => ePut_any l [e] k (k + 1) g o c u w' k1 k2 (Nat.zero_lt_succ _) (show ((1 : Nat) : Int) ≤ 2 from by decide) (by omega) (by omega) h2)
    have h2' := Lib.hid h2
    have QS := Lib.hid (fun w => eSeqs_any e w)
    have QT := Lib.hid (fun w => eTicks_any e w)
    have QC := Lib.hid (fun w => echeck_any e w)
    have C0 := Lib.hid (show _ = some (Value.int .i64 e.id) from B1.out.cell 0)
    have C1 := Lib.hid (show _ = some (Value.int .i64 e.gen) from B1.out.cell 1)
    have C3 := Lib.hid (show _ = some (Value.bool e.sld) from B1.out.cell 3)
    have ES := Lib.hid (show (Try.prog.info? 26).map (·.size) = some (entC e).toArray.size from ent_size)
    have HBS := Lib.hid (fun w => run_bs1x e w)
    have HLT := Lib.hid (fun w => WR.lit entC_length w 26 [e] (show 1 ≤ 1000000000 by omega) (entC e).toArray (by simp))
    clear hs hcells hlc hrow h1 h2
    generalize replE l e = ev at *
    generalize replL l e = pl at *
    go_enter Try.func9, Try.ntmps9
    go_wp2_with fail
    refine (Q.out _ HR.out).mono ?_
    rintro _ w1 ⟨rfl, x1⟩
    simp only [errI, if_true]
    have X1 := Lib.hid x1
    clear x1
    go_wp2
    go_loopw [17] (fun i wr => ∃ k : Nat, i = .int .i64 (k : Int) ∧ k ≤ l.length ∧ noneTo l e k ∧ Ext (w.alloc (.cells (entC e).toArray 26)) wr) (fun i _ => l.length - (intOf i).toNat)
    case atStart => exact ⟨0, rfl, Nat.zero_le _, noneTo_zero _ _, X1.out⟩
    case round =>
      obtain ⟨k, rfl, hk, hnone, hx⟩ := hrel
      have HX := Lib.hid hx
      have NT := Lib.hid hnone
      by_cases hlt : k < l.length
      · have hI : (k : Int) < (l.length : Int) := by omega
        have R := Lib.hid (rangeAt_ext (HC.out k _ (ent_at hlt)) hx)
        have HEN := HEN.out k hlt
        have HAT := Lib.hid (HAT.out k hlt hnone)
        have HP := Lib.hid (HP.out k hlt)
        have HNS := Lib.hid (fun hh => noneTo_succ hnone hh)
        have HSP := Lib.hid (splice_one (e := e) hlt)
        have hkw : IntKind.i64.wrap ((k : Int) + 1) = ((k + 1 : Nat) : Int) := by have := h2'.out; rw [IntKind.wrap_i64]; omega
        have hkm := Lib.hid hlt
        generalize l.getD k default = en at *
        have hcases := rep_cases en e HEN
        have QS0 := Lib.hid (fun w => eSeqs_any en w)
        have QT0 := Lib.hid (fun w => eTicks_any en w)
        have hq1 := fun w => range_eql (seqLo en) (seqHi en) (seqLo e) (seqHi e) w
        have hq2 := fun w => range_eql (tickLo en) (tickHi en) (tickLo e) (tickHi e) w
        rw [show (decide (seqLo en = seqLo e) && decide (seqHi en = seqHi e)) = seqEq en e from rfl] at hq1
        rw [show (decide (tickLo en = tickLo e) && decide (tickHi en = tickHi e)) = tickEq en e from rfl] at hq2
        have HQ1 := Lib.hid hq1
        have HQ2 := Lib.hid hq2
        have B4 := Lib.hid (Blk.new wr 26 (entC en).toArray)
        have B5 := Lib.hid ((B1.out.ext hx).alloc (.cells (entC en).toArray 26))
        have d0 : (wr.alloc (.cells (entC en).toArray 26)).cell? ⟨wr.heap.size, 0, none⟩ = some (Value.int .i64 en.id) := B4.out.cell 0
        have d1 : (wr.alloc (.cells (entC en).toArray 26)).cell? ⟨wr.heap.size, 1, none⟩ = some (Value.int .i64 en.gen) := B4.out.cell 1
        have d3 : (wr.alloc (.cells (entC en).toArray 26)).cell? ⟨wr.heap.size, 3, none⟩ = some (Value.bool en.sld) := B4.out.cell 3
        have f0 : (wr.alloc (.cells (entC en).toArray 26)).cell? ⟨w.heap.size, 0, none⟩ = some (Value.int .i64 e.id) := B5.out.cell 0
        have f1 : (wr.alloc (.cells (entC en).toArray 26)).cell? ⟨w.heap.size, 1, none⟩ = some (Value.int .i64 e.gen) := B5.out.cell 1
        have f3 : (wr.alloc (.cells (entC en).toArray 26)).cell? ⟨w.heap.size, 3, none⟩ = some (Value.bool e.sld) := B5.out.cell 3
        have HLL := Lib.hid (show (Try.prog.info? 26).map (·.size) = some (entC en).length from ent_size)
        have HZ := Lib.hid (show (Try.prog.info? 26).map (·.size) = some (entC en).toArray.size from ent_size)
        have HS9 := Lib.hid (show (#[.int .i64 0, .int .i64 0, .int .i64 0, .bool false, .int .i64 0, .int .i64 0, .int .i64 0, .int .i64 0, .int .i64 0] : Array Value).size = (entC en).toArray.size from rfl)
        have H1 := Lib.hid (entC_all en)
        clear hx hnone hk hlt hq1 hq2 HEN
        generalize entC en = cs at *
        rcases hcases with ⟨hrp, h1⟩ | ⟨hrp, h1, h2⟩ | ⟨hrp, h1, h2, h3⟩ | ⟨hrp, h1, h2, h3, h4⟩ | ⟨hrp, h1, h2, h3, h4, h5⟩ | ⟨hrp, h1, h2, h3, h4, h5, h6⟩ | ⟨hrp, h1, h2, h3, h4, h5, h6, h7⟩
        · rw [h1] at d3
          clear h1
          go_wp2_with (first
            | (refine wpList_load_mid rfl 26 (.tmp 20) rfl g _ rfl cs _ R.out Try.underlying26 rfl HLL.out ?_)
            | (refine wpList_store_new (cs' := cs.toArray) rfl 26 (.tmp 8) (.tmp 21) rfl rfl rfl HS9.out HZ.out H1.out ?_; refine Held.go ?_))
          refine ⟨?_⟩
          go_wp2
          refine wp_region_up (by kernel_rfl) (by kernel_rfl) ?_
          repeat (go_big_quiet_step (fail))
          refine wpQuiet_nil ?_
          rintro _ ⟨z, rfl⟩
          go_wp2
          go_roundw
          case rel => exact ⟨k + 1, by go_num, by have := hkm.out; omega, HNS.out hrp, (HX.out.alloc _).trans z.ext⟩
          case measure => simp [intOf]; have := hkm.out; omega
        · rw [h1] at d3
          rw [h2] at f3
          clear h1 h2
          go_wp2_with (first
            | (refine wpList_load_mid rfl 26 (.tmp 20) rfl g _ rfl cs _ R.out Try.underlying26 rfl HLL.out ?_)
            | (refine wpList_store_new (cs' := cs.toArray) rfl 26 (.tmp 8) (.tmp 21) rfl rfl rfl HS9.out HZ.out H1.out ?_; refine Held.go ?_))
          refine ⟨?_⟩
          go_wp2
          refine wp_region_up (by kernel_rfl) (by kernel_rfl) ?_
          repeat (go_big_quiet_step (fail))
          refine wpQuiet_nil ?_
          rintro _ ⟨z, rfl⟩
          go_wp2
          go_roundw
          case rel => exact ⟨k + 1, by go_num, by have := hkm.out; omega, HNS.out hrp, (HX.out.alloc _).trans z.ext⟩
          case measure => simp [intOf]; have := hkm.out; omega
        · rw [h1] at d3
          rw [h2] at f3
          clear h1 h2
          have h3' : (en.id == e.id) = false := by simpa using h3
          go_wp2_with (first
            | (refine wpList_load_mid rfl 26 (.tmp 20) rfl g _ rfl cs _ R.out Try.underlying26 rfl HLL.out ?_)
            | (refine wpList_store_new (cs' := cs.toArray) rfl 26 (.tmp 8) (.tmp 21) rfl rfl rfl HS9.out HZ.out H1.out ?_; refine Held.go ?_))
          refine ⟨?_⟩
          go_wp2
          refine wp_region_up (by kernel_rfl) (by kernel_rfl) ?_
          repeat (go_big_quiet_step (fail))
          refine wpQuiet_nil ?_
          rintro _ ⟨z, rfl⟩
          go_wp2
          go_roundw
          case rel => exact ⟨k + 1, by go_num, by have := hkm.out; omega, HNS.out hrp, (HX.out.alloc _).trans z.ext⟩
          case measure => simp [intOf]; have := hkm.out; omega
        · rw [h1] at d3
          rw [h2] at f3
          rw [h3] at d0
          clear h1 h2 h3
          go_wp2_with (first
            | (refine wpList_load_mid rfl 26 (.tmp 20) rfl g _ rfl cs _ R.out Try.underlying26 rfl HLL.out ?_)
            | (refine wpList_store_new (cs' := cs.toArray) rfl 26 (.tmp 8) (.tmp 21) rfl rfl rfl HS9.out HZ.out H1.out ?_; refine Held.go ?_))
          refine ⟨?_⟩
          go_wp2
          have h4' : decide (en.gen < e.gen) = false := decide_eq_false (by omega)
          rw [h4']
          refine wp_region_up (by kernel_rfl) (by kernel_rfl) ?_
          repeat (go_big_quiet_step (fail))
          refine wpQuiet_nil ?_
          rintro _ ⟨z, rfl⟩
          go_wp2
          go_roundw
          case rel => exact ⟨k + 1, by go_num, by have := hkm.out; omega, HNS.out hrp, (HX.out.alloc _).trans z.ext⟩
          case measure => simp [intOf]; have := hkm.out; omega
        · rw [h1] at d3
          rw [h2] at f3
          rw [h3] at d0
          have hq1 := HQ1.out
          rw [h5] at hq1
          clear h1 h2 h3 h5
          go_wp2_with (first
            | (refine wpList_load_mid rfl 26 (.tmp 20) rfl g _ rfl cs _ R.out Try.underlying26 rfl HLL.out ?_)
            | (refine wpList_store_new (cs' := cs.toArray) rfl 26 (.tmp 8) (.tmp 21) rfl rfl rfl HS9.out HZ.out H1.out ?_; refine Held.go ?_))
          refine ⟨?_⟩
          go_wp2
          refine wp_region_up (by kernel_rfl) (by kernel_rfl) ?_
          go_big_quiet_step (fail)
          go_big_quiet_step (fail)
          refine wpQuiet_load_blk (by kernel_rfl) 26 (.tmp 8) rfl rfl B4.out Try.underlying26 rfl HZ.out ?_
          dsimp only [Act.put]
          simp only [List.setIfInBounds_toArray, List.set_cons_succ, List.set_cons_zero]
          go_big_quiet_step (first | (go_at_call 16; (with_reducible exact up_call (QS0.out _))) | fail)
          refine wpQuiet_load_blk (by kernel_rfl) 26 (.tmp 3) rfl rfl B5.out Try.underlying26 rfl ES.out ?_
          dsimp only [Act.put]
          simp only [List.setIfInBounds_toArray, List.set_cons_succ, List.set_cons_zero]
          go_big_quiet_step (first | (go_at_call 16; (with_reducible exact up_call (QS.out _))) | fail)
          repeat (go_big_quiet_step (fail))
          refine wpQuiet_nil ?_
          rintro _ ⟨z, rfl⟩
          go_wp2
          go_roundw
          case rel => exact ⟨k + 1, by go_num, by have := hkm.out; omega, HNS.out hrp, (HX.out.alloc _).trans z.ext⟩
          case measure => simp [intOf]; have := hkm.out; omega
        · rw [h1] at d3
          rw [h2] at f3
          rw [h3] at d0
          have hq1 := HQ1.out
          rw [h5] at hq1
          have hq2 := HQ2.out
          rw [h6] at hq2
          clear h1 h2 h3 h5 h6
          go_wp2_with (first
            | (refine wpList_load_mid rfl 26 (.tmp 20) rfl g _ rfl cs _ R.out Try.underlying26 rfl HLL.out ?_)
            | (refine wpList_store_new (cs' := cs.toArray) rfl 26 (.tmp 8) (.tmp 21) rfl rfl rfl HS9.out HZ.out H1.out ?_; refine Held.go ?_))
          refine ⟨?_⟩
          go_wp2
          refine wp_region_up (by kernel_rfl) (by kernel_rfl) ?_
          go_big_quiet_step (fail)
          go_big_quiet_step (fail)
          refine wpQuiet_load_blk (by kernel_rfl) 26 (.tmp 8) rfl rfl B4.out Try.underlying26 rfl HZ.out ?_
          dsimp only [Act.put]
          simp only [List.setIfInBounds_toArray, List.set_cons_succ, List.set_cons_zero]
          go_big_quiet_step (first | (go_at_call 16; (with_reducible exact up_call (QS0.out _))) | fail)
          refine wpQuiet_load_blk (by kernel_rfl) 26 (.tmp 3) rfl rfl B5.out Try.underlying26 rfl ES.out ?_
          dsimp only [Act.put]
          simp only [List.setIfInBounds_toArray, List.set_cons_succ, List.set_cons_zero]
          go_big_quiet_step (first | (go_at_call 16; (with_reducible exact up_call (QS.out _))) | fail)
          go_big_quiet_step (fail)
          go_big_quiet_step (fail)
          go_big_quiet_step (fail)
          refine wpQuiet_load_blk (by kernel_rfl) 26 (.tmp 8) rfl rfl B4.out Try.underlying26 rfl HZ.out ?_
          dsimp only [Act.put]
          simp only [List.setIfInBounds_toArray, List.set_cons_succ, List.set_cons_zero]
          go_big_quiet_step (first | (go_at_call 17; (with_reducible exact up_call (QT0.out _))) | fail)
          refine wpQuiet_load_blk (by kernel_rfl) 26 (.tmp 3) rfl rfl B5.out Try.underlying26 rfl ES.out ?_
          dsimp only [Act.put]
          simp only [List.setIfInBounds_toArray, List.set_cons_succ, List.set_cons_zero]
          go_big_quiet_step (first | (go_at_call 17; (with_reducible exact up_call (QT.out _))) | fail)
          repeat (go_big_quiet_step (fail))
          refine wpQuiet_nil ?_
          rintro _ ⟨z, rfl⟩
          go_wp2
          go_roundw
          case rel => exact ⟨k + 1, by go_num, by have := hkm.out; omega, HNS.out hrp, (HX.out.alloc _).trans z.ext⟩
          case measure => simp [intOf]; have := hkm.out; omega
        · rw [h1] at d3
          rw [h2] at f3
          rw [h3] at d0
          have hq1 := HQ1.out
          rw [h5] at hq1
          have hq2 := HQ2.out
          rw [h6] at hq2
          have QC := QC.out
          rw [h7] at QC
          simp only [errI, if_true] at QC
          have QC := Lib.hid QC
          have HAT := Lib.hid (HAT.out hrp)
          clear h1 h2 h3 h5 h6 h7 HNS
          go_wp2_with (first
            | (refine wpList_load_mid rfl 26 (.tmp 20) rfl g _ rfl cs _ R.out Try.underlying26 rfl HLL.out ?_)
            | (refine wpList_store_new (cs' := cs.toArray) rfl 26 (.tmp 8) (.tmp 21) rfl rfl rfl HS9.out HZ.out H1.out ?_; refine Held.go ?_))
          refine ⟨?_⟩
          go_wp2
          refine wp_region_up (by kernel_rfl) (by kernel_rfl) ?_
          go_big_quiet_step (fail)
          go_big_quiet_step (fail)
          refine wpQuiet_load_blk (by kernel_rfl) 26 (.tmp 8) rfl rfl B4.out Try.underlying26 rfl HZ.out ?_
          dsimp only [Act.put]
          simp only [List.setIfInBounds_toArray, List.set_cons_succ, List.set_cons_zero]
          go_big_quiet_step (first | (go_at_call 16; (with_reducible exact up_call (QS0.out _))) | fail)
          refine wpQuiet_load_blk (by kernel_rfl) 26 (.tmp 3) rfl rfl B5.out Try.underlying26 rfl ES.out ?_
          dsimp only [Act.put]
          simp only [List.setIfInBounds_toArray, List.set_cons_succ, List.set_cons_zero]
          go_big_quiet_step (first | (go_at_call 16; (with_reducible exact up_call (QS.out _))) | fail)
          go_big_quiet_step (fail)
          go_big_quiet_step (fail)
          go_big_quiet_step (fail)
          refine wpQuiet_load_blk (by kernel_rfl) 26 (.tmp 8) rfl rfl B4.out Try.underlying26 rfl HZ.out ?_
          dsimp only [Act.put]
          simp only [List.setIfInBounds_toArray, List.set_cons_succ, List.set_cons_zero]
          go_big_quiet_step (first | (go_at_call 17; (with_reducible exact up_call (QT0.out _))) | fail)
          refine wpQuiet_load_blk (by kernel_rfl) 26 (.tmp 3) rfl rfl B5.out Try.underlying26 rfl ES.out ?_
          dsimp only [Act.put]
          simp only [List.setIfInBounds_toArray, List.set_cons_succ, List.set_cons_zero]
          go_big_quiet_step (first | (go_at_call 17; (with_reducible exact up_call (QT.out _))) | fail)
          go_big_quiet_step (fail)
          go_big_quiet_step (fail)
          go_big_quiet_step (fail)
          refine wpQuiet_load_blk (by kernel_rfl) 26 (.tmp 3) rfl rfl B5.out Try.underlying26 rfl ES.out ?_
          dsimp only [Act.put]
          simp only [List.setIfInBounds_toArray, List.set_cons_succ, List.set_cons_zero]
          go_big_quiet_step (first | (go_at_call 20; (with_reducible exact up_call (QC.out _))) | fail)
          repeat (go_big_quiet_step (fail))
          refine wpQuiet_nil ?_
          rintro _ ⟨z, rfl⟩
          have B6 := Lib.hid (B5.out.ext z.ext)
          have X2 := Lib.hid ((X0.out.trans (HX.out.alloc (.cells cs.toArray 26))).trans z.ext)
          have HRZ := Lib.hid (HR.out.ext ((HX.out.alloc (.cells cs.toArray 26)).trans z.ext))
          go_wp2_with (first
            | (refine wpList_load_blk rfl 26 (.tmp 3) rfl rfl B6.out Try.underlying26 rfl ES.out ?_)
            | (refine wpList_bs (vs := #[(0, .agg (entC e).toArray)]) rfl 22 1 _ rfl rfl (HBS.out _) ?_))
          refine (HP.out _ _ (HRZ.out.ext ((Ext.refl _).alloc _)) (WR.rr entC_length (HLT.out _))).mono ?_
          rintro _ w5 ⟨v', rfl, x5, i5⟩
          have X5 := Lib.hid (((X2.out).alloc (.cells (entC e).toArray 26)).trans x5)
          rw [HSP.out, ← HAT.out.2] at i5
          rw [HSP.out, ← HAT.out.1]
          have I5 := Lib.hid (i5.mono ((X2.out).alloc (.cells (entC e).toArray 26)).le)
          clear x5 i5
          go_wp2
          go_ret2
          exact ⟨_, rfl, X5.out, I5.out⟩
      · obtain rfl : k = l.length := by omega
        have hres := HNO.out hnone
        obtain ⟨rfl, rfl⟩ := hres
        clear hk hx hnone
        go_wp2
        go_ret2
        exact ⟨_, rfl, X0.out.trans HX.out, WR.nil _ _ _⟩
end Go.Proofs.Ytplbebcckffgeaa
