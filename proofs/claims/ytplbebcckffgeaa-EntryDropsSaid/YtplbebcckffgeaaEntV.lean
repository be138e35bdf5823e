/- EntryDrops: the law's walk. (Printed by wip/tools/entry9.py.) -/
import Derived.Test.YtplbebcckffgeaaEntVp
namespace Go.Proofs.Ytplbebcckffgeaa
set_option linter.unusedVariables false
set_option linter.unusedSimpArgs false
open Go.RowKit

/-- how many of the first j are turned, where one is -/
def turnI (i j : Nat) : Int := if i < j then 1 else 0
theorem turnI_zero (i : Nat) : turnI i 0 = 0 := rfl
theorem turnI_at (i : Nat) : turnI i (i + 1) = 1 ∧ turnI i i = 0 := by
  unfold turnI
  exact ⟨if_pos (Nat.lt_succ_self i), if_neg (Nat.lt_irrefl i)⟩
theorem turnI_far {i j : Nat} (h : ¬ j = i) : turnI i (j + 1) = turnI i j := by
  unfold turnI
  by_cases h1 : i < j
  · rw [if_pos h1, if_pos (by omega)]
  · rw [if_neg h1, if_neg (by omega)]
theorem turnI_end {i n : Nat} (h : i < n) : turnI i n = 1 := if_pos h
theorem arr2_size : (Try.prog.info? 41).map (·.size) = some 2 := by kernel_rfl
theorem cell_mid90 {w : World} {g o k : Nat} {e : E9} {v : Value} (h : w.rangeAt g (o + k * 9) (entC e)) (hi : (entC e)[0]? = some v) : w.cell? ⟨g, o + k * 9, none⟩ = some v := h 0 v hi
theorem cell_mid9 {w : World} {g o k i : Nat} {e : E9} {v : Value} (h : w.rangeAt g (o + k * 9) (entC e)) (hi : (entC e)[i]? = some v) : w.cell? ⟨g, o + k * 9 + i, none⟩ = some v := h i v hi
set_option maxRecDepth 20000 in
set_option maxHeartbeats 16000000 in
theorem entryDrops_law (v : Value) (l : List E9) (zs : List Int) (hzs : zs.length = 2) (wz : ∀ z ∈ zs, (Lit.int .i64 z).wf = true) (e : E9) (w : World) (rd : RR entC 9 w v l) (b : (l.length : Int) ≤ 9223372036854775807) (R : ∀ x ∈ l, True) :
    Calls Try.prog 5 #[v, .agg (zs.map (Value.int .i64)).toArray, .agg (entC e).toArray] w fun x w' => x = .returned (.bool true) ∧ Ext w w' := by
  obtain ⟨n0, n1, rfl⟩ : ∃ x y, zs = [x, y] := by
    match zs, hzs with
    | [x, y], _ => exact ⟨x, y, rfl⟩
  clear wz hzs
  show Calls Try.prog 5 #[v, .agg #[.int .i64 n0, .int .i64 n1], .agg (entC e).toArray] w fun x w' => x = .returned (.bool true) ∧ Ext w w'
  have QA := Lib.hid awake_any
  have X0 := Lib.hid (((Ext.refl w).alloc (.cells #[.int .i64 n0, .int .i64 n1] 41)).alloc (.cells (entC e).toArray 26))
  have B1 := Lib.hid ((Blk.new w 41 #[.int .i64 n0, .int .i64 n1]).alloc (.cells (entC e).toArray 26))
  have c0 : ((w.alloc (.cells #[.int .i64 n0, .int .i64 n1] 41)).alloc (.cells (entC e).toArray 26)).cell? ⟨w.heap.size, 0, none⟩ = some (.int .i64 n0) := B1.out.cell 0
  have c1 : ((w.alloc (.cells #[.int .i64 n0, .int .i64 n1] 41)).alloc (.cells (entC e).toArray 26)).cell? ⟨w.heap.size, 1, none⟩ = some (.int .i64 n1) := B1.out.cell 1
  have B2 := Lib.hid (Blk.new (w.alloc (.cells #[.int .i64 n0, .int .i64 n1] 41)) 26 (entC e).toArray)
  rw [World.size_alloc] at B2
  have R0 := Lib.hid (rd.ext X0.out)
  have HW := Lib.hid rd
  obtain ⟨a, c, rfl, _, _, hs0⟩ := rd
  have HS0 := Lib.hid hs0
  clear hs0
  by_cases k0 : (200 : Int) < (l.length : Int)
  case pos =>
    generalize entC e = ce at *
    clear b R
    go_enter Try.func5, Try.ntmps5
    go_wp2_with fail
    refine (QA.out _).mono ?_
    rintro _ w1 ⟨rfl, x1⟩
    go_wp2
    go_ret
    exact ⟨rfl, X0.out.trans x1⟩
  by_cases k1 : n0 < 0
  case pos =>
    generalize entC e = ce at *
    clear b R
    go_enter Try.func5, Try.ntmps5
    go_wp2_with fail
    refine (QA.out _).mono ?_
    rintro _ w1 ⟨rfl, x1⟩
    go_wp2
    go_ret
    exact ⟨rfl, X0.out.trans x1⟩
  by_cases k2 : n1 < 0
  case pos =>
    generalize entC e = ce at *
    clear b R
    go_enter Try.func5, Try.ntmps5
    go_wp2_with fail
    refine (QA.out _).mono ?_
    rintro _ w1 ⟨rfl, x1⟩
    go_wp2
    go_ret
    exact ⟨rfl, X0.out.trans x1⟩
  by_cases k3 : (200 : Int) < n0
  case pos =>
    generalize entC e = ce at *
    clear b R
    go_enter Try.func5, Try.ntmps5
    go_wp2_with fail
    refine (QA.out _).mono ?_
    rintro _ w1 ⟨rfl, x1⟩
    go_wp2
    go_ret
    exact ⟨rfl, X0.out.trans x1⟩
  by_cases k4 : (200 : Int) < n1
  case pos =>
    generalize entC e = ce at *
    clear b R
    go_enter Try.func5, Try.ntmps5
    go_wp2_with fail
    refine (QA.out _).mono ?_
    rintro _ w1 ⟨rfl, x1⟩
    go_wp2
    go_ret
    exact ⟨rfl, X0.out.trans x1⟩
  have Q1 := Lib.hid (fun w h => eDrop_any l n0 (.slice a l.length c) w h (by omega))
  have Q2 := Lib.hid (fun v w h => eDrop_any (eDropL l n0) n1 v w h (by have := eDropL_len l n0; omega))
  have Q3 := Lib.hid (fun w h => eDrop_any l (n0 + n1) (.slice a l.length c) w h (by omega))
  have q7 := fun va vb w ha hb => rSame_any (eDropL l (n0 + n1)) (eDropL l (n0 + n1)) va vb w ha hb (by have := eDropL_len l (n0 + n1); omega)
  rw [decide_eq_true rfl] at q7
  have Q7 := Lib.hid q7
  have HTW := Lib.hid (fun h => drop_twice (l := l) (n := n0) (k := n1) h (by omega))
  have Q4 := Lib.hid (fun w h => eReplace_any l e (.slice a l.length c) w h)
  have HZ := Lib.hid (fun h => repl_zero (l := l) (e := e) h)
  have ES := Lib.hid (show (Try.prog.info? 26).map (·.size) = some (entC e).toArray.size from ent_size)
  have hw01 : IntKind.i64.wrap (n0 + n1) = n0 + n1 := by rw [IntKind.wrap_i64]; omega
  have hsm := Lib.hid (show (l.length : Int) ≤ 200 by omega)
  clear q7 b R
  generalize eDropE l n0 = E0 at *
  generalize eDropL l n0 = L0 at *
  generalize eDropE l (n0 + n1) = E3 at *
  generalize eDropL l (n0 + n1) = L3 at *
  generalize replE l e = RE at *
  generalize replL l e = RL at *
  generalize entC e = ce at *
  go_enter Try.func5, Try.ntmps5
  go_wp2_with fail
  refine (Q1.out _ R0.out).mono ?_
  rintro _ w1 ⟨v1, rfl, x1, i1⟩
  have I1 := Lib.hid (WR.rr entC_length i1)
  have R0 := Lib.hid (R0.out.ext x1)
  have B1 := Lib.hid (B1.out.ext x1)
  have B2 := Lib.hid (B2.out.ext x1)
  have X1 := Lib.hid (X0.out.trans x1)
  clear x1 i1 Q1 c0 c1
  by_cases hE0 : E0 = 0
  · subst hE0
    obtain ⟨h1, h2⟩ := HTW.out rfl
    have Q2 := Q2.out
    rw [h1, h2] at Q2
    have Q2 := Lib.hid Q2
    clear h1 h2
    have d1 : w1.cell? ⟨w.heap.size, 1, none⟩ = some (.int .i64 n1) := B1.out.cell 1
    go_wp2_with fail
    refine (Q2.out _ _ I1.out).mono ?_
    rintro _ w2 ⟨v2, rfl, x2, i2⟩
    have I2 := Lib.hid (WR.rr entC_length i2)
    have R0 := Lib.hid (R0.out.ext x2)
    have B1 := Lib.hid (B1.out.ext x2)
    have B2 := Lib.hid (B2.out.ext x2)
    have X2 := Lib.hid (X1.out.trans x2)
    clear x2 i2 Q2 d1
    have d0 : w2.cell? ⟨w.heap.size, 0, none⟩ = some (.int .i64 n0) := B1.out.cell 0
    have d1 : w2.cell? ⟨w.heap.size, 1, none⟩ = some (.int .i64 n1) := B1.out.cell 1
    go_wp2_with fail
    refine (Q3.out _ R0.out).mono ?_
    rintro _ w3 ⟨v3, rfl, x3, i3⟩
    have I3 := Lib.hid (WR.rr entC_length i3)
    have I2 := Lib.hid (I2.out.ext x3)
    have R0 := Lib.hid (R0.out.ext x3)
    have B2 := Lib.hid (B2.out.ext x3)
    have X3 := Lib.hid (X2.out.trans x3)
    clear x3 i3 Q3 d0 d1 B1
    go_wp2_with fail
    refine (Q7.out _ _ _ I2.out I3.out).mono ?_
    rintro _ w5 ⟨rfl, x5⟩
    have R0 := Lib.hid (R0.out.ext x5)
    have B2 := Lib.hid (B2.out.ext x5)
    have X5 := Lib.hid (X3.out.trans x5)
    clear x5 Q7 I2 I3
    go_wp2_with (refine wpList_load_blk rfl 26 (.tmp 5) rfl rfl B2.out Try.underlying26 rfl ES.out ?_)
    refine (Q4.out _ R0.out).mono ?_
    rintro _ w4 ⟨v4, rfl, x4, i4⟩
    have XX := Lib.hid (X5.out)
    have X4 := Lib.hid (XX.out.trans x4)
    have I4 := Lib.hid (WR.rr entC_length i4)
    have R0 := Lib.hid (R0.out.ext x4)
    clear x4 i4 Q4
    by_cases hRE : RE = 0
    case neg =>
      have hRE' : (RE == 0) = false := by simpa using hRE
      clear hRE
      go_wp2_with fail
      refine (QA.out _).mono ?_
      rintro _ w9 ⟨rfl, x9⟩
      go_wp2
      go_ret
      exact ⟨rfl, X4.out.trans x9⟩
    case pos =>
      subst hRE
      obtain ⟨i, hi, rfl, hrow, hrep⟩ := HZ.out rfl
      obtain ⟨am, cm, rfl, _, _, hsm4⟩ := I4.out
      have HSM := Lib.hid hsm4
      have hI4 := I4.out
      clear hsm4
      rw [List.length_set] at HSM
      rw [List.length_set]
      have HSET := Lib.hid (fun j (hj : j < l.length) => set_like (e := e) hi hj hrow hrep)
      have HI := Lib.hid hi
      obtain ⟨_, _, _, _, _, hs0'⟩ := R0.out
      have hpos := (rowP_len hrow).1
      obtain ⟨g, o, rfl, hc⟩ := HS0.out (by omega)
      obtain ⟨gm, om, rfl, hcm⟩ := HSM.out (by omega)
      have HC := Lib.hid (fun k x hk => rangeAt_ext (hc k x hk) (X4.out))
      have HCM := Lib.hid hcm
      clear hc hcm hrow hrep hi hI4 hpos hs0'
      go_wp2
      go_loopw [16, 15] (fun ii tt wr => ∃ j : Nat, ii = .int .i64 (j : Int) ∧ j ≤ l.length ∧ tt = .int .i64 (turnI i j) ∧ Ext w4 wr) (fun ii _ _ => l.length - (intOf ii).toNat)
      case atStart => exact ⟨0, rfl, Nat.zero_le _, rfl, Ext.refl _⟩
      case round =>
        obtain ⟨j, rfl, hj, rfl, hx⟩ := hrel
        have HX := Lib.hid hx
        clear hx
        by_cases hlt : j < l.length
        · have hJ : (j : Int) < (l.length : Int) := by omega
          have hj1 : IntKind.i64.wrap ((j : Int) + 1) = ((j + 1 : Nat) : Int) := by have := hsm.out; rw [IntKind.wrap_i64]; omega
          obtain ⟨⟨p1, p2, p3, p4, p5⟩, p6⟩ := HSET.out j hlt
          have RX := Lib.hid (rangeAt_ext (HCM.out j _ (ent_at (l := l.set i e) (by rw [List.length_set]; exact hlt))) HX.out)
          have RY := Lib.hid (rangeAt_ext (HC.out j _ (ent_at hlt)) HX.out)
          have hjj := Lib.hid hlt
          generalize (l.set i e).getD j default = x at *
          generalize l.getD j default = y at *
          have SX := fun w => eSeqs_any x w
          have TX := fun w => eTicks_any x w
          rw [p1, p2] at SX
          rw [p3, p4] at TX
          have SX := Lib.hid SX
          have TX := Lib.hid TX
          have SY := Lib.hid (fun w => eSeqs_any y w)
          have TY := Lib.hid (fun w => eTicks_any y w)
          have hq1 := fun w => range_neq (seqLo y) (seqHi y) (seqLo y) (seqHi y) w
          have hq2 := fun w => range_neq (tickLo y) (tickHi y) (tickLo y) (tickHi y) w
          rw [decide_eq_true rfl, decide_eq_true rfl] at hq1 hq2
          have hq1 : ∀ w : World, (binOp .neq 43 (.agg #[.int .i64 (seqLo y), .int .i64 (seqHi y)]) (.agg #[.int .i64 (seqLo y), .int .i64 (seqHi y)])).run Try.prog w = .ok (.bool false) w := hq1
          have hq2 : ∀ w : World, (binOp .neq 43 (.agg #[.int .i64 (tickLo y), .int .i64 (tickHi y)]) (.agg #[.int .i64 (tickLo y), .int .i64 (tickHi y)])).run Try.prog w = .ok (.bool false) w := hq2
          have HN := Lib.hid (fun w => ent_neq x y w)
          have f0 := up_cell (cell_mid90 RX.out (show (entC x)[0]? = some (.int .i64 y.id) from by rw [← p5]; rfl))
          have g0 := up_cell (cell_mid90 RY.out (show (entC y)[0]? = some (.int .i64 y.id) from rfl))
          have ZX := Lib.hid (show (Try.prog.info? 26).map (·.size) = some (entC x).length from ent_size)
          have ZY := Lib.hid (show (Try.prog.info? 26).map (·.size) = some (entC y).length from ent_size)
          have P6 := Lib.hid p6
          clear p1 p2 p3 p4 p5 p6 hj hlt
          generalize seqLo y = a1 at *
          generalize seqHi y = a2 at *
          generalize tickLo y = a3 at *
          generalize tickHi y = a4 at *
          generalize entC x = cx at *
          generalize entC y = cy at *
          go_wp2_with fail
          refine wp_region_up (by kernel_rfl) (by kernel_rfl) ?_
          iterate 3 (go_big_quiet_step (fail))
          refine wpQuiet_load_range (by kernel_rfl) 26 (.tmp 98) rfl rfl RX.out Try.underlying26 rfl ZX.out ?_
          dsimp only [Act.put]
          simp only [List.setIfInBounds_toArray, List.set_cons_succ, List.set_cons_zero]
          go_big_quiet_step (first | (go_at_call 16; (with_reducible exact up_call (SX.out _))) | fail)
          iterate 3 (go_big_quiet_step (fail))
          refine wpQuiet_load_range (by kernel_rfl) 26 (.tmp 103) rfl rfl RY.out Try.underlying26 rfl ZY.out ?_
          dsimp only [Act.put]
          simp only [List.setIfInBounds_toArray, List.set_cons_succ, List.set_cons_zero]
          go_big_quiet_step (first | (go_at_call 16; (with_reducible exact up_call (SY.out _))) | fail)
          iterate 5 (go_big_quiet_step (fail))
          refine wpQuiet_load_range (by kernel_rfl) 26 (.tmp 110) rfl rfl RX.out Try.underlying26 rfl ZX.out ?_
          dsimp only [Act.put]
          simp only [List.setIfInBounds_toArray, List.set_cons_succ, List.set_cons_zero]
          go_big_quiet_step (first | (go_at_call 17; (with_reducible exact up_call (TX.out _))) | fail)
          iterate 3 (go_big_quiet_step (fail))
          refine wpQuiet_load_range (by kernel_rfl) 26 (.tmp 115) rfl rfl RY.out Try.underlying26 rfl ZY.out ?_
          dsimp only [Act.put]
          simp only [List.setIfInBounds_toArray, List.set_cons_succ, List.set_cons_zero]
          go_big_quiet_step (first | (go_at_call 17; (with_reducible exact up_call (TY.out _))) | fail)
          repeat (go_big_quiet_step (fail))
          refine wpQuiet_nil ?_
          rintro _ ⟨z, rfl⟩
          have RX := Lib.hid (rangeAt_ext RX.out z.ext)
          have RY := Lib.hid (rangeAt_ext RY.out z.ext)
          have HX := Lib.hid (HX.out.trans z.ext)
          clear f0 g0 hq1 hq2
          have hN := HN.out
          by_cases hij : j = i
          · subst hij
            have hxy : ¬ x = y := fun h => (P6.out.1 h) rfl
            rw [decide_eq_false hxy] at hN
            have hT := (turnI_at j).2
            rw [hT]
            have hT1 := Lib.hid (turnI_at j).1
            clear hxy hT
            go_wp2_with fail
            refine wp_region_up (by kernel_rfl) (by kernel_rfl) ?_
            iterate 3 (go_big_quiet_step (fail))
            refine wpQuiet_load_range (by kernel_rfl) 26 (.tmp 137) rfl rfl RX.out Try.underlying26 rfl ZX.out ?_
            dsimp only [Act.put]
            simp only [List.setIfInBounds_toArray, List.set_cons_succ, List.set_cons_zero]
            iterate 3 (go_big_quiet_step (fail))
            refine wpQuiet_load_range (by kernel_rfl) 26 (.tmp 141) rfl rfl RY.out Try.underlying26 rfl ZY.out ?_
            dsimp only [Act.put]
            simp only [List.setIfInBounds_toArray, List.set_cons_succ, List.set_cons_zero]
            repeat (go_big_quiet_step (fail))
            refine wpQuiet_nil ?_
            rintro _ ⟨z2, rfl⟩
            go_wp2
            go_roundw
            case rel => exact ⟨j + 1, by go_num, by have := hjj.out; omega, by rw [hT1.out], HX.out.trans z2.ext⟩
            case measure => simp [intOf]; have := hjj.out; omega
          · have hxy : x = y := P6.out.2 hij
            rw [decide_eq_true hxy] at hN
            have hT := Lib.hid (turnI_far hij)
            clear hxy
            go_wp2_with fail
            refine wp_region_up (by kernel_rfl) (by kernel_rfl) ?_
            iterate 3 (go_big_quiet_step (fail))
            refine wpQuiet_load_range (by kernel_rfl) 26 (.tmp 137) rfl rfl RX.out Try.underlying26 rfl ZX.out ?_
            dsimp only [Act.put]
            simp only [List.setIfInBounds_toArray, List.set_cons_succ, List.set_cons_zero]
            iterate 3 (go_big_quiet_step (fail))
            refine wpQuiet_load_range (by kernel_rfl) 26 (.tmp 141) rfl rfl RY.out Try.underlying26 rfl ZY.out ?_
            dsimp only [Act.put]
            simp only [List.setIfInBounds_toArray, List.set_cons_succ, List.set_cons_zero]
            repeat (go_big_quiet_step (fail))
            refine wpQuiet_nil ?_
            rintro _ ⟨z2, rfl⟩
            go_wp2
            go_roundw
            case rel => exact ⟨j + 1, by go_num, by have := hjj.out; omega, by rw [hT.out], HX.out.trans z2.ext⟩
            case measure => simp [intOf]; have := hjj.out; omega
        · obtain rfl : j = l.length := by omega
          rw [turnI_end HI.out]
          clear hj hlt
          go_wp2_with fail
          refine (QA.out _).mono ?_
          rintro _ w9 ⟨rfl, x9⟩
          go_wp2
          go_ret
          exact ⟨rfl, (X4.out.trans HX.out).trans x9⟩
  · have hE0' : (E0 == 0) = false := by simpa using hE0
    clear hE0
    go_wp2_with (refine wpList_load_blk rfl 26 (.tmp 5) rfl rfl B2.out Try.underlying26 rfl ES.out ?_)
    refine (Q4.out _ R0.out).mono ?_
    rintro _ w4 ⟨v4, rfl, x4, i4⟩
    have XX := Lib.hid (X1.out)
    have X4 := Lib.hid (XX.out.trans x4)
    have I4 := Lib.hid (WR.rr entC_length i4)
    have R0 := Lib.hid (R0.out.ext x4)
    clear x4 i4 Q4
    by_cases hRE : RE = 0
    case neg =>
      have hRE' : (RE == 0) = false := by simpa using hRE
      clear hRE
      go_wp2_with fail
      refine (QA.out _).mono ?_
      rintro _ w9 ⟨rfl, x9⟩
      go_wp2
      go_ret
      exact ⟨rfl, X4.out.trans x9⟩
    case pos =>
      subst hRE
      obtain ⟨i, hi, rfl, hrow, hrep⟩ := HZ.out rfl
      obtain ⟨am, cm, rfl, _, _, hsm4⟩ := I4.out
      have HSM := Lib.hid hsm4
      have hI4 := I4.out
      clear hsm4
      rw [List.length_set] at HSM
      rw [List.length_set]
      have HSET := Lib.hid (fun j (hj : j < l.length) => set_like (e := e) hi hj hrow hrep)
      have HI := Lib.hid hi
      obtain ⟨_, _, _, _, _, hs0'⟩ := R0.out
      have hpos := (rowP_len hrow).1
      obtain ⟨g, o, rfl, hc⟩ := HS0.out (by omega)
      obtain ⟨gm, om, rfl, hcm⟩ := HSM.out (by omega)
      have HC := Lib.hid (fun k x hk => rangeAt_ext (hc k x hk) (X4.out))
      have HCM := Lib.hid hcm
      clear hc hcm hrow hrep hi hI4 hpos hs0'
      go_wp2
      go_loopw [16, 15] (fun ii tt wr => ∃ j : Nat, ii = .int .i64 (j : Int) ∧ j ≤ l.length ∧ tt = .int .i64 (turnI i j) ∧ Ext w4 wr) (fun ii _ _ => l.length - (intOf ii).toNat)
      case atStart => exact ⟨0, rfl, Nat.zero_le _, rfl, Ext.refl _⟩
      case round =>
        obtain ⟨j, rfl, hj, rfl, hx⟩ := hrel
        have HX := Lib.hid hx
        clear hx
        by_cases hlt : j < l.length
        · have hJ : (j : Int) < (l.length : Int) := by omega
          have hj1 : IntKind.i64.wrap ((j : Int) + 1) = ((j + 1 : Nat) : Int) := by have := hsm.out; rw [IntKind.wrap_i64]; omega
          obtain ⟨⟨p1, p2, p3, p4, p5⟩, p6⟩ := HSET.out j hlt
          have RX := Lib.hid (rangeAt_ext (HCM.out j _ (ent_at (l := l.set i e) (by rw [List.length_set]; exact hlt))) HX.out)
          have RY := Lib.hid (rangeAt_ext (HC.out j _ (ent_at hlt)) HX.out)
          have hjj := Lib.hid hlt
          generalize (l.set i e).getD j default = x at *
          generalize l.getD j default = y at *
          have SX := fun w => eSeqs_any x w
          have TX := fun w => eTicks_any x w
          rw [p1, p2] at SX
          rw [p3, p4] at TX
          have SX := Lib.hid SX
          have TX := Lib.hid TX
          have SY := Lib.hid (fun w => eSeqs_any y w)
          have TY := Lib.hid (fun w => eTicks_any y w)
          have hq1 := fun w => range_neq (seqLo y) (seqHi y) (seqLo y) (seqHi y) w
          have hq2 := fun w => range_neq (tickLo y) (tickHi y) (tickLo y) (tickHi y) w
          rw [decide_eq_true rfl, decide_eq_true rfl] at hq1 hq2
          have hq1 : ∀ w : World, (binOp .neq 43 (.agg #[.int .i64 (seqLo y), .int .i64 (seqHi y)]) (.agg #[.int .i64 (seqLo y), .int .i64 (seqHi y)])).run Try.prog w = .ok (.bool false) w := hq1
          have hq2 : ∀ w : World, (binOp .neq 43 (.agg #[.int .i64 (tickLo y), .int .i64 (tickHi y)]) (.agg #[.int .i64 (tickLo y), .int .i64 (tickHi y)])).run Try.prog w = .ok (.bool false) w := hq2
          have HN := Lib.hid (fun w => ent_neq x y w)
          have f0 := up_cell (cell_mid90 RX.out (show (entC x)[0]? = some (.int .i64 y.id) from by rw [← p5]; rfl))
          have g0 := up_cell (cell_mid90 RY.out (show (entC y)[0]? = some (.int .i64 y.id) from rfl))
          have ZX := Lib.hid (show (Try.prog.info? 26).map (·.size) = some (entC x).length from ent_size)
          have ZY := Lib.hid (show (Try.prog.info? 26).map (·.size) = some (entC y).length from ent_size)
          have P6 := Lib.hid p6
          clear p1 p2 p3 p4 p5 p6 hj hlt
          generalize seqLo y = a1 at *
          generalize seqHi y = a2 at *
          generalize tickLo y = a3 at *
          generalize tickHi y = a4 at *
          generalize entC x = cx at *
          generalize entC y = cy at *
          go_wp2_with fail
          refine wp_region_up (by kernel_rfl) (by kernel_rfl) ?_
          iterate 3 (go_big_quiet_step (fail))
          refine wpQuiet_load_range (by kernel_rfl) 26 (.tmp 98) rfl rfl RX.out Try.underlying26 rfl ZX.out ?_
          dsimp only [Act.put]
          simp only [List.setIfInBounds_toArray, List.set_cons_succ, List.set_cons_zero]
          go_big_quiet_step (first | (go_at_call 16; (with_reducible exact up_call (SX.out _))) | fail)
          iterate 3 (go_big_quiet_step (fail))
          refine wpQuiet_load_range (by kernel_rfl) 26 (.tmp 103) rfl rfl RY.out Try.underlying26 rfl ZY.out ?_
          dsimp only [Act.put]
          simp only [List.setIfInBounds_toArray, List.set_cons_succ, List.set_cons_zero]
          go_big_quiet_step (first | (go_at_call 16; (with_reducible exact up_call (SY.out _))) | fail)
          iterate 5 (go_big_quiet_step (fail))
          refine wpQuiet_load_range (by kernel_rfl) 26 (.tmp 110) rfl rfl RX.out Try.underlying26 rfl ZX.out ?_
          dsimp only [Act.put]
          simp only [List.setIfInBounds_toArray, List.set_cons_succ, List.set_cons_zero]
          go_big_quiet_step (first | (go_at_call 17; (with_reducible exact up_call (TX.out _))) | fail)
          iterate 3 (go_big_quiet_step (fail))
          refine wpQuiet_load_range (by kernel_rfl) 26 (.tmp 115) rfl rfl RY.out Try.underlying26 rfl ZY.out ?_
          dsimp only [Act.put]
          simp only [List.setIfInBounds_toArray, List.set_cons_succ, List.set_cons_zero]
          go_big_quiet_step (first | (go_at_call 17; (with_reducible exact up_call (TY.out _))) | fail)
          repeat (go_big_quiet_step (fail))
          refine wpQuiet_nil ?_
          rintro _ ⟨z, rfl⟩
          have RX := Lib.hid (rangeAt_ext RX.out z.ext)
          have RY := Lib.hid (rangeAt_ext RY.out z.ext)
          have HX := Lib.hid (HX.out.trans z.ext)
          clear f0 g0 hq1 hq2
          have hN := HN.out
          by_cases hij : j = i
          · subst hij
            have hxy : ¬ x = y := fun h => (P6.out.1 h) rfl
            rw [decide_eq_false hxy] at hN
            have hT := (turnI_at j).2
            rw [hT]
            have hT1 := Lib.hid (turnI_at j).1
            clear hxy hT
            go_wp2_with fail
            refine wp_region_up (by kernel_rfl) (by kernel_rfl) ?_
            iterate 3 (go_big_quiet_step (fail))
            refine wpQuiet_load_range (by kernel_rfl) 26 (.tmp 137) rfl rfl RX.out Try.underlying26 rfl ZX.out ?_
            dsimp only [Act.put]
            simp only [List.setIfInBounds_toArray, List.set_cons_succ, List.set_cons_zero]
            iterate 3 (go_big_quiet_step (fail))
            refine wpQuiet_load_range (by kernel_rfl) 26 (.tmp 141) rfl rfl RY.out Try.underlying26 rfl ZY.out ?_
            dsimp only [Act.put]
            simp only [List.setIfInBounds_toArray, List.set_cons_succ, List.set_cons_zero]
            repeat (go_big_quiet_step (fail))
            refine wpQuiet_nil ?_
            rintro _ ⟨z2, rfl⟩
            go_wp2
            go_roundw
            case rel => exact ⟨j + 1, by go_num, by have := hjj.out; omega, by rw [hT1.out], HX.out.trans z2.ext⟩
            case measure => simp [intOf]; have := hjj.out; omega
          · have hxy : x = y := P6.out.2 hij
            rw [decide_eq_true hxy] at hN
            have hT := Lib.hid (turnI_far hij)
            clear hxy
            go_wp2_with fail
            refine wp_region_up (by kernel_rfl) (by kernel_rfl) ?_
            iterate 3 (go_big_quiet_step (fail))
            refine wpQuiet_load_range (by kernel_rfl) 26 (.tmp 137) rfl rfl RX.out Try.underlying26 rfl ZX.out ?_
            dsimp only [Act.put]
            simp only [List.setIfInBounds_toArray, List.set_cons_succ, List.set_cons_zero]
            iterate 3 (go_big_quiet_step (fail))
            refine wpQuiet_load_range (by kernel_rfl) 26 (.tmp 141) rfl rfl RY.out Try.underlying26 rfl ZY.out ?_
            dsimp only [Act.put]
            simp only [List.setIfInBounds_toArray, List.set_cons_succ, List.set_cons_zero]
            repeat (go_big_quiet_step (fail))
            refine wpQuiet_nil ?_
            rintro _ ⟨z2, rfl⟩
            go_wp2
            go_roundw
            case rel => exact ⟨j + 1, by go_num, by have := hjj.out; omega, by rw [hT.out], HX.out.trans z2.ext⟩
            case measure => simp [intOf]; have := hjj.out; omega
        · obtain rfl : j = l.length := by omega
          rw [turnI_end HI.out]
          clear hj hlt
          go_wp2_with fail
          refine (QA.out _).mono ?_
          rintro _ w9 ⟨rfl, x9⟩
          go_wp2
          go_ret
          exact ⟨rfl, (X4.out.trans HX.out).trans x9⟩
end Go.Proofs.Ytplbebcckffgeaa
