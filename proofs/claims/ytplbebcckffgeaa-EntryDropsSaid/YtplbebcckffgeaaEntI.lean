/- entry: Seal. -/
import Derived.Test.YtplbebcckffgeaaEntH
namespace Go.Proofs.Ytplbebcckffgeaa
set_option linter.unusedVariables false
set_option linter.unusedSimpArgs false
open Go.RowKit

theorem run_bs2e (a b : E9) (w : World) : (Instr.buildSlice 22 2 #[(0, .agg (entC a).toArray), (1, .agg (entC b).toArray)]).run Try.prog w = .ok (.slice (some ⟨w.heap.size, 0, none⟩) 2 2) (w.alloc (.cells (entC a ++ entC b).toArray 26)) := by
  obtain ⟨id, gen, fst, sld, cnt, blk, early, late, bytes⟩ := a
  obtain ⟨id', gen', fst', sld', cnt', blk', early', late', bytes'⟩ := b
  kernel_rfl
theorem rangeAt_take {w : World} {g o : Nat} {cs : List Value} (h : w.rangeAt g o cs) (k : Nat) : w.rangeAt g o (cs.take k) := fun j v hv => h j v (by
  rw [List.getElem?_take] at hv
  split at hv
  · exact hv
  · cases hv)
theorem seal_no {l : List E9} {e : E9} {id gen fst : Int} (h : headP id gen fst = false) : sealE l e id gen fst = 240 ∧ sealL l e id gen fst = [] := by
  unfold sealE sealL putL
  cases hr : rowP (sealOut l e id gen fst) with
  | true => rw [seal_head hr] at h; cases h
  | false => exact ⟨by split <;> rfl, by split <;> rfl⟩
theorem seal_not {l : List E9} {e : E9} {id gen fst : Int} (h : sealOk l e = false) : sealE l e id gen fst = 240 ∧ sealL l e id gen fst = [] := by
  unfold sealE sealL
  rw [h]
  exact ⟨rfl, rfl⟩
theorem seal_yes {l : List E9} {e : E9} {id gen fst : Int} (h : sealOk l e = true) : sealE l e id gen fst = errI (rowP (sealOut l e id gen fst)) 240 ∧ sealL l e id gen fst = putL (sealOut l e id gen fst) := by
  unfold sealE sealL
  rw [h]
  exact ⟨rfl, rfl⟩
set_option maxRecDepth 20000 in
set_option maxHeartbeats 8000000 in
theorem eSeal_any (l : List E9) (e : E9) (id gen fst : Int) (v : Value) (w : World) (hr : RR entC 9 w v l) :
    Calls Try.prog 7 #[v, .agg (entC e).toArray, .agg #[.int .i64 id, .int .i64 gen, .int .i64 fst]] w fun x w' => ∃ v', x = .returned (.tuple #[v', .int .i64 (sealE l e id gen fst)]) ∧ Ext w w' ∧ EW w' w.heap.size v' (sealL l e id gen fst) := by
  have q := fun w' (h : RR entC 9 w' v l) => eRow_any l v w' h
  have qo := fun w => eOpen_any id gen fst w
  have B1 := Lib.hid ((Blk.new w 26 (entC e).toArray).alloc (.cells #[.int .i64 id, .int .i64 gen, .int .i64 fst] 24))
  have B2 := Lib.hid (Blk.new (w.alloc (.cells (entC e).toArray 26)) 24 #[.int .i64 id, .int .i64 gen, .int .i64 fst])
  rw [World.size_alloc] at B2
  have X0 := Lib.hid (((Ext.refl w).alloc (.cells (entC e).toArray 26)).alloc (.cells #[.int .i64 id, .int .i64 gen, .int .i64 fst] 24))
  have HR := Lib.hid (hr.ext X0.out)
  have HS := Lib.hid head_size
  have ES := Lib.hid (show (Try.prog.info? 26).map (·.size) = some (entC e).toArray.size from ent_size)
  cases hrow : rowP l with
  | false =>
    rw [hrow] at q
    have Q := Lib.hid q
    have hs := seal_not (id := id) (gen := gen) (fst := fst) (show sealOk l e = false by unfold sealOk; rw [hrow]; rfl)
    rw [hs.1, hs.2]
    clear hrow hs q qo hr
    generalize entC e = ce at *
    go_enter Try.func7, Try.ntmps7
    go_wp2_with fail
    refine (Q.out _ HR.out).mono ?_
    rintro _ w1 ⟨rfl, x1⟩
    simp only [errI, Bool.false_eq_true, if_false]
    go_wp2
    go_ret2
    exact ⟨_, rfl, X0.out.trans x1, WR.nil _ _ _⟩
  | true =>
    rw [hrow] at q
    have Q := Lib.hid q
    clear q
    obtain ⟨h1, h2⟩ := rowP_len hrow
    cases hhd : headP id gen fst with
    | false =>
      rw [hhd] at qo
      have QO := Lib.hid qo
      have hs := seal_no (l := l) (e := e) hhd
      rw [hs.1, hs.2]
      clear hrow hs qo hr hhd h1 h2
      generalize entC e = ce at *
      simp only [openC, errI, Bool.false_eq_true, if_false] at QO
      generalize hz : entC (⟨0, 0, 0, false, 0, 0, 0, 0, 0⟩ : E9) = cz at *
      have HZ := Lib.hid (show (Try.prog.info? 26).map (·.size) = some cz.toArray.size by rw [← hz]; exact ent_size)
      have HZS := Lib.hid (show (#[Value.int .i64 0, .int .i64 0, .int .i64 0, .bool false, .int .i64 0, .int .i64 0, .int .i64 0, .int .i64 0, .int .i64 0] : Array Value).size = cz.toArray.size by rw [← hz]; rfl)
      have HZ1 := Lib.hid (show cz.toArray.all (·.oneCell') = true by rw [← hz]; exact entC_all _)
      clear hz
      go_enter Try.func7, Try.ntmps7
      go_wp2_with fail
      refine (Q.out _ HR.out).mono ?_
      rintro _ w1 ⟨rfl, x1⟩
      simp only [errI, if_true]
      have B2 := Lib.hid (B2.out.ext x1)
      have X1 := Lib.hid (X0.out.trans x1)
      clear x1
      go_wp2_with (refine wpList_load_blk rfl 24 (.tmp 5) rfl rfl B2.out Try.underlying24 rfl HS.out ?_)
      refine (QO.out _).mono ?_
      rintro _ w2 ⟨rfl, x2⟩
      have X2 := Lib.hid (X1.out.trans x2)
      clear x2
      go_wp2_with (refine wpList_store_new (cs' := cz.toArray) rfl 26 (.tmp 9) (.tmp 19) rfl rfl rfl HZS.out HZ.out HZ1.out ?_)
      refine wp_region_up (by kernel_rfl) (by kernel_rfl) ?_
      repeat (go_big_quiet_step (fail))
      refine wpQuiet_nil ?_
      rintro _ ⟨z, rfl⟩
      go_wp2
      go_ret2
      exact ⟨_, rfl, (X2.out.alloc _).trans z.ext, WR.nil _ _ _⟩
    | true =>
      rw [hhd] at qo
      simp only [openC, errI, if_true] at qo
      have QO := Lib.hid qo
      clear qo
      obtain ⟨m, hm⟩ : ∃ m, l.length = m + 1 := ⟨l.length - 1, by omega⟩
      have HR0 := Lib.hid hr
      obtain ⟨a, c, rfl, hlc, _, hs⟩ := hr
      obtain ⟨g, o, rfl, hcells⟩ := hs (by omega)
      have RX := Lib.hid (rangeAt_take (hcells m _ (ent_at (k := m) (by omega))) 3)
      have RB := Lib.hid (range_blk B1.out 3)
      have C3 := Lib.hid (show _ = some (Value.bool e.sld) from B1.out.cell 3)
      have HOK : sealOk l e = (e.sld && sameHead e (l.getD m default)) := by unfold sealOk; rw [hrow, hm]; rfl
      have hw : IntKind.i64.wrap ((l.length : Int) - 1) = (m : Int) := by rw [IntKind.wrap_i64]; omega
      have RX := Lib.hid (show w.rangeAt g (o + m * 9) [.int .i64 (l.getD m default).id, .int .i64 (l.getD m default).gen, .int .i64 (l.getD m default).fst] from RX.out)
      have RB := Lib.hid (show World.rangeAt _ w.heap.size 0 [.int .i64 e.id, .int .i64 e.gen, .int .i64 e.fst] from RB.out)
      have hsp : spliceL l m l.length [e, openE id gen fst] = sealOut l e id gen fst := by
        unfold spliceL sealOut
        rw [List.drop_of_length_le (Nat.le_refl _), List.append_nil, hm]
        rfl
      have qp := fun u w' k1 k2 => ePut_any l [e, openE id gen fst] m l.length g o c u w' k1 k2 (Nat.zero_lt_succ _) (show ((2 : Nat) : Int) ≤ 2 from Int.le_refl _) (by omega) (Nat.le_refl _) h2
      rw [hsp] at qp
      have QP := Lib.hid qp
      have hml : (m : Int) < (l.length : Int) := by omega
      have HZS := Lib.hid (show (#[Value.int .i64 0, .int .i64 0, .int .i64 0, .bool false, .int .i64 0, .int .i64 0, .int .i64 0, .int .i64 0, .int .i64 0] : Array Value).size = (entC (openE id gen fst)).toArray.size from rfl)
      have HZ := Lib.hid (show (Try.prog.info? 26).map (·.size) = some (entC (openE id gen fst)).toArray.size from ent_size)
      have HZ1 := Lib.hid (entC_all (openE id gen fst))
      have HBS := Lib.hid (fun w => run_bs2e e (openE id gen fst) w)
      have HLT := Lib.hid (fun w => WR.lit entC_length w 26 [e, openE id gen fst] (show 2 ≤ 1000000000 by omega) (entC e ++ entC (openE id gen fst)).toArray (by simp))
      have hN := fun w => head_neq e.id e.gen e.fst (l.getD m default).id (l.getD m default).gen (l.getD m default).fst w
      have hsh : sameHead e (l.getD m default) = (decide (e.id = (l.getD m default).id) && (decide (e.gen = (l.getD m default).gen) && decide (e.fst = (l.getD m default).fst))) := rfl
      generalize l.getD m default = x at *
      rw [← hsh] at hN
      clear hs hcells hlc hsp qp hm hsh
      cases hsld : e.sld with
      | false =>
        rw [hsld] at HOK C3
        have hs := seal_not (id := id) (gen := gen) (fst := fst) (show sealOk l e = false from HOK)
        rw [hs.1, hs.2]
        clear hrow hhd h1 h2 hs HOK hsld QP HBS HLT hN
        generalize entC e = ce at *
        go_enter Try.func7, Try.ntmps7
        go_wp2_with fail
        refine (Q.out _ HR.out).mono ?_
        rintro _ w1 ⟨rfl, x1⟩
        simp only [errI, if_true]
        have B2 := Lib.hid (B2.out.ext x1)
        have B1 := Lib.hid (B1.out.ext x1)
        have X1 := Lib.hid (X0.out.trans x1)
        have C3 := Lib.hid (Go.cell_later x1 C3.out)
        have RB := Lib.hid (rangeAt_ext RB.out x1)
        clear x1
        go_wp2_with (refine wpList_load_blk rfl 24 (.tmp 5) rfl rfl B2.out Try.underlying24 rfl HS.out ?_)
        refine (QO.out _).mono ?_
        rintro _ w2 ⟨rfl, x2⟩
        have x3 := Ext.alloc x2 (.cells (entC (openE id gen fst)).toArray 26)
        have X2 := Lib.hid (X1.out.trans x3)
        have B4 := Lib.hid (Blk.new w2 26 (entC (openE id gen fst)).toArray)
        have D3 := up_cell (Go.cell_later x3 C3.out)
        have RB := Lib.hid (rangeAt_ext RB.out x3)
        have RX := Lib.hid (rangeAt_ext RX.out X2.out)
        have B1 := Lib.hid (B1.out.ext x3)
        have HR4 := Lib.hid (HR0.out.ext X2.out)
        clear x2 x3
        generalize entC (openE id gen fst) = co at *
        go_wp2_with (refine wpList_store_new (cs' := co.toArray) rfl 26 (.tmp 9) (.tmp 19) rfl rfl rfl HZS.out HZ.out HZ1.out ?_)
        refine wp_region_up (by kernel_rfl) (by kernel_rfl) ?_
        repeat (go_big_quiet_step (fail))
        refine wpQuiet_nil ?_
        rintro _ ⟨z, rfl⟩
        go_wp2
        go_ret2
        exact ⟨_, rfl, X2.out.trans z.ext, WR.nil _ _ _⟩
      | true =>
        rw [hsld, Bool.true_and] at HOK
        rw [hsld] at C3
        cases hsm : sameHead e x with
        | false =>
          rw [hsm] at HOK hN
          have hs := seal_not (id := id) (gen := gen) (fst := fst) HOK
          rw [hs.1, hs.2]
          clear hrow hhd h1 h2 hs HOK hsld QP HBS HLT hsm
          generalize entC e = ce at *
          go_enter Try.func7, Try.ntmps7
          go_wp2_with fail
          refine (Q.out _ HR.out).mono ?_
          rintro _ w1 ⟨rfl, x1⟩
          simp only [errI, if_true]
          have B2 := Lib.hid (B2.out.ext x1)
          have B1 := Lib.hid (B1.out.ext x1)
          have X1 := Lib.hid (X0.out.trans x1)
          have C3 := Lib.hid (Go.cell_later x1 C3.out)
          have RB := Lib.hid (rangeAt_ext RB.out x1)
          clear x1
          go_wp2_with (refine wpList_load_blk rfl 24 (.tmp 5) rfl rfl B2.out Try.underlying24 rfl HS.out ?_)
          refine (QO.out _).mono ?_
          rintro _ w2 ⟨rfl, x2⟩
          have x3 := Ext.alloc x2 (.cells (entC (openE id gen fst)).toArray 26)
          have X2 := Lib.hid (X1.out.trans x3)
          have B4 := Lib.hid (Blk.new w2 26 (entC (openE id gen fst)).toArray)
          have D3 := up_cell (Go.cell_later x3 C3.out)
          have RB := Lib.hid (rangeAt_ext RB.out x3)
          have RX := Lib.hid (rangeAt_ext RX.out X2.out)
          have B1 := Lib.hid (B1.out.ext x3)
          have HR4 := Lib.hid (HR0.out.ext X2.out)
          clear x2 x3
          generalize entC (openE id gen fst) = co at *
          go_wp2_with (refine wpList_store_new (cs' := co.toArray) rfl 26 (.tmp 9) (.tmp 19) rfl rfl rfl HZS.out HZ.out HZ1.out ?_)
          refine wp_region_up (by kernel_rfl) (by kernel_rfl) ?_
          iterate 9 (go_big_quiet_step (fail))
          refine wpQuiet_load_range (by kernel_rfl) 24 (.tmp 29) rfl rfl RB.out Try.underlying24 rfl HS.out ?_
          dsimp only [Act.put]
          simp only [List.setIfInBounds_toArray, List.set_cons_succ, List.set_cons_zero]
          iterate 6 (go_big_quiet_step (fail))
          refine wpQuiet_load_range (by kernel_rfl) 24 (.tmp 36) rfl rfl RX.out Try.underlying24 rfl HS.out ?_
          dsimp only [Act.put]
          simp only [List.setIfInBounds_toArray, List.set_cons_succ, List.set_cons_zero]
          repeat (go_big_quiet_step (fail))
          refine wpQuiet_nil ?_
          rintro _ ⟨z, rfl⟩
          go_wp2
          go_ret2
          exact ⟨_, rfl, X2.out.trans z.ext, WR.nil _ _ _⟩
        | true =>
          rw [hsm] at HOK hN
          have hs := seal_yes (id := id) (gen := gen) (fst := fst) HOK
          rw [hs.1, hs.2]
          clear hrow hhd h1 h2 hs HOK hsld hsm
          generalize errI (rowP (sealOut l e id gen fst)) 240 = ev at *
          generalize putL (sealOut l e id gen fst) = pl at *
          generalize entC e = ce at *
          go_enter Try.func7, Try.ntmps7
          go_wp2_with fail
          refine (Q.out _ HR.out).mono ?_
          rintro _ w1 ⟨rfl, x1⟩
          simp only [errI, if_true]
          have B2 := Lib.hid (B2.out.ext x1)
          have B1 := Lib.hid (B1.out.ext x1)
          have X1 := Lib.hid (X0.out.trans x1)
          have C3 := Lib.hid (Go.cell_later x1 C3.out)
          have RB := Lib.hid (rangeAt_ext RB.out x1)
          clear x1
          go_wp2_with (refine wpList_load_blk rfl 24 (.tmp 5) rfl rfl B2.out Try.underlying24 rfl HS.out ?_)
          refine (QO.out _).mono ?_
          rintro _ w2 ⟨rfl, x2⟩
          have x3 := Ext.alloc x2 (.cells (entC (openE id gen fst)).toArray 26)
          have X2 := Lib.hid (X1.out.trans x3)
          have B4 := Lib.hid (Blk.new w2 26 (entC (openE id gen fst)).toArray)
          have D3 := up_cell (Go.cell_later x3 C3.out)
          have RB := Lib.hid (rangeAt_ext RB.out x3)
          have RX := Lib.hid (rangeAt_ext RX.out X2.out)
          have B1 := Lib.hid (B1.out.ext x3)
          have HR4 := Lib.hid (HR0.out.ext X2.out)
          clear x2 x3
          generalize entC (openE id gen fst) = co at *
          go_wp2_with (refine wpList_store_new (cs' := co.toArray) rfl 26 (.tmp 9) (.tmp 19) rfl rfl rfl HZS.out HZ.out HZ1.out ?_)
          refine wp_region_up (by kernel_rfl) (by kernel_rfl) ?_
          iterate 9 (go_big_quiet_step (fail))
          refine wpQuiet_load_range (by kernel_rfl) 24 (.tmp 29) rfl rfl RB.out Try.underlying24 rfl HS.out ?_
          dsimp only [Act.put]
          simp only [List.setIfInBounds_toArray, List.set_cons_succ, List.set_cons_zero]
          iterate 6 (go_big_quiet_step (fail))
          refine wpQuiet_load_range (by kernel_rfl) 24 (.tmp 36) rfl rfl RX.out Try.underlying24 rfl HS.out ?_
          dsimp only [Act.put]
          simp only [List.setIfInBounds_toArray, List.set_cons_succ, List.set_cons_zero]
          repeat (go_big_quiet_step (fail))
          refine wpQuiet_nil ?_
          rintro _ ⟨z, rfl⟩
          have X3 := Lib.hid (X2.out.trans z.ext)
          have B1 := Lib.hid (B1.out.ext z.ext)
          have B4 := Lib.hid (B4.out.ext z.ext)
          have HR5 := Lib.hid (HR4.out.ext z.ext)
          clear HR4 X2 RX RB
          go_wp2_with (first
            | (refine wpList_load_blk rfl 26 (.tmp 4) rfl rfl B1.out Try.underlying26 rfl ES.out ?_)
            | (refine wpList_load_blk rfl 26 (.tmp 9) rfl rfl B4.out Try.underlying26 rfl HZ.out ?_)
            | (refine wpList_bs (vs := #[(0, .agg ce.toArray), (1, .agg co.toArray)]) rfl 22 2 _ rfl rfl (HBS.out _) ?_))
          refine (QP.out _ _ (HR5.out.ext ((Ext.refl _).alloc _)) (WR.rr entC_length (HLT.out _))).mono ?_
          rintro _ w5 ⟨v', rfl, x5, i5⟩
          have X5 := Lib.hid (((X3.out).alloc (.cells (ce ++ co).toArray 26)).trans x5)
          have I5 := Lib.hid (i5.mono ((X3.out).alloc (.cells (ce ++ co).toArray 26)).le)
          clear x5 i5
          go_wp2
          go_ret2
          exact ⟨_, rfl, X5.out, I5.out⟩
end Go.Proofs.Ytplbebcckffgeaa
