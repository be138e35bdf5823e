/- varveref24: Seal. -/
import Derived.Test.YtplbebcckffgeaaEntI
import Derived.Test.YtplbebcckffgeaaEntE
namespace Go.Proofs.Ytplbebcckffgeaa
set_option linter.unusedVariables false
set_option linter.unusedSimpArgs false
open Go.RowKit

theorem blk_rr2 {w : World} {g : Nat} {t : TypeId} {a b : E9} (h : Blk w g t (entC a ++ entC b).toArray) : RR entC 9 w (.slice (some ⟨g, 0, none⟩) 2 2) [a, b] :=
  WR.rr (B := 0) entC_length ⟨by simp [entC_length], .inr ⟨g, 2, _, rfl, Nat.zero_le _, h, Nat.le_refl _, by unfold maxLen; omega, by simp [entC_length], by
    have : ([a, b].length * 9) = (entC a ++ entC b).length := by simp [entC_length]
    rw [this, List.take_length]
    simp⟩⟩
attribute [local go_sem] ent_build
set_option maxRecDepth 20000 in
set_option maxHeartbeats 8000000 in
theorem rSeal_any (l : List E9) (e : E9) (id gen fst : Int) (v : Value) (w : World) (hr : RR entC 9 w v l) :
    Calls Try.prog 8 #[v, .agg (entC e).toArray, .agg #[.int .i64 id, .int .i64 gen, .int .i64 fst]] w fun x w' => ∃ v', x = .returned (.tuple #[v', .int .i64 (sealE l e id gen fst)]) ∧ Ext w w' ∧ EW w' w.heap.size v' (sealL l e id gen fst) := by
  have q := fun w' (h : RR entC 9 w' v l) => rRow_any l v w' h
  have B1 := Lib.hid ((Blk.new w 26 (entC e).toArray).alloc (.cells #[.int .i64 id, .int .i64 gen, .int .i64 fst] 24))
  have B2 := Lib.hid (Blk.new (w.alloc (.cells (entC e).toArray 26)) 24 #[.int .i64 id, .int .i64 gen, .int .i64 fst])
  rw [World.size_alloc] at B2
  have X0 := Lib.hid (((Ext.refl w).alloc (.cells (entC e).toArray 26)).alloc (.cells #[.int .i64 id, .int .i64 gen, .int .i64 fst] 24))
  have HR := Lib.hid (hr.ext X0.out)
  have HS := Lib.hid head_size
  have ES := Lib.hid (show (Try.prog.info? 26).map (·.size) = some (entC e).toArray.size from ent_size)
  cases hrow : rowP l with
  | false =>
    rw [hrow] at q
    have Q := Lib.hid q
    have hs := seal_not (id := id) (gen := gen) (fst := fst) (show sealOk l e = false by unfold sealOk; rw [hrow]; rfl)
    rw [hs.1, hs.2]
    clear hrow hs q hr
    generalize entC e = ce at *
    go_enter Try.func8, Try.ntmps8
    go_wp2_with fail
    refine (Q.out _ HR.out).mono ?_
    rintro _ w1 ⟨rfl, x1⟩
    simp only [errI, Bool.false_eq_true, if_false]
    go_wp2
    go_ret2
    exact ⟨_, rfl, X0.out.trans x1, WR.nil _ _ _⟩
  | true =>
    rw [hrow] at q
    have Q := Lib.hid q
    clear q
    obtain ⟨h1, h2⟩ := rowP_len hrow
    obtain ⟨m, hm⟩ : ∃ m, l.length = m + 1 := ⟨l.length - 1, by omega⟩
    have HR0 := Lib.hid hr
    obtain ⟨a, c, rfl, hlc, _, hs⟩ := hr
    obtain ⟨g, o, rfl, hcells⟩ := hs (by omega)
    have RX := Lib.hid (rangeAt_take (hcells m _ (ent_at (k := m) (by omega))) 3)
    have RB := Lib.hid (range_blk B1.out 3)
    have C3 := Lib.hid (show _ = some (Value.bool e.sld) from B1.out.cell 3)
    have HOK : sealOk l e = (e.sld && sameHead e (l.getD m default)) := by unfold sealOk; rw [hrow, hm]; rfl
    have hw : IntKind.i64.wrap ((l.length : Int) - 1) = (m : Int) := by rw [IntKind.wrap_i64]; omega
    have RX := Lib.hid (show w.rangeAt g (o + m * 9) [.int .i64 (l.getD m default).id, .int .i64 (l.getD m default).gen, .int .i64 (l.getD m default).fst] from RX.out)
    have RB := Lib.hid (show World.rangeAt _ w.heap.size 0 [.int .i64 e.id, .int .i64 e.gen, .int .i64 e.fst] from RB.out)
    have hml : (m : Int) < (l.length : Int) := by omega
    have hmc : (m : Int) ≤ (c : Int) := by omega
    have HBS := Lib.hid (fun w => run_bs2e e (openE id gen fst) w)
    have HLT := Lib.hid (fun w => WR.lit entC_length w 26 [e, openE id gen fst] (show 2 ≤ 1000000000 by omega) (entC e ++ entC (openE id gen fst)).toArray (by simp))
    have hN := fun w => head_neq e.id e.gen e.fst (l.getD m default).id (l.getD m default).gen (l.getD m default).fst w
    have hsh : sameHead e (l.getD m default) = (decide (e.id = (l.getD m default).id) && (decide (e.gen = (l.getD m default).gen) && decide (e.fst = (l.getD m default).fst))) := rfl
    generalize l.getD m default = x at *
    rw [← hsh] at hN
    have HRT := Lib.hid (RR.take HR0.out m (by omega))
    have HTL := Lib.hid (show (l.take m).length = m by rw [List.length_take]; omega)
    have HSO := Lib.hid (show sealOut l e id gen fst = l.take m ++ [e, openE id gen fst] by unfold sealOut; rw [hm]; rfl)
    have HM := Lib.hid (show m ≤ 100 by omega)
    clear hs hcells hlc hm hsh
    cases hsld : e.sld with
    | false =>
      rw [hsld] at HOK C3
      have hs := seal_not (id := id) (gen := gen) (fst := fst) (show sealOk l e = false from HOK)
      rw [hs.1, hs.2]
      clear hrow h1 h2 hs HOK hsld HBS HLT hN HRT HTL HSO
      generalize entC e = ce at *
      go_enter Try.func8, Try.ntmps8
      go_wp2_with fail
      refine (Q.out _ HR.out).mono ?_
      rintro _ w1 ⟨rfl, x1⟩
      simp only [errI, if_true]
      have B2 := Lib.hid (B2.out.ext x1)
      have B1 := Lib.hid (B1.out.ext x1)
      have X1 := Lib.hid (X0.out.trans x1)
      have D3 := up_cell (Go.cell_later x1 C3.out)
      have RB := Lib.hid (rangeAt_ext RB.out x1)
      have RX := Lib.hid (rangeAt_ext RX.out X1.out)
      clear x1
      go_wp2_with fail
      refine wp_region_up (by kernel_rfl) (by kernel_rfl) ?_
      repeat (go_big_quiet_step (fail))
      refine wpQuiet_nil ?_
      rintro _ ⟨z, rfl⟩
      go_wp2
      go_ret2
      exact ⟨_, rfl, X1.out.trans z.ext, WR.nil _ _ _⟩
    | true =>
      rw [hsld, Bool.true_and] at HOK
      rw [hsld] at C3
      cases hsm : sameHead e x with
      | false =>
        rw [hsm] at HOK hN
        have hs := seal_not (id := id) (gen := gen) (fst := fst) HOK
        rw [hs.1, hs.2]
        clear hrow h1 h2 hs HOK hsld HBS HLT hsm HRT HTL HSO
        generalize entC e = ce at *
        go_enter Try.func8, Try.ntmps8
        go_wp2_with fail
        refine (Q.out _ HR.out).mono ?_
        rintro _ w1 ⟨rfl, x1⟩
        simp only [errI, if_true]
        have B2 := Lib.hid (B2.out.ext x1)
        have B1 := Lib.hid (B1.out.ext x1)
        have X1 := Lib.hid (X0.out.trans x1)
        have D3 := up_cell (Go.cell_later x1 C3.out)
        have RB := Lib.hid (rangeAt_ext RB.out x1)
        have RX := Lib.hid (rangeAt_ext RX.out X1.out)
        clear x1
        go_wp2_with fail
        refine wp_region_up (by kernel_rfl) (by kernel_rfl) ?_
        iterate 5 (go_big_quiet_step (fail))
        refine wpQuiet_load_range (by kernel_rfl) 24 (.tmp 20) rfl rfl RB.out Try.underlying24 rfl HS.out ?_
        dsimp only [Act.put]
        simp only [List.setIfInBounds_toArray, List.set_cons_succ, List.set_cons_zero]
        iterate 4 (go_big_quiet_step (fail))
        refine wpQuiet_load_range (by kernel_rfl) 24 (.tmp 25) rfl rfl RX.out Try.underlying24 rfl HS.out ?_
        dsimp only [Act.put]
        simp only [List.setIfInBounds_toArray, List.set_cons_succ, List.set_cons_zero]
        repeat (go_big_quiet_step (fail))
        refine wpQuiet_nil ?_
        rintro _ ⟨z, rfl⟩
        go_wp2
        go_ret2
        exact ⟨_, rfl, X1.out.trans z.ext, WR.nil _ _ _⟩
      | true =>
        rw [hsm] at HOK hN
        have hs := seal_yes (id := id) (gen := gen) (fst := fst) HOK
        rw [hs.1, hs.2]
        clear hrow h1 h2 hs HOK hsld hsm
        generalize sealOut l e id gen fst = out at *
        have qr := Lib.hid (fun v w h => rRow_any out v w h)
        have HC := Lib.hid (show (errI (rowP out) 240 = 240 ∧ putL out = []) ∨ (errI (rowP out) 240 = 0 ∧ putL out = out) from by
          unfold putL
          cases rowP out with
          | false => exact .inl ⟨rfl, rfl⟩
          | true => exact .inr ⟨rfl, rfl⟩)
        generalize errI (rowP out) 240 = ev at *
        generalize putL out = pl at *
        go_enter Try.func8, Try.ntmps8
        go_wp2_with fail
        refine (Q.out _ HR.out).mono ?_
        rintro _ w1 ⟨rfl, x1⟩
        simp only [errI, if_true]
        have B2 := Lib.hid (B2.out.ext x1)
        have B1 := Lib.hid (B1.out.ext x1)
        have X1 := Lib.hid (X0.out.trans x1)
        have D3 := up_cell (Go.cell_later x1 C3.out)
        have RB := Lib.hid (rangeAt_ext RB.out x1)
        have RX := Lib.hid (rangeAt_ext RX.out X1.out)
        clear x1
        go_wp2_with fail
        refine wp_region_up (by kernel_rfl) (by kernel_rfl) ?_
        iterate 5 (go_big_quiet_step (fail))
        refine wpQuiet_load_range (by kernel_rfl) 24 (.tmp 20) rfl rfl RB.out Try.underlying24 rfl HS.out ?_
        dsimp only [Act.put]
        simp only [List.setIfInBounds_toArray, List.set_cons_succ, List.set_cons_zero]
        iterate 4 (go_big_quiet_step (fail))
        refine wpQuiet_load_range (by kernel_rfl) 24 (.tmp 25) rfl rfl RX.out Try.underlying24 rfl HS.out ?_
        dsimp only [Act.put]
        simp only [List.setIfInBounds_toArray, List.set_cons_succ, List.set_cons_zero]
        repeat (go_big_quiet_step (fail))
        refine wpQuiet_nil ?_
        rintro _ ⟨z, rfl⟩
        go_wp2_with fail
        refine wp_region_v [] _ rfl (by kernel_rfl) ?_
        dsimp only [List.length_cons, List.length_nil]
        refine v_late ?_
        iterate 3
          (refine v_want (by kernel_rfl) (by kernel_rfl) (by kernel_rfl) (fun _ _ _ _ h => h) (by kernel_rfl) (by kernel_rfl) (fun K hK => ?_)
           go_simp
           (refine hK _ ?_; clear hK K))
        refine v_late ?_
        refine v_load (by kernel_rfl) (by kernel_rfl) (by kernel_rfl) (fun _ _ _ _ h => h) (by kernel_rfl) (by kernel_rfl) 26 (.tmp 4) rfl rfl (B1.out.ext (Ext.drew z.ext)) Try.underlying26 rfl ES.out ?_
        refine v_load (by kernel_rfl) (by kernel_rfl) (by kernel_rfl) (fun _ _ _ _ h => h) (by kernel_rfl) (by kernel_rfl) 24 (.tmp 5) rfl rfl (B2.out.ext (Ext.drew z.ext)) Try.underlying24 rfl HS.out ?_
        dsimp only [Act.put]
        simp only [List.setIfInBounds_toArray, List.set_cons_succ, List.set_cons_zero]
        (refine v_want (by kernel_rfl) (by kernel_rfl) (by kernel_rfl) (fun _ _ _ _ h => h) (by kernel_rfl) (by kernel_rfl) (fun K hK => ?_)
         go_simp
         (refine hK _ ?_; clear hK K))
        refine v_late ?_
        refine v_late ?_
        refine v_late ?_
        refine v_rest ?_
        have X2 : Ext w z.val.drew := (X1.out.trans z.ext).drew
        refine v_abc (m := 2) (te := 26) (csA := #[]) (csC := (entC e ++ entC (openE id gen fst)).toArray) (iA := 0) (iB := 4) (iC := 8)
          (fun v' w' => EW w' w.heap.size v' (l.take m)) rfl rfl rfl rfl rfl rfl (fun d h => by cases h; decide) (fun d h => by cases h; decide)
          (by kernel_rfl) (by kernel_rfl) (by kernel_rfl) (by kernel_rfl) (by kernel_rfl) (by decide) (by decide)
          (fun v w w' h hx => WR.ext h hx)
          (fun u => ⟨BsAt.of (vs := #[]) 22 #[] rfl rfl run_bs0e, BsAt.of (vs := #[]) 22 #[] rfl rfl run_bs0e⟩)
          (fun gA u a' ha w' hx hle hb => ?_)
          (fun gA v a' ha => ?_)
          (fun gA gC v1 w3 x3 h3 hb => ?_)
        · obtain ⟨v', w'', p1, p2, p3⟩ := WR.app0 (B := w.heap.size) entC_length (by decide) entC_one hb (Nat.le_trans X2.le hle) (RR.ext HRT.out (X2.trans hx)) (X2.trans hx).le (P := Try.prog) (t := 22) Try.underlying22 ent_info rfl (by have := HTL.out; have := HM.out; omega) (by have := HTL.out; have := HM.out; unfold maxLen; omega)
          refine ⟨v', w'', ?_, p3, p2⟩
          rcases ha with rfl | rfl <;> exact exec_app (.tmp 29) (.tmp 32) 22 rfl rfl rfl rfl p1
        · rcases ha with rfl | rfl | rfl <;> exact BsAt.of (vs := #[(0, .agg (entC e).toArray), (1, .agg (entC (openE id gen fst)).toArray)]) 22 _ rfl rfl HBS.out
        · refine v_app 9 38 (.tmp 33) (.tmp 37) 22 (fun v' W w' => EW w' w.heap.size v' out ∧ Ext w w') (by kernel_rfl) rfl rfl rfl rfl rfl rfl rfl (.inl (by kernel_rfl)) (fun W x => ?_) (fun v2 W2 w2 x2 h2 => ?_)
          · have hB : w.heap.size ≤ W.heap.size := (X2.trans (x3.trans x)).le
            obtain ⟨v1, w1, p1, p2, p3⟩ := WR.appS entC_length (by decide) entC_one (WR.ext h3 x) (blk_rr2 (hb.ext x)) hB (P := Try.prog) (t := 22) Try.underlying22 ent_info rfl (by have := HTL.out; have := HM.out; simp only [List.length_cons, List.length_nil]; omega) (by have := HTL.out; have := HM.out; unfold maxLen; simp only [List.length_cons, List.length_nil]; omega)
            rw [← HSO.out] at p2
            exact ⟨_, _, p1, p2, Below.trans (X2.trans (x3.trans x)) (WR.below (WR.ext h3 x) hB p3)⟩
          have E2 := h2.1
          have X3 := h2.2
          clear h2 x2 h3 hb x3 X2
          refine v_val 10 9 (.tmp 38) (by kernel_rfl) rfl rfl rfl rfl rfl (fun W3 x3 => ?_)
          refine v_done (by kernel_rfl) (fun y => ?_)
          have X4 := Lib.hid ((X3.trans x3).trans y.ext)
          have E3 := Lib.hid (WR.ext (WR.ext E2 x3) y.ext)
          clear X3 x3 E2
          dsimp only [Act.put]
          simp only [List.setIfInBounds_toArray, List.set_cons_succ, List.set_cons_zero]
          rcases HC.out with ⟨rfl, rfl⟩ | ⟨rfl, rfl⟩
          · clear HC
            go_wp2_with fail
            refine (qr.out _ _ (WR.rr entC_length E3.out)).mono ?_
            rintro _ w5 ⟨rfl, x5⟩
            go_wp2
            go_ret2
            exact ⟨_, rfl, X4.out.trans x5, WR.nil _ _ _⟩
          · clear HC
            go_wp2_with fail
            refine (qr.out _ _ (WR.rr entC_length E3.out)).mono ?_
            rintro _ w5 ⟨rfl, x5⟩
            go_wp2
            go_ret2
            exact ⟨_, rfl, X4.out.trans x5, WR.ext E3.out x5⟩
end Go.Proofs.Ytplbebcckffgeaa
