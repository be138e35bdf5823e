/- ManiLater: the law's walk. -/
import Derived.Test.YtcagcepbnkageaaMaR
namespace Go.Proofs.Ytcagcepbnkageaa
set_option linter.unusedVariables false
set_option linter.unusedSimpArgs false
open Go.RowKit

set_option maxRecDepth 20000 in
set_option maxHeartbeats 16000000 in
theorem maniLater_law (m : Man) (u : Value) (n : Man) (un : Value) (now : Int) (wn : (Lit.int .i64 now).wf = true) (w : World) (rm : RR entC 9 w u m.ents) (rn : RR entC 9 w un n.ents) :
    Calls Try.prog 4 #[.agg (manC m u), .agg (manC n un), .int .i64 now] w fun x w' => x = .returned (.bool true) ∧ Ext w w' := by
  have QA := Lib.hid awake25_any
  have SM := Lib.hid (show (Try.prog.info? 24).map (·.size) = some (manC m u).size from man_size)
  have SN := Lib.hid (show (Try.prog.info? 24).map (·.size) = some (manC n un).size from man_size)
  have X0 := Lib.hid (((Ext.refl w).alloc (.cells (manC m u) 24)).alloc (.cells (manC n un) 24))
  have B3 := Lib.hid ((Blk.new w 24 (manC m u)).alloc (.cells (manC n un) 24))
  have b4 := Blk.new (w.alloc (.cells (manC m u) 24)) 24 (manC n un)
  rw [World.size_alloc] at b4
  have B4 := Lib.hid b4
  have R0 := Lib.hid (rm.ext X0.out)
  have N0 := Lib.hid (rn.ext X0.out)
  have QF := Lib.hid (fun w h => few_any m u w h)
  have QN := Lib.hid (fun w h => few_any n un w h)
  have hun := rr_shape rn
  clear b4 rm rn
  by_cases hm : ¬ (m.ents.length : Int) ≤ 200
  · rw [decide_eq_false hm] at QF
    generalize manC m u = mc at *
    generalize manC n un = nc at *
    go_enter Try.func4, Try.ntmps4
    go_wp2_with (refine wpList_load_blk rfl 24 (.tmp 3) rfl rfl B3.out Try.underlying24 rfl SM.out ?_; refine Held.go ?_)
    refine ⟨?_⟩
    go_wp2_with fail
    refine (QF.out _ R0.out).mono ?_
    rintro _ w1 ⟨rfl, x1⟩
    have X1 := Lib.hid (X0.out.trans x1)
    clear x1
    go_wp2_with fail
    refine (QA.out _).mono ?_
    rintro _ w2 ⟨rfl, x2⟩
    go_wp2
    go_ret
    exact ⟨rfl, X1.out.trans x2⟩
  have hm := Decidable.not_not.1 hm
  rw [decide_eq_true hm] at QF
  by_cases hn : ¬ (n.ents.length : Int) ≤ 200
  · rw [decide_eq_false hn] at QN
    generalize manC m u = mc at *
    generalize manC n un = nc at *
    go_enter Try.func4, Try.ntmps4
    go_wp2_with (refine wpList_load_blk rfl 24 (.tmp 3) rfl rfl B3.out Try.underlying24 rfl SM.out ?_; refine Held.go ?_)
    refine ⟨?_⟩
    go_wp2_with fail
    refine (QF.out _ R0.out).mono ?_
    rintro _ w1 ⟨rfl, x1⟩
    have B4 := Lib.hid (B4.out.ext x1)
    have N0 := Lib.hid (N0.out.ext x1)
    have X1 := Lib.hid (X0.out.trans x1)
    clear x1 X0
    go_wp2_with (refine wpList_load_blk_g (by kernel_rfl) 24 (.tmp 4) rfl rfl B4.out Try.underlying24 rfl SN.out ?_; refine Held.go ?_)
    refine ⟨?_⟩
    go_wp2_with fail
    refine (QN.out _ N0.out).mono ?_
    rintro _ w2 ⟨rfl, x2⟩
    have X2 := Lib.hid (X1.out.trans x2)
    clear x2 X1
    go_wp2_with fail
    refine (QA.out _).mono ?_
    rintro _ w3 ⟨rfl, x3⟩
    go_wp2
    go_ret
    exact ⟨rfl, X2.out.trans x3⟩
  have hn := Decidable.not_not.1 hn
  rw [decide_eq_true hn] at QN
  have hL : ((laterM m now n.ents).ents.length : Int) ≤ 1000000000 := by
    unfold laterM
    split
    · show ((n.ents.length : Nat) : Int) ≤ _; omega
    · exact (by decide)
  have Q1 := Lib.hid (fun w h1 h2 => mLater_any m now n.ents u un w h1 h2)
  have Q2 := Lib.hid (fun w h1 h2 => rMLater_any m now n.ents u un w h1 h2)
  have q3 := fun va vb w ha hb => rSameMan_any (laterM m now n.ents) (laterM m now n.ents) va vb w ha hb hL
  rw [sameMan_self] at q3
  have Q3 := Lib.hid q3
  have Q4 := Lib.hid (fun w ha hb => mSame_any m n u un w ha hb (by omega))
  have Q5 := Lib.hid (fun w ha hb => rSameMan_any m n u un w ha hb (by omega))
  have MC := Lib.hid (show ∀ (x : Man) (v : Value), (Try.prog.info? 24).map (·.size) = some (manC x v).size from fun _ _ => man_size)
  obtain ⟨ua, ul, uc, rfl⟩ := hun
  have C4 := Lib.hid (show (manC n (.slice ua ul uc))[4]? = some (.slice ua ul uc) from rfl)
  clear hL q3
  generalize errI (laterP m now n.ents) 250 = le at *
  generalize laterM m now n.ents = lm at *
  generalize sameMan m n = sm at *
  generalize manC m u = mc at *
  generalize manC n (.slice ua ul uc) = nc at *
  go_enter Try.func4, Try.ntmps4
  go_wp2_with (refine wpList_load_blk rfl 24 (.tmp 3) rfl rfl B3.out Try.underlying24 rfl SM.out ?_; refine Held.go ?_)
  refine ⟨?_⟩
  go_wp2_with fail
  refine (QF.out _ R0.out).mono ?_
  rintro _ w1 ⟨rfl, x1⟩
  have B3 := Lib.hid (B3.out.ext x1)
  have B4 := Lib.hid (B4.out.ext x1)
  have R0 := Lib.hid (R0.out.ext x1)
  have N0 := Lib.hid (N0.out.ext x1)
  have X1 := Lib.hid (X0.out.trans x1)
  clear x1 X0
  go_wp2_with (refine wpList_load_blk_g (by kernel_rfl) 24 (.tmp 4) rfl rfl B4.out Try.underlying24 rfl SN.out ?_; refine Held.go ?_)
  refine ⟨?_⟩
  go_wp2_with fail
  refine (QN.out _ N0.out).mono ?_
  rintro _ w2 ⟨rfl, x2⟩
  have B3 := Lib.hid (B3.out.ext x2)
  have B4 := Lib.hid (B4.out.ext x2)
  have R0 := Lib.hid (R0.out.ext x2)
  have N0 := Lib.hid (N0.out.ext x2)
  have X2 := Lib.hid (X1.out.trans x2)
  clear x2 X1
  have c4 := B4.out.cell 4
  rw [C4.out] at c4
  go_wp2_with (refine wpList_load_blk rfl 24 (.tmp 3) rfl rfl B3.out Try.underlying24 rfl SM.out ?_; refine Held.go ?_)
  refine ⟨?_⟩
  go_wp2_with fail
  refine (Q1.out _ R0.out N0.out).mono ?_
  rintro _ w3 ⟨u3, rfl, x3, r3⟩
  have y3 := x3.alloc (.cells (manC lm u3) 24)
  have B3 := Lib.hid (B3.out.ext y3)
  have B4 := Lib.hid (B4.out.ext y3)
  have R0 := Lib.hid (R0.out.ext y3)
  have N0 := Lib.hid (N0.out.ext y3)
  have B7 := Lib.hid (Blk.new w3 24 (manC lm u3))
  have RX7 := Lib.hid r3
  have R7 := Lib.hid (r3.ext ((Ext.refl w3).alloc (.cells (manC lm u3) 24)))
  have S7 := Lib.hid (MC.out lm u3)
  have Z7 := Lib.hid (show (5 : Nat) = (manC lm u3).size from rfl)
  have O7 := Lib.hid (man_one lm RX7.out)
  have X3 := Lib.hid (X2.out.trans y3)
  clear x3 y3 r3 X2 c4
  generalize hc : manC lm u3 = c7 at *
  have E7 := Lib.hid hc
  clear hc
  go_wp2_with (refine wpList_store_new rfl 24 (.tmp 7) (.tmp 26) rfl rfl rfl Z7.out S7.out O7.out ?_; refine Held.go ?_)
  refine ⟨?_⟩
  generalize w3.alloc (.cells c7 24) = v3 at *
  have c4 := B4.out.cell 4
  rw [C4.out] at c4
  go_wp2_with (refine wpList_load_blk rfl 24 (.tmp 3) rfl rfl B3.out Try.underlying24 rfl SM.out ?_; refine Held.go ?_)
  refine ⟨?_⟩
  go_wp2_with fail
  refine (Q2.out _ R0.out N0.out).mono ?_
  rintro _ w4 ⟨u4, rfl, x4, r4⟩
  have y4 := x4.alloc (.cells (manC lm u4) 24)
  have B3 := Lib.hid (B3.out.ext y4)
  have B4 := Lib.hid (B4.out.ext y4)
  have R0 := Lib.hid (R0.out.ext y4)
  have N0 := Lib.hid (N0.out.ext y4)
  have B7 := Lib.hid (B7.out.ext y4)
  have R7 := Lib.hid (R7.out.ext y4)
  have B9 := Lib.hid (Blk.new w4 24 (manC lm u4))
  have RX9 := Lib.hid r4
  have R9 := Lib.hid (r4.ext ((Ext.refl w4).alloc (.cells (manC lm u4) 24)))
  have S9 := Lib.hid (MC.out lm u4)
  have Z9 := Lib.hid (show (5 : Nat) = (manC lm u4).size from rfl)
  have O9 := Lib.hid (man_one lm RX9.out)
  have X4 := Lib.hid (X3.out.trans y4)
  clear x4 y4 r4 X3 c4
  generalize hc : manC lm u4 = c9 at *
  have E9 := Lib.hid hc
  clear hc
  go_wp2_with (refine wpList_store_new rfl 24 (.tmp 9) (.tmp 34) rfl rfl rfl Z9.out S9.out O9.out ?_; refine Held.go ?_)
  refine ⟨?_⟩
  generalize w4.alloc (.cells c9 24) = v4 at *
  have h3 := fun x : Up v4 => Q3.out _ _ _ (R7.out.ext x.ext) (R9.out.ext x.ext)
  rw [E7.out, E9.out] at h3
  have q3 := Lib.hid h3
  have q4 := Lib.hid (fun x : Up v4 => Q4.out _ (R0.out.ext x.ext) (N0.out.ext x.ext))
  have q5 := Lib.hid (fun x : Up v4 => Q5.out _ (R0.out.ext x.ext) (N0.out.ext x.ext))
  clear h3
  have hss : (sm == sm) = true := beq_self_eq_true sm
  go_wp2
  refine wp_region_up (by kernel_rfl) (by kernel_rfl) ?_
  repeat (first
    | (refine wpQuiet_load_blk (by kernel_rfl) 24 (.tmp 3) rfl rfl B3.out Try.underlying24 rfl SM.out ?_
       dsimp only [Act.put]
       simp only [List.setIfInBounds_toArray, List.set_cons_succ, List.set_cons_zero])
    | (refine wpQuiet_load_blk (by kernel_rfl) 24 (.tmp 4) rfl rfl B4.out Try.underlying24 rfl SN.out ?_
       dsimp only [Act.put]
       simp only [List.setIfInBounds_toArray, List.set_cons_succ, List.set_cons_zero])
    | (refine wpQuiet_load_blk (by kernel_rfl) 24 (.tmp 7) rfl rfl B7.out Try.underlying24 rfl S7.out ?_
       dsimp only [Act.put]
       simp only [List.setIfInBounds_toArray, List.set_cons_succ, List.set_cons_zero])
    | (refine wpQuiet_load_blk (by kernel_rfl) 24 (.tmp 9) rfl rfl B9.out Try.underlying24 rfl S9.out ?_
       dsimp only [Act.put]
       simp only [List.setIfInBounds_toArray, List.set_cons_succ, List.set_cons_zero])
    | (go_big_quiet_step (first
       | (go_at_call 20; (with_reducible exact up_call (q4.out _)))
       | (go_at_call 17; (first | (with_reducible exact up_call (q3.out _)) | (with_reducible exact up_call (q5.out _))))
       | (go_at_call 8; (with_reducible exact up_call (QA.out _))))))
  refine wpQuiet_nil ?_
  rintro _ ⟨z, rfl⟩
  go_wp2
  go_ret
  exact ⟨rfl, X4.out.trans z.ext⟩
end Go.Proofs.Ytcagcepbnkageaa
