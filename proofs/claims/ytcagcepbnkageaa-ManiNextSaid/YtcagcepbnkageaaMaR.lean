/- ManiCodes: the law's walk. -/
import Derived.Test.YtcagcepbnkageaaMaQ
import Derived.Test.YtcagcepbnkageaaMaO
namespace Go.Proofs.Ytcagcepbnkageaa
set_option linter.unusedVariables false
set_option linter.unusedSimpArgs false
open Go.RowKit
attribute [local go_sem] S_size S_toList S_beq
theorem hd_size3 : (Try.prog.info? 26).map (·.size) = some 3 := by kernel_rfl

theorem sameMan_self (a : Man) : sameMan a a = true := by unfold sameMan; simp
theorem man_one (m : Man) {u : Value} {w : World} {l : List E9} (h : RR entC 9 w u l) : (manC m u).all (·.oneCell') = true := by
  obtain ⟨a, c, rfl, _, _, _⟩ := h
  simp [manC, Value.oneCell']
theorem rows_len {l : List E9} (h : rowP l = true) : (l.length : Int) ≤ 1000000000 := by
  have := (rowP_all h).2.1
  omega
theorem decM_len (s : List UInt8) : ((xM (decM s)).ents.length : Int) ≤ 1000000000 := by
  cases h : decM s with
  | error e => show ((0 : Nat) : Int) ≤ 1000000000; omega
  | ok m => exact rows_len (mani_row (manB_decM h).1).2.1

set_option maxRecDepth 20000 in
set_option maxHeartbeats 16000000 in
theorem maniCodes_law (m : Man) (u : Value) (b : ByteArray) (hb : b.size ≤ maxLen) (i g f : Int) (w : World) (rd : RR entC 9 w u m.ents) :
    Calls Try.prog 3 #[.agg (manC m u), .string b, .agg #[.int .i64 i, .int .i64 g, .int .i64 f]] w fun x w' => x = .returned (.bool true) ∧ Ext w w' := by
  obtain ⟨s, rfl, hsz⟩ := S_ex b
  rw [← hsz] at hb
  have hb : (s.length : Int) ≤ 9223372036854775807 := by unfold maxLen at hb; omega
  clear hsz
  have QA := Lib.hid awake25_any
  have MS := Lib.hid man_size
  have HH := Lib.hid hd_size3
  have MSC := Lib.hid (show (Try.prog.info? 24).map (·.size) = some (manC m u).size from man_size)
  have X0 := Lib.hid (((Ext.refl w).alloc (.cells (manC m u) 24)).alloc (.cells #[.int .i64 i, .int .i64 g, .int .i64 f] 26))
  have B3 := Lib.hid ((Blk.new w 24 (manC m u)).alloc (.cells #[.int .i64 i, .int .i64 g, .int .i64 f] 26))
  have b5 := Blk.new (w.alloc (.cells (manC m u) 24)) 26 #[.int .i64 i, .int .i64 g, .int .i64 f]
  rw [World.size_alloc] at b5
  have B5 := Lib.hid b5
  have R0 := Lib.hid (rd.ext X0.out)
  have QF := Lib.hid (fun w h => few_any m u w h)
  have Q1 := Lib.hid (fun w h => mEncode_any m u w h)
  have Q2 := Lib.hid (fun w h => rEncode_any m u w h)
  have Q7 := Lib.hid (fun w h => mCheck_any m u w h)
  have Q8 := Lib.hid (fun w h => rMCheck_any m u w h)
  clear b5
  by_cases hfew : ¬ (m.ents.length : Int) ≤ 200
  · rw [decide_eq_false hfew] at QF
    clear rd Q1 Q2 Q7 Q8
    generalize manC m u = mc at *
    go_enter Try.func3, Try.ntmps3
    go_wp2_with (refine wpList_load_blk rfl 24 (.tmp 3) rfl rfl B3.out Try.underlying24 rfl MSC.out ?_; refine Held.go ?_)
    refine ⟨?_⟩
    go_wp2_with fail
    refine (QF.out _ R0.out).mono ?_
    rintro _ w1 ⟨rfl, x1⟩
    have X1 := Lib.hid (X0.out.trans x1)
    clear x1
    go_wp2_with fail
    refine (QA.out _).mono ?_
    rintro _ w2 ⟨rfl, x2⟩
    go_wp2
    go_ret
    exact ⟨rfl, X1.out.trans x2⟩
  have hfew := Decidable.not_not.1 hfew
  rw [decide_eq_true hfew] at QF
  by_cases hbig : (3000 : Int) < (s.length : Int)
  · clear rd Q1 Q2 Q7 Q8 hfew
    generalize manC m u = mc at *
    go_enter Try.func3, Try.ntmps3
    go_wp2_with (refine wpList_load_blk rfl 24 (.tmp 3) rfl rfl B3.out Try.underlying24 rfl MSC.out ?_; refine Held.go ?_)
    refine ⟨?_⟩
    go_wp2_with fail
    refine (QF.out _ R0.out).mono ?_
    rintro _ w1 ⟨rfl, x1⟩
    have X1 := Lib.hid (X0.out.trans x1)
    clear x1
    go_wp2_with fail
    refine (QA.out _).mono ?_
    rintro _ w2 ⟨rfl, x2⟩
    go_wp2
    go_ret
    exact ⟨rfl, X1.out.trans x2⟩
  clear rd
  have hM := decM_len s
  have hN : ((newM i g f).ents.length : Int) ≤ 1000000000 := by
    unfold newM
    split
    · show ((1 : Nat) : Int) ≤ 1000000000; omega
    · show ((0 : Nat) : Int) ≤ 1000000000; omega
  have Q3 := Lib.hid (fun w => mDecode_any s w (by omega))
  have Q4 := Lib.hid (fun w => rMDecode_any s w (by omega))
  have Q5 := Lib.hid (fun w => mNew_any i g f w)
  have Q6 := Lib.hid (fun w => rMNew_any i g f w)
  have q9 := fun va vb w ha hb => rSameMan_any (xM (decM s)) (xM (decM s)) va vb w ha hb hM
  have q10 := fun va vb w ha hb => rSameMan_any (newM i g f) (newM i g f) va vb w ha hb hN
  rw [sameMan_self] at q9 q10
  have Q9 := Lib.hid q9
  have Q10 := Lib.hid q10
  clear q9 q10 hM hN
  generalize manB m = p at *
  generalize errI (maniP m) 250 = pe at *
  generalize xE (decM s) = de at *
  generalize errI (newP i g f) 210 = ne at *
  have HB := Lib.hid (fun (m : Man) v => (rfl : manC m v = #[.int .i64 m.gen, .int .i64 m.next, .int .i64 m.now, .int .i64 m.floor, v]))
  have MM : ∀ (x : Man) (v : Value), (Try.prog.info? 24).map (·.size) = some (manC x v).size := fun _ _ => man_size
  have MC := Lib.hid MM
  clear MM
  generalize xM (decM s) = dm at *
  generalize newM i g f = nm at *
  generalize manC m u = mc at *
  go_enter Try.func3, Try.ntmps3
  go_wp2_with (refine wpList_load_blk rfl 24 (.tmp 3) rfl rfl B3.out Try.underlying24 rfl MSC.out ?_; refine Held.go ?_)
  refine ⟨?_⟩
  go_wp2_with fail
  refine (QF.out _ R0.out).mono ?_
  rintro _ w1 ⟨rfl, x1⟩
  have B3 := Lib.hid (B3.out.ext x1)
  have B5 := Lib.hid (B5.out.ext x1)
  have R0 := Lib.hid (R0.out.ext x1)
  have X1 := Lib.hid (X0.out.trans x1)
  clear x1 X0
  go_wp2_with (refine wpList_load_blk rfl 24 (.tmp 3) rfl rfl B3.out Try.underlying24 rfl MSC.out ?_; refine Held.go ?_)
  refine ⟨?_⟩
  go_wp2_with fail
  refine (Q1.out _ R0.out).mono ?_
  rintro _ w2 ⟨rfl, x2⟩
  have B3 := Lib.hid (B3.out.ext x2)
  have B5 := Lib.hid (B5.out.ext x2)
  have R0 := Lib.hid (R0.out.ext x2)
  have X2 := Lib.hid (X1.out.trans x2)
  clear x2 X1
  go_wp2_with (refine wpList_load_blk rfl 24 (.tmp 3) rfl rfl B3.out Try.underlying24 rfl MSC.out ?_; refine Held.go ?_)
  refine ⟨?_⟩
  go_wp2_with fail
  refine (Q2.out _ R0.out).mono ?_
  rintro _ w3 ⟨rfl, x3⟩
  have B3 := Lib.hid (B3.out.ext x3)
  have B5 := Lib.hid (B5.out.ext x3)
  have R0 := Lib.hid (R0.out.ext x3)
  have X3 := Lib.hid (X2.out.trans x3)
  clear x3 X2
  go_wp2_with fail
  refine (Q3.out _).mono ?_
  rintro _ w4 ⟨u4, rfl, x4, r4⟩
  have y4 := x4.alloc (.cells (manC dm u4) 24)
  have B3 := Lib.hid (B3.out.ext y4)
  have B5 := Lib.hid (B5.out.ext y4)
  have R0 := Lib.hid (R0.out.ext y4)
  have B11 := Lib.hid (Blk.new w4 24 (manC dm u4))
  have RX11 := Lib.hid r4
  have R11 := Lib.hid (r4.ext ((Ext.refl w4).alloc (.cells (manC dm u4) 24)))
  have S11 := Lib.hid (MC.out dm u4)
  have Z11 := Lib.hid (show (5 : Nat) = (manC dm u4).size from rfl)
  have O11 := Lib.hid (man_one dm RX11.out)
  have X4 := Lib.hid (X3.out.trans y4)
  clear x4 y4 r4 X3
  generalize hc : manC dm u4 = c11 at *
  have E11 := Lib.hid hc
  clear hc
  go_wp2_with (refine wpList_store_new rfl 24 (.tmp 11) (.tmp 41) rfl rfl rfl Z11.out S11.out O11.out ?_; refine Held.go ?_)
  refine ⟨?_⟩
  generalize w4.alloc (.cells c11 24) = v4 at *
  go_wp2_with fail
  refine (Q4.out _).mono ?_
  rintro _ w5 ⟨u5, rfl, x5, r5⟩
  have y5 := x5.alloc (.cells (manC dm u5) 24)
  have B3 := Lib.hid (B3.out.ext y5)
  have B5 := Lib.hid (B5.out.ext y5)
  have R0 := Lib.hid (R0.out.ext y5)
  have B11 := Lib.hid (B11.out.ext y5)
  have R11 := Lib.hid (R11.out.ext y5)
  have B13 := Lib.hid (Blk.new w5 24 (manC dm u5))
  have RX13 := Lib.hid r5
  have R13 := Lib.hid (r5.ext ((Ext.refl w5).alloc (.cells (manC dm u5) 24)))
  have S13 := Lib.hid (MC.out dm u5)
  have Z13 := Lib.hid (show (5 : Nat) = (manC dm u5).size from rfl)
  have O13 := Lib.hid (man_one dm RX13.out)
  have X5 := Lib.hid (X4.out.trans y5)
  clear x5 y5 r5 X4
  generalize hc : manC dm u5 = c13 at *
  have E13 := Lib.hid hc
  clear hc
  go_wp2_with (refine wpList_store_new rfl 24 (.tmp 13) (.tmp 46) rfl rfl rfl Z13.out S13.out O13.out ?_; refine Held.go ?_)
  refine ⟨?_⟩
  generalize w5.alloc (.cells c13 24) = v5 at *
  go_wp2_with (refine wpList_load_blk rfl 26 (.tmp 5) rfl rfl B5.out Try.underlying26 rfl HH.out ?_; refine Held.go ?_)
  refine ⟨?_⟩
  go_wp2_with fail
  refine (Q5.out _).mono ?_
  rintro _ w6 ⟨u6, rfl, x6, r6⟩
  have y6 := x6.alloc (.cells (manC nm u6) 24)
  have B3 := Lib.hid (B3.out.ext y6)
  have B5 := Lib.hid (B5.out.ext y6)
  have R0 := Lib.hid (R0.out.ext y6)
  have B11 := Lib.hid (B11.out.ext y6)
  have R11 := Lib.hid (R11.out.ext y6)
  have B13 := Lib.hid (B13.out.ext y6)
  have R13 := Lib.hid (R13.out.ext y6)
  have B15 := Lib.hid (Blk.new w6 24 (manC nm u6))
  have RX15 := Lib.hid r6
  have R15 := Lib.hid (r6.ext ((Ext.refl w6).alloc (.cells (manC nm u6) 24)))
  have S15 := Lib.hid (MC.out nm u6)
  have Z15 := Lib.hid (show (5 : Nat) = (manC nm u6).size from rfl)
  have O15 := Lib.hid (man_one nm RX15.out)
  have X6 := Lib.hid (X5.out.trans y6)
  clear x6 y6 r6 X5
  generalize hc : manC nm u6 = c15 at *
  have E15 := Lib.hid hc
  clear hc
  go_wp2_with (refine wpList_store_new rfl 24 (.tmp 15) (.tmp 51) rfl rfl rfl Z15.out S15.out O15.out ?_; refine Held.go ?_)
  refine ⟨?_⟩
  generalize w6.alloc (.cells c15 24) = v6 at *
  go_wp2_with (refine wpList_load_blk rfl 26 (.tmp 5) rfl rfl B5.out Try.underlying26 rfl HH.out ?_; refine Held.go ?_)
  refine ⟨?_⟩
  go_wp2_with fail
  refine (Q6.out _).mono ?_
  rintro _ w7 ⟨u7, rfl, x7, r7⟩
  have y7 := x7.alloc (.cells (manC nm u7) 24)
  have B3 := Lib.hid (B3.out.ext y7)
  have B5 := Lib.hid (B5.out.ext y7)
  have R0 := Lib.hid (R0.out.ext y7)
  have B11 := Lib.hid (B11.out.ext y7)
  have R11 := Lib.hid (R11.out.ext y7)
  have B13 := Lib.hid (B13.out.ext y7)
  have R13 := Lib.hid (R13.out.ext y7)
  have B15 := Lib.hid (B15.out.ext y7)
  have R15 := Lib.hid (R15.out.ext y7)
  have B17 := Lib.hid (Blk.new w7 24 (manC nm u7))
  have RX17 := Lib.hid r7
  have R17 := Lib.hid (r7.ext ((Ext.refl w7).alloc (.cells (manC nm u7) 24)))
  have S17 := Lib.hid (MC.out nm u7)
  have Z17 := Lib.hid (show (5 : Nat) = (manC nm u7).size from rfl)
  have O17 := Lib.hid (man_one nm RX17.out)
  have X7 := Lib.hid (X6.out.trans y7)
  clear x7 y7 r7 X6
  generalize hc : manC nm u7 = c17 at *
  have E17 := Lib.hid hc
  clear hc
  go_wp2_with (refine wpList_store_new rfl 24 (.tmp 17) (.tmp 56) rfl rfl rfl Z17.out S17.out O17.out ?_; refine Held.go ?_)
  refine ⟨?_⟩
  generalize w7.alloc (.cells c17 24) = v7 at *
  have q7 := Lib.hid (fun x : Up v7 => Q7.out _ (R0.out.ext x.ext))
  have q8 := Lib.hid (fun x : Up v7 => Q8.out _ (R0.out.ext x.ext))
  have h9 := fun x : Up v7 => Q9.out _ _ _ (R11.out.ext x.ext) (R13.out.ext x.ext)
  have h10 := fun x : Up v7 => Q10.out _ _ _ (R15.out.ext x.ext) (R17.out.ext x.ext)
  rw [E11.out, E13.out] at h9
  rw [E15.out, E17.out] at h10
  have q9 := Lib.hid h9
  have q10 := Lib.hid h10
  clear h9 h10
  go_wp2
  refine wp_region_up (by kernel_rfl) (by kernel_rfl) ?_
  repeat (first
    | (refine wpQuiet_load_blk (by kernel_rfl) 24 (.tmp 3) rfl rfl B3.out Try.underlying24 rfl MSC.out ?_
       dsimp only [Act.put]
       simp only [List.setIfInBounds_toArray, List.set_cons_succ, List.set_cons_zero])
    | (refine wpQuiet_load_blk (by kernel_rfl) 24 (.tmp 11) rfl rfl B11.out Try.underlying24 rfl S11.out ?_
       dsimp only [Act.put]
       simp only [List.setIfInBounds_toArray, List.set_cons_succ, List.set_cons_zero])
    | (refine wpQuiet_load_blk (by kernel_rfl) 24 (.tmp 13) rfl rfl B13.out Try.underlying24 rfl S13.out ?_
       dsimp only [Act.put]
       simp only [List.setIfInBounds_toArray, List.set_cons_succ, List.set_cons_zero])
    | (refine wpQuiet_load_blk (by kernel_rfl) 24 (.tmp 15) rfl rfl B15.out Try.underlying24 rfl S15.out ?_
       dsimp only [Act.put]
       simp only [List.setIfInBounds_toArray, List.set_cons_succ, List.set_cons_zero])
    | (refine wpQuiet_load_blk (by kernel_rfl) 24 (.tmp 17) rfl rfl B17.out Try.underlying24 rfl S17.out ?_
       dsimp only [Act.put]
       simp only [List.setIfInBounds_toArray, List.set_cons_succ, List.set_cons_zero])
    | (go_big_quiet_step (first
       | (go_at_call 15; (with_reducible exact up_call (q7.out _)))
       | (go_at_call 16; (with_reducible exact up_call (q8.out _)))
       | (go_at_call 17; (first | (with_reducible exact up_call (q9.out _)) | (with_reducible exact up_call (q10.out _))))
       | (go_at_call 8; (with_reducible exact up_call (QA.out _))))))
  refine wpQuiet_nil ?_
  rintro _ ⟨z, rfl⟩
  go_wp2
  go_ret
  exact ⟨rfl, X7.out.trans z.ext⟩
end Go.Proofs.Ytcagcepbnkageaa
