/- varvelaw25: few, awake. -/
import Derived.Test.YtcagcepbnkageaaMaN
import Derived.Test.YtcagcepbnkageaaMaF
import Derived.Test.YtcagcepbnkageaaMgL
import Derived.Test.YtcagcepbnkageaaMaP
import Derived.Test.YtcagcepbnkageaaMaH
namespace Go.Proofs.Ytcagcepbnkageaa
set_option linter.unusedVariables false
set_option linter.unusedSimpArgs false
open Go.RowKit

set_option maxRecDepth 20000 in
theorem few_any (m : Man) (v : Value) (w : World) (hr : RR entC 9 w v m.ents) :
    Calls Try.prog 7 #[.agg (manC m v)] w fun e w' => e = .returned (.bool (decide ((m.ents.length : Int) ≤ 200))) ∧ Ext w w' := by
  have X0 := Lib.hid ((Ext.refl w).alloc (.cells (manC m v) 24))
  have b1 := Blk.new w 24 (manC m v)
  obtain ⟨a, c, rfl, _, _, _⟩ := hr
  have c4 := b1.cell 4
  rw [show (manC m (.slice a m.ents.length c))[4]? = some (.slice a m.ents.length c) from rfl] at c4
  clear b1
  generalize manC m (.slice a m.ents.length c) = mc at *
  go_enter Try.func7, Try.ntmps7
  go_wp2
  go_ret
  exact ⟨rfl, X0.out⟩

def m1 : Man := ⟨1, 2, 0, 1, [openE 1 1 1]⟩
def mk5 : Man := ⟨2, 2, 5, 1, [openE 1 1 1]⟩
theorem aw_new : newM 1 1 1 = m1 ∧ newP 1 1 1 = true := by constructor <;> rfl
theorem aw_mani : maniP m1 = true := by decide +kernel
theorem aw_put : manB m1 = [1, 2, 0, 1, 1, 1, 1, 1, 0, 0, 0, 0, 0, 0] := by decide +kernel
theorem aw_get : decM [1, 2, 0, 1, 1, 1, 1, 1, 0, 0, 0, 0, 0, 0] = .ok m1 := by rw [← aw_put]; exact decM_manB aw_mani
theorem aw_later : laterM m1 5 m1.ents = mk5 ∧ laterP m1 5 m1.ents = true := by
  have h : laterP m1 5 m1.ents = true := by decide +kernel
  exact ⟨by unfold laterM; rw [h]; rfl, h⟩
theorem aw_back : laterP mk5 4 m1.ents = false := by decide +kernel
theorem aw_big : decM [1, 2, 0, 1, 101] = .error 3 := by rfl
theorem aw_zero : maniP zM = false := by decide +kernel
theorem aw_same : sameMan m1 m1 = true := by decide +kernel
theorem rr_one {w : World} {v : Value} {l : List E9} (h : RR entC 9 w v l) (hl : l.length = 1) : ∃ a c, v = .slice a 1 c := by
  obtain ⟨a, c, rfl, _, _, _⟩ := h
  exact ⟨a, c, by rw [hl]⟩
theorem rr_shape {w : World} {v : Value} {l : List E9} (h : RR entC 9 w v l) : ∃ a n c, v = .slice a n c := by
  obtain ⟨a, c, rfl, _, _, _⟩ := h
  exact ⟨a, l.length, c, rfl⟩
attribute [local go_sem] man_build0
theorem hd_build3x (a b c : Int) (w : World) : (Instr.build 26 #[(0, .int .i64 a), (1, .int .i64 b), (2, .int .i64 c)]).run Try.prog w = .ok (.agg #[.int .i64 a, .int .i64 b, .int .i64 c]) w := by kernel_rfl
attribute [local go_sem] hd_build3x

set_option maxRecDepth 20000 in
set_option maxHeartbeats 16000000 in
theorem awake25_any (w : World) : Calls Try.prog 8 #[] w fun e w' => e = .returned (.bool true) ∧ Ext w w' := by
  have MS := Lib.hid man_size
  have q1 := fun w => mNew_any 1 1 1 w
  rw [aw_new.1, aw_new.2] at q1
  have Q1 := Lib.hid (show ∀ w, Calls Try.prog 13 #[.agg #[.int .i64 1, .int .i64 1, .int .i64 1]] w fun r w' => ∃ u, r = .returned (.tuple #[.agg #[.int .i64 1, .int .i64 2, .int .i64 0, .int .i64 1, u], .int .i64 0]) ∧ Ext w w' ∧ RR entC 9 w' u m1.ents from q1)
  have q2 := fun v w h => mEncode_any m1 v w h
  rw [aw_put, aw_mani] at q2
  have Q2 := Lib.hid (show ∀ v w, RR entC 9 w v m1.ents → Calls Try.prog 9 #[.agg #[.int .i64 1, .int .i64 2, .int .i64 0, .int .i64 1, v]] w fun e w' => e = .returned (.tuple #[.string { data := #[1, 2, 0, 1, 1, 1, 1, 1, 0, 0, 0, 0, 0, 0] }, .int .i64 0]) ∧ Ext w w' from q2)
  have q3 := fun w => mDecode_any [1, 2, 0, 1, 1, 1, 1, 1, 0, 0, 0, 0, 0, 0] w (by decide)
  rw [aw_get] at q3
  have Q3 := Lib.hid (show ∀ w, Calls Try.prog 11 #[.string { data := #[1, 2, 0, 1, 1, 1, 1, 1, 0, 0, 0, 0, 0, 0] }] w fun r w' => ∃ u, r = .returned (.tuple #[.agg #[.int .i64 1, .int .i64 2, .int .i64 0, .int .i64 1, u], .int .i64 0]) ∧ Ext w w' ∧ RR entC 9 w' u m1.ents from q3)
  have q4 := fun v vl w h hl => mLater_any m1 5 m1.ents v vl w h hl
  rw [aw_later.1, aw_later.2] at q4
  have Q4 := Lib.hid (show ∀ v vl w, RR entC 9 w v m1.ents → RR entC 9 w vl m1.ents → Calls Try.prog 18 #[.agg #[.int .i64 1, .int .i64 2, .int .i64 0, .int .i64 1, v], .int .i64 5, vl] w fun r w' => ∃ u, r = .returned (.tuple #[.agg #[.int .i64 2, .int .i64 2, .int .i64 5, .int .i64 1, u], .int .i64 0]) ∧ Ext w w' ∧ RR entC 9 w' u m1.ents from q4)
  have hlz : laterM mk5 4 m1.ents = zM := by unfold laterM; rw [aw_back]; rfl
  have q5 := fun v vl w h hl => mLater_any mk5 4 m1.ents v vl w h hl
  rw [aw_back, hlz] at q5
  have Q5 := Lib.hid (show ∀ v vl w, RR entC 9 w v m1.ents → RR entC 9 w vl m1.ents → Calls Try.prog 18 #[.agg #[.int .i64 2, .int .i64 2, .int .i64 5, .int .i64 1, v], .int .i64 4, vl] w fun r w' => ∃ u, r = .returned (.tuple #[.agg #[.int .i64 0, .int .i64 0, .int .i64 0, .int .i64 0, u], .int .i64 250]) ∧ Ext w w' ∧ RR entC 9 w' u [] from q5)
  have q6 := fun w => mDecode_any [1, 2, 0, 1, 101] w (by decide)
  rw [aw_big] at q6
  have Q6 := Lib.hid (show ∀ w, Calls Try.prog 11 #[.string { data := #[1, 2, 0, 1, 101] }] w fun r w' => ∃ u, r = .returned (.tuple #[.agg #[.int .i64 0, .int .i64 0, .int .i64 0, .int .i64 0, u], .int .i64 3]) ∧ Ext w w' ∧ RR entC 9 w' u [] from q6)
  have q7 := fun va vb w ha hb => mSame_any m1 m1 va vb w ha hb (by decide)
  rw [aw_same] at q7
  have Q7 := Lib.hid (show ∀ va vb w, RR entC 9 w va m1.ents → RR entC 9 w vb m1.ents → Calls Try.prog 20 #[.agg #[.int .i64 1, .int .i64 2, .int .i64 0, .int .i64 1, va], .agg #[.int .i64 1, .int .i64 2, .int .i64 0, .int .i64 1, vb]] w fun e w' => e = .returned (.bool true) ∧ Ext w w' from q7)
  have q8 := fun w => mCheck_any zM (.slice none 0 0) w (RR.nil w)
  rw [aw_zero] at q8
  have Q8 := Lib.hid (show ∀ w, Calls Try.prog 15 #[.agg #[.int .i64 0, .int .i64 0, .int .i64 0, .int .i64 0, .slice none 0 0]] w fun e w' => e = .returned (.int .i64 250) ∧ Ext w w' from q8)
  have HL1 := Lib.hid (show m1.ents.length = 1 from rfl)
  clear q1 q2 q3 q4 q5 q6 q7 q8 hlz
  generalize m1.ents = e1 at *
  go_enter Try.func8, Try.ntmps8
  go_wp2_with fail
  refine (Q1.out _).mono ?_
  rintro _ w1 ⟨u1, rfl, x1, r1⟩
  obtain ⟨a1, k1, rfl⟩ := rr_one r1 HL1.out
  have y1 := x1.alloc (.cells #[.int .i64 1, .int .i64 2, .int .i64 0, .int .i64 1, .slice a1 1 k1] 24)
  have B1 := Lib.hid (Blk.new w1 24 #[.int .i64 1, .int .i64 2, .int .i64 0, .int .i64 1, .slice a1 1 k1])
  have R1 := Lib.hid (r1.ext ((Ext.refl w1).alloc (.cells #[.int .i64 1, .int .i64 2, .int .i64 0, .int .i64 1, .slice a1 1 k1] 24)))
  have X1 := Lib.hid y1
  clear x1 r1 y1
  go_wp2_with (refine wpList_store_new rfl 24 (.tmp 1) (.tmp 16) rfl rfl rfl rfl MS.out (by kernel_rfl) ?_; refine Held.go ?_)
  refine ⟨?_⟩
  generalize w1.alloc (.cells #[.int .i64 1, .int .i64 2, .int .i64 0, .int .i64 1, .slice a1 1 k1] 24) = w2 at *
  go_wp2_with (refine wpList_load_blk rfl 24 (.tmp 1) rfl rfl B1.out Try.underlying24 rfl MS.out ?_; refine Held.go ?_)
  refine ⟨?_⟩
  go_wp2_with fail
  refine (Q2.out _ _ R1.out).mono ?_
  rintro _ w3 ⟨rfl, x3⟩
  have B1 := Lib.hid (B1.out.ext x3)
  have R1 := Lib.hid (R1.out.ext x3)
  have X3 := Lib.hid (X1.out.trans x3)
  clear x3 X1
  go_wp2_with fail
  refine (Q3.out _).mono ?_
  rintro _ w4 ⟨u5, rfl, x4, r5⟩
  obtain ⟨a5, k5, rfl⟩ := rr_one r5 HL1.out
  have y4 := x4.alloc (.cells #[.int .i64 1, .int .i64 2, .int .i64 0, .int .i64 1, .slice a5 1 k5] 24)
  have B5 := Lib.hid (Blk.new w4 24 #[.int .i64 1, .int .i64 2, .int .i64 0, .int .i64 1, .slice a5 1 k5])
  have R5 := Lib.hid (r5.ext ((Ext.refl w4).alloc (.cells #[.int .i64 1, .int .i64 2, .int .i64 0, .int .i64 1, .slice a5 1 k5] 24)))
  have B1 := Lib.hid (B1.out.ext y4)
  have R1 := Lib.hid (R1.out.ext y4)
  have X4 := Lib.hid (X3.out.trans y4)
  clear x4 r5 y4 X3
  go_wp2_with (refine wpList_store_new rfl 24 (.tmp 5) (.tmp 25) rfl rfl rfl rfl MS.out (by kernel_rfl) ?_; refine Held.go ?_)
  refine ⟨?_⟩
  generalize w4.alloc (.cells #[.int .i64 1, .int .i64 2, .int .i64 0, .int .i64 1, .slice a5 1 k5] 24) = w5 at *
  have c14 := B1.out.cell 4
  simp only [List.getElem?_toArray, List.getElem?_cons_zero, List.getElem?_cons_succ] at c14
  go_wp2_with (refine wpList_load_blk rfl 24 (.tmp 1) rfl rfl B1.out Try.underlying24 rfl MS.out ?_; refine Held.go ?_)
  refine ⟨?_⟩
  go_wp2_with fail
  refine (Q4.out _ _ _ R1.out R1.out).mono ?_
  rintro _ w6 ⟨u7, rfl, x6, r7⟩
  obtain ⟨a7, k7, rfl⟩ := rr_one r7 HL1.out
  have y6 := x6.alloc (.cells #[.int .i64 2, .int .i64 2, .int .i64 5, .int .i64 1, .slice a7 1 k7] 24)
  have B7 := Lib.hid (Blk.new w6 24 #[.int .i64 2, .int .i64 2, .int .i64 5, .int .i64 1, .slice a7 1 k7])
  have R7 := Lib.hid (r7.ext ((Ext.refl w6).alloc (.cells #[.int .i64 2, .int .i64 2, .int .i64 5, .int .i64 1, .slice a7 1 k7] 24)))
  have B1 := Lib.hid (B1.out.ext y6)
  have R1 := Lib.hid (R1.out.ext y6)
  have B5 := Lib.hid (B5.out.ext y6)
  have R5 := Lib.hid (R5.out.ext y6)
  have X6 := Lib.hid (X4.out.trans y6)
  clear x6 r7 y6 X4 c14
  go_wp2_with (refine wpList_store_new rfl 24 (.tmp 7) (.tmp 32) rfl rfl rfl rfl MS.out (by kernel_rfl) ?_; refine Held.go ?_)
  refine ⟨?_⟩
  generalize w6.alloc (.cells #[.int .i64 2, .int .i64 2, .int .i64 5, .int .i64 1, .slice a7 1 k7] 24) = w7 at *
  have c14 := B1.out.cell 4
  simp only [List.getElem?_toArray, List.getElem?_cons_zero, List.getElem?_cons_succ] at c14
  go_wp2_with (refine wpList_load_blk rfl 24 (.tmp 7) rfl rfl B7.out Try.underlying24 rfl MS.out ?_; refine Held.go ?_)
  refine ⟨?_⟩
  go_wp2_with fail
  refine (Q5.out _ _ _ R7.out R1.out).mono ?_
  rintro _ w8 ⟨u9, rfl, x8, r9⟩
  obtain ⟨a9, n9, k9, rfl⟩ := rr_shape r9
  have y8 := x8.alloc (.cells #[.int .i64 0, .int .i64 0, .int .i64 0, .int .i64 0, .slice a9 n9 k9] 24)
  have B1 := Lib.hid (B1.out.ext y8)
  have R1 := Lib.hid (R1.out.ext y8)
  have B5 := Lib.hid (B5.out.ext y8)
  have R5 := Lib.hid (R5.out.ext y8)
  have B7 := Lib.hid (B7.out.ext y8)
  have R7 := Lib.hid (R7.out.ext y8)
  have X8 := Lib.hid (X6.out.trans y8)
  clear x8 r9 y8 X6 c14
  go_wp2_with (refine wpList_store_new rfl 24 (.tmp 9) (.tmp 39) rfl rfl rfl rfl MS.out (by kernel_rfl) ?_; refine Held.go ?_)
  refine ⟨?_⟩
  generalize w8.alloc (.cells #[.int .i64 0, .int .i64 0, .int .i64 0, .int .i64 0, .slice a9 n9 k9] 24) = w9 at *
  go_wp2_with fail
  refine (Q6.out _).mono ?_
  rintro _ w10 ⟨u11, rfl, x10, r11⟩
  obtain ⟨a11, n11, k11, rfl⟩ := rr_shape r11
  have y10 := x10.alloc (.cells #[.int .i64 0, .int .i64 0, .int .i64 0, .int .i64 0, .slice a11 n11 k11] 24)
  have B1 := Lib.hid (B1.out.ext y10)
  have R1 := Lib.hid (R1.out.ext y10)
  have B5 := Lib.hid (B5.out.ext y10)
  have R5 := Lib.hid (R5.out.ext y10)
  have B7 := Lib.hid (B7.out.ext y10)
  have R7 := Lib.hid (R7.out.ext y10)
  have X10 := Lib.hid (X8.out.trans y10)
  clear x10 r11 y10 X8
  go_wp2_with (refine wpList_store_new rfl 24 (.tmp 11) (.tmp 43) rfl rfl rfl rfl MS.out (by kernel_rfl) ?_; refine Held.go ?_)
  refine ⟨?_⟩
  generalize w10.alloc (.cells #[.int .i64 0, .int .i64 0, .int .i64 0, .int .i64 0, .slice a11 n11 k11] 24) = w11 at *
  go_wp2_with (refine wpList_load_blk_g (by kernel_rfl) 24 (.tmp 1) rfl rfl B1.out Try.underlying24 rfl MS.out ?_; refine Held.go ?_)
  refine ⟨?_⟩
  go_wp2_with (refine wpList_load_blk_g (by kernel_rfl) 24 (.tmp 5) rfl rfl B5.out Try.underlying24 rfl MS.out ?_; refine Held.go ?_)
  refine ⟨?_⟩
  go_wp2_with fail
  refine (Q7.out _ _ _ R1.out R5.out).mono ?_
  rintro _ w12 ⟨rfl, x12⟩
  have B7 := Lib.hid (B7.out.ext x12)
  have X12 := Lib.hid (X10.out.trans x12)
  have c70 := B7.out.cell 0
  have c72 := B7.out.cell 2
  simp only [List.getElem?_toArray, List.getElem?_cons_zero, List.getElem?_cons_succ] at c70 c72
  clear x12 B1 B5
  go_wp2_with fail
  refine (Q8.out _).mono ?_
  rintro _ w13 ⟨rfl, x13⟩
  go_wp2
  go_ret
  exact ⟨rfl, X12.out.trans x13⟩
end Go.Proofs.Ytcagcepbnkageaa
