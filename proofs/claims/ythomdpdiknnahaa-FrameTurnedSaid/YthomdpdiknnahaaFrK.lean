/- FramePuts, FrameGets: the laws. -/
import Derived.Test.YthomdpdiknnahaaFrJ
import Derived.OpenShut
namespace Go.Proofs.Ythomdpdiknnahaa
set_option linter.unusedVariables false
set_option linter.unusedSimpArgs false
open Go.RowKit
attribute [local go_sem] S_size S_toList S_append S_extract S_beq S_bne S_empty S_nil frame_zero

set_option maxRecDepth 20000 in
set_option maxHeartbeats 8000000 in
theorem framePuts_law (k : Int) (hk : (Lit.int .i64 k).wf = true) (b : ByteArray) (hb : b.size ≤ maxLen) (w : World) :
    Calls Try.prog 3 #[.int .i64 k, .string b] w fun e w' => e = .returned (.bool true) ∧ Ext w w' := by
  obtain ⟨l, rfl, hl⟩ := S_ex b
  rw [← hl] at hb
  clear hl
  by_cases h : (61000 : Int) < (l.length : Int)
  · go_enter Try.func3, Try.ntmps3
    go_wp2_with fail
    refine (awake16 _).mono ?_
    rintro e w' ⟨rfl, hx⟩
    go_wp2
    go_ret
    exact ⟨rfl, hx⟩
  · have Q1 := Lib.hid (fun w => fPut_any k l w (by omega))
    have Q2 := Lib.hid (fun w => rPut_any k l w (by omega))
    have Q3 := Lib.hid (fun w => fSize_any l w (by omega))
    have w1 := w64_small (n := (l.length : Int) + 9) (by omega) (by omega)
    clear hb
    generalize putB k l = pb at *
    generalize putE k l.length = pe at *
    go_enter Try.func3, Try.ntmps3
    go_wp2_with fail
    refine (Q1.out _).mono ?_
    rintro _ w1 ⟨rfl, x1⟩
    go_wp2_with fail
    refine (Q2.out _).mono ?_
    rintro _ w2 ⟨rfl, x2⟩
    go_wp2_with fail
    refine (Q3.out _).mono ?_
    rintro _ w3 ⟨rfl, rfl⟩
    go_wp2_with fail
    refine (awake16 _).mono ?_
    rintro e w4 ⟨rfl, x4⟩
    go_wp2
    go_ret
    exact ⟨rfl, (x1.trans x2).trans x4⟩

set_option maxRecDepth 20000 in
set_option maxHeartbeats 8000000 in
theorem frameGets_law (b : ByteArray) (hb : b.size ≤ maxLen) (a : Int) (ha : (Lit.int .i64 a).wf = true) (w : World) :
    Calls Try.prog 4 #[.string b, .int .i64 a] w fun e w' => e = .returned (.bool true) ∧ Ext w w' := by
  obtain ⟨l, rfl, hl⟩ := S_ex b
  rw [← hl] at hb
  clear hl
  by_cases h : (20000 : Int) < (l.length : Int)
  · go_enter Try.func4, Try.ntmps4
    go_wp2_with fail
    refine (awake16 _).mono ?_
    rintro e w' ⟨rfl, hx⟩
    go_wp2
    go_ret
    exact ⟨rfl, hx⟩
  · have Q1 := Lib.hid (fun w => fGet_any l a w (by omega))
    have Q2 := Lib.hid (fun w => rGet_any l a w (by omega))
    have Q3 := Lib.hid (fun w => fScan_any l a w (by omega))
    have Q4 := Lib.hid (fun w => rScan_any l a w (by omega))
    have HSL := Lib.hid (show (((scan l a).1.length : Nat) : Int) ≤ 1000000000 from by have := scan_len l a; omega)
    have FZ := Lib.hid (show (#[.int .i64 0, .string (S []), .int .i64 0, .int .i64 0] : Array Value).size = (f4C (getF l a)).toArray.size from rfl)
    have FS := Lib.hid (show (Try.prog.info? 31).map (·.size) = some (f4C (getF l a)).toArray.size from frame_size)
    have FO := Lib.hid (f4C_all (getF l a))
    clear hb
    generalize scan l a = sc at *
    generalize getE l a = ge at *
    generalize hf : getF l a = f at *
    clear hf
    obtain ⟨f1, f2, f3, f4⟩ := f
    generalize hfA : (f4C ⟨f1, f2, f3, f4⟩).toArray = fA at *
    have HFA := Lib.hid hfA
    clear hfA
    go_enter Try.func4, Try.ntmps4
    go_wp2_with fail
    refine (Q1.out _).mono ?_
    rintro _ w1 ⟨rfl, x1⟩
    have B1 := Lib.hid (Blk.new w1 31 fA)
    have X1 := Lib.hid (x1.alloc (.cells fA 31))
    clear x1
    go_wp2_with (refine wpList_store_new (cs' := fA) rfl 31 (.tmp 5) (.tmp 21) rfl rfl rfl FZ.out FS.out FO.out ?_)
    refine (Q2.out _).mono ?_
    rintro _ w2 ⟨rfl, x2⟩
    have x2' := x2.alloc (.cells fA 31)
    have B1 := Lib.hid (B1.out.ext x2')
    have B2 := Lib.hid (Blk.new w2 31 fA)
    have X2 := Lib.hid (X1.out.trans x2')
    clear x2 x2' X1
    go_wp2_with (refine wpList_store_new (cs' := fA) rfl 31 (.tmp 7) (.tmp 27) rfl rfl rfl FZ.out FS.out FO.out ?_)
    refine (Q3.out _).mono ?_
    rintro _ w3 ⟨v3, rfl, x3, i3⟩
    have B1 := Lib.hid (B1.out.ext x3)
    have B2 := Lib.hid (B2.out.ext x3)
    have X3 := Lib.hid (X2.out.trans x3)
    have I3 := Lib.hid (WR.rr f4C_length i3)
    clear x3 X2 i3
    go_wp2_with fail
    refine (Q4.out _).mono ?_
    rintro _ w4 ⟨v4, rfl, x4, i4⟩
    have B1 := Lib.hid (B1.out.ext x4)
    have B2 := Lib.hid (B2.out.ext x4)
    have X4 := Lib.hid (X3.out.trans x4)
    have I3 := Lib.hid (I3.out.ext x4)
    have I4 := Lib.hid (WR.rr f4C_length i4)
    clear x4 X3 i4
    have hfA := HFA.out
    subst hfA
    clear HFA FZ
    unfold f4C at B1 B2 FS
    have u3 := Try.underlying3
    have ag3 := Try.isAgg3
    have z3 := Try.sizeOf3
    have u9 := Try.underlying9
    have ag9 := Try.isAgg9
    have z9 := Try.sizeOf9
    go_wp2_with (first
      | (refine wpList_load_blk_g (by kernel_rfl) 31 (.tmp 5) rfl rfl B1.out Try.underlying31 rfl FS.out ?_)
      | (refine wpList_load_blk_g (by kernel_rfl) 31 (.tmp 7) rfl rfl B2.out Try.underlying31 rfl FS.out ?_))
    refine (fSame_any _ _ _ _ _ I3.out I4.out HSL.out).mono ?_
    rw [decide_eq_true rfl]
    rintro _ w5 ⟨rfl, x5⟩
    go_wp2_with fail
    refine (awake16 _).mono ?_
    rintro e w6 ⟨rfl, x6⟩
    go_wp2
    go_ret
    exact ⟨rfl, (X4.out.trans x5).trans x6⟩
end Go.Proofs.Ythomdpdiknnahaa
