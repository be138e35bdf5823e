/- FrameBack: the law's walk. -/
import Derived.Test.YthomdpdiknnahaaFrL
namespace Go.Proofs.Ythomdpdiknnahaa
set_option linter.unusedVariables false
set_option linter.unusedSimpArgs false
open Go.RowKit
theorem bk_b6 : ({ data := #[98, 101, 102, 111, 114, 101] } : ByteArray) = S [98, 101, 102, 111, 114, 101] := rfl
attribute [local go_sem] S_size S_toList S_append S_extract S_beq S_bne S_empty S_nil frame_zero frame_build bk_b6 aw_bnil

set_option maxRecDepth 20000 in
set_option maxHeartbeats 8000000 in
theorem frameBack_out (k : Int) (l r : List UInt8) (w : World) (h : (61000 : Int) < (l.length : Int) ∨ (¬ (61000 : Int) < (l.length : Int) ∧ (1000 : Int) < (r.length : Int))) :
    Calls Try.prog 5 #[.int .i64 k, .string (S l), .string (S r)] w fun e w' => e = .returned (.bool true) ∧ Ext w w' := by
  rcases h with h | ⟨h1, h2⟩
  all_goals
    go_enter Try.func5, Try.ntmps5
    go_wp2_with fail
    refine (awake16 _).mono ?_
    rintro e w' ⟨rfl, hx⟩
    go_wp2
    go_ret
    exact ⟨rfl, hx⟩
set_option maxRecDepth 20000 in
set_option maxHeartbeats 8000000 in
theorem frameBack_not (k : Int) (l r : List UInt8) (w : World) (h1 : ¬ (61000 : Int) < (l.length : Int)) (h2 : ¬ (1000 : Int) < (r.length : Int)) (h3 : ¬ putE k l.length = 0) :
    Calls Try.prog 5 #[.int .i64 k, .string (S l), .string (S r)] w fun e w' => e = .returned (.bool true) ∧ Ext w w' := by
  have q1 := fun w => fPut_any k l w (by omega)
  unfold putB at q1
  rw [if_neg h3] at q1
  have Q1 := Lib.hid q1
  clear q1
  have hne : (putE k l.length != 0) = true := by simpa using h3
  generalize putE k l.length = pe at *
  go_enter Try.func5, Try.ntmps5
  go_wp2_with fail
  refine (Q1.out _).mono ?_
  rintro _ w1 ⟨rfl, x1⟩
  go_wp2_with fail
  refine (awake16 _).mono ?_
  rintro e w4 ⟨rfl, x4⟩
  go_wp2
  go_ret
  exact ⟨rfl, x1.trans x4⟩
set_option maxRecDepth 20000 in
set_option maxHeartbeats 8000000 in
theorem frameBack_in (k : Int) (l r : List UInt8) (w : World) (h1 : ¬ (61000 : Int) < (l.length : Int)) (h2 : ¬ (1000 : Int) < (r.length : Int)) (h3 : putE k l.length = 0) :
    Calls Try.prog 5 #[.int .i64 k, .string (S l), .string (S r)] w fun e w' => e = .returned (.bool true) ∧ Ext w w' := by
  have hkb : (1 ≤ k ∧ k ≤ 4) ∧ l.length ≤ 60000 := by
    rcases put_cases k l.length with ⟨he, _⟩ | ⟨he, _⟩ | ⟨he, e1, e2⟩
    · rw [h3] at he; exact absurd he (by decide)
    · rw [h3] at he; exact absurd he (by decide)
    · exact ⟨e1, by omega⟩
  have q1 := fun w => fPut_any k l w (by omega)
  unfold putB at q1
  rw [if_pos h3, h3] at q1
  obtain ⟨g1, g2⟩ := frame_here [98, 101, 102, 111, 114, 101] k l r hkb.1 hkb.2
  have hfl := frameB_length k l
  have q2 := fun w => fGet_any ([98, 101, 102, 111, 114, 101] ++ (frameB k l ++ r)) 6 w (by simp only [List.length_append, hfl, List.length_cons, List.length_nil]; omega)
  have g1' : getE ([98, 101, 102, 111, 114, 101] ++ (frameB k l ++ r)) 6 = 0 := g1
  have g2' : getF ([98, 101, 102, 111, 114, 101] ++ (frameB k l ++ r)) 6 = ⟨k, l, 6, 6 + ((frameB k l).length : Int)⟩ := by
    refine Eq.trans g2 ?_
    rw [f4_eq_iff, hfl]
    refine ⟨rfl, rfl, rfl, ?_⟩
    show (6 : Int) + (l.length : Int) + 9 = 6 + ((l.length + 9 : Nat) : Int)
    omega
  rw [g1', g2'] at q2
  have Q1 := Lib.hid q1
  have Q3 := Lib.hid (fun w => fSize_any l w (by omega))
  have Q2 := Lib.hid (show ∀ w, Calls Try.prog 12 #[.string (S (98 :: 101 :: 102 :: 111 :: 114 :: 101 :: (frameB k l ++ r))), .int .i64 6] w fun e w' => e = .returned (.tuple #[.agg (f4C ⟨k, l, 6, 6 + ((frameB k l).length : Int)⟩).toArray, .int .i64 0]) ∧ Ext w w' from q2)
  have w1 := w64_small (n := 6 + ((frameB k l).length : Int)) (by omega) (by omega)
  have hb1 : (((frameB k l).length : Int) == (l.length : Int) + 9) = true := by simp only [beq_iff_eq]; omega
  have hsl : (frameB k l).length ≤ 61009 := by omega
  clear q1 q2 g1 g2 g1' g2' hfl hkb
  generalize frameB k l = sA at *
  have FZ := Lib.hid (show (#[.int .i64 0, .string (S []), .int .i64 0, .int .i64 0] : Array Value).size = (f4C ⟨k, l, 6, 6 + (sA.length : Int)⟩).toArray.size from rfl)
  have FS := Lib.hid (show (Try.prog.info? 31).map (·.size) = some (f4C ⟨k, l, 6, 6 + (sA.length : Int)⟩).toArray.size from frame_size)
  have FO := Lib.hid (f4C_all ⟨k, l, 6, 6 + (sA.length : Int)⟩)
  generalize hfA : (f4C ⟨k, l, 6, 6 + (sA.length : Int)⟩).toArray = fA at *
  have HFA := Lib.hid hfA
  clear hfA
  go_enter Try.func5, Try.ntmps5
  go_wp2_with fail
  refine (Q1.out _).mono ?_
  rintro _ w1 ⟨rfl, x1⟩
  go_wp2_with fail
  refine (Q2.out _).mono ?_
  rintro _ w2 ⟨rfl, x2⟩
  have B2 := Lib.hid (Blk.new w2 31 fA)
  have X2 := Lib.hid ((x1.trans x2).alloc (.cells fA 31))
  clear x1 x2
  have hfA := HFA.out
  have u3 := Try.underlying3
  have ag3 := Try.isAgg3
  have z3 := Try.sizeOf3
  have u9 := Try.underlying9
  have ag9 := Try.isAgg9
  have z9 := Try.sizeOf9
  clear HFA
  subst hfA
  unfold f4C at *
  go_wp2_with (first
    | (refine wpList_store_new (cs' := #[.int .i64 k, .string (S l), .int .i64 6, .int .i64 (6 + (sA.length : Int))]) rfl 31 (.tmp 9) (.tmp 39) rfl rfl rfl FZ.out FS.out FO.out ?_)
    | (refine wpList_load_blk_g (by kernel_rfl) 31 (.tmp 9) rfl rfl B2.out Try.underlying31 rfl FS.out ?_))
  refine (Q3.out _).mono ?_
  rintro _ w3 ⟨rfl, rfl⟩
  go_wp2_with fail
  refine (awake16 _).mono ?_
  rintro e w4 ⟨rfl, x4⟩
  go_wp2
  go_ret
  exact ⟨rfl, X2.out.trans x4⟩
theorem frameBack_law (k : Int) (hk : (Lit.int .i64 k).wf = true) (b : ByteArray) (hb : b.size ≤ maxLen) (c : ByteArray) (hc : c.size ≤ maxLen) (w : World) :
    Calls Try.prog 5 #[.int .i64 k, .string b, .string c] w fun e w' => e = .returned (.bool true) ∧ Ext w w' := by
  obtain ⟨l, rfl, _⟩ := S_ex b
  obtain ⟨r, rfl, _⟩ := S_ex c
  by_cases h1 : (61000 : Int) < (l.length : Int)
  · exact frameBack_out k l r w (.inl h1)
  by_cases h2 : (1000 : Int) < (r.length : Int)
  · exact frameBack_out k l r w (.inr ⟨h1, h2⟩)
  by_cases h3 : putE k l.length = 0
  · exact frameBack_in k l r w h1 h2 h3
  · exact frameBack_not k l r w h1 h2 h3
end Go.Proofs.Ythomdpdiknnahaa
