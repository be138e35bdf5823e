/- frame: known, Size, Put; varveref16: sum, Put. -/
import Derived.Test.YthomdpdiknnahaaFrB
namespace Go.Proofs.Ythomdpdiknnahaa
set_option linter.unusedVariables false
set_option linter.unusedSimpArgs false
open Go.RowKit
attribute [local go_sem] S_size S_toList S_append S_extract S_beq S_bne S_empty S_nil

theorem bytesOf_S (l : List UInt8) : bytesOf (S l) = l := by unfold bytesOf; exact S_bytes l
theorem of_S (l : List UInt8) (w : World) (hl : (l.length : Int) ≤ 1000000000) :
    Calls Try.prog 19 #[.agg (tabL theTab).toArray, .string (S l)] w fun e w' => e = .returned (.int .u32 (sumN l : Nat)) ∧ Ext w w' := by
  have := of_any theTab (S l) w theTab_length (by rw [S_size]; unfold maxLen; omega)
  rw [bytesOf_S] at this
  exact this
theorem more_S (l : List UInt8) (w : World) (hl : (l.length : Int) ≤ 1000000000) :
    Calls Try.prog 30 #[.agg (tabL theTab).toArray, .int .u32 0, .string (S l)] w fun e w' => e = .returned (.int .u32 (sumN l : Nat)) ∧ Ext w w' := by
  have := refMore_any theTab 0 (S l) w theTab_length (by rw [S_size]; unfold maxLen; omega)
  rw [bytesOf_S] at this
  exact this
theorem known_yes (k : Int) (w : World) (h : 1 ≤ k ∧ k ≤ 4) : Calls Try.prog 17 #[.int .i64 k] w fun e w' => e = .returned (.bool true) ∧ w = w' := by
  obtain ⟨h1, h2⟩ := h
  go_enter Try.func17, Try.ntmps17
  go_wp2
  go_ret
  exact ⟨rfl, rfl⟩
theorem known_no (k : Int) (w : World) (h : ¬ (1 ≤ k ∧ k ≤ 4)) : Calls Try.prog 17 #[.int .i64 k] w fun e w' => e = .returned (.bool false) ∧ w = w' := by
  by_cases h1 : 1 ≤ k
  · have h2 : ¬ k ≤ 4 := fun h2 => h ⟨h1, h2⟩
    clear h
    go_enter Try.func17, Try.ntmps17
    go_wp2
    go_ret
    exact ⟨rfl, rfl⟩
  · clear h
    go_enter Try.func17, Try.ntmps17
    go_wp2
    go_ret
    exact ⟨rfl, rfl⟩
theorem fSize_any (l : List UInt8) (w : World) (hl : (l.length : Int) ≤ 1000000000) : Calls Try.prog 11 #[.string (S l)] w fun e w' => e = .returned (.int .i64 ((l.length : Int) + 9)) ∧ w = w' := by
  have e1 : IntKind.i64.wrap (5 + (l.length : Int)) = 5 + (l.length : Int) := by rw [IntKind.wrap_i64]; omega
  have e2 : IntKind.i64.wrap (5 + (l.length : Int) + 4) = (l.length : Int) + 9 := by rw [IntKind.wrap_i64]; omega
  go_enter Try.func11, Try.ntmps11
  go_wp2
  go_ret
  exact ⟨rfl, rfl⟩
theorem put_cases (k : Int) (n : Nat) : (putE k n = 160 ∧ ¬ (1 ≤ k ∧ k ≤ 4)) ∨ (putE k n = 3 ∧ (1 ≤ k ∧ k ≤ 4) ∧ (60000 : Int) < (n : Int)) ∨ (putE k n = 0 ∧ (1 ≤ k ∧ k ≤ 4) ∧ ¬ (60000 : Int) < (n : Int)) := by
  unfold putE
  by_cases h1 : 1 ≤ k ∧ k ≤ 4
  · by_cases h2 : (n : Int) ≤ 60000
    · exact .inr (.inr ⟨by rw [if_pos h1, if_pos h2], h1, by omega⟩)
    · exact .inr (.inl ⟨by rw [if_pos h1, if_neg h2], h1, by omega⟩)
  · exact .inl ⟨if_neg h1, h1⟩
theorem u8_kind {k : Int} (h : 1 ≤ k ∧ k ≤ 4) : IntKind.u8.wrap k = U8 (UInt8.ofNat k.toNat) := by
  have := u8_wrap_nat k.toNat
  rw [show ((k.toNat : Nat) : Int) = k by omega] at this
  exact this
set_option maxRecDepth 20000 in
set_option maxHeartbeats 4000000 in
theorem fPut_any (k : Int) (b : List UInt8) (w : World) (hb : (b.length : Int) ≤ 9223372036854775807) :
    Calls Try.prog 9 #[.int .i64 k, .string (S b)] w fun e w' => e = .returned (.tuple #[.string (S (putB k b)), .int .i64 (putE k b.length)]) ∧ Ext w w' := by
  unfold putB
  rcases put_cases k b.length with ⟨he, h1⟩ | ⟨he, h1, h2⟩ | ⟨he, h1, h2⟩
  · rw [he]
    simp only [Int.reduceEq, if_false]
    have q := Lib.hid (fun w => known_no k w h1)
    clear h1 he
    go_enter Try.func9, Try.ntmps9
    go_wp2_with fail
    refine (q.out _).mono ?_
    rintro _ _ ⟨rfl, rfl⟩
    go_wp2
    go_ret2
    exact ⟨rfl, Ext.refl _⟩
  · rw [he]
    simp only [Int.reduceEq, if_false]
    have q := Lib.hid (fun w => known_yes k w h1)
    clear h1 he
    go_enter Try.func9, Try.ntmps9
    go_wp2_with fail
    refine (q.out _).mono ?_
    rintro _ _ ⟨rfl, rfl⟩
    go_wp2
    go_ret2
    exact ⟨rfl, Ext.refl _⟩
  · rw [he]
    simp only [if_true]
    have q := Lib.hid (fun w => known_yes k w h1)
    have hk := u8_kind h1
    have q1 := Lib.hid (fun w => vFix_any b.length w (by omega))
    have c1 := run_cat (P := Try.prog) [UInt8.ofNat k.toNat] (fix4 b.length) (by rw [fix4_length]; simp)
    have c1 : ∀ w, (Op.stringOp .add (S [UInt8.ofNat k.toNat]) (S (fix4 b.length))).run Try.prog w = .ok (.string (S (UInt8.ofNat k.toNat :: fix4 b.length))) w := c1
    have c2 := run_cat (P := Try.prog) (UInt8.ofNat k.toNat :: fix4 b.length) b (by rw [List.length_cons, fix4_length]; omega)
    have hh : (UInt8.ofNat k.toNat :: fix4 b.length) ++ b = headB k b := rfl
    rw [hh] at c2
    have hhl := headB_length k b
    have q2 := Lib.hid (fun w => of_S (headB k b) w (by rw [hhl]; omega))
    have q3 := Lib.hid (fun w => vFix_any (sumN (headB k b)) w (sumN_lt _))
    have c3 := run_cat (P := Try.prog) (headB k b) (fix4 (sumN (headB k b))) (by rw [hhl, fix4_length]; omega)
    rw [show headB k b ++ fix4 (sumN (headB k b)) = frameB k b from rfl] at c3
    have hsl := sumN_lt (headB k b)
    have ew : IntKind.i64.wrap ((sumN (headB k b) : Nat) : Int) = ((sumN (headB k b) : Nat) : Int) := by rw [IntKind.wrap_i64]; omega
    have QT := Lib.hid table_any
    have C1 := Lib.hid c1
    have C2 := Lib.hid c2
    have C3 := Lib.hid c3
    clear h1 he hh hhl hsl c1 c2 c3
    generalize frameB k b = fb at *
    generalize headB k b = hd at *
    generalize sumN hd = sm at *
    generalize fix4 sm = f1 at *
    generalize hf2 : fix4 b.length = f2 at *
    generalize UInt8.ofNat k.toNat = kb at *
    clear hf2
    go_enter Try.func9, Try.ntmps9
    go_wp2_with fail
    refine (q.out _).mono ?_
    rintro _ _ ⟨rfl, rfl⟩
    go_wp2_with fail
    refine (q1.out _).mono ?_
    rintro _ w1 ⟨rfl, x1⟩
    have hcv := conv1 w1 kb
    have d1 := C1.out
    have d2 := C2.out
    go_wp2_with fail
    refine (QT.out _).mono ?_
    rintro _ w2 ⟨rfl, x2⟩
    clear d1 d2 hcv
    have X2 := Lib.hid ((x1.alloc (.cells #[.int .u8 (U8 kb)] 5)).trans x2)
    clear x1 x2
    go_wp2_with fail
    refine (q2.out _).mono ?_
    rintro _ w3 ⟨rfl, x3⟩
    have X3 := Lib.hid (X2.out.trans x3)
    clear x3 X2
    go_wp2_with fail
    refine (q3.out _).mono ?_
    rintro _ w4 ⟨rfl, x4⟩
    have X4 := Lib.hid (X3.out.trans x4)
    clear x4 X3
    have d3 := C3.out
    go_wp2
    go_ret2
    exact ⟨rfl, X4.out⟩
set_option maxRecDepth 20000 in
set_option maxHeartbeats 4000000 in
theorem rsum_any (l : List UInt8) (w : World) (hl : (l.length : Int) ≤ 1000000000) :
    Calls Try.prog 22 #[.agg (tabL theTab).toArray, .string (S l)] w fun e w' => e = .returned (.string (S (fix4 (sumN l)))) ∧ Ext w w' := by
  have q1 := Lib.hid (fun w => more_S l w hl)
  have q2 := Lib.hid (fun w => rFix_any (sumN l) w (sumN_lt _))
  have hsl := sumN_lt l
  have ew : IntKind.i64.wrap ((sumN l : Nat) : Int) = ((sumN l : Nat) : Int) := by rw [IntKind.wrap_i64]; omega
  have TS := Lib.hid (tab_size theTab_length)
  have B := Lib.hid (Blk.new w 49 (tabL theTab).toArray)
  clear hsl
  generalize sumN l = sm at *
  generalize fix4 sm = f1 at *
  generalize (tabL theTab).toArray = tb at *
  go_enter Try.func22, Try.ntmps22
  go_wp2_with (refine wpList_load_blk rfl 49 (.tmp 2) rfl rfl B.out Try.underlying49 rfl TS.out ?_)
  refine (q1.out _).mono ?_
  rintro _ w1 ⟨rfl, x1⟩
  go_wp2_with fail
  refine (q2.out _).mono ?_
  rintro _ w2 ⟨rfl, x2⟩
  go_wp2
  go_ret
  exact ⟨rfl, (((Ext.refl _).alloc _).trans x1).trans x2⟩
set_option maxRecDepth 20000 in
set_option maxHeartbeats 4000000 in
theorem rPut_any (k : Int) (b : List UInt8) (w : World) (hb : (b.length : Int) ≤ 9223372036854775807) :
    Calls Try.prog 10 #[.int .i64 k, .string (S b)] w fun e w' => e = .returned (.tuple #[.string (S (putB k b)), .int .i64 (putE k b.length)]) ∧ Ext w w' := by
  unfold putB
  rcases put_cases k b.length with ⟨he, h1⟩ | ⟨he, h1, h2⟩ | ⟨he, h1, h2⟩
  · rw [he]
    simp only [Int.reduceEq, if_false]
    by_cases h0 : k < 1
    · clear h1 he
      go_enter Try.func10, Try.ntmps10
      go_wp2
      go_ret2
      exact ⟨rfl, Ext.refl _⟩
    · have h3 : 4 < k := by omega
      clear h1 he
      go_enter Try.func10, Try.ntmps10
      go_wp2
      go_ret2
      exact ⟨rfl, Ext.refl _⟩
  · rw [he]
    simp only [Int.reduceEq, if_false]
    have h0 : ¬ k < 1 := by omega
    have h3 : ¬ 4 < k := by omega
    clear h1 he
    go_enter Try.func10, Try.ntmps10
    go_wp2
    go_ret2
    exact ⟨rfl, Ext.refl _⟩
  · rw [he]
    simp only [if_true]
    have h0 : ¬ k < 1 := by omega
    have h3 : ¬ 4 < k := by omega
    have hk := u8_kind h1
    have q1 := Lib.hid (fun w => rFix_any b.length w (by omega))
    have c1 := run_cat (P := Try.prog) [UInt8.ofNat k.toNat] (fix4 b.length) (by rw [fix4_length]; simp)
    have c1 : ∀ w, (Op.stringOp .add (S [UInt8.ofNat k.toNat]) (S (fix4 b.length))).run Try.prog w = .ok (.string (S (UInt8.ofNat k.toNat :: fix4 b.length))) w := c1
    have c2 := run_cat (P := Try.prog) (UInt8.ofNat k.toNat :: fix4 b.length) b (by rw [List.length_cons, fix4_length]; omega)
    have hh : (UInt8.ofNat k.toNat :: fix4 b.length) ++ b = headB k b := rfl
    rw [hh] at c2
    have hhl := headB_length k b
    have q2 := Lib.hid (fun w => rsum_any (headB k b) w (by rw [hhl]; omega))
    have c3 := run_cat (P := Try.prog) (headB k b) (fix4 (sumN (headB k b))) (by rw [hhl, fix4_length]; omega)
    rw [show headB k b ++ fix4 (sumN (headB k b)) = frameB k b from rfl] at c3
    have QT := Lib.hid refTable_any
    have C1 := Lib.hid c1
    have C2 := Lib.hid c2
    have C3 := Lib.hid c3
    clear h1 he hh hhl c1 c2 c3
    generalize frameB k b = fb at *
    generalize headB k b = hd at *
    generalize fix4 (sumN hd) = f1 at *
    generalize hf2 : fix4 b.length = f2 at *
    generalize UInt8.ofNat k.toNat = kb at *
    clear hf2
    go_enter Try.func10, Try.ntmps10
    go_wp2_with fail
    refine (q1.out _).mono ?_
    rintro _ w1 ⟨rfl, x1⟩
    have hcv := conv1 w1 kb
    have d1 := C1.out
    have d2 := C2.out
    go_wp2_with fail
    refine (QT.out _).mono ?_
    rintro _ w2 ⟨rfl, x2⟩
    clear d1 d2 hcv
    have X2 := Lib.hid ((x1.alloc (.cells #[.int .u8 (U8 kb)] 5)).trans x2)
    clear x1 x2
    go_wp2_with fail
    refine (q2.out _).mono ?_
    rintro _ w3 ⟨rfl, x3⟩
    have X3 := Lib.hid (X2.out.trans x3)
    clear x3 X2
    have d3 := C3.out
    go_wp2
    go_ret2
    exact ⟨rfl, X3.out⟩
end Go.Proofs.Ythomdpdiknnahaa
