/- The walk of SuffixOrder. -/
import Derived.Test.YteflhfofahdckaaSufX
namespace Go.Proofs.Yteflhfofahdckaa
set_option linter.unusedVariables false
set_option linter.unusedSimpArgs false
open Go.RowKit
attribute [local go_sem] S_size S_toList S_extract S_beq S_bne S_empty S_nil

theorem okP_arr (s : List UInt8) : okP (toI (arrayL s)) = true := by
  have h := okF_okC (s := s) (ar := toI (arrayL s)) (decide_eq_true rfl)
  unfold okC at h
  rw [Bool.and_eq_true] at h; exact h.1
theorem arr_len (s : List UInt8) : (arrayL s).length = s.length + 1 := (arrayL_is s).length

set_option maxRecDepth 20000 in
set_option maxHeartbeats 4000000 in
theorem suffixOrder_in (s : List UInt8) (W : World) (h1 : ¬ (2000 : Int) < (s.length : Int)) :
    Calls Try.prog 10 #[.string (S s)] W fun e w' => e = .returned (.bool true) ∧ Ext W w' := by
  have q1 := Lib.hid (fun w => array_any s w (by omega))
  have HLT := Lib.hid (fun i (h : i < s.length + 1) => (arrayL_is s).lt h)
  have HLESS := Lib.hid (fun i (h : i + 1 < s.length + 1) => (arrayL_is s).less (Nat.lt_succ_self i) h)
  have HOK := Lib.hid (okP_arr s)
  have HAL := Lib.hid (arr_len s)
  have hbb : ((s.length : Int) + 1 != (s.length : Int) + 1) = false := by simp
  have WW := w64_small (n := (s.length : Int) + 1) (by omega) (by omega)
  generalize hA : arrayL s = A at *
  clear hA
  go_enter Try.func10, Try.ntmps10
  go_wp2_with fail
  refine (q1.out _).mono ?_
  rintro _ w1 ⟨g, rfl, x1, r1⟩
  have X1 := Lib.hid x1
  have R1 := Lib.hid r1
  have hmk := (TN.make w1 (s.length + 1) (by omega)).1 ((s.length : Int) + 1) (by omega)
  have T0 := Lib.hid (TN.make w1 (s.length + 1) (by omega)).2
  have S0 := Lib.hid (SeenK.start (a := toI A))
  rw [toI_length, HAL.out] at S0
  clear x1 r1 q1
  go_wp2_with fail
  go_loopw [6] (fun i wr => ∃ (k : Nat) (t : List Bool), k ≤ s.length + 1 ∧ i = .int .i64 (k : Int) ∧ TN wr w1.heap.size w1.heap.size (s.length + 1) t ∧ SeenK (toI A) t k ∧ Ext w1 wr) (fun i _ => s.length + 1 - (intOf i).toNat)
  case atStart => exact ⟨0, _, by omega, rfl, T0.out, S0.out, (Ext.refl _).alloc _⟩
  case round =>
    obtain ⟨k, t, hk, rfl, ht, hse, hx⟩ := hrel
    clear T0 S0 hmk
    by_cases hlt : k < s.length + 1
    · have hp := HLT.out k hlt
      have hkl : k < (toI A).length := by rw [toI_length, HAL.out]; exact hlt
      have hpl : A.getD k 0 < (toI A).length := by rw [toI_length, HAL.out]; exact hp
      have hnot : t.getD (A.getD k 0) false = false := by
        refine Bool.eq_false_iff.2 fun h => ?_
        obtain ⟨j, hj, e⟩ := (hse.2 _ hpl).1 h
        have := okP_inj (of_decide_eq_true HOK.out).2 (i := j) (j := k) (by omega) hkl (by rw [e, toI_getD])
        omega
      have hst := hse.step hkl (by rw [toI_getD]; omega)
      rw [toI_getD, Int.toNat_natCast] at hst
      have HST := Lib.hid hst
      have HT := Lib.hid ht
      have HX := Lib.hid hx
      have HP := Lib.hid hp
      have ck := Go.cell_later hx (R1.out.2 k hlt)
      have CK := Lib.hid (up_cell (W := wr) ck)
      have ct := ht.cell _ hp
      rw [hnot] at ct
      have CT := Lib.hid (up_cell (W := wr) ct)
      have hki : (k : Int) < (s.length : Int) + 1 := by omega
      rcases Nat.eq_zero_or_pos k with e0 | hk0
      · subst e0
        clear hst ht hx hp ck ct hnot hse hkl hpl
        have hpi : (A.getD 0 0 : Int) ≤ (s.length : Int) := by have := HP.out; omega
        have hpi2 : (A.getD 0 0 : Int) < (s.length : Int) + 1 := by omega
        generalize A.getD 0 0 = p at *
        rw [show ((0 : Nat) : Int) = 0 from rfl] at *
        go_wp2_with fail
        have ck := CK.out
        have ct := CT.out
        have n0 : ¬ (p : Int) < 0 := by omega
        have n1 : ¬ (s.length : Int) < (p : Int) := by omega
        refine wp_region_up (by kernel_rfl) (by kernel_rfl) ?_
        repeat (go_big_quiet_step (fail))
        refine wpQuiet_nil ?_
        rintro _ ⟨y2, rfl⟩
        have HXW := Lib.hid (HX.out.trans y2.ext)
        have HT2 := Lib.hid (HT.out.ext y2.ext)
        clear ck ct
        have ck := CK.out y2
        generalize y2.val = w3 at *
        have ct := HT2.out.cell p HP.out
        have fz := HT2.out.free p HP.out
        have HT3 := Lib.hid (HT2.out.set p true)
        have HX3 := Lib.hid (Ext.set HXW.out (p := ⟨w1.heap.size, p, none⟩) (Nat.le_refl _) (.bool true))
        generalize t.getD p false = old at *
        clear CT CK
        go_wp2
        go_roundw
        case rel => exact ⟨1, _, by omega, by go_num, HT3.out, HST.out, HX3.out⟩
        case measure => simp [intOf]
      · obtain ⟨j, rfl⟩ : ∃ j, k = j + 1 := ⟨k - 1, by omega⟩
        have hles := HLESS.out j (by omega)
        have hq := HLT.out j (by omega)
        have CJ := Lib.hid (up_cell (W := wr) (Go.cell_later hx (R1.out.2 j (by omega))))
        unfold lessE at hles
        clear hst ht hx hp ck ct hnot hse hkl hpl
        have hqi : (A.getD j 0 : Int) ≤ (s.length : Int) := by omega
        have hpi : (A.getD (j + 1) 0 : Int) ≤ (s.length : Int) := by have := HP.out; omega
        have hpi2 : (A.getD (j + 1) 0 : Int) < (s.length : Int) + 1 := by omega
        generalize A.getD (j + 1) 0 = p at *
        generalize A.getD j 0 = q at *
        have n1 : ¬ (s.length : Int) < (p : Int) := by omega
        have ew : IntKind.i64.wrap (j : Int) = (j : Int) := IntWalk.i64_in _ (by omega)
        have hjl : (j : Int) < (s.length : Int) + 1 := by omega
        have ew2 : (0 : Int) ≤ (j : Int) + 1 := by omega
        have ew3 : (0 : Int) < (j : Int) + 1 := by omega
        clear hq
        go_wp2_with fail
        have ck := CK.out
        have ct := CT.out
        have cj := CJ.out
        have n0 : ¬ (p : Int) < 0 := by omega
        have n1 : ¬ (s.length : Int) < (p : Int) := by omega
        refine wp_region_up (by kernel_rfl) (by kernel_rfl) ?_
        repeat (go_big_quiet_step (fail))
        refine wpQuiet_nil ?_
        rintro _ ⟨y2, rfl⟩
        have HXW := Lib.hid (HX.out.trans y2.ext)
        have HT2 := Lib.hid (HT.out.ext y2.ext)
        clear ck ct cj
        have ck := CK.out y2
        generalize y2.val = w3 at *
        have ct := HT2.out.cell p HP.out
        have fz := HT2.out.free p HP.out
        have HT3 := Lib.hid (HT2.out.set p true)
        have HX3 := Lib.hid (Ext.set HXW.out (p := ⟨w1.heap.size, p, none⟩) (Nat.le_refl _) (.bool true))
        generalize t.getD p false = old at *
        clear CT CJ CK
        go_wp2
        go_roundw
        case rel => exact ⟨j + 2, _, by omega, by go_num, HT3.out, HST.out, HX3.out⟩
        case measure => simp [intOf]; omega
    · have e : k = s.length + 1 := by omega
      subst e
      have HX := Lib.hid (X1.out.trans hx)
      have q := Lib.hid (awake12_any wr)
      have n9 : ¬ ((s.length + 1 : Nat) : Int) < (s.length : Int) + 1 := by omega
      clear hx ht hse
      go_wp2_with fail
      refine (q.out).mono ?_
      rintro _ w3 ⟨rfl, x3⟩
      go_wp2
      go_ret
      exact ⟨rfl, HX.out.trans x3⟩
set_option maxRecDepth 20000 in
set_option maxHeartbeats 4000000 in
theorem suffixOrder_out (s : List UInt8) (W : World) (h : (2000 : Int) < (s.length : Int)) :
    Calls Try.prog 10 #[.string (S s)] W fun e w' => e = .returned (.bool true) ∧ Ext W w' := by
  have q := Lib.hid (awake12_any W)
  go_enter Try.func10, Try.ntmps10
  go_wp2_with fail
  refine (q.out).mono ?_
  rintro _ w1 ⟨rfl, x1⟩
  go_wp2
  go_ret
  exact ⟨rfl, x1⟩
theorem suffixOrder_law (b : ByteArray) (hs : b.size ≤ maxLen) (W : World) :
    Calls Try.prog 10 #[.string b] W fun e w' => e = .returned (.bool true) ∧ Ext W w' := by
  obtain ⟨s, rfl, _⟩ := S_ex b
  by_cases h1 : (2000 : Int) < (s.length : Int)
  · exact suffixOrder_out s W h1
  exact suffixOrder_in s W h1
end Go.Proofs.Yteflhfofahdckaa
