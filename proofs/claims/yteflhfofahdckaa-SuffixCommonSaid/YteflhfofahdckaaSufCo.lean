/- The walk of SuffixCommon. -/
import Derived.Test.YteflhfofahdckaaSufOr
namespace Go.Proofs.Yteflhfofahdckaa
set_option linter.unusedVariables false
set_option linter.unusedSimpArgs false
open Go.RowKit
attribute [local go_sem] S_size S_toList S_extract S_beq S_bne S_empty S_nil u8_beq

theorem okC_arr (s : List UInt8) : okC s (toI (arrayL s)) = true := okF_okC (decide_eq_true rfl)
theorem com_get (s : List UInt8) {i : Nat} (h : i < s.length + 1) : (comL s (toI (arrayL s))).getD i 0 = comAt s (toI (arrayL s)) i := by
  unfold comL
  rw [if_pos (okC_arr s), mr_getD _ _ _ (by rw [toI_length, arr_len]; exact h)]
theorem com_len (s : List UInt8) : (comL s (toI (arrayL s))).length = s.length + 1 := by
  unfold comL
  rw [if_pos (okC_arr s)]; simp [toI_length, arr_len]
theorem com_next (s : List UInt8) {j : Nat} (h : j + 1 < s.length + 1) : (comL s (toI (arrayL s))).getD (j + 1) 0 = alikeN (s.drop ((arrayL s).getD (j + 1) 0)) (s.drop ((arrayL s).getD j 0)) := by
  rw [com_get s h]
  unfold comAt endAt
  rw [if_neg (by omega), toI_placeN, toI_placeN]; rfl
theorem com_first (s : List UInt8) : (comL s (toI (arrayL s))).getD 0 0 = 0 := by
  rw [com_get s (by omega)]; rfl

set_option maxRecDepth 20000 in
set_option maxHeartbeats 8000000 in
theorem suffixCommon_in (s : List UInt8) (W : World) (h1 : ¬ (2000 : Int) < (s.length : Int)) :
    Calls Try.prog 11 #[.string (S s)] W fun e w' => e = .returned (.bool true) ∧ Ext W w' := by
  have q1 := Lib.hid (fun w => array_any s w (by omega))
  have q2 := Lib.hid (fun v w (h : RI w v (toI (arrayL s))) => common_any s _ v w h (by rw [toI_length, arr_len]; omega) (by omega))
  have HLT := Lib.hid (fun i (h : i < s.length + 1) => (arrayL_is s).lt h)
  have HCN := Lib.hid (fun j h => com_next s (j := j) h)
  have HC0 := Lib.hid (com_first s)
  have HCL := Lib.hid (com_len s)
  have HE := Lib.hid (com_true (okC_arr s))
  rw [HE.out] at q2
  have hbb : ((s.length : Int) + 1 != (s.length : Int) + 1) = false := by simp
  have WW := w64_small (n := (s.length : Int) + 1) (by omega) (by omega)
  generalize hA : arrayL s = A at *
  generalize hC : comL s (toI A) = C at *
  clear hA hC HE
  go_enter Try.func11, Try.ntmps11
  go_wp2_with fail
  refine (q1.out _).mono ?_
  rintro _ w1 ⟨g, rfl, x1, r1⟩
  have X1 := Lib.hid x1
  have R1 := Lib.hid r1
  clear x1 r1 q1
  go_wp2_with fail
  refine (q2.out _ _ R1.out.ri).mono ?_
  rintro _ w2 ⟨u, rfl, x2, r2⟩
  have X2 := Lib.hid (X1.out.trans x2)
  have R1 := Lib.hid (R1.out.ext x2)
  obtain ⟨au, cu, rfl, hlu, _, hsu⟩ := r2.shape
  rw [toI_length, HCL.out] at hlu hsu
  rw [toI_length, HCL.out]
  obtain ⟨gu, ou, rfl, hcu⟩ := hsu (by omega)
  have HU := Lib.hid hcu
  have cu0 := hcu 0 (by omega)
  rw [toI_getD, HC0.out] at cu0
  rw [Nat.add_zero] at cu0
  have cu0 : w2.cell? ⟨gu, ou, none⟩ = some (.int .i64 0) := cu0
  clear x2 r2 q2 hcu hsu X1
  have hlu' : (s.length : Int) + 1 ≤ (cu : Int) := by omega
  go_wp2_with fail
  go_loopw [7] (fun i wr => ∃ k : Nat, 1 ≤ k ∧ k ≤ s.length + 1 ∧ i = .int .i64 (k : Int) ∧ Ext w2 wr) (fun i _ => s.length + 1 - (intOf i).toNat)
  case atStart => exact ⟨1, by omega, by omega, rfl, Ext.refl _⟩
  case round =>
    obtain ⟨k, hk1, hk, rfl, hx⟩ := hrel
    clear cu0
    by_cases hlt : k < s.length + 1
    · obtain ⟨j, rfl⟩ : ∃ j, k = j + 1 := ⟨k - 1, by omega⟩
      have hp := HLT.out (j + 1) hlt
      have hq := HLT.out j (by omega)
      have cj := Go.cell_later hx (R1.out.2 j (by omega))
      have ck := Go.cell_later hx (R1.out.2 (j + 1) hlt)
      have cn := Go.cell_later hx (HU.out (j + 1) hlt)
      rw [toI_getD, HCN.out j hlt] at cn
      have HX := Lib.hid hx
      have CJ := Lib.hid (up_cell (W := wr) cj)
      have CK := Lib.hid (up_cell (W := wr) ck)
      have CN := Lib.hid (up_cell (W := wr) cn)
      clear hx
      have hqi : (A.getD j 0 : Int) ≤ (s.length : Int) := by omega
      have hpi : (A.getD (j + 1) 0 : Int) ≤ (s.length : Int) := by omega
      generalize A.getD (j + 1) 0 = p at *
      generalize A.getD j 0 = q at *
      have n0 : ¬ (p : Int) < 0 := by omega
      have n1 : ¬ (s.length : Int) < (p : Int) := by omega
      have n2 : ¬ (q : Int) < 0 := by omega
      have n3 : ¬ (s.length : Int) < (q : Int) := by omega
      have ew : IntKind.i64.wrap (j : Int) = (j : Int) := IntWalk.i64_in _ (by omega)
      have hjl : (j : Int) < (s.length : Int) + 1 := by omega
      have hjl2 : (j : Int) + 1 < (s.length : Int) + 1 := by omega
      have ew2 : (0 : Int) ≤ (j : Int) + 1 := by omega
      clear hq hp
      rw [show ((j + 1 : Nat) : Int) = (j : Int) + 1 from rfl] at *
      go_wp2_with fail
      clear cj ck cn
      have cj := CJ.out
      have ck := CK.out
      refine wp_region_up (by kernel_rfl) (by kernel_rfl) ?_
      repeat (go_big_quiet_step (fail))
      refine wpQuiet_nil ?_
      rintro _ ⟨y2, rfl⟩
      have HXW := Lib.hid (HX.out.trans y2.ext)
      clear ck cj
      have cn := CN.out y2
      generalize y2.val = w3 at *
      clear CJ CK CN HX
      have HL := Lib.hid (alikeN_le (s.drop p) (s.drop q))
      have HTK := Lib.hid (alikeN_take (s.drop p) (s.drop q))
      have HST := Lib.hid (alikeN_stop (s.drop p) (s.drop q))
      generalize hn : alikeN (s.drop p) (s.drop q) = n at *
      generalize s.drop p = Y at *
      generalize s.drop q = X at *
      clear hn
      have hl1 := HL.out
      have htk : (X.take n == Y.take n) = true := by rw [HTK.out]; simp
      go_wp2_with fail
      have hN := hl1.1
      have hM := hl1.2
      have m0 : ¬ (n : Int) < 0 := by omega
      have m1 : ¬ (X.length : Int) < (n : Int) := by omega
      have m2 : ¬ (Y.length : Int) < (n : Int) := by omega
      have m3 : (n : Int) ≤ (X.length : Int) := by omega
      have m4 : (n : Int) ≤ (Y.length : Int) := by omega
      by_cases hx1 : n < X.length
      · by_cases hy1 : n < Y.length
        · have ix := index_S X n hx1 _ rfl
          have iy := index_S Y n hy1 _ rfl
          have hne : (X.getD n 0 == Y.getD n 0) = false := beq_eq_false_iff_ne.2 (fun e => HST.out hy1 hx1 e.symm)
          have k1 : (n : Int) < (X.length : Int) := by omega
          have k2 : (n : Int) < (Y.length : Int) := by omega
          clear HST HTK
          generalize X.getD n 0 = bx at *
          generalize Y.getD n 0 = by_ at *
          refine wp_region_up (by kernel_rfl) (by kernel_rfl) ?_
          repeat (go_big_quiet_step (fail))
          refine wpQuiet_nil ?_
          rintro _ ⟨y2, rfl⟩
          have HXW := Lib.hid (HXW.out.trans y2.ext)
          generalize y2.val = w4 at *
          go_wp2
          go_roundw
          case rel => exact ⟨j + 2, by omega, by omega, by go_num, HXW.out⟩
          case measure => simp [intOf]; omega
        · have k1 : (n : Int) < (X.length : Int) := by omega
          have k2 : ¬ (n : Int) < (Y.length : Int) := by omega
          clear HST HTK
          refine wp_region_up (by kernel_rfl) (by kernel_rfl) ?_
          repeat (go_big_quiet_step (fail))
          refine wpQuiet_nil ?_
          rintro _ ⟨y2, rfl⟩
          have HXW := Lib.hid (HXW.out.trans y2.ext)
          generalize y2.val = w4 at *
          go_wp2
          go_roundw
          case rel => exact ⟨j + 2, by omega, by omega, by go_num, HXW.out⟩
          case measure => simp [intOf]; omega
      · have k1 : ¬ (n : Int) < (X.length : Int) := by omega
        clear HST HTK
        refine wp_region_up (by kernel_rfl) (by kernel_rfl) ?_
        repeat (go_big_quiet_step (fail))
        refine wpQuiet_nil ?_
        rintro _ ⟨y2, rfl⟩
        have HXW := Lib.hid (HXW.out.trans y2.ext)
        generalize y2.val = w4 at *
        go_wp2
        go_roundw
        case rel => exact ⟨j + 2, by omega, by omega, by go_num, HXW.out⟩
        case measure => simp [intOf]; omega
    · have e : k = s.length + 1 := by omega
      subst e
      have HX := Lib.hid (X2.out.trans hx)
      have q := Lib.hid (awake12_any wr)
      have n9 : ¬ ((s.length + 1 : Nat) : Int) < (s.length : Int) + 1 := by omega
      clear hx
      go_wp2_with fail
      refine (q.out).mono ?_
      rintro _ w3 ⟨rfl, x3⟩
      go_wp2
      go_ret
      exact ⟨rfl, HX.out.trans x3⟩
set_option maxRecDepth 20000 in
set_option maxHeartbeats 4000000 in
theorem suffixCommon_out (s : List UInt8) (W : World) (h : (2000 : Int) < (s.length : Int)) :
    Calls Try.prog 11 #[.string (S s)] W fun e w' => e = .returned (.bool true) ∧ Ext W w' := by
  have q := Lib.hid (awake12_any W)
  go_enter Try.func11, Try.ntmps11
  go_wp2_with fail
  refine (q.out).mono ?_
  rintro _ w1 ⟨rfl, x1⟩
  go_wp2
  go_ret
  exact ⟨rfl, x1⟩
theorem suffixCommon_law (b : ByteArray) (hs : b.size ≤ maxLen) (W : World) :
    Calls Try.prog 11 #[.string b] W fun e w' => e = .returned (.bool true) ∧ Ext W w' := by
  obtain ⟨s, rfl, _⟩ := S_ex b
  by_cases h1 : (2000 : Int) < (s.length : Int)
  · exact suffixCommon_out s W h1
  exact suffixCommon_in s W h1
end Go.Proofs.Yteflhfofahdckaa
