/- KmpFail: the law. -/
import Derived.Test.YtojebaplpfebdaaKmpI
namespace Go.Proofs.Ytojebaplpfebdaa
set_option linter.unusedVariables false
set_option linter.unusedSimpArgs false
open Go.RowKit
attribute [local go_sem] S_size S_toList S_append S_extract S_beq S_bne S_empty S_nil u8_beq

theorem border_yes (what : List UInt8) (i : Nat) (hi : i < what.length) : ((what.take (i + 1)).take (failL what i) == (what.take (i + 1)).drop (i + 1 - failL what i)) = true := by
  obtain ⟨h1, h2, h3⟩ := failL_spec what (st := i + 1) (by omega) (by omega)
  rw [Nat.add_sub_cancel] at h1 h2
  have hl : (what.take (i + 1)).length = i + 1 := by rw [List.length_take]; omega
  have := (mt_iff h1.1 h1.le).1 h1
  rw [hl] at this
  rw [beq_iff_eq, List.take_take, Nat.min_eq_left (by omega), this]
theorem border_no (what : List UInt8) (i k : Nat) (hi : i < what.length) (h1 : failL what i < k) (h2 : k ≤ i) : ((what.take (i + 1)).take k == (what.take (i + 1)).drop (i + 1 - k)) = false := by
  obtain ⟨_, _, h3⟩ := failL_spec what (st := i + 1) (by omega) (by omega)
  rw [Nat.add_sub_cancel] at h3
  have hl : (what.take (i + 1)).length = i + 1 := by rw [List.length_take]; omega
  cases hb : ((what.take (i + 1)).take k == (what.take (i + 1)).drop (i + 1 - k)) with
  | false => rfl
  | true =>
    rw [beq_iff_eq, List.take_take, Nat.min_eq_left (by omega)] at hb
    have := h3 k (by omega) ((mt_iff (by omega) (by omega)).2 (by rw [hl]; exact hb))
    omega

set_option maxRecDepth 20000 in
set_option maxHeartbeats 2000000 in
theorem kmpFail_out (what : List UInt8) (w : World) (h : (300 : Int) < (what.length : Int)) :
    Calls Try.prog 6 #[.string (S what)] w fun e w' => e = .returned (.bool true) ∧ Ext w w' := by
  go_enter Try.func6, Try.ntmps6
  go_wp2_with fail
  refine (awake30 _).mono ?_
  rintro e w' ⟨rfl, hx⟩
  go_wp2
  go_ret
  exact ⟨rfl, hx⟩

set_option maxRecDepth 20000 in
set_option maxHeartbeats 4000000 in
theorem kmpFail_in (what : List UInt8) (w : World) (h1 : ¬ (300 : Int) < (what.length : Int)) :
    Calls Try.prog 6 #[.string (S what)] w fun e w' => e = .returned (.bool true) ∧ Ext w w' := by
  have hw9 : (what.length : Int) ≤ 300 := by omega
  have q1 := Lib.hid (fun w => fail_any what w (by omega))
  go_enter Try.func6, Try.ntmps6
  go_wp2_with fail
  refine (q1.out _).mono ?_
  rintro e w1 ⟨v, rfl, x1, i1⟩
  obtain ⟨a, c, rfl, _, hsh⟩ := i1.shape
  rw [failsL_length] at hsh ⊢
  have HSH := Lib.hid hsh
  have X1 := Lib.hid x1
  clear i1 x1 hsh
  go_wp2
  go_loopw [4] (fun i wr => ∃ I : Nat, i = .int .i64 I ∧ I ≤ what.length ∧ Ext w1 wr) (fun i _ => what.length - (intOf i).toNat)
  case atStart => exact ⟨0, rfl, Nat.zero_le _, Ext.refl _⟩
  case round =>
    obtain ⟨i, rfl, hi, hx⟩ := hrel
    have HX := Lib.hid hx
    by_cases hlt : i < what.length
    · obtain ⟨g, rfl, _, _, hcl, _⟩ := HSH.out (by omega)
      have hc0 := Go.cell_later hx (hcl i hlt)
      rw [failsL_get what i hlt] at hc0
      have hfi := (failL_spec what (st := i + 1) (by omega) (by omega)).2.1
      rw [Nat.add_sub_cancel] at hfi
      have hyes := border_yes what i hlt
      have HNO := Lib.hid (fun k => border_no what i k hlt)
      have hl2 : (what.take (i + 1)).length = i + 1 := by rw [List.length_take]; omega
      have hTt : (what.take (i + 1)).take (i + 1) = what.take (i + 1) := List.take_of_length_le (by omega)
      obtain ⟨T, hT⟩ : ∃ T, what.take (i + 1) = T := ⟨_, rfl⟩
      rw [hT] at hyes hl2 hTt HNO
      generalize failL what i = f at *
      have hc := up_cell hc0
      have hi2 : (i : Int) < (what.length : Int) := by omega
      have hf2 : f ≤ i + 1 := by omega
      clear hx hcl hi
      go_wp2_with fail
      have hf0 : ¬ (f : Int) < 0 := by omega
      have hf1 : ¬ i < f := by omega
      have hf3 : ¬ (i : Int) < (f : Int) := by omega
      refine wp_region_up (by kernel_rfl) (by kernel_rfl) ?_
      repeat (go_big_quiet_step (fail))
      refine wpQuiet_nil ?_
      rintro _ ⟨z, rfl⟩
      have hcz := hc z
      have HZ := Lib.hid (HX.out.trans z.ext)
      clear hc hyes
      go_wp2
      go_loopw [6] (fun k wi => ∃ K : Nat, k = .int .i64 K ∧ f + 1 ≤ K ∧ K ≤ i + 1 ∧ Ext w1 wi) (fun k _ => i + 1 - (intOf k).toNat)
      case atStart => exact ⟨f + 1, by go_num, Nat.le_refl _, by omega, HZ.out⟩
      case round =>
        obtain ⟨K, rfl, hK1, hK2, hxi⟩ := hrel
        have HXI := Lib.hid hxi
        clear hxi
        by_cases hKi : K ≤ i
        · have hno := HNO.out K (by omega) hKi
          have hKi2 : (K : Int) ≤ (i : Int) := by omega
          have hK3 : K ≤ i + 1 := by omega
          go_wp2_with fail
          refine wp_region_up (by kernel_rfl) (by kernel_rfl) ?_
          repeat (go_big_quiet_step (fail))
          refine wpQuiet_nil ?_
          rintro _ ⟨y, rfl⟩
          go_wp2
          go_roundw
          case rel => exact ⟨K + 1, by go_num, by omega, by omega, HXI.out.trans y.ext⟩
          case measure => simp [intOf]; omega
        · have hKi2 : ¬ (K : Int) ≤ (i : Int) := by omega
          go_wp2
          go_roundw
          case rel => exact ⟨i + 1, by go_num, by omega, HXI.out⟩
          case measure => simp [intOf]; omega
    · obtain rfl : i = what.length := by omega
      clear hx hi
      go_wp2_with fail
      refine (awake30 _).mono ?_
      rintro e w5 ⟨rfl, x5⟩
      go_wp2
      go_ret
      exact ⟨rfl, X1.out.trans (HX.out.trans x5)⟩

theorem kmpFail_law (what : ByteArray) (hw : what.size ≤ maxLen) (w : World) :
    Calls Try.prog 6 #[.string what] w fun e w' => e = .returned (.bool true) ∧ Below w.heap.size w w' := by
  obtain ⟨what, rfl, _⟩ := S_ex what
  by_cases h2 : (300 : Int) < (what.length : Int)
  · exact kmpFail_out what w h2
  exact kmpFail_in what w h2
end Go.Proofs.Ytojebaplpfebdaa
