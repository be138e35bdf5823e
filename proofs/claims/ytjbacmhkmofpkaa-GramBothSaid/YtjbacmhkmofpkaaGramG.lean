/- gram: Count, May. -/
import Derived.Test.YtjbacmhkmofpkaaGramF
namespace Go.Proofs.Ytjbacmhkmofpkaa
set_option linter.unusedVariables false
set_option linter.unusedSimpArgs false
open Go.RowKit
attribute [local go_sem] S_size S_toList S_append S_extract S_beq S_bne S_empty S_nil

theorem run_index_marks (m : W4) (k : Nat) (hk : k < 4) (w : World) : (Instr.index 29 (.agg (wordsL m.1).toArray) (.int .i64 (k : Int))).run Try.prog w = .ok (.int .u64 (U64 (m.1.getD k 0))) w := by
  obtain ⟨a, b, c, d, h⟩ := four m
  rw [h]
  obtain rfl | rfl | rfl | rfl : k = 0 ∨ k = 1 ∨ k = 2 ∨ k = 3 := by omega
  · kernel_rfl
  · kernel_rfl
  · kernel_rfl
  · kernel_rfl
def countTo (m : List UInt64) (k : Nat) : Nat := ((m.take k).map fun x => cntN 64 x.toNat).sum
def countL (m : List UInt64) : Nat := (m.map fun x => cntN 64 x.toNat).sum
theorem countTo_succ (m : List UInt64) (k : Nat) (h : k < m.length) : countTo m (k + 1) = countTo m k + cntN 64 (m.getD k 0).toNat := by
  unfold countTo
  rw [List.take_add_one, List.getElem?_eq_getElem h, Option.toList_some, List.map_append, List.sum_append]
  simp [List.getD_eq_getElem?_getD, h]
theorem countTo_le (m : List UInt64) (k : Nat) (h : m.length = 4) : countTo m k ≤ 256 := by
  obtain ⟨a, b, c, d, hm⟩ := four ⟨m, h⟩
  simp only at hm; subst hm
  have e1 := cnt_small 64 a.toNat
  have e2 := cnt_small 64 b.toNat
  have e3 := cnt_small 64 c.toNat
  have e4 := cnt_small 64 d.toNat
  unfold countTo
  match k with
  | 0 => simp
  | 1 => simp; omega
  | 2 => simp; omega
  | 3 => simp; omega
  | k + 4 => simp; omega

set_option maxRecDepth 20000 in
set_option maxHeartbeats 2000000 in
theorem count_any (m : W4) (w : World) :
    Calls Try.prog 16 #[MV m.1] w fun e w' => e = .returned (.int .i64 (countL m.1)) ∧ Ext w w' := by
  unfold MV
  have b1 := Lib.hid (Blk.new w 29 (wordsL m.1).toArray)
  have hc : ((countL m.1 : Nat) : Int) = ((countTo m.1 4 : Nat) : Int) := by
    unfold countL countTo; rw [List.take_of_length_le (by rw [m.2]; omega)]
  rw [hc]
  clear hc
  go_enter Try.func16, Try.ntmps16
  go_wp2_with (first
    | (refine wpList_load_blk rfl 29 (.tmp 1) rfl rfl b1.out Try.underlying29 rfl (marks_size m.2) ?_))
  go_loopw [7, 3] (fun i n wr => ∃ k : Nat, i = .int .i64 k ∧ k ≤ 4 ∧ n = .int .i64 (countTo m.1 k) ∧ Ext w wr) (fun i _ _ => 4 - (intOf i).toNat)
  case atStart => exact ⟨0, rfl, by omega, rfl, (Ext.refl _).alloc _⟩
  case round =>
    obtain ⟨k, rfl, hk, rfl, hx⟩ := hrel
    by_cases hlt : k < 4
    · have hs := countTo_succ m.1 k (by rw [m.2]; exact hlt)
      have hix := run_index_marks m k hlt
      have hle : (countTo m.1 (k + 1) : Int) ≤ 256 := by have := countTo_le m.1 (k + 1) m.2; omega
      have q := Lib.hid (fun w => ones_any (m.1.getD k 0) w)
      have hk4 : (k : Int) < 4 := by omega
      generalize m.1.getD k 0 = x at *
      generalize (wordsL m.1).toArray = cs at *
      have HS := Lib.hid (And.intro hs hle)
      clear hs hle
      go_wp2_with fail
      refine (q.out _).mono ?_
      rintro e w1 ⟨rfl, rfl⟩
      have hsum : IntKind.i64.wrap ((countTo m.1 k : Int) + (cntN 64 x.toNat : Int)) = ((countTo m.1 (k + 1) : Nat) : Int) := by
        have := HS.out; rw [IntKind.wrap_i64]; omega
      go_wp2_with fail
      go_roundw
      case rel => exact ⟨k + 1, by go_num, by omega, by go_num, hx⟩
      case measure => simp [intOf]; omega
    · obtain rfl : k = 4 := by omega
      go_wp2
      go_ret
      exact ⟨rfl, hx⟩

set_option maxRecDepth 20000 in
set_option maxHeartbeats 2000000 in
theorem may_any (m : W4) (what : List UInt8) (w : World) (hl : (what.length : Int) ≤ 1000000000) :
    Calls Try.prog 14 #[MV m.1, .string (S what)] w fun e w' => e = .returned (.bool (unionL m.1 (ofL what).1 == m.1)) ∧ Ext w w' := by
  have q1 := Lib.hid (fun w => of_any what w hl)
  have q2 := Lib.hid (fun w => hasm_any m.1 (ofL what).1 w m.2 (ofL what).2)
  unfold MV at *
  have b1 := Lib.hid (Blk.new w 29 (wordsL m.1).toArray)
  generalize ofL what = o at *
  generalize (unionL m.1 o.1 == m.1) = r at *
  go_enter Try.func14, Try.ntmps14
  go_wp2_with fail
  refine wp_region_up (by kernel_rfl) (by kernel_rfl) ?_
  repeat (first
    | (refine wpQuiet_load_blk rfl 29 (.tmp 2) rfl rfl b1.out Try.underlying29 rfl (marks_size m.2) ?_)
    | (quiet_step (first | (go_at_call 11; (with_reducible exact up_call (q1.out _))) | (go_at_call 31; (with_reducible exact up_call (q2.out _))))))
  refine wpQuiet_nil ?_
  rintro _ ⟨y, rfl⟩
  go_wp2
  go_ret
  exact ⟨rfl, ((Ext.refl _).alloc _).trans y.ext⟩
end Go.Proofs.Ytjbacmhkmofpkaa
