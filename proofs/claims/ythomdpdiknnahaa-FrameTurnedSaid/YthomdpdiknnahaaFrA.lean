/- varint, varveref02: Fix, Unfix, four bytes wide. -/
import Derived.Test.YthomdpdiknnahaaBytesG
import Derived.Test.YthomdpdiknnahaaStr
import Derived.Test.YthomdpdiknnahaaBits64
import Derived.Test.YthomdpdiknnahaaGen
import Derived.LoopTactic
namespace Go.Proofs.Ythomdpdiknnahaa
set_option linter.unusedVariables false
set_option linter.unusedSimpArgs false
open Go.RowKit
attribute [local go_sem] S_size S_toList S_append S_extract S_beq S_bne S_empty S_nil

/-- a number's bytes, the least one first -/
def dv (n k : Nat) : Nat := n / 256 ^ k
theorem dv_zero (n : Nat) : dv n 0 = n := by simp [dv]
theorem dv_succ (n k : Nat) : dv n (k + 1) = dv n k / 256 := by unfold dv; rw [Nat.pow_succ, Nat.div_div_eq_div_mul]
def fixTo (n k : Nat) : List UInt8 := (List.range k).map fun i => UInt8.ofNat (dv n i)
theorem fixTo_succ (n k : Nat) : fixTo n (k + 1) = fixTo n k ++ [UInt8.ofNat (dv n k)] := by
  unfold fixTo; rw [List.range_succ, List.map_append]; rfl
theorem fixTo_length (n k : Nat) : (fixTo n k).length = k := by simp [fixTo]
def fix4 (n : Nat) : List UInt8 := fixTo n 4
theorem fix4_length (n : Nat) : (fix4 n).length = 4 := fixTo_length n 4
theorem u8_wrap_nat (q : Nat) : IntKind.u8.wrap (q : Int) = U8 (UInt8.ofNat q) := by
  rw [IntKind.wrap_u8]; unfold U8; rw [UInt8.toNat_ofNat']; omega
theorem u8_wrap_rem (q : Nat) : IntKind.u8.wrap ((q : Int).tmod 256) = U8 (UInt8.ofNat q) := by
  rw [IntKind.wrap_u8]; unfold U8; rw [UInt8.toNat_ofNat', Int.tmod_eq_emod_of_nonneg (by omega)]; omega
theorem conv1 (w : World) (b : UInt8) : (convert 43 9 (.slice (some ⟨w.heap.size, 0, none⟩) 1 1)).run Try.prog (w.alloc (.cells #[.int .u8 (U8 b)] 5)) = .ok (.string (S [b])) (w.alloc (.cells #[.int .u8 (U8 b)] 5)) :=
  BW.str (l := [b]) (B := 0) (v := .slice (some ⟨w.heap.size, 0, none⟩) 1 1) ⟨rfl, .inr ⟨w.heap.size, 1, _, rfl, Nat.zero_le _, heap_alloc_new w _, Nat.le_refl _, by unfold maxLen; omega, rfl, rfl⟩⟩ (Nat.zero_lt_succ _)

theorem make8 (w : World) : (Instr.makeSlice 43 (.int .i64 0) (.int .i64 8)).run Try.prog w = .ok (.slice (some ⟨w.heap.size, 0, none⟩) 0 8) (w.alloc (.cells (madeCells #[.int .u8 0] 8) 5)) := by kernel_rfl
set_option maxRecDepth 20000 in
set_option maxHeartbeats 4000000 in
theorem fits_yes (n : Nat) (w : World) (h : n < 4294967296) :
    Calls Try.prog 27 #[.int .i64 n, .int .i64 4] w fun e w' => e = .returned (.bool true) ∧ w = w' := by
  have h1 : (0 : Int) ≤ (n : Int) := by omega
  have h2 : (n : Int) / 4294967296 = 0 := by omega
  go_enter Try.func27, Try.ntmps27
  go_wp2
  go_ret
  exact ⟨rfl, rfl⟩
set_option maxRecDepth 20000 in
set_option maxHeartbeats 4000000 in
theorem vFix_any (n : Nat) (w : World) (h : n < 4294967296) :
    Calls Try.prog 18 #[.int .i64 n, .int .i64 4] w fun e w' => e = .returned (.tuple #[.string (S (fix4 n)), .int .i64 0]) ∧ Ext w w' := by
  have q := Lib.hid (fun w => fits_yes n w h)
  have B0 := Lib.hid (BW.make0 w 8 (by omega))
  have hmk := make8
  go_enter Try.func18, Try.ntmps18
  go_wp2_with fail
  refine (q.out _).mono ?_
  rintro _ _ ⟨rfl, rfl⟩
  go_wp2
  clear hmk
  go_loopw [21, 6, 0] (fun i v m wr => ∃ k : Nat, i = .int .i64 (k : Int) ∧ k ≤ 4 ∧ m = .int .i64 (dv n k : Nat) ∧ Ext w wr ∧ BW wr w.heap.size v (fixTo n k)) (fun i _ _ _ => 4 - (intOf i).toNat)
  case atStart => exact ⟨0, rfl, by omega, by rw [dv_zero], (Ext.refl _).alloc _, B0.out⟩
  case round =>
    obtain ⟨k, rfl, hk, rfl, hx, hb⟩ := hrel
    have HX := Lib.hid hx
    have HB := Lib.hid hb
    clear hx hb
    by_cases hlt : k < 4
    · have hk4 : (k : Int) < 4 := by omega
      obtain ⟨v', w', hrun, hm', hb', _⟩ := HB.out.app HX.out.le (UInt8.ofNat (dv n k)) (by rw [fixTo_length]; omega)
      have F1 := Lib.hid (Below.trans HX.out hb' : Ext w w')
      rw [← fixTo_succ] at hm'
      have F2 := Lib.hid hm'
      have e1 := u8_wrap_nat (dv n k)
      have e2 : ((dv n k : Nat) : Int) / 256 = ((dv n (k + 1) : Nat) : Int) := by rw [dv_succ]; omega
      clear hm' hb'
      generalize dv n k = q at *
      generalize hq' : dv n (k + 1) = q' at *
      have HQ := Lib.hid hq'
      clear hq'
      generalize UInt8.ofNat q = b at *
      go_wp2_with (at_builtin; refine wpList_app rfl (.tmp 23) (.tmp 26) 43 rfl rfl rfl rfl hrun ?_)
      go_roundw
      case rel => exact ⟨k + 1, by go_num, by omega, by rw [HQ.out], F1.out, F2.out⟩
      case measure => simp [intOf]; omega
    · obtain rfl : k = 4 := by omega
      have hcv := HB.out.str (by rw [fixTo_length]; omega)
      have hl := Lib.hid (fixTo_length n 4)
      rw [show fixTo n 4 = fix4 n from rfl] at hcv
      clear hk HB hl
      go_wp2
      go_ret2
      exact ⟨rfl, HX.out⟩
set_option maxRecDepth 20000 in
set_option maxHeartbeats 4000000 in
theorem rFix_any (n : Nat) (w : World) (h : n < 4294967296) :
    Calls Try.prog 21 #[.int .i64 n, .int .i64 4] w fun e w' => e = .returned (.tuple #[.string (S (fix4 n)), .int .i64 0]) ∧ Ext w w' := by
  have hn : ¬ (n : Int) < 0 := by omega
  go_enter Try.func21, Try.ntmps21
  go_wp2
  go_loopw [7, 6, 0] (fun i v m wr => ∃ k : Nat, i = .int .i64 (k : Int) ∧ k ≤ 4 ∧ m = .int .i64 (dv n k : Nat) ∧ Ext w wr ∧ v = .string (S (fixTo n k))) (fun i _ _ _ => 4 - (intOf i).toNat)
  case atStart => exact ⟨0, rfl, by omega, by rw [dv_zero], Ext.refl _, rfl⟩
  case round =>
    obtain ⟨k, rfl, hk, rfl, hx, rfl⟩ := hrel
    have HX := Lib.hid hx
    clear hx
    by_cases hlt : k < 4
    · have hk4 : (k : Int) < 4 := by omega
      have e1 : ((dv n k : Nat) : Int) % 256 = U8 (UInt8.ofNat (dv n k)) := by unfold U8; rw [UInt8.toNat_ofNat']; omega
      have e2 : ((dv n k : Nat) : Int).tdiv 256 = ((dv n (k + 1) : Nat) : Int) := by rw [dv_succ, Int.tdiv_eq_ediv_of_nonneg (by omega)]; omega
      have hcat := run_cat (P := Try.prog) (fixTo n k) [UInt8.ofNat (dv n k)] (by rw [fixTo_length]; simp; omega)
      rw [← fixTo_succ] at hcat
      have hcv := conv1 wr (UInt8.ofNat (dv n k))
      have e3 : IntKind.i64.wrap ((k : Int) + 1) = ((k + 1 : Nat) : Int) := by rw [IntKind.wrap_i64]; omega
      have e4 : IntKind.i64.wrap ((dv n (k + 1) : Nat) : Int) = ((dv n (k + 1) : Nat) : Int) := by
        have : dv n (k + 1) ≤ n := Nat.div_le_self _ _
        rw [IntKind.wrap_i64]; omega
      generalize dv n k = q at *
      generalize hq' : dv n (k + 1) = q' at *
      have HQ := Lib.hid hq'
      clear hq'
      generalize UInt8.ofNat q = b at *
      generalize fixTo n k = l1 at *
      generalize hl2 : fixTo n (k + 1) = l2 at *
      have HL2 := Lib.hid hl2
      clear hl2
      go_wp2
      go_roundw
      case rel => exact ⟨k + 1, by go_num, by omega, by rw [HQ.out], HX.out.alloc _, by rw [HL2.out]⟩
      case measure => simp [intOf]; omega
    · obtain rfl : k = 4 := by omega
      have e0 : ¬ (0 : Int) < ((dv n 4 : Nat) : Int) := by unfold dv; omega
      rw [show fixTo n 4 = fix4 n from rfl]
      clear hk
      go_wp2
      go_ret2
      exact ⟨rfl, HX.out⟩

theorem w64_small {n : Int} (h0 : 0 ≤ n) (h1 : n < 9223372036854775808) : wrap64 n = n := by unfold wrap64; omega
/-- the number that four bytes are -/
def byteAt (l : List UInt8) (i : Nat) : Nat := (l.getD i 0).toNat
theorem byteAt_lt (l : List UInt8) (i : Nat) : byteAt l i < 256 := (l.getD i 0).toNat_lt
/-- the upper k of the four bytes from a place on -/
def unTo (l : List UInt8) (a : Nat) : Nat → Nat
  | 0 => 0
  | k + 1 => unTo l a k * 256 + byteAt l (a + (3 - k))
theorem unTo_lt (l : List UInt8) (a : Nat) : ∀ k, unTo l a k < 256 ^ k
  | 0 => by simp [unTo]
  | k + 1 => by
    have h1 := unTo_lt l a k
    have h2 := byteAt_lt l (a + (3 - k))
    rw [unTo, Nat.pow_succ]
    omega
theorem byte_get (l : List UInt8) (i : Nat) (h : i < (S l).size) : (S l)[i].toNat = byteAt l i := by
  rw [S_get]
  unfold byteAt
  rw [List.getD_eq_getElem?_getD, List.getElem?_eq_getElem (by rw [S_size] at h; exact h)]
  rfl
def un4 (l : List UInt8) (a : Nat) : Nat := unTo l a 4
theorem un4_lt (l : List UInt8) (a : Nat) : un4 l a < 4294967296 := unTo_lt l a 4
theorem or_low (u b : Nat) (hu : u < 72057594037927936) (hb : b < 256) : bits .or .u64 ((u * 256 : Nat) : Int) (b : Int) = ((u * 256 + b : Nat) : Int) := by
  rw [u64_or_nat _ _ (by omega) (by omega)]
  congr 1
  have := Nat.two_pow_add_eq_or_of_lt (i := 8) (b := b) (by omega) u
  rw [Nat.mul_comm u 256]
  exact this.symm
set_option maxRecDepth 20000 in
set_option maxHeartbeats 4000000 in
theorem vUnfix_any (l : List UInt8) (a : Nat) (w : World) (h : a + 4 ≤ l.length) (hl : (l.length : Int) ≤ 1000000000) :
    Calls Try.prog 32 #[.string (S l), .int .i64 a, .int .i64 4] w fun e w' => e = .returned (.tuple #[.int .i64 (un4 l a : Nat), .int .i64 ((a : Int) + 4), .int .i64 0]) ∧ w = w' := by
  have n1 : ¬ (a : Int) < 0 := by omega
  have n2 : ¬ (l.length : Int) < (a : Int) := by omega
  have e1 : IntKind.i64.wrap ((l.length : Int) - (a : Int)) = (l.length : Int) - (a : Int) := by rw [IntKind.wrap_i64]; omega
  have n3 : ¬ (l.length : Int) - (a : Int) < 4 := by omega
  have e2 : IntKind.i64.wrap ((a : Int) + 4) = (a : Int) + 4 := by rw [IntKind.wrap_i64]; omega
  go_enter Try.func32, Try.ntmps32
  go_wp2
  go_loop [10, 9] (fun i u => ∃ k : Nat, k ≤ 4 ∧ i = .int .i64 (3 - (k : Int)) ∧ u = .int .u64 (unTo l a k : Nat)) (fun i _ => (intOf i + 1).toNat)
  case atStart => exact ⟨0, by omega, rfl, rfl⟩
  case round =>
    obtain ⟨k, hk, rfl, rfl⟩ := hrel
    by_cases hlt : k < 4
    · have hk3 : (0 : Int) ≤ 3 - (k : Int) := by omega
      have e3 : IntKind.i64.wrap ((a : Int) + (3 - (k : Int))) = (((a + (3 - k) : Nat)) : Int) := by rw [IntKind.wrap_i64]; omega
      have hul := unTo_lt l a k
      have hlt2 : unTo l a k < 16777216 := by
        rcases (by omega : k = 0 ∨ k = 1 ∨ k = 2 ∨ k = 3) with rfl | rfl | rfl | rfl <;> omega
      have hb := byteAt_lt l (a + (3 - k))
      have e4 : IntKind.u64.wrap ((unTo l a k : Nat) * 256) = ((unTo l a k : Nat) : Int) * 256 := by rw [IntKind.wrap_u64]; omega
      have e6 := Lib.hid (or_low (unTo l a k) (byteAt l (a + (3 - k))) (by omega) hb)
      have e7 := Lib.hid (show unTo l a (k + 1) = unTo l a k * 256 + byteAt l (a + (3 - k)) from rfl)
      have HB := Lib.hid hb
      clear hb hul
      generalize unTo l a k = u at *
      go_wp2
      go_round
      case rel =>
        refine ⟨k + 1, by omega, congrArg _ (by omega), congrArg _ ?_⟩
        rw [byte_get, e7.out, ← e6.out]
        have := HB.out
        congr 1
        rw [IntKind.wrap_u64]
        omega
      case measure => simp [intOf]; omega
    · obtain rfl : k = 4 := by omega
      have hu := un4_lt l a
      rw [show unTo l a 4 = un4 l a from rfl]
      have e3 : ((un4 l a : Nat) : Int) / 9223372036854775808 = 0 := by omega
      have e4 : IntKind.i64.wrap ((un4 l a : Nat) : Int) = ((un4 l a : Nat) : Int) := by rw [IntKind.wrap_i64]; omega
      clear hu
      go_wp2
      exact bodyPost_ret (v := .tuple #[.int .i64 (un4 l a : Nat), .int .i64 ((a : Int) + 4), .int .i64 0]) (by simp [results, Try.results32, go_sem]) rfl ⟨rfl, rfl⟩
set_option maxRecDepth 20000 in
set_option maxHeartbeats 4000000 in
theorem rUnfix_any (l : List UInt8) (a : Nat) (w : World) (h : a + 4 ≤ l.length) (hl : (l.length : Int) ≤ 1000000000) :
    Calls Try.prog 33 #[.string (S l), .int .i64 a, .int .i64 4] w fun e w' => e = .returned (.tuple #[.int .i64 (un4 l a : Nat), .int .i64 ((a : Int) + 4), .int .i64 0]) ∧ w = w' := by
  have n1 : ¬ (a : Int) < 0 := by omega
  have n2 : ¬ (l.length : Int) < (a : Int) := by omega
  have e2 : IntKind.i64.wrap ((a : Int) + 4) = (a : Int) + 4 := by rw [IntKind.wrap_i64]; omega
  have n3 : ¬ (l.length : Int) < (a : Int) + 4 := by omega
  go_enter Try.func33, Try.ntmps33
  go_wp2
  go_loop [10, 9] (fun i u => ∃ k : Nat, k ≤ 4 ∧ i = .int .i64 (3 - (k : Int)) ∧ u = .int .i64 (unTo l a k : Nat)) (fun i _ => (intOf i + 1).toNat)
  case atStart => exact ⟨0, by omega, rfl, rfl⟩
  case round =>
    obtain ⟨k, hk, rfl, rfl⟩ := hrel
    by_cases hlt : k < 4
    · have hk3 : (0 : Int) ≤ 3 - (k : Int) := by omega
      have e3 : IntKind.i64.wrap ((a : Int) + (3 - (k : Int))) = (((a + (3 - k) : Nat)) : Int) := by rw [IntKind.wrap_i64]; omega
      have hul := unTo_lt l a k
      have hlt2 : unTo l a k < 16777216 := by
        rcases (by omega : k = 0 ∨ k = 1 ∨ k = 2 ∨ k = 3) with rfl | rfl | rfl | rfl <;> omega
      have hb := byteAt_lt l (a + (3 - k))
      have e4 : IntKind.i64.wrap ((unTo l a k : Nat) * 256) = ((unTo l a k : Nat) : Int) * 256 := by rw [IntKind.wrap_i64]; omega
      have e7 := Lib.hid (show unTo l a (k + 1) = unTo l a k * 256 + byteAt l (a + (3 - k)) from rfl)
      have HB := Lib.hid hb
      clear hb hul
      generalize unTo l a k = u at *
      go_wp2
      go_round
      case rel =>
        refine ⟨k + 1, by omega, congrArg _ (by omega), congrArg _ ?_⟩
        rw [byte_get, e7.out]
        have := HB.out
        generalize byteAt l (a + (3 - k)) = c at *
        have h1 : wrap64 (c : Int) = (c : Int) := w64_small (by omega) (by omega)
        rw [h1, w64_small (by omega) (by omega)]
        omega
      case measure => simp [intOf]; omega
    · obtain rfl : k = 4 := by omega
      rw [show unTo l a 4 = un4 l a from rfl]
      go_wp2
      exact bodyPost_ret (v := .tuple #[.int .i64 (un4 l a : Nat), .int .i64 ((a : Int) + 4), .int .i64 0]) (by simp [results, Try.results33, go_sem]) rfl ⟨rfl, rfl⟩
end Go.Proofs.Ythomdpdiknnahaa
