/- Several texts in one. merged: Bits64 TfA TcA TcB TcR TcZ TcTab TfB TfC TfD TfE TfF TfL -/
import Derived.Test.YtmjkfgpkohfmiaaGreatBits
import Derived.Test.YtmjkfgpkohfmiaaGreatBytesG
import Derived.Test.YtmjkfgpkohfmiaaGreatStr
import Derived.Test.YtmjkfgpkohfmiaaGreatGen
import Derived.LoopTactic
import Derived.Test.YtmjkfgpkohfmiaaGreatMem
import Derived.Deep.RegionHeld3
import Derived.BigQuiet
import Derived.Deep.QuietTactic
import Derived.Laws.BytesArg
import Derived.Deep.OwnRows
import Derived.Test.YtmjkfgpkohfmiaaGreatReadG
namespace Go.Proofs.YtmjkfgpkohfmiaaGreat
set_option linter.unusedVariables false
set_option linter.unusedSimpArgs false
open Go.RowKit
/-- a word's number -/
def U64 (c : UInt64) : Int := (c.toNat : Int)
theorem U64_nonneg (b : UInt64) : 0 ≤ U64 b := Int.natCast_nonneg _
theorem U64_lt (b : UInt64) : U64 b < 18446744073709551616 := by have := b.toNat_lt; unfold U64; omega
theorem u64_or64 (a b : UInt64) : bits .or .u64 (U64 a) (U64 b) = U64 (a ||| b) := by
  unfold U64; rw [u64_or_nat _ _ a.toNat_lt b.toNat_lt, UInt64.toNat_or]
theorem u64_and64 (a b : UInt64) : bits .and .u64 (U64 a) (U64 b) = U64 (a &&& b) := by
  unfold U64; rw [u64_and_nat _ _ a.toNat_lt b.toNat_lt, UInt64.toNat_and]
theorem u64_beq64 (a b : UInt64) : (U64 a == U64 b) = (a == b) := by
  rw [Bool.eq_iff_iff, beq_iff_eq, beq_iff_eq]
  unfold U64
  rw [Int.natCast_inj, UInt64.toNat_inj]
theorem u64_wrap64 (a : UInt64) : IntKind.u64.wrap (U64 a) = U64 a := by
  have := a.toNat_lt
  unfold U64; rw [IntKind.wrap_u64]; omega
end Go.Proofs.YtmjkfgpkohfmiaaGreat
namespace Go.Proofs.YtmjkfgpkohfmiaaGreat
set_option linter.unusedVariables false
set_option linter.unusedSimpArgs false
open Go.RowKit

attribute [local go_sem] S_size S_toList S_append S_extract S_beq S_bne S_empty S_nil

/-- a number's bytes, the least one first -/
def dv (n k : Nat) : Nat := n / 256 ^ k
theorem dv_zero (n : Nat) : dv n 0 = n := by simp [dv]
theorem dv_succ (n k : Nat) : dv n (k + 1) = dv n k / 256 := by unfold dv; rw [Nat.pow_succ, Nat.div_div_eq_div_mul]
def fixTo (n k : Nat) : List UInt8 := (List.range k).map fun i => UInt8.ofNat (dv n i)
theorem fixTo_succ (n k : Nat) : fixTo n (k + 1) = fixTo n k ++ [UInt8.ofNat (dv n k)] := by
  unfold fixTo; rw [List.range_succ, List.map_append]; rfl
theorem fixTo_length (n k : Nat) : (fixTo n k).length = k := by simp [fixTo]
def fix4 (n : Nat) : List UInt8 := fixTo n 4
theorem fix4_length (n : Nat) : (fix4 n).length = 4 := fixTo_length n 4
theorem u8_wrap_nat (q : Nat) : IntKind.u8.wrap (q : Int) = U8 (UInt8.ofNat q) := by
  rw [IntKind.wrap_u8]; unfold U8; rw [UInt8.toNat_ofNat']; omega
theorem u8_wrap_rem (q : Nat) : IntKind.u8.wrap ((q : Int).tmod 256) = U8 (UInt8.ofNat q) := by
  rw [IntKind.wrap_u8]; unfold U8; rw [UInt8.toNat_ofNat', Int.tmod_eq_emod_of_nonneg (by omega)]; omega
theorem conv1 (w : World) (b : UInt8) : (convert 105 9 (.slice (some ⟨w.heap.size, 0, none⟩) 1 1)).run Tryz.prog (w.alloc (.cells #[.int .u8 (U8 b)] 5)) = .ok (.string (S [b])) (w.alloc (.cells #[.int .u8 (U8 b)] 5)) :=
  BW.str (l := [b]) (B := 0) (v := .slice (some ⟨w.heap.size, 0, none⟩) 1 1) ⟨rfl, .inr ⟨w.heap.size, 1, _, rfl, Nat.zero_le _, heap_alloc_new w _, Nat.le_refl _, by unfold maxLen; omega, rfl, rfl⟩⟩ (Nat.zero_lt_succ _)

theorem make8 (w : World) : (Instr.makeSlice 105 (.int .i64 0) (.int .i64 8)).run Tryz.prog w = .ok (.slice (some ⟨w.heap.size, 0, none⟩) 0 8) (w.alloc (.cells (madeCells #[.int .u8 0] 8) 5)) := by kernel_rfl
set_option maxRecDepth 20000 in
set_option maxHeartbeats 4000000 in
theorem fits_yes (n : Nat) (w : World) (h : n < 4294967296) :
    Calls Tryz.prog 98 #[.int .i64 n, .int .i64 4] w fun e w' => e = .returned (.bool true) ∧ w = w' := by
  have h1 : (0 : Int) ≤ (n : Int) := by omega
  have h2 : (n : Int) / 4294967296 = 0 := by omega
  go_enter Tryz.func98, Tryz.ntmps98
  go_wp2
  go_ret
  exact ⟨rfl, rfl⟩
set_option maxRecDepth 20000 in
set_option maxHeartbeats 4000000 in
theorem vFix_any (n : Nat) (w : World) (h : n < 4294967296) :
    Calls Tryz.prog 65 #[.int .i64 n, .int .i64 4] w fun e w' => e = .returned (.tuple #[.string (S (fix4 n)), .int .i64 0]) ∧ Ext w w' := by
  have q := Lib.hid (fun w => fits_yes n w h)
  have B0 := Lib.hid (BW.make0 w 8 (by omega))
  have hmk := make8
  go_enter Tryz.func65, Tryz.ntmps65
  go_wp2_with fail
  refine (q.out _).mono ?_
  rintro _ _ ⟨rfl, rfl⟩
  go_wp2
  clear hmk
  go_loopw [21, 6, 0] (fun i v m wr => ∃ k : Nat, i = .int .i64 (k : Int) ∧ k ≤ 4 ∧ m = .int .i64 (dv n k : Nat) ∧ Ext w wr ∧ BW wr w.heap.size v (fixTo n k)) (fun i _ _ _ => 4 - (intOf i).toNat)
  case atStart => exact ⟨0, rfl, by omega, by rw [dv_zero], (Ext.refl _).alloc _, B0.out⟩
  case round =>
    obtain ⟨k, rfl, hk, rfl, hx, hb⟩ := hrel
    have HX := Lib.hid hx
    have HB := Lib.hid hb
    clear hx hb
    by_cases hlt : k < 4
    · have hk4 : (k : Int) < 4 := by omega
      obtain ⟨v', w', hrun, hm', hb', _⟩ := HB.out.app HX.out.le (UInt8.ofNat (dv n k)) (by rw [fixTo_length]; omega)
      have F1 := Lib.hid (Below.trans HX.out hb' : Ext w w')
      rw [← fixTo_succ] at hm'
      have F2 := Lib.hid hm'
      have e1 := u8_wrap_nat (dv n k)
      have e2 : ((dv n k : Nat) : Int) / 256 = ((dv n (k + 1) : Nat) : Int) := by rw [dv_succ]; omega
      clear hm' hb'
      generalize dv n k = q at *
      generalize hq' : dv n (k + 1) = q' at *
      have HQ := Lib.hid hq'
      clear hq'
      generalize UInt8.ofNat q = b at *
      go_wp2_with (at_builtin; refine wpList_app rfl (.tmp 23) (.tmp 26) 105 rfl rfl rfl rfl hrun ?_)
      go_roundw
      case rel => exact ⟨k + 1, by go_num, by omega, by rw [HQ.out], F1.out, F2.out⟩
      case measure => simp [intOf]; omega
    · obtain rfl : k = 4 := by omega
      have hcv := HB.out.str (by rw [fixTo_length]; omega)
      have hl := Lib.hid (fixTo_length n 4)
      rw [show fixTo n 4 = fix4 n from rfl] at hcv
      clear hk HB hl
      go_wp2
      go_ret2
      exact ⟨rfl, HX.out⟩
theorem w64_small {n : Int} (h0 : 0 ≤ n) (h1 : n < 9223372036854775808) : wrap64 n = n := by unfold wrap64; omega
/-- the number that four bytes are -/
def byteAt (l : List UInt8) (i : Nat) : Nat := (l.getD i 0).toNat
theorem byteAt_lt (l : List UInt8) (i : Nat) : byteAt l i < 256 := (l.getD i 0).toNat_lt
/-- the upper k of the four bytes from a place on -/
def unTo (l : List UInt8) (a : Nat) : Nat → Nat
  | 0 => 0
  | k + 1 => unTo l a k * 256 + byteAt l (a + (3 - k))
theorem unTo_lt (l : List UInt8) (a : Nat) : ∀ k, unTo l a k < 256 ^ k
  | 0 => by simp [unTo]
  | k + 1 => by
    have h1 := unTo_lt l a k
    have h2 := byteAt_lt l (a + (3 - k))
    rw [unTo, Nat.pow_succ]
    omega
theorem byte_get (l : List UInt8) (i : Nat) (h : i < (S l).size) : (S l)[i].toNat = byteAt l i := by
  rw [S_get]
  unfold byteAt
  rw [List.getD_eq_getElem?_getD, List.getElem?_eq_getElem (by rw [S_size] at h; exact h)]
  rfl
def un4 (l : List UInt8) (a : Nat) : Nat := unTo l a 4
theorem un4_lt (l : List UInt8) (a : Nat) : un4 l a < 4294967296 := unTo_lt l a 4
theorem or_low (u b : Nat) (hu : u < 72057594037927936) (hb : b < 256) : bits .or .u64 ((u * 256 : Nat) : Int) (b : Int) = ((u * 256 + b : Nat) : Int) := by
  rw [u64_or_nat _ _ (by omega) (by omega)]
  congr 1
  have := Nat.two_pow_add_eq_or_of_lt (i := 8) (b := b) (by omega) u
  rw [Nat.mul_comm u 256]
  exact this.symm
set_option maxRecDepth 20000 in
set_option maxHeartbeats 4000000 in
theorem vUnfix_any (l : List UInt8) (a : Nat) (w : World) (h : a + 4 ≤ l.length) (hl : (l.length : Int) ≤ 1000000000) :
    Calls Tryz.prog 108 #[.string (S l), .int .i64 a, .int .i64 4] w fun e w' => e = .returned (.tuple #[.int .i64 (un4 l a : Nat), .int .i64 ((a : Int) + 4), .int .i64 0]) ∧ w = w' := by
  have n1 : ¬ (a : Int) < 0 := by omega
  have n2 : ¬ (l.length : Int) < (a : Int) := by omega
  have e1 : IntKind.i64.wrap ((l.length : Int) - (a : Int)) = (l.length : Int) - (a : Int) := by rw [IntKind.wrap_i64]; omega
  have n3 : ¬ (l.length : Int) - (a : Int) < 4 := by omega
  have e2 : IntKind.i64.wrap ((a : Int) + 4) = (a : Int) + 4 := by rw [IntKind.wrap_i64]; omega
  go_enter Tryz.func108, Tryz.ntmps108
  go_wp2
  go_loop [10, 9] (fun i u => ∃ k : Nat, k ≤ 4 ∧ i = .int .i64 (3 - (k : Int)) ∧ u = .int .u64 (unTo l a k : Nat)) (fun i _ => (intOf i + 1).toNat)
  case atStart => exact ⟨0, by omega, rfl, rfl⟩
  case round =>
    obtain ⟨k, hk, rfl, rfl⟩ := hrel
    by_cases hlt : k < 4
    · have hk3 : (0 : Int) ≤ 3 - (k : Int) := by omega
      have e3 : IntKind.i64.wrap ((a : Int) + (3 - (k : Int))) = (((a + (3 - k) : Nat)) : Int) := by rw [IntKind.wrap_i64]; omega
      have hul := unTo_lt l a k
      have hlt2 : unTo l a k < 16777216 := by
        rcases (by omega : k = 0 ∨ k = 1 ∨ k = 2 ∨ k = 3) with rfl | rfl | rfl | rfl <;> omega
      have hb := byteAt_lt l (a + (3 - k))
      have e4 : IntKind.u64.wrap ((unTo l a k : Nat) * 256) = ((unTo l a k : Nat) : Int) * 256 := by rw [IntKind.wrap_u64]; omega
      have e6 := Lib.hid (or_low (unTo l a k) (byteAt l (a + (3 - k))) (by omega) hb)
      have e7 := Lib.hid (show unTo l a (k + 1) = unTo l a k * 256 + byteAt l (a + (3 - k)) from rfl)
      have HB := Lib.hid hb
      clear hb hul
      generalize unTo l a k = u at *
      go_wp2
      go_round
      case rel =>
        refine ⟨k + 1, by omega, congrArg _ (by omega), congrArg _ ?_⟩
        rw [byte_get, e7.out, ← e6.out]
        have := HB.out
        congr 1
        rw [IntKind.wrap_u64]
        omega
      case measure => simp [intOf]; omega
    · obtain rfl : k = 4 := by omega
      have hu := un4_lt l a
      rw [show unTo l a 4 = un4 l a from rfl]
      have e3 : ((un4 l a : Nat) : Int) / 9223372036854775808 = 0 := by omega
      have e4 : IntKind.i64.wrap ((un4 l a : Nat) : Int) = ((un4 l a : Nat) : Int) := by rw [IntKind.wrap_i64]; omega
      clear hu
      go_wp2
      exact bodyPost_ret (v := .tuple #[.int .i64 (un4 l a : Nat), .int .i64 ((a : Int) + 4), .int .i64 0]) (by simp [results, Tryz.results108, go_sem]) rfl ⟨rfl, rfl⟩
end Go.Proofs.YtmjkfgpkohfmiaaGreat
namespace Go.Proofs.YtmjkfgpkohfmiaaGreat
set_option linter.unusedVariables false
set_option linter.unusedSimpArgs false
open Go.RowKit

attribute [local go_sem] U8_fold U8_toNat u32_xor u32_and u8_xor8 u8_of_u32 u32_of_u8 u32_xor_u8 u32_mod256 u32_shr1 u32_shr8 u32_beq u32_and1 u32_beq1 u32_not signed_u32 signed_u8

/-- a table's value -/
def tabL (T : List UInt32) : List Value := T.map fun n => Value.int .u32 (U32 n)
theorem tabL_length (T : List UInt32) : (tabL T).length = T.length := by simp [tabL]
theorem tabL_get (T : List UInt32) (i : Nat) (h : i < T.length) : (tabL T)[i]? = some (.int .u32 (U32 (T.getD i 0))) := by
  simp [tabL, h]
theorem tabL_one (T : List UInt32) : ∀ v ∈ tabL T, v.oneCell' = true := by
  intro v hv
  obtain ⟨n, _, rfl⟩ := List.mem_map.1 hv
  rfl

def half (c : UInt32) : UInt32 := if (c &&& 1 == 1) then (c >>> 1) ^^^ 0xedb88320 else c >>> 1
theorem xor_poly (c : UInt32) : bits .xor .u32 (U32 c) 3988292384 = U32 (c ^^^ 0xedb88320) := u32_xor c 0xedb88320
attribute [local go_sem] xor_poly

set_option maxHeartbeats 400000 in
theorem half_any (c : UInt32) (w : World) :
    Calls Tryz.prog 100 #[.int .u32 (U32 c)] w fun e w' => e = .returned (.int .u32 (U32 (half c))) ∧ w = w' := by
  go_enter Tryz.func100, Tryz.ntmps100
  go_wp2
  all_goals go_ret
  all_goals (refine ⟨?_, rfl⟩; simp [half, *])

def rest (T : List UInt32) (c : UInt32) (b : UInt8) : UInt32 := (c >>> 8) ^^^ T.getD (B8 (c.toUInt8 ^^^ b)) 0

set_option maxHeartbeats 400000 in
theorem rest_any (T : List UInt32) (g : Nat) (c : UInt32) (b : UInt8) (w : World) (hT : ∀ i < 256, w.cell? ⟨g, i, none⟩ = some (.int .u32 (U32 (T.getD i 0)))) :
    Calls Tryz.prog 127 #[.pointer (some ⟨g, 0, none⟩), .int .u32 (U32 c), .int .u8 (U8 b)] w fun e w' => e = .returned (.int .u32 (U32 (rest T c b))) ∧ w = w' := by
  have hx := B8_lt (c.toUInt8 ^^^ b)
  have hc := hT _ hx
  have hl := U8_lt (c.toUInt8 ^^^ b)
  have hn := U8_nonneg (c.toUInt8 ^^^ b)
  clear hT hx
  go_enter Tryz.func127, Tryz.ntmps127
  go_wp2
  go_ret
  exact ⟨rfl, rfl⟩
theorem tab_at (T : List UInt32) (w : World) (t : TypeId) (hT : T.length = 256) : ∀ i < 256, (w.alloc (.cells (tabL T).toArray t)).cell? ⟨w.heap.size, i, none⟩ = some (.int .u32 (U32 (T.getD i 0))) := by
  intro i hi
  rw [World.cell?_alloc_new, List.getElem?_toArray, tabL_get T i (by omega)]

/-- the remainder behind bytes -/
def restL (T : List UInt32) (c : UInt32) (l : List UInt8) : UInt32 := l.foldl (rest T) c
def bytesOf (s : ByteArray) : List UInt8 := s.data.toList
theorem bytesOf_length (s : ByteArray) : (bytesOf s).length = s.size := by simp [bytesOf]
theorem take_snoc (s : ByteArray) (k : Nat) (h : k < s.size) : (bytesOf s).take (k + 1) = (bytesOf s).take k ++ [s[k]] := by
  unfold bytesOf
  rw [List.take_succ_eq_append_getElem (by simpa using h)]; rfl
theorem restL_snoc (T : List UInt32) (c : UInt32) (l : List UInt8) (b : UInt8) : restL T c (l ++ [b]) = rest T (restL T c l) b := by
  simp [restL]

set_option maxHeartbeats 400000 in
theorem more_any (T : List UInt32) (c : UInt32) (s : ByteArray) (w : World) (hT : T.length = 256) (hs : s.size ≤ maxLen) :
    Calls Tryz.prog 99 #[.agg (tabL T).toArray, .int .u32 (U32 c), .string s] w fun e w' => e = .returned (.int .u32 (U32 (~~~ restL T (~~~ c) (bytesOf s)))) ∧ Ext w w' := by
  unfold maxLen at hs
  have ht := Lib.hid (tab_at T w 116 hT)
  clear hT
  go_enter Tryz.func99, Tryz.ntmps99
  go_wp2
  go_loop [7, 8] (fun c' i => ∃ k : Nat, k ≤ s.size ∧ i = .int .i64 k ∧ c' = .int .u32 (U32 (restL T (~~~ c) ((bytesOf s).take k)))) (fun _ i => s.size - (intOf i).toNat)
  case atStart => exact ⟨0, Nat.zero_le _, rfl, rfl⟩
  case round =>
    obtain ⟨k, hk, rfl, rfl⟩ := hrel
    by_cases hlt : k < s.size
    · have H := Lib.hid (take_snoc s k hlt)
      go_wp2_with (go_at_call 127; refine (rest_any T _ _ _ _ ht.out).mono ?_; rintro e w' ⟨rfl, rfl⟩)
      go_round
      case rel => exact ⟨k + 1, by omega, by go_num, by rw [H.out, restL_snoc]⟩
      case measure => simp [intOf]; omega
    · go_wp2
      go_ret
      refine ⟨?_, (Ext.refl _).alloc _⟩
      have : (bytesOf s).take k = bytesOf s := List.take_of_length_le (by rw [bytesOf_length]; omega)
      simp [this]
end Go.Proofs.YtmjkfgpkohfmiaaGreat
namespace Go.Proofs.YtmjkfgpkohfmiaaGreat
set_option linter.unusedVariables false
set_option linter.unusedSimpArgs false
open Go.RowKit

attribute [local go_sem] U8_fold U8_toNat u32_xor u32_and u8_xor8 u8_of_u32 u32_of_u8 u32_xor_u8 u32_mod256 u32_shr1 u32_shr8 u32_beq u32_and1 u32_beq1 u32_not signed_u32 signed_u8 xor_poly

theorem arr_size : (Tryz.prog.info? 116).map (·.size) = some 256 := by kernel_rfl
theorem tab_size {T : List UInt32} (hT : T.length = 256) : (Tryz.prog.info? 116).map (·.size) = some (tabL T).toArray.size := by
  rw [arr_size]; simp [tabL_length, hT]

set_option maxHeartbeats 400000 in
theorem of_any (T : List UInt32) (s : ByteArray) (w : World) (hT : T.length = 256) (hs : s.size ≤ maxLen) :
    Calls Tryz.prog 66 #[.agg (tabL T).toArray, .string s] w fun e w' => e = .returned (.int .u32 (U32 (~~~ restL T (~~~ 0) (bytesOf s)))) ∧ Ext w w' := by
  have HT := Lib.hid hT
  clear hT
  have hz : U32 0 = 0 := rfl
  have hm := Lib.hid (more_any T 0 s · HT.out hs)
  rw [hz] at hm
  clear hz
  go_enter Tryz.func66, Tryz.ntmps66
  go_wp2_with (first
    | (refine wpList_load_blk rfl 116 (.tmp 2) rfl rfl (Blk.new w _ _) Tryz.underlying116 rfl (tab_size HT.out) ?_)
    | (go_at_call 99; refine (hm.out _).mono ?_; rintro e w' ⟨rfl, hx⟩))
  go_ret
  exact ⟨rfl, ((Ext.refl _).alloc _).trans hx⟩

/-- the remainder behind bytes 00 -/
def zerosL (n : Int) : List UInt8 := List.replicate (min n 100000).toNat 0

theorem restL_rep (T : List UInt32) (c : UInt32) (k : Nat) : restL T c (List.replicate (k + 1) 0) = rest T (restL T c (List.replicate k 0)) 0 := by
  rw [List.replicate_succ', restL_snoc]

end Go.Proofs.YtmjkfgpkohfmiaaGreat
namespace Go.Proofs.YtmjkfgpkohfmiaaGreat
set_option linter.unusedVariables false
set_option linter.unusedSimpArgs false
open Go.RowKit

attribute [local go_sem] U8_fold U8_toNat u32_xor u32_and u8_xor8 u8_of_u32 u32_of_u8 u32_xor_u8 u32_mod256 u32_shr1 u32_shr8 u32_beq u32_and1 u32_beq1 u32_not signed_u32 signed_u8 xor_poly u32_tmod2 u32_mod2 u32_tmod256 u32_wrap u32_tdiv2 u32_tdiv256 u32_max_sub

def halfs : Nat → UInt32 → UInt32
  | 0, c => c
  | k + 1, c => half (halfs k c)

/-- the sum without a table -/
def restE (c : UInt32) (b : UInt8) : UInt32 := (c >>> 8) ^^^ halfs 8 (UInt32.ofNat (B8 (c.toUInt8 ^^^ b)))
theorem U32_of_B8 (b : UInt8) : U8 b = U32 (UInt32.ofNat (B8 b)) := by
  have := b.toNat_lt
  unfold U8 U32 B8; rw [UInt32.toNat_ofNat']; omega

end Go.Proofs.YtmjkfgpkohfmiaaGreat
namespace Go.Proofs.YtmjkfgpkohfmiaaGreat
set_option linter.unusedVariables false
set_option linter.unusedSimpArgs false
open Go.RowKit

attribute [local go_sem] U8_fold U8_toNat u32_xor u32_and u8_xor8 u8_of_u32 u32_of_u8 u32_xor_u8 u32_mod256 u32_shr1 u32_shr8 u32_beq u32_and1 u32_beq1 u32_not signed_u32 signed_u8 xor_poly u32_tmod2 u32_mod2 u32_tmod256 u32_wrap u32_tdiv2 u32_tdiv256 u32_max_sub

theorem madeCells_one (z : Value) (n i : Nat) (h : i < n) : (madeCells #[z] n)[i]? = some z := by
  simp [madeCells, h, Nat.mod_one]

/-- so many bytes 00, as a string -/
def zeroStr (n : Nat) : ByteArray := ⟨(List.replicate n 0).toArray⟩
theorem zeroStr_bytes (n : Nat) : bytesOf (zeroStr n) = List.replicate n 0 := rfl
theorem zeroStr_size (n : Nat) : (zeroStr n).size = n := by simp [zeroStr, ByteArray.size]

theorem byte_infoT : (Tryz.prog.info? 5).map (fun i => (i.zero, i.size, i.bytes)) = some (some (.int .u8 0), 1, 1) := by kernel_rfl

theorem make_bytes (n : Nat) (hn : n ≤ 281474976710656) (w : World) :
    (Instr.makeSlice 105 (.int .i64 (n : Int)) (.int .i64 (n : Int))).run Tryz.prog w = .ok (.slice (some ⟨w.heap.size, 0, none⟩) n n) (w.alloc (.cells (madeCells #[.int .u8 0] n) 5)) :=
  run_make_row' _ _ _ 1 Tryz.underlying105 byte_infoT rfl .i64 .i64 n (by omega) (by omega) w

theorem conv_zeros (n : Nat) (w : World) (t : TypeId) :
    (convert 105 9 (.slice (some ⟨w.heap.size, 0, none⟩) n n)).run Tryz.prog (w.alloc (.cells (madeCells #[.int .u8 0] n) t)) = .ok (.string (zeroStr n)) (w.alloc (.cells (madeCells #[.int .u8 0] n) t)) := by
  rw [run_convert_bytes_arg (w.alloc (.cells (madeCells #[.int .u8 0] n) t)) _ 5 Tryz.underlying105 Tryz.underlying5 w.heap.size 0 n n (List.replicate n 0) (by simp) ?_ _ Tryz.underlying9]
  · congr 2
    simp [strOfNums, zeroStr]
  · intro i hi
    rw [World.cell?_alloc_new, Nat.zero_add, madeCells_one _ _ _ hi]
    simp [hi]

theorem zerosL_neg (n : Int) (h : n < 1) : zerosL n = [] := by
  unfold zerosL
  rw [show (min n 100000).toNat = 0 by omega]; rfl

end Go.Proofs.YtmjkfgpkohfmiaaGreat
namespace Go.Proofs.YtmjkfgpkohfmiaaGreat
set_option linter.unusedVariables false
set_option linter.unusedSimpArgs false
open Go.RowKit

attribute [local go_sem] U8_fold U8_toNat u32_xor u32_and u8_xor8 u8_of_u32 u32_of_u8 u32_xor_u8 u32_mod256 u32_shr1 u32_shr8 u32_beq u32_and1 u32_beq1 u32_not signed_u32 signed_u8 xor_poly u32_tmod2 u32_mod2 u32_tmod256 u32_wrap u32_tdiv2 u32_tdiv256 u32_max_sub

def zeroTab : Array Value := (tabL (List.replicate 256 0)).toArray
theorem zero_tab : zeroTab = (tabL (List.replicate 256 0)).toArray := rfl
theorem zeroTab_run (w : World) : (zeroValue 116).run Tryz.prog w = .ok (.agg zeroTab) w := by kernel_rfl
theorem zeroTab_ne : ¬ zeroTab = #[] := by
  intro h
  have h2 := congrArg Array.size h
  rw [zero_tab, List.size_toArray, tabL_length, List.length_replicate] at h2
  exact absurd h2 (show ¬ (256 : Nat) = 0 by decide)
attribute [local go_sem] zeroTab_run zeroTab_ne

/-- the table, so far -/
def tabTo (k : Nat) : List UInt32 := (List.range 256).map fun i => if i < k then halfs 8 (UInt32.ofNat i) else 0
def theTab : List UInt32 := (List.range 256).map fun i => halfs 8 (UInt32.ofNat i)
theorem tabTo_length (k : Nat) : (tabTo k).length = 256 := by simp [tabTo]
theorem theTab_length : theTab.length = 256 := by simp [theTab]
theorem tabTo_zero : tabTo 0 = List.replicate 256 0 := by decide +kernel
theorem tabTo_all : tabTo 256 = theTab := by decide +kernel
theorem tabL_set (k : Nat) (_h : k < 256) : (tabL (tabTo k)).toArray.setIfInBounds k (.int .u32 (U32 (halfs 8 (UInt32.ofNat k)))) = (tabL (tabTo (k + 1))).toArray := by
  apply Array.ext_getElem?
  intro i
  rw [Array.getElem?_setIfInBounds]
  simp only [List.getElem?_toArray, List.size_toArray, tabL_length, tabTo_length]
  by_cases hi : i < 256
  · rw [tabL_get _ i (by rw [tabTo_length]; exact hi), tabL_get _ i (by rw [tabTo_length]; exact hi)]
    have e : ∀ j, (tabTo j).getD i 0 = if i < j then halfs 8 (UInt32.ofNat i) else 0 := by
      intro j; simp [tabTo, hi]
    rw [e, e]
    by_cases hk : k = i
    · subst hk; simp [hi]
    · simp only [hk, if_false]
      by_cases h2 : i < k
      · rw [if_pos h2, if_pos (by omega)]
      · rw [if_neg h2, if_neg (by omega)]
  · rw [if_neg (by omega)]
    have : ∀ j, (tabL (tabTo j))[i]? = none := fun j => List.getElem?_eq_none (by rw [tabL_length, tabTo_length]; omega)
    rw [this, this]
theorem u32_of_nat (k : Nat) (_h : k < 256) : IntKind.u32.wrap (k : Int) = U32 (UInt32.ofNat k) := by
  unfold U32; rw [IntKind.wrap_u32, UInt32.toNat_ofNat']; omega

theorem tab_start (w : World) : Blk ((w.alloc (.cells zeroTab 116)).alloc (.cells zeroTab 116)) w.heap.size 116 (tabL (tabTo 0)).toArray ∧
    Blk ((w.alloc (.cells zeroTab 116)).alloc (.cells zeroTab 116)) (w.heap.size + 1) 116 (tabL (tabTo 0)).toArray := by
  rw [zero_tab, tabTo_zero]
  exact ⟨(Blk.new w _ _).alloc _, by have h := Blk.new (w.alloc (.cells (tabL (List.replicate 256 0)).toArray 116)) 116 (tabL (List.replicate 256 0)).toArray; rw [World.size_alloc] at h; exact h⟩
theorem tab_cell (k i : Nat) (h : i < 256) : (tabL (tabTo k)).toArray[i]? = some (.int .u32 (U32 ((tabTo k).getD i 0))) := by
  rw [List.getElem?_toArray, tabL_get _ _ (by rw [tabTo_length]; exact h)]
theorem tab_all_one (T : List UInt32) : (tabL T).toArray.all (·.oneCell') = true := all_oneCell_toArray (tabL_one T)

/-- what the loop over the table keeps -/
def TabRel (w : World) (k : Nat) (wr : World) : Prop :=
  Below w.heap.size w wr ∧ Blk wr w.heap.size 116 (tabL (tabTo 0)).toArray ∧ Blk wr (w.heap.size + 1) 116 (tabL (tabTo k)).toArray
theorem TabRel.start (w : World) : TabRel w 0 ((w.alloc (.cells zeroTab 116)).alloc (.cells zeroTab 116)) :=
  ⟨((Ext.refl w).alloc _).alloc _, (tab_start w).1, (tab_start w).2⟩
theorem TabRel.step {w wr : World} {k : Nat} (h : TabRel w k wr) (hk : k < 256) : TabRel w (k + 1) (wr.setCell ⟨w.heap.size + 1, k, none⟩ (.int .u32 (U32 (halfs 8 (UInt32.ofNat k))))) := by
  obtain ⟨h1, h2, h3⟩ := h
  refine ⟨Below.setCell h1 (by simp) _, h2.far (by simp) _, ?_⟩
  have := h3.set_ k (.int .u32 (U32 (halfs 8 (UInt32.ofNat k))))
  rwa [tabL_set k hk] at this
theorem TabRel.cell {w wr : World} {k : Nat} (h : TabRel w k wr) (hk : k < 256) : wr.cell? ⟨w.heap.size + 1, k, none⟩ = some (.int .u32 (U32 ((tabTo k).getD k 0))) := by
  rw [h.2.2.cell, tab_cell k k hk]
theorem TabRel.free {w wr : World} {k : Nat} (h : TabRel w k wr) : wr.frozen? ⟨w.heap.size + 1, k, none⟩ = false := h.2.2.frozen k
theorem TabRel.done {w wr : World} (h : TabRel w 256 wr) : Blk wr (w.heap.size + 1) 116 (tabL theTab).toArray := by
  have := h.2.2; rwa [tabTo_all] at this

set_option maxRecDepth 20000 in
set_option maxHeartbeats 400000 in
theorem table_any (w : World) :
    Calls Tryz.prog 67 #[] w fun e w' => e = .returned (.agg (tabL theTab).toArray) ∧ Ext w w' := by
  go_enter Tryz.func67, Tryz.ntmps67
  go_wp2
  go_loopw [5] (fun i wr => ∃ k : Nat, (k : Int) ≤ 256 ∧ i = .int .i64 k ∧ TabRel w k wr) (fun i _ => 256 - (intOf i).toNat)
  case atStart => exact ⟨0, by omega, rfl, TabRel.start w⟩
  case round =>
    obtain ⟨k, hk, rfl, hT⟩ := hrel
    by_cases hlt : (k : Int) < 256
    · obtain ⟨x, hx⟩ : ∃ x, x = UInt32.ofNat k := ⟨_, rfl⟩
      have hu := u32_of_nat k (by omega)
      have hs := Lib.hid (hT.step (by omega))
      rw [← hx] at hu hs
      clear hx
      obtain ⟨y, hc⟩ : ∃ y, wr.cell? ⟨w.heap.size + 1, k, none⟩ = some y := ⟨_, hT.cell (by omega)⟩
      have hf := hT.free
      go_wp2
      go_loop [4, 10] (fun c j => ∃ m : Nat, m ≤ 8 ∧ j = .int .i64 m ∧ c = .int .u32 (U32 (halfs m x))) (fun _ j => 8 - (intOf j).toNat)
      case atStart => exact ⟨0, Nat.zero_le _, rfl, rfl⟩
      case round =>
        obtain ⟨m, hm, rfl, rfl⟩ := hrel
        by_cases hml : m < 8
        · go_wp2_with (go_at_call 100; refine (half_any _ _).mono ?_; rintro e w' ⟨rfl, rfl⟩)
          go_round
          case rel => exact ⟨m + 1, by omega, by go_num, rfl⟩
          case measure => simp [intOf]; omega
        · obtain rfl : m = 8 := by omega
          go_wp2
          go_roundw
          case rel => exact ⟨k + 1, by omega, by go_num, hs.out⟩
          case measure => simp [intOf]; omega
    · obtain rfl : k = 256 := by omega
      have hd := hT.done
      go_wp2_with (first
        | (refine wpList_load_blk rfl 116 (.tmp 2) rfl rfl hd Tryz.underlying116 rfl (tab_size theTab_length) ?_)
        | (refine wpList_store_blk rfl 116 (.tmp 0) (.tmp 20) rfl rfl rfl hT.2.1 (by simp [tabL_length, tabTo_length, theTab_length]) (tab_size theTab_length) (tab_all_one _) ?_))
      exact bodyPost_ret (results_cell_row rfl _ _ w.heap.size _ _ (0, 0) _ rfl (hT.2.1.setRow _) Tryz.underlying116 rfl (tab_size theTab_length)) rfl ⟨rfl, Ext.setRow hT.1 (Nat.le_refl _) _⟩

/-- the same, by the document -/
def RefRel (w : World) (k : Nat) (wr : World) : Prop := TabRel w k wr
end Go.Proofs.YtmjkfgpkohfmiaaGreat
namespace Go.Proofs.YtmjkfgpkohfmiaaGreat
set_option linter.unusedVariables false
set_option linter.unusedSimpArgs false
open Go.RowKit

/-- the sum of bytes -/
def sumN (l : List UInt8) : Nat := (~~~ restL theTab (~~~ 0) l).toNat
theorem sumN_lt (l : List UInt8) : sumN l < 4294967296 := (~~~ restL theTab (~~~ 0) l).toNat_lt
def headB (kind : Int) (body : List UInt8) : List UInt8 := UInt8.ofNat kind.toNat :: fix4 body.length ++ body
def frameB (kind : Int) (body : List UInt8) : List UInt8 := headB kind body ++ fix4 (sumN (headB kind body))
theorem headB_length (kind : Int) (body : List UInt8) : (headB kind body).length = body.length + 5 := by
  unfold headB; simp [fix4_length]; omega
theorem frameB_length (kind : Int) (body : List UInt8) : (frameB kind body).length = body.length + 9 := by
  unfold frameB; rw [List.length_append, headB_length, fix4_length]
def putFE (kind : Int) (n : Nat) : Int := if 1 ≤ kind ∧ kind ≤ 4 then (if (n : Int) ≤ 60000 then 0 else 3) else 160
def putB (kind : Int) (body : List UInt8) : List UInt8 := if putFE kind body.length = 0 then frameB kind body else []

/-! ### four bytes -/
theorem un4_eq (l : List UInt8) (a : Nat) : un4 l a = byteAt l a + 256 * byteAt l (a + 1) + 65536 * byteAt l (a + 2) + 16777216 * byteAt l (a + 3) := by
  unfold un4
  simp only [unTo]
  show (((0 * 256 + byteAt l (a + 3)) * 256 + byteAt l (a + 2)) * 256 + byteAt l (a + 1)) * 256 + byteAt l a = _
  omega
theorem fix4_eq (n : Nat) : fix4 n = [UInt8.ofNat n, UInt8.ofNat (n / 256), UInt8.ofNat (n / 65536), UInt8.ofNat (n / 16777216)] := by
  show [UInt8.ofNat (n / 256 ^ 0), UInt8.ofNat (n / 256 ^ 1), UInt8.ofNat (n / 256 ^ 2), UInt8.ofNat (n / 256 ^ 3)] = _
  simp
theorem four_at {l : List UInt8} {e : Nat} (h : e + 4 ≤ l.length) : (l.take (e + 4)).drop e = [l.getD e 0, l.getD (e + 1) 0, l.getD (e + 2) 0, l.getD (e + 3) 0] := by
  apply List.ext_getElem?
  intro i
  rw [List.getElem?_drop, List.getElem?_take]
  by_cases hi : i < 4
  · rw [if_pos (by omega), List.getElem?_eq_getElem (by omega)]
    obtain rfl | rfl | rfl | rfl : i = 0 ∨ i = 1 ∨ i = 2 ∨ i = 3 := by omega
    all_goals simp [List.getD_eq_getElem?_getD, List.getElem?_eq_getElem (show e < l.length by omega), List.getElem?_eq_getElem (show e + 1 < l.length by omega), List.getElem?_eq_getElem (show e + 2 < l.length by omega), List.getElem?_eq_getElem (show e + 3 < l.length by omega)]
  · rw [if_neg (by omega), List.getElem?_eq_none (by simp; omega)]
theorem u8_eq {a : UInt8} {n : Nat} : UInt8.ofNat n = a ↔ n % 256 = a.toNat := by
  rw [← UInt8.toNat_inj, UInt8.toNat_ofNat']
theorem fix4_iff {l : List UInt8} {e n : Nat} (h : e + 4 ≤ l.length) (hn : n < 4294967296) : fix4 n = (l.take (e + 4)).drop e ↔ n = un4 l e := by
  have hb0 := byteAt_lt l e
  have hb1 := byteAt_lt l (e + 1)
  have hb2 := byteAt_lt l (e + 2)
  have hb3 := byteAt_lt l (e + 3)
  rw [four_at h, fix4_eq, un4_eq]
  simp only [List.cons.injEq, and_true, u8_eq]
  unfold byteAt at *
  omega

/-! ### a frame is taken -/
structure F4 where
  kind : Int
  body : List UInt8
  at_ : Int
  to : Int
instance : Inhabited F4 := ⟨⟨0, [], 0, 0⟩⟩
deriving instance DecidableEq for F4
def f4C (f : F4) : List Value := [.int .i64 f.kind, .string (S f.body), .int .i64 f.at_, .int .i64 f.to]
def bodyN (l : List UInt8) (a : Int) : Nat := un4 l (a.toNat + 1)
def endN (l : List UInt8) (a : Int) : Nat := a.toNat + 5 + bodyN l a
def sumOk (l : List UInt8) (a : Int) : Bool := decide (sumN ((l.take (endN l a)).drop a.toNat) = un4 l (endN l a))
def getE (l : List UInt8) (a : Int) : Int :=
  if a < 0 ∨ (l.length : Int) < a then 2
  else if (l.length : Int) - a < 5 then 4
  else if ¬ (1 ≤ byteAt l a.toNat ∧ byteAt l a.toNat ≤ 4) then 160
  else if 60000 < bodyN l a then 3
  else if (l.length : Int) - a - 9 < bodyN l a then 4
  else if sumOk l a then 0 else 7
def getF (l : List UInt8) (a : Int) : F4 :=
  if getE l a = 0 then ⟨(byteAt l a.toNat : Int), (l.take (endN l a)).drop (a.toNat + 5), a, (endN l a : Int) + 4⟩ else ⟨0, [], 0, 0⟩
theorem get_firsts (l : List UInt8) (a : Int) :
    (getE l a = 2 ∧ a < 0)
    ∨ (getE l a = 2 ∧ 0 ≤ a ∧ (l.length : Int) < a)
    ∨ (getE l a = 4 ∧ 0 ≤ a ∧ a ≤ (l.length : Int) ∧ (l.length : Int) - a < 5)
    ∨ (getE l a = 160 ∧ 0 ≤ a ∧ a ≤ (l.length : Int) ∧ 5 ≤ (l.length : Int) - a ∧ byteAt l a.toNat < 1)
    ∨ (getE l a = 160 ∧ 0 ≤ a ∧ a ≤ (l.length : Int) ∧ 5 ≤ (l.length : Int) - a ∧ 4 < byteAt l a.toNat)
    ∨ (getE l a = 3 ∧ 0 ≤ a ∧ a ≤ (l.length : Int) ∧ 5 ≤ (l.length : Int) - a ∧ (1 ≤ byteAt l a.toNat ∧ byteAt l a.toNat ≤ 4) ∧ 60000 < bodyN l a)
    ∨ (getE l a = 4 ∧ 0 ≤ a ∧ a ≤ (l.length : Int) ∧ 5 ≤ (l.length : Int) - a ∧ (1 ≤ byteAt l a.toNat ∧ byteAt l a.toNat ≤ 4) ∧ bodyN l a ≤ 60000 ∧ (l.length : Int) - a - 9 < bodyN l a)
    ∨ (getE l a = 7 ∧ 0 ≤ a ∧ a ≤ (l.length : Int) ∧ 5 ≤ (l.length : Int) - a ∧ (1 ≤ byteAt l a.toNat ∧ byteAt l a.toNat ≤ 4) ∧ bodyN l a ≤ 60000 ∧ (bodyN l a : Int) ≤ (l.length : Int) - a - 9 ∧ sumOk l a = false)
    ∨ (getE l a = 0 ∧ 0 ≤ a ∧ a ≤ (l.length : Int) ∧ 5 ≤ (l.length : Int) - a ∧ (1 ≤ byteAt l a.toNat ∧ byteAt l a.toNat ≤ 4) ∧ bodyN l a ≤ 60000 ∧ (bodyN l a : Int) ≤ (l.length : Int) - a - 9 ∧ sumOk l a = true) := by
  unfold getE
  by_cases h1 : a < 0
  · exact .inl ⟨if_pos (.inl h1), h1⟩
  by_cases h2 : (l.length : Int) < a
  · exact .inr (.inl ⟨if_pos (.inr h2), by omega, h2⟩)
  rw [if_neg (by omega)]
  by_cases h3 : (l.length : Int) - a < 5
  · exact .inr (.inr (.inl ⟨if_pos h3, by omega, by omega, h3⟩))
  rw [if_neg h3]
  by_cases h4 : byteAt l a.toNat < 1
  · exact .inr (.inr (.inr (.inl ⟨if_pos (by omega), by omega, by omega, by omega, h4⟩)))
  by_cases h5 : 4 < byteAt l a.toNat
  · exact .inr (.inr (.inr (.inr (.inl ⟨if_pos (by omega), by omega, by omega, by omega, h5⟩))))
  rw [if_neg (by omega)]
  by_cases h6 : 60000 < bodyN l a
  · exact .inr (.inr (.inr (.inr (.inr (.inl ⟨if_pos h6, by omega, by omega, by omega, by omega, h6⟩)))))
  rw [if_neg h6]
  by_cases h7 : (l.length : Int) - a - 9 < bodyN l a
  · exact .inr (.inr (.inr (.inr (.inr (.inr (.inl ⟨if_pos h7, by omega, by omega, by omega, by omega, by omega, h7⟩))))))
  rw [if_neg h7]
  cases h8 : sumOk l a with
  | false => exact .inr (.inr (.inr (.inr (.inr (.inr (.inr (.inl ⟨rfl, by omega, by omega, by omega, by omega, by omega, by omega, rfl⟩)))))))
  | true => exact .inr (.inr (.inr (.inr (.inr (.inr (.inr (.inr ⟨rfl, by omega, by omega, by omega, by omega, by omega, by omega, rfl⟩)))))))
end Go.Proofs.YtmjkfgpkohfmiaaGreat
namespace Go.Proofs.YtmjkfgpkohfmiaaGreat
set_option linter.unusedVariables false
set_option linter.unusedSimpArgs false
open Go.RowKit

attribute [local go_sem] S_size S_toList S_append S_extract S_beq S_bne S_empty S_nil

theorem bytesOf_S (l : List UInt8) : bytesOf (S l) = l := by unfold bytesOf; exact S_bytes l
theorem of_S (l : List UInt8) (w : World) (hl : (l.length : Int) ≤ 1000000000) :
    Calls Tryz.prog 66 #[.agg (tabL theTab).toArray, .string (S l)] w fun e w' => e = .returned (.int .u32 (sumN l : Nat)) ∧ Ext w w' := by
  have := of_any theTab (S l) w theTab_length (by rw [S_size]; unfold maxLen; omega)
  rw [bytesOf_S] at this
  exact this
theorem known_yes (k : Int) (w : World) (h : 1 ≤ k ∧ k ≤ 4) : Calls Tryz.prog 64 #[.int .i64 k] w fun e w' => e = .returned (.bool true) ∧ w = w' := by
  obtain ⟨h1, h2⟩ := h
  go_enter Tryz.func64, Tryz.ntmps64
  go_wp2
  go_ret
  exact ⟨rfl, rfl⟩
theorem known_no (k : Int) (w : World) (h : ¬ (1 ≤ k ∧ k ≤ 4)) : Calls Tryz.prog 64 #[.int .i64 k] w fun e w' => e = .returned (.bool false) ∧ w = w' := by
  by_cases h1 : 1 ≤ k
  · have h2 : ¬ k ≤ 4 := fun h2 => h ⟨h1, h2⟩
    clear h
    go_enter Tryz.func64, Tryz.ntmps64
    go_wp2
    go_ret
    exact ⟨rfl, rfl⟩
  · clear h
    go_enter Tryz.func64, Tryz.ntmps64
    go_wp2
    go_ret
    exact ⟨rfl, rfl⟩
theorem put_cases (k : Int) (n : Nat) : (putFE k n = 160 ∧ ¬ (1 ≤ k ∧ k ≤ 4)) ∨ (putFE k n = 3 ∧ (1 ≤ k ∧ k ≤ 4) ∧ (60000 : Int) < (n : Int)) ∨ (putFE k n = 0 ∧ (1 ≤ k ∧ k ≤ 4) ∧ ¬ (60000 : Int) < (n : Int)) := by
  unfold putFE
  by_cases h1 : 1 ≤ k ∧ k ≤ 4
  · by_cases h2 : (n : Int) ≤ 60000
    · exact .inr (.inr ⟨by rw [if_pos h1, if_pos h2], h1, by omega⟩)
    · exact .inr (.inl ⟨by rw [if_pos h1, if_neg h2], h1, by omega⟩)
  · exact .inl ⟨if_neg h1, h1⟩
theorem u8_kind {k : Int} (h : 1 ≤ k ∧ k ≤ 4) : IntKind.u8.wrap k = U8 (UInt8.ofNat k.toNat) := by
  have := u8_wrap_nat k.toNat
  rw [show ((k.toNat : Nat) : Int) = k by omega] at this
  exact this
set_option maxRecDepth 20000 in
set_option maxHeartbeats 4000000 in
theorem fPut_any (k : Int) (b : List UInt8) (w : World) (hb : (b.length : Int) ≤ 9223372036854775807) :
    Calls Tryz.prog 26 #[.int .i64 k, .string (S b)] w fun e w' => e = .returned (.tuple #[.string (S (putB k b)), .int .i64 (putFE k b.length)]) ∧ Ext w w' := by
  unfold putB
  rcases put_cases k b.length with ⟨he, h1⟩ | ⟨he, h1, h2⟩ | ⟨he, h1, h2⟩
  · rw [he]
    simp only [Int.reduceEq, if_false]
    have q := Lib.hid (fun w => known_no k w h1)
    clear h1 he
    go_enter Tryz.func26, Tryz.ntmps26
    go_wp2_with fail
    refine (q.out _).mono ?_
    rintro _ _ ⟨rfl, rfl⟩
    go_wp2
    go_ret2
    exact ⟨rfl, Ext.refl _⟩
  · rw [he]
    simp only [Int.reduceEq, if_false]
    have q := Lib.hid (fun w => known_yes k w h1)
    clear h1 he
    go_enter Tryz.func26, Tryz.ntmps26
    go_wp2_with fail
    refine (q.out _).mono ?_
    rintro _ _ ⟨rfl, rfl⟩
    go_wp2
    go_ret2
    exact ⟨rfl, Ext.refl _⟩
  · rw [he]
    simp only [if_true]
    have q := Lib.hid (fun w => known_yes k w h1)
    have hk := u8_kind h1
    have q1 := Lib.hid (fun w => vFix_any b.length w (by omega))
    have c1 := run_cat (P := Tryz.prog) [UInt8.ofNat k.toNat] (fix4 b.length) (by rw [fix4_length]; simp)
    have c1 : ∀ w, (Op.stringOp .add (S [UInt8.ofNat k.toNat]) (S (fix4 b.length))).run Tryz.prog w = .ok (.string (S (UInt8.ofNat k.toNat :: fix4 b.length))) w := c1
    have c2 := run_cat (P := Tryz.prog) (UInt8.ofNat k.toNat :: fix4 b.length) b (by rw [List.length_cons, fix4_length]; omega)
    have hh : (UInt8.ofNat k.toNat :: fix4 b.length) ++ b = headB k b := rfl
    rw [hh] at c2
    have hhl := headB_length k b
    have q2 := Lib.hid (fun w => of_S (headB k b) w (by rw [hhl]; omega))
    have q3 := Lib.hid (fun w => vFix_any (sumN (headB k b)) w (sumN_lt _))
    have c3 := run_cat (P := Tryz.prog) (headB k b) (fix4 (sumN (headB k b))) (by rw [hhl, fix4_length]; omega)
    rw [show headB k b ++ fix4 (sumN (headB k b)) = frameB k b from rfl] at c3
    have hsl := sumN_lt (headB k b)
    have ew : IntKind.i64.wrap ((sumN (headB k b) : Nat) : Int) = ((sumN (headB k b) : Nat) : Int) := by rw [IntKind.wrap_i64]; omega
    have QT := Lib.hid table_any
    have C1 := Lib.hid c1
    have C2 := Lib.hid c2
    have C3 := Lib.hid c3
    clear h1 he hh hhl hsl c1 c2 c3
    generalize frameB k b = fb at *
    generalize headB k b = hd at *
    generalize sumN hd = sm at *
    generalize fix4 sm = f1 at *
    generalize hf2 : fix4 b.length = f2 at *
    generalize UInt8.ofNat k.toNat = kb at *
    clear hf2
    go_enter Tryz.func26, Tryz.ntmps26
    go_wp2_with fail
    refine (q.out _).mono ?_
    rintro _ _ ⟨rfl, rfl⟩
    go_wp2_with fail
    refine (q1.out _).mono ?_
    rintro _ w1 ⟨rfl, x1⟩
    have hcv := conv1 w1 kb
    have d1 := C1.out
    have d2 := C2.out
    go_wp2_with fail
    refine (QT.out _).mono ?_
    rintro _ w2 ⟨rfl, x2⟩
    clear d1 d2 hcv
    have X2 := Lib.hid ((x1.alloc (.cells #[.int .u8 (U8 kb)] 5)).trans x2)
    clear x1 x2
    go_wp2_with fail
    refine (q2.out _).mono ?_
    rintro _ w3 ⟨rfl, x3⟩
    have X3 := Lib.hid (X2.out.trans x3)
    clear x3 X2
    go_wp2_with fail
    refine (q3.out _).mono ?_
    rintro _ w4 ⟨rfl, x4⟩
    have X4 := Lib.hid (X3.out.trans x4)
    clear x4 X3
    have d3 := C3.out
    go_wp2
    go_ret2
    exact ⟨rfl, X4.out⟩
end Go.Proofs.YtmjkfgpkohfmiaaGreat
namespace Go.Proofs.YtmjkfgpkohfmiaaGreat
set_option linter.unusedVariables false
set_option linter.unusedSimpArgs false
open Go.RowKit

attribute [local go_sem] S_size S_toList S_append S_extract S_beq S_bne S_empty S_nil

theorem frame_size : (Tryz.prog.info? 89).map (·.size) = some 4 := by kernel_rfl
theorem frame_build0 (w : World) : (Instr.build 89 #[]).run Tryz.prog w = .ok (.agg #[.int .i64 0, .string (S []), .int .i64 0, .int .i64 0]) w := by kernel_rfl
theorem frame_zero (w : World) : (zeroValue 89).run Tryz.prog w = .ok (.agg #[.int .i64 0, .string (S []), .int .i64 0, .int .i64 0]) w := by kernel_rfl
theorem frame_build (k a t : Int) (b : ByteArray) (w : World) : (Instr.build 89 #[(0, .int .i64 k), (1, .string b), (2, .int .i64 a), (3, .int .i64 t)]).run Tryz.prog w = .ok (.agg #[.int .i64 k, .string b, .int .i64 a, .int .i64 t]) w := by kernel_rfl
theorem f4_zero {l : List UInt8} {a : Int} (h : getE l a ≠ 0) : f4C (getF l a) = [.int .i64 0, .string (S []), .int .i64 0, .int .i64 0] := by
  unfold getF; rw [if_neg h]; rfl
theorem f4_yes {l : List UInt8} {a : Int} (h : getE l a = 0) : f4C (getF l a) = [.int .i64 (byteAt l a.toNat : Int), .string (S ((l.take (endN l a)).drop (a.toNat + 5))), .int .i64 a, .int .i64 ((endN l a : Int) + 4)] := by
  unfold getF; rw [if_pos h]; rfl
attribute [local go_sem] frame_build0 frame_zero frame_build

set_option maxRecDepth 20000 in
set_option maxHeartbeats 8000000 in
theorem fget_any (l : List UInt8) (a : Int) (g : Nat) (w : World) (hT : Blk w g 116 (tabL theTab).toArray) (hl : (l.length : Int) ≤ 1000000000) :
    Calls Tryz.prog 76 #[.pointer (some ⟨g, 0, none⟩), .string (S l), .int .i64 a] w fun e w' => e = .returned (.tuple #[.agg (f4C (getF l a)).toArray, .int .i64 (getE l a)]) ∧ Ext w w' := by
  have FS := Lib.hid frame_size
  have TS := Lib.hid (tab_size theTab_length)
  have HB := Lib.hid (Blk.new w 89 #[.int .i64 0, .string (S []), .int .i64 0, .int .i64 0])
  have X0 := Lib.hid ((Ext.refl w).alloc (.cells #[.int .i64 0, .string (S []), .int .i64 0, .int .i64 0] 89))
  have HT := Lib.hid (hT.alloc (.cells #[.int .i64 0, .string (S []), .int .i64 0, .int .i64 0] 89))
  have QO := Lib.hid (fun x w h => of_S x w h)
  clear hT
  generalize (tabL theTab).toArray = tb at *
  have hcases := get_firsts l a
  rcases hcases with ⟨he, h1⟩ | ⟨he, h1, h2⟩ | ⟨he, h1, h2, h3⟩ | ⟨he, h1, h2, h3, h4⟩ | ⟨he, h1, h2, h3, h4⟩ | ⟨he, h1, h2, h3, h4, h5⟩ | ⟨he, h1, h2, h3, h4, h5, h6⟩ | ⟨he, h1, h2, h3, h4, h5, h6, h7⟩ | ⟨he, h1, h2, h3, h4, h5, h6, h7⟩
  · rw [f4_zero (by rw [he]; decide), he]
    clear he hl
    go_enter Tryz.func76, Tryz.ntmps76
    go_wp2
    exact bodyPost_ret (results_row_tmp rfl _ _ w.heap.size _ _ (0, 0) _ rfl HB.out Tryz.underlying89 rfl FS.out) rfl ⟨rfl, X0.out⟩
  · rw [f4_zero (by rw [he]; decide), he]
    have n1 : ¬ a < 0 := by omega
    clear he hl h1
    go_enter Tryz.func76, Tryz.ntmps76
    go_wp2
    exact bodyPost_ret (results_row_tmp rfl _ _ w.heap.size _ _ (0, 0) _ rfl HB.out Tryz.underlying89 rfl FS.out) rfl ⟨rfl, X0.out⟩
  · rw [f4_zero (by rw [he]; decide), he]
    obtain ⟨n, rfl⟩ : ∃ n : Nat, a = (n : Int) := ⟨a.toNat, by omega⟩
    have n1 : ¬ (n : Int) < 0 := by omega
    have n2 : ¬ (l.length : Int) < (n : Int) := by omega
    have e1 : IntKind.i64.wrap ((l.length : Int) - (n : Int)) = (l.length : Int) - (n : Int) := by rw [IntKind.wrap_i64]; omega
    clear he hl h1 h2
    go_enter Tryz.func76, Tryz.ntmps76
    go_wp2
    exact bodyPost_ret (results_row_tmp rfl _ _ w.heap.size _ _ (0, 0) _ rfl HB.out Tryz.underlying89 rfl FS.out) rfl ⟨rfl, X0.out⟩
  · rw [f4_zero (by rw [he]; decide), he]
    obtain ⟨n, rfl⟩ : ∃ n : Nat, a = (n : Int) := ⟨a.toNat, by omega⟩
    have n1 : ¬ (n : Int) < 0 := by omega
    have n2 : ¬ (l.length : Int) < (n : Int) := by omega
    have e1 : IntKind.i64.wrap ((l.length : Int) - (n : Int)) = (l.length : Int) - (n : Int) := by rw [IntKind.wrap_i64]; omega
    have n3 : ¬ (l.length : Int) - (n : Int) < 5 := by omega
    have hn : n < l.length := by omega
    have hb := byte_get l n (by rw [S_size]; exact hn)
    have hbl := byteAt_lt l n
    have e3 : IntKind.i64.wrap ((byteAt l n : Nat) : Int) = ((byteAt l n : Nat) : Int) := by rw [IntKind.wrap_i64]; omega
    have e2 : IntKind.i64.wrap ((n : Int) + 1) = ((n + 1 : Nat) : Int) := by rw [IntKind.wrap_i64]; omega
    have qu := fun w => vUnfix_any l (n + 1) w (by omega) hl
    have hk5 : (((n + 1 : Nat) : Int) + 4) = (n : Int) + 5 := by omega
    rw [hk5] at qu
    have QU := Lib.hid qu
    clear qu hk5
    simp only [Int.toNat_natCast] at h4
    have QK := Lib.hid (fun w => known_no ((byteAt l n : Nat) : Int) w (by omega))
    clear he hl h1 h2 h3 h4 hbl
    generalize hbb : byteAt l n = bn at *
    clear hbb
    go_enter Tryz.func76, Tryz.ntmps76
    go_wp2_with fail
    refine (QU.out _).mono ?_
    rintro _ _ ⟨rfl, rfl⟩
    go_wp2_with fail
    refine (QK.out _).mono ?_
    rintro _ _ ⟨rfl, rfl⟩
    go_wp2
    exact bodyPost_ret (results_row_tmp rfl _ _ w.heap.size _ _ (0, 0) _ rfl HB.out Tryz.underlying89 rfl FS.out) rfl ⟨rfl, X0.out⟩
  · rw [f4_zero (by rw [he]; decide), he]
    obtain ⟨n, rfl⟩ : ∃ n : Nat, a = (n : Int) := ⟨a.toNat, by omega⟩
    have n1 : ¬ (n : Int) < 0 := by omega
    have n2 : ¬ (l.length : Int) < (n : Int) := by omega
    have e1 : IntKind.i64.wrap ((l.length : Int) - (n : Int)) = (l.length : Int) - (n : Int) := by rw [IntKind.wrap_i64]; omega
    have n3 : ¬ (l.length : Int) - (n : Int) < 5 := by omega
    have hn : n < l.length := by omega
    have hb := byte_get l n (by rw [S_size]; exact hn)
    have hbl := byteAt_lt l n
    have e3 : IntKind.i64.wrap ((byteAt l n : Nat) : Int) = ((byteAt l n : Nat) : Int) := by rw [IntKind.wrap_i64]; omega
    have e2 : IntKind.i64.wrap ((n : Int) + 1) = ((n + 1 : Nat) : Int) := by rw [IntKind.wrap_i64]; omega
    have qu := fun w => vUnfix_any l (n + 1) w (by omega) hl
    have hk5 : (((n + 1 : Nat) : Int) + 4) = (n : Int) + 5 := by omega
    rw [hk5] at qu
    have QU := Lib.hid qu
    clear qu hk5
    simp only [Int.toNat_natCast] at h4
    have QK := Lib.hid (fun w => known_no ((byteAt l n : Nat) : Int) w (by omega))
    clear he hl h1 h2 h3 h4 hbl
    generalize hbb : byteAt l n = bn at *
    clear hbb
    go_enter Tryz.func76, Tryz.ntmps76
    go_wp2_with fail
    refine (QU.out _).mono ?_
    rintro _ _ ⟨rfl, rfl⟩
    go_wp2_with fail
    refine (QK.out _).mono ?_
    rintro _ _ ⟨rfl, rfl⟩
    go_wp2
    exact bodyPost_ret (results_row_tmp rfl _ _ w.heap.size _ _ (0, 0) _ rfl HB.out Tryz.underlying89 rfl FS.out) rfl ⟨rfl, X0.out⟩
  · rw [f4_zero (by rw [he]; decide), he]
    obtain ⟨n, rfl⟩ : ∃ n : Nat, a = (n : Int) := ⟨a.toNat, by omega⟩
    have n1 : ¬ (n : Int) < 0 := by omega
    have n2 : ¬ (l.length : Int) < (n : Int) := by omega
    have e1 : IntKind.i64.wrap ((l.length : Int) - (n : Int)) = (l.length : Int) - (n : Int) := by rw [IntKind.wrap_i64]; omega
    have n3 : ¬ (l.length : Int) - (n : Int) < 5 := by omega
    have hn : n < l.length := by omega
    have hb := byte_get l n (by rw [S_size]; exact hn)
    have hbl := byteAt_lt l n
    have e3 : IntKind.i64.wrap ((byteAt l n : Nat) : Int) = ((byteAt l n : Nat) : Int) := by rw [IntKind.wrap_i64]; omega
    have e2 : IntKind.i64.wrap ((n : Int) + 1) = ((n + 1 : Nat) : Int) := by rw [IntKind.wrap_i64]; omega
    have qu := fun w => vUnfix_any l (n + 1) w (by omega) hl
    have hk5 : (((n + 1 : Nat) : Int) + 4) = (n : Int) + 5 := by omega
    rw [hk5] at qu
    have QU := Lib.hid qu
    clear qu hk5
    have hbd : bodyN l (n : Int) = un4 l (n + 1) := by unfold bodyN; rw [Int.toNat_natCast]
    simp only [Int.toNat_natCast] at h4
    have QK := Lib.hid (fun w => known_yes ((byteAt l n : Nat) : Int) w (by omega))
    rw [hbd] at h5
    have k5 : (60000 : Int) < ((un4 l (n + 1) : Nat) : Int) := by omega
    clear he hl h1 h2 h3 h4 h5 hbl hbd
    generalize un4 l (n + 1) = k at *
    generalize hbb : byteAt l n = bn at *
    clear hbb
    go_enter Tryz.func76, Tryz.ntmps76
    go_wp2_with fail
    refine (QU.out _).mono ?_
    rintro _ _ ⟨rfl, rfl⟩
    go_wp2_with fail
    refine (QK.out _).mono ?_
    rintro _ _ ⟨rfl, rfl⟩
    go_wp2
    exact bodyPost_ret (results_row_tmp rfl _ _ w.heap.size _ _ (0, 0) _ rfl HB.out Tryz.underlying89 rfl FS.out) rfl ⟨rfl, X0.out⟩
  · rw [f4_zero (by rw [he]; decide), he]
    obtain ⟨n, rfl⟩ : ∃ n : Nat, a = (n : Int) := ⟨a.toNat, by omega⟩
    have n1 : ¬ (n : Int) < 0 := by omega
    have n2 : ¬ (l.length : Int) < (n : Int) := by omega
    have e1 : IntKind.i64.wrap ((l.length : Int) - (n : Int)) = (l.length : Int) - (n : Int) := by rw [IntKind.wrap_i64]; omega
    have n3 : ¬ (l.length : Int) - (n : Int) < 5 := by omega
    have hn : n < l.length := by omega
    have hb := byte_get l n (by rw [S_size]; exact hn)
    have hbl := byteAt_lt l n
    have e3 : IntKind.i64.wrap ((byteAt l n : Nat) : Int) = ((byteAt l n : Nat) : Int) := by rw [IntKind.wrap_i64]; omega
    have e2 : IntKind.i64.wrap ((n : Int) + 1) = ((n + 1 : Nat) : Int) := by rw [IntKind.wrap_i64]; omega
    have qu := fun w => vUnfix_any l (n + 1) w (by omega) hl
    have hk5 : (((n + 1 : Nat) : Int) + 4) = (n : Int) + 5 := by omega
    rw [hk5] at qu
    have QU := Lib.hid qu
    clear qu hk5
    have hbd : bodyN l (n : Int) = un4 l (n + 1) := by unfold bodyN; rw [Int.toNat_natCast]
    simp only [Int.toNat_natCast] at h4
    have QK := Lib.hid (fun w => known_yes ((byteAt l n : Nat) : Int) w (by omega))
    rw [hbd] at h5 h6
    have k5 : ¬ (60000 : Int) < ((un4 l (n + 1) : Nat) : Int) := by omega
    have e4 : IntKind.i64.wrap ((l.length : Int) - (n : Int) - 5) = (l.length : Int) - (n : Int) - 5 := by rw [IntKind.wrap_i64]; omega
    have e5 : IntKind.i64.wrap ((l.length : Int) - (n : Int) - 5 - 4) = (l.length : Int) - (n : Int) - 9 := by rw [IntKind.wrap_i64]; omega
    have k6 : (l.length : Int) - (n : Int) - 9 < ((un4 l (n + 1) : Nat) : Int) := by omega
    clear he hl h1 h2 h3 h4 h5 h6 hbl hbd
    generalize un4 l (n + 1) = k at *
    generalize hbb : byteAt l n = bn at *
    clear hbb
    go_enter Tryz.func76, Tryz.ntmps76
    go_wp2_with fail
    refine (QU.out _).mono ?_
    rintro _ _ ⟨rfl, rfl⟩
    go_wp2_with fail
    refine (QK.out _).mono ?_
    rintro _ _ ⟨rfl, rfl⟩
    go_wp2
    exact bodyPost_ret (results_row_tmp rfl _ _ w.heap.size _ _ (0, 0) _ rfl HB.out Tryz.underlying89 rfl FS.out) rfl ⟨rfl, X0.out⟩
  · rw [f4_zero (by rw [he]; decide), he]
    obtain ⟨n, rfl⟩ : ∃ n : Nat, a = (n : Int) := ⟨a.toNat, by omega⟩
    have n1 : ¬ (n : Int) < 0 := by omega
    have n2 : ¬ (l.length : Int) < (n : Int) := by omega
    have e1 : IntKind.i64.wrap ((l.length : Int) - (n : Int)) = (l.length : Int) - (n : Int) := by rw [IntKind.wrap_i64]; omega
    have n3 : ¬ (l.length : Int) - (n : Int) < 5 := by omega
    have hn : n < l.length := by omega
    have hb := byte_get l n (by rw [S_size]; exact hn)
    have hbl := byteAt_lt l n
    have e3 : IntKind.i64.wrap ((byteAt l n : Nat) : Int) = ((byteAt l n : Nat) : Int) := by rw [IntKind.wrap_i64]; omega
    have e2 : IntKind.i64.wrap ((n : Int) + 1) = ((n + 1 : Nat) : Int) := by rw [IntKind.wrap_i64]; omega
    have qu := fun w => vUnfix_any l (n + 1) w (by omega) hl
    have hk5 : (((n + 1 : Nat) : Int) + 4) = (n : Int) + 5 := by omega
    rw [hk5] at qu
    have QU := Lib.hid qu
    clear qu hk5
    have hbd : bodyN l (n : Int) = un4 l (n + 1) := by unfold bodyN; rw [Int.toNat_natCast]
    simp only [Int.toNat_natCast] at h4
    have QK := Lib.hid (fun w => known_yes ((byteAt l n : Nat) : Int) w (by omega))
    rw [hbd] at h5 h6
    have k5 : ¬ (60000 : Int) < ((un4 l (n + 1) : Nat) : Int) := by omega
    have e4 : IntKind.i64.wrap ((l.length : Int) - (n : Int) - 5) = (l.length : Int) - (n : Int) - 5 := by rw [IntKind.wrap_i64]; omega
    have e5 : IntKind.i64.wrap ((l.length : Int) - (n : Int) - 5 - 4) = (l.length : Int) - (n : Int) - 9 := by rw [IntKind.wrap_i64]; omega
    have k6 : ¬ (l.length : Int) - (n : Int) - 9 < ((un4 l (n + 1) : Nat) : Int) := by omega
    have hen : endN l (n : Int) = n + 5 + un4 l (n + 1) := by unfold endN; rw [hbd, Int.toNat_natCast]
    have hso : sumOk l (n : Int) = decide (sumN ((l.take (n + 5 + un4 l (n + 1))).drop n) = un4 l (n + 5 + un4 l (n + 1))) := by unfold sumOk; rw [hen, Int.toNat_natCast]
    rw [hso] at h7
    have e6 : IntKind.i64.wrap ((n : Int) + 5 + ((un4 l (n + 1) : Nat) : Int)) = ((n + 5 + un4 l (n + 1) : Nat) : Int) := by rw [IntKind.wrap_i64]; omega
    obtain ⟨en, hend⟩ : ∃ en, en = n + 5 + un4 l (n + 1) := ⟨_, rfl⟩
    rw [← hend] at e6 h7
    try rw [← hend]
    have ee1 : (n : Int) ≤ (en : Int) := by omega
    have ee2 : (en : Int) ≤ (l.length : Int) := by omega
    have ee3 : (n : Int) + 5 ≤ (en : Int) := by omega
    have e8 : IntKind.i64.wrap ((en : Int) + 4) = (en : Int) + 4 := by rw [IntKind.wrap_i64]; omega
    have ee4 : (en : Int) + 4 ≤ (l.length : Int) := by omega
    have ee5 : (en : Int) ≤ (en : Int) + 4 := by omega
    have ee6 : (0 : Int) ≤ (n : Int) + 5 := by omega
    have ee7 : ((n : Int) + 5).toNat = n + 5 := by omega
    have ee8 : (0 : Int) ≤ (en : Int) + 4 := by omega
    have ee9 : ((en : Int) + 4).toNat = en + 4 := by omega
    have hsl := sumN_lt ((l.take en).drop n)
    have e7 : IntKind.i64.wrap ((sumN ((l.take en).drop n) : Nat) : Int) = ((sumN ((l.take en).drop n) : Nat) : Int) := by rw [IntKind.wrap_i64]; omega
    have QO := Lib.hid (fun w => QO.out ((l.take en).drop n) w (by rw [List.length_drop, List.length_take]; omega))
    have QV := Lib.hid (fun w => vUnfix_any l en w (by omega) hl)
    have h7 := of_decide_eq_false h7
    have h7' : (((sumN ((l.take en).drop n) : Nat) : Int) == ((un4 l en : Nat) : Int)) = false := by simp only [beq_eq_false_iff_ne, ne_eq]; omega
    clear he hl h1 h2 h3 h4 h5 h6 h7 hbl hbd hso hen hend hsl
    generalize un4 l (n + 1) = k at *
    generalize un4 l en = sm at *
    generalize sumN ((l.take en).drop n) = x at *
    generalize hbb : byteAt l n = bn at *
    clear hbb
    go_enter Tryz.func76, Tryz.ntmps76
    go_wp2_with fail
    refine (QU.out _).mono ?_
    rintro _ _ ⟨rfl, rfl⟩
    go_wp2_with fail
    refine (QK.out _).mono ?_
    rintro _ _ ⟨rfl, rfl⟩
    go_wp2_with fail
    refine (QV.out _).mono ?_
    rintro _ _ ⟨rfl, rfl⟩
    go_wp2_with fail
    refine wp_region_up (by kernel_rfl) (by kernel_rfl) ?_
    iterate 2 (go_big_quiet_step (fail))
    refine wpQuiet_load_blk (by kernel_rfl) 116 (.tmp 70) rfl rfl HT.out Tryz.underlying116 rfl TS.out ?_
    dsimp only [Act.put]
    simp only [List.setIfInBounds_toArray, List.set_cons_succ, List.set_cons_zero]
    repeat (go_big_quiet_step (first | (go_at_call 66; (with_reducible exact up_call (QO.out _))) | fail))
    refine wpQuiet_nil ?_
    rintro _ ⟨z, rfl⟩
    have HB := Lib.hid (HB.out.ext z.ext)
    have X1 := Lib.hid (X0.out.trans z.ext)
    go_wp2_with (refine wpList_store_blk rfl 89 (.tmp 6) (.tmp 80) rfl rfl rfl HB.out rfl FS.out (by kernel_rfl) ?_)
    exact bodyPost_ret (results_row_tmp rfl _ _ w.heap.size _ _ (0, 0) _ rfl (HB.out.setRow #[.int .i64 0, .string (S []), .int .i64 0, .int .i64 0]) Tryz.underlying89 rfl FS.out) rfl ⟨rfl, X1.out.setRow (by omega) _⟩
  · obtain ⟨n, rfl⟩ : ∃ n : Nat, a = (n : Int) := ⟨a.toNat, by omega⟩
    have n1 : ¬ (n : Int) < 0 := by omega
    have n2 : ¬ (l.length : Int) < (n : Int) := by omega
    have e1 : IntKind.i64.wrap ((l.length : Int) - (n : Int)) = (l.length : Int) - (n : Int) := by rw [IntKind.wrap_i64]; omega
    have n3 : ¬ (l.length : Int) - (n : Int) < 5 := by omega
    have hn : n < l.length := by omega
    have hb := byte_get l n (by rw [S_size]; exact hn)
    have hbl := byteAt_lt l n
    have e3 : IntKind.i64.wrap ((byteAt l n : Nat) : Int) = ((byteAt l n : Nat) : Int) := by rw [IntKind.wrap_i64]; omega
    have e2 : IntKind.i64.wrap ((n : Int) + 1) = ((n + 1 : Nat) : Int) := by rw [IntKind.wrap_i64]; omega
    have qu := fun w => vUnfix_any l (n + 1) w (by omega) hl
    have hk5 : (((n + 1 : Nat) : Int) + 4) = (n : Int) + 5 := by omega
    rw [hk5] at qu
    have QU := Lib.hid qu
    clear qu hk5
    have hbd : bodyN l (n : Int) = un4 l (n + 1) := by unfold bodyN; rw [Int.toNat_natCast]
    simp only [Int.toNat_natCast] at h4
    have QK := Lib.hid (fun w => known_yes ((byteAt l n : Nat) : Int) w (by omega))
    rw [hbd] at h5 h6
    have k5 : ¬ (60000 : Int) < ((un4 l (n + 1) : Nat) : Int) := by omega
    have e4 : IntKind.i64.wrap ((l.length : Int) - (n : Int) - 5) = (l.length : Int) - (n : Int) - 5 := by rw [IntKind.wrap_i64]; omega
    have e5 : IntKind.i64.wrap ((l.length : Int) - (n : Int) - 5 - 4) = (l.length : Int) - (n : Int) - 9 := by rw [IntKind.wrap_i64]; omega
    have k6 : ¬ (l.length : Int) - (n : Int) - 9 < ((un4 l (n + 1) : Nat) : Int) := by omega
    have hen : endN l (n : Int) = n + 5 + un4 l (n + 1) := by unfold endN; rw [hbd, Int.toNat_natCast]
    have hso : sumOk l (n : Int) = decide (sumN ((l.take (n + 5 + un4 l (n + 1))).drop n) = un4 l (n + 5 + un4 l (n + 1))) := by unfold sumOk; rw [hen, Int.toNat_natCast]
    rw [f4_yes he, he, hen, Int.toNat_natCast]
    rw [hso] at h7
    have e6 : IntKind.i64.wrap ((n : Int) + 5 + ((un4 l (n + 1) : Nat) : Int)) = ((n + 5 + un4 l (n + 1) : Nat) : Int) := by rw [IntKind.wrap_i64]; omega
    obtain ⟨en, hend⟩ : ∃ en, en = n + 5 + un4 l (n + 1) := ⟨_, rfl⟩
    rw [← hend] at e6 h7
    try rw [← hend]
    have ee1 : (n : Int) ≤ (en : Int) := by omega
    have ee2 : (en : Int) ≤ (l.length : Int) := by omega
    have ee3 : (n : Int) + 5 ≤ (en : Int) := by omega
    have e8 : IntKind.i64.wrap ((en : Int) + 4) = (en : Int) + 4 := by rw [IntKind.wrap_i64]; omega
    have ee4 : (en : Int) + 4 ≤ (l.length : Int) := by omega
    have ee5 : (en : Int) ≤ (en : Int) + 4 := by omega
    have ee6 : (0 : Int) ≤ (n : Int) + 5 := by omega
    have ee7 : ((n : Int) + 5).toNat = n + 5 := by omega
    have ee8 : (0 : Int) ≤ (en : Int) + 4 := by omega
    have ee9 : ((en : Int) + 4).toNat = en + 4 := by omega
    have hsl := sumN_lt ((l.take en).drop n)
    have e7 : IntKind.i64.wrap ((sumN ((l.take en).drop n) : Nat) : Int) = ((sumN ((l.take en).drop n) : Nat) : Int) := by rw [IntKind.wrap_i64]; omega
    have QO := Lib.hid (fun w => QO.out ((l.take en).drop n) w (by rw [List.length_drop, List.length_take]; omega))
    have QV := Lib.hid (fun w => vUnfix_any l en w (by omega) hl)
    have h7 := of_decide_eq_true h7
    rw [h7] at QO e7
    clear he hl h1 h2 h3 h4 h5 h6 h7 hbl hbd hso hen hend hsl
    generalize un4 l (n + 1) = k at *
    generalize un4 l en = sm at *
    generalize hbb : byteAt l n = bn at *
    clear hbb
    go_enter Tryz.func76, Tryz.ntmps76
    go_wp2_with fail
    refine (QU.out _).mono ?_
    rintro _ _ ⟨rfl, rfl⟩
    go_wp2_with fail
    refine (QK.out _).mono ?_
    rintro _ _ ⟨rfl, rfl⟩
    go_wp2_with fail
    refine (QV.out _).mono ?_
    rintro _ _ ⟨rfl, rfl⟩
    go_wp2_with fail
    refine wp_region_up (by kernel_rfl) (by kernel_rfl) ?_
    iterate 2 (go_big_quiet_step (fail))
    refine wpQuiet_load_blk (by kernel_rfl) 116 (.tmp 70) rfl rfl HT.out Tryz.underlying116 rfl TS.out ?_
    dsimp only [Act.put]
    simp only [List.setIfInBounds_toArray, List.set_cons_succ, List.set_cons_zero]
    repeat (go_big_quiet_step (first | (go_at_call 66; (with_reducible exact up_call (QO.out _))) | fail))
    refine wpQuiet_nil ?_
    rintro _ ⟨z, rfl⟩
    have HB := Lib.hid (HB.out.ext (z.ext.trans (Ext.refl _).drew))
    have X1 := Lib.hid (X0.out.trans (z.ext.trans (Ext.refl _).drew))
    go_wp2_with fail
    refine wp_region_lex _ rfl (by kernel_rfl) ?_
    dsimp only [List.length_cons, List.length_nil]
    iterate 11
      (refine lex_want (by kernel_rfl) (by kernel_rfl) (by kernel_rfl) (by kernel_rfl) (fun _ _ _ _ h => h) (by kernel_rfl) (fun K hK => ?_)
       go_simp
       (refine hK _ ?_; clear hK K))
    refine lex_tail (by kernel_rfl) (by kernel_rfl) (by kernel_rfl) (by kernel_rfl) (fun x K hK => ?_)
    refine wp_store_blk 89 (.tmp 6) (.tmp 91) rfl rfl rfl (HB.out.ext x.ext) rfl FS.out (by kernel_rfl) (hK _ _ ?_)
    clear hK K
    (refine lex_want (by kernel_rfl) (by kernel_rfl) (by kernel_rfl) (by kernel_rfl) (fun _ _ _ _ h => h) (by kernel_rfl) (fun K hK => ?_)
     go_simp
     (refine hK _ ?_; clear hK K))
    refine lex_done (by kernel_rfl) (fun y => ?_)
    go_wp2
    exact bodyPost_ret (results_row_tmp rfl _ _ w.heap.size _ _ (0, 0) _ rfl (((HB.out.ext x.ext).setRow #[.int .i64 (bn : Int), .string (S ((l.take en).drop (n + 5))), .int .i64 (n : Int), .int .i64 ((en : Int) + 4)]).ext y.ext) Tryz.underlying89 rfl FS.out) rfl ⟨rfl, (((X1.out.trans x.ext).setRow (by omega) _).trans y.ext)⟩
end Go.Proofs.YtmjkfgpkohfmiaaGreat
namespace Go.Proofs.YtmjkfgpkohfmiaaGreat
set_option linter.unusedVariables false
set_option linter.unusedSimpArgs false
open Go.RowKit

attribute [local go_sem] S_size S_toList S_append S_extract S_beq S_bne S_empty S_nil

attribute [local go_sem] frame_build0 frame_zero frame_build

end Go.Proofs.YtmjkfgpkohfmiaaGreat
namespace Go.Proofs.YtmjkfgpkohfmiaaGreat
set_option linter.unusedVariables false
set_option linter.unusedSimpArgs false
open Go.RowKit

attribute [local go_sem] S_size S_toList S_append S_extract S_beq S_bne S_empty S_nil

/-! ### scans -/
theorem get_zero {l : List UInt8} {a : Int} (h : getE l a = 0) : 0 ≤ a ∧ a ≤ (l.length : Int) ∧ (getF l a).to = (endN l a : Int) + 4 ∧ a + 9 ≤ (getF l a).to ∧ (getF l a).to ≤ (l.length : Int) ∧ (getF l a).at_ = a := by
  have hto : (getF l a).to = (endN l a : Int) + 4 := by unfold getF; rw [if_pos h]
  have hat : (getF l a).at_ = a := by unfold getF; rw [if_pos h]
  rw [hto]
  rcases get_firsts l a with ⟨he, _⟩ | ⟨he, _⟩ | ⟨he, _⟩ | ⟨he, _⟩ | ⟨he, _⟩ | ⟨he, _⟩ | ⟨he, _⟩ | ⟨he, _⟩ | ⟨he, h1, h2, h3, h4, h5, h6, h7⟩
  case inr.inr.inr.inr.inr.inr.inr.inr =>
    refine ⟨h1, h2, rfl, ?_, ?_, hat⟩
    · unfold endN; omega
    · unfold endN; omega
  all_goals (rw [h] at he; exact absurd he (by decide))
def scanN : Nat → List UInt8 → Int → List F4 × Int
  | 0, _, a => ([], a)
  | n + 1, l, a => if getE l a = 0 then (getF l a :: (scanN n l (getF l a).to).1, (scanN n l (getF l a).to).2) else ([], a)
def scan (l : List UInt8) (a : Int) : List F4 × Int := scanN (l.length + 1 - a.toNat) l a
theorem scanN_eq (l : List UInt8) : ∀ (m k : Nat) (a : Int), l.length + 1 - a.toNat ≤ m → l.length + 1 - a.toNat ≤ k → scanN m l a = scanN k l a := by
  intro m
  induction m with
  | zero =>
    intro k a h1 h2
    cases k with
    | zero => rfl
    | succ k =>
      unfold scanN
      have : ¬ getE l a = 0 := fun h => by have := get_zero h; omega
      rw [if_neg this]
  | succ m ih =>
    intro k a h1 h2
    by_cases h : getE l a = 0
    · have hz := get_zero h
      cases k with
      | zero => omega
      | succ k =>
        unfold scanN
        rw [if_pos h, if_pos h, ih k _ (by omega) (by omega)]
    · cases k with
      | zero => unfold scanN; rw [if_neg h]
      | succ k => unfold scanN; rw [if_neg h, if_neg h]
theorem scan_step {l : List UInt8} {a : Int} (h : getE l a = 0) : scan l a = (getF l a :: (scan l (getF l a).to).1, (scan l (getF l a).to).2) := by
  have hz := get_zero h
  have h1 : scan l a = scanN (l.length + 1) l a := scanN_eq l _ _ _ (Nat.le_refl _) (by omega)
  have h2 : scan l (getF l a).to = scanN l.length l (getF l a).to := scanN_eq l _ _ _ (Nat.le_refl _) (by omega)
  rw [h1, h2]
  show (if getE l a = 0 then _ else _) = _
  rw [if_pos h]
theorem scan_stop {l : List UInt8} {a : Int} (h : ¬ getE l a = 0) : scan l a = ([], a) := by
  unfold scan
  cases l.length + 1 - a.toNat with
  | zero => rfl
  | succ n => unfold scanN; rw [if_neg h]

theorem f4C_length (f : F4) : (f4C f).length = 4 := rfl
theorem f4C_one (f : F4) : ∀ u ∈ f4C f, u.oneCell' = true := by
  intro u hu
  simp only [f4C, List.mem_cons, List.not_mem_nil, or_false] at hu
  rcases hu with rfl | rfl | rfl | rfl <;> rfl
theorem f4C_all (f : F4) : (f4C f).toArray.all (·.oneCell') = true := all_oneCell_toArray (f4C_one f)
attribute [local go_sem] frame_zero zeroTab_run zeroTab_ne

set_option maxRecDepth 20000 in
set_option maxHeartbeats 4000000 in
theorem fGet_any (l : List UInt8) (a : Int) (w : World) (hl : (l.length : Int) ≤ 1000000000) :
    Calls Tryz.prog 45 #[.string (S l), .int .i64 a] w fun e w' => e = .returned (.tuple #[.agg (f4C (getF l a)).toArray, .int .i64 (getE l a)]) ∧ Ext w w' := by
  have QT := Lib.hid table_any
  have Q := Lib.hid (fun g w h => fget_any l a g w h hl)
  have FS := Lib.hid (show (Tryz.prog.info? 89).map (·.size) = some (f4C (getF l a)).toArray.size from frame_size)
  have FZ := Lib.hid (show (#[.int .i64 0, .string (S []), .int .i64 0, .int .i64 0] : Array Value).size = (f4C (getF l a)).toArray.size from rfl)
  have FO := Lib.hid (f4C_all (getF l a))
  have TS := Lib.hid (tab_size theTab_length)
  have TZ := Lib.hid (show zeroTab.size = (tabL theTab).toArray.size by rw [zero_tab]; simp [tabL_length, theTab_length])
  have TO := Lib.hid (tab_all_one theTab)
  have HB := Lib.hid (Blk.new w 89 #[.int .i64 0, .string (S []), .int .i64 0, .int .i64 0])
  generalize (tabL theTab).toArray = tb at *
  generalize f4C (getF l a) = fc at *
  generalize getE l a = ev at *
  go_enter Tryz.func45, Tryz.ntmps45
  go_wp2_with fail
  refine (QT.out _).mono ?_
  rintro _ w1 ⟨rfl, x1⟩
  have X1 := Lib.hid (((Ext.refl w).alloc (.cells #[.int .i64 0, .string (S []), .int .i64 0, .int .i64 0] 89)).trans (x1.alloc (.cells tb 116)))
  have HB := Lib.hid ((HB.out.ext x1).alloc (.cells tb 116))
  have BT := Lib.hid (Blk.new w1 116 tb)
  clear x1
  go_wp2_with (refine wpList_store_new (cs' := tb) rfl 116 (.tmp 6) (.tmp 7) rfl rfl rfl TZ.out TS.out TO.out ?_)
  refine (Q.out _ _ BT.out).mono ?_
  rintro _ w2 ⟨rfl, x2⟩
  have X2 := Lib.hid (X1.out.trans x2)
  have HB := Lib.hid (HB.out.ext x2)
  clear x2
  go_wp2_with (refine wpList_store_blk rfl 89 (.tmp 4) (.tmp 11) rfl rfl rfl HB.out FZ.out FS.out FO.out ?_)
  exact bodyPost_ret (results_row_tmp rfl _ _ w.heap.size _ _ (0, 0) _ rfl (HB.out.setRow fc.toArray) Tryz.underlying89 rfl FS.out) rfl ⟨rfl, X2.out.setRow (Nat.le_refl _) _⟩
end Go.Proofs.YtmjkfgpkohfmiaaGreat
namespace Go.Proofs.YtmjkfgpkohfmiaaGreat
set_option linter.unusedVariables false
set_option linter.unusedSimpArgs false

theorem f4_eq_iff (a b : F4) : (a = b) ↔ a.kind = b.kind ∧ a.body = b.body ∧ a.at_ = b.at_ ∧ a.to = b.to := by
  cases a; cases b; simp
theorem mid_of (p q r : List UInt8) : ((p ++ (q ++ r)).take (p.length + q.length)).drop p.length = q := by
  rw [← List.append_assoc, show p.length + q.length = (p ++ q).length by simp, List.take_left, List.drop_left]
theorem mid_of' {l : List UInt8} (p q r : List UInt8) (h : l = p ++ (q ++ r)) {i j : Nat} (hi : i = p.length) (hj : j = p.length + q.length) : (l.take j).drop i = q := by
  subst h hi hj; exact mid_of p q r
theorem fix4_len (n : Nat) : (fix4 n).length = 4 := by rw [fix4_eq]; rfl
theorem get_ok (l : List UInt8) (a : Int) : getE l a = 0 ↔ (0 ≤ a ∧ a + 9 + (bodyN l a : Int) ≤ (l.length : Int) ∧ 1 ≤ byteAt l a.toNat ∧ byteAt l a.toNat ≤ 4 ∧ bodyN l a ≤ 60000 ∧ sumOk l a = true) := by
  unfold getE
  by_cases h1 : a < 0 ∨ (l.length : Int) < a
  · rw [if_pos h1]
    refine ⟨fun h => absurd h (by decide), fun h => ?_⟩
    omega
  rw [if_neg h1]
  by_cases h2 : (l.length : Int) - a < 5
  · rw [if_pos h2]
    refine ⟨fun h => absurd h (by decide), fun h => ?_⟩
    omega
  rw [if_neg h2]
  by_cases h3 : 1 ≤ byteAt l a.toNat ∧ byteAt l a.toNat ≤ 4
  case neg =>
    rw [if_pos h3]
    refine ⟨fun h => absurd h (by decide), fun h => absurd ⟨h.2.2.1, h.2.2.2.1⟩ h3⟩
  rw [if_neg (fun h => h h3)]
  by_cases h4 : 60000 < bodyN l a
  · rw [if_pos h4]
    refine ⟨fun h => absurd h (by decide), fun h => ?_⟩
    omega
  rw [if_neg h4]
  by_cases h5 : (l.length : Int) - a - 9 < bodyN l a
  · rw [if_pos h5]
    refine ⟨fun h => absurd h (by decide), fun h => ?_⟩
    omega
  rw [if_neg h5]
  by_cases h6 : sumOk l a = true
  · rw [if_pos h6]
    exact ⟨fun _ => ⟨by omega, by omega, h3.1, h3.2, by omega, h6⟩, fun _ => rfl⟩
  · rw [if_neg h6]
    exact ⟨fun h => absurd h (by decide), fun h => absurd h.2.2.2.2.2 h6⟩
theorem getF_ok {l : List UInt8} {a : Int} (h : getE l a = 0) : getF l a = ⟨(byteAt l a.toNat : Int), (l.take (endN l a)).drop (a.toNat + 5), a, (endN l a : Int) + 4⟩ := by
  unfold getF; rw [if_pos h]

/-- what was framed is taken again -/
theorem frame_here (p : List UInt8) (k : Int) (b r : List UInt8) (hk : 1 ≤ k ∧ k ≤ 4) (hb : b.length ≤ 60000) :
    getE (p ++ (frameB k b ++ r)) (p.length : Int) = 0 ∧ getF (p ++ (frameB k b ++ r)) (p.length : Int) = ⟨k, b, p.length, (p.length : Int) + (b.length : Int) + 9⟩ := by
  generalize hl : p ++ (frameB k b ++ r) = l
  have hlen : l.length = p.length + (b.length + 9) + r.length := by rw [← hl, List.length_append, List.length_append, frameB_length]; omega
  have ta : ((p.length : Nat) : Int).toNat = p.length := by omega
  have h0 : byteAt l p.length = k.toNat := by
    unfold byteAt
    rw [← hl, List.getD_eq_getElem?_getD, List.getElem?_append_right (Nat.le_refl _), Nat.sub_self]
    show (UInt8.ofNat k.toNat).toNat = _
    rw [UInt8.toNat_ofNat']
    omega
  have h1 : bodyN l (p.length : Int) = b.length := by
    unfold bodyN
    rw [ta]
    refine ((fix4_iff (l := l) (e := p.length + 1) (by omega) (by omega)).1 (Eq.symm ?_)).symm
    refine mid_of' (p ++ [UInt8.ofNat k.toNat]) (fix4 b.length) (b ++ (fix4 (sumN (headB k b)) ++ r)) ?_ (by simp) (by simp [fix4_len])
    rw [← hl]
    unfold frameB
    generalize fix4 (sumN (headB k b)) = sm
    unfold headB
    simp
  have he : endN l (p.length : Int) = p.length + 5 + b.length := by unfold endN; rw [h1, ta]
  have h2 : (l.take (p.length + 5 + b.length)).drop p.length = headB k b := by
    refine mid_of' p (headB k b) (fix4 (sumN (headB k b)) ++ r) ?_ rfl (by rw [headB_length]; omega)
    rw [← hl]
    unfold frameB
    simp
  have h3 : un4 l (p.length + 5 + b.length) = sumN (headB k b) := by
    refine ((fix4_iff (l := l) (e := p.length + 5 + b.length) (by omega) (sumN_lt _)).1 (Eq.symm ?_)).symm
    refine mid_of' (p ++ headB k b) (fix4 (sumN (headB k b))) r ?_ (by rw [List.length_append, headB_length]; omega) (by rw [List.length_append, headB_length, fix4_len]; omega)
    rw [← hl]
    unfold frameB
    simp
  have h4 : (l.take (p.length + 5 + b.length)).drop (p.length + 5) = b := by
    refine mid_of' (p ++ (UInt8.ofNat k.toNat :: fix4 b.length)) b (fix4 (sumN (headB k b)) ++ r) ?_ (by simp [fix4_len]) (by simp [fix4_len])
    rw [← hl]
    unfold frameB
    generalize fix4 (sumN (headB k b)) = sm
    unfold headB
    simp
  have hE : getE l (p.length : Int) = 0 := by
    rw [get_ok]
    refine ⟨by omega, by rw [h1, hlen]; omega, by rw [ta, h0]; omega, by rw [ta, h0]; omega, by rw [h1]; exact hb, ?_⟩
    unfold sumOk
    rw [he, ta, h2, h3]
    exact decide_eq_true rfl
  refine ⟨hE, ?_⟩
  rw [getF_ok hE, he, ta, h0, h4]
  rw [f4_eq_iff]
  refine ⟨?_, rfl, rfl, ?_⟩
  · show ((k.toNat : Nat) : Int) = k; omega
  · show (((p.length + 5 + b.length : Nat) : Int)) + 4 = (p.length : Int) + (b.length : Int) + 9; omega

end Go.Proofs.YtmjkfgpkohfmiaaGreat
