/- crc: the document's answer, walked. -/
import Derived.Test.YthomdpdiknnahaaFcB
import Derived.Laws.BytesArg
import Derived.Deep.OwnRows
namespace Go.Proofs.Ythomdpdiknnahaa
set_option linter.unusedVariables false
set_option linter.unusedSimpArgs false
open Go.RowKit

attribute [local go_sem] U8_fold U8_toNat u32_xor u32_and u8_xor8 u8_of_u32 u32_of_u8 u32_xor_u8 u32_mod256 u32_shr1 u32_shr8 u32_beq u32_and1 u32_beq1 u32_not signed_u32 signed_u8 xor_poly u32_tmod2 u32_mod2 u32_tmod256 u32_wrap u32_tdiv2 u32_tdiv256 u32_max_sub

def halfs : Nat → UInt32 → UInt32
  | 0, c => c
  | k + 1, c => half (halfs k c)

set_option maxHeartbeats 400000 in
theorem entry_any (c : UInt32) (w : World) :
    Calls Try.prog 31 #[.int .u32 (U32 c)] w fun e w' => e = .returned (.int .u32 (U32 (halfs 8 c))) ∧ w = w' := by
  go_enter Try.func31, Try.ntmps31
  go_wp2
  go_loop [0, 3] (fun c' i => ∃ k : Nat, k ≤ 8 ∧ i = .int .i64 k ∧ c' = .int .u32 (U32 (halfs k c))) (fun _ i => 8 - (intOf i).toNat)
  case atStart => exact ⟨0, Nat.zero_le _, rfl, rfl⟩
  case round =>
    obtain ⟨k, hk, rfl, rfl⟩ := hrel
    by_cases hlt : k < 8
    · by_cases ho : (halfs k c &&& 1 == 1) = true
      · go_wp2
        go_round
        case rel => exact ⟨k + 1, by omega, by go_num, by simp [halfs, half, ho]⟩
        case measure => simp [intOf]; omega
      · have ho' : (halfs k c &&& 1 == 1) = false := by simpa using ho
        clear ho
        go_wp2
        go_round
        case rel => exact ⟨k + 1, by omega, by go_num, by simp [halfs, half, ho']⟩
        case measure => simp [intOf]; omega
    · obtain rfl : k = 8 := by omega
      go_wp2
      go_ret
      exact ⟨rfl, rfl⟩

set_option maxHeartbeats 400000 in
theorem refRest_any (T : List UInt32) (c : UInt32) (s : ByteArray) (w : World) (hT : T.length = 256) (hs : s.size ≤ maxLen) :
    Calls Try.prog 36 #[.agg (tabL T).toArray, .int .u32 (U32 c), .string s] w fun e w' => e = .returned (.int .u32 (U32 (restL T c (bytesOf s)))) ∧ Ext w w' := by
  unfold maxLen at hs
  have ht := Lib.hid (tab_at T w 49 hT)
  clear hT
  go_enter Try.func36, Try.ntmps36
  go_wp2
  go_loop [1, 7] (fun c' i => ∃ k : Nat, k ≤ s.size ∧ i = .int .i64 k ∧ c' = .int .u32 (U32 (restL T c ((bytesOf s).take k)))) (fun _ i => s.size - (intOf i).toNat)
  case atStart => exact ⟨0, Nat.zero_le _, rfl, rfl⟩
  case round =>
    obtain ⟨k, hk, rfl, rfl⟩ := hrel
    by_cases hlt : k < s.size
    · have H := Lib.hid (take_snoc s k hlt)
      generalize hq : restL T c (List.take k (bytesOf s)) = q
      have HQ := Lib.hid hq
      clear hq
      have hb := B8_lt (q.toUInt8 ^^^ s[k])
      have hc := ht.out _ hb
      have hl := U8_lt (q.toUInt8 ^^^ s[k])
      have hn := U8_nonneg (q.toUInt8 ^^^ s[k])
      clear hb
      go_wp2
      go_round
      case rel => exact ⟨k + 1, by omega, by go_num, by rw [H.out, restL_snoc, HQ.out]; rfl⟩
      case measure => simp [intOf]; omega
    · have htk : (bytesOf s).take k = bytesOf s := List.take_of_length_le (by rw [bytesOf_length]; omega)
      go_wp2
      go_ret
      exact ⟨rfl, (Ext.refl _).alloc _⟩

/-- the sum without a table -/
def restE (c : UInt32) (b : UInt8) : UInt32 := (c >>> 8) ^^^ halfs 8 (UInt32.ofNat (B8 (c.toUInt8 ^^^ b)))
theorem U32_of_B8 (b : UInt8) : U8 b = U32 (UInt32.ofNat (B8 b)) := by
  have := b.toNat_lt
  unfold U8 U32 B8; rw [UInt32.toNat_ofNat']; omega

set_option maxHeartbeats 400000 in
theorem refMore_any (T : List UInt32) (c : UInt32) (s : ByteArray) (w : World) (hT : T.length = 256) (hs : s.size ≤ maxLen) :
    Calls Try.prog 30 #[.agg (tabL T).toArray, .int .u32 (U32 c), .string s] w fun e w' => e = .returned (.int .u32 (U32 (~~~ restL T (~~~ c) (bytesOf s)))) ∧ Ext w w' := by
  have HT := Lib.hid hT
  clear hT
  go_enter Try.func30, Try.ntmps30
  go_wp2_with (first
    | (refine wpList_load_blk rfl 49 (.tmp 3) rfl rfl (Blk.new w _ _) Try.underlying49 rfl (tab_size HT.out) ?_)
    | (go_at_call 36; refine (refRest_any T _ _ _ HT.out hs).mono ?_; rintro e w' ⟨rfl, hx⟩))
  go_ret
  exact ⟨rfl, ((Ext.refl _).alloc _).trans hx⟩
end Go.Proofs.Ythomdpdiknnahaa
