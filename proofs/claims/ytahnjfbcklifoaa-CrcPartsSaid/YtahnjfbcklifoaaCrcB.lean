/- crc: the rest of the package. -/
import Derived.Test.YtahnjfbcklifoaaCrcA
namespace Go.Proofs.Ytahnjfbcklifoaa
set_option linter.unusedVariables false
set_option linter.unusedSimpArgs false
open Go.RowKit
attribute [local go_sem] U8_fold U8_toNat u32_xor u32_and u8_xor8 u8_of_u32 u32_of_u8 u32_xor_u8 u32_mod256 u32_shr1 u32_shr8 u32_beq u32_and1 u32_beq1 u32_not signed_u32 signed_u8 xor_poly

theorem arr_size : (Try.prog.info? 24).map (·.size) = some 256 := by kernel_rfl
theorem tab_size {T : List UInt32} (hT : T.length = 256) : (Try.prog.info? 24).map (·.size) = some (tabL T).toArray.size := by
  rw [arr_size]; simp [tabL_length, hT]

set_option maxHeartbeats 400000 in
theorem of_any (T : List UInt32) (s : ByteArray) (w : World) (hT : T.length = 256) (hs : s.size ≤ maxLen) :
    Calls Try.prog 18 #[.agg (tabL T).toArray, .string s] w fun e w' => e = .returned (.int .u32 (U32 (~~~ restL T (~~~ 0) (bytesOf s)))) ∧ Ext w w' := by
  have HT := Lib.hid hT
  clear hT
  have hz : U32 0 = 0 := rfl
  have hm := Lib.hid (more_any T 0 s · HT.out hs)
  rw [hz] at hm
  clear hz
  go_enter Try.func18, Try.ntmps18
  go_wp2_with (first
    | (refine wpList_load_blk rfl 24 (.tmp 2) rfl rfl (Blk.new w _ _) Try.underlying24 rfl (tab_size HT.out) ?_)
    | (go_at_call 20; refine (hm.out _).mono ?_; rintro e w' ⟨rfl, hx⟩))
  go_ret
  exact ⟨rfl, ((Ext.refl _).alloc _).trans hx⟩

/-- the remainder behind bytes 00 -/
def zerosL (n : Int) : List UInt8 := List.replicate (min n 100000).toNat 0

theorem restL_rep (T : List UInt32) (c : UInt32) (k : Nat) : restL T c (List.replicate (k + 1) 0) = rest T (restL T c (List.replicate k 0)) 0 := by
  rw [List.replicate_succ', restL_snoc]

set_option maxHeartbeats 400000 in
theorem empty_any (T : List UInt32) (g : Nat) (c : UInt32) (n : Int) (w : World) (hT : ∀ i < 256, w.cell? ⟨g, i, none⟩ = some (.int .u32 (U32 (T.getD i 0)))) :
    Calls Try.prog 54 #[.pointer (some ⟨g, 0, none⟩), .int .u32 (U32 c), .int .i64 n] w fun e w' => e = .returned (.int .u32 (U32 (restL T c (zerosL n)))) ∧ w = w' := by
  have hr0 : ∀ c, Calls Try.prog 52 #[.pointer (some ⟨g, 0, none⟩), .int .u32 (U32 c), .int .u8 0] w fun e w' => e = .returned (.int .u32 (U32 (rest T c 0))) ∧ w = w' :=
    fun c => rest_any T g c 0 w hT
  have HR := Lib.hid hr0
  clear hr0 hT
  by_cases h4 : n ≤ 100000
  · go_enter Try.func54, Try.ntmps54
    go_wp2
    go_loop [1, 9] (fun c' i => ∃ k : Nat, k ≤ n.toNat ∧ i = .int .i64 k ∧ c' = .int .u32 (U32 (restL T c (List.replicate k 0)))) (fun _ i => (n.toNat - (intOf i).toNat))
    case atStart => exact ⟨0, Nat.zero_le _, rfl, rfl⟩
    case round =>
      obtain ⟨k, hk, rfl, rfl⟩ := hrel
      by_cases hlt : k < n.toNat
      · have h1 : (k : Int) < n := by omega
        go_wp2_with (go_at_call 52; refine (HR.out _).mono ?_; rintro e w' ⟨rfl, rfl⟩)
        go_round
        case rel => exact ⟨k + 1, by omega, by go_num, by rw [restL_rep]⟩
        case measure => simp [intOf]; omega
      · have HK := Lib.hid (show (min n 100000).toNat = k by omega)
        have h1 : ¬ ((k : Int) < n) := by omega
        clear hlt hk
        go_wp2
        go_ret
        exact ⟨by rw [zerosL, HK.out]; rfl, rfl⟩
  · go_enter Try.func54, Try.ntmps54
    go_wp2
    go_loop [1, 9] (fun c' i => ∃ k : Nat, (k : Int) ≤ 100000 ∧ i = .int .i64 k ∧ c' = .int .u32 (U32 (restL T c (List.replicate k 0)))) (fun _ i => (100000 - (intOf i).toNat))
    case atStart => exact ⟨0, by omega, rfl, rfl⟩
    case round =>
      obtain ⟨k, hk, rfl, rfl⟩ := hrel
      by_cases hlt : (k : Int) < 100000
      · go_wp2_with (go_at_call 52; refine (HR.out _).mono ?_; rintro e w' ⟨rfl, rfl⟩)
        go_round
        case rel => exact ⟨k + 1, by omega, by go_num, by rw [restL_rep]⟩
        case measure => simp [intOf]; omega
      · have HK := Lib.hid (show (min n 100000).toNat = k by omega)
        clear hk
        go_wp2
        go_ret
        exact ⟨by rw [zerosL, HK.out]; rfl, rfl⟩

set_option maxHeartbeats 400000 in
theorem noughts_any (T : List UInt32) (c : UInt32) (n : Int) (w : World) (hT : T.length = 256) :
    Calls Try.prog 22 #[.agg (tabL T).toArray, .int .u32 (U32 c), .int .i64 n] w fun e w' => e = .returned (.int .u32 (U32 (~~~ restL T (~~~ c) (zerosL n)))) ∧ Ext w w' := by
  have ht := Lib.hid (tab_at T w 24 hT)
  clear hT
  go_enter Try.func22, Try.ntmps22
  go_wp2_with (go_at_call 54; refine (empty_any T _ _ _ _ ht.out).mono ?_; rintro e w' ⟨rfl, rfl⟩)
  go_ret
  exact ⟨rfl, (Ext.refl _).alloc _⟩

set_option maxHeartbeats 400000 in
theorem turned_any (T : List UInt32) (c : UInt32) (s : ByteArray) (n : Int) (w : World) (hT : T.length = 256) (hs : s.size ≤ maxLen) :
    Calls Try.prog 25 #[.agg (tabL T).toArray, .int .u32 (U32 c), .string s, .int .i64 n] w fun e w' => e = .returned (.int .u32 (U32 (c ^^^ restL T (restL T 0 (bytesOf s)) (zerosL n)))) ∧ Ext w w' := by
  unfold maxLen at hs
  have ht := Lib.hid (tab_at T w 24 hT)
  clear hT
  go_enter Try.func25, Try.ntmps25
  go_wp2
  go_loop [9, 10] (fun c' i => ∃ k : Nat, k ≤ s.size ∧ i = .int .i64 k ∧ c' = .int .u32 (U32 (restL T 0 ((bytesOf s).take k)))) (fun _ i => s.size - (intOf i).toNat)
  case atStart => exact ⟨0, Nat.zero_le _, rfl, rfl⟩
  case round =>
    obtain ⟨k, hk, rfl, rfl⟩ := hrel
    by_cases hlt : k < s.size
    · have H := Lib.hid (take_snoc s k hlt)
      go_wp2_with (go_at_call 52; refine (rest_any T _ _ _ _ ht.out).mono ?_; rintro e w' ⟨rfl, rfl⟩)
      go_round
      case rel => exact ⟨k + 1, by omega, by go_num, by rw [H.out, restL_snoc]⟩
      case measure => simp [intOf]; omega
    · have htk : (bytesOf s).take k = bytesOf s := List.take_of_length_le (by rw [bytesOf_length]; omega)
      have HK := Lib.hid htk
      clear htk
      go_wp2_with (go_at_call 54; refine (empty_any T _ _ _ _ ht.out).mono ?_; rintro e w' ⟨rfl, rfl⟩)
      go_ret
      exact ⟨by rw [HK.out]; rfl, (Ext.refl _).alloc _⟩
end Go.Proofs.Ytahnjfbcklifoaa
