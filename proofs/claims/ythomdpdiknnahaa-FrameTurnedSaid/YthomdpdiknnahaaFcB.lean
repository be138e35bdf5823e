/- crc: the rest of the package. -/
import Derived.Test.YthomdpdiknnahaaFcA
namespace Go.Proofs.Ythomdpdiknnahaa
set_option linter.unusedVariables false
set_option linter.unusedSimpArgs false
open Go.RowKit

attribute [local go_sem] U8_fold U8_toNat u32_xor u32_and u8_xor8 u8_of_u32 u32_of_u8 u32_xor_u8 u32_mod256 u32_shr1 u32_shr8 u32_beq u32_and1 u32_beq1 u32_not signed_u32 signed_u8 xor_poly

theorem arr_size : (Try.prog.info? 49).map (·.size) = some 256 := by kernel_rfl
theorem tab_size {T : List UInt32} (hT : T.length = 256) : (Try.prog.info? 49).map (·.size) = some (tabL T).toArray.size := by
  rw [arr_size]; simp [tabL_length, hT]

set_option maxHeartbeats 400000 in
theorem of_any (T : List UInt32) (s : ByteArray) (w : World) (hT : T.length = 256) (hs : s.size ≤ maxLen) :
    Calls Try.prog 19 #[.agg (tabL T).toArray, .string s] w fun e w' => e = .returned (.int .u32 (U32 (~~~ restL T (~~~ 0) (bytesOf s)))) ∧ Ext w w' := by
  have HT := Lib.hid hT
  clear hT
  have hz : U32 0 = 0 := rfl
  have hm := Lib.hid (more_any T 0 s · HT.out hs)
  rw [hz] at hm
  clear hz
  go_enter Try.func19, Try.ntmps19
  go_wp2_with (first
    | (refine wpList_load_blk rfl 49 (.tmp 2) rfl rfl (Blk.new w _ _) Try.underlying49 rfl (tab_size HT.out) ?_)
    | (go_at_call 28; refine (hm.out _).mono ?_; rintro e w' ⟨rfl, hx⟩))
  go_ret
  exact ⟨rfl, ((Ext.refl _).alloc _).trans hx⟩

/-- the remainder behind bytes 00 -/
def zerosL (n : Int) : List UInt8 := List.replicate (min n 100000).toNat 0

theorem restL_rep (T : List UInt32) (c : UInt32) (k : Nat) : restL T c (List.replicate (k + 1) 0) = rest T (restL T c (List.replicate k 0)) 0 := by
  rw [List.replicate_succ', restL_snoc]

end Go.Proofs.Ythomdpdiknnahaa
