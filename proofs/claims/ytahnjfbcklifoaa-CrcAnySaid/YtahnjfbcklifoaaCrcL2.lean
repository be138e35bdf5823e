/- CrcBurst: the law's walk. -/
import Derived.Test.YtahnjfbcklifoaaCrcF
namespace Go.Proofs.Ytahnjfbcklifoaa
set_option linter.unusedVariables false
set_option linter.unusedSimpArgs false
open Go.RowKit
attribute [local go_sem] U8_fold U8_toNat u32_xor u32_and u8_xor8 u8_of_u32 u32_of_u8 u32_xor_u8 u32_mod256 u32_shr1 u32_shr8 u32_beq u32_and1 u32_beq1 u32_not signed_u32 signed_u8 xor_poly u32_tmod2 u32_mod2 u32_tmod256 u32_wrap u32_tdiv2 u32_tdiv256 u32_max_sub
theorem u32_bne (a b : UInt32) : (U32 a != U32 b) = (a != b) := by
  unfold bne; rw [u32_beq]
theorem u32_beq0 (a : UInt32) : (U32 a == 0) = (a == 0) := u32_beq a 0
attribute [local go_sem] u32_bne u32_beq0

set_option maxRecDepth 20000 in
set_option maxHeartbeats 1000000 in
theorem crcBurst_out (s : ByteArray) (at_ : Int) (by_ : UInt32) (w : World) (hs : s.size ≤ maxLen)
    (h : (5000 : Int) < s.size ∨ (¬ (5000 : Int) < s.size ∧ (s.size : Int) < 4) ∨ (¬ (5000 : Int) < s.size ∧ ¬ (s.size : Int) < 4 ∧ at_ < 0) ∨
      (¬ (5000 : Int) < s.size ∧ ¬ (s.size : Int) < 4 ∧ ¬ at_ < 0 ∧ 8 * (s.size : Int) - 32 < at_) ∨
      (¬ (5000 : Int) < s.size ∧ ¬ (s.size : Int) < 4 ∧ ¬ at_ < 0 ∧ ¬ 8 * (s.size : Int) - 32 < at_ ∧ (by_ == 0) = true)) :
    Calls Try.prog 5 #[.string s, .int .i64 at_, .int .u32 (U32 by_)] w fun e w' => e = .returned (.bool true) ∧ Ext w w' := by
  unfold maxLen at hs
  rcases h with h1 | ⟨h1, h2⟩ | ⟨h1, h2, h3⟩ | ⟨h1, h2, h3, h4⟩ | ⟨h1, h2, h3, h4, h5⟩
  all_goals
    go_enter Try.func5, Try.ntmps5
    go_wp2_with (go_at_call 15; refine (awake05 _).mono ?_; rintro e w' ⟨rfl, hx⟩)
    go_ret
    exact ⟨rfl, hx⟩

set_option maxRecDepth 20000 in
set_option maxHeartbeats 1000000 in
theorem crcBurst_in (s : ByteArray) (at_ : Nat) (by_ : UInt32) (w : World) (h1 : s.size ≤ 5000) (h2 : 4 ≤ s.size) (h3 : at_ + 32 ≤ 8 * s.size) (h4 : (by_ == 0) = false) :
    Calls Try.prog 5 #[.string s, .int .i64 (at_ : Int), .int .u32 (U32 by_)] w fun e w' => e = .returned (.bool true) ∧ Ext w w' := by
  have hm : s.size ≤ maxLen := by unfold maxLen; omega
  have hne := burst_told (bytesOf s) at_ by_ (~~~ 0) (by rw [bytesOf_length]; exact h3) (by simpa using h4)
  have hb : (~~~ restL theTab (~~~ 0) (bytesOf s) != ~~~ restL theTab (~~~ 0) (flipTo (bytesOf s) at_ by_ 32)) = true := by
    rw [bne_iff_ne]; intro e; exact hne (by have := congrArg (~~~ ·) e; simpa using this)
  clear hne
  have hsz : (ByteArray.mk (flipTo (bytesOf s) at_ by_ 32).toArray).size ≤ maxLen := by
    show (flipTo (bytesOf s) at_ by_ 32).toArray.size ≤ _
    rw [List.size_toArray, flipTo_length, bytesOf_length]; unfold maxLen; omega
  have q1 := Lib.hid (fun w => of_any theTab s w theTab_length hm)
  have q2 := Lib.hid (fun w => of_any theTab ⟨(flipTo (bytesOf s) at_ by_ 32).toArray⟩ w theTab_length hsz)
  have q3 := Lib.hid (fun w => flipped_any s at_ by_ w h1 h3)
  have e2 : bytesOf ⟨(flipTo (bytesOf s) at_ by_ 32).toArray⟩ = flipTo (bytesOf s) at_ by_ 32 := rfl
  rw [e2] at q2
  clear hsz hm e2
  generalize ~~~ restL theTab (~~~ 0) (bytesOf s) = A at q1 hb
  generalize ~~~ restL theTab (~~~ 0) (flipTo (bytesOf s) at_ by_ 32) = B at q2 hb
  generalize (ByteArray.mk (flipTo (bytesOf s) at_ by_ 32).toArray) = S at q2 q3
  go_enter Try.func5, Try.ntmps5
  go_wp2_with (first
    | (refine wpList_store_new rfl 24 (.tmp 7) (.tmp 33) rfl rfl rfl zero_size (tab_size theTab_length) (tab_all_one _) ?_)
    | (go_at_call 16; refine (table_any _).mono ?_; rintro e w1 ⟨rfl, hx1⟩))
  refine wp_region_up (by kernel_rfl) (by kernel_rfl) ?_
  repeat (first
    | (refine wpQuiet_load_blk rfl 24 (.tmp 7) rfl rfl (Blk.new w1 _ _) Try.underlying24 rfl (tab_size theTab_length) ?_)
    | (quiet_step (first
       | (go_at_call 18; (with_reducible exact up_call (q1.out _)))
       | (go_at_call 18; (with_reducible exact up_call (q2.out _)))
       | (go_at_call 23; exact up_call (q3.out _))
       | (go_at_call 15; exact up_call (awake05 _)))))
  refine wpQuiet_nil ?_
  rintro _ ⟨y, rfl⟩
  go_wp2
  go_ret
  exact ⟨rfl, (hx1.alloc _).trans y.ext⟩

theorem crcBurst_law (s : ByteArray) (hs : s.size ≤ maxLen) (at_ : Int) (ha : (Lit.int .i64 at_).wf = true) (n : Int) (hn : (Lit.int .u32 n).wf = true) (w : World) :
    Calls Try.prog 5 #[.string s, .int .i64 at_, .int .u32 n] w fun e w' => e = .returned (.bool true) ∧ Below w.heap.size w w' := by
  have hx : 0 ≤ n ∧ n ≤ 4294967295 := by simpa [Lit.wf, IntKind.min, IntKind.max, IntKind.signed, IntKind.bits] using hn
  obtain ⟨c, rfl⟩ := u32_of_int n (by omega)
  by_cases h1 : (5000 : Int) < s.size
  · exact crcBurst_out s at_ c w hs (.inl h1)
  by_cases h2 : (s.size : Int) < 4
  · exact crcBurst_out s at_ c w hs (.inr (.inl ⟨h1, h2⟩))
  by_cases h3 : at_ < 0
  · exact crcBurst_out s at_ c w hs (.inr (.inr (.inl ⟨h1, h2, h3⟩)))
  by_cases h4 : 8 * (s.size : Int) - 32 < at_
  · exact crcBurst_out s at_ c w hs (.inr (.inr (.inr (.inl ⟨h1, h2, h3, h4⟩))))
  by_cases h5 : (c == 0) = true
  · exact crcBurst_out s at_ c w hs (.inr (.inr (.inr (.inr ⟨h1, h2, h3, h4, h5⟩))))
  obtain ⟨a, rfl⟩ := Int.eq_ofNat_of_zero_le (show 0 ≤ at_ by omega)
  exact crcBurst_in s a c w (by omega) (by omega) (by omega) (by simpa using h5)
end Go.Proofs.Ytahnjfbcklifoaa
