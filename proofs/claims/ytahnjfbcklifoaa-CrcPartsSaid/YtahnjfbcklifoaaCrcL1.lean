/- CrcSums: the law's walk. -/
import Derived.Test.YtahnjfbcklifoaaCrcD
namespace Go.Proofs.Ytahnjfbcklifoaa
set_option linter.unusedVariables false
set_option linter.unusedSimpArgs false
open Go.RowKit
attribute [local go_sem] U8_fold U8_toNat u32_xor u32_and u8_xor8 u8_of_u32 u32_of_u8 u32_xor_u8 u32_mod256 u32_shr1 u32_shr8 u32_beq u32_and1 u32_beq1 u32_not signed_u32 signed_u8 xor_poly u32_tmod2 u32_mod2 u32_tmod256 u32_wrap u32_tdiv2 u32_tdiv256 u32_max_sub

theorem u32_of_int (n : Int) (h : 0 ≤ n ∧ n < 4294967296) : ∃ c : UInt32, n = U32 c := by
  refine ⟨UInt32.ofNat n.toNat, ?_⟩
  unfold U32; rw [UInt32.toNat_ofNat']; omega

theorem theTab_at (i : Nat) (h : i < 256) : theTab.getD i 0 = halfs 8 (UInt32.ofNat i) := by
  simp [theTab, h]
theorem rest_theTab (c : UInt32) (b : UInt8) : rest theTab c b = restE c b := by
  unfold rest restE; rw [theTab_at _ (B8_lt _)]
theorem restL_theTab (l : List UInt8) (c : UInt32) : restL theTab c l = l.foldl restE c := by
  unfold restL
  induction l generalizing c with
  | nil => rfl
  | cons b l ih => simp only [List.foldl_cons, rest_theTab]; exact ih _

theorem tab_eql (w : World) : (binOp .eql 24 (.agg (tabL theTab).toArray) (.agg (tabL theTab).toArray)).run Try.prog w = .ok (.bool true) w := by kernel_rfl

set_option maxRecDepth 20000 in
set_option maxHeartbeats 1000000 in
theorem crcSums_walk (s : ByteArray) (c : UInt32) (w : World) (hs : s.size ≤ maxLen) :
    Calls Try.prog 3 #[.string s, .int .u32 (U32 c)] w fun e w' => e = .returned (.bool true) ∧ Below w.heap.size w w' := by
  by_cases hl : (5000 : Int) < (s.size : Int)
  · clear hs
    go_enter Try.func3, Try.ntmps3
    go_wp2_with (go_at_call 15; refine (awake05 _).mono ?_; rintro e w' ⟨rfl, hx⟩)
    go_ret
    exact ⟨rfl, hx⟩
  · have h1 := Lib.hid (fun w => of_any theTab s w theTab_length hs)
    have h2 := Lib.hid (fun w => sum_any s w hs)
    have h3 := Lib.hid (fun w => more_any theTab c s w theTab_length hs)
    have h4 := Lib.hid (fun w => refMore_any theTab c s w theTab_length hs)
    rw [← restL_theTab] at h2
    have heq := tab_eql
    clear hs
    go_enter Try.func3, Try.ntmps3
    go_wp2_with (first
      | (refine wpList_store_new rfl 24 (.tmp 5) (.tmp 10) rfl rfl rfl zero_size (tab_size theTab_length) (tab_all_one _) ?_)
      | (go_at_call 16; refine (table_any _).mono ?_; rintro e w1 ⟨rfl, hx1⟩))
    refine wp_region_up (by kernel_rfl) (by kernel_rfl) ?_
    repeat (first
      | (refine wpQuiet_load_blk rfl 24 (.tmp 5) rfl rfl (Blk.new w1 _ _) Try.underlying24 rfl (tab_size theTab_length) ?_)
      | (quiet_step (first
         | (go_at_call 17; exact up_call (refTable_any _))
         | (go_at_call 18; exact up_call (h1.out _))
         | (go_at_call 19; exact up_same (h2.out _))
         | (go_at_call 20; exact up_call (h3.out _))
         | (go_at_call 21; exact up_call (h4.out _))
         | (go_at_call 15; exact up_call (awake05 _)))))
    refine wpQuiet_nil ?_
    rintro _ ⟨y, rfl⟩
    go_wp2
    go_ret
    exact ⟨rfl, (hx1.alloc _).trans y.ext⟩

theorem crcSums_law (s : ByteArray) (hs : s.size ≤ maxLen) (n : Int) (hn : (Lit.int .u32 n).wf = true) (w : World) :
    Calls Try.prog 3 #[.string s, .int .u32 n] w fun e w' => e = .returned (.bool true) ∧ Below w.heap.size w w' := by
  have hx : 0 ≤ n ∧ n ≤ 4294967295 := by simpa [Lit.wf, IntKind.min, IntKind.max, IntKind.signed, IntKind.bits] using hn
  obtain ⟨c, rfl⟩ := u32_of_int n (by omega)
  exact crcSums_walk s c w hs
end Go.Proofs.Ytahnjfbcklifoaa
