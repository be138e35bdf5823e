/- crc: statements whose order is open: the document's noughts and turned; the law's awake. -/
import Derived.Test.YtahnjfbcklifoaaTab
import Derived.Test.YtahnjfbcklifoaaQuiet
namespace Go.Proofs.Ytahnjfbcklifoaa
set_option linter.unusedVariables false
set_option linter.unusedSimpArgs false
open Go.RowKit
attribute [local go_sem] U8_fold U8_toNat u32_xor u32_and u8_xor8 u8_of_u32 u32_of_u8 u32_xor_u8 u32_mod256 u32_shr1 u32_shr8 u32_beq u32_and1 u32_beq1 u32_not signed_u32 signed_u8 xor_poly u32_tmod2 u32_mod2 u32_tmod256 u32_wrap u32_tdiv2 u32_tdiv256 u32_max_sub

theorem Blk.range {w : World} {g : Nat} {t : TypeId} {cs : List Value} (h : Blk w g t cs.toArray) : w.rangeAt g 0 cs := by
  intro j v hv
  rw [Nat.zero_add, h.cell, List.getElem?_toArray]; exact hv
theorem range_ext {w w' : World} {g : Nat} {cs : List Value} (h : w.rangeAt g 0 cs) (hb : Ext w w') : w'.rangeAt g 0 cs := by
  intro j v hv
  have := h j v hv
  rw [hb.cell (p := ⟨g, 0 + j, none⟩) (World.block_lt_of_cell? w _ this)]; exact this
theorem tabL_info {T : List UInt32} (hT : T.length = 256) : (Try.prog.info? 24).map (·.size) = some (tabL T).length := by
  rw [arr_size, tabL_length, hT]

set_option maxRecDepth 20000 in
set_option maxHeartbeats 400000 in
theorem refNoughts_any (T : List UInt32) (c : UInt32) (n : Int) (w : World) (hT : T.length = 256) :
    Calls Try.prog 24 #[.agg (tabL T).toArray, .int .u32 (U32 c), .int .i64 n] w fun e w' => e = .returned (.int .u32 (U32 (~~~ restL T (~~~ c) (zerosL n)))) ∧ Ext w w' := by
  have HT := Lib.hid hT
  have hi := tabL_info hT
  clear hT
  have hg := (Blk.new w 24 (tabL T).toArray).range
  have hz : bytesOf (zeroStr (zerosL n).length) = zerosL n := by
    rw [zeroStr_bytes]; unfold zerosL; simp
  have hs : (zeroStr (zerosL n).length).size ≤ maxLen := by
    rw [zeroStr_size]; unfold zerosL maxLen; simp; omega
  have HM := Lib.hid (refMore_any T c _ · HT.out hs)
  rw [hz] at HM
  clear hz hs
  have hu := Try.underlying24
  go_enter Try.func24, Try.ntmps24
  go_wp2
  go_region_held3 (fun w' => w'.rangeAt w.heap.size 0 (tabL T)) (first | (simp only [World.rangeAt_drew]; assumption) | (refine range_ext ?_ ‹Ext _ _›; assumption)) (first
    | (go_at_call 55; refine (refnoughts_any _ _).mono ?_; rintro e w1 ⟨rfl, hx1⟩)
    | (go_at_call 21; refine (HM.out _).mono ?_; rintro e w2 ⟨rfl, hx2⟩))
  go_wp2
  go_ret
  exact ⟨rfl, (((Ext.refl _).alloc _).drew.trans hx1).trans hx2⟩

set_option maxRecDepth 20000 in
set_option maxHeartbeats 400000 in
theorem refTurned_any (T : List UInt32) (c : UInt32) (s : ByteArray) (n : Int) (w : World) (hT : T.length = 256) (hs : s.size ≤ maxLen) :
    Calls Try.prog 26 #[.agg (tabL T).toArray, .int .u32 (U32 c), .string s, .int .i64 n] w fun e w' => e = .returned (.int .u32 (U32 (c ^^^ restL T (restL T 0 (bytesOf s)) (zerosL n)))) ∧ Ext w w' := by
  have HT := Lib.hid hT
  have hi := tabL_info hT
  clear hT
  have hg := (Blk.new w 24 (tabL T).toArray).range
  have hz : bytesOf (zeroStr (zerosL n).length) = zerosL n := by
    rw [zeroStr_bytes]; unfold zerosL; simp
  have hs2 : (zeroStr (zerosL n).length).size ≤ maxLen := by
    rw [zeroStr_size]; unfold zerosL maxLen; simp; omega
  have HM := Lib.hid (fun w => refRest_any T (restL T 0 (bytesOf s)) _ w HT.out hs2)
  have H0 := Lib.hid (fun w => refRest_any T 0 s w HT.out hs)
  have hu0 : U32 0 = 0 := rfl
  rw [hz] at HM
  rw [hu0] at H0
  clear hz hs hu0 hs2
  have hu := Try.underlying24
  go_enter Try.func26, Try.ntmps26
  go_wp2
  refine wp_region_up (by kernel_rfl) (by kernel_rfl) ?_
  repeat (first
    | (refine wpQuiet_load_blk rfl 24 (.tmp 4) rfl rfl (Blk.new w _ _) Try.underlying24 rfl (tab_size HT.out) ?_)
    | (quiet_step (first
       | (go_at_call 55; exact up_call (refnoughts_any _ _))
       | (go_at_call 53; (with_reducible exact up_call (H0.out _)))
       | (go_at_call 53; (with_reducible exact up_call (HM.out _))))))
  refine wpQuiet_nil ?_
  rintro _ ⟨y, rfl⟩
  go_wp2
  go_ret
  exact ⟨rfl, ((Ext.refl _).alloc _).trans y.ext⟩

theorem zero_size : Try.zeroCells24.size = (tabL theTab).toArray.size := by
  rw [zero_tab, List.size_toArray, List.size_toArray, tabL_length, tabL_length, theTab_length, List.length_replicate]

theorem aw1 : theTab.getD 1 0 = 0x77073096 := by decide +kernel
theorem aw2 : theTab.getD 255 0 = 0x2d02ef8d := by decide +kernel
theorem aw3 : ~~~ restL theTab (~~~ 0) [49, 50, 51, 52, 53, 54, 55, 56, 57] = 0xcbf43926 := by decide +kernel
theorem aw4 : ~~~ restL theTab (~~~ 0) [] = 0 := by decide +kernel
theorem aw6 : ~~~ restL theTab (~~~ (~~~ restL theTab (~~~ 0) [49, 50, 51, 52])) [53, 54, 55, 56, 57] = 0xcbf43926 := by decide +kernel
theorem aw7 : ~~~ restL theTab (~~~ 7) (zerosL 0) = 7 := by decide +kernel

set_option maxRecDepth 20000 in
set_option maxHeartbeats 1000000 in
theorem awake05 (w : World) : Calls Try.prog 15 #[] w fun e w' => e = .returned (.bool true) ∧ Ext w w' := by
  have h3 := Lib.hid (fun w => of_any theTab ⟨#[49, 50, 51, 52, 53, 54, 55, 56, 57]⟩ w theTab_length (by decide))
  have h4 := Lib.hid (fun w => of_any theTab ⟨#[]⟩ w theTab_length (by decide))
  have h5 := Lib.hid (fun w => of_any theTab ⟨#[49, 50, 51, 52]⟩ w theTab_length (by decide))
  have h6 := Lib.hid (fun w => more_any theTab (~~~ restL theTab (~~~ 0) [49, 50, 51, 52]) ⟨#[53, 54, 55, 56, 57]⟩ w theTab_length (by decide))
  have h7 := Lib.hid (fun w => noughts_any theTab 7 0 w theTab_length)
  have e3 : U32 (~~~ restL theTab (~~~ 0) (bytesOf ⟨#[49, 50, 51, 52, 53, 54, 55, 56, 57]⟩)) = 3421780262 := congrArg U32 aw3
  have e4 : U32 (~~~ restL theTab (~~~ 0) (bytesOf ⟨#[]⟩)) = 0 := congrArg U32 aw4
  have e6 : U32 (~~~ restL theTab (~~~ (~~~ restL theTab (~~~ 0) [49, 50, 51, 52])) (bytesOf ⟨#[53, 54, 55, 56, 57]⟩)) = 3421780262 := congrArg U32 aw6
  have e7 : U32 (~~~ restL theTab (~~~ 7) (zerosL 0)) = 7 := congrArg U32 aw7
  have e8 : U32 7 = 7 := rfl
  have e5 : bytesOf ⟨#[49, 50, 51, 52]⟩ = [49, 50, 51, 52] := rfl
  rw [e5] at h5
  clear e5
  rw [e3] at h3
  rw [e4] at h4
  rw [e6] at h6
  rw [e7, e8] at h7
  clear e3 e4 e6 e7 e8
  go_enter Try.func15, Try.ntmps15
  go_wp2_with (first
    | (refine wpList_store_new rfl 24 (.tmp 1) (.tmp 2) rfl rfl rfl zero_size (tab_size theTab_length) (tab_all_one _) ?_)
    | (go_at_call 16; refine (table_any _).mono ?_; rintro e w1 ⟨rfl, hx1⟩))
  have c1 := fun x => up_cell (W := w1.alloc (.cells (tabL theTab).toArray 24)) (a := ⟨w1.heap.size, 1, none⟩) (v := .int .u32 1996959894) (by rw [World.cell?_alloc_new, List.getElem?_toArray, tabL_get _ _ (by rw [theTab_length]; omega), aw1]; rfl) x
  have c2 := fun x => up_cell (W := w1.alloc (.cells (tabL theTab).toArray 24)) (a := ⟨w1.heap.size, 255, none⟩) (v := .int .u32 755167117) (by rw [World.cell?_alloc_new, List.getElem?_toArray, tabL_get _ _ (by rw [theTab_length]; omega), aw2]; rfl) x
  refine wp_region_up (by kernel_rfl) (by kernel_rfl) ?_
  repeat (first
    | (refine wpQuiet_load_blk rfl 24 (.tmp 1) rfl rfl (Blk.new w1 _ _) Try.underlying24 rfl (tab_size theTab_length) ?_)
    | (quiet_step (first
       | (go_at_call 18; (with_reducible exact up_call (h3.out _)))
       | (go_at_call 18; (with_reducible exact up_call (h4.out _)))
       | (go_at_call 18; (with_reducible exact up_call (h5.out _)))
       | (go_at_call 20; go_must (exact up_call (h6.out _)))
       | (go_at_call 22; (with_reducible exact up_call (h7.out _))))))
  refine wpQuiet_nil ?_
  rintro _ ⟨y, rfl⟩
  go_wp2
  go_ret
  exact ⟨rfl, (hx1.alloc _).trans y.ext⟩
end Go.Proofs.Ytahnjfbcklifoaa
