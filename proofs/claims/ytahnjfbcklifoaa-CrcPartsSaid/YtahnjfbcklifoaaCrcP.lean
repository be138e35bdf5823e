/- CrcParts: the law's walk. -/
import Derived.Test.YtahnjfbcklifoaaCrcF
import Derived.Test.YtahnjfbcklifoaaAnyX
namespace Go.Proofs.Ytahnjfbcklifoaa
set_option linter.unusedVariables false
set_option linter.unusedSimpArgs false
open Go.RowKit
attribute [local go_sem] U8_fold U8_toNat u32_xor u32_and u8_xor8 u8_of_u32 u32_of_u8 u32_xor_u8 u32_mod256 u32_shr1 u32_shr8 u32_beq u32_and1 u32_beq1 u32_not signed_u32 signed_u8 xor_poly u32_tmod2 u32_mod2 u32_tmod256 u32_wrap u32_tdiv2 u32_tdiv256 u32_max_sub

theorem restL_app (T : List UInt32) (c : UInt32) (x y : List UInt8) : restL T c (x ++ y) = restL T (restL T c x) y := List.foldl_append
theorem bytesOf_app (a b : ByteArray) : bytesOf (a ++ b) = bytesOf a ++ bytesOf b := by
  unfold bytesOf; rw [ByteArray.data_append, Array.toList_append]

set_option maxRecDepth 20000 in
set_option maxHeartbeats 1000000 in
theorem crcParts_out (a b : ByteArray) (w : World) (ha : a.size ≤ maxLen) (hb : b.size ≤ maxLen)
    (h : (5000 : Int) < a.size ∨ (¬ (5000 : Int) < a.size ∧ (5000 : Int) < b.size)) :
    Calls Try.prog 4 #[.string a, .string b] w fun e w' => e = .returned (.bool true) ∧ Ext w w' := by
  unfold maxLen at ha hb
  rcases h with h1 | ⟨h1, h2⟩
  all_goals
    go_enter Try.func4, Try.ntmps4
    go_wp2_with (go_at_call 15; refine (awake05 _).mono ?_; rintro e w' ⟨rfl, hx⟩)
    go_ret
    exact ⟨rfl, hx⟩

theorem conv_up (w : World) (n : Nat) (y : Up (w.alloc (.cells (madeCells #[.int .u8 0] n) 5))) :
    (convert 31 9 (.slice (some ⟨w.heap.size, 0, none⟩) n n)).run Try.prog y.val = .ok (.string (zeroStr n)) y.val := by
  rw [run_convert_bytes_arg y.val _ 5 Try.underlying31 Try.underlying5 w.heap.size 0 n n (List.replicate n 0) (by simp) ?_ _ Try.underlying9]
  · congr 2
    simp [strOfNums, zeroStr]
  · intro i hi
    have hc : (w.alloc (.cells (madeCells #[.int .u8 0] n) 5)).cell? ⟨w.heap.size, 0 + i, none⟩ = some (.int .u8 ((List.replicate n (0 : Int)).getD i 0)) := by
      rw [World.cell?_alloc_new, Nat.zero_add, madeCells_one _ _ _ hi]
      simp [hi]
    exact up_cell hc y

set_option maxRecDepth 20000 in
set_option maxHeartbeats 2000000 in
theorem crcParts_in (a b : ByteArray) (w : World) (h1 : a.size ≤ 5000) (h2 : b.size ≤ 5000) :
    Calls Try.prog 4 #[.string a, .string b] w fun e w' => e = .returned (.bool true) ∧ Ext w w' := by
  have hma : a.size ≤ maxLen := by unfold maxLen; omega
  have hmb : b.size ≤ maxLen := by unfold maxLen; omega
  have hmab : (a ++ b).size ≤ maxLen := by rw [ByteArray.size_append]; unfold maxLen; omega
  have hmaz : (a ++ zeroStr b.size).size ≤ maxLen := by rw [ByteArray.size_append, zeroStr_size]; unfold maxLen; omega
  have q1 := Lib.hid (fun w => of_any theTab (a ++ b) w theTab_length hmab)
  have q2 := Lib.hid (fun w => of_any theTab a w theTab_length hma)
  have q3 := Lib.hid (fun w => more_any theTab (~~~ restL theTab (~~~ 0) (bytesOf a)) b w theTab_length hmb)
  have q4 := Lib.hid (fun w => noughts_any theTab (~~~ restL theTab (~~~ 0) (bytesOf a)) (b.size : Int) w theTab_length)
  have q5 := Lib.hid (fun w => of_any theTab (a ++ zeroStr b.size) w theTab_length hmaz)
  have ez : zerosL (b.size : Int) = List.replicate b.size 0 := by unfold zerosL; congr 1; omega
  rw [bytesOf_app, restL_app] at q1
  rw [bytesOf_app, restL_app, zeroStr_bytes] at q5
  rw [ez, UInt32.not_not] at q4
  rw [UInt32.not_not] at q3
  clear ez hma hmb hmab hmaz
  have hs1 := fun w => run_string_add_sum (P := Try.prog) w a b (by omega)
  have hs2 := fun w => run_string_add_sum (P := Try.prog) w a (zeroStr b.size) (by rw [zeroStr_size]; omega)
  generalize ~~~ restL theTab (restL theTab (~~~ 0) (bytesOf a)) (bytesOf b) = A at q1 q3
  generalize ~~~ restL theTab (restL theTab (~~~ 0) (bytesOf a)) (List.replicate b.size 0) = B at q4 q5
  generalize ~~~ restL theTab (~~~ 0) (bytesOf a) = C at q2 q3 q4
  have hmk := make_bytes b.size (by omega)
  go_enter Try.func4, Try.ntmps4
  go_wp2_with (first
    | (refine wpList_store_new rfl 24 (.tmp 5) (.tmp 15) rfl rfl rfl zero_size (tab_size theTab_length) (tab_all_one _) ?_)
    | (go_at_call 16; refine (table_any _).mono ?_; rintro e w1 ⟨rfl, hx1⟩))
  refine wp_region_lex _ rfl (by kernel_rfl) ?_
  dsimp only [List.length_cons, List.length_nil]
  repeat (first
    | (refine lex_load_blk (by kernel_rfl) (by kernel_rfl) (by kernel_rfl) (by kernel_rfl) (fun _ _ _ _ h => h) rfl 24 (.tmp 5) rfl rfl (Blk.new w1 _ _).drew Try.underlying24 rfl (tab_size theTab_length) ?_)
    | (refine lex_take (by kernel_rfl) (by kernel_rfl) (by kernel_rfl) (by kernel_rfl) (fun _ _ _ _ h => h) (fun K hK => ?_)
       go_simp
       first
         | (refine hK _ ?_; clear hK K)
         | (apply Exists.intro
            refine ⟨fun _ => ?_, hK _ ?_⟩
            (first
               | (go_at_call 18; (with_reducible exact q1.out _))
               | (go_at_call 18; (with_reducible exact q2.out _))
               | (go_at_call 20; (with_reducible exact q3.out _))
               | (go_at_call 22; (with_reducible exact q4.out _)))
            clear hK K)))
  refine lex_only (by kernel_rfl) (by kernel_rfl) (fun x K hK => ?_)
  go_simp
  refine hK.out _ _ ((Ext.refl _).alloc _) ?_
  clear hK K
  have hcv2 := fun y : Up (x.val.alloc (.cells (madeCells #[.int .u8 0] b.size) 5)) => conv_up x.val b.size y
  have hb5 : Blk (x.val.alloc (.cells (madeCells #[.int .u8 0] b.size) 5)) w1.heap.size 24 (tabL theTab).toArray := ((Blk.new w1 _ _).drew.ext x.ext).alloc _
  repeat (first
    | (refine lex_load_blk (by kernel_rfl) (by kernel_rfl) (by kernel_rfl) (by kernel_rfl) (fun _ _ _ _ h => h) rfl 24 (.tmp 5) rfl rfl hb5 Try.underlying24 rfl (tab_size theTab_length) ?_)
    | (refine lex_take (by kernel_rfl) (by kernel_rfl) (by kernel_rfl) (by kernel_rfl) (fun _ _ _ _ h => h) (fun K hK => ?_)
       go_simp
       first
         | (refine hK _ ?_; clear hK K)
         | (apply Exists.intro
            refine ⟨fun _ => ?_, hK _ ?_⟩
            (first
               | (go_at_call 18; (with_reducible exact q5.out _))
               | (go_at_call 15; exact awake05 _))
            clear hK K)))
  refine lex_done (by kernel_rfl) (fun y => ?_)
  go_wp2
  go_ret
  exact ⟨rfl, ((((hx1.alloc _).drew).trans x.ext).alloc _).trans y.ext⟩

theorem crcParts_law (a : ByteArray) (ha : a.size ≤ maxLen) (b : ByteArray) (hb : b.size ≤ maxLen) (w : World) :
    Calls Try.prog 4 #[.string a, .string b] w fun e w' => e = .returned (.bool true) ∧ Below w.heap.size w w' := by
  by_cases h1 : (5000 : Int) < a.size
  · exact crcParts_out a b w ha hb (.inl h1)
  by_cases h2 : (5000 : Int) < b.size
  · exact crcParts_out a b w ha hb (.inr ⟨h1, h2⟩)
  exact crcParts_in a b w (by omega) (by omega)
end Go.Proofs.Ytahnjfbcklifoaa
