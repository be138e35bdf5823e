/- CrcAny: the law's walk. -/
import Derived.Test.YtahnjfbcklifoaaCrcL2
namespace Go.Proofs.Ytahnjfbcklifoaa
set_option linter.unusedVariables false
set_option linter.unusedSimpArgs false
open Go.RowKit
attribute [local go_sem] U8_fold U8_toNat u32_xor u32_and u8_xor8 u8_of_u32 u32_of_u8 u32_xor_u8 u32_mod256 u32_shr1 u32_shr8 u32_beq u32_and1 u32_beq1 u32_not signed_u32 signed_u8 xor_poly u32_tmod2 u32_mod2 u32_tmod256 u32_wrap u32_tdiv2 u32_tdiv256 u32_max_sub u32_bne u32_beq0

set_option maxRecDepth 20000 in
set_option maxHeartbeats 1000000 in
theorem crcAny_out (T : List UInt32) (s : ByteArray) (n0 n1 : Int) (w : World) (hs : s.size ≤ maxLen)
    (h : (5000 : Int) < s.size ∨ (¬ (5000 : Int) < s.size ∧ 3000 < n0)) :
    Calls Try.prog 6 #[.agg (tabL T).toArray, .string s, .agg #[.int .i64 n0, .int .i64 n1]] w fun e w' => e = .returned (.bool true) ∧ Ext w w' := by
  unfold maxLen at hs
  rcases h with h1 | ⟨h1, h2⟩
  all_goals
    go_enter Try.func6, Try.ntmps6
    go_wp2_with (go_at_call 15; refine (awake05 _).mono ?_; rintro e w' ⟨rfl, hx⟩)
    go_ret
    exact ⟨rfl, (((Ext.refl _).alloc _).alloc _).trans hx⟩

set_option maxRecDepth 20000 in
set_option maxHeartbeats 1000000 in
theorem crcAny_in (T : List UInt32) (s : ByteArray) (n0 n1 : Int) (w : World) (hT : T.length = 256) (h1 : s.size ≤ 5000) (h2 : n0 ≤ 3000) :
    Calls Try.prog 6 #[.agg (tabL T).toArray, .string s, .agg #[.int .i64 n0, .int .i64 n1]] w fun e w' => e = .returned (.bool true) ∧ Ext w w' := by
  have hm : s.size ≤ maxLen := by unfold maxLen; omega
  have h1' : ¬ (5000 : Int) < s.size := by omega
  have h2' : ¬ 3000 < n0 := by omega
  have hi := tab_size hT
  obtain ⟨c, hc⟩ := u32_of_int (bits BinOp.and IntKind.i64 n1 4294967295 % 4294967296) (by omega)
  have q1 := Lib.hid (fun w => of_any T s w hT hm)
  have q2 := Lib.hid (fun w => refMore_any T 0 s w hT hm)
  have e0 : U32 0 = 0 := rfl
  rw [e0] at q2
  have q3 := Lib.hid (fun w => noughts_any T c n0 w hT)
  have q4 := Lib.hid (fun w => refNoughts_any T c n0 w hT)
  have q5 := Lib.hid (fun w => turned_any T c s n0 w hT hm)
  have q6 := Lib.hid (fun w => refTurned_any T c s n0 w hT hm)
  clear hT h1 h2 hm e0
  generalize ~~~ restL T (~~~ 0) (bytesOf s) = A at q1 q2
  generalize ~~~ restL T (~~~ c) (zerosL n0) = B at q3 q4
  generalize c ^^^ restL T (restL T 0 (bytesOf s)) (zerosL n0) = C at q5 q6
  have hb : Blk ((w.alloc (.cells (tabL T).toArray 24)).alloc (.cells #[.int .i64 n0, .int .i64 n1] 35)) w.heap.size 24 (tabL T).toArray := (Blk.new w _ _).alloc _
  have hn : ((w.alloc (.cells (tabL T).toArray 24)).alloc (.cells #[.int .i64 n0, .int .i64 n1] 35)).cell? ⟨w.heap.size + 1, 0, none⟩ = some (.int .i64 n0) := by
    have h := World.cell?_alloc_new (w.alloc (.cells (tabL T).toArray 24)) #[.int .i64 n0, .int .i64 n1] 35 0
    rw [World.size_alloc] at h
    exact h
  have c1 := up_cell hn
  clear hn
  go_enter Try.func6, Try.ntmps6
  go_wp2
  refine wp_region_up (by kernel_rfl) (by kernel_rfl) ?_
  repeat (first
    | (refine wpQuiet_load_blk rfl 24 (.tmp 3) rfl rfl hb Try.underlying24 rfl hi ?_)
    | (quiet_step (first
       | (go_at_call 18; (with_reducible exact up_call (q1.out _)))
       | (go_at_call 21; (with_reducible exact up_call (q2.out _)))
       | (go_at_call 22; (with_reducible exact up_call (q3.out _)))
       | (go_at_call 24; (with_reducible exact up_call (q4.out _)))
       | (go_at_call 25; (with_reducible exact up_call (q5.out _)))
       | (go_at_call 26; (with_reducible exact up_call (q6.out _)))
       | (go_at_call 15; exact up_call (awake05 _)))))
  refine wpQuiet_nil ?_
  rintro _ ⟨y, rfl⟩
  go_wp2
  go_ret
  exact ⟨rfl, (((Ext.refl _).alloc _).alloc _).trans y.ext⟩

theorem crcAny_law (zs : List Int) (hz : zs.length = 256) (wz : ∀ z ∈ zs, (Lit.int .u32 z).wf = true) (s : ByteArray) (hs : s.size ≤ maxLen) (ns : List Int) (hn : ns.length = 2) (wn : ∀ z ∈ ns, (Lit.int .i64 z).wf = true) (w : World) :
    Calls Try.prog 6 #[.agg (zs.map (Value.int .u32)).toArray, .string s, .agg (ns.map (Value.int .i64)).toArray] w fun e w' => e = .returned (.bool true) ∧ Below w.heap.size w w' := by
  obtain ⟨T, hT, hl⟩ : ∃ T : List UInt32, zs.map (Value.int .u32) = tabL T ∧ T.length = 256 := by
    refine ⟨zs.map fun z => UInt32.ofNat z.toNat, ?_, by simpa using hz⟩
    unfold tabL
    rw [List.map_map]
    apply List.map_congr_left
    intro z hz
    have hx : 0 ≤ z ∧ z ≤ 4294967295 := by simpa [Lit.wf, IntKind.min, IntKind.max, IntKind.signed, IntKind.bits] using wz z hz
    show Value.int .u32 z = Value.int .u32 (U32 (UInt32.ofNat z.toNat))
    congr 1
    unfold U32; rw [UInt32.toNat_ofNat']; omega
  match ns, hn with
  | [n0, n1], _ =>
    rw [hT]
    by_cases h1 : (5000 : Int) < s.size
    · exact crcAny_out T s n0 n1 w hs (.inl h1)
    by_cases h2 : 3000 < n0
    · exact crcAny_out T s n0 n1 w hs (.inr ⟨h1, h2⟩)
    exact crcAny_in T s n0 n1 w hl (by omega) (by omega)
end Go.Proofs.Ytahnjfbcklifoaa
