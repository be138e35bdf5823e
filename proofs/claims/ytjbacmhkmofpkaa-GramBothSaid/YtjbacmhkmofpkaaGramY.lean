/- gram: awake. -/
import Derived.Test.YtjbacmhkmofpkaaGramX
namespace Go.Proofs.Ytjbacmhkmofpkaa
set_option linter.unusedVariables false
set_option linter.unusedSimpArgs false
open Go.RowKit
attribute [local go_sem] S_size S_toList S_append S_extract S_beq S_bne S_empty S_nil

theorem run_build_rec (l : List UInt8) (w : World) : (Instr.build 57 #[(2, .string (S l))]).run Try.prog w = .ok (.agg #[.int .i64 0, .int .i64 0, .string (S l)]) w := by kernel_rfl
theorem run_bs_rec (r : Rec) (w : World) : (Instr.buildSlice 39 1 #[(0, .agg #[.int .i64 r.1, .int .i64 r.2.1, .string (S r.2.2)])]).run Try.prog w = .ok (.slice (some ⟨w.heap.size, 0, none⟩) 1 1) (w.alloc (.cells (recCells r).toArray 57)) := by kernel_rfl
theorem rd_one (r : Rec) (w : World) : RD recCells 3 (w.alloc (.cells (recCells r).toArray 57)) (.slice (some ⟨w.heap.size, 0, none⟩) 1 1) [r] := by
  have := WR.lit recCells_length w 57 [r] (by simp) (recCells r).toArray (by simp)
  exact WR.rd recCells_length this
theorem fold_one (a : W4) : foldL [a] = a := by
  apply w4_ext
  intro i hi
  rw [bit_fold _ hi]; simp
theorem fold_none (a : W4) : foldL [a, empty4] = a := by
  apply w4_ext
  intro i hi
  rw [bit_fold _ hi]; simp [show bitL empty4.1 i = false from bit_empty i]
def abcd : List UInt8 := [97, 98, 99, 100]
theorem mark_abc : markL 97 98 99 = 16 := by decide
theorem count_abcd : countL (ofL abcd).1 = 2 := by decide +kernel
theorem may_bcd : (unionL (ofL abcd).1 (ofL [98, 99, 100]).1 == (ofL abcd).1) = true := by decide +kernel
theorem may_xyz : (unionL (ofL abcd).1 (ofL [120, 121, 122]).1 == (ofL abcd).1) = false := by decide +kernel
theorem may_zz : (unionL (ofL abcd).1 (ofL [122, 122]).1 == (ofL abcd).1) = true := by decide +kernel
theorem get_x (m : W4) : getW (((120 :: putL m).drop 1).take 32) = m := by
  rw [List.drop_succ_cons, List.drop_zero, List.take_of_length_le (by rw [putL_length]; omega), get_put]

set_option maxRecDepth 20000 in
set_option maxHeartbeats 4000000 in
theorem awake40 (w : World) : Calls Try.prog 8 #[] w fun e w' => e = .returned (.bool true) ∧ Ext w w' := by
  have l1 : (ByteArray.mk #[97, 98, 99, 100]) = S [97, 98, 99, 100] := rfl
  have l2 : (ByteArray.mk #[120]) = S [120] := rfl
  have l3 : (ByteArray.mk #[98, 99, 100]) = S [98, 99, 100] := rfl
  have l4 : (ByteArray.mk #[120, 121, 122]) = S [120, 121, 122] := rfl
  have l5 : (ByteArray.mk #[122, 122]) = S [122, 122] := rfl
  have q1 := Lib.hid (fun w => of_any abcd w (by decide))
  have q2 := Lib.hid (fun w => put_any (ofL abcd) w)
  have hpl := putL_length (ofL abcd)
  have q3 := Lib.hid (fun w => (get_x (ofL abcd) ▸ get_ok (120 :: putL (ofL abcd)) 1 w (by rw [List.length_cons, hpl]; decide) (by rw [List.length_cons, hpl]; decide) : Calls Try.prog 19 #[.string (S (120 :: putL (ofL abcd))), .int .i64 1] w fun e w' => e = .returned (.tuple #[MV (ofL abcd).1, .int .i64 33, .int .i64 0]) ∧ Ext w w'))
  have q4 := Lib.hid (fun w => (get_short (putL (ofL abcd)) 1 w (by omega) (by omega) (by rw [hpl]; decide) : Calls Try.prog 19 #[.string (S (putL (ofL abcd))), .int .i64 1] w fun e w' => e = .returned (.tuple #[MV emptyL, .int .i64 0, .int .i64 4]) ∧ Ext w w'))
  have q5 := Lib.hid (fun w => (show Calls Try.prog 23 #[.int .u8 97, .int .u8 98, .int .u8 99] w fun e w' => e = .returned (.int .i64 16) ∧ w = w' from by have h := mark_any 97 98 99 w; rw [mark_abc] at h; exact h).mono (fun e w' h => (⟨h.1, h.2 ▸ Ext.refl _⟩ : e = .returned (.int .i64 16) ∧ Ext w w')))
  have q6 := Lib.hid (fun w => (show Calls Try.prog 16 #[MV (ofL abcd).1] w fun e w' => e = .returned (.int .i64 2) ∧ Ext w w' from by have h := count_any (ofL abcd) w; rw [count_abcd] at h; exact h))
  have q7 := Lib.hid (fun w => (may_bcd ▸ may_any (ofL abcd) [98, 99, 100] w (by decide) : Calls Try.prog 14 #[MV (ofL abcd).1, .string (S [98, 99, 100])] w fun e w' => e = .returned (.bool true) ∧ Ext w w'))
  have q8 := Lib.hid (fun w => (may_xyz ▸ may_any (ofL abcd) [120, 121, 122] w (by decide) : Calls Try.prog 14 #[MV (ofL abcd).1, .string (S [120, 121, 122])] w fun e w' => e = .returned (.bool false) ∧ Ext w w'))
  have q9 := Lib.hid (fun w => (may_zz ▸ may_any (ofL abcd) [122, 122] w (by decide) : Calls Try.prog 14 #[MV (ofL abcd).1, .string (S [122, 122])] w fun e w' => e = .returned (.bool true) ∧ Ext w w'))
  have q10 := Lib.hid (fun v w (hv : RD recCells 3 w v [(0, 0, abcd)]) => (show allL [(0, 0, abcd)] = ofL abcd from fold_one _) ▸ all_any [(0, 0, abcd)] v w hv (by decide) (by intro r hr; obtain rfl := List.mem_singleton.1 hr; decide))
  have q11 := Lib.hid (fun v B w (hv : MW w B v [ofL abcd, empty4]) => fold_none (ofL abcd) ▸ both_any [ofL abcd, empty4] v B w hv (by decide))
  have hE := fun w => (beq_self_eq_true (ofL abcd).1 ▸ marks_eql (ofL abcd).1 (ofL abcd).1 (ofL abcd).2 (ofL abcd).2 w : (binOp .eql 29 (.agg (wordsL (ofL abcd).1).toArray) (.agg (wordsL (ofL abcd).1).toArray)).run Try.prog w = .ok (.bool true) w)
  have hb1 := run_build_rec abcd
  have hcat := fun w => run_cat (P := Try.prog) [120] (putL (ofL abcd)) (by rw [hpl]; decide) w
  unfold MV at *
  generalize ofL abcd = m at *
  generalize putL m = p at *
  have q1 := Lib.hid (show ∀ w, Calls Try.prog 11 #[.string (ByteArray.mk #[97, 98, 99, 100])] w _ from q1.out)
  have hm := m.2
  go_enter Try.func8, Try.ntmps8
  go_wp2_with fail
  refine (q1.out _).mono ?_
  rintro e w1 ⟨rfl, x1⟩
  have X1 := Lib.hid (x1.alloc (.cells (wordsL m.1).toArray 29))
  have M1 := Lib.hid (Blk.new w1 29 (wordsL m.1).toArray)
  clear x1
  go_wp2_with (first
    | (refine wpList_store_new rfl 29 (.tmp 1) (.tmp 9) rfl rfl rfl (by rw [wordsL_size, hm]; rfl) (marks_size hm) (wordsL_one _) ?_)
    | (refine wpList_load_blk rfl 29 (.tmp 1) rfl rfl M1.out Try.underlying29 rfl (marks_size hm) ?_))
  refine (q2.out _).mono ?_
  rintro e w2 ⟨rfl, x2⟩
  have X2 := Lib.hid (X1.out.trans x2)
  have M2 := Lib.hid (M1.out.ext x2)
  clear x2
  go_wp2_with fail
  refine (q3.out _).mono ?_
  rintro e w3 ⟨rfl, x3⟩
  have X3 := Lib.hid ((X2.out.trans x3).alloc (.cells (wordsL m.1).toArray 29))
  have M3 := Lib.hid ((M2.out.ext x3).alloc (.cells (wordsL m.1).toArray 29))
  have N3 := Lib.hid (Blk.new w3 29 (wordsL m.1).toArray)
  clear x3
  go_wp2_with (first
    | (refine wpList_store_new rfl 29 (.tmp 3) (.tmp 16) rfl rfl rfl (by rw [wordsL_size, hm]; rfl) (marks_size hm) (wordsL_one _) ?_))
  refine (q4.out _).mono ?_
  rintro e w4 ⟨rfl, x4⟩
  have X4 := Lib.hid ((X3.out.trans x4).alloc (.cells (wordsL emptyL).toArray 29))
  have M4 := Lib.hid ((M3.out.ext x4).alloc (.cells (wordsL emptyL).toArray 29))
  have N4 := Lib.hid ((N3.out.ext x4).alloc (.cells (wordsL emptyL).toArray 29))
  clear x4
  go_wp2_with (first
    | (refine wpList_store_new rfl 29 (.tmp 6) (.tmp 22) rfl rfl rfl rfl (marks_size (m := emptyL) rfl) (wordsL_one _) ?_))
  refine wp_region_lex _ rfl (by kernel_rfl) ?_
  dsimp only [List.length_cons, List.length_nil]
  repeat (first
    | (refine lex_load_blk (by kernel_rfl) (by kernel_rfl) (by kernel_rfl) (by kernel_rfl) (fun _ _ _ _ h => h) (by kernel_rfl) 29 (.tmp 1) rfl rfl M4.out Try.underlying29 rfl (marks_size hm) ?_)
    | (refine lex_load_blk (by kernel_rfl) (by kernel_rfl) (by kernel_rfl) (by kernel_rfl) (fun _ _ _ _ h => h) (by kernel_rfl) 29 (.tmp 3) rfl rfl N4.out Try.underlying29 rfl (marks_size hm) ?_)
    | (refine lex_want (by kernel_rfl) (by kernel_rfl) (by kernel_rfl) (by kernel_rfl) (fun _ _ _ _ h => h) (by kernel_rfl) (fun K hK => ?_)
       go_simp
       first
         | (refine hK _ ?_; clear hK K)
         | (apply Exists.intro
            refine ⟨fun _ => ?_, hK _ ?_⟩
            (first
               | (go_at_call 23; (with_reducible exact q5.out _))
               | (go_at_call 16; (with_reducible exact q6.out _))
               | (go_at_call 14; (with_reducible exact q7.out _))
               | (go_at_call 14; (with_reducible exact q8.out _))
               | (go_at_call 14; (with_reducible exact q9.out _)))
            clear hK K)))
  refine lex_ahead_load 2 rfl (by kernel_rfl) (by kernel_rfl) (by kernel_rfl) (fun _ _ _ _ h => h) (by kernel_rfl) 29 (.tmp 1) rfl rfl M4.out Try.underlying29 rfl (marks_size hm) ?_
  refine out_only (by kernel_rfl) (by kernel_rfl) (fun x K hK => ?_)
  refine wp_bs (vs := #[(0, .agg #[.int .i64 0, .int .i64 0, .string (S abcd)])]) 39 1 _ rfl rfl (run_bs_rec (0, 0, abcd) x.val) (hK.out _ _ ((Ext.refl _).alloc _) ?_)
  have M5 := Lib.hid ((M4.out.drew.ext x.ext).alloc (.cells (recCells (0, 0, abcd)).toArray 57))
  have X5 := Lib.hid ((X4.out.drew.trans x.ext).alloc (.cells (recCells (0, 0, abcd)).toArray 57))
  have R5 := Lib.hid (rd_one (0, 0, abcd) x.val)
  clear hK K
  generalize x.val.alloc (.cells (recCells (0, 0, abcd)).toArray 57) = w5 at *
  refine out_want (by kernel_rfl) (by kernel_rfl) (by kernel_rfl) (fun _ _ _ _ h => h) (by kernel_rfl) (fun K hK => ?_)
  go_simp
  apply Exists.intro
  refine ⟨fun y => ?_, hK _ ?_⟩
  · go_at_call 25
    exact q10.out _ _ (RD.ext R5.out y.ext)
  clear hK K
  refine out_done (out_lex (n := 58) (by kernel_rfl) ?_)
  iterate 5 (first
    | (refine lex_load_blk (by kernel_rfl) (by kernel_rfl) (by kernel_rfl) (by kernel_rfl) (fun _ _ _ _ h => h) (by kernel_rfl) 29 (.tmp 1) rfl rfl M5.out Try.underlying29 rfl (marks_size hm) ?_)
    | (refine lex_want (by kernel_rfl) (by kernel_rfl) (by kernel_rfl) (by kernel_rfl) (fun _ _ _ _ h => h) (by kernel_rfl) (fun K hK => ?_)
       go_simp
       (refine hK _ ?_; clear hK K)))
  refine lex_ahead_load 2 rfl (by kernel_rfl) (by kernel_rfl) (by kernel_rfl) (fun _ _ _ _ h => h) (by kernel_rfl) 29 (.tmp 1) rfl rfl M5.out Try.underlying29 rfl (marks_size hm) ?_
  refine out_only (by kernel_rfl) (by kernel_rfl) (fun x K hK => ?_)
  refine wp_bs (vs := #[(0, .agg (wordsL m.1).toArray), (1, .agg (wordsL empty4.1).toArray)]) 59 2 _ rfl rfl (run_bs2 m empty4 x.val) (hK.out _ _ ((Ext.refl _).alloc _) ?_)
  have X6 := Lib.hid ((X5.out.trans x.ext).alloc (.cells ([m, empty4].flatMap cells4).toArray 29))
  have R6 := Lib.hid (mw_lit x.val [m, empty4] (by simp))
  clear hK K
  generalize x.val.alloc (.cells ([m, empty4].flatMap cells4).toArray 29) = w6 at *
  refine out_want (by kernel_rfl) (by kernel_rfl) (by kernel_rfl) (fun _ _ _ _ h => h) (by kernel_rfl) (fun K hK => ?_)
  go_simp
  apply Exists.intro
  refine ⟨fun y => ?_, hK _ ?_⟩
  · go_at_call 10
    exact q11.out _ _ _ (WR.ext R6.out y.ext)
  clear hK K
  refine out_done (out_lex (n := 58) (by kernel_rfl) ?_)
  repeat (first
    | (refine lex_want (by kernel_rfl) (by kernel_rfl) (by kernel_rfl) (by kernel_rfl) (fun _ _ _ _ h => h) (by kernel_rfl) (fun K hK => ?_)
       go_simp
       (refine hK _ ?_; clear hK K)))
  refine lex_done (by kernel_rfl) (fun y => ?_)
  go_wp2
  go_ret
  exact ⟨rfl, X6.out.trans y.ext⟩
end Go.Proofs.Ytjbacmhkmofpkaa
