/- gram: the law GramLooks. -/
import Derived.Test.YtjbacmhkmofpkaaGramLA
namespace Go.Proofs.Ytjbacmhkmofpkaa
set_option linter.unusedVariables false
set_option linter.unusedSimpArgs false
open Go.RowKit
attribute [local go_sem] S_size S_toList S_append S_extract S_beq S_bne S_empty S_nil zero256_run zero256_ne

theorem range_far {w : World} {g o k : Nat} {cs : List Value} (h : w.rangeAt g o cs) (hne : g ≠ k) (cs' : Array Value) : (w.setRow k cs').rangeAt g o cs := fun j v hv => by
  rw [World.cell?_of_block (w := w) (w' := w.setRow k cs') (a := ⟨g, o + j, none⟩) (setRow_other w k g cs' hne)]; exact h j v hv
theorem run_bs2' (m n : W4) (w : World) : (Instr.buildSlice 59 2 #[(0, .agg (wordsL m.1).toArray), (1, .agg (wordsL n.1).toArray)]).run Try.prog w = .ok (.slice (some ⟨w.heap.size, 0, none⟩) 2 2) (w.alloc (.cells (cells4 m ++ cells4 n).toArray 29)) := by
  have h := run_bs2 m n w
  rw [List.flatMap_cons, List.flatMap_cons, List.flatMap_nil, List.append_nil] at h
  exact h
theorem mw_two (m n : W4) (w : World) : MW (w.alloc (.cells (cells4 m ++ cells4 n).toArray 29)) w.heap.size (.slice (some ⟨w.heap.size, 0, none⟩) 2 2) [m, n] := by
  have h := mw_lit w [m, n] (by simp)
  rw [List.flatMap_cons, List.flatMap_cons, List.flatMap_nil, List.append_nil] at h
  exact h
theorem bool_info : ∃ i, Try.prog.info? 4 = some i := by
  cases h : Try.prog.info? 4 with
  | some i => exact ⟨i, rfl⟩
  | none => exact absurd h (by decide +kernel)
theorem bool_equalIn (a b : Bool) (w : World) : (Op.equalIn 9999 4 (.bool a) (.bool b)).run Try.prog w = .ok (a == b) w := by
  exact run_equalIn_bool w 9998 _ a b Try.underlying4
theorem bools_eql (a b : List Bool) (ha : a.length = 256) (hb : b.length = 256) (w : World) : (binOp .eql 27 (.agg (boolsV a).toArray) (.agg (boolsV b).toArray)).run Try.prog w = .ok (.bool (a == b)) w := by
  obtain ⟨i, hi⟩ := bool_info
  have := equalIn_arr (P := Try.prog) (e := 4) (f := fun x : Bool => Value.bool x) (by kernel_rfl) 9999 bool_equalIn Try.underlying27 hi (by kernel_rfl) a b ha hb w
  rw [run_eql_struct, show boolsV a = a.map fun x => Value.bool x from rfl, show boolsV b = b.map fun x => Value.bool x from rfl, this]; rfl
theorem bools_same (a : List Bool) (ha : a.length = 256) (w : World) : (binOp .eql 27 (.agg (boolsV a).toArray) (.agg (boolsV a).toArray)).run Try.prog w = .ok (.bool true) w := by
  rw [bools_eql a a ha ha w, beq_self_eq_true]

set_option maxRecDepth 20000 in
set_option maxHeartbeats 4000000 in
theorem gramLooks_in (s what : List UInt8) (a b : W4) (w : World) (h1 : ¬ (2000 : Int) < s.length) (h2 : ¬ (500 : Int) < what.length) :
    Calls Try.prog 3 #[.string (S s), .string (S what), PV a b] w fun e w' => e = .returned (.bool true) ∧ Ext w w' := by
  have b1 := Blk.new w 25 (wordsL (a.1 ++ b.1)).toArray
  have r1 := Lib.hid (pair_ranges b1).1
  have r2 := Lib.hid (pair_ranges b1).2
  have X0 := Lib.hid ((Ext.refl w).alloc (.cells (wordsL (a.1 ++ b.1)).toArray 25))
  clear b1
  have qa := Lib.hid awake40
  have q1 := Lib.hid (fun w => of_any s w (by omega))
  have q2 := Lib.hid (fun w => rbools_any (ofL s) w)
  have q3 := Lib.hid (fun w => rof_any s w (by omega))
  have q4 := Lib.hid (fun w => rbools_any (foldL [a, b]) w)
  have q5 := Lib.hid (fun w => (bools_two a b ▸ rboth_any (boolsL a.1) (boolsL b.1) w (boolsL_length _) (boolsL_length _) : Calls Try.prog 13 #[BV (boolsL a.1), BV (boolsL b.1)] w fun e w' => e = .returned (BV (boolsL (foldL [a, b]).1)) ∧ Ext w w'))
  have q6 := Lib.hid (fun w => may_any a what w (by omega))
  have q7 := Lib.hid (fun w => (may_mayB a (ofL what) ▸ rmay_any (boolsL a.1) what w (boolsL_length _) (by omega) : Calls Try.prog 15 #[BV (boolsL a.1), .string (S what)] w fun e w' => e = .returned (.bool (unionL a.1 (ofL what).1 == a.1)) ∧ Ext w w'))
  have q8 := Lib.hid (fun w => count_any a w)
  have q9 := Lib.hid (fun w => (count_bools a ▸ rcount_any (boolsL a.1) w (boolsL_length _) : Calls Try.prog 17 #[BV (boolsL a.1)] w fun e w' => e = .returned (.int .i64 (countL a.1)) ∧ Ext w w'))
  have q10 := Lib.hid (fun w => rbools_any a w)
  have q11 := Lib.hid (fun w => rbools_any b w)
  have q12 := Lib.hid (fun v B w (hv : MW w B v [a, b]) => both_any [a, b] v B w hv (by simp))
  have hla := boolsL_length a.1
  have hlb := boolsL_length b.1
  have E1 := bools_same (boolsL (ofL s).1) (boolsL_length _)
  have E2 := bools_same (boolsL (foldL [a, b]).1) (boolsL_length _)
  have hmid := words4_mid a
  have hmid2 := words4_mid b
  unfold PV MV BV at *
  have RB := Lib.hid (run_bs2' a b)
  have RL := Lib.hid (mw_two a b)
  generalize (wordsL (a.1 ++ b.1)).toArray = cs at *
  generalize hf : foldL [a, b] = f at *
  clear hf
  generalize ofL s = m at *
  generalize boolsL m.1 = z1 at *
  generalize boolsL f.1 = z2 at *
  generalize boolsL a.1 = za at *
  generalize boolsL b.1 = zb at *
  generalize (unionL a.1 (ofL what).1 == a.1) = r at *
  generalize countL a.1 = c at *
  have hfm := f.2
  go_enter Try.func3, Try.ntmps3
  go_wp2_with fail
  refine wp_region_lex _ rfl (by kernel_rfl) ?_
  dsimp only [List.length_cons, List.length_nil]
  iterate 6 (first
    | (refine lex_load_range (by kernel_rfl) (by kernel_rfl) (by kernel_rfl) (by kernel_rfl) (fun _ _ _ _ h => h) (by kernel_rfl) 23 (.tmp 20) rfl rfl r1.out Try.underlying23 rfl hmid ?_)
    | (refine lex_load_range (by kernel_rfl) (by kernel_rfl) (by kernel_rfl) (by kernel_rfl) (fun _ _ _ _ h => h) (by kernel_rfl) 23 (.tmp 19) rfl rfl r1.out Try.underlying23 rfl hmid ?_)
    | (refine lex_load_range (by kernel_rfl) (by kernel_rfl) (by kernel_rfl) (by kernel_rfl) (fun _ _ _ _ h => h) (by kernel_rfl) 23 (.tmp 22) rfl rfl r2.out Try.underlying23 rfl hmid2 ?_)
    | (refine lex_want (by kernel_rfl) (by kernel_rfl) (by kernel_rfl) (by kernel_rfl) (fun _ _ _ _ h => h) (by kernel_rfl) (fun K hK => ?_)
       go_simp
       first
         | (refine hK _ ?_; clear hK K)
         | (apply Exists.intro
            refine ⟨fun _ => ?_, hK _ ?_⟩
            (first
               | (go_at_call 9; (with_reducible exact q10.out _))
               | (go_at_call 9; (with_reducible exact q11.out _)))
            clear hK K)))
  refine lex_alloc2 (by kernel_rfl) (by kernel_rfl) (by kernel_rfl) (by kernel_rfl) rfl rfl rfl rfl (by intro d hd; cases hd; decide) zero256_run zero256_run (fun gi gj w1 x1 hgi hgj hij hbi hbj => ?_)
  have hsz : w.heap.size + 1 ≤ gi ∧ w.heap.size + 1 ≤ gj := by
    have e : (w.alloc (.cells cs 25)).drew.heap.size = w.heap.size + 1 := World.size_alloc ..
    omega
  have Y1 := Lib.hid (X0.out.drew.trans x1)
  have s1 := Lib.hid (rangeAt_ext (rangeAt_drew r1.out) x1)
  have s2 := Lib.hid (rangeAt_ext (rangeAt_drew r2.out) x1)
  have HI := Lib.hid hbi
  have HJ := Lib.hid hbj
  have HN := Lib.hid (And.intro hsz hij)
  clear x1 hgi hgj hbi hbj hsz hij
  refine lex_tail (by kernel_rfl) (by kernel_rfl) (by kernel_rfl) (by kernel_rfl) (fun x K hK => ?_)
  refine wp_store_blk 27 (.tmp 7) (.tmp 21) rfl rfl rfl (HI.out.ext x.ext) (by rw [bools_zero, boolsV_size, boolsV_size, hla, noneB_length]) (bools_size hla) (boolsV_one _) (hK _ _ ?_)
  have Y2 := Lib.hid (Ext.setRow (Y1.out.trans x.ext) (show w.heap.size ≤ gi by have := HN.out; omega) (boolsV za).toArray)
  have t1 := Lib.hid (range_far (rangeAt_ext s1.out x.ext) (show w.heap.size ≠ gi by have := HN.out; omega) (boolsV za).toArray)
  have t2 := Lib.hid (range_far (rangeAt_ext s2.out x.ext) (show w.heap.size ≠ gi by have := HN.out; omega) (boolsV za).toArray)
  have I2 := Lib.hid ((HI.out.ext x.ext).setRow (boolsV za).toArray)
  have J2 := Lib.hid ((HJ.out.ext x.ext).setRow_far (show gj ≠ gi by have := HN.out; omega) (boolsV za).toArray)
  clear hK K
  generalize x.val.setRow gi (boolsV za).toArray = w2 at *
  refine lex_last (by kernel_rfl) (by kernel_rfl) (by kernel_rfl) (by kernel_rfl) (by kernel_rfl) (fun x K hK => ?_)
  refine wp_store_blk 27 (.tmp 8) (.tmp 24) rfl rfl rfl (J2.out.ext x.ext) (by rw [bools_zero, boolsV_size, boolsV_size, hlb, noneB_length]) (bools_size hlb) (boolsV_one _) (hK _ _ (fun y => ?_))
  have Y3 := Lib.hid ((Ext.setRow (Y2.out.trans x.ext) (show w.heap.size ≤ gj by have := HN.out; omega) (boolsV zb).toArray).trans y.ext)
  have u1 := Lib.hid (rangeAt_ext (range_far (rangeAt_ext t1.out x.ext) (show w.heap.size ≠ gj by have := HN.out; omega) (boolsV zb).toArray) y.ext)
  have u2 := Lib.hid (rangeAt_ext (range_far (rangeAt_ext t2.out x.ext) (show w.heap.size ≠ gj by have := HN.out; omega) (boolsV zb).toArray) y.ext)
  have I3 := Lib.hid (((I2.out.ext x.ext).setRow_far (show gi ≠ gj by have := HN.out; omega) (boolsV zb).toArray).ext y.ext)
  have J3 := Lib.hid (((J2.out.ext x.ext).setRow (boolsV zb).toArray).ext y.ext)
  clear hK K
  generalize y.val = w3 at *
  go_wp2_with (first
    | (refine wpList_load_mid rfl 23 (.tmp 25) rfl w.heap.size 0 rfl _ _ u1.out Try.underlying23 rfl hmid ?_)
    | (refine wpList_load_mid rfl 23 (.tmp 27) rfl w.heap.size 4 rfl _ _ u2.out Try.underlying23 rfl hmid2 ?_)
    | (refine wpList_bs (vs := #[(0, .agg (wordsL a.1).toArray), (1, .agg (wordsL b.1).toArray)]) rfl 59 2 _ rfl rfl (RB.out _) ?_))
  refine (q12.out _ _ _ (RL.out w3)).mono ?_
  rintro e w4 ⟨rfl, x4⟩
  have x4' := ((Ext.refl w3).alloc (.cells (cells4 a ++ cells4 b).toArray 29)).trans x4
  have Y4 := Lib.hid ((Y3.out.trans x4').alloc (.cells (wordsL f.1).toArray 29))
  have v1 := Lib.hid (rangeAt_ext u1.out (x4'.alloc (.cells (wordsL f.1).toArray 29)))
  have I4 := Lib.hid (I3.out.ext (x4'.alloc (.cells (wordsL f.1).toArray 29)))
  have J4 := Lib.hid (J3.out.ext (x4'.alloc (.cells (wordsL f.1).toArray 29)))
  have M4 := Lib.hid (Blk.new w4 29 (wordsL f.1).toArray)
  clear x4 x4'
  go_wp2_with (first
    | (refine wpList_store_new rfl 29 (.tmp 9) (.tmp 30) rfl rfl rfl (by rw [wordsL_size, hfm]; rfl) (marks_size hfm) (wordsL_one _) ?_))
  refine wp_region_lex _ rfl (by kernel_rfl) ?_
  dsimp only [List.length_cons, List.length_nil]
  repeat (first
    | (refine lex_load_range (by kernel_rfl) (by kernel_rfl) (by kernel_rfl) (by kernel_rfl) (fun _ _ _ _ h => h) (by kernel_rfl) 23 (.tmp 46) rfl rfl (rangeAt_drew v1.out) Try.underlying23 rfl hmid ?_)
    | (refine lex_load_range (by kernel_rfl) (by kernel_rfl) (by kernel_rfl) (by kernel_rfl) (fun _ _ _ _ h => h) (by kernel_rfl) 23 (.tmp 56) rfl rfl (rangeAt_drew v1.out) Try.underlying23 rfl hmid ?_)
    | (refine lex_load_blk (by kernel_rfl) (by kernel_rfl) (by kernel_rfl) (by kernel_rfl) (fun _ _ _ _ h => h) (by kernel_rfl) 29 (.tmp 9) rfl rfl M4.out.drew Try.underlying29 rfl (marks_size hfm) ?_)
    | (refine lex_load_blk (by kernel_rfl) (by kernel_rfl) (by kernel_rfl) (by kernel_rfl) (fun _ _ _ _ h => h) (by kernel_rfl) 27 (.tmp 7) rfl rfl I4.out.drew Try.underlying27 rfl (bools_size hla) ?_)
    | (refine lex_load_blk (by kernel_rfl) (by kernel_rfl) (by kernel_rfl) (by kernel_rfl) (fun _ _ _ _ h => h) (by kernel_rfl) 27 (.tmp 8) rfl rfl J4.out.drew Try.underlying27 rfl (bools_size hlb) ?_)
    | (refine lex_want (by kernel_rfl) (by kernel_rfl) (by kernel_rfl) (by kernel_rfl) (fun _ _ _ _ h => h) (by kernel_rfl) (fun K hK => ?_)
       go_simp
       first
         | (refine hK _ ?_; clear hK K)
         | (apply Exists.intro
            refine ⟨fun _ => ?_, hK _ ?_⟩
            (first
               | (go_at_call 11; (with_reducible exact q1.out _))
               | (go_at_call 9; (with_reducible exact q2.out _))
               | (go_at_call 12; (with_reducible exact q3.out _))
               | (go_at_call 9; (with_reducible exact q4.out _))
               | (go_at_call 13; (with_reducible exact q5.out _))
               | (go_at_call 14; (with_reducible exact q6.out _))
               | (go_at_call 15; (with_reducible exact q7.out _))
               | (go_at_call 16; (with_reducible exact q8.out _))
               | (go_at_call 17; (with_reducible exact q9.out _))
               | (go_at_call 8; (with_reducible exact qa.out _)))
            clear hK K)))
  refine lex_done (by kernel_rfl) (fun y => ?_)
  go_wp2
  go_ret
  exact ⟨rfl, Y4.out.drew.trans y.ext⟩

set_option maxRecDepth 20000 in
set_option maxHeartbeats 2000000 in
theorem gramLooks_law (s1 : ByteArray) (hs1 : s1.size ≤ maxLen) (s2 : ByteArray) (hs2 : s2.size ≤ maxLen) (a b : W4) (w : World) :
    Calls Try.prog 3 #[.string s1, .string s2, PV a b] w fun e w' => e = .returned (.bool true) ∧ Ext w w' := by
  obtain ⟨s, rfl, hh⟩ := S_ex s1
  obtain ⟨d, rfl, hd⟩ := S_ex s2
  rw [S_size] at hs1 hs2
  unfold maxLen at hs1 hs2
  have qa := Lib.hid awake40
  have X0 := Lib.hid ((Ext.refl w).alloc (.cells (wordsL (a.1 ++ b.1)).toArray 25))
  clear hh hd
  by_cases h1 : (2000 : Int) < s.length
  · unfold PV
    generalize (wordsL (a.1 ++ b.1)).toArray = cs at *
    go_enter Try.func3, Try.ntmps3
    go_wp2_with fail
    refine (qa.out _).mono ?_
    rintro e w1 ⟨rfl, x1⟩
    go_wp2
    go_ret
    exact ⟨rfl, X0.out.trans x1⟩
  by_cases h2 : (500 : Int) < d.length
  · unfold PV
    generalize (wordsL (a.1 ++ b.1)).toArray = cs at *
    go_enter Try.func3, Try.ntmps3
    go_wp2_with fail
    refine (qa.out _).mono ?_
    rintro e w1 ⟨rfl, x1⟩
    go_wp2
    go_ret
    exact ⟨rfl, X0.out.trans x1⟩
  exact gramLooks_in s d a b w h1 h2
end Go.Proofs.Ytjbacmhkmofpkaa
