/- gram: the law GramBoth. -/
import Derived.Test.YtjbacmhkmofpkaaGramLD
import Derived.Test.YtjbacmhkmofpkaaAnyZ
import Derived.Test.YtjbacmhkmofpkaaMinMax
namespace Go.Proofs.Ytjbacmhkmofpkaa
set_option linter.unusedVariables false
set_option linter.unusedSimpArgs false
open Go.RowKit
attribute [local go_sem] S_size S_toList S_append S_extract S_beq S_bne S_empty S_nil

theorem run_bs3' (m n o : W4) (w : World) : (Instr.buildSlice 59 3 #[(0, .agg (wordsL m.1).toArray), (1, .agg (wordsL n.1).toArray), (2, .agg (wordsL o.1).toArray)]).run Try.prog w = .ok (.slice (some ⟨w.heap.size, 0, none⟩) 3 3) (w.alloc (.cells (cells4 m ++ (cells4 n ++ cells4 o)).toArray 29)) := by
  have h := run_bs3 m n o w
  rw [List.flatMap_cons, List.flatMap_cons, List.flatMap_cons, List.flatMap_nil, List.append_nil] at h
  exact h
theorem mw_three (m n o : W4) (w : World) : MW (w.alloc (.cells (cells4 m ++ (cells4 n ++ cells4 o)).toArray 29)) w.heap.size (.slice (some ⟨w.heap.size, 0, none⟩) 3 3) [m, n, o] := by
  have h := mw_lit w [m, n, o] (by simp)
  rw [List.flatMap_cons, List.flatMap_cons, List.flatMap_cons, List.flatMap_nil, List.append_nil] at h
  exact h

theorem of_both' (s t : List UInt8) : ofL (s ++ t) = foldL [ofL s, ofL t, ofL (s.drop (s.length - 2) ++ t.take (min 2 t.length))] := by
  have e : t.take (min 2 t.length) = t.take 2 := by
    rw [← List.take_take, List.take_of_length_le (Nat.le_refl t.length)]
  rw [e]; exact of_both s t

set_option maxRecDepth 20000 in
set_option maxHeartbeats 4000000 in
theorem gramBoth_in (s t : List UInt8) (a b : W4) (w : World) (h1 : ¬ (2000 : Int) < s.length) (h2 : ¬ (2000 : Int) < t.length) :
    Calls Try.prog 5 #[.string (S s), .string (S t), PV a b] w fun e w' => e = .returned (.bool true) ∧ Ext w w' := by
  have b1 := Blk.new w 25 (wordsL (a.1 ++ b.1)).toArray
  have r1 := Lib.hid (pair_ranges b1).1
  have r2 := Lib.hid (pair_ranges b1).2
  have X0 := Lib.hid ((Ext.refl w).alloc (.cells (wordsL (a.1 ++ b.1)).toArray 25))
  clear b1
  have qa := Lib.hid awake40
  have hml : ((s.drop (s.length - 2) ++ t.take (min 2 t.length)).length : Int) ≤ 1000000000 := by rw [List.length_append, List.length_drop, List.length_take]; omega
  have q1 := Lib.hid (fun w => of_any (s ++ t) w (by rw [List.length_append]; omega))
  have q2 := Lib.hid (fun w => of_any s w (by omega))
  have q3 := Lib.hid (fun w => of_any t w (by omega))
  have q4 := Lib.hid (fun w => of_any (s.drop (s.length - 2) ++ t.take (min 2 t.length)) w hml)
  have q5 := Lib.hid (fun v B w (hv : MW w B v [ofL s, ofL t, ofL (s.drop (s.length - 2) ++ t.take (min 2 t.length))]) => of_both' s t ▸ both_any [ofL s, ofL t, ofL (s.drop (s.length - 2) ++ t.take (min 2 t.length))] v B w hv (by simp))
  have q6 := Lib.hid (fun v B w (hv : MW w B v [a, b]) => both_any [a, b] v B w hv (by simp))
  have q7 := Lib.hid (fun w => may_any a s w (by omega))
  have q8 := Lib.hid (fun w => may_any (foldL [a, b]) s w (by omega))
  have q9 := Lib.hid (fun w => count_any a w)
  have q10 := Lib.hid (fun w => count_any (foldL [a, b]) w)
  have q11 := Lib.hid (fun v B w (hv : MW w B v [foldL [a, b], a]) => fold_again a b ▸ both_any [foldL [a, b], a] v B w hv (by simp))
  have hmore := may_more a b (ofL s)
  have hcnt : ((countL a.1 : Nat) : Int) ≤ ((countL (foldL [a, b]).1 : Nat) : Int) := by have := count_more a b; omega
  have N1 := fun w => (show (binOp .neq 29 (.agg (wordsL (ofL (s ++ t)).1).toArray) (.agg (wordsL (ofL (s ++ t)).1).toArray)).run Try.prog w = .ok (.bool false) w from by
    rw [marks_neq _ _ (ofL (s ++ t)).2 (ofL (s ++ t)).2, beq_self_eq_true]; rfl)
  have E1 := fun w => (beq_self_eq_true (foldL [a, b]).1 ▸ marks_eql (foldL [a, b]).1 (foldL [a, b]).1 (foldL [a, b]).2 (foldL [a, b]).2 w : (binOp .eql 29 (.agg (wordsL (foldL [a, b]).1).toArray) (.agg (wordsL (foldL [a, b]).1).toArray)).run Try.prog w = .ok (.bool true) w)
  have hmid := words4_mid a
  have hmid2 := words4_mid b
  unfold PV MV at *
  have RB1 := Lib.hid (run_bs3' (ofL s) (ofL t) (ofL (s.drop (s.length - 2) ++ t.take (min 2 t.length))))
  have RL1 := Lib.hid (mw_three (ofL s) (ofL t) (ofL (s.drop (s.length - 2) ++ t.take (min 2 t.length))))
  have RB2 := Lib.hid (run_bs2' a b)
  have RB3 := Lib.hid (run_bs2' (foldL [a, b]) a)
  generalize (wordsL (a.1 ++ b.1)).toArray = cs at *
  generalize foldL [a, b] = f at *
  generalize ofL (s ++ t) = st at *
  generalize ofL s = ms at *
  generalize ofL t = mt at *
  generalize ofL (s.drop (s.length - 2) ++ t.take (min 2 t.length)) = mm at *
  generalize (unionL a.1 ms.1 == a.1) = ra at *
  generalize (unionL f.1 ms.1 == f.1) = rf at *
  generalize countL a.1 = ca at *
  generalize countL f.1 = cf at *
  have hfm := f.2
  have ham := a.2
  have hst := st.2
  have m1 : ∀ w, (Builtin.max_ #[3, 3] 3 #[.int .i64 0, .int .i64 ((s.length : Int) - 2)]).run Try.prog w = .ok (.int .i64 ((s.length - 2 : Nat) : Int)) w := fun w => max2_run _ _ _ (by omega) w
  have m2 : ∀ w, (Builtin.min_ #[3, 3] 3 #[.int .i64 2, .int .i64 (t.length : Int)]).run Try.prog w = .ok (.int .i64 ((min 2 t.length : Nat) : Int)) w := fun w => min2_run _ _ _ (by omega) w
  go_enter Try.func5, Try.ntmps5
  go_wp2_with fail
  refine wp_region_up (by kernel_rfl) (by kernel_rfl) ?_
  repeat (go_big_quiet_step (fail))
  refine wpQuiet_nil ?_
  rintro _ ⟨y, rfl⟩
  have c1 := fun w => run_cat (P := Try.prog) s t (by omega) w
  have Y0 := Lib.hid y.ext
  generalize y.val = w0 at *
  go_wp2_with fail
  refine (q1.out _).mono ?_
  rintro e w1 ⟨rfl, x1⟩
  have Y1 := Lib.hid (Y0.out.trans x1)
  clear x1 c1
  go_wp2_with fail
  refine (q2.out _).mono ?_
  rintro e w2 ⟨rfl, x2⟩
  have Y2 := Lib.hid (Y1.out.trans x2)
  clear x2
  go_wp2_with fail
  refine (q3.out _).mono ?_
  rintro e w3 ⟨rfl, x3⟩
  have Y3 := Lib.hid (Y2.out.trans x3)
  clear x3
  go_wp2_with fail
  refine (q4.out _).mono ?_
  rintro e w4 ⟨rfl, x4⟩
  have Y4 := Lib.hid (Y3.out.trans x4)
  clear x4
  go_wp2_with (first
    | (refine wpList_bs (vs := #[(0, .agg (wordsL ms.1).toArray), (1, .agg (wordsL mt.1).toArray), (2, .agg (wordsL mm.1).toArray)]) rfl 59 3 _ rfl rfl (RB1.out _) ?_))
  refine (q5.out _ _ _ (RL1.out _)).mono ?_
  rintro e w5 ⟨rfl, x5⟩
  have Y5 := Lib.hid ((Y4.out.alloc (.cells (cells4 ms ++ (cells4 mt ++ cells4 mm)).toArray 29)).trans x5)
  have s1 := Lib.hid (rangeAt_ext r1.out Y5.out)
  have s2 := Lib.hid (rangeAt_ext r2.out Y5.out)
  have X5 := Lib.hid (X0.out.trans Y5.out)
  clear x5
  have hsz5 : w.heap.size + 1 ≤ w5.heap.size := by
    have e : (w.alloc (.cells cs 25)).heap.size = w.heap.size + 1 := World.size_alloc ..
    have := Y5.out.le
    omega
  have HZ5 := Lib.hid hsz5
  clear hsz5
  go_wp2_with fail
  refine wp_region_lex _ rfl (by kernel_rfl) ?_
  dsimp only [List.length_cons, List.length_nil]
  iterate 6 (first
    | (refine lex_load_range (by kernel_rfl) (by kernel_rfl) (by kernel_rfl) (by kernel_rfl) (fun _ _ _ _ h => h) (by kernel_rfl) 23 (.tmp 44) rfl rfl (rangeAt_drew s1.out) Try.underlying23 rfl hmid ?_)
    | (refine lex_load_range (by kernel_rfl) (by kernel_rfl) (by kernel_rfl) (by kernel_rfl) (fun _ _ _ _ h => h) (by kernel_rfl) 23 (.tmp 46) rfl rfl (rangeAt_drew s1.out) Try.underlying23 rfl hmid ?_)
    | (refine lex_load_range (by kernel_rfl) (by kernel_rfl) (by kernel_rfl) (by kernel_rfl) (fun _ _ _ _ h => h) (by kernel_rfl) 23 (.tmp 48) rfl rfl (rangeAt_drew s2.out) Try.underlying23 rfl hmid2 ?_)
    | (refine lex_want (by kernel_rfl) (by kernel_rfl) (by kernel_rfl) (by kernel_rfl) (fun _ _ _ _ h => h) (by kernel_rfl) (fun K hK => ?_)
       go_simp
       (refine hK _ ?_; clear hK K)))
  refine lex_bs_call_alloc2 (m := 2) (te := 29) (cs := (cells4 a ++ cells4 b).toArray) (vc := .agg (wordsL f.1).toArray)
    (by kernel_rfl) (by kernel_rfl) (by kernel_rfl) (by kernel_rfl) (by kernel_rfl) (by kernel_rfl) (by kernel_rfl) (by kernel_rfl) (by kernel_rfl) (by kernel_rfl) (by kernel_rfl) (by kernel_rfl) (by kernel_rfl) (by kernel_rfl) (by kernel_rfl) (by kernel_rfl) (by kernel_rfl)
    (fun _ _ _ _ h => h) rfl rfl rfl rfl (by intro d hd; cases hd; decide) (by intro d hd; cases hd; decide) (by intro d hd; cases hd; decide) (by intro d hd; cases hd; decide) (by intro d hd; cases hd; decide) (by intro d hd; cases hd; decide) rfl rfl marks_zero_run marks_zero_run ?_ ?_ (fun gb gi gj w6 x6 hgi hgj hij hbi hbj => ?_)
  · rintro a' (rfl | ⟨u, rfl⟩ | ⟨u, rfl⟩ | ⟨u, v, rfl⟩ | ⟨u, v, rfl⟩) <;> exact BsAt.of (vs := #[(0, .agg (wordsL a.1).toArray), (1, .agg (wordsL b.1).toArray)]) 59 _ rfl rfl RB2.out
  · rintro a' (rfl | ⟨u, rfl⟩ | ⟨u, rfl⟩ | ⟨u, v, rfl⟩ | ⟨u, v, rfl⟩) g w' x hg hb <;>
    · have hq := q6.out _ _ w' (mw_blk hb)
      clear hg hb
      go_simp
  dsimp only [Act.put]
  simp only [List.setIfInBounds_toArray, List.set_cons_succ, List.set_cons_zero]
  have hgg : w.heap.size + 1 ≤ gi ∧ w.heap.size + 1 ≤ gj := by
    have e : w5.drew.heap.size = w5.heap.size := rfl
    have := HZ5.out
    omega
  have X6 := Lib.hid (X5.out.drew.trans x6)
  have HI := Lib.hid hbi
  have HJ := Lib.hid hbj
  have HN := Lib.hid (And.intro hgg hij)
  clear x6 hgi hgj hbi hbj hgg hij
  refine lex_tail (by kernel_rfl) (by kernel_rfl) (by kernel_rfl) (by kernel_rfl) (fun x K hK => ?_)
  refine wp_store_blk 29 (.tmp 8) (.tmp 45) rfl rfl rfl (HI.out.ext x.ext) (by rw [wordsL_size, wordsL_size, ham]; rfl) (marks_size ham) (wordsL_one _) (hK _ _ ?_)
  have X7 := Lib.hid (Ext.setRow (X6.out.trans x.ext) (show w.heap.size ≤ gi by have := HN.out; omega) (wordsL a.1).toArray)
  have I7 := Lib.hid ((HI.out.ext x.ext).setRow (wordsL a.1).toArray)
  have J7 := Lib.hid ((HJ.out.ext x.ext).setRow_far (show gj ≠ gi by have := HN.out; omega) (wordsL a.1).toArray)
  clear hK K
  generalize x.val.setRow gi (wordsL a.1).toArray = w7 at *
  refine lex_last (by kernel_rfl) (by kernel_rfl) (by kernel_rfl) (by kernel_rfl) (by kernel_rfl) (fun x K hK => ?_)
  refine wp_store_blk 29 (.tmp 9) (.tmp 51) rfl rfl rfl (J7.out.ext x.ext) (by rw [wordsL_size, wordsL_size, hfm]; rfl) (marks_size hfm) (wordsL_one _) (hK _ _ (fun y => ?_))
  have X8 := Lib.hid ((Ext.setRow (X7.out.trans x.ext) (show w.heap.size ≤ gj by have := HN.out; omega) (wordsL f.1).toArray).trans y.ext)
  have I8 := Lib.hid (((I7.out.ext x.ext).setRow_far (show gi ≠ gj by have := HN.out; omega) (wordsL f.1).toArray).ext y.ext)
  have J8 := Lib.hid (((J7.out.ext x.ext).setRow (wordsL f.1).toArray).ext y.ext)
  clear hK K
  generalize y.val = w8 at *
  cases ra with
  | false =>
    clear hmore
    go_wp2_with fail
    refine wp_region_lex _ rfl (by kernel_rfl) ?_
    dsimp only [List.length_cons, List.length_nil]
    iterate 5 (first
      | (refine lex_load_blk (by kernel_rfl) (by kernel_rfl) (by kernel_rfl) (by kernel_rfl) (fun _ _ _ _ h => h) (by kernel_rfl) 29 (.tmp 8) rfl rfl I8.out.drew Try.underlying29 rfl (marks_size ham) ?_)
      | (refine lex_load_blk (by kernel_rfl) (by kernel_rfl) (by kernel_rfl) (by kernel_rfl) (fun _ _ _ _ h => h) (by kernel_rfl) 29 (.tmp 9) rfl rfl J8.out.drew Try.underlying29 rfl (marks_size hfm) ?_)
      | (refine lex_want (by kernel_rfl) (by kernel_rfl) (by kernel_rfl) (by kernel_rfl) (fun _ _ _ _ h => h) (by kernel_rfl) (fun K hK => ?_)
         go_simp
         first
           | (refine hK _ ?_; clear hK K)
           | (apply Exists.intro
              refine ⟨fun _ => ?_, hK _ ?_⟩
              (first
                 | (go_at_call 14; (with_reducible exact q7.out _))
                 | (go_at_call 16; (with_reducible exact q9.out _))
                 | (go_at_call 16; (with_reducible exact q10.out _)))
              clear hK K)))
    iterate 3 (refine lex_skip (by kernel_rfl) (by kernel_rfl) (by kernel_rfl) (by kernel_rfl) (fun _ _ _ _ h => h) (by kernel_rfl) ?_)
    dsimp only [Act.put]
    simp only [List.setIfInBounds_toArray, List.set_cons_succ, List.set_cons_zero]
    iterate 11 (first
      | (refine lex_load_blk (by kernel_rfl) (by kernel_rfl) (by kernel_rfl) (by kernel_rfl) (fun _ _ _ _ h => h) (by kernel_rfl) 29 (.tmp 8) rfl rfl I8.out.drew Try.underlying29 rfl (marks_size ham) ?_)
      | (refine lex_load_blk (by kernel_rfl) (by kernel_rfl) (by kernel_rfl) (by kernel_rfl) (fun _ _ _ _ h => h) (by kernel_rfl) 29 (.tmp 9) rfl rfl J8.out.drew Try.underlying29 rfl (marks_size hfm) ?_)
      | (refine lex_want (by kernel_rfl) (by kernel_rfl) (by kernel_rfl) (by kernel_rfl) (fun _ _ _ _ h => h) (by kernel_rfl) (fun K hK => ?_)
         go_simp
         first
           | (refine hK _ ?_; clear hK K)
           | (apply Exists.intro
              refine ⟨fun _ => ?_, hK _ ?_⟩
              (first
                 | (go_at_call 14; (with_reducible exact q7.out _))
                 | (go_at_call 16; (with_reducible exact q9.out _))
                 | (go_at_call 16; (with_reducible exact q10.out _)))
              clear hK K)))
    dsimp only [Act.put]
    simp only [List.setIfInBounds_toArray, List.set_cons_succ, List.set_cons_zero]
    refine lex_ahead_load 2 rfl (by kernel_rfl) (by kernel_rfl) (by kernel_rfl) (fun _ _ _ _ h => h) (by kernel_rfl) 29 (.tmp 9) rfl rfl J8.out.drew Try.underlying29 rfl (marks_size hfm) ?_
    dsimp only [Act.put]
    simp only [List.setIfInBounds_toArray, List.set_cons_succ, List.set_cons_zero]
    refine out_only (by kernel_rfl) (by kernel_rfl) (fun x K hK => ?_)
    refine wp_bs (vs := #[(0, .agg (wordsL f.1).toArray), (1, .agg (wordsL a.1).toArray)]) 59 2 _ rfl rfl (RB3.out x.val) (hK.out _ _ ((Ext.refl _).alloc _) ?_)
    have X9 := Lib.hid ((X8.out.drew.trans x.ext).alloc (.cells (cells4 f ++ cells4 a).toArray 29))
    have R9 := Lib.hid (mw_two f a x.val)
    clear hK K
    generalize x.val.alloc (.cells (cells4 f ++ cells4 a).toArray 29) = w9 at *
    refine out_want (by kernel_rfl) (by kernel_rfl) (by kernel_rfl) (fun _ _ _ _ h => h) (by kernel_rfl) (fun K hK => ?_)
    go_simp
    apply Exists.intro
    refine ⟨fun y => ?_, hK _ ?_⟩
    · go_at_call 10
      exact q11.out _ _ _ (WR.ext R9.out y.ext)
    clear hK K
    refine out_done (out_lex (n := 28) (by kernel_rfl) ?_)
    repeat (first
      | (refine lex_want (by kernel_rfl) (by kernel_rfl) (by kernel_rfl) (by kernel_rfl) (fun _ _ _ _ h => h) (by kernel_rfl) (fun K hK => ?_)
         go_simp
         first
           | (refine hK _ ?_; clear hK K)
           | (apply Exists.intro
              refine ⟨fun _ => ?_, hK _ ?_⟩
              (first
                 | (go_at_call 8; (with_reducible exact qa.out _)))
              clear hK K)))
    refine lex_done (by kernel_rfl) (fun y => ?_)
    go_wp2
    go_ret
    exact ⟨rfl, X9.out.trans y.ext⟩
  | true =>
    obtain rfl := hmore rfl
    clear hmore
    go_wp2_with fail
    refine wp_region_lex _ rfl (by kernel_rfl) ?_
    dsimp only [List.length_cons, List.length_nil]
    iterate 19 (first
      | (refine lex_load_blk (by kernel_rfl) (by kernel_rfl) (by kernel_rfl) (by kernel_rfl) (fun _ _ _ _ h => h) (by kernel_rfl) 29 (.tmp 8) rfl rfl I8.out.drew Try.underlying29 rfl (marks_size ham) ?_)
      | (refine lex_load_blk (by kernel_rfl) (by kernel_rfl) (by kernel_rfl) (by kernel_rfl) (fun _ _ _ _ h => h) (by kernel_rfl) 29 (.tmp 9) rfl rfl J8.out.drew Try.underlying29 rfl (marks_size hfm) ?_)
      | (refine lex_want (by kernel_rfl) (by kernel_rfl) (by kernel_rfl) (by kernel_rfl) (fun _ _ _ _ h => h) (by kernel_rfl) (fun K hK => ?_)
         go_simp
         first
           | (refine hK _ ?_; clear hK K)
           | (apply Exists.intro
              refine ⟨fun _ => ?_, hK _ ?_⟩
              (first
                 | (go_at_call 14; (with_reducible exact q7.out _))
                 | (go_at_call 14; (with_reducible exact q8.out _))
                 | (go_at_call 16; (with_reducible exact q9.out _))
                 | (go_at_call 16; (with_reducible exact q10.out _)))
              clear hK K)))
    dsimp only [Act.put]
    simp only [List.setIfInBounds_toArray, List.set_cons_succ, List.set_cons_zero]
    refine lex_ahead_load 2 rfl (by kernel_rfl) (by kernel_rfl) (by kernel_rfl) (fun _ _ _ _ h => h) (by kernel_rfl) 29 (.tmp 9) rfl rfl J8.out.drew Try.underlying29 rfl (marks_size hfm) ?_
    dsimp only [Act.put]
    simp only [List.setIfInBounds_toArray, List.set_cons_succ, List.set_cons_zero]
    refine out_only (by kernel_rfl) (by kernel_rfl) (fun x K hK => ?_)
    refine wp_bs (vs := #[(0, .agg (wordsL f.1).toArray), (1, .agg (wordsL a.1).toArray)]) 59 2 _ rfl rfl (RB3.out x.val) (hK.out _ _ ((Ext.refl _).alloc _) ?_)
    have X9 := Lib.hid ((X8.out.drew.trans x.ext).alloc (.cells (cells4 f ++ cells4 a).toArray 29))
    have R9 := Lib.hid (mw_two f a x.val)
    clear hK K
    generalize x.val.alloc (.cells (cells4 f ++ cells4 a).toArray 29) = w9 at *
    refine out_want (by kernel_rfl) (by kernel_rfl) (by kernel_rfl) (fun _ _ _ _ h => h) (by kernel_rfl) (fun K hK => ?_)
    go_simp
    apply Exists.intro
    refine ⟨fun y => ?_, hK _ ?_⟩
    · go_at_call 10
      exact q11.out _ _ _ (WR.ext R9.out y.ext)
    clear hK K
    refine out_done (out_lex (n := 28) (by kernel_rfl) ?_)
    repeat (first
      | (refine lex_want (by kernel_rfl) (by kernel_rfl) (by kernel_rfl) (by kernel_rfl) (fun _ _ _ _ h => h) (by kernel_rfl) (fun K hK => ?_)
         go_simp
         first
           | (refine hK _ ?_; clear hK K)
           | (apply Exists.intro
              refine ⟨fun _ => ?_, hK _ ?_⟩
              (first
                 | (go_at_call 8; (with_reducible exact qa.out _)))
              clear hK K)))
    refine lex_done (by kernel_rfl) (fun y => ?_)
    go_wp2
    go_ret
    exact ⟨rfl, X9.out.trans y.ext⟩

set_option maxRecDepth 20000 in
set_option maxHeartbeats 2000000 in
theorem gramBoth_law (s1 : ByteArray) (hs1 : s1.size ≤ maxLen) (s2 : ByteArray) (hs2 : s2.size ≤ maxLen) (a b : W4) (w : World) :
    Calls Try.prog 5 #[.string s1, .string s2, PV a b] w fun e w' => e = .returned (.bool true) ∧ Ext w w' := by
  obtain ⟨s, rfl, hh⟩ := S_ex s1
  obtain ⟨d, rfl, hd⟩ := S_ex s2
  rw [S_size] at hs1 hs2
  unfold maxLen at hs1 hs2
  have qa := Lib.hid awake40
  have X0 := Lib.hid ((Ext.refl w).alloc (.cells (wordsL (a.1 ++ b.1)).toArray 25))
  clear hh hd
  by_cases h1 : (2000 : Int) < s.length
  · unfold PV
    generalize (wordsL (a.1 ++ b.1)).toArray = cs at *
    go_enter Try.func5, Try.ntmps5
    go_wp2_with fail
    refine (qa.out _).mono ?_
    rintro e w1 ⟨rfl, x1⟩
    go_wp2
    go_ret
    exact ⟨rfl, X0.out.trans x1⟩
  by_cases h2 : (2000 : Int) < d.length
  · unfold PV
    generalize (wordsL (a.1 ++ b.1)).toArray = cs at *
    go_enter Try.func5, Try.ntmps5
    go_wp2_with fail
    refine (qa.out _).mono ?_
    rintro e w1 ⟨rfl, x1⟩
    go_wp2
    go_ret
    exact ⟨rfl, X0.out.trans x1⟩
  exact gramBoth_in s d a b w h1 h2
end Go.Proofs.Ytjbacmhkmofpkaa
