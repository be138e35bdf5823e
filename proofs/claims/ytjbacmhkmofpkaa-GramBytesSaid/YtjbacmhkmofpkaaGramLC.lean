/- gram: the law GramBytes. -/
import Derived.Test.YtjbacmhkmofpkaaGramLB
namespace Go.Proofs.Ytjbacmhkmofpkaa
set_option linter.unusedVariables false
set_option linter.unusedSimpArgs false
open Go.RowKit
attribute [local go_sem] S_size S_toList S_append S_extract S_beq S_bne S_empty S_nil zero256_run zero256_ne

theorem get_two (s : List UInt8) (i : Int) (hl : (s.length : Int) ≤ 1000000000) : ∃ (g : W4) (to e : Int),
    (∀ w, Calls Try.prog 19 #[.string (S s), .int .i64 i] w fun r w' => r = .returned (.tuple #[MV g.1, .int .i64 to, .int .i64 e]) ∧ Ext w w') ∧
    ∀ w, Calls Try.prog 20 #[.string (S s), .int .i64 i] w fun r w' => r = .returned (.tuple #[BV (boolsL g.1), .int .i64 to, .int .i64 e]) ∧ Ext w w' := by
  by_cases h : i < 0 ∨ (s.length : Int) < i
  · refine ⟨empty4, 0, 2, fun w => get_arg s i w h hl, fun w => ?_⟩
    rw [show boolsL empty4.1 = noneB from bools_empty]
    exact rget_arg s i w h hl
  · obtain ⟨a, rfl⟩ : ∃ a : Nat, i = a := ⟨i.toNat, by omega⟩
    by_cases h2 : s.length < a + 32
    · refine ⟨empty4, 0, 4, fun w => get_short s a w (by omega) h2 hl, fun w => ?_⟩
      rw [show boolsL empty4.1 = noneB from bools_empty]
      exact rget_short s a w (by omega) h2 hl
    · refine ⟨getW ((s.drop a).take 32), (a : Int) + 32, 0, fun w => get_ok s a w (by omega) hl, fun w => ?_⟩
      rw [← getB_eq]
      exact rget_ok s a w (by omega) hl

set_option maxRecDepth 20000 in
set_option maxHeartbeats 4000000 in
theorem gramBytes_law (a b : W4) (s1 : ByteArray) (hs1 : s1.size ≤ maxLen) (x y z : UInt8) (i : Int) (wi : (Lit.int .i64 i).wf = true) (u : Value) (l : List Rec) (hl : (l.length : Int) ≤ 9223372036854775807) (hd : ∀ r ∈ l, (r.2.2.length : Int) ≤ 9223372036854775807) (w : World) (hr : RD recCells 3 w u l) :
    Calls Try.prog 4 #[PV a b, .string s1, BytesV (U8 x) (U8 y) (U8 z) i u] w fun e w' => e = .returned (.bool true) ∧ Ext w w' := by
  obtain ⟨s, rfl, hh⟩ := S_ex s1
  rw [S_size] at hs1
  unfold maxLen at hs1
  have hi := bounds_i64 wi
  have b1 := Blk.new w 25 (wordsL (a.1 ++ b.1)).toArray
  have x1 := (Ext.refl (w.alloc (.cells (wordsL (a.1 ++ b.1)).toArray 25))).alloc (.cells #[.int .u8 (U8 x), .int .u8 (U8 y), .int .u8 (U8 z), .int .i64 i, u] 41)
  have r1 := Lib.hid (rangeAt_ext (pair_ranges b1).1 x1)
  have X0 := Lib.hid (((Ext.refl w).alloc (.cells (wordsL (a.1 ++ b.1)).toArray 25)).trans x1)
  have R0 := Lib.hid (hr.ext X0.out)
  have B0 := Lib.hid (by
    have := Blk.new (w.alloc (.cells (wordsL (a.1 ++ b.1)).toArray 25)) 41 #[.int .u8 (U8 x), .int .u8 (U8 y), .int .u8 (U8 z), .int .i64 i, u]
    rw [World.size_alloc] at this; exact this)
  have qa := Lib.hid awake40
  have qf := Lib.hid (fun w (h : RD recCells 3 w u l) => few_any l u w h hl hd)
  clear hh b1 x1 hr
  unfold PV BytesV
  by_cases h1 : (2000 : Int) < s.length
  · generalize (wordsL (a.1 ++ b.1)).toArray = cs at *
    go_enter Try.func4, Try.ntmps4
    go_wp2_with fail
    refine (qa.out _).mono ?_
    rintro e w1 ⟨rfl, x1⟩
    go_wp2
    go_ret
    exact ⟨rfl, X0.out.trans x1⟩
  cases hfew : fewL l with
  | false =>
    rw [hfew] at qf
    generalize (wordsL (a.1 ++ b.1)).toArray = cs at *
    go_enter Try.func4, Try.ntmps4
    go_wp2_with fail
    refine (qf.out _ R0.out).mono ?_
    rintro e w1 ⟨rfl, rfl⟩
    go_wp2_with fail
    refine (qa.out _).mono ?_
    rintro e w1 ⟨rfl, x1⟩
    go_wp2
    go_ret
    exact ⟨rfl, X0.out.trans x1⟩
  | true =>
    rw [hfew] at qf
    obtain ⟨hl2, hd2⟩ : l.length ≤ 200 ∧ ∀ r ∈ l, r.2.2.length ≤ 3000 := by
      unfold fewL at hfew
      rw [Bool.and_eq_true, decide_eq_true_iff, List.all_eq_true] at hfew
      exact ⟨hfew.1, fun r hr => by simpa using hfew.2 r hr⟩
    obtain ⟨g, to, er, hg1, hg2⟩ := get_two s i (by omega)
    have q1 := Lib.hid hg1
    have q2 := Lib.hid hg2
    have q3 := Lib.hid (fun w => put_any a w)
    have q4 := Lib.hid (fun w => rbools_any a w)
    have q5 := Lib.hid (fun w => (show Calls Try.prog 22 #[BV (boolsL a.1)] w fun e w' => e = .returned (.string (S (putL a))) ∧ Ext w w' from by have h := rput_any (boolsL a.1) w (boolsL_length _); rw [pack_put] at h; exact h))
    have q6 := Lib.hid (fun w => rbools_any g w)
    have q7 := Lib.hid (fun w => (mark_any x y z w).mono (fun e w' h => (⟨h.1, h.2 ▸ Ext.refl _⟩ : e = .returned (.int .i64 (markL x y z)) ∧ Ext w w')))
    have q8 := Lib.hid (fun w => (rmark_any x y z w).mono (fun e w' h => (⟨h.1, h.2 ▸ Ext.refl _⟩ : e = .returned (.int .i64 (markL x y z)) ∧ Ext w w')))
    have q9 := Lib.hid (fun w (h : RD recCells 3 w u l) => all_any l u w h (by omega) (fun r hr => by have := hd2 r hr; omega))
    have q10 := Lib.hid (fun w => rbools_any (allL l) w)
    have q11 := Lib.hid (fun w (h : RD recCells 3 w u l) => rall_any l u w h (by omega) (fun r hr => by have := hd2 r hr; omega))
    have hzl := boolsL_length g.1
    have E1 := bools_same (boolsL g.1) (boolsL_length _)
    have E2 := bools_same (boolsL (allL l).1) (boolsL_length _)
    have hmid := words4_mid a
    clear hg1 hg2 hd hl hd2 hl2 hfew hi wi
    unfold MV BV at *
    generalize (wordsL (a.1 ++ b.1)).toArray = cs at *
    generalize putL a = p at *
    generalize allL l = al at *
    generalize boolsL al.1 = z2 at *
    generalize boolsL g.1 = z1 at *
    generalize markL x y z = mk at *
    have hgm := g.2
    go_enter Try.func4, Try.ntmps4
    go_wp2_with fail
    refine (qf.out _ R0.out).mono ?_
    rintro e w1 ⟨rfl, rfl⟩
    go_wp2_with fail
    refine (q1.out _).mono ?_
    rintro e w1 ⟨rfl, x1⟩
    have X1 := Lib.hid ((X0.out.trans x1).alloc (.cells (wordsL g.1).toArray 29))
    have r2 := Lib.hid (rangeAt_ext r1.out (x1.alloc (.cells (wordsL g.1).toArray 29)))
    have B1 := Lib.hid ((B0.out.ext x1).alloc (.cells (wordsL g.1).toArray 29))
    have R1 := Lib.hid (R0.out.ext (x1.alloc (.cells (wordsL g.1).toArray 29)))
    have M1 := Lib.hid (Blk.new w1 29 (wordsL g.1).toArray)
    have c1 := B1.out.cell 3
    clear x1
    go_wp2_with (first
      | (refine wpList_store_new rfl 29 (.tmp 7) (.tmp 28) rfl rfl rfl (by rw [wordsL_size, hgm]; rfl) (marks_size hgm) (wordsL_one _) ?_))
    refine (q2.out _).mono ?_
    rintro e w2 ⟨rfl, x2⟩
    have x2' := x2.alloc (.cells (boolsV z1).toArray 27)
    have X2 := Lib.hid (X1.out.trans x2')
    have r3 := Lib.hid (rangeAt_ext r2.out x2')
    have B2 := Lib.hid (B1.out.ext x2')
    have R2 := Lib.hid (R1.out.ext x2')
    have M2 := Lib.hid (M1.out.ext x2')
    have N2 := Lib.hid (Blk.new w2 27 (boolsV z1).toArray)
    clear x2 x2' c1
    go_wp2_with (first
      | (refine wpList_store_new rfl 27 (.tmp 10) (.tmp 36) rfl rfl rfl (zero256_size hzl) (bools_size hzl) (boolsV_one _) ?_))
    generalize w2.alloc (.cells (boolsV z1).toArray 27) = w3 at *
    have d0 := up_cell (W := w3.drew) (show w3.drew.cell? ⟨w.heap.size + 1, 0, none⟩ = some (.int .u8 (U8 x)) from B2.out.cell 0)
    have d1 := up_cell (W := w3.drew) (show w3.drew.cell? ⟨w.heap.size + 1, 1, none⟩ = some (.int .u8 (U8 y)) from B2.out.cell 1)
    have d2 := up_cell (W := w3.drew) (show w3.drew.cell? ⟨w.heap.size + 1, 2, none⟩ = some (.int .u8 (U8 z)) from B2.out.cell 2)
    have d4 := up_cell (W := w3.drew) (show w3.drew.cell? ⟨w.heap.size + 1, 4, none⟩ = some u from B2.out.cell 4)
    refine wp_region_lex _ rfl (by kernel_rfl) ?_
    dsimp only [List.length_cons, List.length_nil]
    repeat (first
      | (refine lex_load_range (by kernel_rfl) (by kernel_rfl) (by kernel_rfl) (by kernel_rfl) (fun _ _ _ _ h => h) (by kernel_rfl) 23 (.tmp 39) rfl rfl (rangeAt_drew r3.out) Try.underlying23 rfl hmid ?_)
      | (refine lex_load_range (by kernel_rfl) (by kernel_rfl) (by kernel_rfl) (by kernel_rfl) (fun _ _ _ _ h => h) (by kernel_rfl) 23 (.tmp 42) rfl rfl (rangeAt_drew r3.out) Try.underlying23 rfl hmid ?_)
      | (refine lex_load_blk (by kernel_rfl) (by kernel_rfl) (by kernel_rfl) (by kernel_rfl) (fun _ _ _ _ h => h) (by kernel_rfl) 29 (.tmp 7) rfl rfl M2.out.drew Try.underlying29 rfl (marks_size hgm) ?_)
      | (refine lex_load_blk (by kernel_rfl) (by kernel_rfl) (by kernel_rfl) (by kernel_rfl) (fun _ _ _ _ h => h) (by kernel_rfl) 27 (.tmp 10) rfl rfl N2.out.drew Try.underlying27 rfl (bools_size hzl) ?_)
      | (refine lex_want (by kernel_rfl) (by kernel_rfl) (by kernel_rfl) (by kernel_rfl) (fun _ _ _ _ h => h) (by kernel_rfl) (fun K hK => ?_)
         go_simp
         first
           | (refine hK _ ?_; clear hK K)
           | (apply Exists.intro
              refine ⟨fun y => ?_, hK _ ?_⟩
              (first
                 | (go_at_call 21; (with_reducible exact q3.out _))
                 | (go_at_call 9; (with_reducible exact q4.out _))
                 | (go_at_call 22; (with_reducible exact q5.out _))
                 | (go_at_call 9; (with_reducible exact q6.out _))
                 | (go_at_call 23; (with_reducible exact q7.out _))
                 | (go_at_call 24; (with_reducible exact q8.out _))
                 | (go_at_call 25; (with_reducible exact q9.out _ (R2.out.ext ((Ext.refl _).drew.trans y.ext))))
                 | (go_at_call 9; (with_reducible exact q10.out _))
                 | (go_at_call 26; (with_reducible exact q11.out _ (R2.out.ext ((Ext.refl _).drew.trans y.ext))))
                 | (go_at_call 8; (with_reducible exact qa.out _)))
              clear hK K)))
    refine lex_done (by kernel_rfl) (fun y => ?_)
    go_wp2
    go_ret
    exact ⟨rfl, X2.out.drew.trans y.ext⟩
end Go.Proofs.Ytjbacmhkmofpkaa
