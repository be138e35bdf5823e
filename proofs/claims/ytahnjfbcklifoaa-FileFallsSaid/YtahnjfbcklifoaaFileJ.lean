/- FileSafe: the law's walk. -/
import Derived.Test.YtahnjfbcklifoaaFileI
namespace Go.Proofs.Ytahnjfbcklifoaa
set_option linter.unusedVariables false
set_option linter.unusedSimpArgs false
open Go.RowKit
attribute [local go_sem] S_size S_toList S_append S_extract S_beq S_bne S_empty S_nil file_f0 file_f1

set_option maxRecDepth 20000 in
set_option maxHeartbeats 1000000 in
theorem fileSafe_out (a b s : List UInt8) (n : Int) (w : World) (h : (5000 : Int) < (a.length : Int) ∨ (¬ (5000 : Int) < (a.length : Int) ∧ (5000 : Int) < (b.length : Int)) ∨ (¬ (5000 : Int) < (a.length : Int) ∧ ¬ (5000 : Int) < (b.length : Int) ∧ (1000 : Int) < (s.length : Int))) :
    Calls Try.prog 10 #[.agg #[.string (S a), .string (S b)], .int .i64 n, .string (S s)] w fun e w' => e = .returned (.bool true) ∧ Ext w w' := by
  rcases h with h1 | ⟨h1, h2⟩ | ⟨h1, h2, h3⟩
  all_goals
    go_enter Try.func10, Try.ntmps10
    go_wp2_with (go_at_call 27; refine (awake19 _).mono ?_; rintro e w' ⟨rfl, hx⟩)
    go_ret
    exact ⟨rfl, ((Ext.refl _).alloc _).trans hx⟩

set_option maxRecDepth 20000 in
set_option maxHeartbeats 4000000 in
theorem fileSafe_in (a b s : List UInt8) (n : Int) (w : World) (h1 : ¬ (5000 : Int) < (a.length : Int)) (h2 : ¬ (5000 : Int) < (b.length : Int)) (h3 : ¬ (1000 : Int) < (s.length : Int)) :
    Calls Try.prog 10 #[.agg #[.string (S a), .string (S b)], .int .i64 n, .string (S s)] w fun e w' => e = .returned (.bool true) ∧ Ext w w' := by
  have q0 := Lib.hid (fun w => fsync_any a b w)
  have q1 := Lib.hid (fun w => show Calls Try.prog 37 #[.agg #[.string (S b), .string (S b)]] w fun e w' => e = .returned (.bool false) ∧ Ext w w' by
    have := floose_any b b w; rw [bne_self_eq_false] at this; exact this)
  have q2 := Lib.hid (fun w => show Calls Try.prog 35 #[.agg #[.string (S b), .string (S b)], .int .i64 n, .string (S s)] w fun e w' => e = .returned (.agg #[.string (S b), .string (S b)]) ∧ Ext w w' by
    have := fall_any b b n s w (by omega) (by omega) (by omega); rw [leftL_self] at this; exact this)
  have q3 := Lib.hid (fun w => fall_any a b n s w (by omega) (by omega) (by omega))
  have hl : ((leftL a b n s).length : Int) ≤ 1000000000 := by
    unfold leftL
    split
    · rw [List.length_append, garbledL_length, List.length_take, List.length_drop]; omega
    · split <;> omega
  generalize leftL a b n s = L at q3 hl
  have q4 := Lib.hid (fun w => show Calls Try.prog 37 #[.agg #[.string (S L), .string (S L)]] w fun e w' => e = .returned (.bool false) ∧ Ext w w' by
    have := floose_any L L w; rw [bne_self_eq_false] at this; exact this)
  have q5 := Lib.hid (fun w => show Calls Try.prog 35 #[.agg #[.string (S L), .string (S L)], .int .i64 0, .string (S [])] w fun e w' => e = .returned (.agg #[.string (S L), .string (S L)]) ∧ Ext w w' by
    have := fall_any L L 0 [] w (by omega) (by omega) (by simp); rw [leftL_self] at this; exact this)
  clear hl
  have n1 := file_neq b b b b
  simp only [beq_self_eq_true, Bool.and_true, Bool.not_true] at n1
  go_enter Try.func10, Try.ntmps10
  go_wp2_with fail
  refine (q0.out _).mono ?_
  rintro _ w1 ⟨rfl, x1⟩
  have A1 : Blk w1 w.heap.size 40 #[.string (S a), .string (S b)] := (Blk.new w _ _).ext x1
  have X1 : Ext w w1 := ((Ext.refl _).alloc _).trans x1
  have L1 := A1.lt
  obtain ⟨f1, f2⟩ := A1.two
  go_wp2_with fail
  have A2 := A1.alloc (.cells #[.string (S b), .string (S b)] 40)
  have B2 := Blk.new w1 40 #[.string (S b), .string (S b)]
  obtain ⟨gA0, gA1⟩ := up_two A2
  obtain ⟨gB0, gB1⟩ := up_two B2
  refine wp_region_up (by kernel_rfl) (by kernel_rfl) ?_
  repeat (go_big_quiet_step (first
    | (go_at_call 35; (with_reducible exact up_call (q2.out _)))
    | (go_at_call 37; (with_reducible exact up_call (q1.out _)))))
  refine wpQuiet_nil ?_
  rintro _ ⟨y, rfl⟩
  have A3 := A2.ext y.ext
  have X3 : Ext w y.val := (X1.alloc _).trans y.ext
  have L3 := A3.lt
  obtain ⟨h1, h2⟩ := A3.two
  clear gA0 gA1 gB0 gB1
  go_wp2_with fail
  refine (q3.out _).mono ?_
  rintro _ w4 ⟨rfl, x4⟩
  have X4 : Ext w w4 := X3.trans x4
  go_wp2_with fail
  obtain ⟨gC0, gC1⟩ := up_two (Blk.new w4 40 #[.string (S L), .string (S L)])
  have n2 := file_neq L L L L
  refine wp_region_up (by kernel_rfl) (by kernel_rfl) ?_
  repeat (go_big_quiet_step (first
    | (go_at_call 35; (with_reducible exact up_call (q5.out _)))
    | (go_at_call 37; (with_reducible exact up_call (q4.out _)))
    | (go_at_call 27; (with_reducible exact up_call (awake19 _)))))
  refine wpQuiet_nil ?_
  rintro _ ⟨z, rfl⟩
  go_wp2
  go_ret
  exact ⟨rfl, (X4.alloc _).trans z.ext⟩

theorem fileSafe_law (a : ByteArray) (ha : a.size ≤ maxLen) (b : ByteArray) (hb : b.size ≤ maxLen) (n : Int) (wn : (Lit.int .i64 n).wf = true) (s : ByteArray) (hs : s.size ≤ maxLen) (w : World) :
    Calls Try.prog 10 #[.agg #[.string a, .string b], .int .i64 n, .string s] w fun e w' => e = .returned (.bool true) ∧ Below w.heap.size w w' := by
  obtain ⟨a, rfl, _⟩ := S_ex a
  obtain ⟨b, rfl, _⟩ := S_ex b
  obtain ⟨s, rfl, _⟩ := S_ex s
  by_cases h1 : (5000 : Int) < (a.length : Int)
  · exact fileSafe_out a b s n w (.inl h1)
  by_cases h2 : (5000 : Int) < (b.length : Int)
  · exact fileSafe_out a b s n w (.inr (.inl ⟨h1, h2⟩))
  by_cases h3 : (1000 : Int) < (s.length : Int)
  · exact fileSafe_out a b s n w (.inr (.inr ⟨h1, h2, h3⟩))
  exact fileSafe_in a b s n w h1 h2 h3
end Go.Proofs.Ytahnjfbcklifoaa
