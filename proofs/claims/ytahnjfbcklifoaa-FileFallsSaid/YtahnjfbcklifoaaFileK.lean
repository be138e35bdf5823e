/- FileFalls: the law's walk. -/
import Derived.Test.YtahnjfbcklifoaaFileJ
namespace Go.Proofs.Ytahnjfbcklifoaa
set_option linter.unusedVariables false
set_option linter.unusedSimpArgs false
open Go.RowKit
attribute [local go_sem] S_size S_toList S_append S_extract S_beq S_bne S_empty S_nil file_f0 file_f1

set_option maxRecDepth 20000 in
set_option maxHeartbeats 1000000 in
theorem fileFalls_out (a b s : List UInt8) (n : Int) (w : World) (h : (5000 : Int) < (a.length : Int) ∨ (¬ (5000 : Int) < (a.length : Int) ∧ (5000 : Int) < (b.length : Int)) ∨ (¬ (5000 : Int) < (a.length : Int) ∧ ¬ (5000 : Int) < (b.length : Int) ∧ (1000 : Int) < (s.length : Int))) :
    Calls Try.prog 9 #[.agg #[.string (S a), .string (S b)], .int .i64 n, .string (S s)] w fun e w' => e = .returned (.bool true) ∧ Ext w w' := by
  obtain ⟨c0, c1⟩ := up_two (Blk.new w 40 #[.string (S a), .string (S b)])
  rcases h with h1 | ⟨h1, h2⟩ | ⟨h1, h2, h3⟩
  all_goals
    go_enter Try.func9, Try.ntmps9
    go_wp2_with fail
    refine wp_region_up (by kernel_rfl) (by kernel_rfl) ?_
    repeat (go_big_quiet_step (fail))
    refine wpQuiet_nil ?_
    rintro _ ⟨y, rfl⟩
    go_wp2_with (go_at_call 27; refine (awake19 _).mono ?_; rintro e w' ⟨rfl, hx⟩)
    go_ret
    exact ⟨rfl, (((Ext.refl _).alloc _).trans y.ext).trans hx⟩

set_option maxRecDepth 20000 in
set_option maxHeartbeats 4000000 in
theorem fileFalls_in (a b s : List UInt8) (n : Int) (w : World) (h1 : ¬ (5000 : Int) < (a.length : Int)) (h2 : ¬ (5000 : Int) < (b.length : Int)) (h3 : ¬ (1000 : Int) < (s.length : Int)) :
    Calls Try.prog 9 #[.agg #[.string (S a), .string (S b)], .int .i64 n, .string (S s)] w fun e w' => e = .returned (.bool true) ∧ Ext w w' := by
  obtain ⟨c0, c1⟩ := up_two (Blk.new w 40 #[.string (S a), .string (S b)])
  have q1 := Lib.hid (fun w => show Calls Try.prog 28 #[.agg #[.string (S a), .string (S a)], .string (S b)] w fun e w' => e = .returned (.tuple #[.agg #[.string (S a), .string (S (a ++ b))], .int .i64 0]) ∧ Ext w w' by
    have := fappend_any a a b w (by omega) (by omega) (by omega)
    rw [show fappend (a, a) b = ((a, a ++ b), 0) from if_neg (by simp only; omega)] at this
    exact this)
  have q2 := Lib.hid (fun w => fall_any a (a ++ b) n s w (by omega) (by rw [List.length_append]; omega) (by omega))
  have q3 := Lib.hid (fun w => fall_any a (a ++ b) n [] w (by omega) (by rw [List.length_append]; omega) (by simp))
  obtain ⟨N, W, f1, f2, f3, f4, f5, f6, f7, f8, f9, f0⟩ := fall_facts a b n s
  have hF : (a ++ b).length = a.length + b.length := List.length_append
  have hL : (N : Int) ≤ 10000 := by omega
  generalize leftL a (a ++ b) n s = G at q2 f1 f5 f9
  generalize leftL a (a ++ b) n [] = K at q3 f2 f6
  generalize a ++ b = F at q1 q2 q3 f6 f9 hF
  obtain ⟨T, hT⟩ : ∃ T, T = a.length + b.length := ⟨_, rfl⟩
  rw [← hT] at hF f0 f4
  have hmx := max2_run (a.length : Int) ((N : Int) - 64) W f7
  have k1 : ¬ N < a.length := by omega
  have k2 : ¬ T < N := by omega
  have k3 : W ≤ T := by omega
  have k4 : a.length ≤ T := by omega
  clear f7 hT
  by_cases hn : n < (b.length : Int)
  · clear f0
    go_enter Try.func9, Try.ntmps9
    go_wp2_with fail
    refine wp_region_up (by kernel_rfl) (by kernel_rfl) ?_
    repeat (go_big_quiet_step (fail))
    refine wpQuiet_nil ?_
    rintro _ ⟨y, rfl⟩
    have X0 : Ext w y.val := ((Ext.refl _).alloc _).trans y.ext
    go_wp2_with fail
    refine (q1.out _).mono ?_
    rintro _ w1 ⟨rfl, x1⟩
    have X1 := X0.trans x1
    go_wp2_with fail
    refine (q2.out _).mono ?_
    rintro _ w2 ⟨rfl, x2⟩
    have A2 := (Blk.new w1 40 #[.string (S a), .string (S F)]).ext x2
    have X2 := (X1.alloc _).trans x2
    have L2 := A2.lt
    obtain ⟨g1, g2⟩ := A2.two
    go_wp2_with fail
    refine (q3.out _).mono ?_
    rintro _ w3 ⟨rfl, x3⟩
    have A3 := (A2.alloc (.cells #[.string (S G), .string (S G)] 40)).ext x3
    have B3 := (Blk.new w2 40 #[.string (S G), .string (S G)]).ext x3
    have X3 := (X2.alloc _).trans x3
    have L3 := A3.lt
    have L4 := B3.lt
    go_wp2_with fail
    obtain ⟨m1, m2⟩ := up_two (A3.alloc (.cells #[.string (S K), .string (S K)] 40))
    obtain ⟨m3, m4⟩ := up_two (B3.alloc (.cells #[.string (S K), .string (S K)] 40))
    obtain ⟨m5, m6⟩ := up_two (Blk.new w3 40 #[.string (S K), .string (S K)])
    refine wp_region_up (by kernel_rfl) (by kernel_rfl) ?_
    repeat (go_big_quiet_step (fail))
    refine wpQuiet_nil ?_
    rintro _ ⟨z, rfl⟩
    have z1 := m1 z
    have z2 := m2 z
    have z3 := m3 z
    have z4 := m4 z
    have z5 := m5 z
    have z6 := m6 z
    clear m1 m2 m3 m4 m5 m6
    go_wp2_with fail
    have u1 := up_cell z1
    have u2 := up_cell z2
    have u3 := up_cell z3
    have u4 := up_cell z4
    have u5 := up_cell z5
    have u6 := up_cell z6
    refine wp_region_up (by kernel_rfl) (by kernel_rfl) ?_
    repeat (go_big_quiet_step (first
      | (go_at_call 27; (with_reducible exact up_call (awake19 _)))))
    refine wpQuiet_nil ?_
    rintro _ ⟨z', rfl⟩
    go_wp2
    go_ret
    exact ⟨rfl, ((X3.alloc _).trans z.ext).trans z'.ext⟩
  · obtain rfl : N = T := by have := f0 hn; omega
    clear f0 f4 k2
    go_enter Try.func9, Try.ntmps9
    go_wp2_with fail
    refine wp_region_up (by kernel_rfl) (by kernel_rfl) ?_
    repeat (go_big_quiet_step (fail))
    refine wpQuiet_nil ?_
    rintro _ ⟨y, rfl⟩
    have X0 : Ext w y.val := ((Ext.refl _).alloc _).trans y.ext
    go_wp2_with fail
    refine (q1.out _).mono ?_
    rintro _ w1 ⟨rfl, x1⟩
    have X1 := X0.trans x1
    go_wp2_with fail
    refine (q2.out _).mono ?_
    rintro _ w2 ⟨rfl, x2⟩
    have A2 := (Blk.new w1 40 #[.string (S a), .string (S F)]).ext x2
    have X2 := (X1.alloc _).trans x2
    have L2 := A2.lt
    obtain ⟨g1, g2⟩ := A2.two
    go_wp2_with fail
    refine (q3.out _).mono ?_
    rintro _ w3 ⟨rfl, x3⟩
    have A3 := (A2.alloc (.cells #[.string (S G), .string (S G)] 40)).ext x3
    have B3 := (Blk.new w2 40 #[.string (S G), .string (S G)]).ext x3
    have X3 := (X2.alloc _).trans x3
    have L3 := A3.lt
    have L4 := B3.lt
    go_wp2_with fail
    obtain ⟨m1, m2⟩ := up_two (A3.alloc (.cells #[.string (S K), .string (S K)] 40))
    obtain ⟨m3, m4⟩ := up_two (B3.alloc (.cells #[.string (S K), .string (S K)] 40))
    obtain ⟨m5, m6⟩ := up_two (Blk.new w3 40 #[.string (S K), .string (S K)])
    refine wp_region_up (by kernel_rfl) (by kernel_rfl) ?_
    repeat (go_big_quiet_step (fail))
    refine wpQuiet_nil ?_
    rintro _ ⟨z, rfl⟩
    have z1 := m1 z
    have z2 := m2 z
    have z3 := m3 z
    have z4 := m4 z
    have z5 := m5 z
    have z6 := m6 z
    clear m1 m2 m3 m4 m5 m6
    go_wp2_with fail
    have hn' : ¬ n < (b.length : Int) := by omega
    have u1 := up_cell z1
    have u2 := up_cell z2
    have u3 := up_cell z3
    have u4 := up_cell z4
    have u5 := up_cell z5
    have u6 := up_cell z6
    refine wp_region_up (by kernel_rfl) (by kernel_rfl) ?_
    repeat (go_big_quiet_step (first
      | (go_at_call 27; (with_reducible exact up_call (awake19 _)))))
    refine wpQuiet_nil ?_
    rintro _ ⟨z', rfl⟩
    go_wp2
    go_ret
    exact ⟨rfl, ((X3.alloc _).trans z.ext).trans z'.ext⟩

theorem fileFalls_law (a : ByteArray) (ha : a.size ≤ maxLen) (b : ByteArray) (hb : b.size ≤ maxLen) (n : Int) (wn : (Lit.int .i64 n).wf = true) (s : ByteArray) (hs : s.size ≤ maxLen) (w : World) :
    Calls Try.prog 9 #[.agg #[.string a, .string b], .int .i64 n, .string s] w fun e w' => e = .returned (.bool true) ∧ Below w.heap.size w w' := by
  obtain ⟨a, rfl, _⟩ := S_ex a
  obtain ⟨b, rfl, _⟩ := S_ex b
  obtain ⟨s, rfl, _⟩ := S_ex s
  by_cases h1 : (5000 : Int) < (a.length : Int)
  · exact fileFalls_out a b s n w (.inl h1)
  by_cases h2 : (5000 : Int) < (b.length : Int)
  · exact fileFalls_out a b s n w (.inr (.inl ⟨h1, h2⟩))
  by_cases h3 : (1000 : Int) < (s.length : Int)
  · exact fileFalls_out a b s n w (.inr (.inr ⟨h1, h2, h3⟩))
  exact fileFalls_in a b s n w h1 h2 h3
end Go.Proofs.Ytahnjfbcklifoaa
