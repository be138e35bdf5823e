/- The document's files: append, cut, sync, left, fall. -/
import Derived.Test.YtfipfljiohdlhaaGreatMgP
namespace Go.Proofs.YtfipfljiohdlhaaGreat
set_option linter.unusedVariables false
set_option linter.unusedSimpArgs false
open Go.RowKit
attribute [local go_sem] S_size S_toList S_append S_extract S_beq S_bne S_empty S_nil

set_option maxRecDepth 20000 in
set_option maxHeartbeats 400000 in
theorem rappend_any (a b s : List UInt8) (w : World) (hb : (b.length : Int) ≤ 1000000000) (hs : (s.length : Int) ≤ 1000000000) :
    Calls Tryz.prog 63 #[.agg #[.string (S a), .string (S b)], .string (S s)] w fun e w' => e = .returned (okV (fappend (a, b) s)) ∧ Ext w w' := by
  by_cases h : (1000000 : Int) - b.length < s.length
  · have H := Lib.hid (show fappend (a, b) s = (([], []), 3) from if_pos h)
    have h' : (1000000 : Int) < (b.length : Int) + (s.length : Int) := by omega
    clear h
    go_enter Tryz.func63, Tryz.ntmps63
    go_wp2
    exact bodyPost_ret (v := .tuple #[.agg #[.string (S []), .string (S [])], .int .i64 3]) (by simp [results, Tryz.results63, go_sem]) rfl ⟨by rw [H.out]; rfl, ((Ext.refl _).alloc _).alloc _⟩
  · have H := Lib.hid (show fappend (a, b) s = ((a, b ++ s), 0) from if_neg h)
    have hcat := run_cat (P := Tryz.prog) b s (by omega)
    have h' : ¬ (1000000 : Int) < (b.length : Int) + (s.length : Int) := by omega
    clear h
    go_enter Tryz.func63, Tryz.ntmps63
    go_wp2
    exact bodyPost_ret (v := .tuple #[.agg #[.string (S a), .string (S (b ++ s))], .int .i64 0]) (by simp [results, Tryz.results63, go_sem]) rfl ⟨by rw [H.out]; rfl, ((Ext.refl _).alloc _).alloc _⟩
set_option maxRecDepth 20000 in
set_option maxHeartbeats 400000 in
theorem rcut_any (a b : List UInt8) (n : Int) (w : World) (hb : (b.length : Int) ≤ 9223372036854775807) :
    Calls Tryz.prog 68 #[.agg #[.string (S a), .string (S b)], .int .i64 n] w fun e w' => e = .returned (okV (fcut (a, b) n)) ∧ Ext w w' := by
  by_cases h : n < 0 ∨ (b.length : Int) < n
  · have H := Lib.hid (show fcut (a, b) n = (([], []), 2) from if_pos h)
    by_cases h1 : n < 0
    · clear h
      go_enter Tryz.func68, Tryz.ntmps68
      go_wp2
      exact bodyPost_ret (v := .tuple #[.agg #[.string (S []), .string (S [])], .int .i64 2]) (by simp [results, Tryz.results68, go_sem]) rfl ⟨by rw [H.out]; rfl, ((Ext.refl _).alloc _).alloc _⟩
    · have h2 : (b.length : Int) < n := by omega
      clear h
      go_enter Tryz.func68, Tryz.ntmps68
      go_wp2
      exact bodyPost_ret (v := .tuple #[.agg #[.string (S []), .string (S [])], .int .i64 2]) (by simp [results, Tryz.results68, go_sem]) rfl ⟨by rw [H.out]; rfl, ((Ext.refl _).alloc _).alloc _⟩
  · obtain ⟨N, rfl⟩ := Int.eq_ofNat_of_zero_le (show 0 ≤ n by omega)
    have H := Lib.hid (show fcut (a, b) N = ((a, b.take N), 0) from if_neg h)
    have h1 : ¬ (N : Int) < 0 := by omega
    have h2 : ¬ (b.length : Int) < (N : Int) := by omega
    have h3 : N ≤ b.length := by omega
    clear h
    go_enter Tryz.func68, Tryz.ntmps68
    go_wp2
    go_region
    go_wp2
    exact bodyPost_ret (v := .tuple #[.agg #[.string (S a), .string (S (b.take N))], .int .i64 0]) (by simp [results, Tryz.results68, go_sem]) rfl ⟨by rw [H.out]; rfl, (((Ext.refl _).alloc _).alloc _).drew⟩
set_option maxRecDepth 20000 in
set_option maxHeartbeats 400000 in
theorem rsync_any (a b : List UInt8) (w : World) :
    Calls Tryz.prog 67 #[.agg #[.string (S a), .string (S b)]] w fun e w' => e = .returned (.agg #[.string (S b), .string (S b)]) ∧ Ext w w' := by
  go_enter Tryz.func67, Tryz.ntmps67
  go_wp2
  exact bodyPost_ret (v := .agg #[.string (S b), .string (S b)]) (by simp [results, Tryz.results67, go_sem]) rfl ⟨rfl, ((Ext.refl _).alloc _).alloc _⟩
set_option maxRecDepth 20000 in
set_option maxHeartbeats 1000000 in
theorem rleft_other (a b : List UInt8) (cut : Int) (mark : List UInt8) (w : World) (hne : (b.length : Int) < (a.length : Int) ∨ ((a.length : Int) ≤ (b.length : Int) ∧ (b.take a.length == a) = false)) (ha : (a.length : Int) ≤ 1000000000) (hb : (b.length : Int) ≤ 1000000000) (hm : (mark.length : Int) ≤ 9223372036854775807) :
    Calls Tryz.prog 80 #[.agg #[.string (S a), .string (S b)], .int .i64 cut, .string (S mark)] w fun e w' => e = .returned (.string (S (if 0 < cut then b else a))) ∧ Ext w w' := by
  have c0 := up_cell (show (w.alloc (.cells #[.string (S a), .string (S b)] 95)).cell? ⟨w.heap.size, 0, none⟩ = some (.string (S a)) by simp)
  have c1 := up_cell (show (w.alloc (.cells #[.string (S a), .string (S b)] 95)).cell? ⟨w.heap.size, 1, none⟩ = some (.string (S b)) by simp)
  have hneq : (b.take a.length == a) = false → (b.take a.length != a) = true := by intro h; simp only [bne, h]; rfl
  rcases hne with h1 | ⟨h1, h2⟩
  · clear hneq
    by_cases hc : 0 < cut
    all_goals
      go_enter Tryz.func80, Tryz.ntmps80
      go_wp2
      refine wp_region_up (by kernel_rfl) (by kernel_rfl) ?_
      repeat (go_big_quiet_step (fail))
      refine wpQuiet_nil ?_
      rintro _ ⟨y, rfl⟩
      have d0 := c0 y
      have d1 := c1 y
      go_wp2
      go_ret
      exact ⟨rfl, ((Ext.refl _).alloc _).trans y.ext⟩
  · have h3 := hneq h2
    have h4 : ¬ b.length < a.length := by omega
    clear hneq
    by_cases hc : 0 < cut
    all_goals
      go_enter Tryz.func80, Tryz.ntmps80
      go_wp2
      refine wp_region_up (by kernel_rfl) (by kernel_rfl) ?_
      repeat (go_big_quiet_step (fail))
      refine wpQuiet_nil ?_
      rintro _ ⟨y, rfl⟩
      have d0 := c0 y
      have d1 := c1 y
      go_wp2
      go_ret
      exact ⟨rfl, ((Ext.refl _).alloc _).trans y.ext⟩
set_option maxRecDepth 20000 in
set_option maxHeartbeats 1000000 in
theorem rleft_pre (a b : List UInt8) (cut : Int) (mark : List UInt8) (w : World) (k m : Nat) (h1 : (a.length : Int) ≤ (b.length : Int)) (h2 : (b.take a.length == a) = true) (ha : (a.length : Int) ≤ 1000000000) (hb : (b.length : Int) ≤ 1000000000) (hm : (mark.length : Int) ≤ 1000000000)
    (hk : (cut < (b.length : Int) - (a.length : Int) ∧ cut < 0 ∧ (k : Int) = 0) ∨ (cut < (b.length : Int) - (a.length : Int) ∧ ¬ cut < 0 ∧ (k : Int) = cut) ∨ (¬ cut < (b.length : Int) - (a.length : Int) ∧ (k : Int) = (b.length : Int) - (a.length : Int)))
    (hmm : (64 < (mark.length : Int) ∧ (k : Int) < 64 ∧ m = k) ∨ (64 < (mark.length : Int) ∧ ¬ (k : Int) < 64 ∧ (m : Int) = 64) ∨ (¬ 64 < (mark.length : Int) ∧ (k : Int) < (mark.length : Int) ∧ m = k) ∨ (¬ 64 < (mark.length : Int) ∧ ¬ (k : Int) < (mark.length : Int) ∧ m = mark.length)) :
    Calls Tryz.prog 80 #[.agg #[.string (S a), .string (S b)], .int .i64 cut, .string (S mark)] w fun e w' => e = .returned (.string (S (a ++ ((b.drop a.length).take k).take (k - m) ++ mark.drop (mark.length - m)))) ∧ Ext w w' := by
  have c0 := up_cell (show (w.alloc (.cells #[.string (S a), .string (S b)] 95)).cell? ⟨w.heap.size, 0, none⟩ = some (.string (S a)) by simp)
  have c1 := up_cell (show (w.alloc (.cells #[.string (S a), .string (S b)] 95)).cell? ⟨w.heap.size, 1, none⟩ = some (.string (S b)) by simp)
  have h3 : (b.take a.length != a) = false := by simp only [bne, h2]; rfl
  have h4 : ¬ b.length < a.length := by omega
  have hkb : (k : Int) ≤ (b.length : Int) - (a.length : Int) := by omega
  have hmk : (m : Int) ≤ (k : Int) := by omega
  have hmm2 : (m : Int) ≤ (mark.length : Int) := by omega
  obtain ⟨N, hN⟩ : ∃ N : Nat, (N : Int) = (b.length : Int) - (a.length : Int) := ⟨b.length - a.length, by omega⟩
  have e1 : IntKind.i64.wrap ((b.length : Int) - (a.length : Int)) = (N : Int) := by rw [IntWalk.i64_in _ (by omega)]; omega
  have e2 : IntKind.i64.wrap ((a.length : Int) + (k : Int)) = ((a.length + k : Nat) : Int) := by rw [IntWalk.i64_in _ (by omega)]; omega
  have e3 : IntKind.i64.wrap ((k : Int) - (m : Int)) = ((k - m : Nat) : Int) := by rw [IntWalk.i64_in _ (by omega)]; omega
  have e4 : IntKind.i64.wrap ((mark.length : Int) - (m : Int)) = ((mark.length - m : Nat) : Int) := by rw [IntWalk.i64_in _ (by omega)]; omega
  have e5 : (b.length : Int) - (a.length : Int) = (N : Int) := hN.symm
  rw [e5] at hk
  clear hN
  obtain ⟨X, hX⟩ : ∃ X, X = List.drop a.length (List.take (a.length + k) b) := ⟨_, rfl⟩
  have hXl : X.length = k := by rw [hX]; simp; omega
  have hX2 : (b.drop a.length).take k = X := by rw [hX, List.drop_take]; congr 1; omega
  rw [hX2]
  have hs := hX.symm
  clear hX
  have c2 := run_cat (P := Tryz.prog) (a ++ X.take (k - m)) (mark.drop (mark.length - m)) (by simp; omega)
  rcases hk with ⟨k1, k2, k3⟩ | ⟨k1, k2, k3⟩ | ⟨k1, k3⟩
  · obtain rfl : k = 0 := by omega
    obtain rfl : m = 0 := by omega
    obtain rfl : X = [] := List.eq_nil_of_length_eq_zero hXl
    clear c2 hs e1 e2 e3 e4 hX2 k3 hkb hmk hmm2 hXl
    have c1' := run_cat (P := Tryz.prog) a [] (by simp; omega)
    simp only [List.append_nil] at c1'
    have h9 : List.drop mark.length mark = [] := by simp
    by_cases m1 : 64 < (mark.length : Int)
    · clear hmm
      go_enter Tryz.func80, Tryz.ntmps80
      go_wp2
      refine wp_region_up (by kernel_rfl) (by kernel_rfl) ?_
      repeat (go_big_quiet_step (fail))
      refine wpQuiet_nil ?_
      rintro _ ⟨y, rfl⟩
      have d0 := c0 y
      have d1 := c1 y
      go_wp2
      refine wp_region_up (by kernel_rfl) (by kernel_rfl) ?_
      have c0' := up_cell d0
      repeat (go_big_quiet_step (fail))
      refine wpQuiet_nil ?_
      rintro _ ⟨z, rfl⟩
      go_wp2
      go_ret
      exact ⟨by simp, ((Ext.refl _).alloc _).trans (y.ext.trans z.ext)⟩
    · by_cases m2 : 0 < (mark.length : Int)
      · clear hmm
        go_enter Tryz.func80, Tryz.ntmps80
        go_wp2
        refine wp_region_up (by kernel_rfl) (by kernel_rfl) ?_
        repeat (go_big_quiet_step (fail))
        refine wpQuiet_nil ?_
        rintro _ ⟨y, rfl⟩
        have d0 := c0 y
        have d1 := c1 y
        go_wp2
        refine wp_region_up (by kernel_rfl) (by kernel_rfl) ?_
        have c0' := up_cell d0
        repeat (go_big_quiet_step (fail))
        refine wpQuiet_nil ?_
        rintro _ ⟨z, rfl⟩
        go_wp2
        go_ret
        exact ⟨by simp, ((Ext.refl _).alloc _).trans (y.ext.trans z.ext)⟩
      · obtain rfl : mark = [] := List.eq_nil_of_length_eq_zero (by omega)
        clear hmm m1 m2
        go_enter Tryz.func80, Tryz.ntmps80
        go_wp2
        refine wp_region_up (by kernel_rfl) (by kernel_rfl) ?_
        repeat (go_big_quiet_step (fail))
        refine wpQuiet_nil ?_
        rintro _ ⟨y, rfl⟩
        have d0 := c0 y
        have d1 := c1 y
        go_wp2
        refine wp_region_up (by kernel_rfl) (by kernel_rfl) ?_
        have c0' := up_cell d0
        repeat (go_big_quiet_step (fail))
        refine wpQuiet_nil ?_
        rintro _ ⟨z, rfl⟩
        go_wp2
        go_ret
        exact ⟨by simp, ((Ext.refl _).alloc _).trans (y.ext.trans z.ext)⟩
  · subst k3
    have k4 : ¬ ((k : Int) < 0) := k2
    rcases hmm with ⟨m1, m2, m3⟩ | ⟨m1, m2, m3⟩ | ⟨m1, m2, m3⟩ | ⟨m1, m2, m3⟩
    · subst m3
      have c1' := run_cat (P := Tryz.prog) a [] (by simp; omega)
      simp only [Nat.sub_self, List.take_zero, List.append_nil] at c1' c2 ⊢
      go_enter Tryz.func80, Tryz.ntmps80
      go_wp2
      refine wp_region_up (by kernel_rfl) (by kernel_rfl) ?_
      repeat (go_big_quiet_step (fail))
      refine wpQuiet_nil ?_
      rintro _ ⟨y, rfl⟩
      have d0 := c0 y
      have d1 := c1 y
      go_wp2
      refine wp_region_up (by kernel_rfl) (by kernel_rfl) ?_
      have c0' := up_cell d0
      repeat (go_big_quiet_step (fail))
      refine wpQuiet_nil ?_
      rintro _ ⟨z, rfl⟩
      go_wp2
      go_ret
      exact ⟨by simp, ((Ext.refl _).alloc _).trans (y.ext.trans z.ext)⟩
    · obtain rfl : m = 64 := by omega
      have c1' := run_cat (P := Tryz.prog) a (X.take (k - 64)) (by simp; omega)
      go_enter Tryz.func80, Tryz.ntmps80
      go_wp2
      refine wp_region_up (by kernel_rfl) (by kernel_rfl) ?_
      repeat (go_big_quiet_step (fail))
      refine wpQuiet_nil ?_
      rintro _ ⟨y, rfl⟩
      have d0 := c0 y
      have d1 := c1 y
      go_wp2
      refine wp_region_up (by kernel_rfl) (by kernel_rfl) ?_
      have c0' := up_cell d0
      repeat (go_big_quiet_step (fail))
      refine wpQuiet_nil ?_
      rintro _ ⟨z, rfl⟩
      go_wp2
      go_ret
      exact ⟨by simp, ((Ext.refl _).alloc _).trans (y.ext.trans z.ext)⟩
    · subst m3
      have c1' := run_cat (P := Tryz.prog) a [] (by simp; omega)
      simp only [Nat.sub_self, List.take_zero, List.append_nil] at c1' c2 ⊢
      go_enter Tryz.func80, Tryz.ntmps80
      go_wp2
      refine wp_region_up (by kernel_rfl) (by kernel_rfl) ?_
      repeat (go_big_quiet_step (fail))
      refine wpQuiet_nil ?_
      rintro _ ⟨y, rfl⟩
      have d0 := c0 y
      have d1 := c1 y
      go_wp2
      refine wp_region_up (by kernel_rfl) (by kernel_rfl) ?_
      have c0' := up_cell d0
      repeat (go_big_quiet_step (fail))
      refine wpQuiet_nil ?_
      rintro _ ⟨z, rfl⟩
      go_wp2
      go_ret
      exact ⟨by simp, ((Ext.refl _).alloc _).trans (y.ext.trans z.ext)⟩
    · subst m3
      have c1' := run_cat (P := Tryz.prog) a (X.take (k - mark.length)) (by simp; omega)
      simp only [Nat.sub_self, List.drop_zero] at c1' c2 ⊢
      go_enter Tryz.func80, Tryz.ntmps80
      go_wp2
      refine wp_region_up (by kernel_rfl) (by kernel_rfl) ?_
      repeat (go_big_quiet_step (fail))
      refine wpQuiet_nil ?_
      rintro _ ⟨y, rfl⟩
      have d0 := c0 y
      have d1 := c1 y
      go_wp2
      refine wp_region_up (by kernel_rfl) (by kernel_rfl) ?_
      have c0' := up_cell d0
      repeat (go_big_quiet_step (fail))
      refine wpQuiet_nil ?_
      rintro _ ⟨z, rfl⟩
      go_wp2
      go_ret
      exact ⟨by simp, ((Ext.refl _).alloc _).trans (y.ext.trans z.ext)⟩
  · obtain rfl : k = N := by omega
    clear k3
    rcases hmm with ⟨m1, m2, m3⟩ | ⟨m1, m2, m3⟩ | ⟨m1, m2, m3⟩ | ⟨m1, m2, m3⟩
    · subst m3
      have c1' := run_cat (P := Tryz.prog) a [] (by simp; omega)
      simp only [Nat.sub_self, List.take_zero, List.append_nil] at c1' c2 ⊢
      go_enter Tryz.func80, Tryz.ntmps80
      go_wp2
      refine wp_region_up (by kernel_rfl) (by kernel_rfl) ?_
      repeat (go_big_quiet_step (fail))
      refine wpQuiet_nil ?_
      rintro _ ⟨y, rfl⟩
      have d0 := c0 y
      have d1 := c1 y
      go_wp2
      refine wp_region_up (by kernel_rfl) (by kernel_rfl) ?_
      have c0' := up_cell d0
      repeat (go_big_quiet_step (fail))
      refine wpQuiet_nil ?_
      rintro _ ⟨z, rfl⟩
      go_wp2
      go_ret
      exact ⟨by simp, ((Ext.refl _).alloc _).trans (y.ext.trans z.ext)⟩
    · obtain rfl : m = 64 := by omega
      have c1' := run_cat (P := Tryz.prog) a (X.take (k - 64)) (by simp; omega)
      go_enter Tryz.func80, Tryz.ntmps80
      go_wp2
      refine wp_region_up (by kernel_rfl) (by kernel_rfl) ?_
      repeat (go_big_quiet_step (fail))
      refine wpQuiet_nil ?_
      rintro _ ⟨y, rfl⟩
      have d0 := c0 y
      have d1 := c1 y
      go_wp2
      refine wp_region_up (by kernel_rfl) (by kernel_rfl) ?_
      have c0' := up_cell d0
      repeat (go_big_quiet_step (fail))
      refine wpQuiet_nil ?_
      rintro _ ⟨z, rfl⟩
      go_wp2
      go_ret
      exact ⟨by simp, ((Ext.refl _).alloc _).trans (y.ext.trans z.ext)⟩
    · subst m3
      have c1' := run_cat (P := Tryz.prog) a [] (by simp; omega)
      simp only [Nat.sub_self, List.take_zero, List.append_nil] at c1' c2 ⊢
      go_enter Tryz.func80, Tryz.ntmps80
      go_wp2
      refine wp_region_up (by kernel_rfl) (by kernel_rfl) ?_
      repeat (go_big_quiet_step (fail))
      refine wpQuiet_nil ?_
      rintro _ ⟨y, rfl⟩
      have d0 := c0 y
      have d1 := c1 y
      go_wp2
      refine wp_region_up (by kernel_rfl) (by kernel_rfl) ?_
      have c0' := up_cell d0
      repeat (go_big_quiet_step (fail))
      refine wpQuiet_nil ?_
      rintro _ ⟨z, rfl⟩
      go_wp2
      go_ret
      exact ⟨by simp, ((Ext.refl _).alloc _).trans (y.ext.trans z.ext)⟩
    · subst m3
      have c1' := run_cat (P := Tryz.prog) a (X.take (k - mark.length)) (by simp; omega)
      simp only [Nat.sub_self, List.drop_zero] at c1' c2 ⊢
      go_enter Tryz.func80, Tryz.ntmps80
      go_wp2
      refine wp_region_up (by kernel_rfl) (by kernel_rfl) ?_
      repeat (go_big_quiet_step (fail))
      refine wpQuiet_nil ?_
      rintro _ ⟨y, rfl⟩
      have d0 := c0 y
      have d1 := c1 y
      go_wp2
      refine wp_region_up (by kernel_rfl) (by kernel_rfl) ?_
      have c0' := up_cell d0
      repeat (go_big_quiet_step (fail))
      refine wpQuiet_nil ?_
      rintro _ ⟨z, rfl⟩
      go_wp2
      go_ret
      exact ⟨by simp, ((Ext.refl _).alloc _).trans (y.ext.trans z.ext)⟩
theorem rleft_any (a b : List UInt8) (cut : Int) (mark : List UInt8) (w : World) (ha : (a.length : Int) ≤ 1000000000) (hb : (b.length : Int) ≤ 1000000000) (hm : (mark.length : Int) ≤ 1000000000) :
    Calls Tryz.prog 80 #[.agg #[.string (S a), .string (S b)], .int .i64 cut, .string (S mark)] w fun e w' => e = .returned (.string (S (leftL a b cut mark))) ∧ Ext w w' := by
  by_cases hlt : (b.length : Int) < (a.length : Int)
  · have hp : ¬ (b.take a.length == a) = true := by rw [take_false (by omega)]; exact Bool.false_ne_true
    refine (rleft_other a b cut mark w (Or.inl hlt) ha hb (by omega)).mono fun e w' h => ⟨?_, h.2⟩
    rw [h.1]; unfold leftL; rw [if_neg hp]
  · by_cases hp : (b.take a.length == a) = true
    · obtain ⟨k, hk⟩ : ∃ k : Nat, k = (min (max cut 0) ((b.drop a.length).length : Int)).toNat := ⟨_, rfl⟩
      obtain ⟨m, hmm⟩ : ∃ m : Nat, m = min (min mark.length 64) k := ⟨_, rfl⟩
      have hl : ((b.drop a.length).length : Int) = (b.length : Int) - a.length := by rw [List.length_drop]; omega
      refine (rleft_pre a b cut mark w k m (by omega) hp ha hb hm (by omega) (by omega)).mono fun e w' h => ⟨?_, h.2⟩
      rw [h.1]; unfold leftL; rw [if_pos hp, ← hk]
      have hlk : ((b.drop a.length).take k).length = k := by rw [List.length_take]; omega
      unfold garbledL
      rw [hlk, ← hmm]
      rw [List.append_assoc]
    · refine (rleft_other a b cut mark w (Or.inr ⟨by omega, by simpa using hp⟩) ha hb (by omega)).mono fun e w' h => ⟨?_, h.2⟩
      rw [h.1]; unfold leftL; rw [if_neg hp]
set_option maxRecDepth 20000 in
set_option maxHeartbeats 1000000 in
theorem rfall_any (a b : List UInt8) (cut : Int) (mark : List UInt8) (w : World) (ha : (a.length : Int) ≤ 1000000000) (hb : (b.length : Int) ≤ 1000000000) (hm : (mark.length : Int) ≤ 1000000000) :
    Calls Tryz.prog 70 #[.agg #[.string (S a), .string (S b)], .int .i64 cut, .string (S mark)] w fun e w' => e = .returned (.agg #[.string (S (leftL a b cut mark)), .string (S (leftL a b cut mark))]) ∧ Ext w w' := by
  have HC := Lib.hid (fun w => rleft_any a b cut mark w ha hb hm)
  generalize leftL a b cut mark = r at HC
  go_enter Tryz.func70, Tryz.ntmps70
  go_wp2_with (go_at_call 80; refine (HC.out _).mono ?_; rintro e w' ⟨rfl, hx⟩; have hblk : Blk _ (w.heap.size + 1) _ _ := (Blk.new (w.alloc (.cells #[.string (S a), .string (S b)] 95)) 95 #[.string (S []), .string (S [])]).ext hx |> (by simpa using ·); have f0 : w'.frozen? ⟨w.heap.size + 1, 0, none⟩ = false := hblk.frozen 0; have f1 : w'.frozen? ⟨w.heap.size + 1, 1, none⟩ = false := hblk.frozen 1; have c0 : w'.cell? ⟨w.heap.size + 1, 0, none⟩ = some (.string (S [])) := hblk.cell 0; have c1 : w'.cell? ⟨w.heap.size + 1, 1, none⟩ = some (.string (S [])) := hblk.cell 1)
  exact bodyPost_ret (v := .agg #[.string (S r), .string (S r)]) (by simp [results, Tryz.results70, go_sem, c0, c1]) rfl ⟨rfl, Ext.set (Ext.set ((((Ext.refl _).alloc _).alloc _).trans hx) (Nat.le_succ _) _) (Nat.le_succ _) _⟩
end Go.Proofs.YtfipfljiohdlhaaGreat
