/- ref: what is left of a file, and a fall. -/
import Derived.Test.YtahnjfbcklifoaaFileC
namespace Go.Proofs.Ytahnjfbcklifoaa
set_option linter.unusedVariables false
set_option linter.unusedSimpArgs false
open Go.RowKit
attribute [local go_sem] S_size S_toList S_append S_extract S_beq S_bne S_empty S_nil

set_option maxRecDepth 20000 in
set_option maxHeartbeats 1000000 in
theorem rleft_other (a b : List UInt8) (cut : Int) (mark : List UInt8) (w : World) (hne : (b.length : Int) < (a.length : Int) ∨ ((a.length : Int) ≤ (b.length : Int) ∧ (b.take a.length == a) = false)) (ha : (a.length : Int) ≤ 1000000000) (hb : (b.length : Int) ≤ 1000000000) (hm : (mark.length : Int) ≤ 9223372036854775807) :
    Calls Try.prog 57 #[.agg #[.string (S a), .string (S b)], .int .i64 cut, .string (S mark)] w fun e w' => e = .returned (.string (S (if 0 < cut then b else a))) ∧ Ext w w' := by
  have c0 := up_cell (show (w.alloc (.cells #[.string (S a), .string (S b)] 41)).cell? ⟨w.heap.size, 0, none⟩ = some (.string (S a)) by simp)
  have c1 := up_cell (show (w.alloc (.cells #[.string (S a), .string (S b)] 41)).cell? ⟨w.heap.size, 1, none⟩ = some (.string (S b)) by simp)
  have hneq : (b.take a.length == a) = false → (b.take a.length != a) = true := by intro h; simp only [bne, h]; rfl
  rcases hne with h1 | ⟨h1, h2⟩
  · clear hneq
    by_cases hc : 0 < cut
    all_goals
      go_enter Try.func57, Try.ntmps57
      go_wp2
      refine wp_region_up (by kernel_rfl) (by kernel_rfl) ?_
      repeat (go_big_quiet_step (fail))
      refine wpQuiet_nil ?_
      rintro _ ⟨y, rfl⟩
      have d0 := c0 y
      have d1 := c1 y
      go_wp2
      go_ret
      exact ⟨rfl, ((Ext.refl _).alloc _).trans y.ext⟩
  · have h3 := hneq h2
    have h4 : ¬ b.length < a.length := by omega
    clear hneq
    by_cases hc : 0 < cut
    all_goals
      go_enter Try.func57, Try.ntmps57
      go_wp2
      refine wp_region_up (by kernel_rfl) (by kernel_rfl) ?_
      repeat (go_big_quiet_step (fail))
      refine wpQuiet_nil ?_
      rintro _ ⟨y, rfl⟩
      have d0 := c0 y
      have d1 := c1 y
      go_wp2
      go_ret
      exact ⟨rfl, ((Ext.refl _).alloc _).trans y.ext⟩

set_option maxRecDepth 20000 in
set_option maxHeartbeats 1000000 in
theorem rleft_pre (a b : List UInt8) (cut : Int) (mark : List UInt8) (w : World) (k m : Nat) (h1 : (a.length : Int) ≤ (b.length : Int)) (h2 : (b.take a.length == a) = true) (ha : (a.length : Int) ≤ 1000000000) (hb : (b.length : Int) ≤ 1000000000) (hm : (mark.length : Int) ≤ 1000000000)
    (hk : (cut < (b.length : Int) - (a.length : Int) ∧ cut < 0 ∧ (k : Int) = 0) ∨ (cut < (b.length : Int) - (a.length : Int) ∧ ¬ cut < 0 ∧ (k : Int) = cut) ∨ (¬ cut < (b.length : Int) - (a.length : Int) ∧ (k : Int) = (b.length : Int) - (a.length : Int)))
    (hmm : (64 < (mark.length : Int) ∧ (k : Int) < 64 ∧ m = k) ∨ (64 < (mark.length : Int) ∧ ¬ (k : Int) < 64 ∧ (m : Int) = 64) ∨ (¬ 64 < (mark.length : Int) ∧ (k : Int) < (mark.length : Int) ∧ m = k) ∨ (¬ 64 < (mark.length : Int) ∧ ¬ (k : Int) < (mark.length : Int) ∧ m = mark.length)) :
    Calls Try.prog 57 #[.agg #[.string (S a), .string (S b)], .int .i64 cut, .string (S mark)] w fun e w' => e = .returned (.string (S (a ++ ((b.drop a.length).take k).take (k - m) ++ mark.drop (mark.length - m)))) ∧ Ext w w' := by
  have c0 := up_cell (show (w.alloc (.cells #[.string (S a), .string (S b)] 41)).cell? ⟨w.heap.size, 0, none⟩ = some (.string (S a)) by simp)
  have c1 := up_cell (show (w.alloc (.cells #[.string (S a), .string (S b)] 41)).cell? ⟨w.heap.size, 1, none⟩ = some (.string (S b)) by simp)
  have h3 : (b.take a.length != a) = false := by simp only [bne, h2]; rfl
  have h4 : ¬ b.length < a.length := by omega
  have hkb : (k : Int) ≤ (b.length : Int) - (a.length : Int) := by omega
  have hmk : (m : Int) ≤ (k : Int) := by omega
  have hmm2 : (m : Int) ≤ (mark.length : Int) := by omega
  obtain ⟨N, hN⟩ : ∃ N : Nat, (N : Int) = (b.length : Int) - (a.length : Int) := ⟨b.length - a.length, by omega⟩
  have e1 : IntKind.i64.wrap ((b.length : Int) - (a.length : Int)) = (N : Int) := by rw [IntWalk.i64_in _ (by omega)]; omega
  have e2 : IntKind.i64.wrap ((a.length : Int) + (k : Int)) = ((a.length + k : Nat) : Int) := by rw [IntWalk.i64_in _ (by omega)]; omega
  have e3 : IntKind.i64.wrap ((k : Int) - (m : Int)) = ((k - m : Nat) : Int) := by rw [IntWalk.i64_in _ (by omega)]; omega
  have e4 : IntKind.i64.wrap ((mark.length : Int) - (m : Int)) = ((mark.length - m : Nat) : Int) := by rw [IntWalk.i64_in _ (by omega)]; omega
  have e5 : (b.length : Int) - (a.length : Int) = (N : Int) := hN.symm
  rw [e5] at hk
  clear hN
  obtain ⟨X, hX⟩ : ∃ X, X = List.drop a.length (List.take (a.length + k) b) := ⟨_, rfl⟩
  have hXl : X.length = k := by rw [hX]; simp; omega
  have hX2 : (b.drop a.length).take k = X := by rw [hX, List.drop_take]; congr 1; omega
  rw [hX2]
  have hs := hX.symm
  clear hX
  have c2 := run_cat (P := Try.prog) (a ++ X.take (k - m)) (mark.drop (mark.length - m)) (by simp; omega)
  rcases hk with ⟨k1, k2, k3⟩ | ⟨k1, k2, k3⟩ | ⟨k1, k3⟩
  · obtain rfl : k = 0 := by omega
    obtain rfl : m = 0 := by omega
    obtain rfl : X = [] := List.eq_nil_of_length_eq_zero hXl
    clear c2 hs e1 e2 e3 e4 hX2 k3 hkb hmk hmm2 hXl
    have c1' := run_cat (P := Try.prog) a [] (by simp; omega)
    simp only [List.append_nil] at c1'
    have h9 : List.drop mark.length mark = [] := by simp
    by_cases m1 : 64 < (mark.length : Int)
    · clear hmm
      go_enter Try.func57, Try.ntmps57
      go_wp2
      refine wp_region_up (by kernel_rfl) (by kernel_rfl) ?_
      repeat (go_big_quiet_step (fail))
      refine wpQuiet_nil ?_
      rintro _ ⟨y, rfl⟩
      have d0 := c0 y
      have d1 := c1 y
      go_wp2
      refine wp_region_up (by kernel_rfl) (by kernel_rfl) ?_
      have c0' := up_cell d0
      repeat (go_big_quiet_step (fail))
      refine wpQuiet_nil ?_
      rintro _ ⟨z, rfl⟩
      go_wp2
      go_ret
      exact ⟨by simp, ((Ext.refl _).alloc _).trans (y.ext.trans z.ext)⟩
    · by_cases m2 : 0 < (mark.length : Int)
      · clear hmm
        go_enter Try.func57, Try.ntmps57
        go_wp2
        refine wp_region_up (by kernel_rfl) (by kernel_rfl) ?_
        repeat (go_big_quiet_step (fail))
        refine wpQuiet_nil ?_
        rintro _ ⟨y, rfl⟩
        have d0 := c0 y
        have d1 := c1 y
        go_wp2
        refine wp_region_up (by kernel_rfl) (by kernel_rfl) ?_
        have c0' := up_cell d0
        repeat (go_big_quiet_step (fail))
        refine wpQuiet_nil ?_
        rintro _ ⟨z, rfl⟩
        go_wp2
        go_ret
        exact ⟨by simp, ((Ext.refl _).alloc _).trans (y.ext.trans z.ext)⟩
      · obtain rfl : mark = [] := List.eq_nil_of_length_eq_zero (by omega)
        clear hmm m1 m2
        go_enter Try.func57, Try.ntmps57
        go_wp2
        refine wp_region_up (by kernel_rfl) (by kernel_rfl) ?_
        repeat (go_big_quiet_step (fail))
        refine wpQuiet_nil ?_
        rintro _ ⟨y, rfl⟩
        have d0 := c0 y
        have d1 := c1 y
        go_wp2
        refine wp_region_up (by kernel_rfl) (by kernel_rfl) ?_
        have c0' := up_cell d0
        repeat (go_big_quiet_step (fail))
        refine wpQuiet_nil ?_
        rintro _ ⟨z, rfl⟩
        go_wp2
        go_ret
        exact ⟨by simp, ((Ext.refl _).alloc _).trans (y.ext.trans z.ext)⟩
  · subst k3
    have k4 : ¬ ((k : Int) < 0) := k2
    rcases hmm with ⟨m1, m2, m3⟩ | ⟨m1, m2, m3⟩ | ⟨m1, m2, m3⟩ | ⟨m1, m2, m3⟩
    · subst m3
      have c1' := run_cat (P := Try.prog) a [] (by simp; omega)
      simp only [Nat.sub_self, List.take_zero, List.append_nil] at c1' c2 ⊢
      go_enter Try.func57, Try.ntmps57
      go_wp2
      refine wp_region_up (by kernel_rfl) (by kernel_rfl) ?_
      repeat (go_big_quiet_step (fail))
      refine wpQuiet_nil ?_
      rintro _ ⟨y, rfl⟩
      have d0 := c0 y
      have d1 := c1 y
      go_wp2
      refine wp_region_up (by kernel_rfl) (by kernel_rfl) ?_
      have c0' := up_cell d0
      repeat (go_big_quiet_step (fail))
      refine wpQuiet_nil ?_
      rintro _ ⟨z, rfl⟩
      go_wp2
      go_ret
      exact ⟨by simp, ((Ext.refl _).alloc _).trans (y.ext.trans z.ext)⟩
    · obtain rfl : m = 64 := by omega
      have c1' := run_cat (P := Try.prog) a (X.take (k - 64)) (by simp; omega)
      go_enter Try.func57, Try.ntmps57
      go_wp2
      refine wp_region_up (by kernel_rfl) (by kernel_rfl) ?_
      repeat (go_big_quiet_step (fail))
      refine wpQuiet_nil ?_
      rintro _ ⟨y, rfl⟩
      have d0 := c0 y
      have d1 := c1 y
      go_wp2
      refine wp_region_up (by kernel_rfl) (by kernel_rfl) ?_
      have c0' := up_cell d0
      repeat (go_big_quiet_step (fail))
      refine wpQuiet_nil ?_
      rintro _ ⟨z, rfl⟩
      go_wp2
      go_ret
      exact ⟨by simp, ((Ext.refl _).alloc _).trans (y.ext.trans z.ext)⟩
    · subst m3
      have c1' := run_cat (P := Try.prog) a [] (by simp; omega)
      simp only [Nat.sub_self, List.take_zero, List.append_nil] at c1' c2 ⊢
      go_enter Try.func57, Try.ntmps57
      go_wp2
      refine wp_region_up (by kernel_rfl) (by kernel_rfl) ?_
      repeat (go_big_quiet_step (fail))
      refine wpQuiet_nil ?_
      rintro _ ⟨y, rfl⟩
      have d0 := c0 y
      have d1 := c1 y
      go_wp2
      refine wp_region_up (by kernel_rfl) (by kernel_rfl) ?_
      have c0' := up_cell d0
      repeat (go_big_quiet_step (fail))
      refine wpQuiet_nil ?_
      rintro _ ⟨z, rfl⟩
      go_wp2
      go_ret
      exact ⟨by simp, ((Ext.refl _).alloc _).trans (y.ext.trans z.ext)⟩
    · subst m3
      have c1' := run_cat (P := Try.prog) a (X.take (k - mark.length)) (by simp; omega)
      simp only [Nat.sub_self, List.drop_zero] at c1' c2 ⊢
      go_enter Try.func57, Try.ntmps57
      go_wp2
      refine wp_region_up (by kernel_rfl) (by kernel_rfl) ?_
      repeat (go_big_quiet_step (fail))
      refine wpQuiet_nil ?_
      rintro _ ⟨y, rfl⟩
      have d0 := c0 y
      have d1 := c1 y
      go_wp2
      refine wp_region_up (by kernel_rfl) (by kernel_rfl) ?_
      have c0' := up_cell d0
      repeat (go_big_quiet_step (fail))
      refine wpQuiet_nil ?_
      rintro _ ⟨z, rfl⟩
      go_wp2
      go_ret
      exact ⟨by simp, ((Ext.refl _).alloc _).trans (y.ext.trans z.ext)⟩
  · obtain rfl : k = N := by omega
    clear k3
    rcases hmm with ⟨m1, m2, m3⟩ | ⟨m1, m2, m3⟩ | ⟨m1, m2, m3⟩ | ⟨m1, m2, m3⟩
    · subst m3
      have c1' := run_cat (P := Try.prog) a [] (by simp; omega)
      simp only [Nat.sub_self, List.take_zero, List.append_nil] at c1' c2 ⊢
      go_enter Try.func57, Try.ntmps57
      go_wp2
      refine wp_region_up (by kernel_rfl) (by kernel_rfl) ?_
      repeat (go_big_quiet_step (fail))
      refine wpQuiet_nil ?_
      rintro _ ⟨y, rfl⟩
      have d0 := c0 y
      have d1 := c1 y
      go_wp2
      refine wp_region_up (by kernel_rfl) (by kernel_rfl) ?_
      have c0' := up_cell d0
      repeat (go_big_quiet_step (fail))
      refine wpQuiet_nil ?_
      rintro _ ⟨z, rfl⟩
      go_wp2
      go_ret
      exact ⟨by simp, ((Ext.refl _).alloc _).trans (y.ext.trans z.ext)⟩
    · obtain rfl : m = 64 := by omega
      have c1' := run_cat (P := Try.prog) a (X.take (k - 64)) (by simp; omega)
      go_enter Try.func57, Try.ntmps57
      go_wp2
      refine wp_region_up (by kernel_rfl) (by kernel_rfl) ?_
      repeat (go_big_quiet_step (fail))
      refine wpQuiet_nil ?_
      rintro _ ⟨y, rfl⟩
      have d0 := c0 y
      have d1 := c1 y
      go_wp2
      refine wp_region_up (by kernel_rfl) (by kernel_rfl) ?_
      have c0' := up_cell d0
      repeat (go_big_quiet_step (fail))
      refine wpQuiet_nil ?_
      rintro _ ⟨z, rfl⟩
      go_wp2
      go_ret
      exact ⟨by simp, ((Ext.refl _).alloc _).trans (y.ext.trans z.ext)⟩
    · subst m3
      have c1' := run_cat (P := Try.prog) a [] (by simp; omega)
      simp only [Nat.sub_self, List.take_zero, List.append_nil] at c1' c2 ⊢
      go_enter Try.func57, Try.ntmps57
      go_wp2
      refine wp_region_up (by kernel_rfl) (by kernel_rfl) ?_
      repeat (go_big_quiet_step (fail))
      refine wpQuiet_nil ?_
      rintro _ ⟨y, rfl⟩
      have d0 := c0 y
      have d1 := c1 y
      go_wp2
      refine wp_region_up (by kernel_rfl) (by kernel_rfl) ?_
      have c0' := up_cell d0
      repeat (go_big_quiet_step (fail))
      refine wpQuiet_nil ?_
      rintro _ ⟨z, rfl⟩
      go_wp2
      go_ret
      exact ⟨by simp, ((Ext.refl _).alloc _).trans (y.ext.trans z.ext)⟩
    · subst m3
      have c1' := run_cat (P := Try.prog) a (X.take (k - mark.length)) (by simp; omega)
      simp only [Nat.sub_self, List.drop_zero] at c1' c2 ⊢
      go_enter Try.func57, Try.ntmps57
      go_wp2
      refine wp_region_up (by kernel_rfl) (by kernel_rfl) ?_
      repeat (go_big_quiet_step (fail))
      refine wpQuiet_nil ?_
      rintro _ ⟨y, rfl⟩
      have d0 := c0 y
      have d1 := c1 y
      go_wp2
      refine wp_region_up (by kernel_rfl) (by kernel_rfl) ?_
      have c0' := up_cell d0
      repeat (go_big_quiet_step (fail))
      refine wpQuiet_nil ?_
      rintro _ ⟨z, rfl⟩
      go_wp2
      go_ret
      exact ⟨by simp, ((Ext.refl _).alloc _).trans (y.ext.trans z.ext)⟩
end Go.Proofs.Ytahnjfbcklifoaa
