/- pick: clamp, has, Check; varveref27: clamp, Check. (Printed by wip/tools/pick1.py.) -/
import Derived.Test.YtfcfhaghamgdaaaGen
import Derived.Test.YtfcfhaghamgdaaaMinMax
import Derived.LoopTactic
namespace Go.Proofs.Ytfcfhaghamgdaaa
set_option linter.unusedVariables false
set_option linter.unusedSimpArgs false
open Go.RowKit

def clampI (n : Int) : Int := min (max n 0) 1000000000
theorem clampI_le (n : Int) : 0 ≤ clampI n ∧ clampI n ≤ 1000000000 := by unfold clampI; omega
set_option maxRecDepth 20000 in
theorem wclamp_any (n : Int) (w : World) : Calls Try.prog 27 #[.int .i64 n] w fun e w' => e = .returned (.int .i64 (clampI n)) ∧ w = w' := by
  have h1 := max2_run n 0 (max n 0) rfl
  have h2 := min2_run (max n 0) 1000000000 (clampI n) rfl
  generalize clampI n = c at *
  generalize max n 0 = m at *
  go_enter Try.func27, Try.ntmps27
  go_wp2
  go_ret
  exact ⟨rfl, rfl⟩
set_option maxRecDepth 20000 in
theorem rclamp_any (n : Int) (w : World) : Calls Try.prog 30 #[.int .i64 n] w fun e w' => e = .returned (.int .i64 (clampI n)) ∧ w = w' := by
  by_cases h1 : n < 0
  · have hc := Lib.hid (show clampI n = 0 by unfold clampI; omega)
    go_enter Try.func30, Try.ntmps30
    go_wp2
    go_ret
    exact ⟨by rw [hc.out]; rfl, rfl⟩
  · by_cases h2 : (1000000000 : Int) < n
    · have hc := Lib.hid (show clampI n = 1000000000 by unfold clampI; omega)
      go_enter Try.func30, Try.ntmps30
      go_wp2
      go_ret
      exact ⟨by rw [hc.out]; rfl, rfl⟩
    · have hc := Lib.hid (show clampI n = n by unfold clampI; omega)
      go_enter Try.func30, Try.ntmps30
      go_wp2
      go_ret
      exact ⟨by rw [hc.out]; rfl, rfl⟩
def hasP (f t n : Int) : Bool := decide (f ≤ n) && decide (n ≤ t)
theorem bounds_build (a b : Int) (w : World) : (Instr.build 55 #[(0, .int .i64 a), (1, .int .i64 b)]).run Try.prog w = .ok (.agg #[.int .i64 a, .int .i64 b]) w := by kernel_rfl
set_option maxRecDepth 20000 in
theorem has_any (f t n : Int) (w : World) : Calls Try.prog 29 #[.agg #[.int .i64 f, .int .i64 t], .int .i64 n] w fun e w' => e = .returned (.bool (hasP f t n)) ∧ Ext w w' := by
  have b1 := Lib.hid (Blk.new w 55 #[.int .i64 f, .int .i64 t])
  have c0 := b1.out.cell 0
  have c1 := b1.out.cell 1
  by_cases h1 : f ≤ n
  · by_cases h2 : n ≤ t
    · have hc := Lib.hid (show hasP f t n = true by simp [hasP, h1, h2])
      go_enter Try.func29, Try.ntmps29
      go_wp2
      go_ret
      exact ⟨by rw [hc.out]; rfl, (Ext.refl _).alloc _⟩
    · have hc := Lib.hid (show hasP f t n = false by simp [hasP, h2])
      have h3 : (n ≤ t) = False := by simpa using h2
      go_enter Try.func29, Try.ntmps29
      go_wp2
      go_ret
      exact ⟨by rw [hc.out]; rfl, (Ext.refl _).alloc _⟩
  · have hc := Lib.hid (show hasP f t n = false by simp [hasP, h1])
    go_enter Try.func29, Try.ntmps29
    go_wp2
    go_ret
    exact ⟨by rw [hc.out]; rfl, (Ext.refl _).alloc _⟩

def confD (blk tgt seg age keep byt old : Int) : Prop := 16 ≤ blk ∧ blk ≤ 4000 ∧ blk ≤ tgt ∧ tgt ≤ 8000 ∧ 200 ≤ seg ∧ seg ≤ 100000 ∧ 0 ≤ age ∧ age ≤ 1000000000 ∧ 0 ≤ keep ∧ keep ≤ 90 ∧ 0 ≤ byt ∧ byt ≤ 10000000 ∧ 0 ≤ old ∧ old ≤ 1000000000
instance (blk tgt seg age keep byt old : Int) : Decidable (confD blk tgt seg age keep byt old) := by unfold confD; infer_instance
/-- a configuration may be -/
def confP (blk tgt seg age keep byt old : Int) : Bool := decide (confD blk tgt seg age keep byt old)
theorem confP_has (blk tgt seg age keep byt old : Int) : confP blk tgt seg age keep byt old = (((hasP 16 4000 blk && hasP blk 8000 tgt) && hasP 200 100000 seg) && ((hasP 0 90 keep && hasP 0 10000000 byt) && (hasP 0 1000000000 age && hasP 0 1000000000 old))) := by
  rw [Bool.eq_iff_iff]
  unfold confP hasP
  simp only [decide_eq_true_eq, Bool.and_eq_true]
  unfold confD
  constructor
  · rintro ⟨h1, h2, h3, h4, h5, h6, h7, h8, h9, h10, h11, h12, h13, h14⟩
    exact ⟨⟨⟨⟨h1, h2⟩, ⟨h3, h4⟩⟩, ⟨h5, h6⟩⟩, ⟨⟨h9, h10⟩, ⟨h11, h12⟩⟩, ⟨⟨h7, h8⟩, ⟨h13, h14⟩⟩⟩
  · rintro ⟨⟨⟨⟨h1, h2⟩, ⟨h3, h4⟩⟩, ⟨h5, h6⟩⟩, ⟨⟨h9, h10⟩, ⟨h11, h12⟩⟩, ⟨⟨h7, h8⟩, ⟨h13, h14⟩⟩⟩
    exact ⟨h1, h2, h3, h4, h5, h6, h7, h8, h9, h10, h11, h12, h13, h14⟩
def errC (b : Bool) : Int := if b then 0 else 270

theorem conf_firsts (blk tgt seg age keep byt old : Int) :
    (confP blk tgt seg age keep byt old = true ∧ 16 ≤ blk ∧ blk ≤ 4000 ∧ blk ≤ tgt ∧ tgt ≤ 8000 ∧ 200 ≤ seg ∧ seg ≤ 100000 ∧ 0 ≤ age ∧ age ≤ 1000000000 ∧ 0 ≤ keep ∧ keep ≤ 90 ∧ 0 ≤ byt ∧ byt ≤ 10000000 ∧ 0 ≤ old ∧ old ≤ 1000000000)
    ∨ (confP blk tgt seg age keep byt old = false ∧ ¬ (16 ≤ blk))
    ∨ (confP blk tgt seg age keep byt old = false ∧ 16 ≤ blk ∧ ¬ (blk ≤ 4000))
    ∨ (confP blk tgt seg age keep byt old = false ∧ 16 ≤ blk ∧ blk ≤ 4000 ∧ ¬ (blk ≤ tgt))
    ∨ (confP blk tgt seg age keep byt old = false ∧ 16 ≤ blk ∧ blk ≤ 4000 ∧ blk ≤ tgt ∧ ¬ (tgt ≤ 8000))
    ∨ (confP blk tgt seg age keep byt old = false ∧ 16 ≤ blk ∧ blk ≤ 4000 ∧ blk ≤ tgt ∧ tgt ≤ 8000 ∧ ¬ (200 ≤ seg))
    ∨ (confP blk tgt seg age keep byt old = false ∧ 16 ≤ blk ∧ blk ≤ 4000 ∧ blk ≤ tgt ∧ tgt ≤ 8000 ∧ 200 ≤ seg ∧ ¬ (seg ≤ 100000))
    ∨ (confP blk tgt seg age keep byt old = false ∧ 16 ≤ blk ∧ blk ≤ 4000 ∧ blk ≤ tgt ∧ tgt ≤ 8000 ∧ 200 ≤ seg ∧ seg ≤ 100000 ∧ ¬ (0 ≤ age))
    ∨ (confP blk tgt seg age keep byt old = false ∧ 16 ≤ blk ∧ blk ≤ 4000 ∧ blk ≤ tgt ∧ tgt ≤ 8000 ∧ 200 ≤ seg ∧ seg ≤ 100000 ∧ 0 ≤ age ∧ ¬ (age ≤ 1000000000))
    ∨ (confP blk tgt seg age keep byt old = false ∧ 16 ≤ blk ∧ blk ≤ 4000 ∧ blk ≤ tgt ∧ tgt ≤ 8000 ∧ 200 ≤ seg ∧ seg ≤ 100000 ∧ 0 ≤ age ∧ age ≤ 1000000000 ∧ ¬ (0 ≤ keep))
    ∨ (confP blk tgt seg age keep byt old = false ∧ 16 ≤ blk ∧ blk ≤ 4000 ∧ blk ≤ tgt ∧ tgt ≤ 8000 ∧ 200 ≤ seg ∧ seg ≤ 100000 ∧ 0 ≤ age ∧ age ≤ 1000000000 ∧ 0 ≤ keep ∧ ¬ (keep ≤ 90))
    ∨ (confP blk tgt seg age keep byt old = false ∧ 16 ≤ blk ∧ blk ≤ 4000 ∧ blk ≤ tgt ∧ tgt ≤ 8000 ∧ 200 ≤ seg ∧ seg ≤ 100000 ∧ 0 ≤ age ∧ age ≤ 1000000000 ∧ 0 ≤ keep ∧ keep ≤ 90 ∧ ¬ (0 ≤ byt))
    ∨ (confP blk tgt seg age keep byt old = false ∧ 16 ≤ blk ∧ blk ≤ 4000 ∧ blk ≤ tgt ∧ tgt ≤ 8000 ∧ 200 ≤ seg ∧ seg ≤ 100000 ∧ 0 ≤ age ∧ age ≤ 1000000000 ∧ 0 ≤ keep ∧ keep ≤ 90 ∧ 0 ≤ byt ∧ ¬ (byt ≤ 10000000))
    ∨ (confP blk tgt seg age keep byt old = false ∧ 16 ≤ blk ∧ blk ≤ 4000 ∧ blk ≤ tgt ∧ tgt ≤ 8000 ∧ 200 ≤ seg ∧ seg ≤ 100000 ∧ 0 ≤ age ∧ age ≤ 1000000000 ∧ 0 ≤ keep ∧ keep ≤ 90 ∧ 0 ≤ byt ∧ byt ≤ 10000000 ∧ ¬ (0 ≤ old))
    ∨ (confP blk tgt seg age keep byt old = false ∧ 16 ≤ blk ∧ blk ≤ 4000 ∧ blk ≤ tgt ∧ tgt ≤ 8000 ∧ 200 ≤ seg ∧ seg ≤ 100000 ∧ 0 ≤ age ∧ age ≤ 1000000000 ∧ 0 ≤ keep ∧ keep ≤ 90 ∧ 0 ≤ byt ∧ byt ≤ 10000000 ∧ 0 ≤ old ∧ ¬ (old ≤ 1000000000)) := by
  unfold confP
  rw [decide_eq_true_eq, decide_eq_false_iff_not]
  unfold confD
  simp only [and_assoc]
  refine (Classical.em (16 ≤ blk)).elim (fun h0 => ?_) (fun h0 => .inr (.inl ⟨fun h => h0 h.1, h0⟩))
  refine (Classical.em (blk ≤ 4000)).elim (fun h1 => ?_) (fun h1 => .inr (.inr (.inl ⟨fun h => h1 h.2.1, h0, h1⟩)))
  refine (Classical.em (blk ≤ tgt)).elim (fun h2 => ?_) (fun h2 => .inr (.inr (.inr (.inl ⟨fun h => h2 h.2.2.1, h0, h1, h2⟩))))
  refine (Classical.em (tgt ≤ 8000)).elim (fun h3 => ?_) (fun h3 => .inr (.inr (.inr (.inr (.inl ⟨fun h => h3 h.2.2.2.1, h0, h1, h2, h3⟩)))))
  refine (Classical.em (200 ≤ seg)).elim (fun h4 => ?_) (fun h4 => .inr (.inr (.inr (.inr (.inr (.inl ⟨fun h => h4 h.2.2.2.2.1, h0, h1, h2, h3, h4⟩))))))
  refine (Classical.em (seg ≤ 100000)).elim (fun h5 => ?_) (fun h5 => .inr (.inr (.inr (.inr (.inr (.inr (.inl ⟨fun h => h5 h.2.2.2.2.2.1, h0, h1, h2, h3, h4, h5⟩)))))))
  refine (Classical.em (0 ≤ age)).elim (fun h6 => ?_) (fun h6 => .inr (.inr (.inr (.inr (.inr (.inr (.inr (.inl ⟨fun h => h6 h.2.2.2.2.2.2.1, h0, h1, h2, h3, h4, h5, h6⟩))))))))
  refine (Classical.em (age ≤ 1000000000)).elim (fun h7 => ?_) (fun h7 => .inr (.inr (.inr (.inr (.inr (.inr (.inr (.inr (.inl ⟨fun h => h7 h.2.2.2.2.2.2.2.1, h0, h1, h2, h3, h4, h5, h6, h7⟩)))))))))
  refine (Classical.em (0 ≤ keep)).elim (fun h8 => ?_) (fun h8 => .inr (.inr (.inr (.inr (.inr (.inr (.inr (.inr (.inr (.inl ⟨fun h => h8 h.2.2.2.2.2.2.2.2.1, h0, h1, h2, h3, h4, h5, h6, h7, h8⟩))))))))))
  refine (Classical.em (keep ≤ 90)).elim (fun h9 => ?_) (fun h9 => .inr (.inr (.inr (.inr (.inr (.inr (.inr (.inr (.inr (.inr (.inl ⟨fun h => h9 h.2.2.2.2.2.2.2.2.2.1, h0, h1, h2, h3, h4, h5, h6, h7, h8, h9⟩)))))))))))
  refine (Classical.em (0 ≤ byt)).elim (fun h10 => ?_) (fun h10 => .inr (.inr (.inr (.inr (.inr (.inr (.inr (.inr (.inr (.inr (.inr (.inl ⟨fun h => h10 h.2.2.2.2.2.2.2.2.2.2.1, h0, h1, h2, h3, h4, h5, h6, h7, h8, h9, h10⟩))))))))))))
  refine (Classical.em (byt ≤ 10000000)).elim (fun h11 => ?_) (fun h11 => .inr (.inr (.inr (.inr (.inr (.inr (.inr (.inr (.inr (.inr (.inr (.inr (.inl ⟨fun h => h11 h.2.2.2.2.2.2.2.2.2.2.2.1, h0, h1, h2, h3, h4, h5, h6, h7, h8, h9, h10, h11⟩)))))))))))))
  refine (Classical.em (0 ≤ old)).elim (fun h12 => ?_) (fun h12 => .inr (.inr (.inr (.inr (.inr (.inr (.inr (.inr (.inr (.inr (.inr (.inr (.inr (.inl ⟨fun h => h12 h.2.2.2.2.2.2.2.2.2.2.2.2.1, h0, h1, h2, h3, h4, h5, h6, h7, h8, h9, h10, h11, h12⟩))))))))))))))
  refine (Classical.em (old ≤ 1000000000)).elim (fun h13 => ?_) (fun h13 => .inr (.inr (.inr (.inr (.inr (.inr (.inr (.inr (.inr (.inr (.inr (.inr (.inr (.inr (⟨fun h => h13 h.2.2.2.2.2.2.2.2.2.2.2.2.2, h0, h1, h2, h3, h4, h5, h6, h7, h8, h9, h10, h11, h12, h13⟩)))))))))))))))
  have hall := And.intro h0 (And.intro h1 (And.intro h2 (And.intro h3 (And.intro h4 (And.intro h5 (And.intro h6 (And.intro h7 (And.intro h8 (And.intro h9 (And.intro h10 (And.intro h11 (And.intro h12 (h13)))))))))))))
  exact .inl ⟨h0, h1, h2, h3, h4, h5, h6, h7, h8, h9, h10, h11, h12, h13, hall⟩

attribute [local go_sem] bounds_build
set_option maxRecDepth 20000 in
set_option maxHeartbeats 8000000 in
theorem wconf_any (blk tgt seg age keep byt old : Int) (w : World) : Calls Try.prog 9 #[.agg #[.int .i64 blk, .int .i64 tgt, .int .i64 seg, .int .i64 age, .int .i64 keep, .int .i64 byt, .int .i64 old]] w fun e w' => e = .returned (.int .i64 (errC (confP blk tgt seg age keep byt old))) ∧ Ext w w' := by
  have hb := confP_has blk tgt seg age keep byt old
  rw [hb]
  clear hb
  have Q0 := Lib.hid (fun w => has_any 16 4000 blk w)
  have Q1 := Lib.hid (fun w => has_any blk 8000 tgt w)
  have Q2 := Lib.hid (fun w => has_any 200 100000 seg w)
  have Q3 := Lib.hid (fun w => has_any 0 90 keep w)
  have Q4 := Lib.hid (fun w => has_any 0 10000000 byt w)
  have Q5 := Lib.hid (fun w => has_any 0 1000000000 age w)
  have Q6 := Lib.hid (fun w => has_any 0 1000000000 old w)
  generalize hasP 16 4000 blk = b0 at *
  generalize hasP blk 8000 tgt = b1 at *
  generalize hasP 200 100000 seg = b2 at *
  generalize hasP 0 90 keep = b3 at *
  generalize hasP 0 10000000 byt = b4 at *
  generalize hasP 0 1000000000 age = b5 at *
  generalize hasP 0 1000000000 old = b6 at *
  have B1 := Lib.hid (Blk.new w 23 #[.int .i64 blk, .int .i64 tgt, .int .i64 seg, .int .i64 age, .int .i64 keep, .int .i64 byt, .int .i64 old])
  have c0 := B1.out.cell 0
  have c1 := B1.out.cell 1
  have c2 := B1.out.cell 2
  have c3 := B1.out.cell 3
  have c4 := B1.out.cell 4
  have c5 := B1.out.cell 5
  have c6 := B1.out.cell 6
  cases b0
  · cases b3
    · simp only [Bool.true_and, Bool.and_true, Bool.false_and, Bool.and_false]
      go_enter Try.func9, Try.ntmps9
      go_wp2_with fail
      refine (Q0.out _).mono ?_
      rintro _ w0 ⟨rfl, x0⟩
      have c0 := Go.cell_later x0 c0
      have c1 := Go.cell_later x0 c1
      have c2 := Go.cell_later x0 c2
      have c3 := Go.cell_later x0 c3
      have c4 := Go.cell_later x0 c4
      have c5 := Go.cell_later x0 c5
      have c6 := Go.cell_later x0 c6
      go_wp2_with fail
      refine (Q3.out _).mono ?_
      rintro _ w1 ⟨rfl, x1⟩
      have c0 := Go.cell_later x1 c0
      have c1 := Go.cell_later x1 c1
      have c2 := Go.cell_later x1 c2
      have c3 := Go.cell_later x1 c3
      have c4 := Go.cell_later x1 c4
      have c5 := Go.cell_later x1 c5
      have c6 := Go.cell_later x1 c6
      go_wp2_with fail
      go_ret
      exact ⟨rfl, ((((Ext.refl _).alloc _).trans x0).trans x1)⟩
    · cases b4
      · simp only [Bool.true_and, Bool.and_true, Bool.false_and, Bool.and_false]
        go_enter Try.func9, Try.ntmps9
        go_wp2_with fail
        refine (Q0.out _).mono ?_
        rintro _ w0 ⟨rfl, x0⟩
        have c0 := Go.cell_later x0 c0
        have c1 := Go.cell_later x0 c1
        have c2 := Go.cell_later x0 c2
        have c3 := Go.cell_later x0 c3
        have c4 := Go.cell_later x0 c4
        have c5 := Go.cell_later x0 c5
        have c6 := Go.cell_later x0 c6
        go_wp2_with fail
        refine (Q3.out _).mono ?_
        rintro _ w1 ⟨rfl, x1⟩
        have c0 := Go.cell_later x1 c0
        have c1 := Go.cell_later x1 c1
        have c2 := Go.cell_later x1 c2
        have c3 := Go.cell_later x1 c3
        have c4 := Go.cell_later x1 c4
        have c5 := Go.cell_later x1 c5
        have c6 := Go.cell_later x1 c6
        go_wp2_with fail
        refine (Q4.out _).mono ?_
        rintro _ w2 ⟨rfl, x2⟩
        have c0 := Go.cell_later x2 c0
        have c1 := Go.cell_later x2 c1
        have c2 := Go.cell_later x2 c2
        have c3 := Go.cell_later x2 c3
        have c4 := Go.cell_later x2 c4
        have c5 := Go.cell_later x2 c5
        have c6 := Go.cell_later x2 c6
        go_wp2_with fail
        go_ret
        exact ⟨rfl, (((((Ext.refl _).alloc _).trans x0).trans x1).trans x2)⟩
      · simp only [Bool.true_and, Bool.and_true, Bool.false_and, Bool.and_false]
        go_enter Try.func9, Try.ntmps9
        go_wp2_with fail
        refine (Q0.out _).mono ?_
        rintro _ w0 ⟨rfl, x0⟩
        have c0 := Go.cell_later x0 c0
        have c1 := Go.cell_later x0 c1
        have c2 := Go.cell_later x0 c2
        have c3 := Go.cell_later x0 c3
        have c4 := Go.cell_later x0 c4
        have c5 := Go.cell_later x0 c5
        have c6 := Go.cell_later x0 c6
        go_wp2_with fail
        refine (Q3.out _).mono ?_
        rintro _ w1 ⟨rfl, x1⟩
        have c0 := Go.cell_later x1 c0
        have c1 := Go.cell_later x1 c1
        have c2 := Go.cell_later x1 c2
        have c3 := Go.cell_later x1 c3
        have c4 := Go.cell_later x1 c4
        have c5 := Go.cell_later x1 c5
        have c6 := Go.cell_later x1 c6
        go_wp2_with fail
        refine (Q4.out _).mono ?_
        rintro _ w2 ⟨rfl, x2⟩
        have c0 := Go.cell_later x2 c0
        have c1 := Go.cell_later x2 c1
        have c2 := Go.cell_later x2 c2
        have c3 := Go.cell_later x2 c3
        have c4 := Go.cell_later x2 c4
        have c5 := Go.cell_later x2 c5
        have c6 := Go.cell_later x2 c6
        go_wp2_with fail
        go_ret
        exact ⟨rfl, (((((Ext.refl _).alloc _).trans x0).trans x1).trans x2)⟩
  · cases b1
    · cases b3
      · simp only [Bool.true_and, Bool.and_true, Bool.false_and, Bool.and_false]
        go_enter Try.func9, Try.ntmps9
        go_wp2_with fail
        refine (Q0.out _).mono ?_
        rintro _ w0 ⟨rfl, x0⟩
        have c0 := Go.cell_later x0 c0
        have c1 := Go.cell_later x0 c1
        have c2 := Go.cell_later x0 c2
        have c3 := Go.cell_later x0 c3
        have c4 := Go.cell_later x0 c4
        have c5 := Go.cell_later x0 c5
        have c6 := Go.cell_later x0 c6
        go_wp2_with fail
        refine (Q1.out _).mono ?_
        rintro _ w1 ⟨rfl, x1⟩
        have c0 := Go.cell_later x1 c0
        have c1 := Go.cell_later x1 c1
        have c2 := Go.cell_later x1 c2
        have c3 := Go.cell_later x1 c3
        have c4 := Go.cell_later x1 c4
        have c5 := Go.cell_later x1 c5
        have c6 := Go.cell_later x1 c6
        go_wp2_with fail
        refine (Q3.out _).mono ?_
        rintro _ w2 ⟨rfl, x2⟩
        have c0 := Go.cell_later x2 c0
        have c1 := Go.cell_later x2 c1
        have c2 := Go.cell_later x2 c2
        have c3 := Go.cell_later x2 c3
        have c4 := Go.cell_later x2 c4
        have c5 := Go.cell_later x2 c5
        have c6 := Go.cell_later x2 c6
        go_wp2_with fail
        go_ret
        exact ⟨rfl, (((((Ext.refl _).alloc _).trans x0).trans x1).trans x2)⟩
      · cases b4
        · simp only [Bool.true_and, Bool.and_true, Bool.false_and, Bool.and_false]
          go_enter Try.func9, Try.ntmps9
          go_wp2_with fail
          refine (Q0.out _).mono ?_
          rintro _ w0 ⟨rfl, x0⟩
          have c0 := Go.cell_later x0 c0
          have c1 := Go.cell_later x0 c1
          have c2 := Go.cell_later x0 c2
          have c3 := Go.cell_later x0 c3
          have c4 := Go.cell_later x0 c4
          have c5 := Go.cell_later x0 c5
          have c6 := Go.cell_later x0 c6
          go_wp2_with fail
          refine (Q1.out _).mono ?_
          rintro _ w1 ⟨rfl, x1⟩
          have c0 := Go.cell_later x1 c0
          have c1 := Go.cell_later x1 c1
          have c2 := Go.cell_later x1 c2
          have c3 := Go.cell_later x1 c3
          have c4 := Go.cell_later x1 c4
          have c5 := Go.cell_later x1 c5
          have c6 := Go.cell_later x1 c6
          go_wp2_with fail
          refine (Q3.out _).mono ?_
          rintro _ w2 ⟨rfl, x2⟩
          have c0 := Go.cell_later x2 c0
          have c1 := Go.cell_later x2 c1
          have c2 := Go.cell_later x2 c2
          have c3 := Go.cell_later x2 c3
          have c4 := Go.cell_later x2 c4
          have c5 := Go.cell_later x2 c5
          have c6 := Go.cell_later x2 c6
          go_wp2_with fail
          refine (Q4.out _).mono ?_
          rintro _ w3 ⟨rfl, x3⟩
          have c0 := Go.cell_later x3 c0
          have c1 := Go.cell_later x3 c1
          have c2 := Go.cell_later x3 c2
          have c3 := Go.cell_later x3 c3
          have c4 := Go.cell_later x3 c4
          have c5 := Go.cell_later x3 c5
          have c6 := Go.cell_later x3 c6
          go_wp2_with fail
          go_ret
          exact ⟨rfl, ((((((Ext.refl _).alloc _).trans x0).trans x1).trans x2).trans x3)⟩
        · simp only [Bool.true_and, Bool.and_true, Bool.false_and, Bool.and_false]
          go_enter Try.func9, Try.ntmps9
          go_wp2_with fail
          refine (Q0.out _).mono ?_
          rintro _ w0 ⟨rfl, x0⟩
          have c0 := Go.cell_later x0 c0
          have c1 := Go.cell_later x0 c1
          have c2 := Go.cell_later x0 c2
          have c3 := Go.cell_later x0 c3
          have c4 := Go.cell_later x0 c4
          have c5 := Go.cell_later x0 c5
          have c6 := Go.cell_later x0 c6
          go_wp2_with fail
          refine (Q1.out _).mono ?_
          rintro _ w1 ⟨rfl, x1⟩
          have c0 := Go.cell_later x1 c0
          have c1 := Go.cell_later x1 c1
          have c2 := Go.cell_later x1 c2
          have c3 := Go.cell_later x1 c3
          have c4 := Go.cell_later x1 c4
          have c5 := Go.cell_later x1 c5
          have c6 := Go.cell_later x1 c6
          go_wp2_with fail
          refine (Q3.out _).mono ?_
          rintro _ w2 ⟨rfl, x2⟩
          have c0 := Go.cell_later x2 c0
          have c1 := Go.cell_later x2 c1
          have c2 := Go.cell_later x2 c2
          have c3 := Go.cell_later x2 c3
          have c4 := Go.cell_later x2 c4
          have c5 := Go.cell_later x2 c5
          have c6 := Go.cell_later x2 c6
          go_wp2_with fail
          refine (Q4.out _).mono ?_
          rintro _ w3 ⟨rfl, x3⟩
          have c0 := Go.cell_later x3 c0
          have c1 := Go.cell_later x3 c1
          have c2 := Go.cell_later x3 c2
          have c3 := Go.cell_later x3 c3
          have c4 := Go.cell_later x3 c4
          have c5 := Go.cell_later x3 c5
          have c6 := Go.cell_later x3 c6
          go_wp2_with fail
          go_ret
          exact ⟨rfl, ((((((Ext.refl _).alloc _).trans x0).trans x1).trans x2).trans x3)⟩
    · cases b2
      · cases b3
        · simp only [Bool.true_and, Bool.and_true, Bool.false_and, Bool.and_false]
          go_enter Try.func9, Try.ntmps9
          go_wp2_with fail
          refine (Q0.out _).mono ?_
          rintro _ w0 ⟨rfl, x0⟩
          have c0 := Go.cell_later x0 c0
          have c1 := Go.cell_later x0 c1
          have c2 := Go.cell_later x0 c2
          have c3 := Go.cell_later x0 c3
          have c4 := Go.cell_later x0 c4
          have c5 := Go.cell_later x0 c5
          have c6 := Go.cell_later x0 c6
          go_wp2_with fail
          refine (Q1.out _).mono ?_
          rintro _ w1 ⟨rfl, x1⟩
          have c0 := Go.cell_later x1 c0
          have c1 := Go.cell_later x1 c1
          have c2 := Go.cell_later x1 c2
          have c3 := Go.cell_later x1 c3
          have c4 := Go.cell_later x1 c4
          have c5 := Go.cell_later x1 c5
          have c6 := Go.cell_later x1 c6
          go_wp2_with fail
          refine (Q2.out _).mono ?_
          rintro _ w2 ⟨rfl, x2⟩
          have c0 := Go.cell_later x2 c0
          have c1 := Go.cell_later x2 c1
          have c2 := Go.cell_later x2 c2
          have c3 := Go.cell_later x2 c3
          have c4 := Go.cell_later x2 c4
          have c5 := Go.cell_later x2 c5
          have c6 := Go.cell_later x2 c6
          go_wp2_with fail
          refine (Q3.out _).mono ?_
          rintro _ w3 ⟨rfl, x3⟩
          have c0 := Go.cell_later x3 c0
          have c1 := Go.cell_later x3 c1
          have c2 := Go.cell_later x3 c2
          have c3 := Go.cell_later x3 c3
          have c4 := Go.cell_later x3 c4
          have c5 := Go.cell_later x3 c5
          have c6 := Go.cell_later x3 c6
          go_wp2_with fail
          go_ret
          exact ⟨rfl, ((((((Ext.refl _).alloc _).trans x0).trans x1).trans x2).trans x3)⟩
        · cases b4
          · simp only [Bool.true_and, Bool.and_true, Bool.false_and, Bool.and_false]
            go_enter Try.func9, Try.ntmps9
            go_wp2_with fail
            refine (Q0.out _).mono ?_
            rintro _ w0 ⟨rfl, x0⟩
            have c0 := Go.cell_later x0 c0
            have c1 := Go.cell_later x0 c1
            have c2 := Go.cell_later x0 c2
            have c3 := Go.cell_later x0 c3
            have c4 := Go.cell_later x0 c4
            have c5 := Go.cell_later x0 c5
            have c6 := Go.cell_later x0 c6
            go_wp2_with fail
            refine (Q1.out _).mono ?_
            rintro _ w1 ⟨rfl, x1⟩
            have c0 := Go.cell_later x1 c0
            have c1 := Go.cell_later x1 c1
            have c2 := Go.cell_later x1 c2
            have c3 := Go.cell_later x1 c3
            have c4 := Go.cell_later x1 c4
            have c5 := Go.cell_later x1 c5
            have c6 := Go.cell_later x1 c6
            go_wp2_with fail
            refine (Q2.out _).mono ?_
            rintro _ w2 ⟨rfl, x2⟩
            have c0 := Go.cell_later x2 c0
            have c1 := Go.cell_later x2 c1
            have c2 := Go.cell_later x2 c2
            have c3 := Go.cell_later x2 c3
            have c4 := Go.cell_later x2 c4
            have c5 := Go.cell_later x2 c5
            have c6 := Go.cell_later x2 c6
            go_wp2_with fail
            refine (Q3.out _).mono ?_
            rintro _ w3 ⟨rfl, x3⟩
            have c0 := Go.cell_later x3 c0
            have c1 := Go.cell_later x3 c1
            have c2 := Go.cell_later x3 c2
            have c3 := Go.cell_later x3 c3
            have c4 := Go.cell_later x3 c4
            have c5 := Go.cell_later x3 c5
            have c6 := Go.cell_later x3 c6
            go_wp2_with fail
            refine (Q4.out _).mono ?_
            rintro _ w4 ⟨rfl, x4⟩
            have c0 := Go.cell_later x4 c0
            have c1 := Go.cell_later x4 c1
            have c2 := Go.cell_later x4 c2
            have c3 := Go.cell_later x4 c3
            have c4 := Go.cell_later x4 c4
            have c5 := Go.cell_later x4 c5
            have c6 := Go.cell_later x4 c6
            go_wp2_with fail
            go_ret
            exact ⟨rfl, (((((((Ext.refl _).alloc _).trans x0).trans x1).trans x2).trans x3).trans x4)⟩
          · simp only [Bool.true_and, Bool.and_true, Bool.false_and, Bool.and_false]
            go_enter Try.func9, Try.ntmps9
            go_wp2_with fail
            refine (Q0.out _).mono ?_
            rintro _ w0 ⟨rfl, x0⟩
            have c0 := Go.cell_later x0 c0
            have c1 := Go.cell_later x0 c1
            have c2 := Go.cell_later x0 c2
            have c3 := Go.cell_later x0 c3
            have c4 := Go.cell_later x0 c4
            have c5 := Go.cell_later x0 c5
            have c6 := Go.cell_later x0 c6
            go_wp2_with fail
            refine (Q1.out _).mono ?_
            rintro _ w1 ⟨rfl, x1⟩
            have c0 := Go.cell_later x1 c0
            have c1 := Go.cell_later x1 c1
            have c2 := Go.cell_later x1 c2
            have c3 := Go.cell_later x1 c3
            have c4 := Go.cell_later x1 c4
            have c5 := Go.cell_later x1 c5
            have c6 := Go.cell_later x1 c6
            go_wp2_with fail
            refine (Q2.out _).mono ?_
            rintro _ w2 ⟨rfl, x2⟩
            have c0 := Go.cell_later x2 c0
            have c1 := Go.cell_later x2 c1
            have c2 := Go.cell_later x2 c2
            have c3 := Go.cell_later x2 c3
            have c4 := Go.cell_later x2 c4
            have c5 := Go.cell_later x2 c5
            have c6 := Go.cell_later x2 c6
            go_wp2_with fail
            refine (Q3.out _).mono ?_
            rintro _ w3 ⟨rfl, x3⟩
            have c0 := Go.cell_later x3 c0
            have c1 := Go.cell_later x3 c1
            have c2 := Go.cell_later x3 c2
            have c3 := Go.cell_later x3 c3
            have c4 := Go.cell_later x3 c4
            have c5 := Go.cell_later x3 c5
            have c6 := Go.cell_later x3 c6
            go_wp2_with fail
            refine (Q4.out _).mono ?_
            rintro _ w4 ⟨rfl, x4⟩
            have c0 := Go.cell_later x4 c0
            have c1 := Go.cell_later x4 c1
            have c2 := Go.cell_later x4 c2
            have c3 := Go.cell_later x4 c3
            have c4 := Go.cell_later x4 c4
            have c5 := Go.cell_later x4 c5
            have c6 := Go.cell_later x4 c6
            go_wp2_with fail
            go_ret
            exact ⟨rfl, (((((((Ext.refl _).alloc _).trans x0).trans x1).trans x2).trans x3).trans x4)⟩
      · cases b3
        · simp only [Bool.true_and, Bool.and_true, Bool.false_and, Bool.and_false]
          go_enter Try.func9, Try.ntmps9
          go_wp2_with fail
          refine (Q0.out _).mono ?_
          rintro _ w0 ⟨rfl, x0⟩
          have c0 := Go.cell_later x0 c0
          have c1 := Go.cell_later x0 c1
          have c2 := Go.cell_later x0 c2
          have c3 := Go.cell_later x0 c3
          have c4 := Go.cell_later x0 c4
          have c5 := Go.cell_later x0 c5
          have c6 := Go.cell_later x0 c6
          go_wp2_with fail
          refine (Q1.out _).mono ?_
          rintro _ w1 ⟨rfl, x1⟩
          have c0 := Go.cell_later x1 c0
          have c1 := Go.cell_later x1 c1
          have c2 := Go.cell_later x1 c2
          have c3 := Go.cell_later x1 c3
          have c4 := Go.cell_later x1 c4
          have c5 := Go.cell_later x1 c5
          have c6 := Go.cell_later x1 c6
          go_wp2_with fail
          refine (Q2.out _).mono ?_
          rintro _ w2 ⟨rfl, x2⟩
          have c0 := Go.cell_later x2 c0
          have c1 := Go.cell_later x2 c1
          have c2 := Go.cell_later x2 c2
          have c3 := Go.cell_later x2 c3
          have c4 := Go.cell_later x2 c4
          have c5 := Go.cell_later x2 c5
          have c6 := Go.cell_later x2 c6
          go_wp2_with fail
          refine (Q3.out _).mono ?_
          rintro _ w3 ⟨rfl, x3⟩
          have c0 := Go.cell_later x3 c0
          have c1 := Go.cell_later x3 c1
          have c2 := Go.cell_later x3 c2
          have c3 := Go.cell_later x3 c3
          have c4 := Go.cell_later x3 c4
          have c5 := Go.cell_later x3 c5
          have c6 := Go.cell_later x3 c6
          go_wp2_with fail
          go_ret
          exact ⟨rfl, ((((((Ext.refl _).alloc _).trans x0).trans x1).trans x2).trans x3)⟩
        · cases b4
          · simp only [Bool.true_and, Bool.and_true, Bool.false_and, Bool.and_false]
            go_enter Try.func9, Try.ntmps9
            go_wp2_with fail
            refine (Q0.out _).mono ?_
            rintro _ w0 ⟨rfl, x0⟩
            have c0 := Go.cell_later x0 c0
            have c1 := Go.cell_later x0 c1
            have c2 := Go.cell_later x0 c2
            have c3 := Go.cell_later x0 c3
            have c4 := Go.cell_later x0 c4
            have c5 := Go.cell_later x0 c5
            have c6 := Go.cell_later x0 c6
            go_wp2_with fail
            refine (Q1.out _).mono ?_
            rintro _ w1 ⟨rfl, x1⟩
            have c0 := Go.cell_later x1 c0
            have c1 := Go.cell_later x1 c1
            have c2 := Go.cell_later x1 c2
            have c3 := Go.cell_later x1 c3
            have c4 := Go.cell_later x1 c4
            have c5 := Go.cell_later x1 c5
            have c6 := Go.cell_later x1 c6
            go_wp2_with fail
            refine (Q2.out _).mono ?_
            rintro _ w2 ⟨rfl, x2⟩
            have c0 := Go.cell_later x2 c0
            have c1 := Go.cell_later x2 c1
            have c2 := Go.cell_later x2 c2
            have c3 := Go.cell_later x2 c3
            have c4 := Go.cell_later x2 c4
            have c5 := Go.cell_later x2 c5
            have c6 := Go.cell_later x2 c6
            go_wp2_with fail
            refine (Q3.out _).mono ?_
            rintro _ w3 ⟨rfl, x3⟩
            have c0 := Go.cell_later x3 c0
            have c1 := Go.cell_later x3 c1
            have c2 := Go.cell_later x3 c2
            have c3 := Go.cell_later x3 c3
            have c4 := Go.cell_later x3 c4
            have c5 := Go.cell_later x3 c5
            have c6 := Go.cell_later x3 c6
            go_wp2_with fail
            refine (Q4.out _).mono ?_
            rintro _ w4 ⟨rfl, x4⟩
            have c0 := Go.cell_later x4 c0
            have c1 := Go.cell_later x4 c1
            have c2 := Go.cell_later x4 c2
            have c3 := Go.cell_later x4 c3
            have c4 := Go.cell_later x4 c4
            have c5 := Go.cell_later x4 c5
            have c6 := Go.cell_later x4 c6
            go_wp2_with fail
            go_ret
            exact ⟨rfl, (((((((Ext.refl _).alloc _).trans x0).trans x1).trans x2).trans x3).trans x4)⟩
          · cases b5
            · simp only [Bool.true_and, Bool.and_true, Bool.false_and, Bool.and_false]
              go_enter Try.func9, Try.ntmps9
              go_wp2_with fail
              refine (Q0.out _).mono ?_
              rintro _ w0 ⟨rfl, x0⟩
              have c0 := Go.cell_later x0 c0
              have c1 := Go.cell_later x0 c1
              have c2 := Go.cell_later x0 c2
              have c3 := Go.cell_later x0 c3
              have c4 := Go.cell_later x0 c4
              have c5 := Go.cell_later x0 c5
              have c6 := Go.cell_later x0 c6
              go_wp2_with fail
              refine (Q1.out _).mono ?_
              rintro _ w1 ⟨rfl, x1⟩
              have c0 := Go.cell_later x1 c0
              have c1 := Go.cell_later x1 c1
              have c2 := Go.cell_later x1 c2
              have c3 := Go.cell_later x1 c3
              have c4 := Go.cell_later x1 c4
              have c5 := Go.cell_later x1 c5
              have c6 := Go.cell_later x1 c6
              go_wp2_with fail
              refine (Q2.out _).mono ?_
              rintro _ w2 ⟨rfl, x2⟩
              have c0 := Go.cell_later x2 c0
              have c1 := Go.cell_later x2 c1
              have c2 := Go.cell_later x2 c2
              have c3 := Go.cell_later x2 c3
              have c4 := Go.cell_later x2 c4
              have c5 := Go.cell_later x2 c5
              have c6 := Go.cell_later x2 c6
              go_wp2_with fail
              refine (Q3.out _).mono ?_
              rintro _ w3 ⟨rfl, x3⟩
              have c0 := Go.cell_later x3 c0
              have c1 := Go.cell_later x3 c1
              have c2 := Go.cell_later x3 c2
              have c3 := Go.cell_later x3 c3
              have c4 := Go.cell_later x3 c4
              have c5 := Go.cell_later x3 c5
              have c6 := Go.cell_later x3 c6
              go_wp2_with fail
              refine (Q4.out _).mono ?_
              rintro _ w4 ⟨rfl, x4⟩
              have c0 := Go.cell_later x4 c0
              have c1 := Go.cell_later x4 c1
              have c2 := Go.cell_later x4 c2
              have c3 := Go.cell_later x4 c3
              have c4 := Go.cell_later x4 c4
              have c5 := Go.cell_later x4 c5
              have c6 := Go.cell_later x4 c6
              go_wp2_with fail
              refine (Q5.out _).mono ?_
              rintro _ w5 ⟨rfl, x5⟩
              have c0 := Go.cell_later x5 c0
              have c1 := Go.cell_later x5 c1
              have c2 := Go.cell_later x5 c2
              have c3 := Go.cell_later x5 c3
              have c4 := Go.cell_later x5 c4
              have c5 := Go.cell_later x5 c5
              have c6 := Go.cell_later x5 c6
              go_wp2_with fail
              go_ret
              exact ⟨rfl, ((((((((Ext.refl _).alloc _).trans x0).trans x1).trans x2).trans x3).trans x4).trans x5)⟩
            · cases b6
              · simp only [Bool.true_and, Bool.and_true, Bool.false_and, Bool.and_false]
                go_enter Try.func9, Try.ntmps9
                go_wp2_with fail
                refine (Q0.out _).mono ?_
                rintro _ w0 ⟨rfl, x0⟩
                have c0 := Go.cell_later x0 c0
                have c1 := Go.cell_later x0 c1
                have c2 := Go.cell_later x0 c2
                have c3 := Go.cell_later x0 c3
                have c4 := Go.cell_later x0 c4
                have c5 := Go.cell_later x0 c5
                have c6 := Go.cell_later x0 c6
                go_wp2_with fail
                refine (Q1.out _).mono ?_
                rintro _ w1 ⟨rfl, x1⟩
                have c0 := Go.cell_later x1 c0
                have c1 := Go.cell_later x1 c1
                have c2 := Go.cell_later x1 c2
                have c3 := Go.cell_later x1 c3
                have c4 := Go.cell_later x1 c4
                have c5 := Go.cell_later x1 c5
                have c6 := Go.cell_later x1 c6
                go_wp2_with fail
                refine (Q2.out _).mono ?_
                rintro _ w2 ⟨rfl, x2⟩
                have c0 := Go.cell_later x2 c0
                have c1 := Go.cell_later x2 c1
                have c2 := Go.cell_later x2 c2
                have c3 := Go.cell_later x2 c3
                have c4 := Go.cell_later x2 c4
                have c5 := Go.cell_later x2 c5
                have c6 := Go.cell_later x2 c6
                go_wp2_with fail
                refine (Q3.out _).mono ?_
                rintro _ w3 ⟨rfl, x3⟩
                have c0 := Go.cell_later x3 c0
                have c1 := Go.cell_later x3 c1
                have c2 := Go.cell_later x3 c2
                have c3 := Go.cell_later x3 c3
                have c4 := Go.cell_later x3 c4
                have c5 := Go.cell_later x3 c5
                have c6 := Go.cell_later x3 c6
                go_wp2_with fail
                refine (Q4.out _).mono ?_
                rintro _ w4 ⟨rfl, x4⟩
                have c0 := Go.cell_later x4 c0
                have c1 := Go.cell_later x4 c1
                have c2 := Go.cell_later x4 c2
                have c3 := Go.cell_later x4 c3
                have c4 := Go.cell_later x4 c4
                have c5 := Go.cell_later x4 c5
                have c6 := Go.cell_later x4 c6
                go_wp2_with fail
                refine (Q5.out _).mono ?_
                rintro _ w5 ⟨rfl, x5⟩
                have c0 := Go.cell_later x5 c0
                have c1 := Go.cell_later x5 c1
                have c2 := Go.cell_later x5 c2
                have c3 := Go.cell_later x5 c3
                have c4 := Go.cell_later x5 c4
                have c5 := Go.cell_later x5 c5
                have c6 := Go.cell_later x5 c6
                go_wp2_with fail
                refine (Q6.out _).mono ?_
                rintro _ w6 ⟨rfl, x6⟩
                have c0 := Go.cell_later x6 c0
                have c1 := Go.cell_later x6 c1
                have c2 := Go.cell_later x6 c2
                have c3 := Go.cell_later x6 c3
                have c4 := Go.cell_later x6 c4
                have c5 := Go.cell_later x6 c5
                have c6 := Go.cell_later x6 c6
                go_wp2_with fail
                go_ret
                exact ⟨rfl, (((((((((Ext.refl _).alloc _).trans x0).trans x1).trans x2).trans x3).trans x4).trans x5).trans x6)⟩
              · simp only [Bool.true_and, Bool.and_true, Bool.false_and, Bool.and_false]
                go_enter Try.func9, Try.ntmps9
                go_wp2_with fail
                refine (Q0.out _).mono ?_
                rintro _ w0 ⟨rfl, x0⟩
                have c0 := Go.cell_later x0 c0
                have c1 := Go.cell_later x0 c1
                have c2 := Go.cell_later x0 c2
                have c3 := Go.cell_later x0 c3
                have c4 := Go.cell_later x0 c4
                have c5 := Go.cell_later x0 c5
                have c6 := Go.cell_later x0 c6
                go_wp2_with fail
                refine (Q1.out _).mono ?_
                rintro _ w1 ⟨rfl, x1⟩
                have c0 := Go.cell_later x1 c0
                have c1 := Go.cell_later x1 c1
                have c2 := Go.cell_later x1 c2
                have c3 := Go.cell_later x1 c3
                have c4 := Go.cell_later x1 c4
                have c5 := Go.cell_later x1 c5
                have c6 := Go.cell_later x1 c6
                go_wp2_with fail
                refine (Q2.out _).mono ?_
                rintro _ w2 ⟨rfl, x2⟩
                have c0 := Go.cell_later x2 c0
                have c1 := Go.cell_later x2 c1
                have c2 := Go.cell_later x2 c2
                have c3 := Go.cell_later x2 c3
                have c4 := Go.cell_later x2 c4
                have c5 := Go.cell_later x2 c5
                have c6 := Go.cell_later x2 c6
                go_wp2_with fail
                refine (Q3.out _).mono ?_
                rintro _ w3 ⟨rfl, x3⟩
                have c0 := Go.cell_later x3 c0
                have c1 := Go.cell_later x3 c1
                have c2 := Go.cell_later x3 c2
                have c3 := Go.cell_later x3 c3
                have c4 := Go.cell_later x3 c4
                have c5 := Go.cell_later x3 c5
                have c6 := Go.cell_later x3 c6
                go_wp2_with fail
                refine (Q4.out _).mono ?_
                rintro _ w4 ⟨rfl, x4⟩
                have c0 := Go.cell_later x4 c0
                have c1 := Go.cell_later x4 c1
                have c2 := Go.cell_later x4 c2
                have c3 := Go.cell_later x4 c3
                have c4 := Go.cell_later x4 c4
                have c5 := Go.cell_later x4 c5
                have c6 := Go.cell_later x4 c6
                go_wp2_with fail
                refine (Q5.out _).mono ?_
                rintro _ w5 ⟨rfl, x5⟩
                have c0 := Go.cell_later x5 c0
                have c1 := Go.cell_later x5 c1
                have c2 := Go.cell_later x5 c2
                have c3 := Go.cell_later x5 c3
                have c4 := Go.cell_later x5 c4
                have c5 := Go.cell_later x5 c5
                have c6 := Go.cell_later x5 c6
                go_wp2_with fail
                refine (Q6.out _).mono ?_
                rintro _ w6 ⟨rfl, x6⟩
                have c0 := Go.cell_later x6 c0
                have c1 := Go.cell_later x6 c1
                have c2 := Go.cell_later x6 c2
                have c3 := Go.cell_later x6 c3
                have c4 := Go.cell_later x6 c4
                have c5 := Go.cell_later x6 c5
                have c6 := Go.cell_later x6 c6
                go_wp2_with fail
                go_ret
                exact ⟨rfl, (((((((((Ext.refl _).alloc _).trans x0).trans x1).trans x2).trans x3).trans x4).trans x5).trans x6)⟩

set_option maxRecDepth 20000 in
set_option maxHeartbeats 8000000 in
theorem rconf_any (blk tgt seg age keep byt old : Int) (w : World) : Calls Try.prog 10 #[.agg #[.int .i64 blk, .int .i64 tgt, .int .i64 seg, .int .i64 age, .int .i64 keep, .int .i64 byt, .int .i64 old]] w fun e w' => e = .returned (.int .i64 (errC (confP blk tgt seg age keep byt old))) ∧ Ext w w' := by
  have hcases := conf_firsts blk tgt seg age keep byt old
  generalize confP blk tgt seg age keep byt old = r at *
  have b1 := Lib.hid (Blk.new w 23 #[.int .i64 blk, .int .i64 tgt, .int .i64 seg, .int .i64 age, .int .i64 keep, .int .i64 byt, .int .i64 old])
  have c0 := b1.out.cell 0
  have c1 := b1.out.cell 1
  have c2 := b1.out.cell 2
  have c3 := b1.out.cell 3
  have c4 := b1.out.cell 4
  have c5 := b1.out.cell 5
  have c6 := b1.out.cell 6
  rcases hcases with ⟨rfl, h0, h1, h2, h3, h4, h5, h6, h7, h8, h9, h10, h11, h12, h13⟩ | ⟨rfl, h0⟩ | ⟨rfl, h0, h1⟩ | ⟨rfl, h0, h1, h2⟩ | ⟨rfl, h0, h1, h2, h3⟩ | ⟨rfl, h0, h1, h2, h3, h4⟩ | ⟨rfl, h0, h1, h2, h3, h4, h5⟩ | ⟨rfl, h0, h1, h2, h3, h4, h5, h6⟩ | ⟨rfl, h0, h1, h2, h3, h4, h5, h6, h7⟩ | ⟨rfl, h0, h1, h2, h3, h4, h5, h6, h7, h8⟩ | ⟨rfl, h0, h1, h2, h3, h4, h5, h6, h7, h8, h9⟩ | ⟨rfl, h0, h1, h2, h3, h4, h5, h6, h7, h8, h9, h10⟩ | ⟨rfl, h0, h1, h2, h3, h4, h5, h6, h7, h8, h9, h10, h11⟩ | ⟨rfl, h0, h1, h2, h3, h4, h5, h6, h7, h8, h9, h10, h11, h12⟩ | ⟨rfl, h0, h1, h2, h3, h4, h5, h6, h7, h8, h9, h10, h11, h12, h13⟩
  · go_enter Try.func10, Try.ntmps10
    go_wp2
    go_ret
    exact ⟨rfl, (Ext.refl _).alloc _⟩
  · go_enter Try.func10, Try.ntmps10
    go_wp2
    go_ret
    exact ⟨rfl, (Ext.refl _).alloc _⟩
  · go_enter Try.func10, Try.ntmps10
    go_wp2
    go_ret
    exact ⟨rfl, (Ext.refl _).alloc _⟩
  · go_enter Try.func10, Try.ntmps10
    go_wp2
    go_ret
    exact ⟨rfl, (Ext.refl _).alloc _⟩
  · go_enter Try.func10, Try.ntmps10
    go_wp2
    go_ret
    exact ⟨rfl, (Ext.refl _).alloc _⟩
  · go_enter Try.func10, Try.ntmps10
    go_wp2
    go_ret
    exact ⟨rfl, (Ext.refl _).alloc _⟩
  · go_enter Try.func10, Try.ntmps10
    go_wp2
    go_ret
    exact ⟨rfl, (Ext.refl _).alloc _⟩
  · go_enter Try.func10, Try.ntmps10
    go_wp2
    go_ret
    exact ⟨rfl, (Ext.refl _).alloc _⟩
  · go_enter Try.func10, Try.ntmps10
    go_wp2
    go_ret
    exact ⟨rfl, (Ext.refl _).alloc _⟩
  · go_enter Try.func10, Try.ntmps10
    go_wp2
    go_ret
    exact ⟨rfl, (Ext.refl _).alloc _⟩
  · go_enter Try.func10, Try.ntmps10
    go_wp2
    go_ret
    exact ⟨rfl, (Ext.refl _).alloc _⟩
  · go_enter Try.func10, Try.ntmps10
    go_wp2
    go_ret
    exact ⟨rfl, (Ext.refl _).alloc _⟩
  · go_enter Try.func10, Try.ntmps10
    go_wp2
    go_ret
    exact ⟨rfl, (Ext.refl _).alloc _⟩
  · go_enter Try.func10, Try.ntmps10
    go_wp2
    go_ret
    exact ⟨rfl, (Ext.refl _).alloc _⟩
  · go_enter Try.func10, Try.ntmps10
    go_wp2
    go_ret
    exact ⟨rfl, (Ext.refl _).alloc _⟩
end Go.Proofs.Ytfcfhaghamgdaaa
