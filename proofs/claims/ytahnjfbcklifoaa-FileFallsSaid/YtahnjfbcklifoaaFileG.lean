/- FileTurns: the law's walk. -/
import Derived.Test.YtahnjfbcklifoaaFileF
namespace Go.Proofs.Ytahnjfbcklifoaa
set_option linter.unusedVariables false
set_option linter.unusedSimpArgs false
open Go.RowKit
attribute [local go_sem] S_size S_toList S_append S_extract S_beq S_bne S_empty S_nil file_f0 file_f1

theorem up_two {W : World} {g : Nat} {t : TypeId} {x y : Value} (h : Blk W g t #[x, y]) :
    (∀ z : Up W, z.val.cell? ⟨g, 0, none⟩ = some x) ∧ (∀ z : Up W, z.val.cell? ⟨g, 1, none⟩ = some y) := ⟨up_cell (h.cell 0), up_cell (h.cell 1)⟩

set_option maxRecDepth 20000 in
set_option maxHeartbeats 1000000 in
theorem fileTurns_out (a b s : List UInt8) (n : Int) (w : World) (h : (5000 : Int) < (a.length : Int) ∨ (¬ (5000 : Int) < (a.length : Int) ∧ (5000 : Int) < (b.length : Int)) ∨ (¬ (5000 : Int) < (a.length : Int) ∧ ¬ (5000 : Int) < (b.length : Int) ∧ (5000 : Int) < (s.length : Int))) :
    Calls Try.prog 8 #[.agg #[.string (S a), .string (S b)], .string (S s), .int .i64 n] w fun e w' => e = .returned (.bool true) ∧ Ext w w' := by
  rcases h with h1 | ⟨h1, h2⟩ | ⟨h1, h2, h3⟩
  all_goals
    go_enter Try.func8, Try.ntmps8
    go_wp2_with (go_at_call 27; refine (awake19 _).mono ?_; rintro e w' ⟨rfl, hx⟩)
    go_ret
    exact ⟨rfl, ((Ext.refl _).alloc _).trans hx⟩

set_option maxRecDepth 20000 in
set_option maxHeartbeats 4000000 in
theorem fileTurns_in (a b s : List UInt8) (n : Int) (w : World) (h1 : ¬ (5000 : Int) < (a.length : Int)) (h2 : ¬ (5000 : Int) < (b.length : Int)) (h3 : ¬ (5000 : Int) < (s.length : Int)) :
    Calls Try.prog 8 #[.agg #[.string (S a), .string (S b)], .string (S s), .int .i64 n] w fun e w' => e = .returned (.bool true) ∧ Ext w w' := by
  have q1 := Lib.hid (fun w => fappend_any a b s w (by omega) (by omega) (by omega))
  have q2 := Lib.hid (fun w => rappend_any a b s w (by omega) (by omega))
  have q3 := Lib.hid (fun w => fcut_any a b n w (by omega))
  have q4 := Lib.hid (fun w => rcut_any a b n w (by omega))
  have q5 := Lib.hid (fun w => fall_any a b n s w (by omega) (by omega) (by omega))
  have q6 := Lib.hid (fun w => rfall_any a b n s w (by omega) (by omega) (by omega))
  have q7 := Lib.hid (fun w => fsync_any a b w)
  have q8 := Lib.hid (fun w => rsync_any a b w)
  have q9 := Lib.hid (fun w => floose_any a b w)
  have q0 := Lib.hid (fun (c d : List UInt8) w => show Calls Try.prog 32 #[.agg #[.string (S c), .string (S d)], .agg #[.string (S c), .string (S d)]] w fun e w' => e = .returned (.bool true) ∧ Ext w w' by
    have := same_any c d c d w
    rw [beq_self_eq_true, beq_self_eq_true] at this
    exact this)
  obtain ⟨⟨⟨c, d⟩, e⟩, hr⟩ : ∃ r, r = fappend (a, b) s := ⟨_, rfl⟩
  rw [← hr] at q1 q2
  obtain ⟨⟨⟨c', d'⟩, e'⟩, hr'⟩ : ∃ r, r = fcut (a, b) n := ⟨_, rfl⟩
  rw [← hr'] at q3 q4
  generalize leftL a b n s = L at q5 q6
  obtain ⟨lo, hlo⟩ : ∃ lo, lo = (a != b) := ⟨_, rfl⟩
  rw [← hlo] at q9
  have hlo' : (a == b) = !lo := by rw [hlo]; simp [bne]
  clear hr hr' hlo
  simp only [okV] at q1 q2 q3 q4
  cases lo
  all_goals
    simp only [Bool.not_true, Bool.not_false] at hlo'
    go_enter Try.func8, Try.ntmps8
    go_wp2_with fail
    refine (q1.out _).mono ?_
    rintro _ w1 ⟨rfl, x1⟩
    have A1 : Blk w1 w.heap.size 40 #[.string (S a), .string (S b)] := ((Blk.new w _ _).alloc _).ext x1
    have B1 : Blk w1 (w.heap.size + 1) 41 #[.string (S a), .string (S b)] := by
      have := (Blk.new (w.alloc (.cells #[.string (S a), .string (S b)] 40)) 41 #[.string (S a), .string (S b)]).ext x1
      rw [World.size_alloc] at this; exact this
    have X1 : Ext w w1 := (((Ext.refl _).alloc _).alloc _).trans x1
    have l11 := A1.lt
    have l12 := B1.lt
    obtain ⟨f1, f2⟩ := A1.two
    obtain ⟨f3, f4⟩ := B1.two
    go_wp2_with fail
    refine (q2.out _).mono ?_
    rintro _ w2 ⟨rfl, x2⟩
    have A2 := (A1.alloc (.cells #[.string (S c), .string (S d)] 40)).ext x2
    have B2 := (B1.alloc (.cells #[.string (S c), .string (S d)] 40)).ext x2
    have C2 : Blk w2 w1.heap.size 40 #[.string (S c), .string (S d)] := (Blk.new w1 _ _).ext x2
    have X2 : Ext w w2 := (X1.alloc _).trans x2
    have l2A := A2.lt
    have l2B := B2.lt
    have l2C := C2.lt
    obtain ⟨f2A0, f2A1⟩ := A2.two
    obtain ⟨f2B0, f2B1⟩ := B2.two
    go_wp2_with fail
    refine (q3.out _).mono ?_
    rintro _ w3 ⟨rfl, x3⟩
    have A3 := (A2.alloc (.cells #[.string (S c), .string (S d)] 41)).ext x3
    have B3 := (B2.alloc (.cells #[.string (S c), .string (S d)] 41)).ext x3
    have C3 := (C2.alloc (.cells #[.string (S c), .string (S d)] 41)).ext x3
    have D3 : Blk w3 w2.heap.size 41 #[.string (S c), .string (S d)] := (Blk.new w2 _ _).ext x3
    have X3 : Ext w w3 := (X2.alloc _).trans x3
    have l3A := A3.lt
    have l3B := B3.lt
    have l3C := C3.lt
    have l3D := D3.lt
    obtain ⟨f3A0, f3A1⟩ := A3.two
    obtain ⟨f3B0, f3B1⟩ := B3.two
    go_wp2_with fail
    refine (q4.out _).mono ?_
    rintro _ w4 ⟨rfl, x4⟩
    have A4 := (A3.alloc (.cells #[.string (S c'), .string (S d')] 40)).ext x4
    have B4 := (B3.alloc (.cells #[.string (S c'), .string (S d')] 40)).ext x4
    have C4 := (C3.alloc (.cells #[.string (S c'), .string (S d')] 40)).ext x4
    have D4 := (D3.alloc (.cells #[.string (S c'), .string (S d')] 40)).ext x4
    have E4 : Blk w4 w3.heap.size 40 #[.string (S c'), .string (S d')] := (Blk.new w3 _ _).ext x4
    have X4 : Ext w w4 := (X3.alloc _).trans x4
    have l4A := A4.lt
    have l4B := B4.lt
    have l4C := C4.lt
    have l4D := D4.lt
    have l4E := E4.lt
    obtain ⟨f4A0, f4A1⟩ := A4.two
    obtain ⟨f4B0, f4B1⟩ := B4.two
    go_wp2_with fail
    obtain ⟨gA0, gA1⟩ := up_two (A4.alloc (.cells #[.string (S c'), .string (S d')] 41))
    obtain ⟨gB0, gB1⟩ := up_two (B4.alloc (.cells #[.string (S c'), .string (S d')] 41))
    obtain ⟨gC0, gC1⟩ := up_two (C4.alloc (.cells #[.string (S c'), .string (S d')] 41))
    obtain ⟨gD0, gD1⟩ := up_two (D4.alloc (.cells #[.string (S c'), .string (S d')] 41))
    obtain ⟨gE0, gE1⟩ := up_two (E4.alloc (.cells #[.string (S c'), .string (S d')] 41))
    obtain ⟨gF0, gF1⟩ := up_two (Blk.new w4 41 #[.string (S c'), .string (S d')])
    refine wp_region_up (by kernel_rfl) (by kernel_rfl) ?_
    repeat (go_big_quiet_step (first
      | (go_at_call 32; (with_reducible exact up_call (q0.out _ _ _)))
      | (go_at_call 33; (with_reducible exact up_call (q7.out _)))
      | (go_at_call 34; (with_reducible exact up_call (q8.out _)))
      | (go_at_call 35; (with_reducible exact up_call (q5.out _)))
      | (go_at_call 36; (with_reducible exact up_call (q6.out _)))
      | (go_at_call 37; (with_reducible exact up_call (q9.out _)))
      | (go_at_call 27; (with_reducible exact up_call (awake19 _)))))
    refine wpQuiet_nil ?_
    rintro _ ⟨y, rfl⟩
    go_wp2
    go_ret
    exact ⟨rfl, (X4.alloc _).trans y.ext⟩
end Go.Proofs.Ytahnjfbcklifoaa
