/- weld: may, pair with its closure, Pair; ref: Pair. -/
import Derived.Test.YtlphhpngbnnjgaaRead
import Derived.Test.YtlphhpngbnnjgaaWeldL
import Derived.Test.YtlphhpngbnnjgaaGen
import Derived.LoopTactic
namespace Go.Proofs.Ytlphhpngbnnjgaa
set_option linter.unusedVariables false
set_option linter.unusedSimpArgs false
open Go.RowKit

def mayP (n : Int) : Bool := decide (0 ≤ n) && decide (n ≤ 20000)
set_option maxRecDepth 20000 in
theorem wmay_any (n : Int) (w : World) :
    Calls Try.prog 27 #[.int .i64 n] w fun e w' => e = .returned (.bool (mayP n)) ∧ w = w' := by
  by_cases h1 : 0 ≤ n
  · by_cases h2 : n ≤ 20000
    · have P := Lib.hid (show mayP n = true by simp [mayP, h1, h2])
      go_enter Try.func27, Try.ntmps27
      go_wp2
      go_ret
      exact ⟨by rw [P.out]; rfl, rfl⟩
    · have P := Lib.hid (show mayP n = false by simp [mayP, h1, h2])
      go_enter Try.func27, Try.ntmps27
      go_wp2
      go_ret
      exact ⟨by rw [P.out]; rfl, rfl⟩
  · have P := Lib.hid (show mayP n = false by simp [mayP, h1])
    go_enter Try.func27, Try.ntmps27
    go_wp2
    go_ret
    exact ⟨by rw [P.out]; rfl, rfl⟩

theorem wmay_yes (n : Int) (w : World) (h : mayP n = true) :
    Calls Try.prog 27 #[.int .i64 n] w fun e w' => e = .returned (.bool true) ∧ w = w' := by
  have := wmay_any n w; rw [h] at this; exact this
theorem wmay_no (n : Int) (w : World) (h : mayP n = false) :
    Calls Try.prog 27 #[.int .i64 n] w fun e w' => e = .returned (.bool false) ∧ w = w' := by
  have := wmay_any n w; rw [h] at this; exact this
theorem mayP_iff {n : Int} : mayP n = true ↔ 0 ≤ n ∧ n ≤ 20000 := by unfold mayP; simp

set_option maxRecDepth 20000 in
set_option maxHeartbeats 2000000 in
theorem pair1_any (l : List Int) (t : Int) (i : Nat) (v : Value) (g1 g2 : Nat) (w : World) (h1 : Blk w g1 22 #[v]) (h2 : Blk w g2 3 #[.int .i64 t]) (hr : RI w v l) (hi : i + 1 < l.length) (hl : (l.length : Int) ≤ 1000000000) :
    Calls Try.prog 26 #[.int .i64 (i : Int), .pointer (some ⟨g1, 0, none⟩), .pointer (some ⟨g2, 0, none⟩)] w fun e w' => e = .returned (.bool (okP t (l.getD i 0) (l.getD (i + 1) 0))) ∧ Ext w w' := by
  obtain ⟨a, c, rfl, _, _, hs⟩ := hr.shape
  obtain ⟨g, o, rfl, hc⟩ := hs (by omega)
  have d1 := up_cell (hc i (by omega))
  have d2 := up_cell (hc (i + 1) hi)
  have c1 := up_cell (h1.cell 0)
  have c2 := up_cell (h2.cell 0)
  have k1 : (i : Int) < (l.length : Int) := by omega
  have k2 : (i : Int) + 1 < (l.length : Int) := by omega
  clear hr hs hc h1 h2
  generalize l.length = n at *
  generalize l.getD i 0 = x at *
  generalize l.getD (i + 1) 0 = y at *
  by_cases hx : mayP x = true
  · have qx := Lib.hid (fun w => wmay_yes x w hx)
    by_cases hy : mayP y = true
    · have qy := Lib.hid (fun w => wmay_yes y w hy)
      have hx' := mayP_iff.1 hx
      have hy' := mayP_iff.1 hy
      have hsum : IntKind.i64.wrap (x + y) = x + y := by rw [IntKind.wrap_i64]; omega
      have P := Lib.hid (show okP t x y = decide (x + y < t) by
        unfold okP
        rw [decide_eq_true hx'.1, decide_eq_true hx'.2, decide_eq_true hy'.1, decide_eq_true hy'.2]; rfl)
      clear hx hy hx' hy'
      go_enter Try.func26, Try.ntmps26
      go_wp2
      refine wp_region_up (by kernel_rfl) (by kernel_rfl) ?_
      repeat (go_big_quiet_step (first | (go_at_call 27; (with_reducible exact up_same (qx.out _))) | (go_at_call 27; (with_reducible exact up_same (qy.out _)))))
      refine wpQuiet_nil ?_
      rintro _ ⟨z, rfl⟩
      go_wp2
      go_ret
      exact ⟨by rw [P.out]; rfl, z.ext⟩
    · have hy : mayP y = false := by simpa using hy
      have P := Lib.hid (show okP t x y = false by
          cases h : okP t x y with
          | false => rfl
          | true => rw [mayP_iff.2 ⟨(okP_iff.1 h).2.2.1, (okP_iff.1 h).2.2.2.1⟩] at hy; cases hy)
      have qy := Lib.hid (fun w => wmay_no y w hy)
      clear hx hy
      go_enter Try.func26, Try.ntmps26
      go_wp2
      refine wp_region_up (by kernel_rfl) (by kernel_rfl) ?_
      repeat (go_big_quiet_step (first | (go_at_call 27; (with_reducible exact up_same (qx.out _))) | (go_at_call 27; (with_reducible exact up_same (qy.out _)))))
      refine wpQuiet_nil ?_
      rintro _ ⟨z, rfl⟩
      go_wp2
      go_ret
      exact ⟨by rw [P.out]; rfl, z.ext⟩
  · have hx : mayP x = false := by simpa using hx
    have P := Lib.hid (show okP t x y = false by
          cases h : okP t x y with
          | false => rfl
          | true => rw [mayP_iff.2 ⟨(okP_iff.1 h).1, (okP_iff.1 h).2.1⟩] at hx; cases hx)
    have qx := Lib.hid (fun w => wmay_no x w hx)
    clear hx
    go_enter Try.func26, Try.ntmps26
    go_wp2
    refine wp_region_up (by kernel_rfl) (by kernel_rfl) ?_
    repeat (go_big_quiet_step (first | (go_at_call 27; (with_reducible exact up_same (qx.out _))) | fail))
    refine wpQuiet_nil ?_
    rintro _ ⟨z, rfl⟩
    go_wp2
    go_ret
    exact ⟨by rw [P.out]; rfl, z.ext⟩
end Go.Proofs.Ytlphhpngbnnjgaa
