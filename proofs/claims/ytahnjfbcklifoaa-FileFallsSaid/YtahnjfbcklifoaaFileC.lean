/- file: what is left, and a fall. -/
import Derived.Test.YtahnjfbcklifoaaFileB
namespace Go.Proofs.Ytahnjfbcklifoaa
set_option linter.unusedVariables false
set_option linter.unusedSimpArgs false
open Go.RowKit
attribute [local go_sem] S_size S_toList S_append S_extract S_beq S_bne S_empty S_nil

theorem take_false {s p : List UInt8} (h : s.length < p.length) : (s.take p.length == p) = false := by
  rw [beq_eq_false_iff_ne]; intro e
  have := congrArg List.length e
  rw [List.length_take] at this; omega

set_option maxRecDepth 20000 in
set_option maxHeartbeats 400000 in
theorem hasPrefix_any (s p : List UInt8) (w : World) (hs : (s.length : Int) ≤ 9223372036854775807) (hp : (p.length : Int) ≤ 9223372036854775807) :
    Calls Try.prog 66 #[.string (S s), .string (S p)] w fun e w' => e = .returned (.bool (s.take p.length == p)) ∧ w = w' := by
  by_cases h : (p.length : Int) ≤ (s.length : Int)
  · by_cases hb : s.take p.length = p
    · have hb' : (s.take p.length == p) = true := by simpa using hb
      clear hb
      go_enter Try.func66, Try.ntmps66
      go_wp2
      go_ret
      exact ⟨by simp [beq_iff_eq.1 hb'], rfl⟩
    · have hb' : (s.take p.length == p) = false := by simpa using hb
      go_enter Try.func66, Try.ntmps66
      go_wp2
      go_ret
      exact ⟨by simp [hb], rfl⟩
  · have hf := Lib.hid (take_false (s := s) (p := p) (by omega))
    have h' : ¬ (p.length ≤ s.length) := by omega
    go_enter Try.func66, Try.ntmps66
    go_wp2
    go_ret
    exact ⟨by rw [hf.out]; rfl, rfl⟩

/-- what is behind a beginning, and whether it is one -/
def cutP (s p : List UInt8) : List UInt8 × Bool := if (s.take p.length == p) then (s.drop p.length, true) else (s, false)

set_option maxRecDepth 20000 in
set_option maxHeartbeats 400000 in
theorem cutPrefix0_any (s p : List UInt8) (w : World) (hs : (s.length : Int) ≤ 9223372036854775807) (hp : (p.length : Int) ≤ 9223372036854775807) :
    Calls Try.prog 65 #[.string (S s), .string (S p)] w fun e w' => e = .returned (.tuple #[.string (S (cutP s p).1), .bool (cutP s p).2]) ∧ w = w' := by
  have hc := hasPrefix_any s p w hs hp
  by_cases hb : (s.take p.length == p) = true
  · have hl : p.length ≤ s.length := by
      have := congrArg List.length (beq_iff_eq.1 hb)
      rw [List.length_take] at this; omega
    have hl2 : (p.length : Int) ≤ (s.length : Int) := by omega
    have H := Lib.hid (show cutP s p = (s.drop p.length, true) from if_pos hb)
    rw [hb] at hc
    have HC := Lib.hid hc
    clear hb hc
    go_enter Try.func65, Try.ntmps65
    go_wp2_with (go_at_call 66; refine HC.out.mono ?_; rintro e w' ⟨rfl, rfl⟩)
    go_ret2
    exact ⟨by rw [H.out]; rfl, rfl⟩
  · have hb' : (s.take p.length == p) = false := by simpa using hb
    have H := Lib.hid (show cutP s p = (s, false) from if_neg hb)
    rw [hb'] at hc
    have HC := Lib.hid hc
    clear hb hc hb'
    go_enter Try.func65, Try.ntmps65
    go_wp2_with (go_at_call 66; refine HC.out.mono ?_; rintro e w' ⟨rfl, rfl⟩)
    go_ret2
    exact ⟨by rw [H.out]; rfl, rfl⟩

set_option maxRecDepth 20000 in
set_option maxHeartbeats 400000 in
theorem cutPrefix_any (s p : List UInt8) (w : World) (hs : (s.length : Int) ≤ 9223372036854775807) (hp : (p.length : Int) ≤ 9223372036854775807) :
    Calls Try.prog 63 #[.string (S s), .string (S p)] w fun e w' => e = .returned (.tuple #[.string (S (cutP s p).1), .bool (cutP s p).2]) ∧ w = w' := by
  have HC := Lib.hid (cutPrefix0_any s p w hs hp)
  go_enter Try.func63, Try.ntmps63
  go_wp2_with (go_at_call 65; refine HC.out.mono ?_; rintro e w' ⟨rfl, rfl⟩)
  go_ret2
  exact ⟨rfl, rfl⟩

/-- what is left of a file (its synced bytes, and all) -/
def leftL (a b : List UInt8) (cut : Int) (mark : List UInt8) : List UInt8 :=
  if (b.take a.length == a) then a ++ garbledL ((b.drop a.length).take (min (max cut 0) ((b.drop a.length).length : Int)).toNat) mark else if 0 < cut then b else a
theorem garbledL_length (s mark : List UInt8) : (garbledL s mark).length = s.length := by
  unfold garbledL
  rw [List.length_append, List.length_take, List.length_drop]; omega

theorem max2_run (a b m : Int) (h : m = max a b) (w : World) : (Builtin.max_ #[3, 3] 3 #[.int .i64 a, .int .i64 b]).run Try.prog w = .ok (.int .i64 m) w := by
  have : (Builtin.max_ #[3, 3] 3 #[.int .i64 a, .int .i64 b]).run Try.prog w = .ok (.int .i64 (if a < b then b else a)) w := by
    simp [Builtin.max_, Builtin.max2]
  rw [this, h]
  congr 2
  split <;> omega
theorem min2_run (a b m : Int) (h : m = min a b) (w : World) : (Builtin.min_ #[3, 3] 3 #[.int .i64 a, .int .i64 b]).run Try.prog w = .ok (.int .i64 m) w := by
  have : (Builtin.min_ #[3, 3] 3 #[.int .i64 a, .int .i64 b]).run Try.prog w = .ok (.int .i64 (if b < a then b else a)) w := by
    simp [Builtin.min_, Builtin.min2]
  rw [this, h]
  congr 2
  split <;> omega

set_option maxRecDepth 20000 in
set_option maxHeartbeats 1000000 in
theorem left_any (a b : List UInt8) (cut : Int) (mark : List UInt8) (w : World) (ha : (a.length : Int) ≤ 1000000000) (hb : (b.length : Int) ≤ 1000000000) (hm : (mark.length : Int) ≤ 9223372036854775807) :
    Calls Try.prog 56 #[.agg #[.string (S a), .string (S b)], .int .i64 cut, .string (S mark)] w fun e w' => e = .returned (.string (S (leftL a b cut mark))) ∧ Ext w w' := by
  have HC := Lib.hid (fun w => cutPrefix_any b a w (by omega) (by omega))
  have hld : (b.drop a.length).length ≤ b.length := by rw [List.length_drop]; omega
  by_cases hp : (b.take a.length == a) = true
  · have H := Lib.hid (show leftL a b cut mark = a ++ garbledL ((b.drop a.length).take (min (max cut 0) ((b.drop a.length).length : Int)).toNat) mark from if_pos hp)
    have e1 : cutP b a = (b.drop a.length, true) := if_pos hp
    rw [e1] at HC
    generalize b.drop a.length = tail at HC H hld
    obtain ⟨m, hm1⟩ : ∃ m, m = max cut 0 := ⟨_, rfl⟩
    obtain ⟨k, hk⟩ : ∃ k : Nat, (k : Int) = min m (tail.length : Int) := ⟨(min m (tail.length : Int)).toNat, by omega⟩
    have hmx := max2_run cut 0 m hm1
    have hmn := min2_run m (tail.length : Int) k hk
    have e2 : (min (max cut 0) (tail.length : Int)).toNat = k := by omega
    rw [e2] at H
    have hk2 : (k : Int) ≤ (tail.length : Int) := by omega
    have HG := Lib.hid (fun w => garbled_any (tail.take k) mark w (by rw [List.length_take]; omega) hm)
    have hcat := run_cat (P := Try.prog) a (garbledL (tail.take k) mark) (by rw [garbledL_length, List.length_take]; omega)
    clear hp e1 hm1 hk e2
    have c0 := up_cell (show (w.alloc (.cells #[.string (S a), .string (S b)] 40)).cell? ⟨w.heap.size, 0, none⟩ = some (.string (S a)) by simp)
    go_enter Try.func56, Try.ntmps56
    go_wp2_with (go_at_call 63; refine (HC.out _).mono ?_; rintro e w' ⟨rfl, rfl⟩)
    refine wp_region_up (by kernel_rfl) (by kernel_rfl) ?_
    repeat (quiet_step ((go_at_call 64; exact up_call (HG.out _))))
    refine wpQuiet_nil ?_
    rintro _ ⟨y, rfl⟩
    go_wp2
    go_ret
    exact ⟨by rw [H.out]; rfl, ((Ext.refl _).alloc _).trans y.ext⟩
  · have e1 : cutP b a = (b, false) := if_neg hp
    rw [e1] at HC
    by_cases hc : 0 < cut
    · have H := Lib.hid (show leftL a b cut mark = b by unfold leftL; rw [if_neg hp, if_pos hc])
      clear hp e1
      go_enter Try.func56, Try.ntmps56
      go_wp2_with (go_at_call 63; refine (HC.out _).mono ?_; rintro e w' ⟨rfl, rfl⟩)
      go_ret
      exact ⟨by rw [H.out]; rfl, (Ext.refl _).alloc _⟩
    · have H := Lib.hid (show leftL a b cut mark = a by unfold leftL; rw [if_neg hp, if_neg hc])
      clear hp e1
      go_enter Try.func56, Try.ntmps56
      go_wp2_with (go_at_call 63; refine (HC.out _).mono ?_; rintro e w' ⟨rfl, rfl⟩)
      go_ret
      exact ⟨by rw [H.out]; rfl, (Ext.refl _).alloc _⟩

set_option maxRecDepth 20000 in
set_option maxHeartbeats 1000000 in
theorem fall_any (a b : List UInt8) (cut : Int) (mark : List UInt8) (w : World) (ha : (a.length : Int) ≤ 1000000000) (hb : (b.length : Int) ≤ 1000000000) (hm : (mark.length : Int) ≤ 9223372036854775807) :
    Calls Try.prog 35 #[.agg #[.string (S a), .string (S b)], .int .i64 cut, .string (S mark)] w fun e w' => e = .returned (.agg #[.string (S (leftL a b cut mark)), .string (S (leftL a b cut mark))]) ∧ Ext w w' := by
  have HC := Lib.hid (fun w => left_any a b cut mark w ha hb hm)
  generalize leftL a b cut mark = r at HC
  go_enter Try.func35, Try.ntmps35
  go_wp2_with (go_at_call 56; refine (HC.out _).mono ?_; rintro e w' ⟨rfl, hx⟩; have hblk : Blk _ (w.heap.size + 1) _ _ := (Blk.new (w.alloc (.cells #[.string (S a), .string (S b)] 40)) 40 #[.string (S []), .string (S [])]).ext hx |> (by simpa using ·); have f0 : w'.frozen? ⟨w.heap.size + 1, 0, none⟩ = false := hblk.frozen 0; have f1 : w'.frozen? ⟨w.heap.size + 1, 1, none⟩ = false := hblk.frozen 1; have c0 : w'.cell? ⟨w.heap.size + 1, 0, none⟩ = some (.string (S [])) := hblk.cell 0; have c1 : w'.cell? ⟨w.heap.size + 1, 1, none⟩ = some (.string (S [])) := hblk.cell 1)
  exact bodyPost_ret (v := .agg #[.string (S r), .string (S r)]) (by simp [results, Try.results35, go_sem, c0, c1]) rfl ⟨rfl, Ext.set (Ext.set ((((Ext.refl _).alloc _).alloc _).trans hx) (Nat.le_succ _) _) (Nat.le_succ _) _⟩
end Go.Proofs.Ytahnjfbcklifoaa
