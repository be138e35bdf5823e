/- file: append, cut, sync, loose; the document's. -/
import Derived.Test.YtahnjfbcklifoaaStr
import Derived.Test.YtahnjfbcklifoaaQuiet
import Derived.StillTailTactics
namespace Go.Proofs.Ytahnjfbcklifoaa
set_option linter.unusedVariables false
set_option linter.unusedSimpArgs false
open Go.RowKit
attribute [local go_sem] S_size S_toList S_append S_extract S_beq S_bne S_empty S_nil

/-- a file's value -/
def fileV (f : List UInt8 × List UInt8) : Value := .agg #[.string (S f.1), .string (S f.2)]
def fappend (f : List UInt8 × List UInt8) (s : List UInt8) : (List UInt8 × List UInt8) × Int :=
  if (1000000 : Int) - f.2.length < s.length then (([], []), 3) else ((f.1, f.2 ++ s), 0)
def fcut (f : List UInt8 × List UInt8) (n : Int) : (List UInt8 × List UInt8) × Int :=
  if n < 0 ∨ (f.2.length : Int) < n then (([], []), 2) else ((f.1, f.2.take n.toNat), 0)
def okV (r : (List UInt8 × List UInt8) × Int) : Value := .tuple #[.agg #[.string (S r.1.1), .string (S r.1.2)], .int .i64 r.2]

set_option maxRecDepth 20000 in
set_option maxHeartbeats 400000 in
theorem fappend_any (a b s : List UInt8) (w : World) (ha : (a.length : Int) ≤ 9223372036854775807) (hb : (b.length : Int) ≤ 9223372036854775807) (hs : (s.length : Int) ≤ 9223372036854775807) :
    Calls Try.prog 28 #[.agg #[.string (S a), .string (S b)], .string (S s)] w fun e w' => e = .returned (okV (fappend (a, b) s)) ∧ Ext w w' := by
  by_cases h : (1000000 : Int) - b.length < s.length
  · have H := Lib.hid (show fappend (a, b) s = (([], []), 3) from if_pos h)
    go_enter Try.func28, Try.ntmps28
    go_wp2
    exact bodyPost_ret (v := .tuple #[.agg #[.string (S []), .string (S [])], .int .i64 3]) (by simp [results, Try.results28, go_sem]) rfl ⟨by rw [H.out]; rfl, ((Ext.refl _).alloc _).alloc _⟩
  · have H := Lib.hid (show fappend (a, b) s = ((a, b ++ s), 0) from if_neg h)
    have hcat := run_cat (P := Try.prog) b s (by omega)
    go_enter Try.func28, Try.ntmps28
    go_wp2
    exact bodyPost_ret (v := .tuple #[.agg #[.string (S a), .string (S (b ++ s))], .int .i64 0]) (by simp [results, Try.results28, go_sem]) rfl ⟨by rw [H.out]; rfl, ((Ext.refl _).alloc _).alloc _⟩

set_option maxRecDepth 20000 in
set_option maxHeartbeats 400000 in
theorem rappend_any (a b s : List UInt8) (w : World) (hb : (b.length : Int) ≤ 1000000000) (hs : (s.length : Int) ≤ 1000000000) :
    Calls Try.prog 29 #[.agg #[.string (S a), .string (S b)], .string (S s)] w fun e w' => e = .returned (okV (fappend (a, b) s)) ∧ Ext w w' := by
  by_cases h : (1000000 : Int) - b.length < s.length
  · have H := Lib.hid (show fappend (a, b) s = (([], []), 3) from if_pos h)
    have h' : (1000000 : Int) < (b.length : Int) + (s.length : Int) := by omega
    clear h
    go_enter Try.func29, Try.ntmps29
    go_wp2
    exact bodyPost_ret (v := .tuple #[.agg #[.string (S []), .string (S [])], .int .i64 3]) (by simp [results, Try.results29, go_sem]) rfl ⟨by rw [H.out]; rfl, ((Ext.refl _).alloc _).alloc _⟩
  · have H := Lib.hid (show fappend (a, b) s = ((a, b ++ s), 0) from if_neg h)
    have hcat := run_cat (P := Try.prog) b s (by omega)
    have h' : ¬ (1000000 : Int) < (b.length : Int) + (s.length : Int) := by omega
    clear h
    go_enter Try.func29, Try.ntmps29
    go_wp2
    exact bodyPost_ret (v := .tuple #[.agg #[.string (S a), .string (S (b ++ s))], .int .i64 0]) (by simp [results, Try.results29, go_sem]) rfl ⟨by rw [H.out]; rfl, ((Ext.refl _).alloc _).alloc _⟩

set_option maxRecDepth 20000 in
set_option maxHeartbeats 400000 in
theorem fcut_any (a b : List UInt8) (n : Int) (w : World) (hb : (b.length : Int) ≤ 9223372036854775807) :
    Calls Try.prog 30 #[.agg #[.string (S a), .string (S b)], .int .i64 n] w fun e w' => e = .returned (okV (fcut (a, b) n)) ∧ Ext w w' := by
  by_cases h : n < 0 ∨ (b.length : Int) < n
  · have H := Lib.hid (show fcut (a, b) n = (([], []), 2) from if_pos h)
    by_cases h1 : n < 0
    · clear h
      go_enter Try.func30, Try.ntmps30
      go_wp2
      exact bodyPost_ret (v := .tuple #[.agg #[.string (S []), .string (S [])], .int .i64 2]) (by simp [results, Try.results30, go_sem]) rfl ⟨by rw [H.out]; rfl, ((Ext.refl _).alloc _).alloc _⟩
    · have h2 : (b.length : Int) < n := by omega
      clear h
      go_enter Try.func30, Try.ntmps30
      go_wp2
      exact bodyPost_ret (v := .tuple #[.agg #[.string (S []), .string (S [])], .int .i64 2]) (by simp [results, Try.results30, go_sem]) rfl ⟨by rw [H.out]; rfl, ((Ext.refl _).alloc _).alloc _⟩
  · obtain ⟨N, rfl⟩ := Int.eq_ofNat_of_zero_le (show 0 ≤ n by omega)
    have H := Lib.hid (show fcut (a, b) N = ((a, b.take N), 0) from if_neg h)
    have h1 : ¬ (N : Int) < 0 := by omega
    have h2 : ¬ (b.length : Int) < (N : Int) := by omega
    have h3 : N ≤ b.length := by omega
    clear h
    go_enter Try.func30, Try.ntmps30
    go_wp2
    exact bodyPost_ret (v := .tuple #[.agg #[.string (S a), .string (S (b.take N))], .int .i64 0]) (by simp [results, Try.results30, go_sem]) rfl ⟨by rw [H.out]; rfl, ((Ext.refl _).alloc _).alloc _⟩

set_option maxRecDepth 20000 in
set_option maxHeartbeats 400000 in
theorem rcut_any (a b : List UInt8) (n : Int) (w : World) (hb : (b.length : Int) ≤ 9223372036854775807) :
    Calls Try.prog 31 #[.agg #[.string (S a), .string (S b)], .int .i64 n] w fun e w' => e = .returned (okV (fcut (a, b) n)) ∧ Ext w w' := by
  by_cases h : n < 0 ∨ (b.length : Int) < n
  · have H := Lib.hid (show fcut (a, b) n = (([], []), 2) from if_pos h)
    by_cases h1 : n < 0
    · clear h
      go_enter Try.func31, Try.ntmps31
      go_wp2
      exact bodyPost_ret (v := .tuple #[.agg #[.string (S []), .string (S [])], .int .i64 2]) (by simp [results, Try.results31, go_sem]) rfl ⟨by rw [H.out]; rfl, ((Ext.refl _).alloc _).alloc _⟩
    · have h2 : (b.length : Int) < n := by omega
      clear h
      go_enter Try.func31, Try.ntmps31
      go_wp2
      exact bodyPost_ret (v := .tuple #[.agg #[.string (S []), .string (S [])], .int .i64 2]) (by simp [results, Try.results31, go_sem]) rfl ⟨by rw [H.out]; rfl, ((Ext.refl _).alloc _).alloc _⟩
  · obtain ⟨N, rfl⟩ := Int.eq_ofNat_of_zero_le (show 0 ≤ n by omega)
    have H := Lib.hid (show fcut (a, b) N = ((a, b.take N), 0) from if_neg h)
    have h1 : ¬ (N : Int) < 0 := by omega
    have h2 : ¬ (b.length : Int) < (N : Int) := by omega
    have h3 : N ≤ b.length := by omega
    clear h
    go_enter Try.func31, Try.ntmps31
    go_wp2
    go_region
    go_wp2
    exact bodyPost_ret (v := .tuple #[.agg #[.string (S a), .string (S (b.take N))], .int .i64 0]) (by simp [results, Try.results31, go_sem]) rfl ⟨by rw [H.out]; rfl, (((Ext.refl _).alloc _).alloc _).drew⟩

set_option maxRecDepth 20000 in
set_option maxHeartbeats 400000 in
theorem fsync_any (a b : List UInt8) (w : World) :
    Calls Try.prog 33 #[.agg #[.string (S a), .string (S b)]] w fun e w' => e = .returned (.agg #[.string (S b), .string (S b)]) ∧ Ext w w' := by
  go_enter Try.func33, Try.ntmps33
  go_wp2
  exact bodyPost_ret (v := .agg #[.string (S b), .string (S b)]) (by simp [results, Try.results33, go_sem]) rfl ⟨rfl, ((Ext.refl _).alloc _).alloc _⟩
set_option maxRecDepth 20000 in
set_option maxHeartbeats 400000 in
theorem rsync_any (a b : List UInt8) (w : World) :
    Calls Try.prog 34 #[.agg #[.string (S a), .string (S b)]] w fun e w' => e = .returned (.agg #[.string (S b), .string (S b)]) ∧ Ext w w' := by
  go_enter Try.func34, Try.ntmps34
  go_wp2
  exact bodyPost_ret (v := .agg #[.string (S b), .string (S b)]) (by simp [results, Try.results34, go_sem]) rfl ⟨rfl, ((Ext.refl _).alloc _).alloc _⟩

/-- are two files one? -/
theorem file_neq (a b c d : List UInt8) (w : World) : (binOp .neq 40 (.agg #[.string (S a), .string (S b)]) (.agg #[.string (S c), .string (S d)])).run Try.prog w = .ok (.bool !(a == c && b == d)) w := by
  go_simp
  by_cases h1 : a = c <;> by_cases h2 : b = d <;> simp [h1, h2]

set_option maxRecDepth 20000 in
set_option maxHeartbeats 400000 in
theorem floose_any (a b : List UInt8) (w : World) :
    Calls Try.prog 37 #[.agg #[.string (S a), .string (S b)]] w fun e w' => e = .returned (.bool (a != b)) ∧ Ext w w' := by
  have he := file_neq a b b b
  go_enter Try.func37, Try.ntmps37
  go_wp2
  have c0 := up_cell (show (w.alloc (.cells #[.string (S a), .string (S b)] 40)).cell? ⟨w.heap.size, 0, none⟩ = some (.string (S a)) by simp)
  have c1 := up_cell (show (w.alloc (.cells #[.string (S a), .string (S b)] 40)).cell? ⟨w.heap.size, 1, none⟩ = some (.string (S b)) by simp)
  refine wp_region_up (by kernel_rfl) (by kernel_rfl) ?_
  repeat (quiet_step ((go_at_call 33; exact up_call (fsync_any _ _ _))))
  refine wpQuiet_nil ?_
  rintro _ ⟨y, rfl⟩
  go_wp2
  go_ret
  exact ⟨by simp [bne], ((Ext.refl _).alloc _).trans y.ext⟩
end Go.Proofs.Ytahnjfbcklifoaa
