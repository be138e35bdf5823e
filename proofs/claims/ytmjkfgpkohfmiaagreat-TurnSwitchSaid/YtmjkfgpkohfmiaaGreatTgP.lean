/- Several texts in one. merged: DfA DfB DfC DfF DkN -/
import Derived.Test.YtmjkfgpkohfmiaaGreatStr
import Derived.Test.YtmjkfgpkohfmiaaGreatQuiet
import Derived.StillTailTactics
import Derived.RegionTactic
import Derived.Test.YtmjkfgpkohfmiaaGreatBuf
import Derived.Test.YtmjkfgpkohfmiaaGreatBut
import Derived.Laws.RangeString
import Derived.Laws.RangeAny
import Derived.LoopTactic
namespace Go.Proofs.YtmjkfgpkohfmiaaGreat
set_option linter.unusedVariables false
set_option linter.unusedSimpArgs false
open Go.RowKit

attribute [local go_sem] S_size S_toList S_append S_extract S_beq S_bne S_empty S_nil

/-- a file's value -/
def fileV (f : List UInt8 × List UInt8) : Value := .agg #[.string (S f.1), .string (S f.2)]
def fappend (f : List UInt8 × List UInt8) (s : List UInt8) : (List UInt8 × List UInt8) × Int :=
  if (1000000 : Int) - f.2.length < s.length then (([], []), 3) else ((f.1, f.2 ++ s), 0)
def fcut (f : List UInt8 × List UInt8) (n : Int) : (List UInt8 × List UInt8) × Int :=
  if n < 0 ∨ (f.2.length : Int) < n then (([], []), 2) else ((f.1, f.2.take n.toNat), 0)
def okV (r : (List UInt8 × List UInt8) × Int) : Value := .tuple #[.agg #[.string (S r.1.1), .string (S r.1.2)], .int .i64 r.2]

set_option maxRecDepth 20000 in
set_option maxHeartbeats 400000 in
theorem fappend_any (a b s : List UInt8) (w : World) (ha : (a.length : Int) ≤ 9223372036854775807) (hb : (b.length : Int) ≤ 9223372036854775807) (hs : (s.length : Int) ≤ 9223372036854775807) :
    Calls Tryz.prog 84 #[.agg #[.string (S a), .string (S b)], .string (S s)] w fun e w' => e = .returned (okV (fappend (a, b) s)) ∧ Ext w w' := by
  by_cases h : (1000000 : Int) - b.length < s.length
  · have H := Lib.hid (show fappend (a, b) s = (([], []), 3) from if_pos h)
    go_enter Tryz.func84, Tryz.ntmps84
    go_wp2
    exact bodyPost_ret (v := .tuple #[.agg #[.string (S []), .string (S [])], .int .i64 3]) (by simp [results, Tryz.results84, go_sem]) rfl ⟨by rw [H.out]; rfl, ((Ext.refl _).alloc _).alloc _⟩
  · have H := Lib.hid (show fappend (a, b) s = ((a, b ++ s), 0) from if_neg h)
    have hcat := run_cat (P := Tryz.prog) b s (by omega)
    go_enter Tryz.func84, Tryz.ntmps84
    go_wp2
    exact bodyPost_ret (v := .tuple #[.agg #[.string (S a), .string (S (b ++ s))], .int .i64 0]) (by simp [results, Tryz.results84, go_sem]) rfl ⟨by rw [H.out]; rfl, ((Ext.refl _).alloc _).alloc _⟩

set_option maxRecDepth 20000 in
set_option maxHeartbeats 400000 in
theorem fcut_any (a b : List UInt8) (n : Int) (w : World) (hb : (b.length : Int) ≤ 9223372036854775807) :
    Calls Tryz.prog 87 #[.agg #[.string (S a), .string (S b)], .int .i64 n] w fun e w' => e = .returned (okV (fcut (a, b) n)) ∧ Ext w w' := by
  by_cases h : n < 0 ∨ (b.length : Int) < n
  · have H := Lib.hid (show fcut (a, b) n = (([], []), 2) from if_pos h)
    by_cases h1 : n < 0
    · clear h
      go_enter Tryz.func87, Tryz.ntmps87
      go_wp2
      exact bodyPost_ret (v := .tuple #[.agg #[.string (S []), .string (S [])], .int .i64 2]) (by simp [results, Tryz.results87, go_sem]) rfl ⟨by rw [H.out]; rfl, ((Ext.refl _).alloc _).alloc _⟩
    · have h2 : (b.length : Int) < n := by omega
      clear h
      go_enter Tryz.func87, Tryz.ntmps87
      go_wp2
      exact bodyPost_ret (v := .tuple #[.agg #[.string (S []), .string (S [])], .int .i64 2]) (by simp [results, Tryz.results87, go_sem]) rfl ⟨by rw [H.out]; rfl, ((Ext.refl _).alloc _).alloc _⟩
  · obtain ⟨N, rfl⟩ := Int.eq_ofNat_of_zero_le (show 0 ≤ n by omega)
    have H := Lib.hid (show fcut (a, b) N = ((a, b.take N), 0) from if_neg h)
    have h1 : ¬ (N : Int) < 0 := by omega
    have h2 : ¬ (b.length : Int) < (N : Int) := by omega
    have h3 : N ≤ b.length := by omega
    clear h
    go_enter Tryz.func87, Tryz.ntmps87
    go_wp2
    exact bodyPost_ret (v := .tuple #[.agg #[.string (S a), .string (S (b.take N))], .int .i64 0]) (by simp [results, Tryz.results87, go_sem]) rfl ⟨by rw [H.out]; rfl, ((Ext.refl _).alloc _).alloc _⟩

set_option maxRecDepth 20000 in
set_option maxHeartbeats 400000 in
theorem fsync_any (a b : List UInt8) (w : World) :
    Calls Tryz.prog 54 #[.agg #[.string (S a), .string (S b)]] w fun e w' => e = .returned (.agg #[.string (S b), .string (S b)]) ∧ Ext w w' := by
  go_enter Tryz.func54, Tryz.ntmps54
  go_wp2
  exact bodyPost_ret (v := .agg #[.string (S b), .string (S b)]) (by simp [results, Tryz.results54, go_sem]) rfl ⟨rfl, ((Ext.refl _).alloc _).alloc _⟩
/-- are two files one? -/
theorem file_neq (a b c d : List UInt8) (w : World) : (binOp .neq 84 (.agg #[.string (S a), .string (S b)]) (.agg #[.string (S c), .string (S d)])).run Tryz.prog w = .ok (.bool !(a == c && b == d)) w := by
  go_simp
  by_cases h1 : a = c <;> by_cases h2 : b = d <;> simp [h1, h2]

set_option maxRecDepth 20000 in
set_option maxHeartbeats 400000 in
theorem floose_any (a b : List UInt8) (w : World) :
    Calls Tryz.prog 40 #[.agg #[.string (S a), .string (S b)]] w fun e w' => e = .returned (.bool (a != b)) ∧ Ext w w' := by
  have he := file_neq a b b b
  go_enter Tryz.func40, Tryz.ntmps40
  go_wp2
  have c0 := up_cell (show (w.alloc (.cells #[.string (S a), .string (S b)] 84)).cell? ⟨w.heap.size, 0, none⟩ = some (.string (S a)) by simp)
  have c1 := up_cell (show (w.alloc (.cells #[.string (S a), .string (S b)] 84)).cell? ⟨w.heap.size, 1, none⟩ = some (.string (S b)) by simp)
  refine wp_region_up (by kernel_rfl) (by kernel_rfl) ?_
  repeat (quiet_step ((go_at_call 54; exact up_call (fsync_any _ _ _))))
  refine wpQuiet_nil ?_
  rintro _ ⟨y, rfl⟩
  go_wp2
  go_ret
  exact ⟨by simp [bne], ((Ext.refl _).alloc _).trans y.ext⟩
end Go.Proofs.YtmjkfgpkohfmiaaGreat
namespace Go.Proofs.YtmjkfgpkohfmiaaGreat
set_option linter.unusedVariables false
set_option linter.unusedSimpArgs false
open Go.RowKit

attribute [local go_sem] S_size S_toList S_append S_extract S_beq S_bne S_empty S_nil

def garbledL (s mark : List UInt8) : List UInt8 :=
  s.take (s.length - min (min mark.length 64) s.length) ++ mark.drop (mark.length - min (min mark.length 64) s.length)

theorem min3_run (a b c : Int) (n : Nat) (h : (n : Int) = min (min a b) c) (w : World) :
    (Builtin.min_ #[3, 3, 3] 3 #[.int .i64 a, .int .i64 b, .int .i64 c]).run Tryz.prog w = .ok (.int .i64 (n : Int)) w := by
  rw [run_min_int3, h]
  congr 2
  split <;> split <;> omega

set_option maxRecDepth 20000 in
set_option maxHeartbeats 400000 in
theorem garbled_any (s mark : List UInt8) (w : World) (hs : (s.length : Int) ≤ 1000000000) (hm : (mark.length : Int) ≤ 9223372036854775807) :
    Calls Tryz.prog 107 #[.string (S s), .string (S mark)] w fun e w' => e = .returned (.string (S (garbledL s mark))) ∧ Ext w w' := by
  obtain ⟨n, hn⟩ : ∃ n : Nat, n = min (min mark.length 64) s.length := ⟨_, rfl⟩
  have hmin := min3_run mark.length 64 s.length n (by omega)
  have G := Lib.hid (show garbledL s mark = s.take (s.length - n) ++ mark.drop (mark.length - n) by rw [hn]; rfl)
  have hn0 : n = 0 → (0 : Int) = min (min (mark.length : Int) 64) (s.length : Int) := by omega
  have h1 : n ≤ s.length := by omega
  have h2 : n ≤ mark.length := by omega
  clear hn
  obtain ⟨cap, w1, hcap, hrun, hx, hB, hz⟩ := bytes_of_str w s
  have e2 : IntKind.i64.wrap ((s.length : Int) - (n : Int)) = ((s.length - n : Nat) : Int) := by rw [IntWalk.i64_in _ (by omega)]; omega
  have e3 : IntKind.i64.wrap ((mark.length : Int) - (n : Int)) = ((mark.length - n : Nat) : Int) := by rw [IntWalk.i64_in _ (by omega)]; omega
  have hcopy := fun a c (ha : 0 < n → a = some ⟨w.heap.size, s.length - n, none⟩) => copy_str w1.drew w.heap.size (s.length - n) n c s (mark.drop (mark.length - n)) hB.drew (by simp; omega) (by omega) a ha
  have hB2 := Row8.setCells (mark.drop (mark.length - n)) (s.length - n) _ _ hB.drew (by simp; omega)
  have hf : s.take (s.length - n) ++ mark.drop (mark.length - n) ++ s.drop (s.length - n + (mark.drop (mark.length - n)).length) = s.take (s.length - n) ++ mark.drop (mark.length - n) := by
    have h9 : s.drop (s.length - n + (mark.drop (mark.length - n)).length) = [] := List.drop_eq_nil_of_le (by simp; omega)
    rw [h9, List.append_nil]
  rw [hf] at hB2
  have hcv := str_of_bytes _ w.heap.size cap _ hB2 s.length (by simp; omega)
  have hx2 := Ext.setCells (a := w) (Nat.le_refl _) (b8s (mark.drop (mark.length - n))) (s.length - n) w1.drew hx.drew
  clear hf
  have HB := Lib.hid hB2
  clear hB2 hB
  have e4 : s.length - (s.length - n) = n := by omega
  by_cases h0 : n = 0
  · subst h0
    have hc := fun a c => hcopy a c (fun h => absurd h (by omega))
    clear hcopy e2 e3 e4
    have hd : mark.drop (mark.length - 0) = [] := by simp
    rw [hd] at hc hcv hx2
    clear hd
    simp only [b8s, List.map_nil, World.setCells, Nat.sub_zero, List.append_nil, List.take_length] at hc hcv hx2
    have G2 := Lib.hid (show garbledL s mark = s by rw [G.out]; simp)
    clear HB G hmin
    have hmin := min3_run mark.length 64 s.length 0 (by have := hn0 rfl; simpa using this)
    clear hn0
    by_cases h9 : cap = s.length
    · subst h9
      go_enter Tryz.func107, Tryz.ntmps107
      go_wp2
      go_region
      go_wp2
      go_ret
      exact ⟨by rw [G2.out]; rfl, hx2⟩
    · go_enter Tryz.func107, Tryz.ntmps107
      go_wp2
      go_region
      go_wp2
      go_ret
      exact ⟨by rw [G2.out]; rfl, hx2⟩
  · clear hn0
    have hne : ¬ (cap = s.length - n) := by omega
    have hc := hcopy _ (cap - (s.length - n)) (fun _ => rfl)
    clear hcopy
    go_enter Tryz.func107, Tryz.ntmps107
    go_wp2
    go_region
    go_wp2
    go_ret
    exact ⟨by rw [G.out]; rfl, hx2⟩
end Go.Proofs.YtmjkfgpkohfmiaaGreat
namespace Go.Proofs.YtmjkfgpkohfmiaaGreat
set_option linter.unusedVariables false
set_option linter.unusedSimpArgs false
open Go.RowKit

attribute [local go_sem] S_size S_toList S_append S_extract S_beq S_bne S_empty S_nil

theorem take_false {s p : List UInt8} (h : s.length < p.length) : (s.take p.length == p) = false := by
  rw [beq_eq_false_iff_ne]; intro e
  have := congrArg List.length e
  rw [List.length_take] at this; omega

set_option maxRecDepth 20000 in
set_option maxHeartbeats 400000 in
theorem hasPrefix_any (s p : List UInt8) (w : World) (hs : (s.length : Int) ≤ 9223372036854775807) (hp : (p.length : Int) ≤ 9223372036854775807) :
    Calls Tryz.prog 137 #[.string (S s), .string (S p)] w fun e w' => e = .returned (.bool (s.take p.length == p)) ∧ w = w' := by
  by_cases h : (p.length : Int) ≤ (s.length : Int)
  · by_cases hb : s.take p.length = p
    · have hb' : (s.take p.length == p) = true := by simpa using hb
      clear hb
      go_enter Tryz.func137, Tryz.ntmps137
      go_wp2
      go_ret
      exact ⟨by simp [beq_iff_eq.1 hb'], rfl⟩
    · have hb' : (s.take p.length == p) = false := by simpa using hb
      go_enter Tryz.func137, Tryz.ntmps137
      go_wp2
      go_ret
      exact ⟨by simp [hb], rfl⟩
  · have hf := Lib.hid (take_false (s := s) (p := p) (by omega))
    have h' : ¬ (p.length ≤ s.length) := by omega
    go_enter Tryz.func137, Tryz.ntmps137
    go_wp2
    go_ret
    exact ⟨by rw [hf.out]; rfl, rfl⟩

/-- what is behind a beginning, and whether it is one -/
def cutP (s p : List UInt8) : List UInt8 × Bool := if (s.take p.length == p) then (s.drop p.length, true) else (s, false)

set_option maxRecDepth 20000 in
set_option maxHeartbeats 400000 in
theorem cutPrefix0_any (s p : List UInt8) (w : World) (hs : (s.length : Int) ≤ 9223372036854775807) (hp : (p.length : Int) ≤ 9223372036854775807) :
    Calls Tryz.prog 130 #[.string (S s), .string (S p)] w fun e w' => e = .returned (.tuple #[.string (S (cutP s p).1), .bool (cutP s p).2]) ∧ w = w' := by
  have hc := hasPrefix_any s p w hs hp
  by_cases hb : (s.take p.length == p) = true
  · have hl : p.length ≤ s.length := by
      have := congrArg List.length (beq_iff_eq.1 hb)
      rw [List.length_take] at this; omega
    have hl2 : (p.length : Int) ≤ (s.length : Int) := by omega
    have H := Lib.hid (show cutP s p = (s.drop p.length, true) from if_pos hb)
    rw [hb] at hc
    have HC := Lib.hid hc
    clear hb hc
    go_enter Tryz.func130, Tryz.ntmps130
    go_wp2_with (go_at_call 137; refine HC.out.mono ?_; rintro e w' ⟨rfl, rfl⟩)
    go_ret2
    exact ⟨by rw [H.out]; rfl, rfl⟩
  · have hb' : (s.take p.length == p) = false := by simpa using hb
    have H := Lib.hid (show cutP s p = (s, false) from if_neg hb)
    rw [hb'] at hc
    have HC := Lib.hid hc
    clear hb hc hb'
    go_enter Tryz.func130, Tryz.ntmps130
    go_wp2_with (go_at_call 137; refine HC.out.mono ?_; rintro e w' ⟨rfl, rfl⟩)
    go_ret2
    exact ⟨by rw [H.out]; rfl, rfl⟩

set_option maxRecDepth 20000 in
set_option maxHeartbeats 400000 in
theorem cutPrefix_any (s p : List UInt8) (w : World) (hs : (s.length : Int) ≤ 9223372036854775807) (hp : (p.length : Int) ≤ 9223372036854775807) :
    Calls Tryz.prog 106 #[.string (S s), .string (S p)] w fun e w' => e = .returned (.tuple #[.string (S (cutP s p).1), .bool (cutP s p).2]) ∧ w = w' := by
  have HC := Lib.hid (cutPrefix0_any s p w hs hp)
  go_enter Tryz.func106, Tryz.ntmps106
  go_wp2_with (go_at_call 130; refine HC.out.mono ?_; rintro e w' ⟨rfl, rfl⟩)
  go_ret2
  exact ⟨rfl, rfl⟩

/-- what is left of a file (its synced bytes, and all) -/
def leftL (a b : List UInt8) (cut : Int) (mark : List UInt8) : List UInt8 :=
  if (b.take a.length == a) then a ++ garbledL ((b.drop a.length).take (min (max cut 0) ((b.drop a.length).length : Int)).toNat) mark else if 0 < cut then b else a
theorem garbledL_length (s mark : List UInt8) : (garbledL s mark).length = s.length := by
  unfold garbledL
  rw [List.length_append, List.length_take, List.length_drop]; omega

theorem max2_run (a b m : Int) (h : m = max a b) (w : World) : (Builtin.max_ #[3, 3] 3 #[.int .i64 a, .int .i64 b]).run Tryz.prog w = .ok (.int .i64 m) w := by
  have : (Builtin.max_ #[3, 3] 3 #[.int .i64 a, .int .i64 b]).run Tryz.prog w = .ok (.int .i64 (if a < b then b else a)) w := by
    simp [Builtin.max_, Builtin.max2]
  rw [this, h]
  congr 2
  split <;> omega
theorem min2_run (a b m : Int) (h : m = min a b) (w : World) : (Builtin.min_ #[3, 3] 3 #[.int .i64 a, .int .i64 b]).run Tryz.prog w = .ok (.int .i64 m) w := by
  have : (Builtin.min_ #[3, 3] 3 #[.int .i64 a, .int .i64 b]).run Tryz.prog w = .ok (.int .i64 (if b < a then b else a)) w := by
    simp [Builtin.min_, Builtin.min2]
  rw [this, h]
  congr 2
  split <;> omega

set_option maxRecDepth 20000 in
set_option maxHeartbeats 1000000 in
theorem left_any (a b : List UInt8) (cut : Int) (mark : List UInt8) (w : World) (ha : (a.length : Int) ≤ 1000000000) (hb : (b.length : Int) ≤ 1000000000) (hm : (mark.length : Int) ≤ 9223372036854775807) :
    Calls Tryz.prog 75 #[.agg #[.string (S a), .string (S b)], .int .i64 cut, .string (S mark)] w fun e w' => e = .returned (.string (S (leftL a b cut mark))) ∧ Ext w w' := by
  have HC := Lib.hid (fun w => cutPrefix_any b a w (by omega) (by omega))
  have hld : (b.drop a.length).length ≤ b.length := by rw [List.length_drop]; omega
  by_cases hp : (b.take a.length == a) = true
  · have H := Lib.hid (show leftL a b cut mark = a ++ garbledL ((b.drop a.length).take (min (max cut 0) ((b.drop a.length).length : Int)).toNat) mark from if_pos hp)
    have e1 : cutP b a = (b.drop a.length, true) := if_pos hp
    rw [e1] at HC
    generalize b.drop a.length = tail at HC H hld
    obtain ⟨m, hm1⟩ : ∃ m, m = max cut 0 := ⟨_, rfl⟩
    obtain ⟨k, hk⟩ : ∃ k : Nat, (k : Int) = min m (tail.length : Int) := ⟨(min m (tail.length : Int)).toNat, by omega⟩
    have hmx := max2_run cut 0 m hm1
    have hmn := min2_run m (tail.length : Int) k hk
    have e2 : (min (max cut 0) (tail.length : Int)).toNat = k := by omega
    rw [e2] at H
    have hk2 : (k : Int) ≤ (tail.length : Int) := by omega
    have HG := Lib.hid (fun w => garbled_any (tail.take k) mark w (by rw [List.length_take]; omega) hm)
    have hcat := run_cat (P := Tryz.prog) a (garbledL (tail.take k) mark) (by rw [garbledL_length, List.length_take]; omega)
    clear hp e1 hm1 hk e2
    have c0 := up_cell (show (w.alloc (.cells #[.string (S a), .string (S b)] 84)).cell? ⟨w.heap.size, 0, none⟩ = some (.string (S a)) by simp)
    go_enter Tryz.func75, Tryz.ntmps75
    go_wp2_with (go_at_call 106; refine (HC.out _).mono ?_; rintro e w' ⟨rfl, rfl⟩)
    refine wp_region_up (by kernel_rfl) (by kernel_rfl) ?_
    repeat (quiet_step ((go_at_call 107; exact up_call (HG.out _))))
    refine wpQuiet_nil ?_
    rintro _ ⟨y, rfl⟩
    go_wp2
    go_ret
    exact ⟨by rw [H.out]; rfl, ((Ext.refl _).alloc _).trans y.ext⟩
  · have e1 : cutP b a = (b, false) := if_neg hp
    rw [e1] at HC
    by_cases hc : 0 < cut
    · have H := Lib.hid (show leftL a b cut mark = b by unfold leftL; rw [if_neg hp, if_pos hc])
      clear hp e1
      go_enter Tryz.func75, Tryz.ntmps75
      go_wp2_with (go_at_call 106; refine (HC.out _).mono ?_; rintro e w' ⟨rfl, rfl⟩)
      go_ret
      exact ⟨by rw [H.out]; rfl, (Ext.refl _).alloc _⟩
    · have H := Lib.hid (show leftL a b cut mark = a by unfold leftL; rw [if_neg hp, if_neg hc])
      clear hp e1
      go_enter Tryz.func75, Tryz.ntmps75
      go_wp2_with (go_at_call 106; refine (HC.out _).mono ?_; rintro e w' ⟨rfl, rfl⟩)
      go_ret
      exact ⟨by rw [H.out]; rfl, (Ext.refl _).alloc _⟩

set_option maxRecDepth 20000 in
set_option maxHeartbeats 1000000 in
theorem fall_any (a b : List UInt8) (cut : Int) (mark : List UInt8) (w : World) (ha : (a.length : Int) ≤ 1000000000) (hb : (b.length : Int) ≤ 1000000000) (hm : (mark.length : Int) ≤ 9223372036854775807) :
    Calls Tryz.prog 41 #[.agg #[.string (S a), .string (S b)], .int .i64 cut, .string (S mark)] w fun e w' => e = .returned (.agg #[.string (S (leftL a b cut mark)), .string (S (leftL a b cut mark))]) ∧ Ext w w' := by
  have HC := Lib.hid (fun w => left_any a b cut mark w ha hb hm)
  generalize leftL a b cut mark = r at HC
  go_enter Tryz.func41, Tryz.ntmps41
  go_wp2_with (go_at_call 75; refine (HC.out _).mono ?_; rintro e w' ⟨rfl, hx⟩; have hblk : Blk _ (w.heap.size + 1) _ _ := (Blk.new (w.alloc (.cells #[.string (S a), .string (S b)] 84)) 84 #[.string (S []), .string (S [])]).ext hx |> (by simpa using ·); have f0 : w'.frozen? ⟨w.heap.size + 1, 0, none⟩ = false := hblk.frozen 0; have f1 : w'.frozen? ⟨w.heap.size + 1, 1, none⟩ = false := hblk.frozen 1; have c0 : w'.cell? ⟨w.heap.size + 1, 0, none⟩ = some (.string (S [])) := hblk.cell 0; have c1 : w'.cell? ⟨w.heap.size + 1, 1, none⟩ = some (.string (S [])) := hblk.cell 1)
  exact bodyPost_ret (v := .agg #[.string (S r), .string (S r)]) (by simp [results, Tryz.results41, go_sem, c0, c1]) rfl ⟨rfl, Ext.set (Ext.set ((((Ext.refl _).alloc _).alloc _).trans hx) (Nat.le_succ _) _) (Nat.le_succ _) _⟩
end Go.Proofs.YtmjkfgpkohfmiaaGreat
namespace Go.Proofs.YtmjkfgpkohfmiaaGreat
set_option linter.unusedVariables false
set_option linter.unusedSimpArgs false
open Go.RowKit

attribute [local go_sem] S_size S_toList S_append S_extract S_beq S_bne S_empty S_nil

theorem file_f0 (a b : List UInt8) (w : World) : (Instr.field 84 (.agg #[.string (S a), .string (S b)]) 0).run Tryz.prog w = .ok (.string (S a)) w := by kernel_rfl
theorem file_f1 (a b : List UInt8) (w : World) : (Instr.field 84 (.agg #[.string (S a), .string (S b)]) 1).run Tryz.prog w = .ok (.string (S b)) w := by kernel_rfl
attribute [local go_sem] file_f0 file_f1

theorem Blk.two {w : World} {g : Nat} {t : TypeId} {x y : Value} (h : Blk w g t #[x, y]) : w.cell? ⟨g, 0, none⟩ = some x ∧ w.cell? ⟨g, 1, none⟩ = some y := ⟨h.cell 0, h.cell 1⟩

end Go.Proofs.YtmjkfgpkohfmiaaGreat
namespace Go.Proofs.YtmjkfgpkohfmiaaGreat
set_option linter.unusedVariables false
set_option linter.unusedSimpArgs false
open Go.RowKit

attribute [local go_sem] S_size S_toList S_append S_extract S_beq S_bne S_empty S_nil

def letterI (r : Int) : Bool := (decide (97 ≤ r) && decide (r ≤ 122)) || (decide (48 ≤ r) && decide (r ≤ 57)) || decide (r = 46) || decide (r = 45)
def letterB (b : UInt8) : Bool := letterI (b.toNat : Int)
def chk (s : List UInt8) : Int := if 1 ≤ s.length ∧ s.length ≤ 64 ∧ s.all letterB = true then 0 else 180

set_option maxRecDepth 20000 in
theorem letter_any (r : Int) (w : World) : Calls Tryz.prog 90 #[.int .i32 r] w fun e w' => e = .returned (.bool (letterI r)) ∧ w = w' := by
  by_cases h1 : 97 ≤ r <;> by_cases h2 : r ≤ 122 <;> by_cases h3 : 48 ≤ r <;> by_cases h4 : r ≤ 57 <;> by_cases h5 : r = 46 <;> by_cases h6 : r = 45
  all_goals first
    | (exfalso; omega)
    | skip
  all_goals
    obtain ⟨v, hv⟩ : ∃ v, v = letterI r := ⟨_, rfl⟩
    have H := Lib.hid hv
    simp only [letterI, h1, h2, h3, h4, h5, h6, decide_true, decide_false, Bool.and_true, Bool.true_and, Bool.or_false, Bool.false_or, Bool.or_true, Bool.true_or, Bool.and_false, Bool.false_and] at hv
    rw [← H.out, hv]
    clear H hv v
    go_enter Tryz.func90, Tryz.ntmps90
    go_wp2
    go_ret
    first | exact ⟨rfl, rfl⟩ | exact ⟨by simp [h5, h6], rfl⟩

theorem letterI_big {r : Int} (h : 128 ≤ r) : letterI r = false := by
  have h1 : ¬ r ≤ 122 := by omega
  have h2 : ¬ r ≤ 57 := by omega
  have h3 : ¬ r = 46 := by omega
  have h4 : ¬ r = 45 := by omega
  simp [letterI, h1, h2, h3, h4]
theorem take_all {s : List UInt8} {p : Nat} (hp : p < s.length) {f : UInt8 → Bool} (h : (s.take p).all f = true) (hb : f (s.getD p 0) = true) : (s.take (p + 1)).all f = true := by
  rw [List.take_add_one, List.all_append, h, List.getElem?_eq_getElem hp]
  rw [List.getD_eq_getElem?_getD, List.getElem?_eq_getElem hp] at hb
  simpa using hb
theorem all_false {s : List UInt8} {p : Nat} (hp : p < s.length) {f : UInt8 → Bool} (hb : f (s.getD p 0) = false) : s.all f = false := by
  rw [List.getD_eq_getElem?_getD, List.getElem?_eq_getElem hp] at hb
  rw [List.all_eq_false]
  exact ⟨s[p], List.getElem_mem hp, by simpa using hb⟩

set_option maxRecDepth 20000 in
set_option maxHeartbeats 1000000 in
theorem check_any (s : List UInt8) (w : World) (hs : (s.length : Int) ≤ 9223372036854775807) : Calls Tryz.prog 56 #[.string (S s)] w fun e w' => e = .returned (.int .i64 (chk s)) ∧ Ext w w' := by
  by_cases h1 : (s.length : Int) < 1
  · have H := Lib.hid (show chk s = 180 from if_neg (by omega))
    go_enter Tryz.func56, Tryz.ntmps56
    go_wp2
    go_ret
    exact ⟨by rw [H.out]; rfl, Ext.refl _⟩
  by_cases h2 : (64 : Int) < (s.length : Int)
  · have H := Lib.hid (show chk s = 180 from if_neg (by omega))
    go_enter Tryz.func56, Tryz.ntmps56
    go_wp2
    go_ret
    exact ⟨by rw [H.out]; rfl, Ext.refl _⟩
  have hlen := Lib.hid (show 1 ≤ s.length ∧ s.length ≤ 64 by omega)
  have q := Lib.hid (fun (r : Int) w => letter_any r w)
  go_enter Tryz.func56, Tryz.ntmps56
  go_wp2
  go_loopw [] (fun w' => ∃ pos : Nat, w' = w.iter (S s) pos ∧ (s.take pos).all letterB = true ∧ pos ≤ s.length) (fun w' => s.length - w'.iterPos w.heap.size)
  case atStart => exact ⟨0, rfl, by simp, by omega⟩
  case round =>
    obtain ⟨pos, rfl, hall, hle⟩ := hrel
    by_cases hp : pos < s.length
    · have hpS : pos < (S s).size := by rw [S_size]; exact hp
      by_cases ha : ((S s)[pos]'hpS).toNat < 128
      · have hnx : ∀ ty, (Instr.next (.pointer (some ⟨w.heap.size, 0, none⟩)) true ty).run Tryz.prog (w.iter (S s) pos) = _ := fun ty => run_next_ascii w (S s) pos ty hpS ha
        have hbb : ((S s)[pos]'hpS) = s.getD pos 0 := by rw [S_get, List.getD_eq_getElem?_getD, List.getElem?_eq_getElem hp]; rfl
        rw [hbb] at hnx
        clear ha hbb
        obtain ⟨b, hb⟩ : ∃ b, b = letterB (s.getD pos 0) := ⟨_, rfl⟩
        have HQ := Lib.hid (fun w => show Calls Tryz.prog 90 #[.int .i32 ((s.getD pos 0).toNat : Int)] w fun e w' => e = .returned (.bool b) ∧ w = w' by rw [hb]; exact q.out _ w)
        have HB := Lib.hid hb.symm
        clear hb
        generalize hr : ((s.getD pos 0).toNat : Int) = r at hnx HQ
        clear hr
        cases b
        · have H := Lib.hid (show chk s = 180 from if_neg (fun h => by rw [all_false hp HB.out] at h; simp at h))
          go_wp2_with fail
          refine (HQ.out _).mono ?_
          rintro _ w1 ⟨rfl, rfl⟩
          go_wp2
          go_ret
          exact ⟨by rw [H.out]; rfl, (Ext.refl _).alloc _⟩
        · go_wp2_with fail
          refine (HQ.out _).mono ?_
          rintro _ w1 ⟨rfl, rfl⟩
          go_wp2
          go_roundw
          case rel => exact ⟨pos + 1, rfl, take_all hp hall HB.out, by omega⟩
          case measure => simp; omega
      · have hnx : ∀ ty, (Instr.next (.pointer (some ⟨w.heap.size, 0, none⟩)) true ty).run Tryz.prog (w.iter (S s) pos) = _ := fun ty => run_next_any w (S s) pos ty hpS
        have hbb : ((S s)[pos]'hpS) = s.getD pos 0 := by rw [S_get, List.getD_eq_getElem?_getD, List.getElem?_eq_getElem hp]; rfl
        have hd := (decode_high (S s) pos hpS (by omega)).1
        rw [hbb] at ha
        have hf : letterB (s.getD pos 0) = false := letterI_big (by omega)
        have H := Lib.hid (show chk s = 180 from if_neg (fun h => by rw [all_false hp hf] at h; simp at h))
        generalize hr : (Utf8.decode (S s) pos).1 = r at hnx hd
        generalize (Utf8.decode (S s) pos).2 = k at hnx
        have hf2 : letterI (r : Int) = false := letterI_big (by omega)
        have HQ := Lib.hid (fun w => show Calls Tryz.prog 90 #[.int .i32 (r : Int)] w fun e w' => e = .returned (.bool false) ∧ w = w' by rw [← hf2]; exact q.out _ w)
        clear ha hf hf2 hr
        go_wp2_with fail
        refine (HQ.out _).mono ?_
        rintro _ w1 ⟨rfl, rfl⟩
        go_wp2
        go_ret
        exact ⟨by rw [H.out]; rfl, (Ext.refl _).alloc _⟩
    · have hpS : ¬ pos < (S s).size := by rw [S_size]; exact hp
      have hnx : ∀ ty, (Instr.next (.pointer (some ⟨w.heap.size, 0, none⟩)) true ty).run Tryz.prog (w.iter (S s) pos) = _ := fun ty => run_next_end w (S s) pos ty hpS
      have H := Lib.hid (show chk s = 0 from if_pos ⟨hlen.out.1, hlen.out.2, by rw [List.take_of_length_le (by omega)] at hall; exact hall⟩)
      go_wp2
      go_ret
      exact ⟨by rw [H.out]; rfl, (Ext.refl _).alloc _⟩
end Go.Proofs.YtmjkfgpkohfmiaaGreat
