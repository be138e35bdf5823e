/- fm: front. -/
import Derived.Test.YtlhjbfckcfeikaaFmK
import Derived.Shelf.Lay
import Derived.Shelf.Slices.SearchI
import Derived.Ground.Names2Prog
namespace Go.Proofs.Ytlhjbfckcfeikaa
set_option linter.unusedVariables false
set_option linter.unusedSimpArgs false
open Go.Shelf Go.RowKit Go.Lib Go.Sort

shelf_lay Lays2.n25 Nm2 25 at Try as laysSearch

theorem countP_down {P : Nat → Bool} (hP : ∀ i j, i ≤ j → P j = true → P i = true) : ∀ n, (List.range n).countP P ≤ n ∧ ∀ i, i < n → (P i = true ↔ i < (List.range n).countP P)
  | 0 => ⟨Nat.le_refl _, fun i hi => by omega⟩
  | n + 1 => by
    obtain ⟨h1, h2⟩ := countP_down hP n
    rw [List.range_succ, List.countP_append, List.countP_singleton]
    by_cases hn : P n = true
    · rw [if_pos hn]
      have hall : ∀ i, i < n → P i = true := fun i hi => hP i n (by omega) hn
      have he : (List.range n).countP P = n := by
        rcases Nat.lt_or_ge ((List.range n).countP P) n with h | h
        · have := (h2 _ h).1 (hall _ h); omega
        · omega
      rw [he]
      exact ⟨by omega, fun i hi => ⟨fun _ => hi, fun _ => hP i n (by omega) hn⟩⟩
    · rw [if_neg hn]
      refine ⟨by omega, fun i hi => ?_⟩
      by_cases e : i = n
      · subst e
        exact ⟨fun h => absurd h hn, fun h => by omega⟩
      · exact h2 i (by omega)
/-- the beginnings -/
def stZ (l : List UInt8) : List Int := (List.range 257).map fun b => (stN l b : Int)
theorem stZ_get (l : List UInt8) {b : Nat} (h : b < 257) : (stZ l).getD b 0 = (stN l b : Int) := by
  simp [stZ, List.getD_eq_getElem?_getD, h]
theorem stZ_up (l : List UInt8) : (stZ l).Pairwise (· ≤ ·) := by
  unfold stZ
  rw [List.pairwise_map]
  exact List.pairwise_lt_range.imp fun h => by have := st_mono (l := l) (Nat.le_of_lt h); omega
/-- where the search among the beginnings ends -/
theorem find_st (l : List UInt8) {row c : Nat} (hc : c < 256) (h1 : stN l c ≤ row) (h2 : row < stN l (c + 1)) :
    ((stZ l).contains (row : Int) = true ∧ ∃ f : Nat, (stZ l).countP (fun x => decide (x < (row : Int))) = f ∧ f ≤ c ∧ stN l f = stN l c) ∨
    ((stZ l).contains (row : Int) = false ∧ (stZ l).countP (fun x => decide (x < (row : Int))) = c + 1) := by
  have hcp : (stZ l).countP (fun x => decide (x < (row : Int))) = (List.range 257).countP fun b => decide ((stN l b : Int) < (row : Int)) := by
    unfold stZ; rw [List.countP_map]; rfl
  obtain ⟨k1, k2⟩ := countP_down (P := fun b => decide ((stN l b : Int) < (row : Int))) (fun i j hij h => by
    have := st_mono (l := l) hij
    simp only [decide_eq_true_eq] at h ⊢
    omega) 257
  rw [hcp]
  generalize (List.range 257).countP (fun b => decide ((stN l b : Int) < (row : Int))) = f at *
  have kc := k2 c (by omega)
  have kc1 := k2 (c + 1) (by omega)
  simp only [decide_eq_true_eq] at kc kc1
  have hin : (stZ l).contains (row : Int) = true ↔ stN l c = row := by
    rw [List.contains_iff_mem]
    constructor
    · intro h
      unfold stZ at h
      obtain ⟨b, hb, e⟩ := List.mem_map.1 h
      have hb := List.mem_range.1 hb
      have e : stN l b = row := by omega
      rcases Nat.lt_or_ge c b with h3 | h3
      · have := st_mono (l := l) (show c + 1 ≤ b by omega); omega
      · have := st_mono (l := l) h3; omega
    · intro e
      unfold stZ
      exact List.mem_map.2 ⟨c, List.mem_range.2 (by omega), by rw [e]⟩
  by_cases hs : stN l c = row
  · refine .inl ⟨hin.2 hs, f, rfl, by omega, ?_⟩
    have kf := k2 f (by omega)
    simp only [decide_eq_true_eq] at kf
    have := st_mono (l := l) (show f ≤ c by omega)
    omega
  · refine .inr ⟨?_, by omega⟩
    cases h : (stZ l).contains (row : Int) with
    | false => rfl
    | true => exact absurd (hin.1 h) hs

attribute [local go_sem] S_size S_toList S_extract S_beq S_bne S_empty S_nil u8_beq U8_fold U8_toNat
set_option maxRecDepth 20000 in
set_option maxHeartbeats 8000000 in
theorem front_any (l : List UInt8) (q : Nat) (v : Value) (p : Nat) (w : World) (hl : (l.length : Int) ≤ 20000) (ho : okI l q = true) (hq : q < l.length + 1) (hp : p < l.length) (h : IX w v l q) :
    Calls Try.prog 34 #[v, .int .i64 (rowN l q p : Int)] w fun e w' => e = .returned (.int .u8 (U8 ((txtN l q).getD p 0))) ∧ Ext w w' := by
  obtain ⟨h1, h2⟩ := front_at ho hq hp
  have hr := row_lt (l := l) (q := q) p
  obtain ⟨g, kv, pv, rfl, hb, _, _⟩ := h
  have hc8 : ((txtN l q).getD p 0).toNat < 256 := ((txtN l q).getD p 0).toNat_lt
  have hU : U8 ((txtN l q).getD p 0) = (((txtN l q).getD p 0).toNat : Int) := rfl
  rw [hU]
  generalize rowN l q p = row at *
  generalize ((txtN l q).getD p 0).toNat = c at *
  have hwc : IntKind.u8.wrap (c : Int) = (c : Int) := by rw [IntKind.wrap_u8]; omega
  have hcell : ∀ b, b < 257 → w.cell? ⟨g, 2 + b, none⟩ = some (.int .i64 (stN l b : Int)) := fun b hb' => by rw [hb.cell]; exact idx_st hb'
  have q1 := Any.slices_BinarySearch_int laysSearch g 2 257 257 (stZ l) (row : Int) w (by simp [stZ]) (by omega) (fun j hj => by
    have hj : j < 257 := by simpa [stZ] using hj
    rw [stZ_get l hj]; exact hcell j hj) (by rw [List.take_of_length_le (by simp [stZ])]; exact stZ_up l)
  change Calls Try.prog 55 _ _ _ at q1
  rw [List.take_of_length_le (by simp [stZ])] at q1
  have HC := Lib.hid hcell
  have H1 := Lib.hid h1
  have H2 := Lib.hid h2
  have hloop : ∃ (b0 : Nat) (r : Int) (found : Bool), r = (if found then (b0 : Int) else (b0 : Int) + 1) ∧ b0 ≤ c ∧ stN l b0 = stN l c ∧ Calls Try.prog 55 #[.slice (some ⟨g, 2, none⟩) 257 257, .int .i64 (row : Int)] w fun e w' => e = .returned (.tuple #[.int .i64 r, .bool found]) ∧ Ext w w' := by
    rcases find_st l hc8 h1 h2 with ⟨e1, f, e2, hf, hs⟩ | ⟨e1, e2⟩
    · rw [e1, e2] at q1
      refine ⟨f, (f : Int), true, by simp, hf, hs, q1.mono ?_⟩
      rintro _ w' ⟨rfl, k, rfl⟩
      exact ⟨rfl, (Ext.refl w).drewN k⟩
    · rw [e1, e2] at q1
      refine ⟨c, (c : Int) + 1, false, by simp, Nat.le_refl _, rfl, q1.mono ?_⟩
      rintro _ w' ⟨rfl, k, rfl⟩
      exact ⟨rfl, (Ext.refl w).drewN k⟩
  obtain ⟨b0, r, found, hrr, hb0, hs0, q1⟩ := hloop
  have Q1 := Lib.hid q1
  have HC8 := Lib.hid hc8
  have HS0 := Lib.hid hs0
  have HB0 := Lib.hid hb0
  clear hcell h1 h2 hb hU q1 hs0
  cases found
  all_goals
    have hrb : r = (b0 : Int) + 1 ∨ r = (b0 : Int) := by first | exact .inl hrr | exact .inr hrr
    simp only [if_true, if_false, Bool.false_eq_true] at hrr
    subst hrr
    clear hrb
    go_enter Try.func34, Try.ntmps34
    go_wp2_with fail
    refine Q1.out.mono ?_
    rintro _ w1 ⟨rfl, x1⟩
    have X1 := Lib.hid x1
    clear x1
    go_wp2
    go_loopw [5] (fun i wr => ∃ b : Nat, b ≤ c ∧ i = .int .i64 (b : Int) ∧ stN l b = stN l c ∧ Ext w wr) (fun i _ => c - (intOf i).toNat)
    case atStart => exact ⟨b0, HB0.out, by first | rfl | go_num, HS0.out, X1.out⟩
    case round =>
      obtain ⟨b, hb, rfl, hs, hx⟩ := hrel
      have HX := Lib.hid hx
      have t0 := Go.cell_later hx (HC.out b (by have := HC8.out; omega))
      have t1 := Go.cell_later hx (HC.out (b + 1) (by have := HC8.out; omega))
      have hbi : (b : Int) + 1 < 257 := by have := HC8.out; omega
      have hbw : IntKind.i64.wrap ((b : Int) + 1) = (b : Int) + 1 := by rw [IntKind.wrap_i64]; omega
      by_cases hlt : b < c
      · have hs1 : stN l (b + 1) = stN l b := by
          have k1 := st_mono (l := l) (show b ≤ b + 1 by omega)
          have k2 := st_mono (l := l) (show b + 1 ≤ c by omega)
          omega
        rw [hs1] at t1
        have HS1 := Lib.hid (show stN l (b + 1) = stN l c by rw [hs1, hs])
        have HLT := Lib.hid hlt
        have hbe : ((stN l b : Int) == (stN l b : Int)) = true := by simp
        clear hs1 hs hlt hb hx
        generalize stN l b = s at *
        have u0 := up_cell (W := wr) t0
        have u1 := up_cell (W := wr) t1
        go_wp2
        refine wp_region_up (by kernel_rfl) (by kernel_rfl) ?_
        repeat (go_big_quiet_step (fail))
        refine wpQuiet_nil ?_
        rintro _ ⟨z, rfl⟩
        have XZ := Lib.hid (HX.out.trans z.ext)
        go_wp2
        go_roundw
        case rel => exact ⟨b + 1, by have := HLT.out; omega, by go_num, HS1.out, XZ.out⟩
        case measure => simp [intOf]; have := HLT.out; omega
      · obtain rfl : b = c := by omega
        have hne : ¬ stN l (b + 1) = stN l b := by have := H1.out; have := H2.out; omega
        have hbe : ((stN l (b + 1) : Int) == (stN l b : Int)) = false := by rw [beq_eq_false_iff_ne]; omega
        clear hs hlt hb hx hne
        generalize stN l (b + 1) = s1 at *
        generalize stN l b = s at *
        have u0 := up_cell (W := wr) t0
        have u1 := up_cell (W := wr) t1
        go_wp2
        refine wp_region_up (by kernel_rfl) (by kernel_rfl) ?_
        repeat (go_big_quiet_step (fail))
        refine wpQuiet_nil ?_
        rintro _ ⟨z, rfl⟩
        have XZ := Lib.hid (HX.out.trans z.ext)
        go_wp2
        go_ret
        exact ⟨rfl, XZ.out⟩
end Go.Proofs.Ytlhjbfckcfeikaa
