/- kmp: what each place comes to, in plain Lean; the two closures. -/
import Derived.Test.YtjbacmhkmofpkaaKhD
namespace Go.Proofs.Ytjbacmhkmofpkaa
set_option linter.unusedVariables false
set_option linter.unusedSimpArgs false
open Go.RowKit

attribute [local go_sem] S_size S_toList S_append S_extract S_beq S_bne S_empty S_nil u8_beq

theorem take_drop_succ (s : List UInt8) (f k : Nat) (hf : f ≤ k) (hk : k < s.length) : (s.take (k + 1)).drop f = (s.take k).drop f ++ [s.getD k 0] := by
  rw [List.take_succ_eq_append_getElem hk, List.drop_append_of_le_length (by rw [List.length_take]; omega), List.getD_eq_getElem?_getD, List.getElem?_eq_getElem hk]; rfl
/-- the state behind one byte more -/
theorem each_step (s what : List UInt8) (f k : Nat) (hf : f ≤ k) (hk : k < s.length) : ov what (what.take (ov what ((s.take k).drop f)) ++ [s.getD k 0]) = ov what ((s.take (k + 1)).drop f) := by
  rw [take_drop_succ s f k hf hk, ov_concat what ((s.take k).drop f)]
theorem at_suffix (s what : List UInt8) (f k p : Nat) (hf : f ≤ p) (hk : k ≤ s.length) (hp : p + what.length = k) : atL s what p = true ↔ what <:+ (s.take k).drop f := by
  unfold atL
  rw [hp, decide_eq_true (by omega), Bool.true_and, beq_iff_eq, List.suffix_iff_eq_drop, List.length_drop, List.length_take, List.drop_drop, Nat.min_eq_left hk, show f + (k - f - what.length) = p by omega]
  exact ⟨Eq.symm, Eq.symm⟩
theorem each_hit (s what : List UInt8) (f k : Nat) (hf : f ≤ k) (hk : k < s.length) (h : ov what ((s.take (k + 1)).drop f) = what.length) :
    what.length ≤ k + 1 ∧ f ≤ k + 1 - what.length ∧ atL s what (k + 1 - what.length) = true := by
  have hs := (ov_full _ _).1 h
  have hl := hs.length_le
  rw [List.length_drop, List.length_take] at hl
  exact ⟨by omega, by omega, (at_suffix s what f (k + 1) _ (by omega) (by omega) (by omega)).2 hs⟩
theorem each_no (s what : List UInt8) (f k : Nat) (hf : f ≤ k) (hk : k < s.length) (h : ov what ((s.take (k + 1)).drop f) ≠ what.length) (hw : what.length ≤ k + 1) (hq : f ≤ k + 1 - what.length) :
    atL s what (k + 1 - what.length) = false := by
  cases ha : atL s what (k + 1 - what.length) with
  | false => rfl
  | true => exact absurd ((ov_full _ _).2 ((at_suffix s what f (k + 1) _ hq (by omega) (by omega)).1 ha)) h
theorem each_miss (s what : List UInt8) (f k : Nat) (hf : f ≤ k) (hk : k < s.length) (h : ov what ((s.take (k + 1)).drop f) ≠ what.length) :
    findL s what (max f (k + 1 - what.length)) = findL s what (max f (k + 2 - what.length)) := by
  by_cases hw : what.length ≤ k + 1
  · by_cases hq : f ≤ k + 1 - what.length
    · rw [Nat.max_eq_right hq, findL_miss (by omega) (each_no s what f k hf hk h hw hq), Nat.max_eq_right (by omega)]
      congr 1; omega
    · congr 1; omega
  · congr 1; omega
theorem atL_late {s what : List UInt8} {p : Nat} (h : s.length < p + what.length) : atL s what p = false := by
  unfold atL; rw [decide_eq_false (by omega), Bool.false_and]
theorem findL_late {s what : List UInt8} {p : Nat} (h : s.length < p + what.length) : findL s what p = none := by
  unfold findL
  rw [List.find?_eq_none]
  intro q hq
  rw [atL_late (by have := List.mem_range'_1.1 hq; omega)]; exact Bool.false_ne_true
theorem placesTo_late (s what : List UInt8) (hw : 0 < what.length) : ∀ (n : Nat), s.length + 1 - what.length ≤ n → placesTo s what n = placesTo s what (s.length + 1 - what.length)
  | n, h => by
    rcases Nat.lt_or_ge (s.length + 1 - what.length) n with hlt | hge
    · obtain ⟨m, rfl⟩ : ∃ m, n = m + 1 := ⟨n - 1, by omega⟩
      rw [placesTo_miss (atL_late (by omega)), placesTo_late s what hw m (by omega)]
    · rw [show n = s.length + 1 - what.length by omega]
theorem places_hit (s what : List UInt8) (k : Nat) (hk : k < s.length) (h : ov what (s.take (k + 1)) = what.length) :
    what.length ≤ k + 1 ∧ placesTo s what (k + 2 - what.length) = placesTo s what (k + 1 - what.length) ++ [((k + 1 - what.length : Nat) : Int)] := by
  have h0 := each_hit s what 0 k (Nat.zero_le _) hk (by rw [List.drop_zero]; exact h)
  refine ⟨h0.1, ?_⟩
  rw [show k + 2 - what.length = (k + 1 - what.length) + 1 by omega, placesTo_hit h0.2.2]
theorem places_miss (s what : List UInt8) (k : Nat) (hk : k < s.length) (h : ov what (s.take (k + 1)) ≠ what.length) :
    placesTo s what (k + 2 - what.length) = placesTo s what (k + 1 - what.length) := by
  by_cases hw : what.length ≤ k + 1
  · rw [show k + 2 - what.length = (k + 1 - what.length) + 1 by omega, placesTo_miss (each_no s what 0 k (Nat.zero_le _) hk (by rw [List.drop_zero]; exact h) hw (Nat.zero_le _))]
  · congr 1; omega
theorem atL_empty (s : List UInt8) (p : Nat) (h : p ≤ s.length) : atL s [] p = true := by
  unfold atL
  rw [List.length_nil, Nat.add_zero, decide_eq_true h, Bool.true_and, beq_iff_eq, List.drop_eq_nil_of_le (by rw [List.length_take]; omega)]

set_option maxRecDepth 20000 in
set_option maxHeartbeats 2000000 in
theorem find1_any (i : Int) (g1 g2 : Nat) (x y : Value) (w : World) (h1 : Blk w g1 3 #[x]) (h2 : Blk w g2 4 #[y]) :
    Calls Try.prog 35 #[.int .i64 i, .pointer (some ⟨g1, 0, none⟩), .pointer (some ⟨g2, 0, none⟩)] w fun e w' => e = .returned (.bool false) ∧ Blk w' g1 3 #[.int .i64 i] ∧ Blk w' g2 4 #[.bool true] ∧ (∀ B, B ≤ g1 → B ≤ g2 → Below B w w') := by
  have hne : g1 ≠ g2 := h1.ne_ h2 (by decide)
  have hne' : g2 ≠ g1 := Ne.symm hne
  have H1 := Lib.hid h1
  have H2 := Lib.hid h2
  have c1 := h1.cell 0
  have c2 := h2.cell 0
  have f1 := h1.frozen 0
  have f2 := h2.frozen 0
  clear h1 h2
  go_enter Try.func35, Try.ntmps35
  go_wp2
  go_ret
  exact ⟨rfl, (H1.out.set_ 0 _).far hne _, (H2.out.far hne' _).set_ 0 _, fun B hb1 hb2 => Below.setCell (Below.setCell (Below.refl _ _) hb1 _) hb2 _⟩

end Go.Proofs.Ytjbacmhkmofpkaa
