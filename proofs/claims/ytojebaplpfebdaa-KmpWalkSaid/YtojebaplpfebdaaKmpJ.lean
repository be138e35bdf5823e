/- KmpFinds: the law. -/
import Derived.Test.YtojebaplpfebdaaKmpI
namespace Go.Proofs.Ytojebaplpfebdaa
set_option linter.unusedVariables false
set_option linter.unusedSimpArgs false
open Go.RowKit
attribute [local go_sem] S_size S_toList S_append S_extract S_beq S_bne S_empty S_nil u8_beq

theorem placesTo_prefix (s what : List UInt8) (i n : Nat) (h : i ≤ n) : ∃ t, placesTo s what n = placesTo s what i ++ t := by
  induction n with
  | zero => obtain rfl : i = 0 := by omega
            exact ⟨[], by simp⟩
  | succ n ih =>
    rcases Nat.lt_or_ge n i with hlt | hge
    · obtain rfl : i = n + 1 := by omega
      exact ⟨[], by simp⟩
    · obtain ⟨t, ht⟩ := ih hge
      cases ha : atL s what n with
      | true => exact ⟨t ++ [(n : Int)], by rw [placesTo_hit ha, ht, List.append_assoc]⟩
      | false => exact ⟨t, by rw [placesTo_miss ha, ht]⟩
theorem places_at {s what : List UInt8} {i : Nat} (hi : i ≤ s.length) (ha : atL s what i = true) : (placesTo s what i).length < (placesL s what).length ∧ (placesL s what).getD (placesTo s what i).length 0 = (i : Int) := by
  obtain ⟨t, ht⟩ := placesTo_prefix s what (i + 1) (s.length + 1) (by omega)
  rw [placesTo_hit ha] at ht
  unfold placesL
  rw [ht]
  constructor
  · simp
  · simp [List.getD_eq_getElem?_getD]
theorem placesTo_tail (s what : List UInt8) (i : Nat) (h : s.length < i + what.length) : ∀ n, i ≤ n → placesTo s what n = placesTo s what i := by
  intro n hn
  induction n with
  | zero => obtain rfl : i = 0 := by omega
            rfl
  | succ n ih =>
    rcases Nat.lt_or_ge n i with hlt | hge
    · obtain rfl : i = n + 1 := by omega
      rfl
    · rw [placesTo_miss (atL_late (by omega)), ih hge]
theorem has_places (s what : List UInt8) : (findL s what 0).isSome = decide (0 < (placesL s what).length) := by
  rw [Bool.eq_iff_iff, decide_eq_true_iff, List.length_pos_iff_exists_mem]
  unfold findL placesL placesTo
  rw [Nat.sub_zero, ← List.range_eq_range', List.find?_isSome]
  simp only [List.mem_map, List.mem_filter]
  constructor
  · rintro ⟨x, hx, hp⟩; exact ⟨_, x, ⟨hx, hp⟩, rfl⟩
  · rintro ⟨_, x, ⟨hx, hp⟩, rfl⟩; exact ⟨x, hx, hp⟩
theorem atL_eq {s what : List UInt8} {i j : Nat} (hj : i + what.length = j) (h : j ≤ s.length) : atL s what i = ((s.take j).drop i == what) := by
  unfold atL; rw [hj, decide_eq_true h, Bool.true_and]

set_option maxRecDepth 20000 in
set_option maxHeartbeats 2000000 in
theorem kmpFinds_out (s what : List UInt8) (w : World) (h : (2000 : Int) < (s.length : Int) ∨ (¬ (2000 : Int) < (s.length : Int) ∧ (2000 : Int) < (what.length : Int))) :
    Calls Try.prog 5 #[.string (S s), .string (S what)] w fun e w' => e = .returned (.bool true) ∧ Ext w w' := by
  rcases h with h1 | ⟨h1, h2⟩
  all_goals
    go_enter Try.func5, Try.ntmps5
    go_wp2_with fail
    refine (awake30 _).mono ?_
    rintro e w' ⟨rfl, hx⟩
    go_wp2
    go_ret
    exact ⟨rfl, hx⟩

set_option maxRecDepth 20000 in
set_option maxHeartbeats 4000000 in
theorem kmpFinds_in (s what : List UInt8) (w : World) (h1 : ¬ (2000 : Int) < (s.length : Int)) (h2 : ¬ (2000 : Int) < (what.length : Int)) :
    Calls Try.prog 5 #[.string (S s), .string (S what)] w fun e w' => e = .returned (.bool true) ∧ Ext w w' := by
  have hs9 : (s.length : Int) ≤ 2000 := by omega
  have hw9 : (what.length : Int) ≤ 2000 := by omega
  have q1 := Lib.hid (fun w => kall_any s what w (by omega) (by omega))
  have q2 := Lib.hid (fun w => khas_any s what w (by omega) (by omega))
  have hpl := Lib.hid (placesTo_length s what (s.length + 1))
  go_enter Try.func5, Try.ntmps5
  go_wp2_with fail
  refine (q1.out _).mono ?_
  rintro e w1 ⟨v, rfl, x1, i1⟩
  obtain ⟨a, c, rfl, _, hsh⟩ := i1.shape
  have HSH := Lib.hid hsh
  have X1 := Lib.hid x1
  clear i1 x1 hsh
  obtain ⟨M, hM⟩ : ∃ M, M = (placesL s what).length := ⟨_, rfl⟩
  rw [← hM]
  have HM := Lib.hid hM
  have hMb : (M : Int) ≤ 2001 := by have := hpl.out; unfold placesL at hM; omega
  clear hM
  go_wp2
  go_loopw [6, 7] (fun k i wr => ∃ I : Nat, i = .int .i64 I ∧ I ≤ s.length + 1 ∧ k = .int .i64 ((placesTo s what I).length : Nat) ∧ Ext w1 wr) (fun _ i _ => s.length + 1 - (intOf i).toNat)
  case atStart => exact ⟨0, rfl, Nat.zero_le _, rfl, Ext.refl _⟩
  case round =>
    obtain ⟨I, rfl, hI, rfl, hx⟩ := hrel
    have HX := Lib.hid hx
    clear hx
    obtain ⟨k, hk⟩ : ∃ k, k = (placesTo s what I).length := ⟨_, rfl⟩
    rw [← hk]
    have hkb : k ≤ I := by rw [hk]; exact placesTo_length _ _ _
    have HK := Lib.hid hk
    clear hk
    by_cases hin : (I : Int) + (what.length : Int) ≤ (s.length : Int)
    · obtain ⟨j, hj⟩ : ∃ j, I + what.length = j := ⟨_, rfl⟩
      have hjs : j ≤ s.length := by omega
      have hIj : I ≤ j := by omega
      have hat := atL_eq (s := s) hj hjs
      have e0 : (I : Int) + (what.length : Int) = (j : Int) := by omega
      have hIs : I ≤ s.length := by omega
      cases ha : atL s what I with
      | false =>
        rw [ha] at hat
        have hb := hat.symm
        have HP := Lib.hid (placesTo_miss ha)
        clear hat ha hj hin
        go_wp2
        go_roundw
        case rel => exact ⟨I + 1, by go_num, by omega, by rw [HP.out, ← HK.out], HX.out⟩
        case measure => simp [intOf]; omega
      | true =>
        rw [ha] at hat
        have hb := hat.symm
        have HP := Lib.hid (placesTo_hit ha)
        obtain ⟨n1, n2⟩ := places_at hIs ha
        rw [← HK.out, ← HM.out] at n1
        rw [← HK.out] at n2
        obtain ⟨g, rfl, _, _, hcl, _⟩ := HSH.out (by have := HM.out; omega)
        have hc := Go.cell_later HX.out (hcl k (by have := HM.out; omega))
        rw [n2] at hc
        have hkM : ¬ (M : Int) ≤ (k : Int) := by omega
        have q3 := kfind_any s what (I : Int) wr (by omega) (by omega) (by omega)
        rw [show (max (I : Int) 0).toNat = I by omega, findL_hit hIs ha] at q3
        simp only [placeV] at q3
        have Q3 := Lib.hid q3
        clear hat ha hj hin hcl n2 q3
        go_wp2_with fail
        refine Q3.out.mono ?_
        rintro e w3 ⟨rfl, x3⟩
        have X3 := Lib.hid (HX.out.trans x3)
        clear x3 hc
        go_wp2
        go_roundw
        case rel => exact ⟨I + 1, by go_num, by omega, by rw [HP.out, List.length_append, ← HK.out]; go_num, X3.out⟩
        case measure => simp [intOf]; omega
    · have hkM : k = M := by
        rw [HK.out, HM.out, placesL, placesTo_tail s what I (by omega) _ hI]
      subst hkM
      have hpos := has_places s what
      rw [← HM.out] at hpos
      have hin2 : ¬ (I : Int) + (what.length : Int) ≤ (s.length : Int) := hin
      cases hh : (findL s what 0).isSome with
      | true =>
        have hk0 : 0 < k := by rw [hh] at hpos; simpa using hpos.symm
        clear hpos
        rw [hh] at q2
        have hx9 := HX.out
        clear hh HX hin
        go_wp2_with fail
        refine (q2.out _).mono ?_
        rintro e w4 ⟨rfl, x4⟩
        go_wp2_with fail
        refine (awake30 _).mono ?_
        rintro e w5 ⟨rfl, x5⟩
        go_wp2
        go_ret
        exact ⟨rfl, X1.out.trans (hx9.trans (x4.trans x5))⟩
      | false =>
        have hk0 : k = 0 := by
          rw [hh] at hpos
          have := of_decide_eq_false hpos.symm
          omega
        clear hpos
        rw [hh] at q2
        have hx9 := HX.out
        clear hh HX hin
        go_wp2_with fail
        refine (q2.out _).mono ?_
        rintro e w4 ⟨rfl, x4⟩
        go_wp2_with fail
        refine (awake30 _).mono ?_
        rintro e w5 ⟨rfl, x5⟩
        go_wp2
        go_ret
        exact ⟨rfl, X1.out.trans (hx9.trans (x4.trans x5))⟩

theorem kmpFinds_law (s : ByteArray) (hs : s.size ≤ maxLen) (what : ByteArray) (hw : what.size ≤ maxLen) (w : World) :
    Calls Try.prog 5 #[.string s, .string what] w fun e w' => e = .returned (.bool true) ∧ Below w.heap.size w w' := by
  obtain ⟨s, rfl, _⟩ := S_ex s
  obtain ⟨what, rfl, _⟩ := S_ex what
  by_cases h1 : (2000 : Int) < (s.length : Int)
  · exact kmpFinds_out s what w (.inl h1)
  by_cases h2 : (2000 : Int) < (what.length : Int)
  · exact kmpFinds_out s what w (.inr ⟨h1, h2⟩)
  exact kmpFinds_in s what w h1 h2
end Go.Proofs.Ytojebaplpfebdaa
