/- KmpWalk: the law. -/
import Derived.Test.YtojebaplpfebdaaKmpJ
namespace Go.Proofs.Ytojebaplpfebdaa
set_option linter.unusedVariables false
set_option linter.unusedSimpArgs false
open Go.RowKit
attribute [local go_sem] S_size S_toList S_append S_extract S_beq S_bne S_empty S_nil u8_beq

theorem placesTo_split (s what : List UInt8) (i n : Nat) (h : i ≤ n) : placesTo s what n = placesTo s what i ++ ((List.range' i (n - i)).filter (atL s what)).map fun (p : Nat) => (p : Int) := by
  unfold placesTo
  rw [← List.map_append, ← List.filter_append]
  congr 2
  rw [List.range_eq_range', List.range_eq_range', show List.range' i (n - i) = List.range' (0 + 1 * i) (n - i) by rw [Nat.zero_add, Nat.one_mul], List.range'_append, show i + (n - i) = n by omega]
theorem places_next (s what : List UInt8) (i : Nat) (h : i ≤ s.length + 1) (hk : (placesTo s what i).length < (placesL s what).length) : ∃ q : Nat, (placesL s what).getD (placesTo s what i).length 0 = (q : Int) ∧ i ≤ q ∧ atL s what q = true := by
  unfold placesL at *
  rw [placesTo_split s what i _ h] at hk ⊢
  generalize hl : (List.range' i (s.length + 1 - i)).filter (atL s what) = t at *
  cases t with
  | nil => simp at hk
  | cons q t =>
    have hm : q ∈ (List.range' i (s.length + 1 - i)).filter (atL s what) := by rw [hl]; simp
    rw [List.mem_filter, List.mem_range'_1] at hm
    exact ⟨q, by simp [List.getD_eq_getElem?_getD], hm.1.1, hm.2⟩

set_option maxRecDepth 20000 in
set_option maxHeartbeats 2000000 in
theorem kmpWalk_out (s what : List UInt8) (w : World) (h : (300 : Int) < (s.length : Int) ∨ (¬ (300 : Int) < (s.length : Int) ∧ (100 : Int) < (what.length : Int)) ∨ (¬ (300 : Int) < (s.length : Int) ∧ ¬ (100 : Int) < (what.length : Int) ∧ (what == []) = true)) :
    Calls Try.prog 7 #[.string (S s), .string (S what)] w fun e w' => e = .returned (.bool true) ∧ Ext w w' := by
  rcases h with h1 | ⟨h1, h2⟩ | ⟨h1, h2, h3⟩
  all_goals
    go_enter Try.func7, Try.ntmps7
    go_wp2_with fail
    refine (awake30 _).mono ?_
    rintro e w' ⟨rfl, hx⟩
    go_wp2
    go_ret
    exact ⟨rfl, hx⟩

set_option maxRecDepth 20000 in
set_option maxHeartbeats 4000000 in
theorem kmpWalk_in (s what : List UInt8) (w : World) (h1 : ¬ (300 : Int) < (s.length : Int)) (h2 : ¬ (100 : Int) < (what.length : Int)) (h3 : (what == []) = false) :
    Calls Try.prog 7 #[.string (S s), .string (S what)] w fun e w' => e = .returned (.bool true) ∧ Ext w w' := by
  have hs9 : (s.length : Int) ≤ 300 := by omega
  have hw9 : (what.length : Int) ≤ 100 := by omega
  have hw0 : 0 < what.length := List.length_pos_iff.2 (by rintro rfl; simp at h3)
  have q1 := Lib.hid (fun w => kall_any s what w (by omega) (by omega))
  have qw := Lib.hid (fun (st : Nat) (hst : st ≤ what.length) (b : UInt8) w => show Calls Try.prog 18 #[.string (S what), .int .i64 st, .int .u8 (U8 b)] w fun e w' => e = .returned (.int .i64 (ov what (what.take st ++ [b]))) ∧ Ext w w' by
    have := kwalk_any what (st : Int) b w (by omega)
    unfold walkL at this
    rw [show clampL what (st : Int) = st by unfold clampL; omega] at this
    exact this)
  have hpl := Lib.hid (placesTo_length s what (s.length + 1))
  go_enter Try.func7, Try.ntmps7
  go_wp2_with fail
  refine (q1.out _).mono ?_
  rintro e w1 ⟨v, rfl, x1, i1⟩
  obtain ⟨a, c, rfl, _, hsh⟩ := i1.shape
  have HSH := Lib.hid hsh
  have X1 := Lib.hid x1
  clear i1 x1 hsh
  obtain ⟨M, hM⟩ : ∃ M, M = (placesL s what).length := ⟨_, rfl⟩
  rw [← hM]
  have HM := Lib.hid hM
  have hMb : (M : Int) ≤ 301 := by have := hpl.out; unfold placesL at hM; omega
  clear hM
  go_wp2
  go_loopw [6, 7, 8] (fun k st i wr => ∃ I : Nat, i = .int .i64 I ∧ I ≤ s.length ∧ k = .int .i64 ((placesTo s what (I + 1 - what.length)).length : Nat) ∧ st = .int .i64 (ov what (s.take I)) ∧ Ext w1 wr) (fun _ _ i _ => s.length - (intOf i).toNat)
  case atStart => exact ⟨0, rfl, Nat.zero_le _, by rw [show 0 + 1 - what.length = 0 by omega]; rfl, rfl, Ext.refl _⟩
  case round =>
    obtain ⟨I, rfl, hI, rfl, rfl, hx⟩ := hrel
    have HX := Lib.hid hx
    clear hx
    obtain ⟨k, hk⟩ : ∃ k, k = (placesTo s what (I + 1 - what.length)).length := ⟨_, rfl⟩
    rw [← hk]
    have hkb : k ≤ I + 1 := by rw [hk]; exact Nat.le_trans (placesTo_length _ _ _) (by omega)
    have HK := Lib.hid hk
    clear hk
    by_cases hlt : I < s.length
    · have hidx := index_S s I hlt _ rfl
      have hst := ov_le what (s.take I)
      have hnext := each_step s what 0 I (Nat.zero_le _) hlt
      rw [List.drop_zero, List.drop_zero] at hnext
      have q3 := qw.out _ hst (s.getD I 0) wr
      rw [hnext] at q3
      have hnl := ov_le what (s.take (I + 1))
      have HH := Lib.hid (places_hit s what I hlt)
      have HMs := Lib.hid (places_miss s what I hlt)
      have HN := Lib.hid (fun hne hw => each_no s what 0 I (Nat.zero_le _) hlt (by rw [List.drop_zero]; exact hne) hw (Nat.zero_le _))
      have HE := Lib.hid (fun he => (each_hit s what 0 I (Nat.zero_le _) hlt (by rw [List.drop_zero]; exact he)).2.2)
      have Q3 := Lib.hid q3
      clear q3 hnext
      generalize hst' : ov what (s.take I) = st at *
      generalize hst2 : ov what (s.take (I + 1)) = st2 at *
      generalize s.getD I 0 = b at *
      have HS2 := Lib.hid hst2
      clear hst' hst2
      have hneg : ¬ (st2 : Int) < 0 := by omega
      have hnl2 : ¬ (what.length : Int) < (st2 : Int) := by omega
      by_cases hfull : st2 = what.length
      · obtain ⟨u1, u2⟩ := HH.out hfull
        have ha := HE.out hfull
        obtain ⟨n1, n2⟩ := places_at (s := s) (what := what) (i := I + 1 - what.length) (by omega) ha
        rw [← HK.out, ← HM.out] at n1
        rw [← HK.out] at n2
        obtain ⟨g, rfl, _, _, hcl, _⟩ := HSH.out (by have := HM.out; omega)
        have hc := Go.cell_later HX.out (hcl k (by have := HM.out; omega))
        rw [n2] at hc
        obtain ⟨p, hp⟩ : ∃ p, p = I + 1 - what.length := ⟨_, rfl⟩
        rw [← hp] at hc
        have hp2 : (p : Int) + (what.length : Int) = (I : Int) + 1 := by omega
        have HU := Lib.hid u2
        subst hfull
        clear u1 u2 ha n2 hcl hp HH HMs HN HE hst hnl
        go_wp2_with fail
        refine Q3.out.mono ?_
        rintro e w3 ⟨rfl, x3⟩
        have hc3 := Go.cell_later x3 hc
        have X3 := Lib.hid (HX.out.trans x3)
        clear x3 hc
        go_wp2
        go_roundw
        case rel => exact ⟨I + 1, by go_num, by omega, by rw [show I + 1 + 1 - what.length = I + 2 - what.length from rfl, HU.out, List.length_append, ← HK.out]; go_num, by rw [HS2.out], X3.out⟩
        case measure => simp [intOf]; omega
      · have hm := Lib.hid (HMs.out hfull)
        have hfi : ¬ (st2 : Int) = (what.length : Int) := by omega
        by_cases hkM : k < M
        · obtain ⟨q, n2, n3, n4⟩ := places_next s what (I + 1 - what.length) (by omega) (by rw [← HK.out, ← HM.out]; exact hkM)
          have hq : ¬ (q : Int) + (what.length : Int) = (I : Int) + 1 := by
            intro e
            have e2 : q = I + 1 - what.length := by omega
            rw [e2, HN.out hfull (by omega)] at n4
            cases n4
          have hq2 : ((q : Int) + (what.length : Int) == (I : Int) + 1) = false := by simpa using hq
          have hq3 : ¬ q + what.length = I + 1 := by omega
          have hq4 : (q + what.length == I + 1) = false := by simpa using hq3
          have hqb : (q : Int) ≤ 300 := by
            unfold atL at n4
            have := of_decide_eq_true (Bool.and_eq_true _ _ ▸ n4).1
            omega
          rw [← HK.out] at n2
          obtain ⟨g, rfl, _, _, hcl, _⟩ := HSH.out (by have := HM.out; omega)
          have hc := Go.cell_later HX.out (hcl k (by have := HM.out; omega))
          rw [n2] at hc
          clear n2 n3 n4 hcl HH HMs HN HE hst hnl hfull
          go_wp2_with fail
          refine Q3.out.mono ?_
          rintro e w3 ⟨rfl, x3⟩
          have hc3 := Go.cell_later x3 hc
          clear hc
          have X3 := Lib.hid (HX.out.trans x3)
          clear x3
          go_wp2
          go_roundw
          case rel => exact ⟨I + 1, by go_num, by omega, by rw [show I + 1 + 1 - what.length = I + 2 - what.length from rfl, hm.out, ← HK.out], by rw [HS2.out], X3.out⟩
          case measure => simp [intOf]; omega
        · have hkM2 : ¬ (k : Int) < (M : Int) := by omega
          clear HH HMs HN HE hst hnl hfull
          go_wp2_with fail
          refine Q3.out.mono ?_
          rintro e w3 ⟨rfl, x3⟩
          have X3 := Lib.hid (HX.out.trans x3)
          clear x3
          go_wp2
          go_roundw
          case rel => exact ⟨I + 1, by go_num, by omega, by rw [show I + 1 + 1 - what.length = I + 2 - what.length from rfl, hm.out, ← HK.out], by rw [HS2.out], X3.out⟩
          case measure => simp [intOf]; omega
    · obtain rfl : I = s.length := by omega
      have hkM : k = M := by
        rw [HK.out, HM.out, placesL, placesTo_late s what hw0 (s.length + 1) (by omega)]
      subst hkM
      have hx9 := HX.out
      clear HX hI
      go_wp2_with fail
      refine (awake30 _).mono ?_
      rintro e w5 ⟨rfl, x5⟩
      go_wp2
      go_ret
      exact ⟨rfl, X1.out.trans (hx9.trans x5)⟩

theorem kmpWalk_law (s : ByteArray) (hs : s.size ≤ maxLen) (what : ByteArray) (hw : what.size ≤ maxLen) (w : World) :
    Calls Try.prog 7 #[.string s, .string what] w fun e w' => e = .returned (.bool true) ∧ Below w.heap.size w w' := by
  obtain ⟨s, rfl, _⟩ := S_ex s
  obtain ⟨what, rfl, _⟩ := S_ex what
  by_cases h1 : (300 : Int) < (s.length : Int)
  · exact kmpWalk_out s what w (.inl h1)
  by_cases h2 : (100 : Int) < (what.length : Int)
  · exact kmpWalk_out s what w (.inr (.inl ⟨h1, h2⟩))
  cases h3 : (what == []) with
  | true => exact kmpWalk_out s what w (.inr (.inr ⟨h1, h2, h3⟩))
  | false => exact kmpWalk_in s what w h1 h2 h3
end Go.Proofs.Ytojebaplpfebdaa
