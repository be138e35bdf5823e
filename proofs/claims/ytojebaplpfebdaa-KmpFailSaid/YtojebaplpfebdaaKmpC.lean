/- kmp: Walk; ref: at, Find, Has. -/
import Derived.Test.YtojebaplpfebdaaKmpB
import Derived.Test.YtojebaplpfebdaaMinMax
namespace Go.Proofs.Ytojebaplpfebdaa
set_option linter.unusedVariables false
set_option linter.unusedSimpArgs false
open Go.RowKit
attribute [local go_sem] S_size S_toList S_append S_extract S_beq S_bne S_empty S_nil u8_beq

/-- a state, as Walk takes it -/
def clampL (what : List UInt8) (state : Int) : Nat := (min (max state 0) (what.length : Int)).toNat
def walkL (what : List UInt8) (state : Int) (b : UInt8) : Nat := ov what (what.take (clampL what state) ++ [b])

set_option maxRecDepth 20000 in
set_option maxHeartbeats 2000000 in
theorem kwalk_any (what : List UInt8) (state : Int) (b : UInt8) (w : World) (hw : (what.length : Int) ≤ 1000000000) :
    Calls Try.prog 18 #[.string (S what), .int .i64 state, .int .u8 (U8 b)] w fun e w' => e = .returned (.int .i64 (walkL what state b)) ∧ Ext w w' := by
  obtain ⟨m, hm⟩ : ∃ m, m = max state 0 := ⟨_, rfl⟩
  obtain ⟨k, hk⟩ : ∃ k : Nat, (k : Int) = min m (what.length : Int) := ⟨(min m (what.length : Int)).toNat, by omega⟩
  have hmx := max2_run state 0 m hm
  have hmn := min2_run m (what.length : Int) k hk
  have hW := Lib.hid (show walkL what state b = ov what (what.take k ++ [b]) by unfold walkL clampL; rw [show (min (max state 0) (what.length : Int)).toNat = k by omega])
  have hkl : k ≤ what.length := by omega
  have q := Lib.hid (fail_any what w hw)
  clear hm hk
  go_enter Try.func18, Try.ntmps18
  go_wp2_with fail
  refine q.out.mono ?_
  rintro e w1 ⟨v, rfl, hx, hiw⟩
  obtain ⟨a, c, rfl, _, hs⟩ := hiw.shape
  rw [failsL_length] at hs
  have q2 := Lib.hid (step_any what what.length a c k b w1 hkl hw (fun h0 => by
    obtain ⟨g, hg, _, _, hc, _⟩ := hs (by omega)
    exact ⟨g, hg, fun i hi => by rw [hc i (by omega), failsL_get what i (by omega)]⟩) hkl)
  rw [failsL_length]
  clear hs hiw
  go_wp2_with fail
  refine q2.out.mono ?_
  rintro e w2 ⟨rfl, rfl⟩
  go_wp2
  go_ret
  exact ⟨by rw [hW.out]; rfl, hx⟩

/-- does a text stand at a place? -/
def atL (s what : List UInt8) (i : Nat) : Bool := decide (i + what.length ≤ s.length) && ((s.take (i + what.length)).drop i == what)

set_option maxRecDepth 20000 in
set_option maxHeartbeats 2000000 in
theorem at_any (s what : List UInt8) (i : Nat) (w : World) (hs : (s.length : Int) ≤ 1000000000) (hw : (what.length : Int) ≤ 1000000000) (hi : i ≤ s.length) :
    Calls Try.prog 22 #[.string (S s), .string (S what), .int .i64 i] w fun e w' => e = .returned (.bool (atL s what i)) ∧ w = w' := by
  by_cases h1 : (i : Int) + (what.length : Int) ≤ (s.length : Int)
  · have hA := Lib.hid (show atL s what i = ((s.take (i + what.length)).drop i == what) by unfold atL; rw [decide_eq_true (by omega), Bool.true_and])
    obtain ⟨j, hj⟩ : ∃ j, i + what.length = j := ⟨_, rfl⟩
    have e0 : (i : Int) + (what.length : Int) = (j : Int) := by omega
    have h1n : j ≤ s.length := by omega
    have h2n : i ≤ j := by omega
    rw [hj] at hA
    clear hj h1 hi
    go_enter Try.func22, Try.ntmps22
    go_wp2
    go_ret
    exact ⟨by rw [hA.out]; rfl, rfl⟩
  · have hA := Lib.hid (show atL s what i = false by unfold atL; rw [decide_eq_false (by omega), Bool.false_and])
    go_enter Try.func22, Try.ntmps22
    go_wp2
    go_ret
    exact ⟨by rw [hA.out]; rfl, rfl⟩

/-- the first place from a place on -/
def findL (s what : List UInt8) (i : Nat) : Option Nat := (List.range' i (s.length + 1 - i)).find? (atL s what)
theorem findL_end {s what : List UInt8} {i : Nat} (h : s.length < i) : findL s what i = none := by
  unfold findL; rw [show s.length + 1 - i = 0 by omega]; rfl
theorem findL_hit {s what : List UInt8} {i : Nat} (h : i ≤ s.length) (ha : atL s what i = true) : findL s what i = some i := by
  unfold findL; rw [show s.length + 1 - i = (s.length - i) + 1 by omega, List.range'_succ, List.find?_cons_of_pos ha]
theorem findL_miss {s what : List UInt8} {i : Nat} (h : i ≤ s.length) (ha : atL s what i = false) : findL s what i = findL s what (i + 1) := by
  unfold findL; rw [show s.length + 1 - i = (s.length - i) + 1 by omega, List.range'_succ, List.find?_cons_of_neg (by rw [ha]; exact Bool.false_ne_true), show s.length + 1 - (i + 1) = s.length - i by omega]
def placeV : Option Nat → Value
  | some p => .tuple #[.int .i64 p, .bool true]
  | none => .tuple #[.int .i64 0, .bool false]

set_option maxRecDepth 20000 in
set_option maxHeartbeats 2000000 in
theorem rfind_any (s what : List UInt8) (n : Int) (w : World) (hs : (s.length : Int) ≤ 1000000000) (hw : (what.length : Int) ≤ 1000000000) :
    Calls Try.prog 10 #[.string (S s), .string (S what), .int .i64 n] w fun e w' => e = .returned (placeV (findL s what (max n 0).toNat)) ∧ w = w' := by
  have main : ∀ (f : Nat), (max n 0).toNat = f → Calls Try.prog 10 #[.string (S s), .string (S what), .int .i64 n] w fun e w' => e = .returned (placeV (findL s what f)) ∧ w = w' := by
    intro f hf
    by_cases hn : n < 0
    · obtain rfl : f = 0 := by omega
      clear hf
      go_enter Try.func10, Try.ntmps10
      go_wp2
      go_loop [8] (fun i => ∃ k : Nat, i = .int .i64 k ∧ (k ≤ s.length + 1 ∨ k = 0) ∧ findL s what k = findL s what 0) (fun i => s.length + 1 - (intOf i).toNat)
      case atStart => exact ⟨0, by first | rfl | (congr 1; omega), .inr rfl, rfl⟩
      case round =>
        obtain ⟨k, rfl, hkl, hp⟩ := hrel
        by_cases hk : k ≤ s.length
        · have q := Lib.hid (at_any s what k w hs hw hk)
          cases ha : atL s what k with
          | true =>
            have hr := Lib.hid (hp.symm.trans (findL_hit hk ha))
            rw [ha] at q
            clear hp ha hkl
            have hk2 : (k : Int) ≤ (s.length : Int) := by omega
            go_wp2_with fail
            refine q.out.mono ?_
            rintro e w' ⟨rfl, rfl⟩
            go_wp2
            go_ret2
            exact ⟨by rw [hr.out]; rfl, rfl⟩
          | false =>
            have hr := Lib.hid ((findL_miss hk ha).symm.trans hp)
            rw [ha] at q
            clear hp ha hkl
            have hk2 : (k : Int) ≤ (s.length : Int) := by omega
            go_wp2_with fail
            refine q.out.mono ?_
            rintro e w' ⟨rfl, rfl⟩
            go_wp2
            go_round
            case rel => exact ⟨k + 1, by go_num, .inl (by omega), hr.out⟩
            case measure => simp [intOf]; omega
        · have hr := Lib.hid (hp.symm.trans (findL_end (by omega)))
          have hk2 : ¬ (k : Int) ≤ (s.length : Int) := by omega
          clear hp
          go_wp2
          go_ret2
          exact ⟨by rw [hr.out]; rfl, rfl⟩
    · obtain rfl : n = (f : Int) := by omega
      clear hf hn
      go_enter Try.func10, Try.ntmps10
      go_wp2
      go_loop [8] (fun i => ∃ k : Nat, i = .int .i64 k ∧ (k ≤ s.length + 1 ∨ k = f) ∧ findL s what k = findL s what f) (fun i => s.length + 1 - (intOf i).toNat)
      case atStart => exact ⟨f, by first | rfl | (congr 1; omega), .inr rfl, rfl⟩
      case round =>
        obtain ⟨k, rfl, hkl, hp⟩ := hrel
        by_cases hk : k ≤ s.length
        · have q := Lib.hid (at_any s what k w hs hw hk)
          cases ha : atL s what k with
          | true =>
            have hr := Lib.hid (hp.symm.trans (findL_hit hk ha))
            rw [ha] at q
            clear hp ha hkl
            have hk2 : (k : Int) ≤ (s.length : Int) := by omega
            go_wp2_with fail
            refine q.out.mono ?_
            rintro e w' ⟨rfl, rfl⟩
            go_wp2
            go_ret2
            exact ⟨by rw [hr.out]; rfl, rfl⟩
          | false =>
            have hr := Lib.hid ((findL_miss hk ha).symm.trans hp)
            rw [ha] at q
            clear hp ha hkl
            have hk2 : (k : Int) ≤ (s.length : Int) := by omega
            go_wp2_with fail
            refine q.out.mono ?_
            rintro e w' ⟨rfl, rfl⟩
            go_wp2
            go_round
            case rel => exact ⟨k + 1, by go_num, .inl (by omega), hr.out⟩
            case measure => simp [intOf]; omega
        · have hr := Lib.hid (hp.symm.trans (findL_end (by omega)))
          have hk2 : ¬ (k : Int) ≤ (s.length : Int) := by omega
          clear hp
          go_wp2
          go_ret2
          exact ⟨by rw [hr.out]; rfl, rfl⟩
  exact main _ rfl
end Go.Proofs.Ytojebaplpfebdaa
