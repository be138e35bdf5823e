/- suffix: HasPrefix, Search, the closures of Find. -/
import Derived.Test.YteflhfofahdckaaSufN
import Derived.Test.YteflhfofahdckaaSufP
namespace Go.Proofs.Yteflhfofahdckaa
set_option linter.unusedVariables false
set_option linter.unusedSimpArgs false
open Go.RowKit
attribute [local go_sem] S_size S_toList S_append S_extract S_beq S_bne S_empty S_nil

theorem take_false {s p : List UInt8} (h : s.length < p.length) : (s.take p.length == p) = false := by
  rw [beq_eq_false_iff_ne]; intro e
  have := congrArg List.length e
  rw [List.length_take] at this; omega
theorem preB_take (p s : List UInt8) : (s.take p.length == p) = preB p s := by
  rw [Bool.eq_iff_iff, beq_iff_eq, preB_iff, List.prefix_iff_eq_take]
  exact ⟨fun h => h.symm, fun h => h.symm⟩

set_option maxRecDepth 20000 in
set_option maxHeartbeats 400000 in
theorem hasPrefix_any (s p : List UInt8) (w : World) (hs : (s.length : Int) ≤ 9223372036854775807) (hp : (p.length : Int) ≤ 9223372036854775807) :
    Calls Try.prog 51 #[.string (S s), .string (S p)] w fun e w' => e = .returned (.bool (s.take p.length == p)) ∧ w = w' := by
  by_cases h : (p.length : Int) ≤ (s.length : Int)
  · by_cases hb : s.take p.length = p
    · have hb' : (s.take p.length == p) = true := by simpa using hb
      clear hb
      go_enter Try.func51, Try.ntmps51
      go_wp2
      go_ret
      exact ⟨by simp [beq_iff_eq.1 hb'], rfl⟩
    · have hb' : (s.take p.length == p) = false := by simpa using hb
      go_enter Try.func51, Try.ntmps51
      go_wp2
      go_ret
      exact ⟨by simp [hb], rfl⟩
  · have hf := Lib.hid (take_false (s := s) (p := p) (by omega))
    have h' : ¬ (p.length ≤ s.length) := by omega
    go_enter Try.func51, Try.ntmps51
    go_wp2
    go_ret
    exact ⟨by rw [hf.out]; rfl, rfl⟩
set_option maxRecDepth 20000 in
set_option maxHeartbeats 400000 in
theorem strPrefix_any (s p : List UInt8) (w : World) (hs : (s.length : Int) ≤ 9223372036854775807) (hp : (p.length : Int) ≤ 9223372036854775807) :
    Calls Try.prog 48 #[.string (S s), .string (S p)] w fun e w' => e = .returned (.bool (preB p s)) ∧ w = w' := by
  have HC := Lib.hid (hasPrefix_any s p w hs hp)
  go_enter Try.func48, Try.ntmps48
  go_wp2_with (go_at_call 51; refine HC.out.mono ?_; rintro e w' ⟨rfl, rfl⟩)
  go_ret
  exact ⟨by rw [preB_take]; rfl, rfl⟩

/-- a function value that tells whether -/
def PredAt (fv : Value) (P : Nat → Bool) (n : Nat) (w : World) : Prop :=
  ∃ (f : FuncId) (cap : Array Value), fv = .func (.func f) #[] cap ∧ (∀ (xs : Array Value) (W : World), (callFunc f xs).run Try.prog W = .ok (.enter f xs) W) ∧ ∀ W, Ext w W → ∀ i : Nat, i < n → Calls Try.prog f (#[.int .i64 (i : Int)] ++ cap) W fun e W' => e = .returned (.bool (P i)) ∧ Ext W W'

set_option maxRecDepth 20000 in
set_option maxHeartbeats 4000000 in
theorem search_any (P : Nat → Bool) (n : Nat) (fv : Value) (w : World) (hp : PredAt fv P n w) (hn : (n : Int) ≤ 100000) (hm : ∀ i j, i ≤ j → j < n → P i = true → P j = true) :
    Calls Try.prog 45 #[.int .i64 (n : Int), fv] w fun e w' => ∃ r : Nat, e = .returned (.int .i64 (r : Int)) ∧ FirstOf P n r ∧ Ext w w' := by
  obtain ⟨f, cap, rfl, hcf, hq⟩ := hp
  have HQ := Lib.hid hq
  have HM := Lib.hid hm
  clear hq hm
  go_enter Try.func45, Try.ntmps45
  go_wp2
  go_loopw [5, 6] (fun x y wr => ∃ (i j : Nat), x = .int .i64 (i : Int) ∧ y = .int .i64 (j : Int) ∧ i ≤ j ∧ j ≤ n ∧ (∀ k, k < i → P k = false) ∧ (∀ k, j ≤ k → k < n → P k = true) ∧ Ext w wr) (fun x y _ => (intOf y).toNat - (intOf x).toNat)
  case atStart => exact ⟨0, n, rfl, rfl, by omega, by omega, fun k hk => by omega, fun k h1 h2 => by omega, Ext.refl _⟩
  case round =>
    obtain ⟨i, j, rfl, rfl, hij, hjn, hlo, hhi, hx⟩ := hrel
    have HX := Lib.hid hx
    have HLO := Lib.hid hlo
    have HHI := Lib.hid hhi
    clear hx hlo hhi
    by_cases hlt : i < j
    · obtain ⟨q, hqe⟩ : ∃ q, q = (i + j) / 2 := ⟨_, rfl⟩
      have e1 : IntKind.i64.wrap ((i : Int) + (j : Int)) = (i : Int) + (j : Int) := IntWalk.i64_in _ (by omega)
      have hq1 : i ≤ q := by omega
      have hq2 : q < j := by omega
      have hsum : ((i : Int) + (j : Int)) / 2 = (q : Int) := by omega
      have HE := Lib.hid hqe
      clear hqe
      have HQQ := Lib.hid (HQ.out wr HX.out q (by omega))
      cases hP : P q with
      | false =>
        have HST := Lib.hid (show ∀ k, k < q + 1 → P k = false from fun k hk => by
          cases hk2 : P k with
          | false => rfl
          | true => have := HM.out k q (by omega) (by omega) hk2; rw [hP] at this; cases this)
        rw [hP] at HQQ
        go_wp2_with fail
        refine HQQ.out.mono ?_
        rintro e w1 ⟨rfl, x1⟩
        have HX2 := Lib.hid (HX.out.trans x1)
        clear x1
        go_wp2
        go_roundw
        case rel => exact ⟨q + 1, j, by go_num, rfl, by omega, by omega, HST.out, HHI.out, HX2.out⟩
        case measure => simp [intOf]; omega
      | true =>
        have HST := Lib.hid (show ∀ k, q ≤ k → k < n → P k = true from fun k h1 h2 => HM.out q k h1 h2 hP)
        rw [hP] at HQQ
        go_wp2_with fail
        refine HQQ.out.mono ?_
        rintro e w1 ⟨rfl, x1⟩
        have HX2 := Lib.hid (HX.out.trans x1)
        clear x1
        go_wp2
        go_roundw
        case rel => exact ⟨i, q, rfl, rfl, by omega, by omega, HLO.out, HST.out, HX2.out⟩
        case measure => simp [intOf]; omega
    · have e : i = j := by omega
      subst e
      go_wp2
      go_ret
      exact ⟨i, rfl, ⟨hjn, HLO.out, HHI.out⟩, HX.out⟩

set_option maxRecDepth 20000 in
set_option maxHeartbeats 4000000 in
theorem geAt_any (s what : List UInt8) (ar : List Int) (i g1 g2 g3 : Nat) (v : Value) (w : World) (h1 : Blk w g1 9 #[.string (S s)]) (h2 : Blk w g2 33 #[v]) (h3 : Blk w g3 9 #[.string (S what)]) (hr : RI w v ar)
    (hi : i < ar.length) (h0 : 0 ≤ ar.getD i 0 ∧ ar.getD i 0 ≤ (s.length : Int)) (hs : (s.length : Int) ≤ 1000000) (hw : (what.length : Int) ≤ 1000000) :
    Calls Try.prog 46 #[.int .i64 (i : Int), .pointer (some ⟨g1, 0, none⟩), .pointer (some ⟨g2, 0, none⟩), .pointer (some ⟨g3, 0, none⟩)] w fun e w' => e = .returned (.bool (geAt s ar what i)) ∧ Ext w w' := by
  obtain ⟨a, c, rfl, hlc, _, hcell⟩ := hr.shape
  obtain ⟨g, o, rfl, hc⟩ := hcell (by omega)
  have hci := hc i hi
  obtain ⟨p, hp⟩ : ∃ p : Nat, ar.getD i 0 = (p : Int) := ⟨(ar.getD i 0).toNat, by omega⟩
  have hG := Lib.hid (show geAt s ar what i = !Op.bytesLess (s.drop p) what from by unfold geAt endAt placeN; rw [hp, Int.toNat_natCast])
  rw [hp] at hci h0
  have c1 := up_cell (W := w) (h1.cell 0)
  have c2 := up_cell (W := w) (h2.cell 0)
  have c3 := up_cell (W := w) (h3.cell 0)
  have c4 := up_cell (W := w) hci
  have k1 : (i : Int) < (ar.length : Int) := by omega
  have k2 : (p : Int) ≤ (s.length : Int) := h0.2
  have k3 : (ar.length : Int) ≤ (c : Int) := by omega
  clear hcell hc hci hr h1 h2 h3 hp h0
  go_enter Try.func46, Try.ntmps46
  go_wp2_with fail
  refine wp_region_up (by kernel_rfl) (by kernel_rfl) ?_
  repeat (go_big_quiet_step (fail))
  refine wpQuiet_nil ?_
  rintro _ ⟨y2, rfl⟩
  have HXW := Lib.hid y2.ext
  generalize y2.val = w3 at *
  go_wp2
  go_ret
  exact ⟨by rw [hG.out]; rfl, HXW.out⟩
end Go.Proofs.Yteflhfofahdckaa
