/- The walk of SuffixFind. -/
import Derived.Test.YteflhfofahdckaaSufX
import Derived.Test.YteflhfofahdckaaSufFp
namespace Go.Proofs.Yteflhfofahdckaa
set_option linter.unusedVariables false
set_option linter.unusedSimpArgs false
open Go.RowKit
attribute [local go_sem] S_size S_toList S_extract S_beq S_bne S_empty S_nil u8_beq

set_option maxRecDepth 20000 in
set_option maxHeartbeats 8000000 in
theorem suffixFind_in (s t : List UInt8) (W : World) (h1 : ¬ (2000 : Int) < (s.length : Int)) (h2 : ¬ (2000 : Int) < (t.length : Int)) :
    Calls Try.prog 12 #[.string (S s), .string (S t)] W fun e w' => e = .returned (.bool true) ∧ Ext W w' := by
  have RS := Lib.hid rng_size
  have hal : (toI (arrayL s)).length = s.length + 1 := by rw [toI_length, (arrayL_is s).length]
  have q1 := Lib.hid (fun w => array_any s w (by omega))
  have q2 := Lib.hid (fun v w (h : RI w v (toI (arrayL s))) => find_any s t _ v w h (by omega) (by omega) (by omega))
  have HLT := Lib.hid (fun i (h : i < s.length + 1) => (arrayL_is s).lt h)
  obtain ⟨lo, d, hld, hocc, hcnt, hfe, hfr⟩ := fnd_spec s t
  rw [hfe] at q2
  have HOCC := Lib.hid hocc
  have HCNT := Lib.hid hcnt
  have HFR := Lib.hid hfr
  have HSTOP := Lib.hid (fun (k : Nat) (h : k ≤ s.length + 1) (h3 : s.length < k + t.length) => (countB_stop (Q := occB s t) (s.length + 1) h (fun i h4 h5 => occ_long (by omega) (by omega))))
  have HLEN := Lib.hid (fun p (h : occB s t p = true) (hp : p ≤ s.length) => occ_len h hp)
  have HAT := Lib.hid (fun p => occ_at (s := s) (what := t) (p := p))
  clear hal hocc hcnt hfe hfr
  generalize hr : fndR s (toI (arrayL s)) t = r at *
  generalize hA : arrayL s = A at *
  generalize hQ : occB s t = Q at *
  clear hA hQ hr
  go_enter Try.func12, Try.ntmps12
  go_wp2_with fail
  refine (q1.out _).mono ?_
  rintro _ w1 ⟨g, rfl, x1, r1⟩
  have X1 := Lib.hid x1
  have R1 := Lib.hid r1
  clear x1 r1 q1
  go_wp2_with fail
  refine (q2.out _ _ R1.out.ri).mono ?_
  rintro _ w2 ⟨rfl, x2⟩
  have x2 := x2.alloc (.cells #[.int .i64 r.1, .int .i64 r.2] 53)
  have X2 := Lib.hid (X1.out.trans x2)
  have R1 := Lib.hid (R1.out.ext x2)
  have B7 := Lib.hid (Blk.new w2 53 #[.int .i64 r.1, .int .i64 r.2])
  clear x2 X1 q2
  go_wp2_with (refine wpList_store_new (cs' := #[.int .i64 r.1, .int .i64 r.2]) rfl 53 (.tmp 7) (.tmp 32) rfl rfl rfl RS.out (by kernel_rfl) ?_)
  go_loopw [9, 10] (fun n p wr => ∃ k : Nat, k ≤ s.length + 1 ∧ n = .int .i64 (countB Q k : Int) ∧ p = .int .i64 (k : Int) ∧ Ext (w2.alloc (.cells #[.int .i64 r.1, .int .i64 r.2] 53)) wr) (fun _ p _ => s.length + 1 - (intOf p).toNat)
  case atStart => exact ⟨0, by omega, rfl, rfl, Ext.refl _⟩
  case round =>
    obtain ⟨k, hk, rfl, rfl, hx⟩ := hrel
    have HX := Lib.hid hx
    have hcl := countB_le Q k
    clear hx
    have e1 : IntKind.i64.wrap ((k : Int) + (t.length : Int)) = (k : Int) + (t.length : Int) := IntWalk.i64_in _ (by omega)
    by_cases hlt : k + t.length ≤ s.length
    · have k1 : (k : Int) + (t.length : Int) ≤ (s.length : Int) := by omega
      have k2 : (k : Int) ≤ (k : Int) + (t.length : Int) := by omega
      have HS := Lib.hid (countB_succ Q k)
      have hat := HAT.out k
      cases hq : Q k with
      | true =>
        rw [hq] at hat HS
        rw [if_pos rfl] at HS
        clear hq
        generalize countB Q k = c at *
        go_wp2
        go_roundw
        case rel => exact ⟨k + 1, by omega, by rw [HS.out]; go_num, by go_num, HX.out⟩
        case measure => simp [intOf]; omega
      | false =>
        rw [hq] at hat HS
        rw [if_neg Bool.false_ne_true] at HS
        clear hq
        generalize countB Q k = c at *
        go_wp2
        go_roundw
        case rel => exact ⟨k + 1, by omega, by rw [HS.out]; rfl, by go_num, HX.out⟩
        case measure => simp [intOf]; omega
    · have hcd : countB Q k = d := by rw [← HSTOP.out k hk (by omega), HCNT.out]
      rw [hcd] at hcl ⊢
      have k1 : ¬ (k : Int) + (t.length : Int) ≤ (s.length : Int) := by omega
      have B7w := Lib.hid (B7.out.ext HX.out)
      have R1w := Lib.hid (R1.out.ext HX.out)
      have X2w := Lib.hid (X2.out.trans HX.out)
      clear hcd HSTOP HCNT B7 R1 X2
      by_cases h0 : d = 0
      · have hr2 := HFR.out
        rw [if_pos h0] at hr2
        have q := Lib.hid (awake12_any wr)
        subst h0
        subst hr2
        go_wp2_with (refine wpList_load_blk_g (by kernel_rfl) 53 (.tmp 7) rfl rfl B7w.out Try.underlying53 rfl RS.out ?_)
        refine (q.out).mono ?_
        rintro _ w3 ⟨rfl, x3⟩
        go_wp2
        go_ret
        exact ⟨rfl, X2w.out.trans x3⟩
      · obtain ⟨dd, rfl⟩ : ∃ dd, d = dd + 1 := ⟨d - 1, by omega⟩
        obtain ⟨h, hh⟩ : ∃ h, h = lo + dd := ⟨_, rfl⟩
        have hr2 := HFR.out
        rw [if_neg h0] at hr2
        have hr3 : r = ((lo : Int), (h : Int)) := by rw [hr2]; congr 1; omega
        subst hr3
        have c0 := B7w.out.cell 0
        have c1 := B7w.out.cell 1
        simp only [List.getElem?_toArray, List.getElem?_cons_zero, List.getElem?_cons_succ] at c0 c1
        have C1 := Lib.hid c1
        have m0 : ¬ (lo : Int) < 0 := by omega
        have m1 : ¬ (s.length : Int) + 1 ≤ (h : Int) := by omega
        have m2 : IntKind.i64.wrap ((h : Int) - (lo : Int)) = (dd : Int) := by rw [IntWalk.i64_in _ (by omega)]; omega
        have m3 : ((dd : Int) + 1 == (dd : Int) + 1) = true := by simp
        rw [show ((dd + 1 : Nat) : Int) = (dd : Int) + 1 from rfl] at *
        have HLH := Lib.hid (show ∀ i, lo ≤ i → i ≤ h → Q (A.getD i 0) = true ∧ A.getD i 0 ≤ s.length ∧ i < s.length + 1 from fun i h3 h4 => ⟨(HOCC.out i (by omega)).2 ⟨by omega, by omega⟩, by have := HLT.out i (by omega); omega, by omega⟩)
        have hlh : lo ≤ h + 1 := by omega
        have hhs : h ≤ s.length := by omega
        clear hr2 HFR HOCC hh h0
        clear HX
        go_wp2_with fail
        go_loopw [11] (fun i w3 => ∃ j : Nat, lo ≤ j ∧ j ≤ h + 1 ∧ i = .int .i64 (j : Int) ∧ Ext wr w3) (fun i _ => h + 1 - (intOf i).toNat)
        case atStart => exact ⟨lo, by omega, by omega, rfl, Ext.refl _⟩
        case round =>
          rename World => w3
          obtain ⟨j, hj1, hj2, rfl, hx⟩ := hrel
          have HX := Lib.hid hx
          clear c0 c1 hx
          have c1 := Go.cell_later HX.out C1.out
          by_cases hlt : j ≤ h
          · obtain ⟨hq, hpl, hji⟩ := HLH.out j hj1 hlt
            have cj := Go.cell_later HX.out (R1w.out.2 j hji)
            have hlen := HLEN.out _ hq hpl
            have hat := HAT.out (A.getD j 0)
            rw [hq] at hat
            clear hq
            generalize A.getD j 0 = p at *
            have k1 : (j : Int) ≤ (h : Int) := by omega
            have k2 : (j : Int) < (s.length : Int) + 1 := by omega
            have k3 : ¬ (p : Int) < 0 := by omega
            have k4 : ¬ IntKind.i64.wrap ((s.length : Int) - (p : Int)) < (t.length : Int) := by rw [IntWalk.i64_in _ (by omega)]; omega
            have k5 : (p : Int) + (t.length : Int) ≤ (s.length : Int) := by omega
            have k6 : (p : Int) ≤ (p : Int) + (t.length : Int) := by omega
            have e2 : IntKind.i64.wrap ((p : Int) + (t.length : Int)) = (p : Int) + (t.length : Int) := IntWalk.i64_in _ (by omega)
            go_wp2
            go_roundw
            case rel => exact ⟨j + 1, by omega, by omega, by go_num, HX.out⟩
            case measure => simp [intOf]; omega
          · have k1 : ¬ (j : Int) ≤ (h : Int) := by omega
            have q := Lib.hid (awake12_any w3)
            go_wp2_with fail
            refine (q.out).mono ?_
            rintro _ w4 ⟨rfl, x4⟩
            go_wp2
            go_ret
            exact ⟨rfl, (X2w.out.trans HX.out).trans x4⟩
set_option maxRecDepth 20000 in
set_option maxHeartbeats 4000000 in
theorem suffixFind_out (s t : List UInt8) (W : World) (h : (2000 : Int) < (s.length : Int) ∨ (¬ (2000 : Int) < (s.length : Int) ∧ (2000 : Int) < (t.length : Int))) :
    Calls Try.prog 12 #[.string (S s), .string (S t)] W fun e w' => e = .returned (.bool true) ∧ Ext W w' := by
  have q := Lib.hid (awake12_any W)
  rcases h with h1 | ⟨h1, h2⟩
  all_goals
    (go_enter Try.func12, Try.ntmps12
     go_wp2_with fail
     refine (q.out).mono ?_
     rintro _ w1 ⟨rfl, x1⟩
     go_wp2
     go_ret
     exact ⟨rfl, x1⟩)
theorem suffixFind_law (b : ByteArray) (hs : b.size ≤ maxLen) (c : ByteArray) (hc : c.size ≤ maxLen) (W : World) :
    Calls Try.prog 12 #[.string b, .string c] W fun e w' => e = .returned (.bool true) ∧ Ext W w' := by
  obtain ⟨s, rfl, _⟩ := S_ex b
  obtain ⟨t, rfl, _⟩ := S_ex c
  by_cases h1 : (2000 : Int) < (s.length : Int)
  · exact suffixFind_out s t W (.inl h1)
  by_cases h2 : (2000 : Int) < (t.length : Int)
  · exact suffixFind_out s t W (.inr ⟨h1, h2⟩)
  exact suffixFind_in s t W h1 h2
end Go.Proofs.Yteflhfofahdckaa
