/- suffix: alike. -/
import Derived.Test.YteflhfofahdckaaSufM
namespace Go.Proofs.Yteflhfofahdckaa
set_option linter.unusedVariables false
set_option linter.unusedSimpArgs false
open Go.RowKit
attribute [local go_sem] S_size S_toList S_extract S_beq S_bne S_empty S_nil u8_beq


set_option maxRecDepth 20000 in
set_option maxHeartbeats 4000000 in
theorem alike_any (a b : List UInt8) (w : World) (ha : (a.length : Int) ≤ 1000000000) (hb : (b.length : Int) ≤ 1000000000) :
    Calls Try.prog 43 #[.string (S a), .string (S b)] w fun e w' => e = .returned (.int .i64 (alikeN a b : Int)) ∧ Ext w w' := by
  go_enter Try.func43, Try.ntmps43
  go_wp2
  go_loopw [5] (fun i wr => ∃ n : Nat, i = .int .i64 (n : Int) ∧ n ≤ a.length ∧ n ≤ b.length ∧ (∀ k, k < n → a.getD k 0 = b.getD k 0) ∧ Ext w wr) (fun i _ => a.length - (intOf i).toNat)
  case atStart => exact ⟨0, rfl, by omega, by omega, fun k hk => by omega, Ext.refl _⟩
  case round =>
    obtain ⟨n, rfl, h1, h2, hall, hx⟩ := hrel
    have HX := Lib.hid hx
    clear hx
    have HALL := Lib.hid hall
    clear hall
    by_cases hna : n < a.length
    · by_cases hnb : n < b.length
      · have ia := index_S a n hna _ rfl
        have ib := index_S b n hnb _ rfl
        have k1 : (n : Int) < (a.length : Int) := by omega
        have k2 : (n : Int) < (b.length : Int) := by omega
        by_cases he : a.getD n 0 = b.getD n 0
        · have hst := Lib.hid (show ∀ k, k < n + 1 → a.getD k 0 = b.getD k 0 from fun k hk => by
            rcases Nat.lt_or_ge k n with h | h
            · exact HALL.out k h
            · have : k = n := by omega
              subst this; exact he)
          have hbb : (a.getD n 0 == b.getD n 0) = true := by simpa using he
          clear he HALL
          generalize a.getD n 0 = x at *
          generalize b.getD n 0 = y at *
          go_wp2_with fail
          refine wp_region_up (by kernel_rfl) (by kernel_rfl) ?_
          repeat (go_big_quiet_step (fail))
          refine wpQuiet_nil ?_
          rintro _ ⟨y2, rfl⟩
          have HXW := Lib.hid (HX.out.trans y2.ext)
          generalize y2.val = w3 at *
          go_wp2
          go_roundw
          case rel => exact ⟨n + 1, by go_num, by omega, by omega, hst.out, HXW.out⟩
          case measure => simp [intOf]; omega
        · have hst := Lib.hid (alikeN_at h1 h2 HALL.out (fun h => he h.2.2))
          have hbb : (a.getD n 0 == b.getD n 0) = false := by simpa using he
          clear he HALL
          generalize a.getD n 0 = x at *
          generalize b.getD n 0 = y at *
          go_wp2_with fail
          refine wp_region_up (by kernel_rfl) (by kernel_rfl) ?_
          repeat (go_big_quiet_step (fail))
          refine wpQuiet_nil ?_
          rintro _ ⟨y2, rfl⟩
          have HXW := Lib.hid (HX.out.trans y2.ext)
          generalize y2.val = w3 at *
          go_wp2
          go_ret
          exact ⟨by rw [hst.out]; rfl, HXW.out⟩
      · have hst := Lib.hid (alikeN_at h1 h2 HALL.out (fun h => hnb h.2.1))
        have k1 : (n : Int) < (a.length : Int) := by omega
        have k2 : ¬ (n : Int) < (b.length : Int) := by omega
        clear HALL
        go_wp2_with fail
        refine wp_region_up (by kernel_rfl) (by kernel_rfl) ?_
        repeat (go_big_quiet_step (fail))
        refine wpQuiet_nil ?_
        rintro _ ⟨y2, rfl⟩
        have HXW := Lib.hid (HX.out.trans y2.ext)
        generalize y2.val = w3 at *
        go_wp2
        go_ret
        exact ⟨by rw [hst.out]; rfl, HXW.out⟩
    · have hst := Lib.hid (alikeN_at h1 h2 HALL.out (fun h => hna h.1))
      have k1 : ¬ (n : Int) < (a.length : Int) := by omega
      clear HALL
      go_wp2_with fail
      refine wp_region_up (by kernel_rfl) (by kernel_rfl) ?_
      repeat (go_big_quiet_step (fail))
      refine wpQuiet_nil ?_
      rintro _ ⟨y2, rfl⟩
      have HXW := Lib.hid (HX.out.trans y2.ext)
      generalize y2.val = w3 at *
      go_wp2
      go_ret
      exact ⟨by rw [hst.out]; rfl, HXW.out⟩


set_option maxRecDepth 20000 in
set_option maxHeartbeats 4000000 in
theorem refAlike_any (a b : List UInt8) (w : World) (ha : (a.length : Int) ≤ 1000000000) (hb : (b.length : Int) ≤ 1000000000) :
    Calls Try.prog 44 #[.string (S a), .string (S b)] w fun e w' => e = .returned (.int .i64 (alikeN a b : Int)) ∧ Ext w w' := by
  go_enter Try.func44, Try.ntmps44
  go_wp2
  go_loopw [5] (fun i wr => ∃ n : Nat, i = .int .i64 (n : Int) ∧ n ≤ a.length ∧ n ≤ b.length ∧ (∀ k, k < n → a.getD k 0 = b.getD k 0) ∧ Ext w wr) (fun i _ => a.length - (intOf i).toNat)
  case atStart => exact ⟨0, rfl, by omega, by omega, fun k hk => by omega, Ext.refl _⟩
  case round =>
    obtain ⟨n, rfl, h1, h2, hall, hx⟩ := hrel
    have HX := Lib.hid hx
    clear hx
    have HALL := Lib.hid hall
    clear hall
    by_cases hna : n < a.length
    · by_cases hnb : n < b.length
      · have ia := index_S a n hna _ rfl
        have ib := index_S b n hnb _ rfl
        have k1 : (n : Int) < (a.length : Int) := by omega
        have k2 : (n : Int) < (b.length : Int) := by omega
        by_cases he : a.getD n 0 = b.getD n 0
        · have hst := Lib.hid (show ∀ k, k < n + 1 → a.getD k 0 = b.getD k 0 from fun k hk => by
            rcases Nat.lt_or_ge k n with h | h
            · exact HALL.out k h
            · have : k = n := by omega
              subst this; exact he)
          have hbb : (a.getD n 0 == b.getD n 0) = true := by simpa using he
          clear he HALL
          generalize a.getD n 0 = x at *
          generalize b.getD n 0 = y at *
          go_wp2_with fail
          refine wp_region_up (by kernel_rfl) (by kernel_rfl) ?_
          repeat (go_big_quiet_step (fail))
          refine wpQuiet_nil ?_
          rintro _ ⟨y2, rfl⟩
          have HXW := Lib.hid (HX.out.trans y2.ext)
          generalize y2.val = w3 at *
          go_wp2
          go_roundw
          case rel => exact ⟨n + 1, by go_num, by omega, by omega, hst.out, HXW.out⟩
          case measure => simp [intOf]; omega
        · have hst := Lib.hid (alikeN_at h1 h2 HALL.out (fun h => he h.2.2))
          have hbb : (a.getD n 0 == b.getD n 0) = false := by simpa using he
          clear he HALL
          generalize a.getD n 0 = x at *
          generalize b.getD n 0 = y at *
          go_wp2_with fail
          refine wp_region_up (by kernel_rfl) (by kernel_rfl) ?_
          repeat (go_big_quiet_step (fail))
          refine wpQuiet_nil ?_
          rintro _ ⟨y2, rfl⟩
          have HXW := Lib.hid (HX.out.trans y2.ext)
          generalize y2.val = w3 at *
          go_wp2
          go_ret
          exact ⟨by rw [hst.out]; rfl, HXW.out⟩
      · have hst := Lib.hid (alikeN_at h1 h2 HALL.out (fun h => hnb h.2.1))
        have k1 : (n : Int) < (a.length : Int) := by omega
        have k2 : ¬ (n : Int) < (b.length : Int) := by omega
        clear HALL
        go_wp2_with fail
        refine wp_region_up (by kernel_rfl) (by kernel_rfl) ?_
        repeat (go_big_quiet_step (fail))
        refine wpQuiet_nil ?_
        rintro _ ⟨y2, rfl⟩
        have HXW := Lib.hid (HX.out.trans y2.ext)
        generalize y2.val = w3 at *
        go_wp2
        go_ret
        exact ⟨by rw [hst.out]; rfl, HXW.out⟩
    · have hst := Lib.hid (alikeN_at h1 h2 HALL.out (fun h => hna h.1))
      have k1 : ¬ (n : Int) < (a.length : Int) := by omega
      clear HALL
      go_wp2_with fail
      refine wp_region_up (by kernel_rfl) (by kernel_rfl) ?_
      repeat (go_big_quiet_step (fail))
      refine wpQuiet_nil ?_
      rintro _ ⟨y2, rfl⟩
      have HXW := Lib.hid (HX.out.trans y2.ext)
      generalize y2.val = w3 at *
      go_wp2
      go_ret
      exact ⟨by rw [hst.out]; rfl, HXW.out⟩

end Go.Proofs.Yteflhfofahdckaa
