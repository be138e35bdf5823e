/- kmp: step. -/
import Derived.Test.YtjbacmhkmofpkaaKhL
import Derived.Test.YtjbacmhkmofpkaaQuiet
import Derived.WalkMore
import Derived.ScopeJumps
namespace Go.Proofs.Ytjbacmhkmofpkaa
set_option linter.unusedVariables false
set_option linter.unusedSimpArgs false
open Go.RowKit

attribute [local go_sem] S_size S_toList S_append S_extract S_beq S_bne S_empty S_nil u8_beq

/-- what step comes to at a state: how it goes on -/
theorem step_cases (what : List UInt8) (st : Nat) (b : UInt8) (hst : st ≤ what.length) :
    ((st : Int) < (what.length : Int) ∧ what.getD st 0 = b ∧ ov what (what.take st ++ [b]) = st + 1) ∨
    ((what[st]? ≠ some b) ∧ (((st : Int) < (what.length : Int) ∧ what.getD st 0 ≠ b) ∨ ¬ (st : Int) < (what.length : Int)) ∧ st = 0 ∧ ov what (what.take st ++ [b]) = 0) ∨
    ((what[st]? ≠ some b) ∧ (((st : Int) < (what.length : Int) ∧ what.getD st 0 ≠ b) ∨ ¬ (st : Int) < (what.length : Int)) ∧ 0 < st ∧ ov what (what.take st ++ [b]) = ov what (what.take (failL what (st - 1)) ++ [b])) := by
  by_cases h : what[st]? = some b
  · refine .inl ⟨?_, ?_, ov_hit h⟩
    · have := (List.getElem?_eq_some_iff.1 h).1; omega
    · rw [List.getD_eq_getElem?_getD, h]; rfl
  · have hn : ((st : Int) < (what.length : Int) ∧ what.getD st 0 ≠ b) ∨ ¬ (st : Int) < (what.length : Int) := by
      by_cases hl : st < what.length
      · refine .inl ⟨by omega, fun e => h ?_⟩
        rw [← e, List.getD_eq_getElem?_getD, List.getElem?_eq_getElem hl]; rfl
      · exact .inr (by omega)
    rcases Nat.eq_zero_or_pos st with rfl | h0
    · exact .inr (.inl ⟨h, hn, rfl, ov_zero h⟩)
    · exact .inr (.inr ⟨h, hn, h0, ov_back h0 hst h⟩)

set_option maxRecDepth 20000 in
set_option maxHeartbeats 2000000 in
theorem step_any (what : List UInt8) (n : Nat) (a : Option Addr) (c st0 : Nat) (b : UInt8) (w : World) (hst0 : st0 ≤ what.length) (hw : (what.length : Int) ≤ 1000000000)
    (hl : 0 < st0 → ∃ g, a = some ⟨g, 0, none⟩ ∧ ∀ i, i < st0 → w.cell? ⟨g, i, none⟩ = some (.int .i64 (failL what i))) (hlen : st0 ≤ n) :
    Calls Try.prog 37 #[.string (S what), .slice a n c, .int .i64 st0, .int .u8 (U8 b)] w fun e w' => e = .returned (.int .i64 (ov what (what.take st0 ++ [b]))) ∧ w = w' := by
  obtain ⟨r, hr⟩ : ∃ r, r = ov what (what.take st0 ++ [b]) := ⟨_, rfl⟩
  rw [← hr]
  go_enter Try.func37, Try.ntmps37
  go_wp2_with fail
  refine wp_scope_jumps 0 (fun a' w' => w' = w ∧ ∃ (st : Nat) (u4 u5 u6 u7 u9 u10 u11 u12 u13 u14 u15 u16 u17 u18 u19 u20 u21 u22 u23 u24 u25 u26 u27 u28 u29 u30 : Value), a' = { tmps := #[.string (S what), .slice a n c, .int .i64 st, .int .u8 (U8 b), u4, u5, u6, u7, .int .i64 0, u9, u10, u11, u12, u13, u14, u15, u16, u17, u18, u19, u20, u21, u22, u23, u24, u25, u26, u27, u28, u29, u30], defers := [] } ∧ st ≤ st0 ∧ ov what (what.take st ++ [b]) = r) (fun a' _ => (intOf (a'.tmps.getD 2 undef)).toNat) rfl ?_ ?_
  · obtain ⟨st, rfl⟩ : ∃ st, st = st0 := ⟨_, rfl⟩
    have hov := hr.symm
    have hle := Nat.le_refl st
    have hR := Lib.hid hr
    clear hr
    rcases step_cases what st b (by omega) with ⟨h1, h2, h3⟩ | ⟨h0, h1, h2, h3⟩ | ⟨h0, h1, h2, h3⟩
    · have hi := index_S what st (by omega) b h2
      obtain rfl : r = st + 1 := by omega
      clear h2 h3 hov hl hst0
      go_wp2
      go_step3
      go_wp2
      simp only [Exit.jump]
      go_ret
      exact ⟨by simp, rfl⟩
    · subst h2
      obtain rfl : r = 0 := by omega
      clear h3 hov hl hst0 h0
      rcases h1 with ⟨h1, h2⟩ | h1
      · have hi := index_S what 0 (by omega) _ rfl
        rw [show ((0 : Nat) : Int) = 0 from rfl] at hi h1
        have hb : (what.getD 0 0 == b) = false := by simpa using h2
        generalize what.getD 0 0 = x at hi hb h2
        clear h2
        go_wp2
        go_step3
        go_wp2
        simp only [Exit.jump]
        go_ret
        exact ⟨rfl, rfl⟩
      · rw [show ((0 : Nat) : Int) = 0 from rfl] at h1
        go_wp2
        go_step3
        go_wp2
        simp only [Exit.jump]
        go_ret
        exact ⟨rfl, rfl⟩
    · obtain ⟨g, rfl, hc⟩ := hl (by omega)
      have hcell := hc (st - 1) (by omega)
      have hf := (failL_spec what h2 (by omega)).2.1
      have hov2 := Lib.hid (h3.symm.trans hov)
      generalize failL what (st - 1) = f at hcell hf hov2
      obtain ⟨st, rfl⟩ : ∃ k, st = k + 1 := ⟨st - 1, by omega⟩
      rw [Nat.add_sub_cancel] at hcell
      have hb9 : (st : Int) ≤ 1000000000 := by omega
      have hz : ((st : Int) + 1 == 0) = false := by simp; omega
      clear h3 hov hc hst0 h0 hl
      rcases h1 with ⟨h1, h3⟩ | h1
      · have hi := index_S what (st + 1) (by omega) _ rfl
        rw [show ((st + 1 : Nat) : Int) = (st : Int) + 1 from rfl] at hi h1
        have hb : (what.getD (st + 1) 0 == b) = false := by simpa using h3
        generalize what.getD (st + 1) 0 = x at hi hb h3
        clear h3
        go_wp2
        go_step3
        go_wp2
        go_step3
        refine ⟨rfl, rfl, f, _, _, _, _, _, _, _, _, _, _, _, _, _, _, _, _, _, _, _, _, _, _, _, _, _, _, rfl, by omega, hov2.out⟩
      · rw [show ((st + 1 : Nat) : Int) = (st : Int) + 1 from rfl] at h1
        go_wp2
        go_step3
        go_wp2
        go_step3
        refine ⟨rfl, rfl, f, _, _, _, _, _, _, _, _, _, _, _, _, _, _, _, _, _, _, _, _, _, _, _, _, _, _, rfl, by omega, hov2.out⟩
  · rintro a' w' ⟨rfl, st, u4, u5, u6, u7, u9, u10, u11, u12, u13, u14, u15, u16, u17, u18, u19, u20, u21, u22, u23, u24, u25, u26, u27, u28, u29, u30, rfl, hle, hov⟩
    have hR := Lib.hid hr
    clear hr
    rcases step_cases what st b (by omega) with ⟨h1, h2, h3⟩ | ⟨h0, h1, h2, h3⟩ | ⟨h0, h1, h2, h3⟩
    · have hi := index_S what st (by omega) b h2
      obtain rfl : r = st + 1 := by omega
      clear h2 h3 hov hl hst0
      go_wp2
      simp only [Exit.jump]
      go_ret
      exact ⟨by simp, rfl⟩
    · subst h2
      obtain rfl : r = 0 := by omega
      clear h3 hov hl hst0 h0
      rcases h1 with ⟨h1, h2⟩ | h1
      · have hi := index_S what 0 (by omega) _ rfl
        rw [show ((0 : Nat) : Int) = 0 from rfl] at hi h1
        have hb : (what.getD 0 0 == b) = false := by simpa using h2
        generalize what.getD 0 0 = x at hi hb h2
        clear h2
        go_wp2
        simp only [Exit.jump]
        go_ret
        exact ⟨rfl, rfl⟩
      · rw [show ((0 : Nat) : Int) = 0 from rfl] at h1
        go_wp2
        simp only [Exit.jump]
        go_ret
        exact ⟨rfl, rfl⟩
    · obtain ⟨g, rfl, hc⟩ := hl (by omega)
      have hcell := hc (st - 1) (by omega)
      have hf := (failL_spec what h2 (by omega)).2.1
      have hov2 := Lib.hid (h3.symm.trans hov)
      generalize failL what (st - 1) = f at hcell hf hov2
      obtain ⟨st, rfl⟩ : ∃ k, st = k + 1 := ⟨st - 1, by omega⟩
      rw [Nat.add_sub_cancel] at hcell
      have hb9 : (st : Int) ≤ 1000000000 := by omega
      have hz : ((st : Int) + 1 == 0) = false := by simp; omega
      clear h3 hov hc hst0 h0 hl
      rcases h1 with ⟨h1, h3⟩ | h1
      · have hi := index_S what (st + 1) (by omega) _ rfl
        rw [show ((st + 1 : Nat) : Int) = (st : Int) + 1 from rfl] at hi h1
        have hb : (what.getD (st + 1) 0 == b) = false := by simpa using h3
        generalize what.getD (st + 1) 0 = x at hi hb h3
        clear h3
        go_wp2
        go_step3
        refine ⟨rfl, ⟨rfl, f, _, _, _, _, _, _, _, _, _, _, _, _, _, _, _, _, _, _, _, _, _, _, _, _, _, _, rfl, by omega, hov2.out⟩, by simp [intOf]; omega⟩
      · rw [show ((st + 1 : Nat) : Int) = (st : Int) + 1 from rfl] at h1
        go_wp2
        go_step3
        refine ⟨rfl, ⟨rfl, f, _, _, _, _, _, _, _, _, _, _, _, _, _, _, _, _, _, _, _, _, _, _, _, _, _, _, rfl, by omega, hov2.out⟩, by simp [intOf]; omega⟩
end Go.Proofs.Ytjbacmhkmofpkaa
