/- fm: ahead, none. -/
import Derived.Test.YtlhjbfckcfeikaaFmF
namespace Go.Proofs.Ytlhjbfckcfeikaa
set_option linter.unusedVariables false
set_option linter.unusedSimpArgs false
open Go.RowKit
attribute [local go_sem] S_size S_toList S_extract S_beq S_bne S_empty S_nil u8_beq U8_fold U8_toNat

set_option maxRecDepth 20000 in
set_option maxHeartbeats 8000000 in
theorem ahead_any (l : List UInt8) (q : Nat) (v : Value) (b : UInt8) (row : Nat) (w : World) (hl : (l.length : Int) ≤ 20000) (hq : q ≤ l.length) (hrow : row ≤ l.length + 1) (h : IX w v l q) :
    Calls Try.prog 35 #[v, .int .u8 (U8 b), .int .i64 (row : Int)] w fun e w' => e = .returned (.int .i64 (cntL (l.take (lastN q row)) (B8 b) : Int)) ∧ Ext w w' := by
  obtain ⟨g, kv, pv, rfl, hb, hk, hp⟩ := h
  have c0 := hb.cell 0
  rw [idx_0] at c0
  have c1 := hb.cell 1
  rw [idx_1] at c1
  have c259 := hb.cell 259
  rw [idx_k] at c259
  have hle := last_le hq hrow
  have hkl := kept_length l l.length
  obtain ⟨ka, kc, rfl, _, _, hks⟩ := hk
  have hr : ((q : Int) < (row : Int) ∧ (lastN q row : Int) = (row : Int) - 1) ∨ (¬ (q : Int) < (row : Int) ∧ (lastN q row : Int) = (row : Int)) := by
    unfold lastN
    by_cases e : q < row
    · rw [if_pos e]; omega
    · rw [if_neg e]; omega
  generalize lastN q row = r at *
  clear hb hp
  have hu0 := U8_nonneg b
  have hu1 := U8_lt b
  have h8 := B8_lt b
  by_cases h0 : r = 0
  · subst h0
    have hz : (cntL (l.take 0) (B8 b) : Int) = 0 := rfl
    rw [hz]
    clear hks hz
    rcases hr with ⟨e1, e2⟩ | ⟨e1, e2⟩
    all_goals
      have e3 : (row : Int) ≤ 0 ∨ (row : Int) - 1 ≤ 0 := by omega
      go_enter Try.func35, Try.ntmps35
      go_wp2
      go_ret
      exact ⟨rfl, Ext.refl _⟩
  have hlt : (r - 1) / 64 < (keptL l l.length).length := by rw [hkl]; omega
  obtain ⟨gk, ok, rfl, hcell⟩ := hks (by omega)
  have ck := hcell ((r - 1) / 64) _ (kept_get l (by omega)) (B8 b) _ (cnC_get _ h8)
  clear hcell hks
  have hb1 : ((r : Int) - 1) / 64 = (((r - 1) / 64 : Nat) : Int) := by omega
  have hb3 : 64 * ((r - 1) / 64) ≤ r - 1 := by omega
  have hbn : (((r - 1) / 64 : Nat) : Int) < ((keptL l l.length).length : Int) := by omega
  generalize (r - 1) / 64 = bl at *
  generalize (keptL l l.length).length = kn at *
  have hbw : IntKind.i64.wrap ((bl : Int) * 64) = ((64 * bl : Nat) : Int) := by rw [IntKind.wrap_i64]; omega
  have H0 := Lib.hid h0
  have HB3 := Lib.hid hb3
  clear h0 hb3
  rcases hr with ⟨e1, e2⟩ | ⟨e1, e2⟩
  · have e3 : ¬ (row : Int) - 1 ≤ 0 := by have := H0.out; omega
    rw [e2] at hb1
    go_enter Try.func35, Try.ntmps35
    go_wp2
    clear e3 hb1 hbw hbn ck c1 c259
    go_loopw [8, 9] (fun n i wr => ∃ k : Nat, k ≤ r ∧ n = .int .i64 (cntL (l.take k) (B8 b) : Int) ∧ i = .int .i64 (k : Int) ∧ wr = w) (fun _ i _ => r - (intOf i).toNat)
    case atStart => exact ⟨64 * bl, by have := HB3.out; omega, rfl, by first | rfl | go_num, rfl⟩
    case round =>
      obtain ⟨k, hk, rfl, rfl, rfl⟩ := hrel
      by_cases hlt : k < r
      · have hki : (k : Int) < (row : Int) - 1 := by omega
        have hkl : k < l.length := by omega
        have hkl2 : (k : Int) < (l.length : Int) := by omega
        have ib := index_S l k hkl _ rfl
        have HS := Lib.hid (cntL_snoc l k hkl (B8 b))
        have hcl := cntL_le (l.take k) (B8 b)
        rw [List.length_take] at hcl
        have HLT := Lib.hid hlt
        clear hlt hk hkl
        by_cases hx : l.getD k 0 = b
        · have hbe : (l.getD k 0 == b) = true := by rw [hx]; simp
          have HS2 := Lib.hid (show cntL (l.take (k + 1)) (B8 b) = cntL (l.take k) (B8 b) + 1 from by
            have hcond : (l.getD k 0).toNat = B8 b := by rw [hx]; rfl
            rw [HS.out, if_pos hcond])
          clear hx HS
          generalize l.getD k 0 = x at *
          generalize cntL (l.take k) (B8 b) = c at *
          go_wp2
          go_roundw
          case rel => exact ⟨k + 1, by have := HLT.out; omega, by rw [HS2.out]; go_num, by go_num, trivial⟩
          case measure => simp [intOf]; have := HLT.out; omega
        · have hbe : (l.getD k 0 == b) = false := by simpa using hx
          have HS2 := Lib.hid (show cntL (l.take (k + 1)) (B8 b) = cntL (l.take k) (B8 b) from by
            have hcond : ¬ (l.getD k 0).toNat = B8 b := fun e => hx (UInt8.toNat_inj.1 e)
            rw [HS.out, if_neg hcond]; rfl)
          clear hx HS
          generalize l.getD k 0 = x at *
          generalize cntL (l.take k) (B8 b) = c at *
          go_wp2
          go_roundw
          case rel => exact ⟨k + 1, by have := HLT.out; omega, by rw [HS2.out], by go_num, trivial⟩
          case measure => simp [intOf]; have := HLT.out; omega
      · obtain rfl : k = r := by omega
        have hki : ¬ (k : Int) < (row : Int) - 1 := by omega
        go_wp2
        go_ret
        exact ⟨rfl, Ext.refl _⟩
  · have e3 : ¬ (row : Int) ≤ 0 := by have := H0.out; omega
    rw [e2] at hb1
    go_enter Try.func35, Try.ntmps35
    go_wp2
    clear e3 hb1 hbw hbn ck c1 c259
    go_loopw [8, 9] (fun n i wr => ∃ k : Nat, k ≤ r ∧ n = .int .i64 (cntL (l.take k) (B8 b) : Int) ∧ i = .int .i64 (k : Int) ∧ wr = w) (fun _ i _ => r - (intOf i).toNat)
    case atStart => exact ⟨64 * bl, by have := HB3.out; omega, rfl, by first | rfl | go_num, rfl⟩
    case round =>
      obtain ⟨k, hk, rfl, rfl, rfl⟩ := hrel
      by_cases hlt : k < r
      · have hki : (k : Int) < (row : Int) := by omega
        have hkl : k < l.length := by omega
        have hkl2 : (k : Int) < (l.length : Int) := by omega
        have ib := index_S l k hkl _ rfl
        have HS := Lib.hid (cntL_snoc l k hkl (B8 b))
        have hcl := cntL_le (l.take k) (B8 b)
        rw [List.length_take] at hcl
        have HLT := Lib.hid hlt
        clear hlt hk hkl
        by_cases hx : l.getD k 0 = b
        · have hbe : (l.getD k 0 == b) = true := by rw [hx]; simp
          have HS2 := Lib.hid (show cntL (l.take (k + 1)) (B8 b) = cntL (l.take k) (B8 b) + 1 from by
            have hcond : (l.getD k 0).toNat = B8 b := by rw [hx]; rfl
            rw [HS.out, if_pos hcond])
          clear hx HS
          generalize l.getD k 0 = x at *
          generalize cntL (l.take k) (B8 b) = c at *
          go_wp2
          go_roundw
          case rel => exact ⟨k + 1, by have := HLT.out; omega, by rw [HS2.out]; go_num, by go_num, trivial⟩
          case measure => simp [intOf]; have := HLT.out; omega
        · have hbe : (l.getD k 0 == b) = false := by simpa using hx
          have HS2 := Lib.hid (show cntL (l.take (k + 1)) (B8 b) = cntL (l.take k) (B8 b) from by
            have hcond : ¬ (l.getD k 0).toNat = B8 b := fun e => hx (UInt8.toNat_inj.1 e)
            rw [HS.out, if_neg hcond]; rfl)
          clear hx HS
          generalize l.getD k 0 = x at *
          generalize cntL (l.take k) (B8 b) = c at *
          go_wp2
          go_roundw
          case rel => exact ⟨k + 1, by have := HLT.out; omega, by rw [HS2.out], by go_num, trivial⟩
          case measure => simp [intOf]; have := HLT.out; omega
      · obtain rfl : k = r := by omega
        have hki : ¬ (k : Int) < (row : Int) := by omega
        go_wp2
        go_ret
        exact ⟨rfl, Ext.refl _⟩
end Go.Proofs.Ytlhjbfckcfeikaa
