/- fm: Text. -/
import Derived.Test.YtlhjbfckcfeikaaFmL
namespace Go.Proofs.Ytlhjbfckcfeikaa
set_option linter.unusedVariables false
set_option linter.unusedSimpArgs false
open Go.RowKit
attribute [local go_sem] S_size S_toList S_extract S_beq S_bne S_empty S_nil u8_beq U8_fold U8_toNat

/-- a part of a text -/
def partL (s : List UInt8) (at_ n : Int) : List UInt8 := (s.drop at_.toNat).take n.toNat
section
variable {l : List UInt8} {q : Nat}
/-- the rows of the first k places are told -/
def RowTo (l : List UInt8) (q k : Nat) (R : List Nat) : Prop := R.length = l.length + 1 ∧ ∀ i, i < k → R.getD (plcN l q i) 0 = i
theorem RowTo.start : RowTo l q 0 (List.replicate (l.length + 1) 0) := ⟨by simp, fun i hi => by omega⟩
theorem RowTo.step {R : List Nat} {k : Nat} (h : RowTo l q k R) (ho : okI l q = true) (hq : q < l.length + 1) (hk : k < l.length + 1) : RowTo l q (k + 1) (R.set (plcN l q k) k) := by
  refine ⟨by rw [List.length_set]; exact h.1, fun i hi => ?_⟩
  rw [List.getD_eq_getElem?_getD, List.getElem?_set]
  by_cases e : i = k
  · subst e
    rw [if_pos rfl, if_pos (by rw [h.1]; have := plc_le ho hq hk; omega)]; rfl
  · rw [if_neg (fun e2 => e (by rw [← row_plc ho hq (show i < l.length + 1 by omega), ← e2, row_plc ho hq hk])), ← List.getD_eq_getElem?_getD]
    exact h.2 i (by omega)
theorem RowTo.done {R : List Nat} (h : RowTo l q (l.length + 1) R) (ho : okI l q = true) (hq : q < l.length + 1) {p : Nat} (hp : p ≤ l.length) : R.getD p 0 = rowN l q p := by
  have := h.2 (rowN l q p) (row_lt p)
  rwa [plc_row ho hq hp] at this
theorem places_plc (ho : okI l q = true) (hq : q < l.length + 1) (i : Nat) : (placesN l q).getD i 0 = plcN l q i := by
  unfold plcN; rw [places_is ho hq]
end
theorem take_more {s : List UInt8} {a i : Nat} (hi : i < s.length) (ha : a ≤ i) : (s.drop a).take (i + 1 - a) = (s.drop a).take (i - a) ++ [s.getD i 0] := by
  rw [show i + 1 - a = (i - a) + 1 by omega, List.take_succ_eq_append_getElem (by rw [List.length_drop]; omega)]
  congr 2
  rw [List.getElem_drop, List.getD_eq_getElem?_getD, List.getElem?_eq_getElem hi]
  simp [show a + (i - a) = i by omega]
theorem part_end {s : List UInt8} {a i m : Nat} (ha : a ≤ i) (hi : i ≤ s.length) (him : i - a ≤ m) (he : i - a = m ∨ i = s.length) : (s.drop a).take (i - a) = (s.drop a).take m := by
  rcases he with e | e
  · rw [e]
  · rw [List.take_of_length_le (by rw [List.length_drop]; omega), List.take_of_length_le (by rw [List.length_drop]; omega)]

set_option maxRecDepth 20000 in
set_option maxHeartbeats 8000000 in
theorem text_no (l : List UInt8) (q : Nat) (v : Value) (at_ n : Int) (w : World) (hl : (l.length : Int) ≤ 20000) (h : IX w v l q) (hn : n ≤ 0 ∨ (l.length : Int) ≤ at_) :
    Calls Try.prog 16 #[v, .int .i64 at_, .int .i64 n] w fun e w' => e = .returned (.string (S [])) ∧ Ext w w' := by
  obtain ⟨g, kv, pv, rfl, hb, _, _⟩ := h
  have c0 := hb.cell 0
  rw [idx_0] at c0
  have cm := hb.cell 261
  rw [idx_m] at cm
  clear hb
  by_cases hn0 : n ≤ 0
  · clear hn
    go_enter Try.func16, Try.ntmps16
    go_wp2
    go_ret
    exact ⟨rfl, Ext.refl _⟩
  · have hat : (l.length : Int) ≤ at_ := by omega
    clear hn
    go_enter Try.func16, Try.ntmps16
    go_wp2
    go_ret
    exact ⟨rfl, Ext.refl _⟩

set_option maxRecDepth 20000 in
set_option maxHeartbeats 8000000 in
theorem text_yes (l : List UInt8) (q : Nat) (v : Value) (at_ n : Int) (w : World) (hl : (l.length : Int) ≤ 20000) (ho : okI l q = true) (hq : q < l.length + 1) (h : IX w v l q) (hn : 0 < n) (hat : at_ < (l.length : Int)) :
    Calls Try.prog 16 #[v, .int .i64 at_, .int .i64 n] w fun e w' => e = .returned (.string (S (partL (txtN l q) at_ n))) ∧ Ext w w' := by
  obtain ⟨a, ha, ha2⟩ : ∃ a : Nat, (a : Int) = max at_ 0 ∧ a = at_.toNat := ⟨at_.toNat, by omega, rfl⟩
  obtain ⟨m, rfl⟩ : ∃ m : Nat, n = (m : Int) := ⟨n.toNat, by omega⟩
  have hmx := fun w => max2_run at_ 0 (a : Int) ha w
  have hal : a ≤ l.length := by omega
  have hmn := fun w => min2_run (m : Int) ((l.length : Int) - (a : Int)) ((min m (l.length - a) : Nat) : Int) (by omega) w
  have hm0 : 0 < m := by omega
  have HP := Lib.hid (show partL (txtN l q) at_ (m : Int) = ((txtN l q).drop a).take m from by unfold partL; rw [← ha2]; rfl)
  have QF := Lib.hid (fun p w hp h => front_any l q v p w hl ho hq hp h)
  have H := Lib.hid h
  obtain ⟨g, kv, pv, rfl, hb, _, hpv⟩ := h
  have c0 := hb.cell 0
  rw [idx_0] at c0
  have cm := hb.cell 261
  rw [idx_m] at cm
  have cp := hb.cell 260
  rw [idx_p] at cp
  obtain ⟨pa, pc, rfl, hpc, _, hps⟩ := hpv.shape
  have hpl : (toI (placesN l q)).length = l.length + 1 := by rw [toI_length]; simp [placesN]
  rw [hpl] at hpc hps cp
  obtain ⟨gp, op, rfl, hcell⟩ := hps (by omega)
  have cp1 := (hb.alloc (.cells (madeCells #[.int .i64 0] (l.length + 1)) 3)).cell 260
  rw [idx_p, hpl] at cp1
  have HB := Lib.hid hb
  have HC := Lib.hid (show ∀ k, k < l.length + 1 → w.cell? ⟨gp, op + k, none⟩ = some (.int .i64 (plcN l q k : Int)) from fun k hk => by
    have := hcell k hk
    rw [toI_getD, places_plc ho hq] at this
    exact this)
  have hmk := make_run w (l.length + 1) (by omega) ((l.length : Int) + 1) rfl
  have N0 := Lib.hid (NW.make w (l.length + 1) (by omega))
  have X0 := Lib.hid ((Ext.refl w).alloc (.cells (madeCells #[.int .i64 0] (l.length + 1)) 3))
  have HO := Lib.hid ho
  have HQ := Lib.hid hq
  have HPC := Lib.hid hpc
  clear hb hpv hps hcell hpc ha ha2 ho hq
  go_enter Try.func16, Try.ntmps16
  go_wp2
  clear c0 cm cp cp1 hmk hmx
  go_loopw [46, 8, 9] (fun i _ _ wr => ∃ (k : Nat) (R : List Nat), k ≤ l.length + 1 ∧ i = .int .i64 (k : Int) ∧ RowTo l q k R ∧ NW wr w.heap.size w.heap.size (l.length + 1) R ∧ Ext w wr) (fun i _ _ _ => l.length + 1 - (intOf i).toNat)
  case atStart => exact ⟨0, _, Nat.zero_le _, rfl, RowTo.start, N0.out, X0.out⟩
  case round =>
    obtain ⟨k, R, hk, rfl, hr, hn2, hx⟩ := hrel
    clear N0 X0
    by_cases hlt : k < l.length + 1
    · have hki : (k : Int) < (l.length : Int) + 1 := by omega
      have hkc : (k : Int) < (pc : Int) := by have := HPC.out; omega
      have cp := Go.cell_later hx (HC.out k hlt)
      have hpk := plc_le HO.out HQ.out hlt
      have hpk2 : (plcN l q k : Int) < (l.length : Int) + 1 := by omega
      have ci := hn2.cell (plcN l q k) (by omega)
      have fi := hn2.free (plcN l q k) (by omega)
      have N2 := Lib.hid (hn2.set (plcN l q k) k)
      have R2 := Lib.hid (hr.step HO.out HQ.out hlt)
      have X2 := Lib.hid (Ext.set hx (p := ⟨w.heap.size, plcN l q k, none⟩) (Nat.le_refl _) (.int .i64 (k : Int)))
      have HLT := Lib.hid hlt
      clear hr hn2 hx hlt hk
      generalize plcN l q k = p at *
      generalize R.getD p 0 = rv at *
      go_wp2
      go_roundw
      case rel => exact ⟨k + 1, _, by have := HLT.out; omega, by go_num, R2.out, N2.out, X2.out⟩
      case measure => simp [intOf]; have := HLT.out; omega
    · have hki : ¬ (k : Int) < (l.length : Int) + 1 := by omega
      have hr := (show k = l.length + 1 by omega) ▸ hr
      have HR := Lib.hid (fun p hp => (show R.getD p 0 = rowN l q p from hr.done HO.out HQ.out hp))
      have c1 := (HB.out.ext hx).cell 0
      rw [idx_0] at c1
      have hmk2 := make0_run (min m (l.length - a)) (by omega) wr
      have B0 := Lib.hid (BW.make0 wr (min m (l.length - a)) (by omega))
      have X1 := Lib.hid hx
      have NR := Lib.hid hn2
      have e1 : IntKind.i64.wrap ((l.length : Int) - (a : Int)) = (l.length : Int) - (a : Int) := by rw [IntKind.wrap_i64]; omega
      clear hr hn2 hx hk hlt
      generalize min m (l.length - a) = mn at *
      go_wp2
      clear c1 hmk2 hmn e1
      have E1 := Lib.hid ((Ext.refl wr).alloc (.cells (madeCells #[.int .u8 0] mn) 5))
      generalize wr.alloc (.cells (madeCells #[.int .u8 0] mn) 5) = W2 at *
      generalize wr = W1 at *
      go_loopw [1, 10] (fun i v wx => ∃ j : Nat, a ≤ j ∧ j ≤ l.length ∧ j - a ≤ m ∧ i = .int .i64 (j : Int) ∧ BW wx W1.heap.size v (((txtN l q).drop a).take (j - a)) ∧ Ext W1 wx) (fun i _ _ => l.length - (intOf i).toNat)
      case atStart => exact ⟨a, Nat.le_refl _, hal, by omega, rfl, by rw [Nat.sub_self, List.take_zero]; exact B0.out, E1.out⟩
      case round =>
        obtain ⟨j, haj, hjl, hjm, rfl, hb, hx⟩ := hrel
        clear B0 E1
        have c1 := (HB.out.ext (X1.out.trans hx)).cell 0
        rw [idx_0] at c1
        have hlen : (((txtN l q).drop a).take (j - a)).length = j - a := by rw [List.length_take, List.length_drop, txt_length]; omega
        obtain ⟨gv, cv, rfl, _, _⟩ := hb.shape
        rw [hlen] at hb ⊢
        by_cases hgo : j - a < m ∧ j < l.length
        · obtain ⟨hg1, hg2⟩ := hgo
          have hgi1 : ((j - a : Nat) : Int) < (m : Int) := by omega
          have hgi2 : (j : Int) < (l.length : Int) := by omega
          have cr := Go.cell_later hx (NR.out.cell j (by omega))
          rw [HR.out j (by omega)] at cr
          have hji : (j : Int) < (l.length : Int) + 1 := by omega
          have Q := Lib.hid (QF.out j wr hg2 (H.out.ext (X1.out.trans hx)))
          have HT := Lib.hid (take_more (s := txtN l q) (by rw [txt_length]; exact hg2) haj)
          have HL := Lib.hid hlen
          have HJ := Lib.hid (show j + 1 - a ≤ m by omega)
          have hjb : ((j - a : Nat) : Int) ≤ 20000 := by omega
          have HB2 := Lib.hid hb
          have HX := Lib.hid hx
          clear hb hx hlen
          generalize j - a = ja at *
          go_wp2_with fail
          refine Q.out.mono ?_
          rintro _ w3 ⟨rfl, x3⟩
          obtain ⟨v', w4, p1, p2, p3, _⟩ := (HB2.out.ext x3).app (HX.out.trans x3).le ((txtN l q).getD j 0) (by have := HL.out; omega)
          have HX4 := Lib.hid (Below.trans (HX.out.trans x3) p3 : Ext W1 w4)
          obtain ⟨g2, c2, rfl, _, _⟩ := p2.shape
          have HB4 := Lib.hid p2
          clear x3 p2 p3
          generalize (((txtN l q).drop a).take ja ++ [(txtN l q).getD j 0]).length = nf at *
          go_wp2_with (at_builtin; refine wpList_app rfl (.tmp 81) (.tmp 88) 61 rfl rfl rfl rfl p1 ?_)
          go_roundw
          case rel => exact ⟨j + 1, by omega, by omega, HJ.out, by go_num, by rw [HT.out]; exact HB4.out, HX4.out⟩
          case measure => simp [intOf]; omega
        · have HE := Lib.hid (part_end (s := txtN l q) (m := m) haj (by rw [txt_length]; exact hjl) hjm (by rw [txt_length]; omega))
          have hcv := hb.conv
          have X5 := Lib.hid (X1.out.trans hx)
          have HCV := Lib.hid hcv
          by_cases h1 : j - a < m
          · have hgi1 : ((j - a : Nat) : Int) < (m : Int) := by omega
            have hgi2 : ¬ (j : Int) < (l.length : Int) := by omega
            clear hb hx hlen hgo
            generalize j - a = ja at *
            go_wp2
            go_ret
            exact ⟨by rw [HP.out, ← HE.out]; rfl, X5.out⟩
          · have hgi1 : ¬ ((j - a : Nat) : Int) < (m : Int) := by omega
            clear hb hx hlen hgo
            generalize j - a = ja at *
            go_wp2
            go_ret
            exact ⟨by rw [HP.out, ← HE.out]; rfl, X5.out⟩

theorem text_any (l : List UInt8) (q : Nat) (v : Value) (at_ n : Int) (w : World) (hl : (l.length : Int) ≤ 20000) (ho : okI l q = true) (hq : q < l.length + 1) (h : IX w v l q) :
    Calls Try.prog 16 #[v, .int .i64 at_, .int .i64 n] w fun e w' => e = .returned (.string (S (partL (txtN l q) at_ n))) ∧ Ext w w' := by
  by_cases hn : n ≤ 0 ∨ (l.length : Int) ≤ at_
  · have e : partL (txtN l q) at_ n = [] := by
      unfold partL
      rcases hn with h1 | h1
      · rw [show n.toNat = 0 by omega, List.take_zero]
      · rw [List.drop_eq_nil_of_le (by rw [txt_length]; omega), List.take_nil]
    rw [e]
    exact text_no l q v at_ n w hl h hn
  · exact text_yes l q v at_ n w hl ho hq h (by omega) (by omega)
end Go.Proofs.Ytlhjbfckcfeikaa
