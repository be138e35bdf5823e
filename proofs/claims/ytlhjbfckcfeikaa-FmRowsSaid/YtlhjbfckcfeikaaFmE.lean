/- fm: place, New. -/
import Derived.Test.YtlhjbfckcfeikaaFmD
namespace Go.Proofs.Ytlhjbfckcfeikaa
set_option linter.unusedVariables false
set_option linter.unusedSimpArgs false
open Go.RowKit
attribute [local go_sem] S_size S_toList S_extract S_beq S_bne S_empty S_nil u8_beq U8_fold U8_toNat

section
variable {l : List UInt8} {q : Nat}
/-- the first j places are told -/
def PlcTo (l : List UInt8) (q j : Nat) (P : List Nat) : Prop := P.length = l.length + 1 ∧ ∀ i, i < j → P.getD (itN l q i) 0 = l.length - i
theorem PlcTo.start : PlcTo l q 0 (List.replicate (l.length + 1) 0) := ⟨by simp, fun i hi => by omega⟩
theorem PlcTo.step {P : List Nat} {j : Nat} (h : PlcTo l q j P) (ho : okI l q = true) (hq : q < l.length + 1) (hj : j ≤ l.length) : PlcTo l q (j + 1) (P.set (itN l q j) (l.length - j)) := by
  refine ⟨by rw [List.length_set]; exact h.1, fun i hi => ?_⟩
  rw [List.getD_eq_getElem?_getD, List.getElem?_set]
  by_cases e : i = j
  · subst e
    rw [if_pos rfl, if_pos (by rw [h.1]; exact it_lt l q i)]; rfl
  · rw [if_neg (fun e2 => it_inj ho hq i j (by omega) hj e2.symm), ← List.getD_eq_getElem?_getD]
    exact h.2 i (by omega)
theorem PlcTo.done {P : List Nat} (h : PlcTo l q (l.length + 1) P) (ho : okI l q = true) (hq : q < l.length + 1) : P = placesN l q := by
  refine List.ext_getElem (by rw [h.1]; simp [placesN]) fun r h1 h2 => ?_
  obtain ⟨j, hj, rfl⟩ := it_at ho hq (show r < l.length + 1 by rw [← h.1]; exact h1)
  have e1 := h.2 j (by omega)
  have e2 := places_get ho hq hj
  rw [getD_lt h1] at e1
  rw [getD_lt h2] at e2
  rw [e1, e2]
end

set_option maxRecDepth 20000 in
set_option maxHeartbeats 8000000 in
theorem place_any (l : List UInt8) (q : Nat) (p : Int) (st : Nat → Nat) (kv : Value) (g : Nat) (sv : Value) (w0 w : World) (hl : (l.length : Int) ≤ 20000) (ho : okI l q = true) (hq : q < l.length + 1)
    (hg : Blk w g 50 (idxV l p st kv (.slice none 0 0) true)) (hr : RI w0 sv (toI ((List.range (l.length + 1)).map (lfN l q)))) (hx0 : Ext w0 w) (hg0 : w0.heap.size ≤ g) :
    Calls Try.prog 27 #[.pointer (some ⟨g, 0, none⟩), sv] w fun e w' => e = .returned (.tuple #[]) ∧ But [g] w w' ∧ Blk w' g 50 (idxV l p st kv (.slice (some ⟨w.heap.size, 0, none⟩) (l.length + 1) (l.length + 1)) true) ∧ NW w' w.heap.size w.heap.size (l.length + 1) (placesN l q) := by
  have hmk := make_run w (l.length + 1) (by omega) ((l.length : Int) + 1) rfl
  have N0 := Lib.hid (NW.make w (l.length + 1) (by omega))
  have B0 := Lib.hid (hg.alloc (.cells (madeCells #[.int .i64 0] (l.length + 1)) 3))
  have X0 := Lib.hid ((But.refl [g] w).alloc (.cells (madeCells #[.int .i64 0] (l.length + 1)) 3))
  have HG := Lib.hid hg.lt
  have HX0 := Lib.hid (fun wr (x : But [g] w wr) => hx0.but x (fun k hk => by rw [List.mem_singleton.1 hk]; exact hg0))
  have HR := Lib.hid hr
  have c0 := hg.cell 0
  rw [idx_0] at c0
  have hlen : (toI ((List.range (l.length + 1)).map (lfN l q))).length = l.length + 1 := by rw [toI_length, List.length_map, List.length_range]
  obtain ⟨sa, sc, rfl, _, _, hs⟩ := hr.shape
  rw [hlen] at hs HR ⊢
  obtain ⟨gs, os, rfl, hc⟩ := hs (by omega)
  have HS := Lib.hid (fun wr (x : But [g] w wr) k (hk : k < l.length + 1) => (show wr.cell? ⟨gs, os + k, none⟩ = some (.int .i64 (lfN l q k : Int)) from by
    have h1 := Go.cell_later (HX0.out wr x) (hc k hk)
    rw [toI_getD, mr_getD _ _ _ hk] at h1
    exact h1))
  clear hg hr hx0 hlen hs hc HR HX0
  go_enter Try.func27, Try.ntmps27
  have f0 := B0.out.frozen 260
  have c1 := B0.out.cell 260
  rw [idx_p] at c1
  have h1 := B0.out.set_ 260 (.slice (some ⟨w.heap.size, 0, none⟩) (l.length + 1) (l.length + 1))
  rw [set_p] at h1
  have B1 := Lib.hid h1
  have N1 := Lib.hid (N0.out.far (p := ⟨g, 260, none⟩) (by have := HG.out; simp; omega) (.slice (some ⟨w.heap.size, 0, none⟩) (l.length + 1) (l.length + 1)))
  have X1 := Lib.hid (X0.out.set (p := ⟨g, 260, none⟩) (by simp) (.slice (some ⟨w.heap.size, 0, none⟩) (l.length + 1) (l.length + 1)))
  have c2 := h1.cell 0
  rw [idx_0] at c2
  clear h1 N0 B0 X0
  go_wp2
  have HO := Lib.hid ho
  clear c0 c1 c2 f0 hmk ho
  go_loopw [4, 5] (fun r at_ wr => ∃ (j : Nat) (P : List Nat), j ≤ l.length ∧ r = .int .i64 (itN l q j : Int) ∧ at_ = .int .i64 ((l.length : Int) - (j : Int)) ∧ PlcTo l q j P ∧ NW wr w.heap.size w.heap.size (l.length + 1) P ∧ Blk wr g 50 (idxV l p st kv (.slice (some ⟨w.heap.size, 0, none⟩) (l.length + 1) (l.length + 1)) true) ∧ But [g] w wr) (fun _ a _ => (intOf a).toNat)
  case atStart => exact ⟨0, _, Nat.zero_le _, rfl, by simp, PlcTo.start, N1.out, B1.out, X1.out⟩
  case round =>
    obtain ⟨j, P, hj, rfl, rfl, hp, hn, hb, hx⟩ := hrel
    clear N1 B1 X1
    have hit := it_lt l q j
    have c1 := hb.cell 260
    rw [idx_p] at c1
    have ci := hn.cell _ hit
    have fi := hn.free _ hit
    have hiw : (itN l q j : Int) < (l.length : Int) + 1 := by omega
    by_cases hlt : j < l.length
    · have hpos : (0 : Int) < (l.length : Int) - (j : Int) := by omega
      have N2 := hn.set (itN l q j) (l.length - j)
      rw [show ((l.length - j : Nat) : Int) = (l.length : Int) - (j : Int) by omega] at N2
      have N2 := Lib.hid N2
      have P2 := Lib.hid (hp.step HO.out hq hj)
      have B2 := Lib.hid (hb.far (p := ⟨w.heap.size, itN l q j, none⟩) (by have := HG.out; simp; omega) (.int .i64 ((l.length : Int) - (j : Int))))
      have X2 := Lib.hid (hx.set_new (p := ⟨w.heap.size, itN l q j, none⟩) (by simp) (.int .i64 ((l.length : Int) - (j : Int))))
      have cs := HS.out _ (hx.set_new (p := ⟨w.heap.size, itN l q j, none⟩) (by simp) (.int .i64 ((l.length : Int) - (j : Int)))) _ hit
      have HIT := Lib.hid (show itN l q (j + 1) = lfN l q (itN l q j) from rfl)
      have HLT := Lib.hid hlt
      clear hn hb hx hp hlt
      generalize itN l q j = r at *
      go_wp2
      go_roundw
      case rel => exact ⟨j + 1, _, by have := HLT.out; omega, by rw [HIT.out], by go_num, P2.out, N2.out, B2.out, X2.out⟩
      case measure => simp [intOf]; have := HLT.out; omega
    · obtain rfl : j = l.length := by omega
      have N2 := hn.set (itN l q l.length) (l.length - l.length)
      have P2 := hp.step HO.out hq (Nat.le_refl _)
      rw [P2.done HO.out hq, Nat.sub_self] at N2
      have N2 := Lib.hid N2
      have B2 := Lib.hid (hb.far (p := ⟨w.heap.size, itN l q l.length, none⟩) (by have := HG.out; simp; omega) (.int .i64 0))
      have X2 := Lib.hid (hx.set_new (p := ⟨w.heap.size, itN l q l.length, none⟩) (by simp) (.int .i64 0))
      clear hn hb hx hp P2
      generalize itN l q l.length = r at *
      have hpos : ¬ (0 : Int) < (l.length : Int) - (l.length : Int) := by omega
      go_wp2
      exact bodyPost_end (v := .tuple #[]) (by simp [results, Try.results27, go_sem]) rfl ⟨rfl, X2.out, B2.out, N2.out⟩
end Go.Proofs.Ytlhjbfckcfeikaa
