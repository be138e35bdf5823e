/- fm's reference: Back. -/
import Derived.Test.YtlhjbfckcfeikaaFmP
namespace Go.Proofs.Ytlhjbfckcfeikaa
set_option linter.unusedVariables false
set_option linter.unusedSimpArgs false
open Go.RowKit
theorem u8_bne (a b : UInt8) : (U8 a != U8 b) = (a != b) := by unfold bne; rw [u8_beq]
attribute [local go_sem] S_size S_toList S_extract S_beq S_bne S_empty S_nil u8_beq u8_bne U8_fold U8_toNat

set_option maxRecDepth 20000 in
set_option maxHeartbeats 16000000 in
theorem rback_any (l : List UInt8) (q : Nat) (lo hi : Int) (b : UInt8) (av : Value) (w : World) (hl : (l.length : Int) ≤ 20000) (ho : okI l q = true) (hq : q < l.length + 1) (hr : RI w av (toI (arrayL (txtN l q)))) :
    Calls Try.prog 19 #[.agg #[.string (S (txtN l q)), av], .agg #[.int .i64 lo, .int .i64 hi], .int .u8 (U8 b)] w fun e w' => e = .returned (.agg #[.int .i64 (bkR l q lo hi b).1, .int .i64 (bkR l q lo hi b).2]) ∧ Ext w w' := by
  have RS := Lib.hid rng_size
  have htl : (txtN l q).length = l.length := txt_length l q
  have hal : (toI (arrayL (txtN l q))).length = l.length + 1 := by rw [toI_length, (arrayL_is (txtN l q)).length, htl]
  obtain ⟨aa, ac, rfl, hac, _, has⟩ := hr.shape
  rw [hal] at hac has
  obtain ⟨ga, oa, rfl, hcell⟩ := has (by omega)
  have HC := Lib.hid (show ∀ k, k < l.length + 1 → w.cell? ⟨ga, oa + k, none⟩ = some (.int .i64 (plcN l q k : Int)) from fun k hk => by
    have := hcell k hk
    rw [toI_getD] at this
    exact this)
  have HPL := Lib.hid (fun i (h : i < l.length + 1) => plc_le ho hq h)
  have HPR := Lib.hid (fun i (h : i < l.length + 1) => row_plc ho hq h)
  have HRP := Lib.hid (fun p (h : p ≤ l.length) => plc_row ho hq h)
  have HRL := Lib.hid (fun p => row_lt (l := l) (q := q) p)
  have HFS := Lib.hid (fun k => fl_step (backP l q lo hi b) k)
  have hbp0 : ∀ i, backP l q lo hi b i = decide (plcN l q i < l.length ∧ (txtN l q).getD (plcN l q i) 0 = b ∧ lo ≤ (rowN l q (plcN l q i + 1) : Int) ∧ (rowN l q (plcN l q i + 1) : Int) ≤ hi) := fun _ => rfl
  obtain ⟨s, hs⟩ : ∃ s, s = txtN l q := ⟨_, rfl⟩
  rw [← hs] at hbp0 htl hal ⊢
  have HBP := Lib.hid hbp0
  have HT := Lib.hid htl
  have x1 := (Ext.refl w).alloc (.cells #[.string (S s), .slice (some ⟨ga, oa, none⟩) (l.length + 1) ac] 33)
  have x2 := x1.alloc (.cells #[.int .i64 lo, .int .i64 hi] 23)
  have x3 := x2.alloc (.cells #[.int .i64 0, .int .i64 0] 23)
  have x4 := x3.alloc (.cells #[.int .i64 1, .int .i64 0] 23)
  have B3 := Lib.hid ((((Blk.new w 33 #[.string (S s), .slice (some ⟨ga, oa, none⟩) (l.length + 1) ac]).alloc (.cells #[.int .i64 lo, .int .i64 hi] 23)).alloc (.cells #[.int .i64 0, .int .i64 0] 23)).alloc (.cells #[.int .i64 1, .int .i64 0] 23))
  have b4 := ((Blk.new (w.alloc (.cells #[.string (S s), .slice (some ⟨ga, oa, none⟩) (l.length + 1) ac] 33)) 23 #[.int .i64 lo, .int .i64 hi]).alloc (.cells #[.int .i64 0, .int .i64 0] 23)).alloc (.cells #[.int .i64 1, .int .i64 0] 23)
  rw [World.size_alloc] at b4
  have b6 := (Blk.new ((w.alloc (.cells #[.string (S s), .slice (some ⟨ga, oa, none⟩) (l.length + 1) ac] 33)).alloc (.cells #[.int .i64 lo, .int .i64 hi] 23)) 23 #[.int .i64 0, .int .i64 0]).alloc (.cells #[.int .i64 1, .int .i64 0] 23)
  rw [World.size_alloc, World.size_alloc] at b6
  have b7 := Blk.new (((w.alloc (.cells #[.string (S s), .slice (some ⟨ga, oa, none⟩) (l.length + 1) ac] 33)).alloc (.cells #[.int .i64 lo, .int .i64 hi] 23)).alloc (.cells #[.int .i64 0, .int .i64 0] 23)) 23 #[.int .i64 1, .int .i64 0]
  rw [World.size_alloc, World.size_alloc, World.size_alloc] at b7
  have B4 := Lib.hid b4
  have B6 := Lib.hid b6
  have B7 := Lib.hid b7
  have X0 := Lib.hid x4
  have HSZ := Lib.hid (show w.heap.size + 1 + 1 + 1 = (((w.alloc (.cells #[.string (S s), .slice (some ⟨ga, oa, none⟩) (l.length + 1) ac] 33)).alloc (.cells #[.int .i64 lo, .int .i64 hi] 23)).alloc (.cells #[.int .i64 0, .int .i64 0] 23)).heap.size from by rw [World.size_alloc, World.size_alloc, World.size_alloc])
  clear hbp0 hr has hcell x1 x2 x3 x4 b4 b6 b7 hac htl ho hq hs
  rw [hal]
  clear hal
  go_enter Try.func19, Try.ntmps19
  go_wp2_with (refine wpList_store_new rfl 23 (.tmp 7) (.tmp 11) rfl (congrArg (fun n => Value.pointer (some ⟨n, 0, none⟩)) HSZ.out) rfl rfl RS.out (by kernel_rfl) ?_; refine Held.go ?_)
  refine ⟨?_⟩
  clear HSZ
  generalize (((w.alloc (.cells #[.string (S s), .slice (some ⟨ga, oa, none⟩) (l.length + 1) ac] 33)).alloc (.cells #[.int .i64 lo, .int .i64 hi] 23)).alloc (.cells #[.int .i64 0, .int .i64 0] 23)).alloc (.cells #[.int .i64 1, .int .i64 0] 23) = W0 at *
  go_wp2
  go_loopw [8, 9, 10] (fun i _ _ wr => ∃ j : Nat, j ≤ l.length + 1 ∧ i = .int .i64 (j : Int) ∧ Blk wr (w.heap.size + 3) 23 #[.int .i64 (flR (backP l q lo hi b) j).1, .int .i64 (flR (backP l q lo hi b) j).2] ∧ Blk wr (w.heap.size + 2) 23 #[.int .i64 0, .int .i64 0] ∧ Blk wr (w.heap.size + 1) 23 #[.int .i64 lo, .int .i64 hi] ∧ Blk wr w.heap.size 33 #[.string (S s), .slice (some ⟨ga, oa, none⟩) (l.length + 1) ac] ∧ Ext w wr) (fun i _ _ _ => l.length + 1 - (intOf i).toNat)
  case atStart => exact ⟨0, by omega, rfl, B7.out, B6.out, B4.out, B3.out, X0.out⟩
  case round =>
    obtain ⟨j, hj, rfl, hb7, hb6, hb4, hb3, hx⟩ := hrel
    clear B7 B6 B4 B3 X0
    have c0 := hb3.cell 0
    have c1 := hb3.cell 1
    simp only [List.getElem?_toArray, List.getElem?_cons_zero, List.getElem?_cons_succ] at c0 c1
    by_cases hlt : j < l.length + 1
    · have hki : (j : Int) < (l.length : Int) + 1 := by omega
      have ca := Go.cell_later hx (HC.out j hlt)
      have hpl := HPL.out j hlt
      have hbp := HBP.out j
      have hfs := HFS.out j
      have HLT := Lib.hid hlt
      have htl := HT.out
      have htli : (s.length : Int) = (l.length : Int) := by omega
      have Z7 := Lib.hid hb7
      have Z6 := Lib.hid hb6
      have Z4 := Lib.hid hb4
      have Z3 := Lib.hid hb3
      have ZX := Lib.hid hx
      clear hb7 hb6 hb4 hb3 hx hlt hj
      by_cases hp : plcN l q j < l.length
      · have ib := index_S s (plcN l q j) (by omega) _ rfl
        by_cases hch : s.getD (plcN l q j) 0 = b
        · have hpi : (plcN l q j : Int) < (s.length : Int) := by omega
          have hbe : (s.getD (plcN l q j) 0 != b) = false := by rw [hch]; simp
          have hR := HRL.out (plcN l q j + 1)
          have hRP := HRP.out (plcN l q j + 1) (by omega)
          have HBQ := Lib.hid (show backP l q lo hi b j = decide (lo ≤ (rowN l q (plcN l q j + 1) : Int) ∧ (rowN l q (plcN l q j + 1) : Int) ≤ hi) from by
            rw [hbp]
            congr 1
            exact propext ⟨fun h => h.2.2, fun h => ⟨hp, hch, h⟩⟩)
          have HFQ := Lib.hid hfs
          clear hfs hbp hch
          generalize s.getD (plcN l q j) 0 = x at *
          generalize hpp : plcN l q j = p at *
          clear hpp
          generalize rowN l q (p + 1) = R at *
          generalize hF1 : flR (backP l q lo hi b) (j + 1) = o1 at *
          have HF := Lib.hid hF1
          clear hF1
          generalize hF0 : flR (backP l q lo hi b) j = o0 at *
          clear hF0
          generalize backP l q lo hi b j = bj at *
          have HRR := Lib.hid hR
          have HRPP := Lib.hid hRP
          clear hR hRP
          go_wp2
          clear c0 c1 ca ib hbe
          generalize wr = W1 at *
          go_loopw [10] (fun i wr => ∃ k : Nat, k ≤ l.length + 1 ∧ i = .int .i64 (k : Int) ∧ Blk wr (w.heap.size + 3) 23 #[.int .i64 (if R < k ∧ (lo ≤ (R : Int) ∧ (R : Int) ≤ hi) then o1 else o0).1, .int .i64 (if R < k ∧ (lo ≤ (R : Int) ∧ (R : Int) ≤ hi) then o1 else o0).2] ∧ Blk wr (w.heap.size + 2) 23 #[.int .i64 0, .int .i64 0] ∧ Blk wr (w.heap.size + 1) 23 #[.int .i64 lo, .int .i64 hi] ∧ Blk wr w.heap.size 33 #[.string (S s), .slice (some ⟨ga, oa, none⟩) (l.length + 1) ac] ∧ Ext w wr) (fun i _ => l.length + 1 - (intOf i).toNat)
          case atStart => exact ⟨0, by omega, rfl, by rw [if_neg (fun h => by omega)]; exact Z7.out, Z6.out, Z4.out, Z3.out, ZX.out⟩
          case round =>
            obtain ⟨k, hk, rfl, hb7, hb6, hb4, hb3, hx⟩ := hrel
            clear Z7 Z6 Z4 Z3 ZX
            have c1 := hb3.cell 1
            have r0 := hb4.cell 0
            have r1 := hb4.cell 1
            simp only [List.getElem?_toArray, List.getElem?_cons_zero, List.getElem?_cons_succ] at c1 r0 r1
            by_cases hlt2 : k < l.length + 1
            · have hki2 : (k : Int) < (l.length : Int) + 1 := by omega
              have ca2 := Go.cell_later hx (HC.out k hlt2)
              have HLT2 := Lib.hid hlt2
              by_cases hkR : k = R
              · subst hkR
                rw [HRPP.out, show ((p + 1 : Nat) : Int) = (p : Int) + 1 from rfl] at ca2
                have hne : ((p : Int) + 1 != (p : Int) + 1) = false := by simp
                rw [if_neg (fun h => by omega)] at hb7
                by_cases hlo : (k : Int) < lo
                · have HN := Lib.hid (show (if k < k + 1 ∧ (lo ≤ (k : Int) ∧ (k : Int) ≤ hi) then o1 else o0) = o0 from if_neg (fun h => by omega))
                  have G7 := Lib.hid hb7
                  have G6 := Lib.hid hb6
                  have G4 := Lib.hid hb4
                  have G3 := Lib.hid hb3
                  have GX := Lib.hid hx
                  clear hb7 hb6 hb4 hb3 hx hlt2 hk
                  go_wp2
                  go_roundw
                  case rel => exact ⟨k + 1, by have := HLT2.out; omega, by go_num, by rw [HN.out]; exact G7.out, G6.out, G4.out, G3.out, GX.out⟩
                  case measure => simp [intOf]; have := HLT2.out; omega
                by_cases hhi : hi < (k : Int)
                · have HN := Lib.hid (show (if k < k + 1 ∧ (lo ≤ (k : Int) ∧ (k : Int) ≤ hi) then o1 else o0) = o0 from if_neg (fun h => by omega))
                  have G7 := Lib.hid hb7
                  have G6 := Lib.hid hb6
                  have G4 := Lib.hid hb4
                  have G3 := Lib.hid hb3
                  have GX := Lib.hid hx
                  clear hb7 hb6 hb4 hb3 hx hlt2 hk
                  go_wp2
                  go_roundw
                  case rel => exact ⟨k + 1, by have := HLT2.out; omega, by go_num, by rw [HN.out]; exact G7.out, G6.out, G4.out, G3.out, GX.out⟩
                  case measure => simp [intOf]; have := HLT2.out; omega
                · have HN := Lib.hid (show (if k < k + 1 ∧ (lo ≤ (k : Int) ∧ (k : Int) ≤ hi) then o1 else o0) = o1 from if_pos (by omega))
                  have hfs := HFQ.out
                  rw [HBQ.out, decide_eq_true (show lo ≤ (k : Int) ∧ (k : Int) ≤ hi by omega)] at hfs
                  have d0 := hb7.cell 0
                  have d1 := hb7.cell 1
                  have f0 := hb7.frozen 0
                  have f1 := hb7.frozen 1
                  simp only [List.getElem?_toArray, List.getElem?_cons_zero, List.getElem?_cons_succ] at d0 d1
                  rcases hfs with h | ⟨_, e2, e3⟩ | ⟨_, e2, e3⟩
                  · cases h.1
                  · have HE3 := Lib.hid e3
                    obtain ⟨oa0, ob0⟩ := o0
                    dsimp only at e2 hb7 d0 d1
                    have G7 := Lib.hid (Blk.set_ (Blk.set_ hb7 0 (.int .i64 (j : Int))) 1 (.int .i64 (j : Int)))
                    have G6 := Lib.hid (Blk.far (Blk.far hb6 (p := ⟨w.heap.size + 3, 0, none⟩) (by simp) (.int .i64 (j : Int))) (p := ⟨w.heap.size + 3, 1, none⟩) (by simp) (.int .i64 (j : Int)))
                    have G4 := Lib.hid (Blk.far (Blk.far hb4 (p := ⟨w.heap.size + 3, 0, none⟩) (by simp) (.int .i64 (j : Int))) (p := ⟨w.heap.size + 3, 1, none⟩) (by simp) (.int .i64 (j : Int)))
                    have G3 := Lib.hid (Blk.far (Blk.far hb3 (p := ⟨w.heap.size + 3, 0, none⟩) (by simp) (.int .i64 (j : Int))) (p := ⟨w.heap.size + 3, 1, none⟩) (by simp) (.int .i64 (j : Int)))
                    have GX := Lib.hid (Ext.set (Ext.set hx (p := ⟨w.heap.size + 3, 0, none⟩) (by simp) (.int .i64 (j : Int))) (p := ⟨w.heap.size + 3, 1, none⟩) (by simp) (.int .i64 (j : Int)))
                    clear hb7 hb6 hb4 hb3 hx hlt2 hk e3
                    go_wp2
                    refine ⟨⟨k + 1, by have := HLT2.out; omega, by go_num, by rw [HN.out, HE3.out]; exact G7.out, G6.out, G4.out, G3.out, GX.out⟩, ?_⟩
                    simp [intOf]; have := HLT2.out; omega
                  · have HE3 := Lib.hid e3
                    obtain ⟨oa0, ob0⟩ := o0
                    dsimp only at e2 e3 hb7 d0 d1 HE3
                    have G7 := Lib.hid (Blk.set_ hb7 1 (.int .i64 (j : Int)))
                    have G6 := Lib.hid (Blk.far hb6 (p := ⟨w.heap.size + 3, 1, none⟩) (by simp) (.int .i64 (j : Int)))
                    have G4 := Lib.hid (Blk.far hb4 (p := ⟨w.heap.size + 3, 1, none⟩) (by simp) (.int .i64 (j : Int)))
                    have G3 := Lib.hid (Blk.far hb3 (p := ⟨w.heap.size + 3, 1, none⟩) (by simp) (.int .i64 (j : Int)))
                    have GX := Lib.hid (Ext.set hx (p := ⟨w.heap.size + 3, 1, none⟩) (by simp) (.int .i64 (j : Int)))
                    clear hb7 hb6 hb4 hb3 hx hlt2 hk e3
                    go_wp2
                    refine ⟨⟨k + 1, by have := HLT2.out; omega, by go_num, by rw [HN.out, HE3.out]; exact G7.out, G6.out, G4.out, G3.out, GX.out⟩, ?_⟩
                    simp [intOf]; have := HLT2.out; omega
              · have hne0 : ¬ plcN l q k = p + 1 := fun e => by
                  have h1 := HPR.out k hlt2
                  rw [e, ← HRPP.out] at h1
                  have h2 := HPR.out R HRR.out
                  rw [h1] at h2
                  exact hkR h2
                have hne : ((plcN l q k : Int) != (p : Int) + 1) = true := by rw [bne_iff_ne]; omega
                have HN := Lib.hid (show (if R < k + 1 ∧ (lo ≤ (R : Int) ∧ (R : Int) ≤ hi) then o1 else o0) = (if R < k ∧ (lo ≤ (R : Int) ∧ (R : Int) ≤ hi) then o1 else o0) from by
                  by_cases h : R < k
                  · simp only [h, show R < k + 1 by omega]
                  · simp only [h, show ¬ R < k + 1 by omega])
                have G7 := Lib.hid hb7
                have G6 := Lib.hid hb6
                have G4 := Lib.hid hb4
                have G3 := Lib.hid hb3
                have GX := Lib.hid hx
                clear hb7 hb6 hb4 hb3 hx hlt2 hk hne0
                generalize plcN l q k = pk at *
                go_wp2
                go_roundw
                case rel => exact ⟨k + 1, by have := HLT2.out; omega, by go_num, by rw [HN.out]; exact G7.out, G6.out, G4.out, G3.out, GX.out⟩
                case measure => simp [intOf]; have := HLT2.out; omega
            · have hki2 : ¬ (k : Int) < (l.length : Int) + 1 := by omega
              have HE := Lib.hid (show (if R < k ∧ (lo ≤ (R : Int) ∧ (R : Int) ≤ hi) then o1 else o0) = o1 from by
                by_cases h : lo ≤ (R : Int) ∧ (R : Int) ≤ hi
                · exact if_pos ⟨by have := HRR.out; omega, h⟩
                · rw [if_neg (fun h2 => h h2.2)]
                  have hfs := HFQ.out
                  rw [HBQ.out, decide_eq_false h] at hfs
                  rcases hfs with h | h | h
                  · exact h.2.symm
                  · cases h.1
                  · cases h.1)
              rw [HE.out] at hb7
              have G7 := Lib.hid hb7
              have G6 := Lib.hid hb6
              have G4 := Lib.hid hb4
              have G3 := Lib.hid hb3
              have GX := Lib.hid hx
              clear hb7 hb6 hb4 hb3 hx hk hlt2 HE
              go_wp2
              go_roundw
              case rel => exact ⟨j + 1, by have := HLT.out; omega, by go_num, by rw [HF.out]; exact G7.out, G6.out, G4.out, G3.out, GX.out⟩
              case measure => simp [intOf]; have := HLT.out; omega
        · rw [decide_eq_false (fun h => hch h.2.1)] at hbp
          rw [hbp] at hfs
          have hpi : (plcN l q j : Int) < (s.length : Int) := by omega
          have hbe : (s.getD (plcN l q j) 0 != b) = true := by simpa using hch
          have HF := Lib.hid (show flR (backP l q lo hi b) (j + 1) = flR (backP l q lo hi b) j from by
            rcases hfs with h | h | h
            · exact h.2
            · cases h.1
            · cases h.1)
          clear hfs hbp hch
          generalize s.getD (plcN l q j) 0 = x at *
          generalize plcN l q j = p at *
          go_wp2
          go_roundw
          case rel => exact ⟨j + 1, by have := HLT.out; omega, by go_num, by rw [HF.out]; exact Z7.out, Z6.out, Z4.out, Z3.out, ZX.out⟩
          case measure => simp [intOf]; have := HLT.out; omega
      · have hpi : ¬ (plcN l q j : Int) < (s.length : Int) := by omega
        rw [decide_eq_false (fun h => hp h.1)] at hbp
        rw [hbp] at hfs
        have HF := Lib.hid (show flR (backP l q lo hi b) (j + 1) = flR (backP l q lo hi b) j from by
          rcases hfs with h | h | h
          · exact h.2
          · cases h.1
          · cases h.1)
        clear hfs hbp hp
        generalize plcN l q j = p at *
        go_wp2
        go_roundw
        case rel => exact ⟨j + 1, by have := HLT.out; omega, by go_num, by rw [HF.out]; exact Z7.out, Z6.out, Z4.out, Z3.out, ZX.out⟩
        case measure => simp [intOf]; have := HLT.out; omega
    · have hki : ¬ (j : Int) < (l.length : Int) + 1 := by omega
      have hb7 := (show j = l.length + 1 by omega) ▸ hb7
      have B7 := Lib.hid hb7
      have B6 := Lib.hid hb6
      have X1 := Lib.hid hx
      clear hb7 hb6 hb4 hb3 hx hj hlt HPL HPR HRP HRL HFS HBP HC
      go_wp2_with (first
        | (refine wpList_load_blk rfl 23 (.tmp 7) rfl rfl B7.out Try.underlying23 rfl RS.out ?_)
        | (refine wpList_store_blk rfl 23 (.tmp 6) (.tmp 73) rfl rfl rfl B6.out rfl RS.out (by kernel_rfl) ?_; refine Held.go ?_))
      refine ⟨?_⟩
      go_wp2
      exact bodyPost_ret (results_cell_row rfl _ _ (w.heap.size + 2) _ _ (0, 0) _ rfl (B6.out.setRow _) Try.underlying23 rfl RS.out) rfl ⟨rfl, Ext.setRow X1.out (by omega) _⟩
end Go.Proofs.Ytlhjbfckcfeikaa
