/- suffix: the reference's Find. -/
import Derived.Test.YteflhfofahdckaaSufV
import Derived.Test.YteflhfofahdckaaSufT
namespace Go.Proofs.Yteflhfofahdckaa
set_option linter.unusedVariables false
set_option linter.unusedSimpArgs false
open Go.RowKit
attribute [local go_sem] S_size S_toList S_extract S_beq S_bne S_empty S_nil

theorem scan_yes {Q : Nat → Bool} {k : Nat} (h : Q k = true) (hl : (scanN Q k).2 < (scanN Q k).1) : scanN Q (k + 1) = ((k : Int), (k : Int)) := by
  unfold scanN; rw [if_pos h, if_pos hl]
theorem scan_more {Q : Nat → Bool} {k : Nat} (h : Q k = true) (hl : ¬ (scanN Q k).2 < (scanN Q k).1) : scanN Q (k + 1) = ((scanN Q k).1, (k : Int)) := by
  conv => lhs; unfold scanN
  rw [if_pos h, if_neg hl]
theorem scan_no {Q : Nat → Bool} {k : Nat} (h : Q k = false) : scanN Q (k + 1) = scanN Q k := by
  conv => lhs; unfold scanN
  rw [if_neg (by rw [h]; simp)]

set_option maxRecDepth 20000 in
set_option maxHeartbeats 8000000 in
theorem rfind_any (s what : List UInt8) (ar : List Int) (v : Value) (w : World) (hr : RI w v ar) (hl : (ar.length : Int) ≤ 20001) (hs : (s.length : Int) ≤ 20000) (hw : (what.length : Int) ≤ 100000) :
    Calls Try.prog 32 #[.string (S s), v, .string (S what)] w fun e w' => e = .returned (.tuple #[.agg #[.int .i64 (fndR s ar what).1, .int .i64 (fndR s ar what).2], .int .i64 (fndE s ar)]) ∧ Ext w w' := by
  obtain ⟨a, c, rfl, hlc, _, hsh⟩ := hr.shape
  have HS := Lib.hid hsh
  have HR := Lib.hid hr
  have RS := Lib.hid rng_size
  have XX := Lib.hid ((Ext.refl w).alloc (.cells #[.int .i64 0, .int .i64 0] 53))
  have BB4 := Lib.hid (Blk.new w 53 #[.int .i64 0, .int .i64 0])
  clear hsh hr
  go_enter Try.func32, Try.ntmps32
  go_wp2_with fail
  generalize w.alloc (.cells #[.int .i64 0, .int .i64 0] 53) = W0 at *
  have HK := Lib.hid (fun x (h : Ext W0 x) => rranks_any ar (.slice a ar.length c) x (HR.out.ext (XX.out.trans h)) (by omega))
  refine (HK.out _ (Ext.refl _)).mono ?_
  rintro e w1 ⟨u, rfl, x1, hru⟩
  clear HK hru
  have X1 := Lib.hid x1
  have B4 := Lib.hid (BB4.out.ext x1)
  clear x1
  cases hp : okP ar with
  | false =>
    have HF := Lib.hid (fnd_false (s := s) (what := what) (ar := ar) (okC_false (by unfold okC; rw [hp]; rfl)))
    rw [(rk_false hp).1]
    go_wp2_with (refine wpList_store_blk rfl 53 (.tmp 6) (.tmp 28) rfl rfl rfl B4.out rfl RS.out (by kernel_rfl) ?_)
    exact bodyPost_ret (results_row_tmp rfl _ _ w.heap.size _ _ (0, 0) _ rfl (B4.out.setRow #[.int .i64 0, .int .i64 0]) Try.underlying53 rfl RS.out) rfl ⟨by rw [HF.out.1, HF.out.2]; rfl, (XX.out.trans X1.out).setRow (Nat.le_refl _) _⟩
  | true =>
    rw [rk_true hp]
    by_cases hlen : ar.length = s.length + 1
    · have HOK := Lib.hid (show okC s ar = true by unfold okC; rw [hp, Bool.true_and]; exact decide_eq_true hlen)
      have hbb : ((ar.length : Int) != (s.length : Int) + 1) = false := bne_eq_false_iff_eq.2 (by omega)
      have W1 := w64_small (n := (s.length : Int) + 1) (by omega) (by omega)
      have HLEN := Lib.hid hlen
      have HRNG := Lib.hid (show ∀ i, i < ar.length → 0 ≤ ar.getD i 0 ∧ ar.getD i 0 ≤ (s.length : Int) from fun i hi => by
        have := okP_in hp hi
        omega)
      have n1 : ¬ (20000 : Int) < (s.length : Int) := by omega
      clear hp hlen
      go_wp2
      go_loopw [10] (fun i wr => ∃ k : Nat, 1 ≤ k ∧ k ≤ ar.length ∧ i = .int .i64 (k : Int) ∧ (∀ j, j + 1 < k → Op.bytesLess (endAt s ar j) (endAt s ar (j + 1)) = true) ∧ Ext w1 wr) (fun i _ => ar.length - (intOf i).toNat)
      case atStart => exact ⟨1, by omega, by have := HLEN.out; omega, rfl, fun j hj => by omega, Ext.refl _⟩
      case round =>
        obtain ⟨k, hk1, hk, rfl, hall, hx⟩ := hrel
        have HX := Lib.hid (X1.out.trans hx)
        have HXR := Lib.hid hx
        have HALL := Lib.hid hall
        clear hall
        by_cases hlt : k < ar.length
        · obtain ⟨j, rfl⟩ : ∃ j, k = j + 1 := ⟨k - 1, by omega⟩
          obtain ⟨ga, oa, rfl, hca⟩ := HS.out (by omega)
          have h1 := HRNG.out j (by omega)
          have h2 := HRNG.out (j + 1) hlt
          obtain ⟨q, hq⟩ : ∃ q : Nat, ar.getD j 0 = (q : Int) := ⟨(ar.getD j 0).toNat, by omega⟩
          obtain ⟨p, hp⟩ : ∃ p : Nat, ar.getD (j + 1) 0 = (p : Int) := ⟨(ar.getD (j + 1) 0).toNat, by omega⟩
          have he : endAt s ar j = s.drop q := by unfold endAt placeN; rw [hq, Int.toNat_natCast]
          have he2 : endAt s ar (j + 1) = s.drop p := by unfold endAt placeN; rw [hp, Int.toNat_natCast]
          have cq := Go.cell_later (XX.out.trans HX.out) (hca j (by omega))
          have cp := Go.cell_later (XX.out.trans HX.out) (hca (j + 1) hlt)
          rw [hq] at cq
          rw [hp] at cp
          have CQ := Lib.hid (up_cell (W := wr) cq)
          have CP := Lib.hid (up_cell (W := wr) cp)
          have hpl : (p : Int) ≤ (s.length : Int) := by omega
          have hql : (q : Int) ≤ (s.length : Int) := by omega
          have hjn : (j : Int) + 1 < (ar.length : Int) := by omega
          have hjl : (j : Int) < (ar.length : Int) := by omega
          have hac : (ar.length : Int) ≤ (c : Int) := by omega
          have ew : IntKind.i64.wrap (j : Int) = (j : Int) := IntWalk.i64_in _ (by omega)
          have ew2 : (0 : Int) ≤ (j : Int) + 1 := by omega
          have B4 := Lib.hid (BB4.out.ext HX.out)
          cases hb : Op.bytesLess (s.drop q) (s.drop p) with
          | true =>
            have HST := Lib.hid (show ∀ i, i + 1 < j + 1 + 1 → Op.bytesLess (endAt s ar i) (endAt s ar (i + 1)) = true from fun i hi => by
              rcases Nat.lt_or_ge (i + 1) (j + 1) with h | h
              · exact HALL.out i h
              · have : i = j := by omega
                subst this; rw [he, he2]; exact hb)
            clear hx h1 h2 hq hp he he2 hca cq cp
            go_wp2_with fail
            have cq := CQ.out
            have cp := CP.out
            refine wp_region_up (by kernel_rfl) (by kernel_rfl) ?_
            repeat (go_big_quiet_step (fail))
            refine wpQuiet_nil ?_
            rintro _ ⟨y2, rfl⟩
            have HXW := Lib.hid (HXR.out.trans y2.ext)
            generalize y2.val = w3 at *
            clear cq cp CQ CP
            go_wp2
            go_roundw
            case rel => exact ⟨j + 2, by omega, by omega, by go_num, HST.out, HXW.out⟩
            case measure => simp [intOf]; omega
          | false =>
            have HF := Lib.hid (fnd_false (s := s) (what := what) (ar := ar) (Bool.eq_false_iff.2 fun h => by
              have e := of_decide_eq_true h
              have h5 := ends_less (s := s) (i := j) (j := j + 1) (by omega) (by have := HLEN.out; omega)
              rw [← e, he, he2, hb] at h5
              cases h5))
            clear hx h1 h2 hq hp he he2 hca cq cp
            go_wp2_with fail
            have cq := CQ.out
            have cp := CP.out
            refine wp_region_up (by kernel_rfl) (by kernel_rfl) ?_
            repeat (go_big_quiet_step (fail))
            refine wpQuiet_nil ?_
            rintro _ ⟨y2, rfl⟩
            have HXW := Lib.hid (HX.out.trans y2.ext)
            have B4 := Lib.hid (BB4.out.ext HXW.out)
            generalize y2.val = w3 at *
            clear cq cp CQ CP
            go_wp2_with (refine wpList_store_blk rfl 53 (.tmp 6) (.tmp 53) rfl rfl rfl B4.out rfl RS.out (by kernel_rfl) ?_)
            exact bodyPost_ret (results_row_tmp rfl _ _ w.heap.size _ _ (0, 0) _ rfl (B4.out.setRow #[.int .i64 0, .int .i64 0]) Try.underlying53 rfl RS.out) rfl ⟨by rw [HF.out.1, HF.out.2]; rfl, (XX.out.trans HXW.out).setRow (Nat.le_refl _) _⟩
        · have e : k = ar.length := by omega
          subst e
          have hF := okF_of HOK.out (fun i hi => HALL.out i hi)
          have HF := Lib.hid (fnd_true (s := s) (what := what) (ar := ar) hF)
          have B11 := Lib.hid (Blk.new wr 53 #[.int .i64 1, .int .i64 0])
          have hxa := Lib.hid (HX.out.alloc (.cells #[.int .i64 1, .int .i64 0] 53))
          clear hx hF HALL
          go_wp2_with (refine wpList_store_new (cs' := #[.int .i64 1, .int .i64 0]) rfl 53 (.tmp 11) (.tmp 54) rfl rfl rfl RS.out (by kernel_rfl) ?_)
          generalize hQ : preAt s ar what = Q at *
          have HQ := Lib.hid hQ
          clear hQ
          go_loopw [12] (fun i w2 => ∃ k : Nat, k ≤ ar.length ∧ i = .int .i64 (k : Int) ∧ Blk w2 wr.heap.size 53 #[.int .i64 (scanN Q k).1, .int .i64 (scanN Q k).2] ∧ Ext wr w2) (fun i _ => ar.length - (intOf i).toNat)
          case atStart => exact ⟨0, by omega, rfl, B11.out, (Ext.refl _).alloc _⟩
          case round =>
            rename World => w2
            obtain ⟨k, hk, rfl, hb, hx2⟩ := hrel
            have HX2 := Lib.hid (HX.out.trans hx2)
            have HXR2 := Lib.hid hx2
            have HB := Lib.hid hb
            clear B11 hxa hx2
            by_cases hlt : k < ar.length
            · obtain ⟨ga, oa, rfl, hca⟩ := HS.out (by omega)
              have h1 := HRNG.out k hlt
              obtain ⟨q, hq⟩ : ∃ q : Nat, ar.getD k 0 = (q : Int) := ⟨(ar.getD k 0).toNat, by omega⟩
              have he : endAt s ar k = s.drop q := by unfold endAt placeN; rw [hq, Int.toNat_natCast]
              have hpre : Q k = true ↔ alikeN (s.drop q) what = what.length := by
                rw [← HQ.out, alikeN_pre, ← he]
                exact preB_iff
              have cq := Go.cell_later (XX.out.trans HX2.out) (hca k hlt)
              rw [hq] at cq
              have QA := Lib.hid (fun x => refAlike_any (s.drop q) what x (by rw [List.length_drop]; omega) (by omega))
              have hql : (q : Int) ≤ (s.length : Int) := by omega
              have hjl : (k : Int) < (ar.length : Int) := by omega
              have hac : (ar.length : Int) ≤ (c : Int) := by omega
              clear h1 hq hca hb
              by_cases hy : alikeN (s.drop q) what = what.length
              · have hQk := hpre.2 hy
                have hbe : (((alikeN (s.drop q) what : Nat) : Int) == (what.length : Int)) = true := beq_iff_eq.2 (by omega)
                have hbe2 : ((alikeN (s.drop q) what : Nat) : Int) = (what.length : Int) := by omega
                by_cases hsc : (scanN Q k).2 < (scanN Q k).1
                · have HST := Lib.hid (scan_yes hQk hsc)
                  clear hpre hy hQk he hbe
                  rw [hbe2] at QA
                  clear hbe2
                  generalize (scanN Q k).1 = f1 at *
                  generalize (scanN Q k).2 = f2 at *
                  go_wp2_with fail
                  refine (QA.out _).mono ?_
                  rintro e w3 ⟨rfl, x3⟩
                  have B3 := HB.out.ext x3
                  have c0 := B3.cell 0
                  have c1 := B3.cell 1
                  have f0 := B3.frozen 0
                  have B5 := B3.set_ 0 (.int .i64 (k : Int))
                  have f5 := B5.frozen 1
                  have c5 := B5.cell 1
                  have B6 := Lib.hid (B5.set_ 1 (.int .i64 (k : Int)))
                  have HX6 := Lib.hid (Ext.set (Ext.set (HXR2.out.trans x3) (p := ⟨wr.heap.size, 0, none⟩) (Nat.le_refl _) (.int .i64 (k : Int))) (p := ⟨wr.heap.size, 1, none⟩) (Nat.le_refl _) (.int .i64 (k : Int)))
                  simp only [List.setIfInBounds_toArray, List.set_cons_succ, List.set_cons_zero, List.getElem?_toArray, List.getElem?_cons_zero, List.getElem?_cons_succ] at c0 c1 c5 B6
                  clear x3 B3 B5
                  go_wp2
                  go_roundw
                  case rel => exact ⟨k + 1, by omega, by go_num, by rw [HST.out]; exact B6.out, HX6.out⟩
                  case measure => simp [intOf]; omega
                · have HST := Lib.hid (scan_more hQk hsc)
                  clear hpre hy hQk he hbe
                  rw [hbe2] at QA
                  clear hbe2
                  generalize (scanN Q k).1 = f1 at *
                  generalize (scanN Q k).2 = f2 at *
                  go_wp2_with fail
                  refine (QA.out _).mono ?_
                  rintro e w3 ⟨rfl, x3⟩
                  have B3 := HB.out.ext x3
                  have c0 := B3.cell 0
                  have c1 := B3.cell 1
                  have fz1 := B3.frozen 1
                  have B6 := Lib.hid (B3.set_ 1 (.int .i64 (k : Int)))
                  have HX6 := Lib.hid (Ext.set (HXR2.out.trans x3) (p := ⟨wr.heap.size, 1, none⟩) (Nat.le_refl _) (.int .i64 (k : Int)))
                  simp only [List.setIfInBounds_toArray, List.set_cons_succ, List.set_cons_zero, List.getElem?_toArray, List.getElem?_cons_zero, List.getElem?_cons_succ] at c0 c1 B6
                  have hsc : ¬ f2 < f1 := by omega
                  clear x3 B3
                  go_wp2
                  go_roundw
                  case rel => exact ⟨k + 1, by omega, by go_num, by rw [HST.out]; exact B6.out, HX6.out⟩
                  case measure => simp [intOf]; omega
              · have HST := Lib.hid (scan_no (Q := Q) (k := k) (Bool.eq_false_iff.2 fun h => hy (hpre.1 h)))
                have hbe2 : ¬ ((alikeN (s.drop q) what : Nat) : Int) = (what.length : Int) := by omega
                clear hpre hy he
                generalize alikeN (s.drop q) what = al at *
                go_wp2_with fail
                refine (QA.out _).mono ?_
                rintro e w3 ⟨rfl, x3⟩
                have B3 := Lib.hid (HB.out.ext x3)
                have HX6 := Lib.hid (HXR2.out.trans x3)
                have hbe : (((al : Nat) : Int) == (what.length : Int)) = false := beq_eq_false_iff_ne.2 hbe2
                clear x3
                go_wp2
                go_roundw
                case rel => exact ⟨k + 1, by omega, by go_num, by rw [HST.out]; exact B3.out, HX6.out⟩
                case measure => simp [intOf]; omega
            · have e : k = ar.length := by omega
              subst e
              have HR3 := Lib.hid (show fndL s ar what = scanN Q ar.length by unfold fndL; rw [HQ.out])
              have B4 := Lib.hid (BB4.out.ext HX2.out)
              clear hb
              generalize scanN Q ar.length = r at *
              go_wp2_with (first
                | (refine wpList_load_blk rfl 53 (.tmp 11) rfl rfl HB.out Try.underlying53 rfl RS.out ?_)
                | (refine wpList_store_blk rfl 53 (.tmp 6) (.tmp 81) rfl rfl rfl B4.out rfl RS.out (by kernel_rfl) ?_))
              exact bodyPost_ret (results_row_tmp rfl _ _ w.heap.size _ _ (0, 0) _ rfl (B4.out.setRow #[.int .i64 r.1, .int .i64 r.2]) Try.underlying53 rfl RS.out) rfl ⟨by rw [HF.out.1, HF.out.2, HR3.out]; rfl, (XX.out.trans HX2.out).setRow (Nat.le_refl _) _⟩
    · have HF := Lib.hid (fnd_false (s := s) (what := what) (ar := ar) (okC_false (by unfold okC; rw [hp, Bool.true_and]; exact decide_eq_false hlen)))
      have hl2 : ¬ (ar.length : Int) = (s.length : Int) + 1 := by omega
      have W1 := w64_small (n := (s.length : Int) + 1) (by omega) (by omega)
      have hbb : ((ar.length : Int) != (s.length : Int) + 1) = true := by simpa using hl2
      clear hp hlen hl2
      go_wp2_with (refine wpList_store_blk rfl 53 (.tmp 6) (.tmp 28) rfl rfl rfl B4.out rfl RS.out (by kernel_rfl) ?_)
      exact bodyPost_ret (results_row_tmp rfl _ _ w.heap.size _ _ (0, 0) _ rfl (B4.out.setRow #[.int .i64 0, .int .i64 0]) Try.underlying53 rfl RS.out) rfl ⟨by rw [HF.out.1, HF.out.2]; rfl, (XX.out.trans X1.out).setRow (Nat.le_refl _) _⟩
end Go.Proofs.Yteflhfofahdckaa
