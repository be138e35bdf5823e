/- Several texts in one. merged: BwI BwJ BwK BwL BwM BwN -/
import Derived.Test.YtlhjbfckcfeikaaMkD
import Derived.Test.YtlhjbfckcfeikaaBytesG
import Derived.Test.YtlhjbfckcfeikaaAppFull
import Derived.OwnWalk
namespace Go.Proofs.Ytlhjbfckcfeikaa
set_option linter.unusedVariables false
set_option linter.unusedSimpArgs false
open Go.RowKit

attribute [local go_sem] S_size S_toList S_extract S_beq S_bne S_empty S_nil u8_beq U8_fold U8_toNat

theorem may_cases {l : List UInt8} {p : Int} (h : mayP l p = false) : ((l.length : Int) = 0 ∧ p ≠ 0) ∨ (0 < (l.length : Int) ∧ p < 1) ∨ (0 < (l.length : Int) ∧ ¬ p < 1 ∧ (l.length : Int) < p) := by
  unfold mayP at h
  split at h
  · rename_i e
    have := of_decide_eq_false h
    exact .inl ⟨by rw [e]; rfl, this⟩
  · rename_i e
    have := of_decide_eq_false h
    have : 0 < l.length := List.length_pos_iff.2 e
    omega
theorem may_true {l : List UInt8} {q : Nat} (h : mayP l (q : Int) = true) : ((l.length : Int) = 0 ∧ q = 0) ∨ (0 < (l.length : Int) ∧ ¬ (q : Int) < 1 ∧ ¬ (l.length : Int) < (q : Int)) := by
  unfold mayP at h
  split at h
  · rename_i e
    have := of_decide_eq_true h
    exact .inl ⟨by rw [e]; rfl, by omega⟩
  · rename_i e
    have := of_decide_eq_true h
    have : 0 < l.length := List.length_pos_iff.2 e
    omega

set_option maxRecDepth 20000 in
set_option maxHeartbeats 4000000 in
theorem rsteps_bad (l : List UInt8) (p : Int) (w : World) (hl : (l.length : Int) ≤ 20000) (hm : mayP l p = false) :
    Calls Try.prog 51 #[.string (S l), .int .i64 p] w fun e w' => ∃ u, e = .returned (.tuple #[u, .int .i64 (stpE l p)]) ∧ Ext w w' ∧ RI w' u (toI (stpL l p)) := by
  have HF := Lib.hid (stp_no hm)
  have n1 : ¬ (20000 : Int) < (l.length : Int) := by omega
  rcases may_cases hm with ⟨h1, h2⟩ | ⟨h1, h2⟩ | ⟨h1, h2, h3⟩
  · have e1 : ((l.length : Int) == 0) = true := by simpa using h1
    have e2 : (p == 0) = false := by simpa using h2
    clear hm
    go_enter Try.func51, Try.ntmps51
    go_wp2
    go_ret2
    exact ⟨_, by rw [HF.out.1]; rfl, Ext.refl _, by rw [HF.out.2]; exact RI.nil _⟩
  · have e1 : ((l.length : Int) == 0) = false := beq_eq_false_iff_ne.2 (by omega)
    clear hm
    go_enter Try.func51, Try.ntmps51
    go_wp2
    go_ret2
    exact ⟨_, by rw [HF.out.1]; rfl, Ext.refl _, by rw [HF.out.2]; exact RI.nil _⟩
  · have e1 : ((l.length : Int) == 0) = false := beq_eq_false_iff_ne.2 (by omega)
    clear hm
    go_enter Try.func51, Try.ntmps51
    go_wp2
    go_ret2
    exact ⟨_, by rw [HF.out.1]; rfl, Ext.refl _, by rw [HF.out.2]; exact RI.nil _⟩

theorem refP_yes {l : List UInt8} {q row k : Nat} (h : k ≠ q ∧ ((byteAt l q k).toNat < (byteAt l q row).toNat ∨ (byteAt l q k).toNat = (byteAt l q row).toNat ∧ k < row)) : countB (refP l q row) (k + 1) = countB (refP l q row) k + 1 := by
  rw [countB_succ, if_pos (show refP l q row k = true from decide_eq_true h)]
theorem refP_no {l : List UInt8} {q row k : Nat} (h : ¬ (k ≠ q ∧ ((byteAt l q k).toNat < (byteAt l q row).toNat ∨ (byteAt l q k).toNat = (byteAt l q row).toNat ∧ k < row))) : countB (refP l q row) (k + 1) = countB (refP l q row) k := by
  rw [countB_succ, if_neg (show ¬ refP l q row k = true from fun e => h (of_decide_eq_true e))]; rfl
theorem col_ne {l : List UInt8} {q row : Nat} (h : row ≠ q) : colI l q row = U8 (byteAt l q row) := if_neg h

set_option maxRecDepth 20000 in
set_option maxHeartbeats 8000000 in
theorem rsteps_ok (l : List UInt8) (q : Nat) (w : World) (hl : (l.length : Int) ≤ 20000) (hne0 : l ≠ []) (hm : mayP l (q : Int) = true) :
    Calls Try.prog 51 #[.string (S l), .int .i64 (q : Int)] w fun e w' => ∃ u, e = .returned (.tuple #[u, .int .i64 (stpE l q)]) ∧ Ext w w' ∧ RI w' u (toI (stpL l q)) := by
  have HF := Lib.hid (stp_yes hm)
  have n1 : ¬ (20000 : Int) < (l.length : Int) := by omega
  have hq : q ≤ l.length := by rcases may_true hm with ⟨h1, h2⟩ | ⟨h1, h2, h3⟩ <;> omega
  have QC := Lib.hid (fun w => column_any l q w hl hq)
  have HM := Lib.hid (may_true hm)
  clear hm
  have hcl : (colL l q (l.length + 1)).length = l.length + 1 := col_length _
  obtain ⟨e2, e3, e4⟩ : 0 < (l.length : Int) ∧ ¬ (q : Int) < 1 ∧ ¬ (l.length : Int) < (q : Int) := by
    rcases HM.out with ⟨h1, h2⟩ | h
    · exact absurd (List.length_eq_zero_iff.1 (by omega)) hne0
    · exact h
  have e1 : ((l.length : Int) == 0) = false := beq_eq_false_iff_ne.2 (by omega)
  clear HM hne0
  · skip
    go_enter Try.func51, Try.ntmps51
    go_wp2_with fail
    refine (QC.out _).mono ?_
    rintro _ w1 ⟨u, rfl, x1, r1⟩
    have X1 := Lib.hid x1
    obtain ⟨au, cu, rfl, hlu, _, hsu⟩ := r1.shape
    rw [hcl] at hlu hsu
    rw [hcl]
    obtain ⟨gu, ou, rfl, hcu⟩ := hsu (by omega)
    have HC := Lib.hid (fun k (hk : k < l.length + 1) => by
      have := hcu k hk
      rw [col_get hk] at this
      exact this)
    have hmk := make_run w1 (l.length + 1) (by omega) ((l.length : Int) + 1) (by omega)
    have H0 := NW.make w1 (l.length + 1) (by omega)
    rw [← lfTo_zero l q] at H0
    have H0 := Lib.hid H0
    clear x1 r1 QC hsu hcu hcl
    go_wp2
    clear hmk
    go_loopw [8] (fun i wr => ∃ k : Nat, k ≤ l.length + 1 ∧ i = .int .i64 (k : Int) ∧ NW wr w1.heap.size w1.heap.size (l.length + 1) (lfTo l q k) ∧ Ext w1 wr) (fun i _ => l.length + 1 - (intOf i).toNat)
    case atStart => exact ⟨0, by omega, rfl, H0.out, (Ext.refl _).alloc _⟩
    case round =>
      obtain ⟨row, hk, rfl, hw, hx⟩ := hrel
      clear H0
      have HW := Lib.hid hw
      have HX := Lib.hid hx
      clear hx hw
      by_cases hlt : row < l.length + 1
      · have hki : (row : Int) < (l.length : Int) + 1 := by omega
        by_cases hkq : row = q
        · subst hkq
          have hbe : ((row : Int) == (row : Int)) = true := by simp
          have HW2 := Lib.hid (show NW wr w1.heap.size w1.heap.size (l.length + 1) (lfTo l row (row + 1)) from by rw [← lfTo_q]; exact HW.out)
          go_wp2
          go_roundw
          case rel => exact ⟨row + 1, by omega, by go_num, HW2.out, HX.out⟩
          case measure => simp [intOf]; omega
        · have hbe : ((row : Int) == (q : Int)) = false := beq_eq_false_iff_ne.2 (by omega)
          have HLF := Lib.hid (ref_lf hkq hlt (by omega))
          have HNE := Lib.hid hkq
          clear hkq
          go_wp2
          go_loopw [9, 10] (fun n i w2 => ∃ k : Nat, k ≤ l.length + 1 ∧ i = .int .i64 (k : Int) ∧ n = .int .i64 ((countB (refP l q row) k : Nat) + 1 : Int) ∧ Ext wr w2) (fun _ i _ => l.length + 1 - (intOf i).toNat)
          case atStart => exact ⟨0, by omega, rfl, rfl, Ext.refl _⟩
          case round =>
            rename World => w2
            obtain ⟨k, hk2, rfl, rfl, hx2⟩ := hrel
            have HX2 := Lib.hid hx2
            clear hx2
            have hcb := countB_le (refP l q row) k
            by_cases hlt2 : k < l.length + 1
            · have hki2 : (k : Int) < (l.length : Int) + 1 := by omega
              have hcc : (l.length : Int) + 1 ≤ (cu : Int) := by omega
              have cr := Go.cell_later (HX.out.trans HX2.out) (HC.out row hlt)
              rw [col_ne HNE.out] at cr
              by_cases hkq2 : k = q
              · have HKE := Lib.hid (show ((k : Int) != (q : Int)) = false from bne_eq_false_iff_eq.2 (by omega))
                have HN := Lib.hid (refP_no (l := l) (q := q) (row := row) (k := k) (fun h => h.1 hkq2))
                clear hkq2 cr
                generalize countB (refP l q row) k = n at *
                go_wp2_with fail
                have hke := HKE.out
                refine wp_region_up (by kernel_rfl) (by kernel_rfl) ?_
                repeat (go_big_quiet_step (fail))
                refine wpQuiet_nil ?_
                rintro _ ⟨y2, rfl⟩
                have HXW := Lib.hid (HX2.out.trans y2.ext)
                generalize y2.val = w3 at *
                go_wp2
                go_roundw
                case rel => exact ⟨k + 1, by omega, by go_num, by rw [HN.out], HXW.out⟩
                case measure => simp [intOf]; omega
              · have HKE := Lib.hid (show ((k : Int) != (q : Int)) = true from bne_iff_ne.2 (by omega))
                have ck := Go.cell_later (HX.out.trans HX2.out) (HC.out k hlt2)
                rw [col_ne hkq2] at ck
                have CK := Lib.hid (up_cell (W := w2) ck)
                have CR := Lib.hid (up_cell (W := w2) cr)
                have hdec : countB (refP l q row) (k + 1) = if (decide (U8 (byteAt l q k) < U8 (byteAt l q row)) || ((U8 (byteAt l q k) == U8 (byteAt l q row)) && decide ((k : Int) < (row : Int)))) = true then countB (refP l q row) k + 1 else countB (refP l q row) k := by
                  unfold U8
                  by_cases hh : k ≠ q ∧ ((byteAt l q k).toNat < (byteAt l q row).toNat ∨ (byteAt l q k).toNat = (byteAt l q row).toNat ∧ k < row)
                  · rw [refP_yes hh, if_pos]
                    rw [Bool.or_eq_true, Bool.and_eq_true, decide_eq_true_iff, decide_eq_true_iff, beq_iff_eq]
                    omega
                  · rw [refP_no hh, if_neg]
                    rw [Bool.or_eq_true, Bool.and_eq_true, decide_eq_true_iff, decide_eq_true_iff, beq_iff_eq]
                    omega
                have HN := Lib.hid hdec
                clear hdec ck cr hkq2
                generalize U8 (byteAt l q k) = bk at *
                generalize U8 (byteAt l q row) = br at *
                generalize countB (refP l q row) k = n at *
                generalize hb1 : decide (bk < br) = b1 at *
                generalize hb2 : (bk == br) = b2 at *
                generalize hb3 : decide ((k : Int) < (row : Int)) = b3 at *
                have HB1 := Lib.hid hb1
                have HB2 := Lib.hid hb2
                have HB3 := Lib.hid hb3
                have HB4 := Lib.hid (show decide (k < row) = b3 from by rw [← hb3]; exact decide_eq_decide.2 (by omega))
                clear hb1 hb2 hb3
                cases b1 <;> cases b2 <;> cases b3
                all_goals
                  go_wp2_with fail
                  have ck := CK.out
                  have cr := CR.out
                  have hke := HKE.out
                  have hb1 := HB1.out
                  have hb2 := HB2.out
                  have hb3 := HB3.out
                  have hb4 := HB4.out
                  refine wp_region_up (by kernel_rfl) (by kernel_rfl) ?_
                  repeat (go_big_quiet_step (fail))
                  refine wpQuiet_nil ?_
                  rintro _ ⟨y2, rfl⟩
                  have HXW := Lib.hid (HX2.out.trans y2.ext)
                  generalize y2.val = w3 at *
                  clear ck cr CK CR
                  go_wp2
                  go_roundw
                  case rel => exact ⟨k + 1, by omega, by go_num, by rw [HN.out]; rfl, HXW.out⟩
                  case measure => simp [intOf]; omega
            · have e : k = l.length + 1 := by omega
              subst e
              rw [show ((countB (refP l q row) (l.length + 1) : Nat) : Int) + 1 = ((lfN l q row : Nat) : Int) by rw [← HLF.out]; rfl]
              have c5 := (HW.out.ext HX2.out).cell row hlt
              have f5 := (HW.out.ext HX2.out).free row hlt
              have N5 := (HW.out.ext HX2.out).set row (lfN l q row)
              rw [lfTo_step] at N5
              have N5 := Lib.hid N5
              have X5 := Lib.hid (Ext.set (HX.out.trans HX2.out) (p := ⟨w1.heap.size, row, none⟩) (Nat.le_refl _) (.int .i64 (lfN l q row : Int)))
              generalize lfN l q row = y at *
              generalize (lfTo l q row).getD row 0 = old at *
              clear hcb HLF
              go_wp2
              go_roundw
              case rel => exact ⟨row + 1, by omega, by go_num, N5.out, X5.out⟩
              case measure => simp [intOf]; omega
      · have e : row = l.length + 1 := by omega
        subst e
        have hw := HW.out
        rw [lfTo_all] at hw
        have HI := Lib.hid hw.rn.ri
        have HX := Lib.hid (X1.out.trans HX.out)
        clear hw hlt hk HW
        go_wp2
        go_ret2
        exact ⟨_, by rw [HF.out.1]; rfl, HX.out, by rw [HF.out.2]; exact HI.out⟩
end Go.Proofs.Ytlhjbfckcfeikaa
namespace Go.Proofs.Ytlhjbfckcfeikaa
set_option linter.unusedVariables false
set_option linter.unusedSimpArgs false
open Go.RowKit

attribute [local go_sem] S_size S_toList S_extract S_beq S_bne S_empty S_nil u8_beq U8_fold U8_toNat

set_option maxRecDepth 20000 in
set_option maxHeartbeats 4000000 in
theorem rsteps_nil (w : World) :
    Calls Try.prog 51 #[.string (S []), .int .i64 0] w fun e w' => ∃ u, e = .returned (.tuple #[u, .int .i64 (stpE [] 0)]) ∧ Ext w w' ∧ RI w' u (toI (stpL [] 0)) := by
  have HE := Lib.hid (show stpE [] 0 = 0 ∧ toI (stpL [] 0) = [0] by decide)
  have QC := Lib.hid (fun w => column_any [] 0 w (by decide) (by decide))
  have hcl : (colL [] 0 ([] : List UInt8).length.succ).length = 1 := col_length _
  go_enter Try.func51, Try.ntmps51
  go_wp2_with fail
  refine (QC.out _).mono ?_
  rintro _ w1 ⟨u, rfl, x1, r1⟩
  have X1 := Lib.hid x1
  obtain ⟨au, cu, rfl, hlu, _, hsu⟩ := r1.shape
  have hcl : (colL [] 0 (([] : List UInt8).length + 1)).length = 1 := col_length _
  rw [hcl] at hlu ⊢
  have hmk := make_run w1 1 (by omega) 1 rfl
  have H0 := Lib.hid (IN.make w1 1 (by omega))
  clear x1 r1 QC hsu hcl
  go_wp2
  clear hmk
  go_loopw [8] (fun i wr => ∃ k : Nat, k ≤ 1 ∧ i = .int .i64 (k : Int) ∧ IN wr w1.heap.size w1.heap.size 1 [0] ∧ Ext w1 wr) (fun i _ => 1 - (intOf i).toNat)
  case atStart => exact ⟨0, by omega, rfl, H0.out, (Ext.refl _).alloc _⟩
  case round =>
    obtain ⟨k, hk, rfl, hw, hx⟩ := hrel
    clear H0
    have HW := Lib.hid hw
    have HX := Lib.hid hx
    clear hx hw
    by_cases hlt : k < 1
    · obtain rfl : k = 0 := by omega
      rw [show ((0 : Nat) : Int) = 0 from rfl]
      go_wp2
      go_roundw
      case rel => exact ⟨1, by omega, by go_num, HW.out, HX.out⟩
      case measure => simp [intOf]
    · obtain rfl : k = 1 := by omega
      have HI := Lib.hid HW.out.ri
      rw [show ((1 : Nat) : Int) = 1 from rfl]
      go_wp2
      go_ret2
      exact ⟨_, by rw [HE.out.1]; rfl, X1.out.trans HX.out, by rw [HE.out.2]; exact HI.out⟩
theorem rsteps_any (l : List UInt8) (p : Int) (w : World) (hl : (l.length : Int) ≤ 20000) :
    Calls Try.prog 51 #[.string (S l), .int .i64 p] w fun e w' => ∃ u, e = .returned (.tuple #[u, .int .i64 (stpE l p)]) ∧ Ext w w' ∧ RI w' u (toI (stpL l p)) := by
  cases hm : mayP l p with
  | false => exact rsteps_bad l p w hl hm
  | true =>
    obtain ⟨q, rfl, hq⟩ := may_some hm
    by_cases hn : l = []
    · subst hn
      obtain rfl : q = 0 := by simpa using hq
      exact rsteps_nil w
    · exact rsteps_ok l q w hl hn hm
end Go.Proofs.Ytlhjbfckcfeikaa
namespace Go.Proofs.Ytlhjbfckcfeikaa
set_option linter.unusedVariables false
set_option linter.unusedSimpArgs false
open Go.RowKit

/-- a row of bytes, of the call's own, at block g -/
def BN (w : World) (B g n : Nat) (l : List UInt8) : Prop := BW w B (.slice (some ⟨g, 0, none⟩) n n) l
section

variable {w w' : World} {B g n : Nat} {l : List UInt8}

theorem BN.facts (h : BN w B g n l) : l.length = n ∧ (0 < n → g < w.heap.size ∧ B ≤ g) ∧ ∀ i, i < n → w.cell? ⟨g, i, none⟩ = some (.int .u8 (U8 (l.getD i 0))) ∧ w.frozen? ⟨g, i, none⟩ = false := by
  obtain ⟨a, c', h1, h2, h3⟩ := BW.shape h
  injection h1 with e1 e2 e3
  subst e2
  refine ⟨rfl, fun hn => ?_, fun i hi => ?_⟩
  · obtain ⟨g', e, p1, p2, _⟩ := h3 hn
    rw [e] at e1
    injection e1 with e1
    injection e1 with e1
    subst e1
    exact ⟨p2, p1⟩
  · obtain ⟨g', e, _, _, p3, p4⟩ := h3 (by omega)
    rw [e] at e1
    injection e1 with e1
    injection e1 with e1
    subst e1
    exact ⟨p3 i hi, p4 i⟩
theorem BN.len (h : BN w B g n l) : l.length = n := h.facts.1
theorem BN.cell (h : BN w B g n l) (i : Nat) (hi : i < n) : w.cell? ⟨g, i, none⟩ = some (.int .u8 (U8 (l.getD i 0))) := (h.facts.2.2 i hi).1
theorem BN.free (h : BN w B g n l) (i : Nat) (hi : i < n) : w.frozen? ⟨g, i, none⟩ = false := (h.facts.2.2 i hi).2
theorem BN.ext (h : BN w B g n l) (hx : Ext w w') : BN w' B g n l := BW.ext h hx
theorem BN.set (h : BN w B g n l) (i : Nat) (b : UInt8) : BN (w.setCell ⟨g, i, none⟩ (.int .u8 (U8 b))) B g n (l.set i b) := by
  have hl := h.len
  subst hl
  unfold BN BW at *
  rw [show b8s (l.set i b) = (b8s l).set i (.int .u8 (U8 b)) from List.map_set]
  rw [← b8s_length l] at h ⊢
  have h' : RW w B 5 (.slice (some ⟨g, 0, none⟩) (b8s l).length (b8s l).length) (b8s l) := h
  exact RW.set h' i _
theorem BN.str (h : BN w B g n l) : (convert 61 9 (.slice (some ⟨g, 0, none⟩) n n)).run Try.prog w = .ok (.string (S l)) w := by
  have hf := h.facts
  rw [run_convert_bytes_arg w _ 5 Try.underlying61 Try.underlying5 g 0 n n (l.map U8) (by simpa using hf.1) ?_ _ Try.underlying9]
  · congr 2
    simp only [strOfNums, List.map_map, S]
    congr 2
    conv => rhs; rw [← List.map_id l]
    apply List.map_congr_left
    intro b _
    show UInt8.ofNat (B8 b) = b
    apply UInt8.toNat_inj.1
    unfold B8; rw [UInt8.toNat_ofNat']; have := b.toNat_lt; omega
  · intro i hi
    rw [Nat.zero_add, (hf.2.2 i hi).1]
    have := hf.1
    simp [show i < l.length by omega]
end

theorem BN.make (w : World) (n : Nat) (hn : n ≤ 1000000000) : (∀ m : Int, m = (n : Int) → (Instr.makeSlice 61 (.int .i64 m) (.int .i64 m)).run Try.prog w = .ok (.slice (some ⟨w.heap.size, 0, none⟩) n n) (w.alloc (.cells (madeCells #[.int .u8 0] n) 5))) ∧
    BN (w.alloc (.cells (madeCells #[.int .u8 0] n) 5)) w.heap.size w.heap.size n (List.replicate n 0) := by
  obtain ⟨h1, h2⟩ := RW.make (P := Try.prog) (t := 61) w Try.underlying61 byte_info rfl n (by omega) (by omega)
  refine ⟨fun m hm => by subst hm; exact h1, ?_⟩
  unfold BN BW b8s
  rw [List.map_replicate]; exact h2

/-- the last j bytes of the text -/
def txtTo (l : List UInt8) (q j : Nat) : List UInt8 := (List.range l.length).map fun i => if l.length - j ≤ i then byteAt l q (itN l q (l.length - 1 - i)) else 0
theorem txtTo_zero (l : List UInt8) (q : Nat) : txtTo l q 0 = List.replicate l.length 0 := by
  unfold txtTo
  rw [List.eq_replicate_iff]
  refine ⟨by simp, fun b hb => ?_⟩
  obtain ⟨j, hj, rfl⟩ := List.mem_map.1 hb
  have := List.mem_range.1 hj
  rw [if_neg (by omega)]
theorem mr_set8 (n : Nat) (f : Nat → UInt8) (j : Nat) (v : UInt8) : ((List.range n).map f).set j v = (List.range n).map fun i => if i = j then v else f i := by
  apply List.ext_getElem?
  intro i
  rw [List.getElem?_set]
  by_cases hi : i < n
  · by_cases e : j = i
    · subst e; simp [hi]
    · rw [if_neg e]
      simp [hi, List.getElem?_range, show ¬ i = j from fun h => e h.symm]
  · by_cases e : j = i
    · subst e; simp [hi]
    · rw [if_neg e]; simp [hi]
theorem txtTo_step (l : List UInt8) (q j : Nat) (h : j < l.length) : (txtTo l q j).set (l.length - 1 - j) (byteAt l q (itN l q j)) = txtTo l q (j + 1) := by
  unfold txtTo
  rw [mr_set8]
  apply List.map_congr_left
  intro i hi
  have := List.mem_range.1 hi
  by_cases e : i = l.length - 1 - j
  · rw [if_pos e, if_pos (by omega), e, show l.length - 1 - (l.length - 1 - j) = j by omega]
  · rw [if_neg e]
    by_cases h2 : l.length - j ≤ i
    · rw [if_pos h2, if_pos (by omega)]
    · rw [if_neg h2, if_neg (by omega)]
theorem txtTo_all (l : List UInt8) (q : Nat) : txtTo l q l.length = txtN l q := by
  unfold txtTo txtN
  apply List.map_congr_left
  intro i hi
  rw [if_pos (by omega)]
theorem inv_no {l : List UInt8} {p : Int} (h : mayP l p = false) : invE l p = 130 ∧ invL l p = [] := by
  unfold invE invL; rw [h]; exact ⟨rfl, rfl⟩
theorem inv_bad {l : List UInt8} {q : Nat} (h : mayP l (q : Int) = true) (h2 : okI l q = false) : invE l q = 130 ∧ invL l q = [] := by
  unfold invE invL; rw [h, Int.toNat_natCast, h2]; exact ⟨rfl, rfl⟩
theorem inv_good {l : List UInt8} {q : Nat} (h : mayP l (q : Int) = true) (h2 : okI l q = true) : invE l q = 0 ∧ invL l q = txtN l q := by
  unfold invE invL; rw [h, Int.toNat_natCast, h2]; exact ⟨rfl, rfl⟩
theorem ok_early {l : List UInt8} {q j : Nat} (h : j < l.length) (e : itN l q j = q) : okI l q = false := decide_eq_false fun hc => hc.2 j h e
theorem ok_late {l : List UInt8} {q : Nat} (e : itN l q l.length ≠ q) : okI l q = false := decide_eq_false fun hc => e hc.1
attribute [local go_sem] S_size S_toList S_extract S_beq S_bne S_empty S_nil u8_beq U8_fold U8_toNat

set_option maxRecDepth 20000 in
set_option maxHeartbeats 4000000 in
theorem inverse_any (l : List UInt8) (p : Int) (w : World) (hl : (l.length : Int) ≤ 20000) :
    Calls Try.prog 24 #[.string (S l), .int .i64 p] w fun e w' => e = .returned (.tuple #[.string (S (invL l p)), .int .i64 (invE l p)]) ∧ Ext w w' := by
  have QS := Lib.hid (steps_any l p w hl)
  cases hm : mayP l p with
  | false =>
    have HF := Lib.hid (inv_no hm)
    rw [(stp_no hm).1] at QS
    clear hm
    go_enter Try.func24, Try.ntmps24
    go_wp2_with fail
    refine (QS.out).mono ?_
    rintro _ w1 ⟨u, rfl, x1, _⟩
    have X1 := Lib.hid x1
    clear x1
    go_wp2
    go_ret2
    exact ⟨by rw [HF.out.1, HF.out.2]; rfl, X1.out⟩
  | true =>
    obtain ⟨q, rfl, hq⟩ := may_some hm
    have hst := stp_yes hm
    have HM := Lib.hid hm
    rw [hst.1, hst.2] at QS
    clear hst hm
    go_enter Try.func24, Try.ntmps24
    go_wp2_with fail
    refine (QS.out).mono ?_
    rintro _ w1 ⟨u, rfl, x1, r1⟩
    have X1 := Lib.hid x1
    have hcl : (toI ((List.range (l.length + 1)).map (lfN l q))).length = l.length + 1 := by rw [toI_length]; simp
    obtain ⟨au, cu, rfl, hlu, _, hsu⟩ := r1.shape
    rw [hcl] at hlu hsu ⊢
    obtain ⟨gu, ou, rfl, hcu⟩ := hsu (by omega)
    have HC := Lib.hid (fun k (hk : k < l.length + 1) => by
      have := hcu k hk
      rw [toI_getD, mr_getD _ _ _ hk] at this
      exact this)
    have hmk := (BN.make w1 l.length (by omega)).1 _ rfl
    have H0 := (BN.make w1 l.length (by omega)).2
    rw [← txtTo_zero l q] at H0
    have H0 := Lib.hid H0
    clear x1 r1 hsu hcu hcl QS
    go_wp2
    clear hmk
    go_loopw [9, 10] (fun r i wr => ∃ (j : Nat) (m : Int), m = (l.length : Int) - 1 - (j : Int) ∧ j ≤ l.length ∧ i = .int .i64 m ∧ r = .int .i64 (itN l q j : Int) ∧ BN wr w1.heap.size w1.heap.size l.length (txtTo l q j) ∧ (∀ j', j' < j → itN l q j' ≠ q) ∧ Ext w1 wr) (fun _ i _ => (intOf i + 1).toNat)
    case atStart => exact ⟨0, (l.length : Int) - 1, by omega, by omega, rfl, rfl, H0.out, fun j h => by omega, (Ext.refl _).alloc _⟩
    case round =>
      obtain ⟨j, m, hmj, hj, rfl, rfl, hb, hne, hx⟩ := hrel
      clear H0
      have HB := Lib.hid hb
      have HX := Lib.hid hx
      have HNE := Lib.hid hne
      clear hb hx hne
      by_cases hlt : j < l.length
      · obtain ⟨i, hi⟩ : ∃ i : Nat, i = l.length - 1 - j := ⟨_, rfl⟩
        obtain rfl : m = (i : Int) := by omega
        have HI := Lib.hid hi
        have hil : i < l.length := by omega
        have hii : (i : Int) < (l.length : Int) := by omega
        clear hmj hi
        have hrow := it_lt l q j
        by_cases hqe : itN l q j = q
        · have HF := Lib.hid (inv_bad HM.out (ok_early hlt hqe))
          have X2 := Lib.hid (X1.out.trans HX.out)
          rw [hqe]
          have hbe : ((q : Int) == (q : Int)) = true := by simp
          clear hqe hrow HNE HB HC
          go_wp2
          go_ret2
          exact ⟨by rw [HF.out.1, HF.out.2]; rfl, X2.out⟩
        · have HST := Lib.hid (show ∀ j', j' < j + 1 → itN l q j' ≠ q from fun j' h => by
            rcases Nat.lt_or_ge j' j with h1 | h1
            · exact HNE.out j' h1
            · have : j' = j := by omega
              subst this; exact hqe)
          have QA := Lib.hid (at_any l q (itN l q j) wr (by omega) hq hrow hqe)
          have cs := HC.out (itN l q j) hrow
          have HIT := Lib.hid (show itN l q (j + 1) = lfN l q (itN l q j) from rfl)
          have HBS := HB.out.set i (byteAt l q (itN l q j))
          rw [HI.out, txtTo_step l q j hlt, ← HI.out] at HBS
          have HBS := Lib.hid HBS
          have cb := HB.out.cell i hil
          have fb := HB.out.free i hil
          have X2 := Ext.set HX.out (p := ⟨w1.heap.size, i, none⟩) (Nat.le_refl _) (.int .u8 (U8 (byteAt l q (itN l q j))))
          have cs2 := Lib.hid (Go.cell_later X2 cs)
          have X2 := Lib.hid X2
          have hbe : ((itN l q j : Int) == (q : Int)) = false := beq_eq_false_iff_ne.2 (by omega)
          have hri : (itN l q j : Int) < (l.length : Int) + 1 := by omega
          clear cs hqe HNE HB HC HX
          generalize (txtTo l q j).getD i 0 = old at *
          generalize byteAt l q (itN l q j) = b at *
          generalize lfN l q (itN l q j) = nx at *
          generalize itN l q j = row at *
          go_wp2_with fail
          refine (QA.out).mono ?_
          rintro _ w2 ⟨rfl, rfl⟩
          have cs3 := cs2.out
          go_wp2
          go_roundw
          case rel => exact ⟨j + 1, (i : Int) - 1, by have := HI.out; omega, by omega, by go_num, by rw [HIT.out], HBS.out, HST.out, X2.out⟩
          case measure => simp [intOf]
      · have e : j = l.length := by omega
        subst e
        obtain rfl : m = -1 := by omega
        have hb := HB.out
        rw [txtTo_all] at hb
        have X2 := Lib.hid (X1.out.trans HX.out)
        have hcv := hb.str
        by_cases hqe : itN l q l.length = q
        · have HF := Lib.hid (inv_good HM.out (decide_eq_true ⟨hqe, HNE.out⟩))
          have hbe : ((q : Int) != (q : Int)) = false := by simp
          rw [hqe]
          generalize txtN l q = tx at *
          clear hqe HNE HB HC hb HX
          go_wp2
          go_ret2
          exact ⟨by rw [HF.out.1, HF.out.2]; rfl, X2.out⟩
        · have HF := Lib.hid (inv_bad HM.out (ok_late hqe))
          have hbe : ((itN l q l.length : Int) != (q : Int)) = true := bne_iff_ne.2 (by omega)
          generalize itN l q l.length = row at *
          clear hqe HNE HB HC hb HX
          go_wp2
          go_ret2
          exact ⟨by rw [HF.out.1, HF.out.2]; rfl, X2.out⟩
end Go.Proofs.Ytlhjbfckcfeikaa
namespace Go.Proofs.Ytlhjbfckcfeikaa
set_option linter.unusedVariables false
set_option linter.unusedSimpArgs false
open Go.RowKit

attribute [local go_sem] S_size S_toList S_extract S_beq S_bne S_empty S_nil u8_beq U8_fold U8_toNat

def byteC (x : UInt8) : List Value := [.int .u8 (U8 x)]
theorem byteC_length (x : UInt8) : (byteC x).length = 1 := rfl
theorem byteC_one (x : UInt8) : ∀ u ∈ byteC x, u.oneCell' = true := fun u hu => by simp [byteC] at hu; subst hu; rfl
theorem flat_byteC (l : List UInt8) : l.flatMap byteC = b8s l := by
  unfold b8s
  induction l with
  | nil => rfl
  | cons a l ih => rw [List.flatMap_cons, ih]; rfl
theorem BW_WR {w : World} {B : Nat} {v : Value} {l : List UInt8} : BW w B v l ↔ WR byteC 1 w B 5 v l := by
  unfold BW RW WR
  rw [b8s_length, flat_byteC]
/-- the bytes that come first, one behind the other, backwards -/
def revT (l : List UInt8) (q : Nat) : Nat → List UInt8
  | 0 => []
  | j + 1 => byteAt l q (itN l q j) :: revT l q j
theorem revT_length (l : List UInt8) (q : Nat) : ∀ j, (revT l q j).length = j
  | 0 => rfl
  | j + 1 => by show (_ :: _).length = _; rw [List.length_cons, revT_length l q j]
theorem revT_get (l : List UInt8) (q : Nat) : ∀ j i, i < j → (revT l q j).getD i 0 = byteAt l q (itN l q (j - 1 - i))
  | 0, i, h => by omega
  | j + 1, 0, h => rfl
  | j + 1, i + 1, h => by
    show (revT l q j).getD i 0 = _
    rw [revT_get l q j i (by omega), show j + 1 - 1 - (i + 1) = j - 1 - i by omega]
theorem revT_all (l : List UInt8) (q : Nat) : revT l q l.length = txtN l q := by
  refine List.ext_getElem (by rw [revT_length, txt_length]) fun i h1 h2 => ?_
  rw [revT_length] at h1
  have h3 := revT_get l q l.length i h1
  rw [← txt_get l q h1, List.getD_eq_getElem?_getD, List.getElem?_eq_getElem (by rw [revT_length]; exact h1), List.getD_eq_getElem?_getD, List.getElem?_eq_getElem h2] at h3
  exact h3
theorem u8_wrap (b : UInt8) : IntKind.u8.wrap (U8 b) = U8 b := by
  have h0 := U8_nonneg b
  have h1 := U8_lt b
  rw [IntKind.wrap_u8]; omega
theorem BW.lit1 (w : World) (x : UInt8) : BW (w.alloc (.cells #[.int .u8 (U8 x)] 5)) w.heap.size (.slice (some ⟨w.heap.size, 0, none⟩) 1 1) [x] :=
  World.ownsRow_lit (base := w.heap.size) (e := 5) (size := 1) w #[.int .u8 (U8 x)] 1 (Nat.le_refl _) (by unfold maxLen; omega) rfl
/-- append([]byte{x}, out...) -/
theorem BW.cons {w : World} {B : Nat} {v : Value} {l : List UInt8} (h : BW w B v l) (x : UInt8) (hl : l.length ≤ 1000000000) :
    ∃ v' w', (Builtin.append_ #[61, 61] 61 #[.slice (some ⟨w.heap.size, 0, none⟩) 1 1, v]).run Try.prog (w.alloc (.cells #[.int .u8 (U8 x)] 5)) = .ok v' w' ∧ BW w' w.heap.size v' (x :: l) ∧ Ext w w' := by
  have h1 := BW_WR.1 (BW.lit1 w x)
  have h2 := (BW_WR.1 (h.alloc (.cells #[.int .u8 (U8 x)] 5))).rr byteC_length
  have hB : w.heap.size ≤ (w.alloc (.cells #[.int .u8 (U8 x)] 5)).heap.size := by simp
  obtain ⟨v', w', p1, p2, p3⟩ := h1.appS byteC_length (by decide) byteC_one h2 hB (P := Try.prog) (t := 61) Try.underlying61 byte_info rfl (by simp; omega) (by unfold maxLen; simp; omega)
  exact ⟨v', w', p1, BW_WR.2 p2, Below.trans ((Ext.refl w).alloc _ : Ext w _) (WR.below h1 hB p3)⟩

theorem conv_nil (w : World) : (convert 61 9 (.slice none 0 0)).run Try.prog w = .ok (.string (S [])) w := by kernel_rfl
set_option maxRecDepth 20000 in
set_option maxHeartbeats 4000000 in
theorem rinverse_nil (w : World) :
    Calls Try.prog 28 #[.string (S []), .int .i64 0] w fun e w' => e = .returned (.tuple #[.string (S (invL [] 0)), .int .i64 (invE [] 0)]) ∧ Ext w w' := by
  have HE := Lib.hid (show invE [] 0 = 0 ∧ invL [] 0 = [] by decide)
  have QS := Lib.hid (rsteps_any [] 0 w (by decide))
  rw [show stpE [] 0 = 0 by decide] at QS
  have QC := Lib.hid (fun w => column_any [] 0 w (by decide) (by decide))
  go_enter Try.func28, Try.ntmps28
  go_wp2_with fail
  refine (QS.out).mono ?_
  rintro _ w1 ⟨u1, rfl, x1, _⟩
  have X1 := Lib.hid x1
  clear x1 QS
  go_wp2_with fail
  refine (QC.out _).mono ?_
  rintro _ w2 ⟨u2, rfl, x2, _⟩
  have X2 := Lib.hid (X1.out.trans x2)
  clear x2 QC X1
  go_wp2
  go_loopw [9, 10] (fun v r wr => v = .slice none 0 0 ∧ r = .int .i64 0 ∧ wr = w2) (fun _ _ _ => 0)
  case atStart => exact ⟨rfl, rfl, rfl⟩
  case round =>
    obtain ⟨rfl, rfl, rfl⟩ := hrel
    have hcv := conv_nil wr
    go_wp2
    go_ret2
    exact ⟨by rw [HE.out.1, HE.out.2]; rfl, X2.out⟩
set_option maxRecDepth 20000 in
set_option maxHeartbeats 4000000 in
theorem rinverse_bad (l : List UInt8) (p : Int) (w : World) (hl : (l.length : Int) ≤ 20000) (hm : mayP l p = false) :
    Calls Try.prog 28 #[.string (S l), .int .i64 p] w fun e w' => e = .returned (.tuple #[.string (S (invL l p)), .int .i64 (invE l p)]) ∧ Ext w w' := by
  have QS := Lib.hid (rsteps_any l p w hl)
  have HF := Lib.hid (inv_no hm)
  rw [(stp_no hm).1] at QS
  clear hm
  go_enter Try.func28, Try.ntmps28
  go_wp2_with fail
  refine (QS.out).mono ?_
  rintro _ w1 ⟨u, rfl, x1, _⟩
  have X1 := Lib.hid x1
  clear x1
  go_wp2
  go_ret2
  exact ⟨by rw [HF.out.1, HF.out.2]; rfl, X1.out⟩
set_option maxRecDepth 20000 in
set_option maxHeartbeats 4000000 in
theorem rinverse_ok (l : List UInt8) (q : Nat) (w : World) (hl : (l.length : Int) ≤ 20000) (hne0 : l ≠ []) (hm : mayP l (q : Int) = true) :
    Calls Try.prog 28 #[.string (S l), .int .i64 (q : Int)] w fun e w' => e = .returned (.tuple #[.string (S (invL l q)), .int .i64 (invE l q)]) ∧ Ext w w' := by
  have QS := Lib.hid (rsteps_any l q w hl)
  have hq : q ≤ l.length := by rcases may_true hm with ⟨h1, h2⟩ | ⟨h1, h2, h3⟩ <;> omega
  have hst := stp_yes hm
  have HM := Lib.hid hm
  rw [hst.1, hst.2] at QS
  have QC := Lib.hid (fun w => column_any l q w hl hq)
  have HN0 := Lib.hid (List.length_pos_iff.2 hne0)
  clear hst hm hne0
  go_enter Try.func28, Try.ntmps28
  go_wp2_with fail
  refine (QS.out).mono ?_
  rintro _ w1 ⟨u, rfl, x1, r1⟩
  have X1 := Lib.hid x1
  have hcl : (toI ((List.range (l.length + 1)).map (lfN l q))).length = l.length + 1 := by rw [toI_length]; simp
  obtain ⟨au, cu, rfl, hlu, _, hsu⟩ := r1.shape
  rw [hcl] at hlu hsu ⊢
  obtain ⟨gu, ou, rfl, hcu⟩ := hsu (by omega)
  have HC := Lib.hid (fun k (hk : k < l.length + 1) => by
    have := hcu k hk
    rw [toI_getD, mr_getD _ _ _ hk] at this
    exact this)
  clear x1 r1 hsu hcu hcl QS
  go_wp2_with fail
  refine (QC.out _).mono ?_
  rintro _ w2 ⟨u2, rfl, x2, r2⟩
  have X2 := Lib.hid (X1.out.trans x2)
  have HC2 := Lib.hid (fun k hk => Go.cell_later x2 (HC.out k hk))
  have hcl : (colL l q (l.length + 1)).length = l.length + 1 := col_length _
  obtain ⟨ac, cc, rfl, hlc, _, hsc⟩ := r2.shape
  rw [hcl] at hlc hsc ⊢
  obtain ⟨gc, oc, rfl, hcc⟩ := hsc (by omega)
  have HD := Lib.hid (fun k (hk : k < l.length + 1) => by
    have := hcc k hk
    rw [col_get hk] at this
    exact this)
  clear x2 r2 hsc hcc hcl QC HC X1
  go_wp2
  go_loopw [9, 10] (fun v r wr => ∃ j : Nat, j ≤ l.length ∧ r = .int .i64 (itN l q j : Int) ∧ BW wr w2.heap.size v (revT l q j) ∧ (∀ j', j' < j → itN l q j' ≠ q) ∧ Ext w2 wr) (fun v _ _ => l.length - (match v with | .slice _ n _ => n | _ => 0))
  case atStart => exact ⟨0, by omega, rfl, BW.nil _ _, fun j h => by omega, Ext.refl _⟩
  case round =>
    obtain ⟨j, hj, rfl, hb, hne, hx⟩ := hrel
    have HX := Lib.hid hx
    have HNE := Lib.hid hne
    have hrow := it_lt l q j
    obtain ⟨gv, cv, rfl, _, _⟩ := hb.shape
    rw [revT_length]
    rw [revT_length] at hb
    by_cases hqe : itN l q j = q
    · have hbe : ((itN l q j : Int) != (q : Int)) = false := bne_eq_false_iff_eq.2 (by omega)
      have X3 := Lib.hid (X2.out.trans HX.out)
      by_cases hlt : j < l.length
      · have HF := Lib.hid (inv_bad HM.out (ok_early hlt hqe))
        have k1 : (j : Int) < (l.length : Int) := by omega
        clear hx hne hb HNE hqe
        generalize itN l q j = row at *
        go_wp2
        go_ret2
        exact ⟨by rw [HF.out.1, HF.out.2]; rfl, X3.out⟩
      · have e : j = l.length := by omega
        subst e
        have HF := Lib.hid (inv_good HM.out (decide_eq_true ⟨hqe, HNE.out⟩))
        rw [revT_all] at hb
        have hcv := hb.str (by rw [txt_length]; exact HN0.out)
        clear hx hne hb HNE hqe
        generalize itN l q l.length = row at *
        generalize txtN l q = tx at *
        go_wp2
        go_ret2
        exact ⟨by rw [HF.out.1, HF.out.2]; rfl, X3.out⟩
    · have hbe : ((itN l q j : Int) != (q : Int)) = true := bne_iff_ne.2 (by omega)
      by_cases hlt : j < l.length
      · have hjb : ((j : Int) == (l.length : Int)) = false := beq_eq_false_iff_ne.2 (by omega)
        have HST := Lib.hid (show ∀ j', j' < j + 1 → itN l q j' ≠ q from fun j' h => by
          rcases Nat.lt_or_ge j' j with h1 | h1
          · exact HNE.out j' h1
          · have : j' = j := by omega
            subst this; exact hqe)
        have cs := Go.cell_later HX.out (HC2.out (itN l q j) hrow)
        have cd := Go.cell_later HX.out (HD.out (itN l q j) hrow)
        rw [col_ne hqe] at cd
        have uw := u8_wrap (byteAt l q (itN l q j))
        obtain ⟨v', w', p1, p2, p3⟩ := BW.cons hb (byteAt l q (itN l q j)) (by rw [revT_length]; omega)
        have HIT := Lib.hid (show itN l q (j + 1) = lfN l q (itN l q j) from rfl)
        have HB2 := Lib.hid (show BW w' w2.heap.size v' (revT l q (j + 1)) from p2.mono HX.out.le)
        have HX2 := Lib.hid (HX.out.trans p3)
        have cs2 := Lib.hid (Go.cell_later p3 cs)
        obtain ⟨g2, c2, rfl, _, _⟩ := p2.shape
        rw [show (byteAt l q (itN l q j) :: revT l q j).length = j + 1 by rw [List.length_cons, revT_length]] at *
        have hri : (itN l q j : Int) < (l.length : Int) + 1 := by omega
        clear hx hne hb HNE hqe p2 p3
        generalize byteAt l q (itN l q j) = b at *
        generalize lfN l q (itN l q j) = nx at *
        generalize itN l q j = row at *
        have cs3 := cs2.out
        go_wp2_with (at_builtin; refine wpList_app rfl (.tmp 36) (.tmp 37) 61 rfl rfl rfl rfl p1 ?_)
        go_roundw
        case rel => exact ⟨j + 1, by omega, by rw [HIT.out], HB2.out, HST.out, HX2.out⟩
        case measure => simp; omega
      · have e : j = l.length := by omega
        subst e
        have HF := Lib.hid (inv_bad HM.out (ok_late hqe))
        have X3 := Lib.hid (X2.out.trans HX.out)
        have hjb : ((l.length : Int) == (l.length : Int)) = true := by simp
        clear hx hne hb HNE hqe
        generalize itN l q l.length = row at *
        go_wp2
        go_ret2
        exact ⟨by rw [HF.out.1, HF.out.2]; rfl, X3.out⟩
theorem rinverse_any (l : List UInt8) (p : Int) (w : World) (hl : (l.length : Int) ≤ 20000) :
    Calls Try.prog 28 #[.string (S l), .int .i64 p] w fun e w' => e = .returned (.tuple #[.string (S (invL l p)), .int .i64 (invE l p)]) ∧ Ext w w' := by
  cases hm : mayP l p with
  | false => exact rinverse_bad l p w hl hm
  | true =>
    obtain ⟨q, rfl, hq⟩ := may_some hm
    by_cases hn : l = []
    · subst hn
      obtain rfl : q = 0 := by simpa using hq
      exact rinverse_nil w
    · exact rinverse_ok l q w hl hn hm
end Go.Proofs.Ytlhjbfckcfeikaa
namespace Go.Proofs.Ytlhjbfckcfeikaa
set_option linter.unusedVariables false
set_option linter.unusedSimpArgs false
open Go.RowKit

theorem BW.conv {w : World} {B : Nat} {v : Value} {l : List UInt8} (h : BW w B v l) : (convert 61 9 v).run Try.prog w = .ok (.string (S l)) w := by
  by_cases h0 : 0 < l.length
  · exact h.str h0
  · obtain rfl : l = [] := List.eq_nil_of_length_eq_zero (by omega)
    rcases h.2 with ⟨h1, h2⟩ | ⟨g, cap, cur, h1, _⟩
    · rw [h1]; exact conv_nil w
    · rw [h1]
      rw [show (b8s ([] : List UInt8)).length = 0 from rfl]
      rw [run_convert_bytes_arg w _ 5 Try.underlying61 Try.underlying5 g 0 0 cap [] rfl (fun i hi => by omega) _ Try.underlying9]
      rfl
/-- the bytes ahead of the first k ends -/
def fwdTo (s : List UInt8) (k : Nat) : List UInt8 := (((arrayL s).take k).filter fun p => p != 0).map fun p => s.getD (p - 1) 0
theorem fwdTo_all (s : List UInt8) : fwdTo s (s.length + 1) = fwdL s := by
  unfold fwdTo fwdL
  rw [List.take_of_length_le (by rw [(arrayL_is s).length]; exact Nat.le_refl _)]
theorem fwdTo_no {s : List UInt8} {k : Nat} (h : k < s.length + 1) (h0 : (arrayL s).getD k 0 = 0) : fwdTo s (k + 1) = fwdTo s k := by
  have hl := (arrayL_is s).length
  unfold fwdTo
  rw [List.take_succ_eq_append_getElem (by omega), List.filter_append, ← getD_lt (by omega), h0]
  simp
theorem fwdTo_yes {s : List UInt8} {k p : Nat} (h : k < s.length + 1) (h0 : (arrayL s).getD k 0 = p + 1) : fwdTo s (k + 1) = fwdTo s k ++ [s.getD p 0] := by
  have hl := (arrayL_is s).length
  unfold fwdTo
  rw [List.take_succ_eq_append_getElem (by omega), List.filter_append, ← getD_lt (by omega), h0]
  simp
theorem fwdTo_le (s : List UInt8) (k : Nat) : (fwdTo s k).length ≤ k := by
  unfold fwdTo
  rw [List.length_map]
  exact Nat.le_trans (List.length_filter_le _ _) (by rw [List.length_take]; omega)
theorem pri_step {s : List UInt8} {k : Nat} (h : k < s.length + 1) (h0 : (arrayL s).getD k 0 ≠ 0) : (if priN s < k + 1 then priN s else 0) = if priN s < k then priN s else 0 := by
  have h3 := (pri_at s).2.2 k h
  have : k ≠ priN s := fun e => h0 (h3.2 e)
  by_cases h1 : priN s < k
  · rw [if_pos h1, if_pos (by omega)]
  · rw [if_neg h1, if_neg (by omega)]
theorem pri_hit {s : List UInt8} {k : Nat} (h : k < s.length + 1) (h0 : (arrayL s).getD k 0 = 0) : (if priN s < k + 1 then priN s else 0) = k := by
  have h3 := (pri_at s).2.2 k h
  have : k = priN s := h3.1 h0
  rw [if_pos (by omega), this]
theorem pri_all (s : List UInt8) : (if priN s < s.length + 1 then priN s else 0) = priN s := if_pos (pri_at s).1
theorem pri_le (s : List UInt8) (k : Nat) : (if priN s < k then priN s else 0) ≤ s.length := by
  have := (pri_at s).1
  split <;> omega
theorem make0_run (n : Nat) (hn : n ≤ 1000000000) (w : World) : (Instr.makeSlice 61 (.int .i64 0) (.int .i64 (n : Int))).run Try.prog w = .ok (.slice (some ⟨w.heap.size, 0, none⟩) 0 n) (w.alloc (.cells (madeCells #[.int .u8 0] n) 5)) := by
  obtain ⟨i, hi, hzz⟩ := Option.map_eq_some_iff.1 byte_info
  simp only [Prod.mk.injEq] at hzz
  obtain ⟨hz, hs, hb⟩ := hzz
  have hb' : (i.bytes : Int) * (n : Int) ≤ 281474976710656 := by rw [hb]; omega
  have hr := run_make (P := Try.prog) w 61 5 i _ Try.underlying61 hi hz .i64 .i64 0 n (by omega) (by omega) hb' (by omega)
  simp only [Int.toNat_natCast, hs, Nat.mul_one] at hr
  exact hr
attribute [local go_sem] S_size S_toList S_append S_extract S_beq S_bne S_empty S_nil u8_beq U8_fold U8_toNat

set_option maxRecDepth 20000 in
set_option maxHeartbeats 4000000 in
theorem forward_any (s : List UInt8) (w : World) (hl : (s.length : Int) ≤ 20000) :
    Calls Try.prog 20 #[.string (S s)] w fun e w' => e = .returned (.tuple #[.string (S (fwdL s)), .int .i64 (priN s : Int), .int .i64 0]) ∧ Ext w w' := by
  have q1 := Lib.hid (array_any s w (by omega))
  go_enter Try.func20, Try.ntmps20
  go_wp2_with fail
  refine (q1.out).mono ?_
  rintro _ w1 ⟨g, rfl, x1, r1⟩
  have X1 := Lib.hid x1
  have R1 := Lib.hid r1
  have hmk := make0_run s.length (by omega) w1
  have B0 := Lib.hid (BW.make0 w1 s.length (by omega))
  have HAL := Lib.hid (arrayL_is s).length
  clear x1 r1 q1
  go_wp2
  clear hmk
  go_loopw [22, 3, 6] (fun i p v wr => ∃ k : Nat, k ≤ s.length + 1 ∧ i = .int .i64 (k : Int) ∧ p = .int .i64 ((if priN s < k then priN s else 0 : Nat) : Int) ∧ BW wr w1.heap.size v (fwdTo s k) ∧ Ext w1 wr) (fun i _ _ _ => s.length + 1 - (intOf i).toNat)
  case atStart => exact ⟨0, by omega, rfl, rfl, B0.out, (Ext.refl _).alloc _⟩
  case round =>
    obtain ⟨k, hk, rfl, rfl, hb, hx⟩ := hrel
    clear B0
    have hpl := pri_le s k
    by_cases hlt : k < s.length + 1
    · have hki : (k : Int) < (s.length : Int) + 1 := by omega
      have ca := Go.cell_later hx (R1.out.2 k hlt)
      have hA := (arrayL_is s).lt hlt
      obtain ⟨gv, cv, rfl, _, _⟩ := hb.shape
      by_cases h0 : (arrayL s).getD k 0 = 0
      · rw [h0] at ca
        have HP := Lib.hid (pri_hit hlt h0)
        have HB := Lib.hid (show BW wr w1.heap.size _ (fwdTo s (k + 1)) by rw [fwdTo_no hlt h0]; exact hb)
        have HX := Lib.hid hx
        clear hb hx h0 hA
        generalize (if priN s < k then priN s else 0) = pr at *
        generalize (fwdTo s k).length = nf at *
        have ca : wr.cell? ⟨g, k, none⟩ = some (.int .i64 0) := ca
        go_wp2
        go_roundw
        case rel => exact ⟨k + 1, by omega, by go_num, by rw [HP.out], HB.out, HX.out⟩
        case measure => simp [intOf]; omega
      · obtain ⟨p, hp⟩ : ∃ p, (arrayL s).getD k 0 = p + 1 := ⟨(arrayL s).getD k 0 - 1, by omega⟩
        have HP := Lib.hid (pri_step hlt h0)
        rw [hp] at ca hA
        have ib := index_S s p (by omega) _ rfl
        obtain ⟨v', w', p1, p2, p3, _⟩ := hb.app hx.le (s.getD p 0) (by have := fwdTo_le s k; omega)
        rw [← fwdTo_yes hlt hp] at p2
        have HB := Lib.hid p2
        have HX := Lib.hid (Below.trans hx p3 : Ext w1 w')
        obtain ⟨g2, c2, rfl, _, _⟩ := p2.shape
        have e0 : IntKind.i64.wrap (p : Int) = (p : Int) := IntWalk.i64_in _ (by omega)
        have hpb : ((p : Int) + 1 == 0) = false := beq_eq_false_iff_ne.2 (by omega)
        have hpl2 : (p : Int) < (s.length : Int) := by omega
        clear hb hx h0 hp p2 p3
        rw [show ((p + 1 : Nat) : Int) = (p : Int) + 1 from rfl] at ca
        generalize s.getD p 0 = b at *
        generalize (if priN s < k then priN s else 0) = pr at *
        generalize (fwdTo s k).length = nf at *
        generalize (fwdTo s (k + 1)).length = nf2 at *
        go_wp2_with (at_builtin; refine wpList_app rfl (.tmp 30) (.tmp 35) 61 rfl rfl rfl rfl p1 ?_)
        go_roundw
        case rel => exact ⟨k + 1, by omega, by go_num, by rw [HP.out], HB.out, HX.out⟩
        case measure => simp [intOf]; omega
    · have e : k = s.length + 1 := by omega
      subst e
      rw [pri_all]
      rw [fwdTo_all] at hb
      have hcv := hb.conv
      have HX := Lib.hid (X1.out.trans hx)
      obtain ⟨gv, cv, rfl, _, _⟩ := hb.shape
      clear hb hx hpl
      generalize hf : fwdL s = f at *
      generalize f.length = nf at *
      generalize hpr : priN s = pr at *
      have HFF := Lib.hid hf
      have HPR := Lib.hid hpr
      clear hf hpr
      have n9 : ¬ ((s.length + 1 : Nat) : Int) < (s.length : Int) + 1 := by omega
      go_wp2
      exact bodyPost_ret (results_tmp3 rfl _ _ _) rfl ⟨by rw [HFF.out, HPR.out]; rfl, HX.out⟩

theorem take_one (l : List UInt8) (p : Nat) (h : p < l.length) : (l.take (p + 1)).drop p = [l.getD p 0] := by
  rw [List.take_succ_eq_append_getElem h, List.drop_append_of_le_length (by rw [List.length_take]; omega), List.drop_take, Nat.sub_self, List.take_zero, List.getD_eq_getElem?_getD, List.getElem?_eq_getElem h]; rfl
end Go.Proofs.Ytlhjbfckcfeikaa
namespace Go.Proofs.Ytlhjbfckcfeikaa
set_option linter.unusedVariables false
set_option linter.unusedSimpArgs false
open Go.RowKit

attribute [local go_sem] S_size S_toList S_append S_extract S_beq S_bne S_empty S_nil

def annbaa : List UInt8 := [97, 110, 110, 98, 97, 97]
theorem stpL_len (l : List UInt8) (p : Int) : (stpL l p).length ≤ l.length + 1 := by
  unfold stpL
  split
  · simp
  · simp
end Go.Proofs.Ytlhjbfckcfeikaa
