/- EntryRows: the law's walk. (Printed by wip/tools/entry8.py.) -/
import Derived.Test.YtplbebcckffgeaaEntT
namespace Go.Proofs.Ytplbebcckffgeaa
set_option linter.unusedVariables false
set_option linter.unusedSimpArgs false
open Go.RowKit

/-- an error and nothing, or a row -/
def goodR (E : Int) (L : List E9) : Prop := (E = 0 ∧ rowP L = true) ∨ (E ≠ 0 ∧ L = [])
theorem goodR_put (out : List E9) : goodR (errI (rowP out) 240) (putL out) := by
  unfold putL
  cases h : rowP out with
  | true => exact .inl ⟨rfl, h⟩
  | false => exact .inr ⟨by decide, rfl⟩
theorem goodR_seal (l : List E9) (e : E9) (id gen fst : Int) : goodR (sealE l e id gen fst) (sealL l e id gen fst) := by
  cases h : sealOk l e with
  | true => rw [(seal_yes h).1, (seal_yes h).2]; exact goodR_put _
  | false => rw [(seal_not h).1, (seal_not h).2]; exact .inr ⟨by decide, rfl⟩
theorem goodR_repl (l : List E9) (e : E9) : goodR (replE l e) (replL l e) := by
  unfold replE replL
  cases rowP l && entP e with
  | false => exact .inr ⟨(by decide : ¬ (240 : Int) = 0), rfl⟩
  | true =>
    cases matAt l e with
    | none => exact .inr ⟨(by decide : ¬ (240 : Int) = 0), rfl⟩
    | some i => exact goodR_put _
theorem goodR_drop (l : List E9) (n : Int) : goodR (eDropE l n) (eDropL l n) := by
  unfold eDropL
  by_cases h : eDropE l n = 0
  · rw [if_pos h]
    refine .inl ⟨h, ?_⟩
    unfold eDropE at h
    cases hr : rowP l with
    | false => rw [hr] at h; exact absurd h (by decide : ¬ (240 : Int) = 0)
    | true =>
      rw [hr, if_pos rfl] at h
      by_cases hn : 0 ≤ n ∧ n ≤ (l.length : Int) - 1
      · exact row_drop hr _ (by omega)
      · rw [if_neg hn] at h; exact absurd h (by decide : ¬ (2 : Int) = 0)
  · rw [if_neg h]
    exact .inr ⟨h, rfl⟩
/-- an entry of a row, and the one ahead of it -/
theorem row_two' {l : List E9} (h : rowP l = true) {k : Nat} (hk : k + 1 < l.length) : entP (l.getD k default) = true ∧ (l.getD k default).sld = true ∧ (l.getD k default).id < (l.getD (k + 1) default).id ∧ (l.getD (k + 1) default).fst = (l.getD k default).fst + (l.getD k default).cnt := by
  obtain ⟨_, _, _, h4⟩ := rowP_all h
  refine ⟨row_ent h (by omega), ?_⟩
  have := eTo_all h4 hk
  rw [Bool.and_eq_true] at this
  have := this.2
  rw [show (k + 1 == 0) = false from rfl, Bool.false_or, Nat.add_sub_cancel] at this
  unfold efolP behindP at this
  simp only [Bool.and_eq_true, decide_eq_true_eq] at this
  exact ⟨this.1, this.2.1, this.2.2.1⟩
theorem cell_mid0 {w : World} {g o k : Nat} {e : E9} {v : Value} (h : w.rangeAt g (o + k * 9) (entC e)) (hi : (entC e)[0]? = some v) : w.cell? ⟨g, o + k * 9, none⟩ = some v := h 0 v hi
theorem cell_mid {w : World} {g o k i : Nat} {e : E9} {v : Value} (h : w.rangeAt g (o + k * 9) (entC e)) (hi : (entC e)[i]? = some v) : w.cell? ⟨g, o + k * 9 + i, none⟩ = some v := h i v hi

set_option maxRecDepth 20000 in
set_option maxHeartbeats 16000000 in
theorem entryRows_law (v : Value) (l : List E9) (e : E9) (id gen fst : Int) (w : World) (rd : RR entC 9 w v l) (b : (l.length : Int) ≤ 9223372036854775807) (R : ∀ x ∈ l, True) :
    Calls Try.prog 4 #[v, .agg (entC e).toArray, .agg #[.int .i64 id, .int .i64 gen, .int .i64 fst]] w fun x w' => x = .returned (.bool true) ∧ Ext w w' := by
  have QA := Lib.hid awake_any
  have X0 := Lib.hid (((Ext.refl w).alloc (.cells (entC e).toArray 26)).alloc (.cells #[.int .i64 id, .int .i64 gen, .int .i64 fst] 24))
  by_cases hbig : (200 : Int) < (l.length : Int)
  · obtain ⟨a, c, rfl, _, _, _⟩ := rd
    generalize entC e = ce at *
    clear b R
    go_enter Try.func4, Try.ntmps4
    go_wp2_with fail
    refine (QA.out _).mono ?_
    rintro _ w1 ⟨rfl, x1⟩
    go_wp2
    go_ret
    exact ⟨rfl, X0.out.trans x1⟩
  · have hsm : (l.length : Int) ≤ 200 := by omega
    have B1 := Lib.hid ((Blk.new w 26 (entC e).toArray).alloc (.cells #[.int .i64 id, .int .i64 gen, .int .i64 fst] 24))
    have B2 := Lib.hid (Blk.new (w.alloc (.cells (entC e).toArray 26)) 24 #[.int .i64 id, .int .i64 gen, .int .i64 fst])
    rw [World.size_alloc] at B2
    have R0 := Lib.hid (rd.ext X0.out)
    have Q1 := Lib.hid (fun w h => eSeal_any l e id gen fst v w h)
    have Q2 := Lib.hid (fun w h => eReplace_any l e v w h)
    have Q3 := Lib.hid (fun w h => eDrop_any l gen v w h (by omega))
    have HG1 := Lib.hid (goodR_seal l e id gen fst)
    have HG2 := Lib.hid (goodR_repl l e)
    have HG3 := Lib.hid (goodR_drop l gen)
    have HS := Lib.hid head_size
    have ES := Lib.hid (show (Try.prog.info? 26).map (·.size) = some (entC e).toArray.size from ent_size)
    obtain ⟨a, c, rfl, _, _, _⟩ := rd
    clear b R hbig
    generalize sealE l e id gen fst = E1 at *
    generalize sealL l e id gen fst = L1 at *
    generalize replE l e = E2 at *
    generalize replL l e = L2 at *
    generalize eDropE l gen = E3 at *
    generalize eDropL l gen = L3 at *
    generalize entC e = ce at *
    go_enter Try.func4, Try.ntmps4
    go_wp2_with (first
      | (refine wpList_load_blk rfl 26 (.tmp 4) rfl rfl B1.out Try.underlying26 rfl ES.out ?_)
      | (refine wpList_load_blk rfl 24 (.tmp 5) rfl rfl B2.out Try.underlying24 rfl HS.out ?_))
    refine (Q1.out _ R0.out).mono ?_
    rintro _ w1 ⟨v1, rfl, x1, i1⟩
    have I1 := Lib.hid (WR.rr entC_length i1)
    have R0 := Lib.hid (R0.out.ext x1)
    have B1 := Lib.hid (B1.out.ext x1)
    have B2 := Lib.hid (B2.out.ext x1)
    have X1 := Lib.hid (X0.out.trans x1)
    clear x1 i1 Q1
    go_wp2_with (refine wpList_load_blk rfl 26 (.tmp 4) rfl rfl B1.out Try.underlying26 rfl ES.out ?_)
    refine (Q2.out _ R0.out).mono ?_
    rintro _ w2 ⟨v2, rfl, x2, i2⟩
    have I2 := Lib.hid (WR.rr entC_length i2)
    have R0 := Lib.hid (R0.out.ext x2)
    have B1 := Lib.hid (B1.out.ext x2)
    have B2 := Lib.hid (B2.out.ext x2)
    have X2 := Lib.hid (X1.out.trans x2)
    have I1 := Lib.hid (I1.out.ext x2)
    clear x2 i2 Q2
    have d2 : w2.cell? ⟨w.heap.size + 1, 1, none⟩ = some (.int .i64 gen) := B2.out.cell 1
    go_wp2_with fail
    clear d2
    refine (Q3.out _ R0.out).mono ?_
    rintro _ w3 ⟨v3, rfl, x3, i3⟩
    have I3 := Lib.hid (WR.rr entC_length i3)
    have R0 := Lib.hid (R0.out.ext x3)
    have B1 := Lib.hid (B1.out.ext x3)
    have B2 := Lib.hid (B2.out.ext x3)
    have X3 := Lib.hid (X2.out.trans x3)
    have I1 := Lib.hid (I1.out.ext x3)
    have I2 := Lib.hid (I2.out.ext x3)
    clear x3 i3 Q3
    obtain ⟨a1, c1, rfl, _, _, hs1⟩ := I1.out
    have HS1 := Lib.hid hs1
    clear hs1
    obtain ⟨a2, c2, rfl, _, _, hs2⟩ := I2.out
    have HS2 := Lib.hid hs2
    clear hs2
    obtain ⟨a3, c3, rfl, _, _, hs3⟩ := I3.out
    have HS3 := Lib.hid hs3
    clear hs3
    clear B1 B2 R0 HS ES
    go_wp2
    go_loopw [13] (fun i wr => ∃ k : Int, i = .int .i64 k ∧ 0 ≤ k ∧ k ≤ 3 ∧ Ext w3 wr) (fun i _ => (3 - intOf i).toNat)
    case atStart => exact ⟨0, rfl, by omega, by omega, Ext.refl _⟩
    case round =>
      obtain ⟨k, rfl, hk0, hk3, hx⟩ := hrel
      have HX := Lib.hid hx
      clear hx
      by_cases hlt : k < 3
      · obtain rfl | rfl | rfl : k = 0 ∨ k = 1 ∨ k = 2 := by omega
        · rcases HG1.out with ⟨he, hrow⟩ | ⟨hne, hnil⟩
          · subst he
            obtain ⟨h1, h2⟩ := rowP_len hrow
            have hlast := (rowP_all hrow).2.2.1
            obtain ⟨m, hm⟩ : ∃ m, L1.length = m + 1 := ⟨L1.length - 1, by omega⟩
            obtain ⟨g, o, rfl, hc⟩ := HS1.out (by omega)
            have HC := Lib.hid (fun j x hj => rangeAt_ext (hc j x hj) HX.out)
            have HROW := Lib.hid (fun j hj => row_two' (l := L1) hrow (k := j) hj)
            have hQR := fun w h => eRow_any L1 (.slice (some ⟨g, o, none⟩) L1.length c1) w h
            rw [hrow] at hQR
            simp only [errI, if_true] at hQR
            have QR := Lib.hid hQR
            have IK := Lib.hid (I1.out.ext HX.out)
            rw [hm, Nat.add_sub_cancel] at hlast
            have HLST := Lib.hid hlast
            have HM := Lib.hid hm
            have hw1 : IntKind.i64.wrap ((L1.length : Int) - 1) = (m : Int) := by rw [IntKind.wrap_i64]; omega
            have hml : (m : Int) < (L1.length : Int) := by omega
            have hz : ¬ (L1.length : Int) = 0 := by omega
            have hz2 : ((L1.length : Int) == 0) = false := by simpa using hz
            have h2' := Lib.hid h2
            clear hc hQR hrow hlast hm h1 h2 hz
            go_wp2_with fail
            refine (QR.out _ IK.out).mono ?_
            rintro _ wa ⟨rfl, xa⟩
            have XA := Lib.hid xa
            clear xa
            go_wp2
            go_loopw [16] (fun i wb => ∃ j : Nat, i = .int .i64 ((j + 1 : Nat) : Int) ∧ j + 1 ≤ L1.length ∧ Ext wr wb) (fun i _ => (L1.length - (intOf i).toNat))
            case atStart => exact ⟨0, rfl, by have := HM.out; omega, XA.out⟩
            case round =>
              obtain ⟨j, rfl, hj, hxb⟩ := hrel
              have HXB := Lib.hid hxb
              clear hxb
              by_cases hjl : j + 1 < L1.length
              · obtain ⟨p1, p2, p3, p4⟩ := HROW.out j hjl
                have RP := Lib.hid (rangeAt_ext (HC.out j _ (ent_at (by omega))) HXB.out)
                have RM := Lib.hid (rangeAt_ext (HC.out (j + 1) _ (ent_at hjl)) HXB.out)
                have hJ : ((j + 1 : Nat) : Int) < (L1.length : Int) := by omega
                have hJ0 : (j : Int) < (L1.length : Int) := by omega
                have hj1 : IntKind.i64.wrap (((j + 1 : Nat) : Int) - 1) = (j : Int) := by have := h2'.out; rw [IntKind.wrap_i64]; omega
                have hj0 : IntKind.i64.wrap (j : Int) = (j : Int) := by have := h2'.out; rw [IntKind.wrap_i64]; omega
                have hj2 : IntKind.i64.wrap ((j : Int) + 1 + 1) = ((j + 1 + 1 : Nat) : Int) := by have := h2'.out; rw [IntKind.wrap_i64]; omega
                have hjj := Lib.hid hjl
                generalize hpp : L1.getD j default = p at *
                generalize hmm : L1.getD (j + 1) default = n at *
                have hs9 := entP_sum p1
                have QN := Lib.hid (fun w => (show Calls Try.prog 15 #[.agg (entC p).toArray] w fun x w' => x = .returned (.int .i64 n.fst) ∧ Ext w w' from by rw [p4]; exact eNext_small p w ⟨by omega, by omega⟩ ⟨by omega, by omega⟩))
                have f0 := up_cell (cell_mid0 RM.out rfl)
                have f2 := up_cell (cell_mid (i := 2) RM.out rfl)
                have p0 := up_cell (cell_mid0 RP.out rfl)
                have pp3 := (cell_mid (i := 3) RP.out (show (entC p)[3]? = some (.bool true) from by rw [← p2]; rfl))
                have p3c := up_cell pp3
                have ZP := Lib.hid (show (Try.prog.info? 26).map (·.size) = some (entC p).length from ent_size)
                generalize entC p = cp at *
                clear p1 p2 p4 hs9 hpp hmm hj pp3 hjl
                go_wp2_with fail
                have hid : ¬ n.id ≤ p.id := by omega
                refine wp_region_up (by kernel_rfl) (by kernel_rfl) ?_
                iterate 10 (go_big_quiet_step (fail))
                refine wpQuiet_load_range (by kernel_rfl) 26 (.tmp 83) rfl rfl RP.out Try.underlying26 rfl ZP.out ?_
                dsimp only [Act.put]
                simp only [List.setIfInBounds_toArray, List.set_cons_succ, List.set_cons_zero]
                repeat (go_big_quiet_step (first | (go_at_call 15; (with_reducible exact up_call (QN.out _))) | fail))
                refine wpQuiet_nil ?_
                rintro _ ⟨z, rfl⟩
                go_wp2
                go_roundw
                case rel => exact ⟨j + 1, by go_num, by have := hjj.out; omega, HXB.out.trans z.ext⟩
                case measure => simp [intOf]; have := hjj.out; omega
              · have hje : m = j := by have := HM.out; omega
                have RL := Lib.hid (rangeAt_ext (HC.out m _ (ent_at (by have := HM.out; omega))) HXB.out)
                have hcl := cell_mid (i := 3) RL.out (show (entC (L1.getD m default))[3]? = some (.bool false) from by rw [← HLST.out]; rfl)
                have hJn : ¬ ((j + 1 : Nat) : Int) < (L1.length : Int) := by omega
                clear hje
                go_wp2
                go_roundw
                case rel => exact ⟨1, rfl, by omega, by omega, HX.out.trans HXB.out⟩
                case measure => simp [intOf]
          · subst hnil
            have hne' : (E1 == 0) = false := by simpa using hne
            clear hne
            go_wp2
            go_roundw
            case rel => exact ⟨1, rfl, by omega, by omega, HX.out⟩
            case measure => simp [intOf]
        · rcases HG2.out with ⟨he, hrow⟩ | ⟨hne, hnil⟩
          · subst he
            obtain ⟨h1, h2⟩ := rowP_len hrow
            have hlast := (rowP_all hrow).2.2.1
            obtain ⟨m, hm⟩ : ∃ m, L2.length = m + 1 := ⟨L2.length - 1, by omega⟩
            obtain ⟨g, o, rfl, hc⟩ := HS2.out (by omega)
            have HC := Lib.hid (fun j x hj => rangeAt_ext (hc j x hj) HX.out)
            have HROW := Lib.hid (fun j hj => row_two' (l := L2) hrow (k := j) hj)
            have hQR := fun w h => eRow_any L2 (.slice (some ⟨g, o, none⟩) L2.length c2) w h
            rw [hrow] at hQR
            simp only [errI, if_true] at hQR
            have QR := Lib.hid hQR
            have IK := Lib.hid (I2.out.ext HX.out)
            rw [hm, Nat.add_sub_cancel] at hlast
            have HLST := Lib.hid hlast
            have HM := Lib.hid hm
            have hw1 : IntKind.i64.wrap ((L2.length : Int) - 1) = (m : Int) := by rw [IntKind.wrap_i64]; omega
            have hml : (m : Int) < (L2.length : Int) := by omega
            have hz : ¬ (L2.length : Int) = 0 := by omega
            have hz2 : ((L2.length : Int) == 0) = false := by simpa using hz
            have h2' := Lib.hid h2
            clear hc hQR hrow hlast hm h1 h2 hz
            go_wp2_with fail
            refine (QR.out _ IK.out).mono ?_
            rintro _ wa ⟨rfl, xa⟩
            have XA := Lib.hid xa
            clear xa
            go_wp2
            go_loopw [16] (fun i wb => ∃ j : Nat, i = .int .i64 ((j + 1 : Nat) : Int) ∧ j + 1 ≤ L2.length ∧ Ext wr wb) (fun i _ => (L2.length - (intOf i).toNat))
            case atStart => exact ⟨0, rfl, by have := HM.out; omega, XA.out⟩
            case round =>
              obtain ⟨j, rfl, hj, hxb⟩ := hrel
              have HXB := Lib.hid hxb
              clear hxb
              by_cases hjl : j + 1 < L2.length
              · obtain ⟨p1, p2, p3, p4⟩ := HROW.out j hjl
                have RP := Lib.hid (rangeAt_ext (HC.out j _ (ent_at (by omega))) HXB.out)
                have RM := Lib.hid (rangeAt_ext (HC.out (j + 1) _ (ent_at hjl)) HXB.out)
                have hJ : ((j + 1 : Nat) : Int) < (L2.length : Int) := by omega
                have hJ0 : (j : Int) < (L2.length : Int) := by omega
                have hj1 : IntKind.i64.wrap (((j + 1 : Nat) : Int) - 1) = (j : Int) := by have := h2'.out; rw [IntKind.wrap_i64]; omega
                have hj0 : IntKind.i64.wrap (j : Int) = (j : Int) := by have := h2'.out; rw [IntKind.wrap_i64]; omega
                have hj2 : IntKind.i64.wrap ((j : Int) + 1 + 1) = ((j + 1 + 1 : Nat) : Int) := by have := h2'.out; rw [IntKind.wrap_i64]; omega
                have hjj := Lib.hid hjl
                generalize hpp : L2.getD j default = p at *
                generalize hmm : L2.getD (j + 1) default = n at *
                have hs9 := entP_sum p1
                have QN := Lib.hid (fun w => (show Calls Try.prog 15 #[.agg (entC p).toArray] w fun x w' => x = .returned (.int .i64 n.fst) ∧ Ext w w' from by rw [p4]; exact eNext_small p w ⟨by omega, by omega⟩ ⟨by omega, by omega⟩))
                have f0 := up_cell (cell_mid0 RM.out rfl)
                have f2 := up_cell (cell_mid (i := 2) RM.out rfl)
                have p0 := up_cell (cell_mid0 RP.out rfl)
                have pp3 := (cell_mid (i := 3) RP.out (show (entC p)[3]? = some (.bool true) from by rw [← p2]; rfl))
                have p3c := up_cell pp3
                have ZP := Lib.hid (show (Try.prog.info? 26).map (·.size) = some (entC p).length from ent_size)
                generalize entC p = cp at *
                clear p1 p2 p4 hs9 hpp hmm hj pp3 hjl
                go_wp2_with fail
                have hid : ¬ n.id ≤ p.id := by omega
                refine wp_region_up (by kernel_rfl) (by kernel_rfl) ?_
                iterate 10 (go_big_quiet_step (fail))
                refine wpQuiet_load_range (by kernel_rfl) 26 (.tmp 83) rfl rfl RP.out Try.underlying26 rfl ZP.out ?_
                dsimp only [Act.put]
                simp only [List.setIfInBounds_toArray, List.set_cons_succ, List.set_cons_zero]
                repeat (go_big_quiet_step (first | (go_at_call 15; (with_reducible exact up_call (QN.out _))) | fail))
                refine wpQuiet_nil ?_
                rintro _ ⟨z, rfl⟩
                go_wp2
                go_roundw
                case rel => exact ⟨j + 1, by go_num, by have := hjj.out; omega, HXB.out.trans z.ext⟩
                case measure => simp [intOf]; have := hjj.out; omega
              · have hje : m = j := by have := HM.out; omega
                have RL := Lib.hid (rangeAt_ext (HC.out m _ (ent_at (by have := HM.out; omega))) HXB.out)
                have hcl := cell_mid (i := 3) RL.out (show (entC (L2.getD m default))[3]? = some (.bool false) from by rw [← HLST.out]; rfl)
                have hJn : ¬ ((j + 1 : Nat) : Int) < (L2.length : Int) := by omega
                clear hje
                go_wp2
                go_roundw
                case rel => exact ⟨2, rfl, by omega, by omega, HX.out.trans HXB.out⟩
                case measure => simp [intOf]
          · subst hnil
            have hne' : (E2 == 0) = false := by simpa using hne
            clear hne
            go_wp2
            go_roundw
            case rel => exact ⟨2, rfl, by omega, by omega, HX.out⟩
            case measure => simp [intOf]
        · rcases HG3.out with ⟨he, hrow⟩ | ⟨hne, hnil⟩
          · subst he
            obtain ⟨h1, h2⟩ := rowP_len hrow
            have hlast := (rowP_all hrow).2.2.1
            obtain ⟨m, hm⟩ : ∃ m, L3.length = m + 1 := ⟨L3.length - 1, by omega⟩
            obtain ⟨g, o, rfl, hc⟩ := HS3.out (by omega)
            have HC := Lib.hid (fun j x hj => rangeAt_ext (hc j x hj) HX.out)
            have HROW := Lib.hid (fun j hj => row_two' (l := L3) hrow (k := j) hj)
            have hQR := fun w h => eRow_any L3 (.slice (some ⟨g, o, none⟩) L3.length c3) w h
            rw [hrow] at hQR
            simp only [errI, if_true] at hQR
            have QR := Lib.hid hQR
            have IK := Lib.hid (I3.out.ext HX.out)
            rw [hm, Nat.add_sub_cancel] at hlast
            have HLST := Lib.hid hlast
            have HM := Lib.hid hm
            have hw1 : IntKind.i64.wrap ((L3.length : Int) - 1) = (m : Int) := by rw [IntKind.wrap_i64]; omega
            have hml : (m : Int) < (L3.length : Int) := by omega
            have hz : ¬ (L3.length : Int) = 0 := by omega
            have hz2 : ((L3.length : Int) == 0) = false := by simpa using hz
            have h2' := Lib.hid h2
            clear hc hQR hrow hlast hm h1 h2 hz
            go_wp2_with fail
            refine (QR.out _ IK.out).mono ?_
            rintro _ wa ⟨rfl, xa⟩
            have XA := Lib.hid xa
            clear xa
            go_wp2
            go_loopw [16] (fun i wb => ∃ j : Nat, i = .int .i64 ((j + 1 : Nat) : Int) ∧ j + 1 ≤ L3.length ∧ Ext wr wb) (fun i _ => (L3.length - (intOf i).toNat))
            case atStart => exact ⟨0, rfl, by have := HM.out; omega, XA.out⟩
            case round =>
              obtain ⟨j, rfl, hj, hxb⟩ := hrel
              have HXB := Lib.hid hxb
              clear hxb
              by_cases hjl : j + 1 < L3.length
              · obtain ⟨p1, p2, p3, p4⟩ := HROW.out j hjl
                have RP := Lib.hid (rangeAt_ext (HC.out j _ (ent_at (by omega))) HXB.out)
                have RM := Lib.hid (rangeAt_ext (HC.out (j + 1) _ (ent_at hjl)) HXB.out)
                have hJ : ((j + 1 : Nat) : Int) < (L3.length : Int) := by omega
                have hJ0 : (j : Int) < (L3.length : Int) := by omega
                have hj1 : IntKind.i64.wrap (((j + 1 : Nat) : Int) - 1) = (j : Int) := by have := h2'.out; rw [IntKind.wrap_i64]; omega
                have hj0 : IntKind.i64.wrap (j : Int) = (j : Int) := by have := h2'.out; rw [IntKind.wrap_i64]; omega
                have hj2 : IntKind.i64.wrap ((j : Int) + 1 + 1) = ((j + 1 + 1 : Nat) : Int) := by have := h2'.out; rw [IntKind.wrap_i64]; omega
                have hjj := Lib.hid hjl
                generalize hpp : L3.getD j default = p at *
                generalize hmm : L3.getD (j + 1) default = n at *
                have hs9 := entP_sum p1
                have QN := Lib.hid (fun w => (show Calls Try.prog 15 #[.agg (entC p).toArray] w fun x w' => x = .returned (.int .i64 n.fst) ∧ Ext w w' from by rw [p4]; exact eNext_small p w ⟨by omega, by omega⟩ ⟨by omega, by omega⟩))
                have f0 := up_cell (cell_mid0 RM.out rfl)
                have f2 := up_cell (cell_mid (i := 2) RM.out rfl)
                have p0 := up_cell (cell_mid0 RP.out rfl)
                have pp3 := (cell_mid (i := 3) RP.out (show (entC p)[3]? = some (.bool true) from by rw [← p2]; rfl))
                have p3c := up_cell pp3
                have ZP := Lib.hid (show (Try.prog.info? 26).map (·.size) = some (entC p).length from ent_size)
                generalize entC p = cp at *
                clear p1 p2 p4 hs9 hpp hmm hj pp3 hjl
                go_wp2_with fail
                have hid : ¬ n.id ≤ p.id := by omega
                refine wp_region_up (by kernel_rfl) (by kernel_rfl) ?_
                iterate 10 (go_big_quiet_step (fail))
                refine wpQuiet_load_range (by kernel_rfl) 26 (.tmp 83) rfl rfl RP.out Try.underlying26 rfl ZP.out ?_
                dsimp only [Act.put]
                simp only [List.setIfInBounds_toArray, List.set_cons_succ, List.set_cons_zero]
                repeat (go_big_quiet_step (first | (go_at_call 15; (with_reducible exact up_call (QN.out _))) | fail))
                refine wpQuiet_nil ?_
                rintro _ ⟨z, rfl⟩
                go_wp2
                go_roundw
                case rel => exact ⟨j + 1, by go_num, by have := hjj.out; omega, HXB.out.trans z.ext⟩
                case measure => simp [intOf]; have := hjj.out; omega
              · have hje : m = j := by have := HM.out; omega
                have RL := Lib.hid (rangeAt_ext (HC.out m _ (ent_at (by have := HM.out; omega))) HXB.out)
                have hcl := cell_mid (i := 3) RL.out (show (entC (L3.getD m default))[3]? = some (.bool false) from by rw [← HLST.out]; rfl)
                have hJn : ¬ ((j + 1 : Nat) : Int) < (L3.length : Int) := by omega
                clear hje
                go_wp2
                go_roundw
                case rel => exact ⟨3, rfl, by omega, by omega, HX.out.trans HXB.out⟩
                case measure => simp [intOf]
          · subst hnil
            have hne' : (E3 == 0) = false := by simpa using hne
            clear hne
            go_wp2
            go_roundw
            case rel => exact ⟨3, rfl, by omega, by omega, HX.out⟩
            case measure => simp [intOf]
      · obtain rfl : k = 3 := by omega
        go_wp2_with fail
        refine (QA.out _).mono ?_
        rintro _ w9 ⟨rfl, x9⟩
        go_wp2
        go_ret
        exact ⟨rfl, (X3.out.trans HX.out).trans x9⟩
end Go.Proofs.Ytplbebcckffgeaa
