/- pick: the plain law of Drop; Drop's closure. (Printed by wip/tools/pick5.py.) -/
import Derived.Test.YtfcfhaghamgdaaaPickD
namespace Go.Proofs.Ytfcfhaghamgdaaa
set_option linter.unusedVariables false
set_option linter.unusedSimpArgs false
open Go.RowKit

/-- is there too much, of what is left? -/
def tooP (keep byt old now left : Int) (rest : List E9) : Bool := (decide (0 < keep) && decide (keep < (rest.length : Int))) || ((decide (0 < byt) && decide (byt < left)) || oldP old now (rest.getD 0 default))
/-- times that do not fall -/
def rising (l : List E9) : Prop := ∀ e ∈ l, (l.getD 0 default).late ≤ e.late
theorem too_enough {keep byt old now : Int} (hk : 0 ≤ keep) (hb : 0 ≤ byt) {l : List E9} (h0 : l ≠ []) (hr : rising l) : tooP keep byt old now (bytesL l) l = !enoughP keep byt old now l := by
  have ho : l.all (fun e => !oldP old now e) = !oldP old now (l.getD 0 default) := by
    cases hold : oldP old now (l.getD 0 default) with
    | false =>
      rw [Bool.not_false, List.all_eq_true]
      intro e he
      have h1 := hr e he
      unfold oldP at hold ⊢
      by_cases h2 : 0 < old
      · rw [decide_eq_true h2, Bool.true_and, decide_eq_false_iff_not] at hold
        rw [decide_eq_true h2, Bool.true_and, decide_eq_false (by omega)]; rfl
      · rw [decide_eq_false h2]; rfl
    | true =>
      rw [Bool.not_true, List.all_eq_false]
      cases l with
      | nil => exact absurd rfl h0
      | cons e l => exact ⟨e, List.mem_cons_self, by rw [show ((e :: l).getD 0 default) = e from rfl] at hold; rw [hold]; decide⟩
  unfold tooP enoughP
  rw [ho]
  have e1 : (decide (keep = 0) || decide ((l.length : Int) ≤ keep)) = !(decide (0 < keep) && decide (keep < (l.length : Int))) := by
    rw [Bool.eq_iff_iff]; simp; omega
  have e2 : (decide (byt = 0) || decide (bytesL l ≤ byt)) = !(decide (0 < byt) && decide (byt < bytesL l)) := by
    rw [Bool.eq_iff_iff]; simp; omega
  rw [e1, e2]
  cases oldP old now (l.getD 0 default) <;> cases (decide (0 < keep) && decide (keep < (l.length : Int))) <;> cases (decide (0 < byt) && decide (byt < bytesL l)) <;> rfl
/-- how many are dropped -/
def dropL (keep byt old now : Int) : List E9 → Nat
  | [] => 0
  | e :: r => if tooP keep byt old now (bytesL (e :: r)) (e :: r) then dropL keep byt old now r + 1 else 0
theorem dropL_le (keep byt old now : Int) : ∀ (l : List E9), dropL keep byt old now l ≤ l.length
  | [] => Nat.le_refl _
  | e :: r => by
    unfold dropL
    have := dropL_le keep byt old now r
    split
    · rw [List.length_cons]; omega
    · omega
theorem dropL_stop {keep byt old now : Int} {l : List E9} (h : tooP keep byt old now (bytesL l) l = false) : dropL keep byt old now l = 0 := by
  cases l with
  | nil => rfl
  | cons e r => unfold dropL; rw [h]; rfl
theorem dropL_go {keep byt old now : Int} {l : List E9} (h0 : l ≠ []) (h : tooP keep byt old now (bytesL l) l = true) : dropL keep byt old now l = dropL keep byt old now (l.drop 1) + 1 := by
  cases l with
  | nil => exact absurd rfl h0
  | cons e r => rw [show dropL keep byt old now (e :: r) = if tooP keep byt old now (bytesL (e :: r)) (e :: r) then dropL keep byt old now r + 1 else 0 from rfl, if_pos h]; rfl
/-- the sealed entries of a row -/
theorem row_rising {l : List E9} (h : rowP l = true) : ∀ n, rising ((l.take (l.length - 1)).drop n) := by
  obtain ⟨h1, h2, h3, h4⟩ := rowP_parts h
  have step : ∀ i, i + 1 < l.length - 1 → (l.getD i default).late ≤ (l.getD (i + 1) default).late := by
    intro i hi
    have h5 := eTo_all h4 (show i + 1 < l.length by omega)
    have h6 := eTo_all h4 (show i + 2 < l.length by omega)
    rw [Bool.and_eq_true, Bool.or_eq_true] at h5 h6
    obtain ⟨ha, hb⟩ := h5
    obtain ⟨hc, hd⟩ := h6
    rcases hb with hb | hb
    · simp at hb
    rcases hd with hd | hd
    · simp at hd
    rw [show i + 1 - 1 = i from rfl] at hb
    rw [show i + 2 - 1 = i + 1 from rfl] at hd
    unfold efolP behindP at hb hd
    simp only [Bool.and_eq_true, Bool.or_eq_true, decide_eq_true_eq] at hb hd
    have hs := hd.1
    rw [hs] at hb
    have hl : (l.getD i default).late ≤ (l.getD (i + 1) default).early := by
      rcases hb.2.2.2 with h | h
      · cases h
      · exact h
    unfold entP at ha
    rw [hs, if_pos rfl, Bool.and_eq_true] at ha
    have ha : sealD _ _ _ _ _ _ := of_decide_eq_true ha.2
    have := ha.2.2.2.2.2.2.1
    omega
  have all : ∀ d i, i + d < l.length - 1 → (l.getD i default).late ≤ (l.getD (i + d) default).late := by
    intro d
    induction d with
    | zero => intro i _; exact Int.le_refl _
    | succ d ih => intro i hi; exact Int.le_trans (ih i (by omega)) (step (i + d) (by omega))
  intro n e he
  obtain ⟨k, hk, rfl⟩ := List.mem_iff_getElem.1 he
  rw [List.length_drop, List.length_take] at hk
  rw [List.getD_eq_getElem?_getD, List.getElem?_drop, List.getElem?_take, if_pos (by omega), List.getElem_drop, List.getElem_take, Nat.add_zero]
  have := all k n (by omega)
  rw [List.getD_eq_getElem?_getD, List.getD_eq_getElem?_getD, List.getElem?_eq_getElem (show n < l.length by omega), List.getElem?_eq_getElem (show n + k < l.length by omega)] at this
  rw [List.getElem?_eq_getElem (show n < l.length by omega)]
  exact this

set_option maxRecDepth 20000 in
set_option maxHeartbeats 8000000 in
theorem too_any (blk tgt seg age keep byt old now left : Int) (g1 g2 g3 : Nat) (l : List E9) (v : Value) (w : World) (hr : RR entC 9 w v l) (h0 : 0 < l.length) (hl : (l.length : Int) ≤ 1000) (h1 : Blk w g1 23 #[.int .i64 blk, .int .i64 tgt, .int .i64 seg, .int .i64 age, .int .i64 keep, .int .i64 byt, .int .i64 old]) (h2 : Blk w g2 3 #[.int .i64 left]) (h3 : Blk w g3 3 #[.int .i64 now])
    (ht : 0 ≤ (l.getD 0 default).late ∧ (l.getD 0 default).late ≤ 1000000000) :
    Calls Try.prog 26 #[v, .pointer (some ⟨g1, 0, none⟩), .pointer (some ⟨g2, 0, none⟩), .pointer (some ⟨g3, 0, none⟩)] w fun e w' => e = .returned (.bool (tooP keep byt old now left l)) ∧ Ext w w' := by
  have qn := Lib.hid (fun w => wclamp_any now w)
  have hcl := clampI_le now
  unfold tooP oldP
  generalize clampI now = cn at *
  obtain ⟨a, c, rfl, hc, _, hs⟩ := hr
  obtain ⟨g, o, rfl, hcs⟩ := hs h0
  have R := hcs 0 _ (ent_at h0)
  have c7 := up_cell (show w.cell? ⟨g, o + 7, none⟩ = some (.int .i64 (l.getD 0 default).late) from by have := R 7 _ rfl; rw [Nat.zero_mul] at this; exact this)
  have k4 := up_cell (h1.cell 4)
  have k5 := up_cell (h1.cell 5)
  have k6 := up_cell (h1.cell 6)
  have kl := up_cell (h2.cell 0)
  have kn := up_cell (h3.cell 0)
  have hI : (0 : Int) < (l.length : Int) := by omega
  clear hs hcs R h1 h2 h3
  generalize (l.getD 0 default).late = elate at *
  generalize l.length = n at *
  have e1 : IntKind.i64.wrap (cn - elate) = cn - elate := by rw [IntKind.wrap_i64]; omega
  generalize hr : (((decide (0 < keep) && decide (keep < (n : Int))) || ((decide (0 < byt) && decide (byt < left)) || (decide (0 < old) && decide (old < cn - elate))))) = r
  have HR := Lib.hid hr
  clear hr
  by_cases a1 : 0 < keep
  · by_cases a2 : keep < (n : Int)
    · have hd := Lib.hid (show r = true by rw [← HR.out]; simp only [decide_eq_true a1, decide_eq_true a2]; simp)
      go_enter Try.func26, Try.ntmps26
      go_wp2_with fail
      refine wp_region_up (by kernel_rfl) (by kernel_rfl) ?_
      repeat (go_big_quiet_step (first | (go_at_call 27; (with_reducible exact up_same (qn.out _))) | fail))
      refine wpQuiet_nil ?_
      rintro _ ⟨z, rfl⟩
      go_wp2
      go_ret
      exact ⟨by rw [hd.out]; rfl, z.ext⟩
    · by_cases b1 : 0 < byt
      · by_cases b2 : byt < left
        · have hd := Lib.hid (show r = true by rw [← HR.out]; simp only [decide_eq_true a1, decide_eq_false a2, decide_eq_true b1, decide_eq_true b2]; simp)
          go_enter Try.func26, Try.ntmps26
          go_wp2_with fail
          have a2' : ¬ keep < (n : Int) := by omega
          refine wp_region_up (by kernel_rfl) (by kernel_rfl) ?_
          repeat (go_big_quiet_step (first | (go_at_call 27; (with_reducible exact up_same (qn.out _))) | fail))
          refine wpQuiet_nil ?_
          rintro _ ⟨z, rfl⟩
          go_wp2
          go_ret
          exact ⟨by rw [hd.out]; rfl, z.ext⟩
        · by_cases c1 : 0 < old
          · have hd := Lib.hid (show r = decide (old < cn - elate) by rw [← HR.out]; simp only [decide_eq_true a1, decide_eq_false a2, decide_eq_true b1, decide_eq_false b2, decide_eq_true c1]; simp)
            go_enter Try.func26, Try.ntmps26
            go_wp2_with fail
            have a2' : ¬ keep < (n : Int) := by omega
            have b2' : ¬ byt < left := by omega
            refine wp_region_up (by kernel_rfl) (by kernel_rfl) ?_
            repeat (go_big_quiet_step (first | (go_at_call 27; (with_reducible exact up_same (qn.out _))) | fail))
            refine wpQuiet_nil ?_
            rintro _ ⟨z, rfl⟩
            go_wp2
            go_ret
            exact ⟨by rw [hd.out]; rfl, z.ext⟩
          · have hd := Lib.hid (show r = false by rw [← HR.out]; simp only [decide_eq_true a1, decide_eq_false a2, decide_eq_true b1, decide_eq_false b2, decide_eq_false c1]; simp)
            go_enter Try.func26, Try.ntmps26
            go_wp2_with fail
            have a2' : ¬ keep < (n : Int) := by omega
            have b2' : ¬ byt < left := by omega
            have c1' : ¬ 0 < old := by omega
            refine wp_region_up (by kernel_rfl) (by kernel_rfl) ?_
            repeat (go_big_quiet_step (first | (go_at_call 27; (with_reducible exact up_same (qn.out _))) | fail))
            refine wpQuiet_nil ?_
            rintro _ ⟨z, rfl⟩
            go_wp2
            go_ret
            exact ⟨by rw [hd.out]; rfl, z.ext⟩
      · by_cases c1 : 0 < old
        · have hd := Lib.hid (show r = decide (old < cn - elate) by rw [← HR.out]; simp only [decide_eq_true a1, decide_eq_false a2, decide_eq_false b1, decide_eq_true c1]; simp)
          go_enter Try.func26, Try.ntmps26
          go_wp2_with fail
          have a2' : ¬ keep < (n : Int) := by omega
          have b1' : ¬ 0 < byt := by omega
          refine wp_region_up (by kernel_rfl) (by kernel_rfl) ?_
          repeat (go_big_quiet_step (first | (go_at_call 27; (with_reducible exact up_same (qn.out _))) | fail))
          refine wpQuiet_nil ?_
          rintro _ ⟨z, rfl⟩
          go_wp2
          go_ret
          exact ⟨by rw [hd.out]; rfl, z.ext⟩
        · have hd := Lib.hid (show r = false by rw [← HR.out]; simp only [decide_eq_true a1, decide_eq_false a2, decide_eq_false b1, decide_eq_false c1]; simp)
          go_enter Try.func26, Try.ntmps26
          go_wp2_with fail
          have a2' : ¬ keep < (n : Int) := by omega
          have b1' : ¬ 0 < byt := by omega
          have c1' : ¬ 0 < old := by omega
          refine wp_region_up (by kernel_rfl) (by kernel_rfl) ?_
          repeat (go_big_quiet_step (first | (go_at_call 27; (with_reducible exact up_same (qn.out _))) | fail))
          refine wpQuiet_nil ?_
          rintro _ ⟨z, rfl⟩
          go_wp2
          go_ret
          exact ⟨by rw [hd.out]; rfl, z.ext⟩
  · by_cases b1 : 0 < byt
    · by_cases b2 : byt < left
      · have hd := Lib.hid (show r = true by rw [← HR.out]; simp only [decide_eq_false a1, decide_eq_true b1, decide_eq_true b2]; simp)
        go_enter Try.func26, Try.ntmps26
        go_wp2_with fail
        have a1' : ¬ 0 < keep := by omega
        refine wp_region_up (by kernel_rfl) (by kernel_rfl) ?_
        repeat (go_big_quiet_step (first | (go_at_call 27; (with_reducible exact up_same (qn.out _))) | fail))
        refine wpQuiet_nil ?_
        rintro _ ⟨z, rfl⟩
        go_wp2
        go_ret
        exact ⟨by rw [hd.out]; rfl, z.ext⟩
      · by_cases c1 : 0 < old
        · have hd := Lib.hid (show r = decide (old < cn - elate) by rw [← HR.out]; simp only [decide_eq_false a1, decide_eq_true b1, decide_eq_false b2, decide_eq_true c1]; simp)
          go_enter Try.func26, Try.ntmps26
          go_wp2_with fail
          have a1' : ¬ 0 < keep := by omega
          have b2' : ¬ byt < left := by omega
          refine wp_region_up (by kernel_rfl) (by kernel_rfl) ?_
          repeat (go_big_quiet_step (first | (go_at_call 27; (with_reducible exact up_same (qn.out _))) | fail))
          refine wpQuiet_nil ?_
          rintro _ ⟨z, rfl⟩
          go_wp2
          go_ret
          exact ⟨by rw [hd.out]; rfl, z.ext⟩
        · have hd := Lib.hid (show r = false by rw [← HR.out]; simp only [decide_eq_false a1, decide_eq_true b1, decide_eq_false b2, decide_eq_false c1]; simp)
          go_enter Try.func26, Try.ntmps26
          go_wp2_with fail
          have a1' : ¬ 0 < keep := by omega
          have b2' : ¬ byt < left := by omega
          have c1' : ¬ 0 < old := by omega
          refine wp_region_up (by kernel_rfl) (by kernel_rfl) ?_
          repeat (go_big_quiet_step (first | (go_at_call 27; (with_reducible exact up_same (qn.out _))) | fail))
          refine wpQuiet_nil ?_
          rintro _ ⟨z, rfl⟩
          go_wp2
          go_ret
          exact ⟨by rw [hd.out]; rfl, z.ext⟩
    · by_cases c1 : 0 < old
      · have hd := Lib.hid (show r = decide (old < cn - elate) by rw [← HR.out]; simp only [decide_eq_false a1, decide_eq_false b1, decide_eq_true c1]; simp)
        go_enter Try.func26, Try.ntmps26
        go_wp2_with fail
        have a1' : ¬ 0 < keep := by omega
        have b1' : ¬ 0 < byt := by omega
        refine wp_region_up (by kernel_rfl) (by kernel_rfl) ?_
        repeat (go_big_quiet_step (first | (go_at_call 27; (with_reducible exact up_same (qn.out _))) | fail))
        refine wpQuiet_nil ?_
        rintro _ ⟨z, rfl⟩
        go_wp2
        go_ret
        exact ⟨by rw [hd.out]; rfl, z.ext⟩
      · have hd := Lib.hid (show r = false by rw [← HR.out]; simp only [decide_eq_false a1, decide_eq_false b1, decide_eq_false c1]; simp)
        go_enter Try.func26, Try.ntmps26
        go_wp2_with fail
        have a1' : ¬ 0 < keep := by omega
        have b1' : ¬ 0 < byt := by omega
        have c1' : ¬ 0 < old := by omega
        refine wp_region_up (by kernel_rfl) (by kernel_rfl) ?_
        repeat (go_big_quiet_step (first | (go_at_call 27; (with_reducible exact up_same (qn.out _))) | fail))
        refine wpQuiet_nil ?_
        rintro _ ⟨z, rfl⟩
        go_wp2
        go_ret
        exact ⟨by rw [hd.out]; rfl, z.ext⟩
end Go.Proofs.Ytfcfhaghamgdaaa
