/- varveref24: Drop, Same. -/
import Derived.Test.YtplbebcckffgeaaEntF
import Derived.Test.YtplbebcckffgeaaEntE
import Derived.Test.YtplbebcckffgeaaEntQ
namespace Go.Proofs.Ytplbebcckffgeaa
set_option linter.unusedVariables false
set_option linter.unusedSimpArgs false
open Go.RowKit

set_option maxRecDepth 20000 in
set_option maxHeartbeats 4000000 in
theorem rDrop_any (l : List E9) (n : Int) (v : Value) (w : World) (hr : RR entC 9 w v l) (hl : (l.length : Int) ≤ 1000000) :
    Calls Try.prog 12 #[v, .int .i64 n] w fun e w' => ∃ v', e = .returned (.tuple #[v', .int .i64 (eDropE l n)]) ∧ Ext w w' ∧ EW w' w.heap.size v' (eDropL l n) := by
  have q := rRow_any l v w hr
  have HR := Lib.hid hr
  obtain ⟨a, c, rfl, hlc, _, hs⟩ := hr
  unfold eDropL eDropE
  cases hrow : rowP l with
  | false =>
    rw [hrow] at q
    have q := Lib.hid q
    clear hrow hs
    simp only [Bool.false_eq_true, if_false]
    go_enter Try.func12, Try.ntmps12
    go_wp2_with fail
    refine (q.out).mono ?_
    rintro _ w1 ⟨rfl, x1⟩
    simp only [errI, Bool.false_eq_true, if_false]
    go_wp2
    go_ret2
    exact ⟨_, rfl, x1, WR.nil _ _ _⟩
  | true =>
    rw [hrow] at q
    have q := Lib.hid q
    simp only [if_true]
    obtain ⟨h1, h2⟩ := rowP_len hrow
    clear hrow
    obtain ⟨m, hm⟩ : ∃ m, l.length = m + 1 := ⟨l.length - 1, by omega⟩
    by_cases n0 : n < 0
    · rw [if_neg (by omega)]
      simp only [Int.reduceEq, if_false]
      clear hs hm
      go_enter Try.func12, Try.ntmps12
      go_wp2_with fail
      refine (q.out).mono ?_
      rintro _ w1 ⟨rfl, x1⟩
      simp only [errI, if_true]
      go_wp2
      go_ret2
      exact ⟨_, rfl, x1, WR.nil _ _ _⟩
    · by_cases n1 : (l.length : Int) ≤ n
      · rw [if_neg (by omega)]
        simp only [Int.reduceEq, if_false]
        clear hs hm
        go_enter Try.func12, Try.ntmps12
        go_wp2_with fail
        refine (q.out).mono ?_
        rintro _ w1 ⟨rfl, x1⟩
        simp only [errI, if_true]
        go_wp2
        go_ret2
        exact ⟨_, rfl, x1, WR.nil _ _ _⟩
      · rw [if_pos (by omega)]
        simp only [if_true]
        obtain ⟨k, rfl⟩ : ∃ k : Nat, n = (k : Int) := ⟨n.toNat, by omega⟩
        simp only [Int.toNat_natCast]
        obtain ⟨g, o, rfl, hc⟩ := hs (by omega)
        have hkl : k < l.length := by omega
        have hkc : k < c := by omega
        have hdr : RR entC 9 w (.slice (some ⟨g, o + k * 9, none⟩) (l.length - k) (c - k)) (l.drop k) := RR.drop HR.out k (by omega) _ (fun g' o' e hlt => by
          injection e with e; injection e with e1 e2; subst e1; subst e2; rfl) (fun e => by cases e)
        have HD := Lib.hid hdr
        have HL := Lib.hid (show (l.drop k).length ≤ 1000000 by rw [List.length_drop]; omega)
        have k1 : (k : Int) ≤ (l.length : Int) := by omega
        have k2 : (l.length : Int) ≤ (c : Int) := by omega
        have k3 : ¬ (l.length : Int) ≤ (k : Int) := by omega
        clear hs hc hdr hm
        go_enter Try.func12, Try.ntmps12
        go_wp2_with fail
        refine (q.out).mono ?_
        rintro _ w1 ⟨rfl, x1⟩
        simp only [errI, if_true]
        have X1 := Lib.hid x1
        clear x1
        obtain ⟨v', w', p1, p2, p3⟩ := WR.app0 (B := w1.heap.size) (w := w1.alloc (.cells #[] 26)) entC_length (by decide) entC_one (Blk.new w1 26 #[]) (Nat.le_refl _) (RR.ext (HD.out.ext X1.out) ((Ext.refl w1).alloc _)) (by rw [World.size_alloc]; omega) (P := Try.prog) (t := 22) Try.underlying22 ent_info rfl (by have := HL.out; omega) (by have := HL.out; unfold maxLen; omega)
        have P2 := Lib.hid p2
        have P3 := Lib.hid p3
        clear p2 p3
        go_wp2_with (first
          | (refine wpList_bs (vs := #[]) rfl 22 0 _ rfl rfl (run_bs0e _) ?_)
          | (at_builtin; refine wpList_app rfl (.tmp 17) (.tmp 20) 22 rfl rfl rfl rfl p1 ?_))
        go_ret2
        exact ⟨_, rfl, (X1.out.alloc _).trans P3.out, P2.out.mono X1.out.le⟩

/-- the first k are the same -/
def sameTo (a b : List E9) (k : Nat) : Prop := a.take k = b.take k
theorem same_end {a b : List E9} (hl : a.length = b.length) (h : sameTo a b a.length) : decide (a = b) = true := by
  unfold sameTo at h
  rw [List.take_length, hl, List.take_length] at h
  exact decide_eq_true h
theorem same_no {a b : List E9} {k : Nat} (ha : k < a.length) (hb : k < b.length) (h : ¬ a.getD k default = b.getD k default) : decide (a = b) = false := by
  rw [decide_eq_false_iff_not]
  rintro rfl
  exact h rfl
theorem same_step {a b : List E9} {k : Nat} (ha : k < a.length) (hb : k < b.length) (h0 : sameTo a b k) (h : a.getD k default = b.getD k default) : sameTo a b (k + 1) := by
  unfold sameTo at h0 ⊢
  rw [List.take_add_one, List.take_add_one, h0, ent_at ha, ent_at hb, h]
set_option maxRecDepth 20000 in
set_option maxHeartbeats 4000000 in
theorem rSame_any (a b : List E9) (va vb : Value) (w : World) (ha : RR entC 9 w va a) (hb : RR entC 9 w vb b) (hl : (a.length : Int) ≤ 1000000000) :
    Calls Try.prog 13 #[va, vb] w fun e w' => e = .returned (.bool (decide (a = b))) ∧ Ext w w' := by
  obtain ⟨pa, ca, rfl, _, _, hsa⟩ := ha
  obtain ⟨pb, cb, rfl, _, _, hsb⟩ := hb
  by_cases hlen : a.length = b.length
  · have HSA := Lib.hid hsa
    have HSB := Lib.hid hsb
    have HE := Lib.hid (fun h => same_end hlen h)
    have HNO := Lib.hid (fun k h1 h2 h => same_no (a := a) (b := b) (k := k) h1 h2 h)
    have HST := Lib.hid (fun k h1 h2 h0 h => same_step (a := a) (b := b) (k := k) h1 h2 h0 h)
    generalize decide (a = b) = r at *
    have HLN := Lib.hid hlen
    rw [← hlen]
    clear hsa hsb hlen
    go_enter Try.func13, Try.ntmps13
    go_wp2
    go_loopw [5] (fun i wr => ∃ k : Nat, i = .int .i64 (k : Int) ∧ k ≤ a.length ∧ sameTo a b k ∧ Ext w wr) (fun i _ => a.length - (intOf i).toNat)
    case atStart => exact ⟨0, rfl, Nat.zero_le _, rfl, Ext.refl _⟩
    case round =>
      obtain ⟨k, rfl, hk, hsm, hx⟩ := hrel
      have HX := Lib.hid hx
      by_cases hlt : k < a.length
      · have hI : (k : Int) < (a.length : Int) := by omega
        have hltb : k < b.length := by have := HLN.out; omega
        obtain ⟨ga, oa, rfl, hca⟩ := HSA.out (by omega)
        obtain ⟨gb, ob, rfl, hcb⟩ := HSB.out (by omega)
        have RA := Lib.hid (rangeAt_ext (hca k _ (ent_at hlt)) hx)
        have RB := Lib.hid (rangeAt_ext (hcb k _ (ent_at hltb)) hx)
        have HNO := Lib.hid (fun h => HNO.out k hlt hltb h)
        have HST := Lib.hid (fun h => HST.out k hlt hltb hsm h)
        have hN := fun w => ent_neq (a.getD k default) (b.getD k default) w
        have hkm := Lib.hid hlt
        have hkw : IntKind.i64.wrap ((k : Int) + 1) = ((k + 1 : Nat) : Int) := by rw [IntKind.wrap_i64]; omega
        clear hca hcb hx hk hsm hlt hltb
        generalize a.getD k default = x at *
        generalize b.getD k default = y at *
        have ZA := Lib.hid (show (Try.prog.info? 26).map (·.size) = some (entC x).length from ent_size)
        have ZB := Lib.hid (show (Try.prog.info? 26).map (·.size) = some (entC y).length from ent_size)
        by_cases hxy : x = y
        · have hs := HST.out hxy
          rw [decide_eq_true hxy] at hN
          clear hxy HNO HST
          generalize entC x = cx at *
          generalize entC y = cy at *
          go_wp2
          refine wp_region_up (by kernel_rfl) (by kernel_rfl) ?_
          iterate 3 (go_big_quiet_step (fail))
          refine wpQuiet_load_range (by kernel_rfl) 26 (.tmp 19) rfl rfl RA.out Try.underlying26 rfl ZA.out ?_
          dsimp only [Act.put]
          simp only [List.setIfInBounds_toArray, List.set_cons_succ, List.set_cons_zero]
          iterate 3 (go_big_quiet_step (fail))
          refine wpQuiet_load_range (by kernel_rfl) 26 (.tmp 23) rfl rfl RB.out Try.underlying26 rfl ZB.out ?_
          dsimp only [Act.put]
          simp only [List.setIfInBounds_toArray, List.set_cons_succ, List.set_cons_zero]
          repeat (go_big_quiet_step (fail))
          refine wpQuiet_nil ?_
          rintro _ ⟨z, rfl⟩
          go_wp2
          go_roundw
          case rel => exact ⟨k + 1, by go_num, by have := hkm.out; omega, hs, HX.out.trans z.ext⟩
          case measure => simp [intOf]; have := hkm.out; omega
        · have hs := HNO.out hxy
          rw [decide_eq_false hxy] at hN
          clear hxy HNO HST
          subst hs
          generalize entC x = cx at *
          generalize entC y = cy at *
          go_wp2
          refine wp_region_up (by kernel_rfl) (by kernel_rfl) ?_
          iterate 3 (go_big_quiet_step (fail))
          refine wpQuiet_load_range (by kernel_rfl) 26 (.tmp 19) rfl rfl RA.out Try.underlying26 rfl ZA.out ?_
          dsimp only [Act.put]
          simp only [List.setIfInBounds_toArray, List.set_cons_succ, List.set_cons_zero]
          iterate 3 (go_big_quiet_step (fail))
          refine wpQuiet_load_range (by kernel_rfl) 26 (.tmp 23) rfl rfl RB.out Try.underlying26 rfl ZB.out ?_
          dsimp only [Act.put]
          simp only [List.setIfInBounds_toArray, List.set_cons_succ, List.set_cons_zero]
          repeat (go_big_quiet_step (fail))
          refine wpQuiet_nil ?_
          rintro _ ⟨z, rfl⟩
          go_wp2
          go_ret
          exact ⟨rfl, HX.out.trans z.ext⟩
      · obtain rfl : k = a.length := by omega
        have hres := HE.out hsm
        clear hk hx hsm
        subst hres
        go_wp2
        go_ret
        exact ⟨rfl, HX.out⟩
  · have hne : ¬ (a.length : Int) = (b.length : Int) := by omega
    have hr : decide (a = b) = false := by rw [decide_eq_false_iff_not]; rintro rfl; exact hlen rfl
    rw [hr]
    have hne' : ((a.length : Int) == (b.length : Int)) = false := by simpa using hne
    clear hsa hsb hlen hr
    go_enter Try.func13, Try.ntmps13
    go_wp2
    go_ret
    exact ⟨rfl, Ext.refl _⟩
end Go.Proofs.Ytplbebcckffgeaa
