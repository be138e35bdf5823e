/- varveref24: Drop, Same. -/
import Derived.Test.YtcagcepbnkageaaMgM
import Derived.Test.YtcagcepbnkageaaNtE
namespace Go.Proofs.Ytcagcepbnkageaa
set_option linter.unusedVariables false
set_option linter.unusedSimpArgs false
open Go.RowKit

/-- the first k are the same -/
def sameTo (a b : List E9) (k : Nat) : Prop := a.take k = b.take k
theorem same_end {a b : List E9} (hl : a.length = b.length) (h : sameTo a b a.length) : decide (a = b) = true := by
  unfold sameTo at h
  rw [List.take_length, hl, List.take_length] at h
  exact decide_eq_true h
theorem same_no {a b : List E9} {k : Nat} (ha : k < a.length) (hb : k < b.length) (h : ¬ a.getD k default = b.getD k default) : decide (a = b) = false := by
  rw [decide_eq_false_iff_not]
  rintro rfl
  exact h rfl
theorem same_step {a b : List E9} {k : Nat} (ha : k < a.length) (hb : k < b.length) (h0 : sameTo a b k) (h : a.getD k default = b.getD k default) : sameTo a b (k + 1) := by
  unfold sameTo at h0 ⊢
  rw [List.take_add_one, List.take_add_one, h0, ent_at ha, ent_at hb, h]
set_option maxRecDepth 20000 in
set_option maxHeartbeats 4000000 in
theorem rSame_any (a b : List E9) (va vb : Value) (w : World) (ha : RR entC 9 w va a) (hb : RR entC 9 w vb b) (hl : (a.length : Int) ≤ 1000000000) :
    Calls Try.prog 40 #[va, vb] w fun e w' => e = .returned (.bool (decide (a = b))) ∧ Ext w w' := by
  obtain ⟨pa, ca, rfl, _, _, hsa⟩ := ha
  obtain ⟨pb, cb, rfl, _, _, hsb⟩ := hb
  by_cases hlen : a.length = b.length
  · have HSA := Lib.hid hsa
    have HSB := Lib.hid hsb
    have HE := Lib.hid (fun h => same_end hlen h)
    have HNO := Lib.hid (fun k h1 h2 h => same_no (a := a) (b := b) (k := k) h1 h2 h)
    have HST := Lib.hid (fun k h1 h2 h0 h => same_step (a := a) (b := b) (k := k) h1 h2 h0 h)
    generalize decide (a = b) = r at *
    have HLN := Lib.hid hlen
    rw [← hlen]
    clear hsa hsb hlen
    go_enter Try.func40, Try.ntmps40
    go_wp2
    go_loopw [5] (fun i wr => ∃ k : Nat, i = .int .i64 (k : Int) ∧ k ≤ a.length ∧ sameTo a b k ∧ Ext w wr) (fun i _ => a.length - (intOf i).toNat)
    case atStart => exact ⟨0, rfl, Nat.zero_le _, rfl, Ext.refl _⟩
    case round =>
      obtain ⟨k, rfl, hk, hsm, hx⟩ := hrel
      have HX := Lib.hid hx
      by_cases hlt : k < a.length
      · have hI : (k : Int) < (a.length : Int) := by omega
        have hltb : k < b.length := by have := HLN.out; omega
        obtain ⟨ga, oa, rfl, hca⟩ := HSA.out (by omega)
        obtain ⟨gb, ob, rfl, hcb⟩ := HSB.out (by omega)
        have RA := Lib.hid (rangeAt_ext (hca k _ (ent_at hlt)) hx)
        have RB := Lib.hid (rangeAt_ext (hcb k _ (ent_at hltb)) hx)
        have HNO := Lib.hid (fun h => HNO.out k hlt hltb h)
        have HST := Lib.hid (fun h => HST.out k hlt hltb hsm h)
        have hN := fun w => ent_neq (a.getD k default) (b.getD k default) w
        have hkm := Lib.hid hlt
        have hkw : IntKind.i64.wrap ((k : Int) + 1) = ((k + 1 : Nat) : Int) := by rw [IntKind.wrap_i64]; omega
        clear hca hcb hx hk hsm hlt hltb
        generalize a.getD k default = x at *
        generalize b.getD k default = y at *
        have ZA := Lib.hid (show (Try.prog.info? 49).map (·.size) = some (entC x).length from ent_size)
        have ZB := Lib.hid (show (Try.prog.info? 49).map (·.size) = some (entC y).length from ent_size)
        by_cases hxy : x = y
        · have hs := HST.out hxy
          rw [decide_eq_true hxy] at hN
          clear hxy HNO HST
          generalize entC x = cx at *
          generalize entC y = cy at *
          go_wp2
          refine wp_region_up (by kernel_rfl) (by kernel_rfl) ?_
          iterate 3 (go_big_quiet_step (fail))
          refine wpQuiet_load_range (by kernel_rfl) 49 (.tmp 19) rfl rfl RA.out Try.underlying49 rfl ZA.out ?_
          dsimp only [Act.put]
          simp only [List.setIfInBounds_toArray, List.set_cons_succ, List.set_cons_zero]
          iterate 3 (go_big_quiet_step (fail))
          refine wpQuiet_load_range (by kernel_rfl) 49 (.tmp 23) rfl rfl RB.out Try.underlying49 rfl ZB.out ?_
          dsimp only [Act.put]
          simp only [List.setIfInBounds_toArray, List.set_cons_succ, List.set_cons_zero]
          repeat (go_big_quiet_step (fail))
          refine wpQuiet_nil ?_
          rintro _ ⟨z, rfl⟩
          go_wp2
          go_roundw
          case rel => exact ⟨k + 1, by go_num, by have := hkm.out; omega, hs, HX.out.trans z.ext⟩
          case measure => simp [intOf]; have := hkm.out; omega
        · have hs := HNO.out hxy
          rw [decide_eq_false hxy] at hN
          clear hxy HNO HST
          subst hs
          generalize entC x = cx at *
          generalize entC y = cy at *
          go_wp2
          refine wp_region_up (by kernel_rfl) (by kernel_rfl) ?_
          iterate 3 (go_big_quiet_step (fail))
          refine wpQuiet_load_range (by kernel_rfl) 49 (.tmp 19) rfl rfl RA.out Try.underlying49 rfl ZA.out ?_
          dsimp only [Act.put]
          simp only [List.setIfInBounds_toArray, List.set_cons_succ, List.set_cons_zero]
          iterate 3 (go_big_quiet_step (fail))
          refine wpQuiet_load_range (by kernel_rfl) 49 (.tmp 23) rfl rfl RB.out Try.underlying49 rfl ZB.out ?_
          dsimp only [Act.put]
          simp only [List.setIfInBounds_toArray, List.set_cons_succ, List.set_cons_zero]
          repeat (go_big_quiet_step (fail))
          refine wpQuiet_nil ?_
          rintro _ ⟨z, rfl⟩
          go_wp2
          go_ret
          exact ⟨rfl, HX.out.trans z.ext⟩
      · obtain rfl : k = a.length := by omega
        have hres := HE.out hsm
        clear hk hx hsm
        subst hres
        go_wp2
        go_ret
        exact ⟨rfl, HX.out⟩
  · have hne : ¬ (a.length : Int) = (b.length : Int) := by omega
    have hr : decide (a = b) = false := by rw [decide_eq_false_iff_not]; rintro rfl; exact hlen rfl
    rw [hr]
    have hne' : ((a.length : Int) == (b.length : Int)) = false := by simpa using hne
    clear hsa hsb hlen hr
    go_enter Try.func40, Try.ntmps40
    go_wp2
    go_ret
    exact ⟨rfl, Ext.refl _⟩
end Go.Proofs.Ytcagcepbnkageaa
