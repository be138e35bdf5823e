/- slices.Equal, slices.Clone of entries; mani.Same, varveref25.Same. (Printed by wip/tools/mah.py.) -/
import Derived.Test.YtmjkfgpkohfmiaaGreatMgAc
namespace Go.Proofs.YtmjkfgpkohfmiaaGreat
set_option linter.unusedVariables false
set_option linter.unusedSimpArgs false
open Go.RowKit

set_option maxRecDepth 20000 in
set_option maxHeartbeats 4000000 in
theorem equal_any (a b : List E9) (va vb : Value) (w : World) (ha : RR entC 9 w va a) (hb : RR entC 9 w vb b) (hl : (a.length : Int) ≤ 1000000000) :
    Calls Tryz.prog 60 #[va, vb] w fun e w' => e = .returned (.bool (decide (a = b))) ∧ Ext w w' := by
  obtain ⟨pa, ca, rfl, _, _, hsa⟩ := ha
  obtain ⟨pb, cb, rfl, _, _, hsb⟩ := hb
  by_cases hlen : a.length = b.length
  · have HSA := Lib.hid hsa
    have HSB := Lib.hid hsb
    have HE := Lib.hid (fun h => same_end hlen h)
    have HNO := Lib.hid (fun k h1 h2 h => same_no (a := a) (b := b) (k := k) h1 h2 h)
    have HST := Lib.hid (fun k h1 h2 h0 h => same_step (a := a) (b := b) (k := k) h1 h2 h0 h)
    generalize decide (a = b) = r at *
    have HLN := Lib.hid hlen
    rw [← hlen]
    clear hsa hsb hlen
    go_enter Tryz.func60, Tryz.ntmps60
    go_wp2
    go_loopw [13] (fun i wr => ∃ k : Nat, i = .int .i64 (k : Int) ∧ k ≤ a.length ∧ sameTo a b k ∧ Ext w wr) (fun i _ => a.length - (intOf i).toNat)
    case atStart => exact ⟨0, rfl, Nat.zero_le _, rfl, Ext.refl _⟩
    case round =>
      obtain ⟨k, rfl, hk, hsm, hx⟩ := hrel
      have HX := Lib.hid hx
      by_cases hlt : k < a.length
      · have hI : (k : Int) < (a.length : Int) := by omega
        have hltb : k < b.length := by have := HLN.out; omega
        obtain ⟨ga, oa, rfl, hca⟩ := HSA.out (by omega)
        obtain ⟨gb, ob, rfl, hcb⟩ := HSB.out (by omega)
        have RA := Lib.hid (rangeAt_ext (hca k _ (ent_at hlt)) hx)
        have RB := Lib.hid (rangeAt_ext (hcb k _ (ent_at hltb)) hx)
        have HNO := Lib.hid (fun h => HNO.out k hlt hltb h)
        have HST := Lib.hid (fun h => HST.out k hlt hltb hsm h)
        have hN := fun w => ent_neq (a.getD k default) (b.getD k default) w
        have hkm := Lib.hid hlt
        have hkw : IntKind.i64.wrap ((k : Int) + 1) = ((k + 1 : Nat) : Int) := by rw [IntKind.wrap_i64]; omega
        clear hca hcb hx hk hsm hlt hltb
        generalize a.getD k default = x at *
        generalize b.getD k default = y at *
        have ZA := Lib.hid (show (Tryz.prog.info? 73).map (·.size) = some (entC x).length from ent_size)
        have ZB := Lib.hid (show (Tryz.prog.info? 73).map (·.size) = some (entC y).length from ent_size)
        by_cases hxy : x = y
        · have hs := HST.out hxy
          rw [decide_eq_true hxy] at hN
          clear hxy HNO HST
          generalize entC x = cx at *
          generalize entC y = cy at *
          go_wp2
          refine wp_region_up (by kernel_rfl) (by kernel_rfl) ?_
          iterate 3 (go_big_quiet_step (fail))
          refine wpQuiet_load_range (by kernel_rfl) 73 (.tmp 18) rfl rfl RA.out Tryz.underlying73 rfl ZA.out ?_
          dsimp only [Act.put]
          simp only [List.setIfInBounds_toArray, List.set_cons_succ, List.set_cons_zero]
          iterate 3 (go_big_quiet_step (fail))
          refine wpQuiet_load_range (by kernel_rfl) 73 (.tmp 22) rfl rfl RB.out Tryz.underlying73 rfl ZB.out ?_
          dsimp only [Act.put]
          simp only [List.setIfInBounds_toArray, List.set_cons_succ, List.set_cons_zero]
          repeat (go_big_quiet_step (fail))
          refine wpQuiet_nil ?_
          rintro _ ⟨z, rfl⟩
          go_wp2
          go_roundw
          case rel => exact ⟨k + 1, by go_num, by have := hkm.out; omega, hs, HX.out.trans z.ext⟩
          case measure => simp [intOf]; have := hkm.out; omega
        · have hs := HNO.out hxy
          rw [decide_eq_false hxy] at hN
          clear hxy HNO HST
          subst hs
          generalize entC x = cx at *
          generalize entC y = cy at *
          go_wp2
          refine wp_region_up (by kernel_rfl) (by kernel_rfl) ?_
          iterate 3 (go_big_quiet_step (fail))
          refine wpQuiet_load_range (by kernel_rfl) 73 (.tmp 18) rfl rfl RA.out Tryz.underlying73 rfl ZA.out ?_
          dsimp only [Act.put]
          simp only [List.setIfInBounds_toArray, List.set_cons_succ, List.set_cons_zero]
          iterate 3 (go_big_quiet_step (fail))
          refine wpQuiet_load_range (by kernel_rfl) 73 (.tmp 22) rfl rfl RB.out Tryz.underlying73 rfl ZB.out ?_
          dsimp only [Act.put]
          simp only [List.setIfInBounds_toArray, List.set_cons_succ, List.set_cons_zero]
          repeat (go_big_quiet_step (fail))
          refine wpQuiet_nil ?_
          rintro _ ⟨z, rfl⟩
          go_wp2
          go_ret
          exact ⟨rfl, HX.out.trans z.ext⟩
      · obtain rfl : k = a.length := by omega
        have hres := HE.out hsm
        clear hk hx hsm
        subst hres
        go_wp2
        go_ret
        exact ⟨rfl, HX.out⟩
  · have hne : ¬ (a.length : Int) = (b.length : Int) := by omega
    have hr : decide (a = b) = false := by rw [decide_eq_false_iff_not]; rintro rfl; exact hlen rfl
    rw [hr]
    have hne' : ((a.length : Int) == (b.length : Int)) = false := by simpa using hne
    clear hsa hsb hlen hr
    go_enter Tryz.func60, Tryz.ntmps60
    go_wp2
    go_ret
    exact ⟨rfl, Ext.refl _⟩

/-- are two manifests the same? -/
def sameMan (a b : Man) : Bool := (a.gen == b.gen) && ((a.next == b.next) && ((a.now == b.now) && ((a.floor == b.floor) && decide (a.ents = b.ents))))

set_option maxRecDepth 20000 in
set_option maxHeartbeats 8000000 in
theorem mSame_any (a b : Man) (va vb : Value) (w : World) (ha : RR entC 9 w va a.ents) (hb : RR entC 9 w vb b.ents) (hl : (a.ents.length : Int) ≤ 1000000000) :
    Calls Tryz.prog 24 #[.agg (manC a va), .agg (manC b vb)] w fun e w' => e = .returned (.bool (sameMan a b)) ∧ Ext w w' := by
  obtain ⟨ga, na, ta, fa, ea⟩ := a
  obtain ⟨gb, nb, tb, fb, eb⟩ := b
  dsimp only [manC, sameMan] at *
  have X0 := Lib.hid (((Ext.refl w).alloc (.cells #[.int .i64 ga, .int .i64 na, .int .i64 ta, .int .i64 fa, va] 39)).alloc (.cells #[.int .i64 gb, .int .i64 nb, .int .i64 tb, .int .i64 fb, vb] 39))
  have Q := Lib.hid (equal_any ea eb va vb _ (ha.ext X0.out) (hb.ext X0.out) hl)
  have B1 := Lib.hid ((Blk.new w 39 #[.int .i64 ga, .int .i64 na, .int .i64 ta, .int .i64 fa, va]).alloc (.cells #[.int .i64 gb, .int .i64 nb, .int .i64 tb, .int .i64 fb, vb] 39))
  have b2 := Blk.new (w.alloc (.cells #[.int .i64 ga, .int .i64 na, .int .i64 ta, .int .i64 fa, va] 39)) 39 #[.int .i64 gb, .int .i64 nb, .int .i64 tb, .int .i64 fb, vb]
  rw [World.size_alloc] at b2
  have B2 := Lib.hid b2
  generalize decide (ea = eb) = r at *
  obtain ⟨pa, ca, rfl, _, _, _⟩ := ha
  obtain ⟨pb, cb, rfl, _, _, _⟩ := hb
  clear b2 hl
  go_enter Tryz.func24, Tryz.ntmps24
  go_wp2_with (refine wpList_hold 5 rfl ?_)
  refine ⟨?_⟩
  generalize (w.alloc (.cells #[.int .i64 ga, .int .i64 na, .int .i64 ta, .int .i64 fa, .slice pa ea.length ca] 39)).alloc (.cells #[.int .i64 gb, .int .i64 nb, .int .i64 tb, .int .i64 fb, .slice pb eb.length cb] 39) = w2 at *
  have c0 := B1.out.cell 0
  have c1 := B1.out.cell 1
  have c2 := B1.out.cell 2
  have c3 := B1.out.cell 3
  have c4 := B1.out.cell 4
  have d0 := B2.out.cell 0
  have d1 := B2.out.cell 1
  have d2 := B2.out.cell 2
  have d3 := B2.out.cell 3
  have d4 := B2.out.cell 4
  simp only [List.getElem?_toArray, List.getElem?_cons_succ, List.getElem?_cons_zero] at c0 c1 c2 c3 c4 d0 d1 d2 d3 d4
  cases h0 : (ga == gb) with
  | false =>
    have H0 := Lib.hid h0
    go_wp2_with fail
    go_ret
    exact ⟨by rw [H0.out]; rfl, X0.out⟩
  | true =>
    have H0 := Lib.hid h0
    cases h1 : (na == nb) with
    | false =>
      have H1 := Lib.hid h1
      go_wp2_with fail
      go_ret
      exact ⟨by rw [H0.out, H1.out]; rfl, X0.out⟩
    | true =>
      have H1 := Lib.hid h1
      cases h2 : (ta == tb) with
      | false =>
        have H2 := Lib.hid h2
        go_wp2_with fail
        go_ret
        exact ⟨by rw [H0.out, H1.out, H2.out]; rfl, X0.out⟩
      | true =>
        have H2 := Lib.hid h2
        cases h3 : (fa == fb) with
        | false =>
          have H3 := Lib.hid h3
          go_wp2_with fail
          go_ret
          exact ⟨by rw [H0.out, H1.out, H2.out, H3.out]; rfl, X0.out⟩
        | true =>
          have H3 := Lib.hid h3
          go_wp2_with fail
          refine Q.out.mono ?_
          rintro _ w3 ⟨rfl, x3⟩
          go_wp2
          go_ret
          exact ⟨by rw [H0.out, H1.out, H2.out, H3.out]; rfl, X0.out.trans x3⟩

set_option maxRecDepth 20000 in
set_option maxHeartbeats 8000000 in
theorem rSameMan_any (a b : Man) (va vb : Value) (w : World) (ha : RR entC 9 w va a.ents) (hb : RR entC 9 w vb b.ents) (hl : (a.ents.length : Int) ≤ 1000000000) :
    Calls Tryz.prog 15 #[.agg (manC a va), .agg (manC b vb)] w fun e w' => e = .returned (.bool (sameMan a b)) ∧ Ext w w' := by
  obtain ⟨ga, na, ta, fa, ea⟩ := a
  obtain ⟨gb, nb, tb, fb, eb⟩ := b
  dsimp only [manC, sameMan] at *
  have X0 := Lib.hid (((Ext.refl w).alloc (.cells #[.int .i64 ga, .int .i64 na, .int .i64 ta, .int .i64 fa, va] 39)).alloc (.cells #[.int .i64 gb, .int .i64 nb, .int .i64 tb, .int .i64 fb, vb] 39))
  have Q := Lib.hid (rSame_any ea eb va vb _ (ha.ext X0.out) (hb.ext X0.out) hl)
  have B1 := Lib.hid ((Blk.new w 39 #[.int .i64 ga, .int .i64 na, .int .i64 ta, .int .i64 fa, va]).alloc (.cells #[.int .i64 gb, .int .i64 nb, .int .i64 tb, .int .i64 fb, vb] 39))
  have b2 := Blk.new (w.alloc (.cells #[.int .i64 ga, .int .i64 na, .int .i64 ta, .int .i64 fa, va] 39)) 39 #[.int .i64 gb, .int .i64 nb, .int .i64 tb, .int .i64 fb, vb]
  rw [World.size_alloc] at b2
  have B2 := Lib.hid b2
  generalize decide (ea = eb) = r at *
  obtain ⟨pa, ca, rfl, _, _, _⟩ := ha
  obtain ⟨pb, cb, rfl, _, _, _⟩ := hb
  clear b2 hl
  go_enter Tryz.func15, Tryz.ntmps15
  go_wp2_with (refine wpList_hold 5 rfl ?_)
  refine ⟨?_⟩
  generalize (w.alloc (.cells #[.int .i64 ga, .int .i64 na, .int .i64 ta, .int .i64 fa, .slice pa ea.length ca] 39)).alloc (.cells #[.int .i64 gb, .int .i64 nb, .int .i64 tb, .int .i64 fb, .slice pb eb.length cb] 39) = w2 at *
  have c0 := B1.out.cell 0
  have c1 := B1.out.cell 1
  have c2 := B1.out.cell 2
  have c3 := B1.out.cell 3
  have c4 := B1.out.cell 4
  have d0 := B2.out.cell 0
  have d1 := B2.out.cell 1
  have d2 := B2.out.cell 2
  have d3 := B2.out.cell 3
  have d4 := B2.out.cell 4
  simp only [List.getElem?_toArray, List.getElem?_cons_succ, List.getElem?_cons_zero] at c0 c1 c2 c3 c4 d0 d1 d2 d3 d4
  cases h0 : (ga == gb) with
  | false =>
    have H0 := Lib.hid h0
    go_wp2_with fail
    go_ret
    exact ⟨by rw [H0.out]; rfl, X0.out⟩
  | true =>
    have H0 := Lib.hid h0
    cases h1 : (na == nb) with
    | false =>
      have H1 := Lib.hid h1
      go_wp2_with fail
      go_ret
      exact ⟨by rw [H0.out, H1.out]; rfl, X0.out⟩
    | true =>
      have H1 := Lib.hid h1
      cases h2 : (ta == tb) with
      | false =>
        have H2 := Lib.hid h2
        go_wp2_with fail
        go_ret
        exact ⟨by rw [H0.out, H1.out, H2.out]; rfl, X0.out⟩
      | true =>
        have H2 := Lib.hid h2
        cases h3 : (fa == fb) with
        | false =>
          have H3 := Lib.hid h3
          go_wp2_with fail
          go_ret
          exact ⟨by rw [H0.out, H1.out, H2.out, H3.out]; rfl, X0.out⟩
        | true =>
          have H3 := Lib.hid h3
          go_wp2_with fail
          refine Q.out.mono ?_
          rintro _ w3 ⟨rfl, x3⟩
          go_wp2
          go_ret
          exact ⟨by rw [H0.out, H1.out, H2.out, H3.out]; rfl, X0.out.trans x3⟩

end Go.Proofs.YtmjkfgpkohfmiaaGreat
