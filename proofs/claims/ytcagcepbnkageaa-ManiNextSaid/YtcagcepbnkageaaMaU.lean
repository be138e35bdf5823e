/- ManiNext: the law's walk. -/
import Derived.Test.YtcagcepbnkageaaMaT
namespace Go.Proofs.Ytcagcepbnkageaa
set_option linter.unusedVariables false
set_option linter.unusedSimpArgs false
open Go.RowKit
theorem RR.cells {α : Type} {f : α → List Value} {s : Nat} {w : World} {a : Option Addr} {n c : Nat} {l : List α} (h : RR f s w (.slice a n c) l) (h0 : 0 < l.length) : ∃ g o, a = some ⟨g, o, none⟩ ∧ ∀ (k : Nat) (x : α), l[k]? = some x → w.rangeAt g (o + k * s) (f x) := by
  obtain ⟨a', c', e1, _, _, hs⟩ := h
  injection e1 with e1 e2 e3
  subst e1
  exact hs h0
theorem cell_mid0 {w : World} {g o k : Nat} {e : E9} {v : Value} (h : w.rangeAt g (o + k * 9) (entC e)) (hi : (entC e)[0]? = some v) : w.cell? ⟨g, o + k * 9, none⟩ = some v := h 0 v hi

set_option maxRecDepth 20000 in
set_option maxHeartbeats 16000000 in
theorem maniNext_main (m : Man) (u : Value) (now : Int) (a : Option Addr) (c : Nat) (l : List E9) (w : World) (rm : RR entC 9 w u m.ents) (rl : RR entC 9 w (.slice a l.length c) l)
    (hm : (m.ents.length : Int) ≤ 200) (hl : ¬ (200 : Int) < (l.length : Int)) (hp : laterP m now l = true) :
    Calls Try.prog 6 #[.agg (manC m u), .int .i64 now, .slice a l.length c] w fun x w' => x = .returned (.bool true) ∧ Ext w w' := by
  have QA := Lib.hid awake25_any
  have SM := Lib.hid (show (Try.prog.info? 24).map (·.size) = some (manC m u).size from man_size)
  have X0 := Lib.hid ((Ext.refl w).alloc (.cells (manC m u) 24))
  have B3 := Lib.hid (Blk.new w 24 (manC m u))
  have R0 := Lib.hid (rm.ext X0.out)
  have L0 := Lib.hid (rl.ext X0.out)
  have QF := Lib.hid (fun w h => few_any m u w h)
  rw [decide_eq_true hm] at QF
  have hlm : laterM m now l = lat m now l := by unfold laterM; rw [hp]; rfl
  have q1 := fun w h1 h2 => mLater_any m now l u (.slice a l.length c) w h1 h2
  rw [hp, hlm] at q1
  obtain ⟨k1, k2, k3, k4, k5, k6⟩ := later_known hp
  have hg0 : 1 ≤ m.gen := by
    have : maniP m = true := by unfold laterP at hp; simp only [Bool.and_eq_true] at hp; exact hp.1
    exact (mani_row this).1.1
  have q2 := fun v w h => mCheck_any (lat m now l) v w h
  rw [k1] at q2
  obtain ⟨mg, mn, mt, mf, me⟩ := m
  have k5 : mg ≤ 1000000000 := k5
  have hg0 : 1 ≤ mg := hg0
  have kn : ¬ (lat ⟨mg, mn, mt, mf, me⟩ now l).next < mn := by have : mn ≤ (lat ⟨mg, mn, mt, mf, me⟩ now l).next := k4; omega
  have kf : ¬ (lat ⟨mg, mn, mt, mf, me⟩ now l).floor < mf := by have : mf ≤ (lat ⟨mg, mn, mt, mf, me⟩ now l).floor := k3; omega
  have kt : ¬ now < mt := by have : mt ≤ now := k2; omega
  have kw : IntKind.i64.wrap (mg + 1) = mg + 1 := by rw [IntKind.wrap_i64]; omega
  have kg : (mg + 1 != mg + 1) = false := by simp
  generalize hng : (lat ⟨mg, mn, mt, mf, me⟩ now l).next = nn at *
  generalize hnf : (lat ⟨mg, mn, mt, mf, me⟩ now l).floor = nf at *
  have hman : ∀ v, manC (lat ⟨mg, mn, mt, mf, me⟩ now l) v = #[.int .i64 (mg + 1), .int .i64 nn, .int .i64 now, .int .i64 nf, v] := fun v => by
    subst hng; subst hnf; rfl
  have Q1 := Lib.hid (show ∀ w, RR entC 9 w u me → RR entC 9 w (.slice a l.length c) l → Calls Try.prog 18 #[.agg (manC ⟨mg, mn, mt, mf, me⟩ u), .int .i64 now, .slice a l.length c] w fun r w' => ∃ x, r = .returned (.tuple #[.agg #[.int .i64 (mg + 1), .int .i64 nn, .int .i64 now, .int .i64 nf, x], .int .i64 0]) ∧ Ext w w' ∧ RR entC 9 w' x l from fun w h1 h2 => by
    refine (q1 w h1 h2).mono ?_
    rintro _ w' ⟨x, rfl, h3, h4⟩
    exact ⟨x, by rw [hman]; rfl, h3, h4⟩)
  have Q2 := Lib.hid (show ∀ v w, RR entC 9 w v l → Calls Try.prog 15 #[.agg #[.int .i64 (mg + 1), .int .i64 nn, .int .i64 now, .int .i64 nf, v]] w fun r w' => r = .returned (.int .i64 0) ∧ Ext w w' from fun v w h => by
    rw [← hman]; exact q2 v w h)
  have MS := Lib.hid man_size
  have C0 := Lib.hid (show (manC ⟨mg, mn, mt, mf, me⟩ u)[0]? = some (.int .i64 mg) from rfl)
  have C1 := Lib.hid (show (manC ⟨mg, mn, mt, mf, me⟩ u)[1]? = some (.int .i64 mn) from rfl)
  have C2 := Lib.hid (show (manC ⟨mg, mn, mt, mf, me⟩ u)[2]? = some (.int .i64 mt) from rfl)
  have C3 := Lib.hid (show (manC ⟨mg, mn, mt, mf, me⟩ u)[3]? = some (.int .i64 mf) from rfl)
  have K6 := Lib.hid (show ∀ i, i < l.length → decide (nn ≤ (l.getD i default).id) = false from fun i hi => by
    have := k6 i hi
    exact decide_eq_false (by omega))
  have KW := Lib.hid kw
  have KG := Lib.hid kg
  have KN := Lib.hid kn
  have KF := Lib.hid kf
  have KT := Lib.hid kt
  have HL := Lib.hid hl
  clear q1 q2 hlm hp k1 k2 k3 k4 k5 k6 hman hng hnf rm rl hm hg0 kw kg kn kf kt
  dsimp only at R0
  generalize manC ⟨mg, mn, mt, mf, me⟩ u = mc at *
  clear hl
  have hl := HL.out
  go_enter Try.func6, Try.ntmps6
  go_wp2_with (refine wpList_load_blk rfl 24 (.tmp 3) rfl rfl B3.out Try.underlying24 rfl SM.out ?_; refine Held.go ?_)
  refine ⟨?_⟩
  go_wp2_with fail
  refine (QF.out _ R0.out).mono ?_
  rintro _ w1 ⟨rfl, x1⟩
  have B3 := Lib.hid (B3.out.ext x1)
  have R0 := Lib.hid (R0.out.ext x1)
  have L0 := Lib.hid (L0.out.ext x1)
  have X1 := Lib.hid (X0.out.trans x1)
  clear x1 X0 QF
  go_wp2_with (refine wpList_load_blk rfl 24 (.tmp 3) rfl rfl B3.out Try.underlying24 rfl SM.out ?_; refine Held.go ?_)
  refine ⟨?_⟩
  go_wp2_with fail
  refine (Q1.out _ R0.out L0.out).mono ?_
  rintro _ w2 ⟨u7, rfl, x2, r2⟩
  have y2 := x2.alloc (.cells #[.int .i64 (mg + 1), .int .i64 nn, .int .i64 now, .int .i64 nf, u7] 24)
  have B3 := Lib.hid (B3.out.ext y2)
  have L0 := Lib.hid (L0.out.ext y2)
  have B7 := Lib.hid (Blk.new w2 24 #[.int .i64 (mg + 1), .int .i64 nn, .int .i64 now, .int .i64 nf, u7])
  have R7 := Lib.hid (r2.ext ((Ext.refl w2).alloc (.cells #[.int .i64 (mg + 1), .int .i64 nn, .int .i64 now, .int .i64 nf, u7] 24)))
  have X2 := Lib.hid (X1.out.trans y2)
  obtain ⟨a7, k7, rfl, _, _, _⟩ := r2
  clear x2 y2 X1 R0
  go_wp2_with (refine wpList_store_new rfl 24 (.tmp 7) (.tmp 24) rfl rfl rfl rfl MS.out (by kernel_rfl) ?_; refine Held.go ?_)
  refine ⟨?_⟩
  generalize w2.alloc (.cells #[.int .i64 (mg + 1), .int .i64 nn, .int .i64 now, .int .i64 nf, .slice a7 l.length k7] 24) = w3 at *
  go_wp2_with (refine wpList_load_blk_g (by kernel_rfl) 24 (.tmp 7) rfl rfl B7.out Try.underlying24 rfl MS.out ?_; refine Held.go ?_)
  refine ⟨?_⟩
  go_wp2_with fail
  refine (Q2.out _ _ R7.out).mono ?_
  rintro _ w4 ⟨rfl, x4⟩
  have B3 := Lib.hid (B3.out.ext x4)
  have B7 := Lib.hid (B7.out.ext x4)
  have L0 := Lib.hid (L0.out.ext x4)
  have R7 := Lib.hid (R7.out.ext x4)
  have X4 := Lib.hid (X2.out.trans x4)
  clear x4 X2
  have c30 := B3.out.cell 0
  have c31 := B3.out.cell 1
  have c32 := B3.out.cell 2
  have c33 := B3.out.cell 3
  rw [C0.out] at c30
  rw [C1.out] at c31
  rw [C2.out] at c32
  rw [C3.out] at c33
  have c70 := B7.out.cell 0
  have c71 := B7.out.cell 1
  have c72 := B7.out.cell 2
  have c73 := B7.out.cell 3
  have c74 := B7.out.cell 4
  simp only [List.getElem?_toArray, List.getElem?_cons_zero, List.getElem?_cons_succ] at c70 c71 c72 c73 c74
  have kw := KW.out
  have kg := KG.out
  have kn := KN.out
  have kf := KF.out
  have kt := KT.out
  go_wp2
  have D71 := Lib.hid c71
  have D74 := Lib.hid c74
  clear c30 c31 c32 c33 c70 c71 c72 c73 c74 kw kg kn kf kt
  go_loopw [9] (fun i wr => ∃ k : Nat, i = .int .i64 (k : Int) ∧ k ≤ l.length ∧ Ext w4 wr) (fun i _ => l.length - (intOf i).toNat)
  case atStart => exact ⟨0, rfl, Nat.zero_le _, Ext.refl _⟩
  case round =>
    obtain ⟨k, rfl, hk, hx⟩ := hrel
    have HX := Lib.hid hx
    by_cases hlt : k < l.length
    · have hI : (k : Int) < (l.length : Int) := by omega
      obtain ⟨ga, oa, ha1, hca⟩ := RR.cells L0.out (by omega)
      obtain ⟨gb, ob, ha2, hcb⟩ := RR.cells R7.out (by omega)
      subst ha1
      subst ha2
      have RA := Lib.hid (rangeAt_ext (hca k _ (ent_at hlt)) hx)
      have RB := Lib.hid (rangeAt_ext (hcb k _ (ent_at hlt)) hx)
      have hN := fun w => ent_neq (l.getD k default) (l.getD k default) w
      rw [decide_eq_true rfl] at hN
      have cid := cell_mid0 (RB.out) (show (entC (l.getD k default))[0]? = some (.int .i64 (l.getD k default).id) from rfl)
      have ki := K6.out k hlt
      have hkm := Lib.hid hlt
      have hkw : IntKind.i64.wrap ((k : Int) + 1) = ((k + 1 : Nat) : Int) := by rw [IntKind.wrap_i64]; have := HL.out; omega
      have CID := Lib.hid cid
      have KI := Lib.hid ki
      have ZA := Lib.hid (show (Try.prog.info? 49).map (·.size) = some (entC (l.getD k default)).length from ent_size)
      have T71 := Lib.hid (Go.cell_later hx D71.out)
      have T74 := Lib.hid (Go.cell_later hx D74.out)
      clear hca hcb hx hk hlt cid ki
      generalize (l.getD k default).id = xi at *
      generalize entC (l.getD k default) = cx at *
      go_wp2
      have ki := KI.out
      have c71 := up_cell T71.out
      have c74 := up_cell T74.out
      have cid := up_cell CID.out
      refine wp_region_up (by kernel_rfl) (by kernel_rfl) ?_
      iterate 15 (go_big_quiet_step (fail))
      refine wpQuiet_load_range (by kernel_rfl) 49 (.tmp 101) rfl rfl RB.out Try.underlying49 rfl ZA.out ?_
      dsimp only [Act.put]
      simp only [List.setIfInBounds_toArray, List.set_cons_succ, List.set_cons_zero]
      iterate 3 (go_big_quiet_step (fail))
      refine wpQuiet_load_range (by kernel_rfl) 49 (.tmp 105) rfl rfl RA.out Try.underlying49 rfl ZA.out ?_
      dsimp only [Act.put]
      simp only [List.setIfInBounds_toArray, List.set_cons_succ, List.set_cons_zero]
      repeat (go_big_quiet_step (fail))
      refine wpQuiet_nil ?_
      rintro _ ⟨z, rfl⟩
      go_wp2
      go_roundw
      case rel => exact ⟨k + 1, by go_num, by have := hkm.out; omega, HX.out.trans z.ext⟩
      case measure => simp [intOf]; have := hkm.out; omega
    · obtain rfl : k = l.length := by omega
      clear hx hk
      go_wp2_with fail
      refine (QA.out _).mono ?_
      rintro _ w9 ⟨rfl, x9⟩
      go_wp2
      go_ret
      exact ⟨rfl, (X4.out.trans HX.out).trans x9⟩

set_option maxRecDepth 20000 in
set_option maxHeartbeats 16000000 in
theorem maniNext_law (m : Man) (u : Value) (now : Int) (wn : (Lit.int .i64 now).wf = true) (v : Value) (l : List E9) (w : World) (rm : RR entC 9 w u m.ents) (rd : RR entC 9 w v l) (bl : (l.length : Int) ≤ 9223372036854775807) (R : ∀ x ∈ l, True) :
    Calls Try.prog 6 #[.agg (manC m u), .int .i64 now, v] w fun x w' => x = .returned (.bool true) ∧ Ext w w' := by
  clear R
  have QA := Lib.hid awake25_any
  have SM := Lib.hid (show (Try.prog.info? 24).map (·.size) = some (manC m u).size from man_size)
  have X0 := Lib.hid ((Ext.refl w).alloc (.cells (manC m u) 24))
  have B3 := Lib.hid (Blk.new w 24 (manC m u))
  have R0 := Lib.hid (rm.ext X0.out)
  have QF := Lib.hid (fun w h => few_any m u w h)
  by_cases hm : ¬ (m.ents.length : Int) ≤ 200
  · rw [decide_eq_false hm] at QF
    obtain ⟨a, c, rfl, _, _, _⟩ := rd
    clear rm
    generalize manC m u = mc at *
    go_enter Try.func6, Try.ntmps6
    go_wp2_with (refine wpList_load_blk rfl 24 (.tmp 3) rfl rfl B3.out Try.underlying24 rfl SM.out ?_; refine Held.go ?_)
    refine ⟨?_⟩
    go_wp2_with fail
    refine (QF.out _ R0.out).mono ?_
    rintro _ w1 ⟨rfl, x1⟩
    have X1 := Lib.hid (X0.out.trans x1)
    clear x1
    go_wp2_with fail
    refine (QA.out _).mono ?_
    rintro _ w2 ⟨rfl, x2⟩
    go_wp2
    go_ret
    exact ⟨rfl, X1.out.trans x2⟩
  have hm := Decidable.not_not.1 hm
  by_cases hl : (200 : Int) < (l.length : Int)
  · rw [decide_eq_true hm] at QF
    obtain ⟨a, c, rfl, _, _, _⟩ := rd
    clear rm
    generalize manC m u = mc at *
    go_enter Try.func6, Try.ntmps6
    go_wp2_with (refine wpList_load_blk rfl 24 (.tmp 3) rfl rfl B3.out Try.underlying24 rfl SM.out ?_; refine Held.go ?_)
    refine ⟨?_⟩
    go_wp2_with fail
    refine (QF.out _ R0.out).mono ?_
    rintro _ w1 ⟨rfl, x1⟩
    have X1 := Lib.hid (X0.out.trans x1)
    clear x1
    go_wp2_with fail
    refine (QA.out _).mono ?_
    rintro _ w2 ⟨rfl, x2⟩
    go_wp2
    go_ret
    exact ⟨rfl, X1.out.trans x2⟩
  cases hp : laterP m now l with
  | true =>
    obtain ⟨a, c, rfl, h1, h2, h3⟩ := rd
    exact maniNext_main m u now a c l w rm ⟨a, c, rfl, h1, h2, h3⟩ hm hl hp
  | false =>
    rw [decide_eq_true hm] at QF
    have L0 := Lib.hid (rd.ext X0.out)
    have hlm : laterM m now l = zM := by unfold laterM; rw [hp]; rfl
    have q1 := fun w h1 h2 => mLater_any m now l u v w h1 h2
    rw [hp, hlm] at q1
    obtain ⟨a, c, rfl, _, _, _⟩ := rd
    have Q1 := Lib.hid (show ∀ w, RR entC 9 w u m.ents → RR entC 9 w (.slice a l.length c) l → Calls Try.prog 18 #[.agg (manC m u), .int .i64 now, .slice a l.length c] w fun r w' => ∃ x, r = .returned (.tuple #[.agg #[.int .i64 0, .int .i64 0, .int .i64 0, .int .i64 0, x], .int .i64 250]) ∧ Ext w w' ∧ RR entC 9 w' x [] from q1)
    have MS := Lib.hid man_size
    clear q1 hlm hp rm
    generalize manC m u = mc at *
    go_enter Try.func6, Try.ntmps6
    go_wp2_with (refine wpList_load_blk rfl 24 (.tmp 3) rfl rfl B3.out Try.underlying24 rfl SM.out ?_; refine Held.go ?_)
    refine ⟨?_⟩
    go_wp2_with fail
    refine (QF.out _ R0.out).mono ?_
    rintro _ w1 ⟨rfl, x1⟩
    have B3 := Lib.hid (B3.out.ext x1)
    have R0 := Lib.hid (R0.out.ext x1)
    have L0 := Lib.hid (L0.out.ext x1)
    have X1 := Lib.hid (X0.out.trans x1)
    clear x1 X0 QF
    go_wp2_with (refine wpList_load_blk rfl 24 (.tmp 3) rfl rfl B3.out Try.underlying24 rfl SM.out ?_; refine Held.go ?_)
    refine ⟨?_⟩
    go_wp2_with fail
    refine (Q1.out _ R0.out L0.out).mono ?_
    rintro _ w2 ⟨u7, rfl, x2, r2⟩
    obtain ⟨a7, k7, rfl, _, _, _⟩ := r2
    have y2 := x2.alloc (.cells #[.int .i64 0, .int .i64 0, .int .i64 0, .int .i64 0, .slice a7 0 k7] 24)
    have B7 := Lib.hid (Blk.new w2 24 #[.int .i64 0, .int .i64 0, .int .i64 0, .int .i64 0, .slice a7 0 k7])
    have X2 := Lib.hid (X1.out.trans y2)
    clear x2 y2 X1 R0
    go_wp2_with (refine wpList_store_new rfl 24 (.tmp 7) (.tmp 24) rfl rfl rfl rfl MS.out (by kernel_rfl) ?_; refine Held.go ?_)
    refine ⟨?_⟩
    have c74 := B7.out.cell 4
    simp only [List.getElem?_toArray, List.getElem?_cons_zero, List.getElem?_cons_succ] at c74
    generalize w2.alloc (.cells #[.int .i64 0, .int .i64 0, .int .i64 0, .int .i64 0, .slice a7 0 k7] 24) = w3 at *
    go_wp2_with fail
    refine (QA.out _).mono ?_
    rintro _ w4 ⟨rfl, x4⟩
    go_wp2
    go_ret
    exact ⟨rfl, X2.out.trans x4⟩
end Go.Proofs.Ytcagcepbnkageaa
