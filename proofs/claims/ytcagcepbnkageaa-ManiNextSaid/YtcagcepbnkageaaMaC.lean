/- varveref25.Check. -/
import Derived.Test.YtcagcepbnkageaaMgN
import Derived.Test.YtcagcepbnkageaaNtE
namespace Go.Proofs.Ytcagcepbnkageaa
set_option linter.unusedVariables false
set_option linter.unusedSimpArgs false
open Go.RowKit

set_option maxRecDepth 20000 in
set_option maxHeartbeats 8000000 in
theorem rMCheck_any (m : Man) (v : Value) (w : World) (hr : RR entC 9 w v m.ents) :
    Calls Try.prog 16 #[.agg (manC m v)] w fun r w' => r = .returned (.int .i64 (errI (maniP m) 250)) ∧ Ext w w' := by
  have hcases := mani_cases m
  generalize maniP m = r at *
  obtain ⟨gen, next, now, floor, ents⟩ := m
  dsimp only [manC] at *
  have QR := Lib.hid (fun w h => rRow_any ents v w h)
  have b1 := Lib.hid (Blk.new w 24 #[.int .i64 gen, .int .i64 next, .int .i64 now, .int .i64 floor, v])
  have X0 := Lib.hid ((Ext.refl w).alloc (.cells #[.int .i64 gen, .int .i64 next, .int .i64 now, .int .i64 floor, v] 24))
  have R0 := Lib.hid (hr.ext X0.out)
  rcases hcases with ⟨rfl, h1⟩ | ⟨rfl, h1, h2⟩ | ⟨rfl, h1, h2, h3⟩ | ⟨rfl, h1, h2, h3, h4⟩ | ⟨rfl, h1, h2, h3, h4, h5⟩ | ⟨hrr, h1, h2, h3, h4, h5⟩
  iterate 4
    · go_enter Try.func16, Try.ntmps16
      go_wp2
      go_ret
      exact ⟨rfl, X0.out⟩
  · rw [h5] at QR
    simp only [errI, Bool.false_eq_true, if_false] at QR
    clear h5
    obtain ⟨a, c, rfl, _, _, _⟩ := hr
    go_enter Try.func16, Try.ntmps16
    go_wp2_with fail
    refine (QR.out _ R0.out).mono ?_
    rintro _ w1 ⟨rfl, x1⟩
    go_wp2
    go_ret
    exact ⟨rfl, X0.out.trans x1⟩
  · have hlen := rowP_len h5
    rw [h5] at QR
    simp only [errI, if_true] at QR
    have HRR := Lib.hid hrr
    obtain ⟨n, hn⟩ : ∃ n : Nat, ents.length = n + 1 := ⟨ents.length - 1, by omega⟩
    have hr' := hr
    obtain ⟨a, c, rfl, hlc, hcn, hs⟩ := hr
    obtain ⟨ge, o, rfl, hcells⟩ := hs (by omega)
    have RL := Lib.hid (hcells n _ (ent_at (by omega)))
    have RF := Lib.hid (hcells 0 _ (ent_at (by omega)))
    have HB := Lib.hid b1.out
    unfold lastOf fstOf at HRR
    rw [show ents.length - 1 = n by omega] at HRR
    have hb100 : (n : Int) + 1 ≤ 100 := by omega
    have HC := Lib.hid hcells
    have QR := Lib.hid (QR.out _ R0.out)
    have HN := Lib.hid hn
    have HL1 := Lib.hid (fun h => late_none (l := ents) (now := now) h)
    have HL2 := Lib.hid (fun i hi h => late_some (l := ents) (now := now) (i := i) hi h)
    rw [hn] at QR HL1 HL2
    rw [hn] at b1 HB X0 R0 hlc
    rw [hn]
    clear hcells hs hcn h5 hrr hlen hn
    generalize hel : ents.getD n default = el at *
    generalize hef : ents.getD 0 default = ef at *
    clear hel hef
    generalize (lateP ents now) = b4 at *
    go_enter Try.func16, Try.ntmps16
    go_wp2_with fail
    refine QR.out.mono ?_
    rintro _ w1 ⟨rfl, x1⟩
    have B1 := HB.out.ext x1
    have Y1 := Lib.hid (X0.out.trans x1)
    have e1 := B1.cell 1
    have e2 := B1.cell 2
    have e3 := B1.cell 3
    have e4 := B1.cell 4
    simp only [List.getElem?_toArray, List.getElem?_cons_succ, List.getElem?_cons_zero] at e1 e3 e4 e2
    have el0 := (rangeAt_ext RL.out Y1.out) 0 _ (show (entC el)[0]? = some (.int .i64 el.id) from rfl)
    have ef2 := (rangeAt_ext RF.out Y1.out) 2 _ (show (entC ef)[2]? = some (.int .i64 ef.fst) from rfl)
    simp only [Nat.zero_mul, Nat.add_zero] at ef2 el0
    have E1 := Lib.hid (up_cell e1)
    have E2 := Lib.hid e2
    have E3 := Lib.hid (up_cell e3)
    have E4 := Lib.hid e4
    have E0 := Lib.hid (up_cell el0)
    have EF := Lib.hid (up_cell ef2)
    have kn : (n : Int) < (n : Int) + 1 := by omega
    have kz : (0 : Int) < (n : Int) + 1 := by omega
    clear B1 e1 e2 e3 e4 el0 ef2 x1 HB b1
    generalize el.id = lid at *
    generalize ef.fst = ff at *
    go_wp2
    have HRR := HRR.out
    obtain ⟨b1, hb1⟩ : ∃ b, decide (next ≤ lid) = b := ⟨_, rfl⟩
    obtain ⟨b2, hb2⟩ : ∃ b, decide (1000000 < next) = b := ⟨_, rfl⟩
    obtain ⟨b3, hb3⟩ : ∃ b, (floor != ff) = b := ⟨_, rfl⟩
    rw [hb1, hb2, hb3] at HRR
    have e1 := E1.out
    have e3 := E3.out
    have e4 := up_cell E4.out
    have e0 := E0.out
    have ef := EF.out
    refine wp_region_up (by kernel_rfl) (by kernel_rfl) ?_
    cases b1 with
    | true =>
      have hr : r = false := HRR
      subst hr
      clear HRR
      repeat (go_big_quiet_step (fail))
      refine wpQuiet_nil ?_
      rintro _ ⟨z, rfl⟩
      go_wp2
      go_ret
      exact ⟨rfl, Y1.out.trans z.ext⟩
    | false =>
      cases b2 with
      | true =>
        have hr : r = false := HRR
        subst hr
        clear HRR
        repeat (go_big_quiet_step (fail))
        refine wpQuiet_nil ?_
        rintro _ ⟨z, rfl⟩
        go_wp2
        go_ret
        exact ⟨rfl, Y1.out.trans z.ext⟩
      | false =>
        cases b3 with
        | true =>
          have hr : r = false := HRR
          subst hr
          clear HRR
          repeat (go_big_quiet_step (fail))
          refine wpQuiet_nil ?_
          rintro _ ⟨z, rfl⟩
          go_wp2
          go_ret
          exact ⟨rfl, Y1.out.trans z.ext⟩
        | false =>
          have hr : r = !b4 := HRR
          have HR4 := Lib.hid hr
          clear HRR hr
          repeat (go_big_quiet_step (fail))
          refine wpQuiet_nil ?_
          rintro _ ⟨z, rfl⟩
          have Y2 := Lib.hid (Y1.out.trans z.ext)
          have F4 := Lib.hid (Go.cell_later z.ext E4.out)
          have F2 := Lib.hid (Go.cell_later z.ext E2.out)
          clear e1 e3 e4 e0 ef hb1 hb2 hb3 kz
          generalize z.val = w2 at *
          go_wp2
          go_loopw [3] (fun i wr => ∃ k : Nat, i = .int .i64 (k : Int) ∧ k ≤ n + 1 ∧ (∀ j, j < k → decide (now < (ents.getD j default).late) = false) ∧ Ext w2 wr) (fun i _ => n + 1 - (intOf i).toNat)
          case atStart => exact ⟨0, rfl, Nat.zero_le _, fun j hj => by omega, Ext.refl _⟩
          case round =>
            obtain ⟨k, rfl, hk, hno, hx⟩ := hrel
            have HX := Lib.hid hx
            have c4 := Go.cell_later hx F4.out
            have c2 := up_cell (Go.cell_later hx F2.out)
            by_cases hlt : k < n + 1
            · have hI : (k : Int) < (n : Int) + 1 := by omega
              have R := (rangeAt_ext (HC.out k _ (ent_at (by have := HN.out; omega))) (Y2.out.trans hx)) 7 _ (show (entC (ents.getD k default))[7]? = some (.int .i64 (ents.getD k default).late) from rfl)
              have d7 := up_cell R
              have d4 := up_cell c4
              have HLT := Lib.hid hlt
              have HK := Lib.hid hk
              cases hb : decide (now < (ents.getD k default).late) with
              | true =>
                have hb4 := HL2.out k hlt hb
                subst hb4
                have hr : r = false := HR4.out
                subst hr
                generalize (ents.getD k default).late = lt at *
                clear hno hx hk hlt R HR4 HL1 HL2
                go_wp2
                refine wp_region_up (by kernel_rfl) (by kernel_rfl) ?_
                repeat (go_big_quiet_step (fail))
                refine wpQuiet_nil ?_
                rintro _ ⟨z, rfl⟩
                go_wp2
                go_ret
                exact ⟨rfl, Y2.out.trans (HX.out.trans z.ext)⟩
              | false =>
                have HNO := Lib.hid (show ∀ j, j < k + 1 → decide (now < (ents.getD j default).late) = false from fun j hj => by
                  by_cases e : j < k
                  · exact hno j e
                  · obtain rfl : j = k := by omega
                    exact hb)
                generalize (ents.getD k default).late = lt at *
                clear hno hx hk hlt R
                go_wp2
                refine wp_region_up (by kernel_rfl) (by kernel_rfl) ?_
                repeat (go_big_quiet_step (fail))
                refine wpQuiet_nil ?_
                rintro _ ⟨z, rfl⟩
                go_wp2
                go_roundw
                case rel => exact ⟨k + 1, by go_num, by have := HLT.out; omega, HNO.out, HX.out.trans z.ext⟩
                case measure => simp [intOf]; have := HLT.out; omega
            · have e : k = n + 1 := by omega
              subst e
              have hI : ¬ (n : Int) + 1 < (n : Int) + 1 := by omega
              have hb4 := HL1.out hno
              subst hb4
              have hr : r = true := HR4.out
              subst hr
              clear hno hx hk hlt HR4 HL1 HL2 c2
              go_wp2
              go_ret
              exact ⟨rfl, Y2.out.trans HX.out⟩
end Go.Proofs.Ytcagcepbnkageaa
