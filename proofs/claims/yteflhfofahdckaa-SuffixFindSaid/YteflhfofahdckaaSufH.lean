/- suffix: Array. -/
import Derived.Test.YteflhfofahdckaaSufG
namespace Go.Proofs.Yteflhfofahdckaa
set_option linter.unusedVariables false
set_option linter.unusedSimpArgs false
open Go.RowKit
attribute [local go_sem] S_size

set_option maxRecDepth 20000 in
set_option maxHeartbeats 4000000 in
theorem array_big (s : List UInt8) (w : World) (hs : ¬ s.length ≤ 20000) : Calls Try.prog 23 #[.string (S s)] w fun e w' => e = .returned (.tuple #[.slice none 0 0, .int .i64 3]) ∧ Ext w w' := by
  have hh : (20000 : Int) < (s.length : Int) := by omega
  have x0 := Lib.hid ((Ext.refl w).alloc (.cells #[.string (S s)] 9))
  clear hs
  go_enter Try.func23, Try.ntmps23
  go_wp2
  go_ret2
  exact ⟨rfl, x0.out⟩

set_option maxRecDepth 20000 in
set_option maxHeartbeats 8000000 in
theorem array_any (s : List UInt8) (w : World) (hs : s.length ≤ 20000) : Calls Try.prog 23 #[.string (S s)] w fun e w' => ∃ g, e = .returned (.tuple #[.slice (some ⟨g, 0, none⟩) (s.length + 1) (s.length + 1), .int .i64 0]) ∧ Ext w w' ∧ RN w' g (s.length + 1) (arrayL s) := by
  have hmf : ∀ (fn : Fn) (first cap : Array Value) (w : World), (Instr.makeFunc fn first cap).run Try.prog w = .ok (.func fn first cap) w := fun _ _ _ _ => rfl
  have hh : ¬ (20000 : Int) < (s.length : Int) := by omega
  have x0 := Lib.hid ((Ext.refl w).alloc (.cells #[.string (S s)] 9))
  have b0 := Lib.hid (Blk.new w 9 #[.string (S s)])
  have HL := Lib.hid hs
  have W1 := w64_small (n := (s.length : Int) + 1) (by omega) (by omega)
  have HU := Lib.hid (upto_any (s.length + 1) (w.alloc (.cells #[.string (S s)] 9)) (by omega))
  have HC := Lib.hid (fun (x : World) (g : Nat) (hx : Ext (w.alloc (.cells #[.string (S s)] 9)) x) (hg : RN x g (s.length + 1) (List.range (s.length + 1))) =>
    counted_any (List.range (s.length + 1)) 256 (.slice (some ⟨g, 0, none⟩) (s.length + 1 : Nat) (s.length + 1 : Nat)) (.func (.func 38) #[] #[.pointer (some ⟨w.heap.size, 0, none⟩)]) (letterN s) x hg.ri ((letter_key s w.heap.size x (b0.out.ext hx) (by omega)).sub (fun p hp => by have := List.mem_range.1 hp; omega)) (by decide) (fun p _ => letter_le s p) (by rw [List.length_range]; omega))
  rw [List.length_range] at HC
  clear hs
  go_enter Try.func23, Try.ntmps23
  go_wp2_with fail
  refine HU.out.mono ?_
  rintro e w1 ⟨g1, rfl, x1, n1⟩
  go_wp2_with fail
  refine (HC.out w1 g1 x1 n1.rn).mono ?_
  rintro e w2 ⟨g2, rfl, x2, n2⟩
  have X2 := Lib.hid ((x0.out.trans x1).trans x2)
  have HS := Lib.hid (b0.out.ext (x1.trans x2))
  have N2 := Lib.hid n2.rn
  have hmk := make_run w2 (s.length + 1) (by have := HL.out; omega) ((s.length : Int) + 1) rfl
  have HM := Lib.hid (NW.make w2 (s.length + 1) (by have := HL.out; omega))
  have hpm : (csort (letterN s) 256 (List.range (s.length + 1))).Perm (List.range (s.length + 1)) := csort_perm fun p _ => letter_le s p
  have HP := Lib.hid hpm
  have hal : (csort (letterN s) 256 (List.range (s.length + 1))).length = s.length + 1 := by rw [hpm.length_eq, List.length_range]
  have HRK0 := Lib.hid (RanksTo.start (g := letterN s) (a := csort (letterN s) 256 (List.range (s.length + 1))) (r := List.replicate (s.length + 1) 0) rfl hal)
  have HAL := Lib.hid hal
  have HI := Lib.hid (fun (r : List Nat) (h : RanksOf (letterN s) (csort (letterN s) 256 (List.range (s.length + 1))) r) => Inv.first (s := s) h)
  clear x1 x2 n1 n2 HU HC x0 b0 hpm hal
  generalize hgar : csort (letterN s) 256 (List.range (s.length + 1)) = ar at *
  clear hgar
  have Q1 := Lib.hid (fun (W : World) (hW : Ext w2 W) (p : Nat) (hp : p < s.length + 1) => letter_any s p w.heap.size W (HS.out.ext hW) (by omega) (by have := HL.out; omega))
  go_wp2
  clear hmk
  go_loopw [8] (fun i wr => ∃ (k : Nat) (nx : List Nat), 1 ≤ k ∧ k ≤ s.length + 1 ∧ i = .int .i64 (k : Int) ∧ Ext w2 wr ∧ NW wr w2.heap.size w2.heap.size (s.length + 1) nx ∧ RanksTo (letterN s) ar nx k) (fun i _ => s.length + 1 - (intOf i).toNat)
  case atStart => exact ⟨1, List.replicate (s.length + 1) 0, by omega, by omega, rfl, (Ext.refl _).alloc _, HM.out, HRK0.out⟩
  case round =>
    obtain ⟨k, nx, hk1, hk, rfl, hx, hw, hrk⟩ := hrel
    clear HM HRK0
    by_cases hlt : k < s.length + 1
    · obtain ⟨j, rfl⟩ : ∃ j, k = j + 1 := ⟨k - 1, by omega⟩
      have hA := perm_lt HP.out (i := j) (by omega)
      have hB := perm_lt HP.out (i := j + 1) hlt
      have cA := up_cell (W := wr.drew) ((N2.out.ext hx.drew).2 j (by omega))
      have cB := up_cell (W := wr.drew) ((N2.out.ext hx.drew).2 (j + 1) hlt)
      have HST := Lib.hid (hrk.step HP.out hlt)
      have hnx : nx.getD (ar.getD j 0) 0 ≤ j := by
        rw [hrk.2 j (by omega)]
        exact rk_le _ _ _
      have HN1 := Lib.hid (fun (W : World) (hW : Ext w2 W) => (N2.out.ext hW).2 j (by omega))
      have HN2 := Lib.hid (fun (W : World) (hW : Ext w2 W) => (N2.out.ext hW).2 (j + 1) hlt)
      have HQA := Lib.hid (fun (W : World) (hW : Ext w2 W) => Q1.out W hW _ hA)
      have HQB := Lib.hid (fun (W : World) (hW : Ext w2 W) => Q1.out W hW _ hB)
      have hjn : (j : Int) + 1 < (s.length : Int) + 1 := by omega
      have e2 : (0 : Int) ≤ (j : Int) + 1 := by omega
      have e0 : IntKind.i64.wrap (j : Int) = (j : Int) := IntWalk.i64_in _ (by omega)
      generalize ar.getD j 0 = A at *
      generalize ar.getD (j + 1) 0 = B at *
      have hji : (j : Int) < (s.length : Int) + 1 := by omega
      have hAi : (A : Int) < (s.length : Int) + 1 := by omega
      have hBi : (B : Int) < (s.length : Int) + 1 := by omega
      have cx := up_cell (W := wr.drew) (hw.drew.cell A hA)
      have cy := up_cell (W := wr.drew) (hw.drew.cell B hB)
      have fy := fun x : Up wr.drew => ((hw.drew.ext x.ext).free B hB)
      have HX := Lib.hid hx.drew
      have HW2 := Lib.hid (fun x : Up wr.drew => (hw.drew.ext x.ext).set B (nx.getD A 0))
      have hset : (nx.set B (nx.getD A 0)).getD B 0 = nx.getD A 0 := by
        rw [List.getD_eq_getElem?_getD, List.getElem?_set_self (by rw [hw.len]; exact hB)]; rfl
      have hset2 : ∀ u, (nx.set B (nx.getD A 0)).set B u = nx.set B u := fun u => List.set_set ..
      have HSET := Lib.hid hset
      have HSET2 := Lib.hid hset2
      clear hw hx hrk hset hset2
      generalize nx.getD A 0 = v at *
      generalize nx.getD B 0 = old at *
      generalize letterN s A = fa at *
      generalize letterN s B = fb at *
      go_wp2_with fail
      refine wp_region_lex _ rfl (by kernel_rfl) ?_
      dsimp only [List.length_cons, List.length_nil]
      iterate 14
        (refine lex_want (by kernel_rfl) (by kernel_rfl) (by kernel_rfl) (by kernel_rfl) (fun _ _ _ _ h => h) (by kernel_rfl) (fun K hK => ?_)
         go_simp
         (refine hK _ ?_; clear hK K))
      refine lex_last (by kernel_rfl) (by kernel_rfl) (by kernel_rfl) (by kernel_rfl) (by kernel_rfl) (fun x K hK => ?_)
      have p1 := cy x
      have p2 := fy x
      go_simp
      refine hK _ _ (fun y => ?_)
      have NV := Lib.hid ((HW2.out x).ext y.ext)
      have XV := Lib.hid ((Ext.set (HX.out.trans x.ext) (p := ⟨w2.heap.size, B, none⟩) (Nat.le_refl _) (.int .i64 (v : Int))).trans y.ext)
      clear hK p1 p2 cx cy fy cA cB HW2 HX
      generalize y.val = V at *
      have cA := up_cell (W := V) (HN1.out V XV.out)
      have cB := up_cell (W := V) (HN2.out V XV.out)
      have HQA := Lib.hid (fun x : Up V => HQA.out x.val (XV.out.trans x.ext))
      have HQB := Lib.hid (fun x : Up V => HQB.out x.val (XV.out.trans x.ext))
      go_wp2_with fail
      refine wp_region_up (by kernel_rfl) (by kernel_rfl) ?_
      iterate 5 (quiet_step (fail))
      quiet_step (with_reducible exact up_same (HQB.out _))
      iterate 6 (quiet_step (fail))
      quiet_step (with_reducible exact up_same (HQA.out _))
      quiet_step (fail)
      refine wpQuiet_nil ?_
      rintro _ ⟨y, rfl⟩
      have HX2 := Lib.hid (XV.out.trans y.ext)
      have HW2 := Lib.hid (NV.out.ext y.ext)
      clear cA cB HQA HQB XV NV
      generalize y.val = w5 at *
      have cz := HW2.out.cell B hB
      rw [HSET.out] at cz
      have fz := HW2.out.free B hB
      have cB := HN2.out _ HX2.out
      have HUP := Lib.hid (HW2.out.set B (v + 1))
      rw [HSET2.out] at HUP
      have HXP := Lib.hid (Ext.set HX2.out (p := ⟨w2.heap.size, B, none⟩) (Nat.le_refl _) (.int .i64 ((v : Int) + 1)))
      by_cases h1 : fb = fa
      · have h1' : ((fb : Int) != (fa : Int)) = false := by simp [h1]
        have HR2 := HST.out
        rw [if_pos h1.symm] at HR2
        have HR2 := Lib.hid HR2
        clear HST h1
        go_wp2
        go_roundw
        case rel => exact ⟨j + 2, _, by omega, by omega, by go_num, HX2.out, HW2.out, HR2.out⟩
        case measure => simp [intOf]; omega
      · have h1' : ((fb : Int) != (fa : Int)) = true := by simp; omega
        have HR2 := HST.out
        rw [if_neg (fun h => h1 h.symm)] at HR2
        have HR2 := Lib.hid HR2
        clear HST h1
        go_wp2
        go_roundw
        case rel => exact ⟨j + 2, _, by omega, by omega, by go_num, HXP.out, HUP.out, HR2.out⟩
        case measure => simp [intOf]; omega
    · have e : k = s.length + 1 := by omega
      subst e
      rw [show ((s.length + 1 : Nat) : Int) = (s.length : Int) + 1 from rfl]
      have hA := perm_lt HP.out (i := s.length) (by omega)
      have cA := (N2.out.ext hx).2 s.length (by omega)
      have HX := Lib.hid hx
      have HW := Lib.hid hw.rn
      have HINV := Lib.hid (HI.out _ (hrk.done (by rw [HAL.out]; exact Nat.le_refl _)))
      have cx := hw.cell _ hA
      have hbx : ∀ z : Nat, ((z : Int) == (s.length : Int)) = decide (z = s.length) := fun z => by
        by_cases h : z = s.length <;> simp [h]
        omega
      clear hrk hw hx hlt hk hk1
      have HBX := Lib.hid hbx
      clear hbx
      generalize hAA : ar.getD s.length 0 = A at *
      generalize hvv : nx.getD A 0 = v at *
      have HAA := Lib.hid hAA
      have HVV := Lib.hid hvv
      clear hAA hvv
      have hA2 : (A : Int) < (s.length : Int) + 1 := by omega
      go_wp2
      go_loopw [6, 7, 9, 10] (fun x6 x7 x9 x10 wr => ∃ (L : Nat) (a r : List Nat) (ga gr : Nat), x6 = .slice (some ⟨ga, 0, none⟩) (s.length + 1) (s.length + 1) ∧ x7 = .slice (some ⟨gr, 0, none⟩) (s.length + 1) (s.length + 1) ∧ x9 = .bool (decide (r.getD (a.getD s.length 0) 0 = s.length)) ∧ x10 = .int .i64 (L : Int) ∧ 1 ≤ L ∧ L ≤ 40000 ∧ Inv s L a r ∧ RN wr ga (s.length + 1) a ∧ RN wr gr (s.length + 1) r ∧ Ext w2 wr) (fun _ _ _ x10 _ => 100000 - (intOf x10).toNat)
      case atStart =>
        refine ⟨1, ar, nx, g2, w2.heap.size, rfl, rfl, ?_, rfl, by omega, by omega, HINV.out, N2.out.ext HX.out, HW.out, HX.out⟩
        rw [HAA.out, HVV.out, ← HBX.out v]
      case round =>
        rename World => wr2
        obtain ⟨L, a, r, ga, gr, rfl, rfl, rfl, rfl, hL1, hL2, hinv, ha, hr, hx⟩ := hrel
        by_cases hd : r.getD (a.getD s.length 0) 0 = s.length
        · have HA := Lib.hid ha
          have HX := Lib.hid (X2.out.trans hx)
          have HD := Lib.hid (hinv.done hd)
          rw [decide_eq_true hd]
          clear hinv hx hr ha hd
          go_wp2
          go_ret2
          exact ⟨ga, rfl, HX.out, HD.out ▸ HA.out⟩
        · have hml := hinv.more hd
          have hq := Lib.hid (doubled_any (s.length + 1) L a r ga gr wr2 hinv.1 (fun i hi => by have := hinv.rank_le (p := i) (by omega); omega) ha hr (by omega) (by omega) (by omega))
          have HST := Lib.hid (fun (r' : List Nat) (h : RanksOf (pairN (s.length + 1) r L) (twiceL (s.length + 1) a r L) r') => hinv.step h)
          have HX := Lib.hid hx
          rw [decide_eq_false hd]
          clear hinv hr ha hd hx
          go_wp2_with fail
          refine hq.out.mono ?_
          rintro e w3 ⟨ga2, gr2, r2, rfl, x3, na, nr, hrk⟩
          have HI2 := Lib.hid (HST.out _ hrk)
          have HX3 := Lib.hid (HX.out.trans x3)
          have NA := Lib.hid na
          have NR := Lib.hid nr
          clear x3 na nr hrk HST hq
          rw [Nat.add_sub_cancel]
          generalize hdd : decide (r2.getD ((twiceL (s.length + 1) a r L).getD s.length 0) 0 = s.length) = dd at *
          have HDD := Lib.hid hdd
          clear hdd
          go_wp2
          go_roundw
          case rel => exact ⟨2 * L, _, r2, ga2, gr2, rfl, rfl, by rw [HDD.out], by go_num, by omega, by omega, HI2.out, NA.out, NR.out, HX3.out⟩
          case measure => simp [intOf]; omega
end Go.Proofs.Yteflhfofahdckaa
