/- suffix: doubled. -/
import Derived.Test.YteflhfofahdckaaSufF
import Derived.Test.YteflhfofahdckaaAppV
import Derived.OwnWalk
namespace Go.Proofs.Yteflhfofahdckaa
set_option linter.unusedVariables false
set_option linter.unusedSimpArgs false
open Go.RowKit

section
variable {P : Program} {ops : Array Oper} {Q : Exit → Act → World → Prop} {md : Region.Mode} {S : List Nat}
/-- a call of a function of the program's own -/
theorem exec_call {o : Oper} {a : Act} {w : World} {f : FuncId} {xs : Array Operand} {tys : Array TypeId} {args : Array Value} (ho : o.op = .call { callee := .value (.func f), args := xs, argTypes := tys }) (hx : xs.toList.map a.eval = args.toList)
    (hf : ∀ (xs : Array Value) (W : World), (callFunc f xs).run P W = .ok (.enter f xs) W) : (execOp a.eval o).run P w = .ok (.enter f args) w := by
  have hx : xs.map a.eval = args := Array.ext' (by rw [Array.toList_map]; exact hx)
  unfold execOp
  simp only [ho, resolve, invoke, Sem.run_bind, Sem.run_pure, Result.andThen_ok, hx, Act.eval, Deferred.ofValue, Array.empty_append, Array.append_empty, hf]
/-- only a call may come up -/
theorem v_call {fuel : Nat} {listed : Array Bool} {a : Act} {w : World} {o : Oper} {f : FuncId} {args : Array Value} (i d : Nat) (R : Value → World → Prop) (hr : Region.ready md ops listed = [i]) (hi : ops[i]? = some o) (hg : o.guard = none) (hd : o.dst = some d)
    (he : ∀ x : Up w, (execOp a.eval o).run P x.val = .ok (.enter f args) x.val)
    (hc : ∀ x : Up w, Calls P f args x.val fun e w' => ∃ v, e = .returned v ∧ Ext x.val w' ∧ R v w')
    (h : ∀ v w', Ext w w' → R v w' → wpAnyV P md ops Q S fuel (listed.setIfInBounds i true) (a.put (some d) v) w') :
    wpAnyV P md ops Q S (fuel + 1) listed a w :=
  v_one i hr hi (by unfold Region.wanted; rw [hg]) fun x K hK => by
    unfold Oper.wp
    rw [he x]
    refine Calls.mono (hc x) ?_
    rintro e w' ⟨v, rfl, hx, hR⟩
    refine hK _ _ (fun _ => hx) ?_
    rw [hd]
    exact h v w' (x.ext.trans hx) hR
end

theorem NW.drew {w : World} {B g n : Nat} {l : List Nat} (h : NW w B g n l) : NW w.drew B g n l := h.ext (Ext.refl w).drew
theorem pairN_eq {n L p q : Nat} {r : List Nat} (h1 : secondN n r L p ≤ n + 1) (h2 : secondN n r L q ≤ n + 1) : pairN n r L p = pairN n r L q ↔ r.getD p 0 = r.getD q 0 ∧ secondN n r L p = secondN n r L q := by
  unfold pairN
  generalize secondN n r L p = x at *
  generalize secondN n r L q = y at *
  generalize r.getD p 0 = u at *
  generalize r.getD q 0 = v at *
  constructor
  · intro e
    rcases Nat.lt_trichotomy u v with h | h | h
    · have : (u + 1) * (n + 2) ≤ v * (n + 2) := Nat.mul_le_mul_right _ h
      rw [Nat.add_mul] at this
      omega
    · subst h; exact ⟨rfl, by omega⟩
    · have : (v + 1) * (n + 2) ≤ u * (n + 2) := Nat.mul_le_mul_right _ h
      rw [Nat.add_mul] at this
      omega
  · rintro ⟨rfl, rfl⟩; rfl
set_option maxRecDepth 20000 in
set_option maxHeartbeats 8000000 in
theorem doubled_any (n L : Nat) (a r : List Nat) (ga gr : Nat) (w : World) (hp : a.Perm (List.range n)) (hrb : ∀ i, i < n → r.getD i 0 < n) (ha : RN w ga n a) (hr : RN w gr n r) (hn : n ≤ 20001) (hn1 : 1 ≤ n) (hL : L ≤ 100000) :
    Calls Try.prog 41 #[.slice (some ⟨ga, 0, none⟩) n n, .slice (some ⟨gr, 0, none⟩) n n, .int .i64 (L : Int)] w fun e w' => ∃ g1 g2 r', e = .returned (.tuple #[.slice (some ⟨g1, 0, none⟩) n n, .slice (some ⟨g2, 0, none⟩) n n, .bool (decide (r'.getD ((twiceL n a r L).getD (n - 1) 0) 0 = n - 1))]) ∧ Ext w w' ∧ RN w' g1 n (twiceL n a r L) ∧ RN w' g2 n r' ∧ RanksOf (pairN n r L) (twiceL n a r L) r' := by
  have hmf : ∀ (fn : Fn) (first cap : Array Value) (w : World), (Instr.makeFunc fn first cap).run Try.prog w = .ok (.func fn first cap) w := fun _ _ _ _ => rfl
  have W1 := w64_small (n := (n : Int) + 1) (by omega) (by omega)
  have HP := Lib.hid hp
  have HB := Lib.hid hrb
  have HA := Lib.hid ha
  have HR := Lib.hid hr
  clear hp hrb ha hr
  go_enter Try.func41, Try.ntmps41
  go_wp2_with fail
  have x0 : Ext w (((w.alloc (.cells #[.slice (some ⟨gr, 0, none⟩) n n] 33)).alloc (.cells #[.int .i64 (L : Int)] 3)).alloc (.cells #[.int .i64 (n : Int)] 3)) := (((Ext.refl w).alloc _).alloc _).alloc _
  have b1 := ((Blk.new w 33 #[.slice (some ⟨gr, 0, none⟩) n n]).alloc (.cells #[.int .i64 (L : Int)] 3)).alloc (.cells #[.int .i64 (n : Int)] 3)
  have b2 := (Blk.new (w.alloc (.cells #[.slice (some ⟨gr, 0, none⟩) n n] 33)) 3 #[.int .i64 (L : Int)]).alloc (.cells #[.int .i64 (n : Int)] 3)
  have b3 := Blk.new ((w.alloc (.cells #[.slice (some ⟨gr, 0, none⟩) n n] 33)).alloc (.cells #[.int .i64 (L : Int)] 3)) 3 #[.int .i64 (n : Int)]
  simp only [World.size_alloc] at b2 b3
  generalize (((w.alloc (.cells #[.slice (some ⟨gr, 0, none⟩) n n] 33)).alloc (.cells #[.int .i64 (L : Int)] 3)).alloc (.cells #[.int .i64 (n : Int)] 3)) = W0 at *
  have X0 := Lib.hid x0
  have RA := Lib.hid (HA.out.ext x0)
  have RR := Lib.hid (HR.out.ext x0)
  have hle := x0.size
  have KF := Lib.hid (first_key r n w.heap.size gr W0 b1 RR.out)
  have KS := Lib.hid (second_key r n L (w.heap.size + 1) (w.heap.size + 1 + 1) w.heap.size gr W0 b2 b3 b1 RR.out (by omega) (by omega) (fun i hi => by have := HB.out i hi; omega))
  have BN := Lib.hid b3
  have BB := Lib.hid b1
  have BL := Lib.hid b2
  have hsec : ∀ p, p < n → secondN n r L p ≤ n + 1 := fun p hp => by
    unfold secondN
    split
    · rename_i h; have := HB.out _ h; omega
    · omega
  have hmem : ∀ p ∈ a, p < n := fun p hp => List.mem_range.1 (HP.out.mem_iff.1 hp)
  have hal : a.length = n := by rw [HP.out.length_eq, List.length_range]
  have hp1 : (csort (secondN n r L) (n + 1) a).Perm a := csort_perm fun p hp => hsec p (hmem p hp)
  have hp2 : (twiceL n a r L).Perm a := (csort_perm fun p hp => by have := HB.out p (hmem p (hp1.mem_iff.1 hp)); show r.getD p 0 ≤ n; omega).trans hp1
  have QS := Lib.hid (fun (x : World) (hx : Ext W0 x) => counted_any a (n + 1) (.slice (some ⟨ga, 0, none⟩) n n) _ (secondN n r L) x (RA.out.ext hx).ri ((KS.out.ext hx).sub hmem) (by omega) (fun p hp => hsec p (hmem p hp)) (by omega))
  have QF := Lib.hid (fun (x : World) (g : Nat) (hx : Ext W0 x) (hg : RN x g n (csort (secondN n r L) (n + 1) a)) => counted_any (csort (secondN n r L) (n + 1) a) n (.slice (some ⟨g, 0, none⟩) n n) _ (fun p => r.getD p 0) x hg.ri ((KF.out.ext hx).sub fun p hp => hmem p (hp1.mem_iff.1 hp)) (by omega) (fun p hp => by have := HB.out p (hmem p (hp1.mem_iff.1 hp)); show r.getD p 0 ≤ n; omega) (by rw [hp1.length_eq]; omega))
  rw [hp1.length_eq, hal] at QF
  rw [hal] at QS
  have HP1 := Lib.hid hp1
  have HP2 := Lib.hid (hp2.trans HP.out)
  have c3 : ∀ X : Up W0.drew, X.val.cell? ⟨w.heap.size + 1 + 1, 0, none⟩ = some (.int .i64 (n : Int)) := fun X => (b3.ext ((Ext.drew (Ext.refl W0)).trans X.ext)).cell 0
  clear hp1 hp2 hmem x0 b1 b2 b3
  refine wp_region_v [] _ rfl (by kernel_rfl) ?_
  dsimp only [List.length_cons, List.length_nil]
  iterate 4
    (refine v_want (by kernel_rfl) (by kernel_rfl) (by kernel_rfl) (fun _ _ _ _ h => h) (by kernel_rfl) (by kernel_rfl) (fun K hK => ?_)
     go_simp
     (refine hK _ ?_; clear hK K))
  refine v_late ?_
  iterate 2
    (refine v_want (by kernel_rfl) (by kernel_rfl) (by kernel_rfl) (fun _ _ _ _ h => h) (by kernel_rfl) (by kernel_rfl) (fun K hK => ?_)
     go_simp
     (refine hK _ ?_; clear hK K))
  refine v_late ?_
  refine v_late ?_
  refine v_rest ?_
  rw [show IntKind.i64.wrap ((n : Int) + 1) = (n : Int) + 1 from IntWalk.i64_in _ (by omega)]
  refine v_call (f := 39) (args := #[.slice (some ⟨ga, 0, none⟩) n n, .int .i64 ((n : Int) + 1), .func (.func 49) #[] #[.pointer (some ⟨w.heap.size + 1, 0, none⟩), .pointer (some ⟨w.heap.size + 1 + 1, 0, none⟩), .pointer (some ⟨w.heap.size, 0, none⟩)]]) 4 24 (fun v w' => ∃ g, v = .slice (some ⟨g, 0, none⟩) n n ∧ RN w' g n (csort (secondN n r L) (n + 1) a)) (by kernel_rfl) rfl rfl rfl (fun x => exec_call rfl rfl (callF_run Try.func39 rfl rfl)) (fun x => ?_) (fun v w1 x1 h1 => ?_)
  · refine (QS.out x.val ((Ext.drew (Ext.refl W0)).trans x.ext)).mono ?_
    rintro e w' ⟨g, rfl, hx, hn⟩
    exact ⟨_, rfl, hx, g, rfl, hn.rn⟩
  obtain ⟨g1, rfl, n1⟩ := h1
  have xW1 : Ext W0 w1 := (Ext.drew (Ext.refl W0)).trans x1
  refine v_call (f := 39) (args := #[.slice (some ⟨g1, 0, none⟩) n n, .int .i64 (n : Int), .func (.func 50) #[] #[.pointer (some ⟨w.heap.size, 0, none⟩)]]) 7 27 (fun v w' => ∃ g, v = .slice (some ⟨g, 0, none⟩) n n ∧ RN w' g n (twiceL n a r L)) (by kernel_rfl) rfl rfl rfl (fun x => exec_call rfl rfl (callF_run Try.func39 rfl rfl)) (fun x => ?_) (fun v w2 x2 h2 => ?_)
  · refine (QF.out x.val g1 (xW1.trans x.ext) (n1.ext x.ext)).mono ?_
    rintro e w' ⟨g, rfl, hx, hn⟩
    exact ⟨_, rfl, hx, g, rfl, hn.rn⟩
  obtain ⟨g2, rfl, n2⟩ := h2
  refine v_val (v := .slice (some ⟨g2, 0, none⟩) n n) 8 0 (.tmp 27) (by kernel_rfl) rfl rfl rfl rfl rfl (fun W3 x3 => ?_)
  refine v_done (by kernel_rfl) (fun y => ?_)
  have xY : Ext W0 y.val := ((xW1.trans x2).trans x3).trans y.ext
  have RT := Lib.hid ((n2.ext x3).ext y.ext)
  have XY := Lib.hid (X0.out.trans xY)
  have BN := Lib.hid (BN.out.ext xY)
  have QF1 := Lib.hid (fun (W : World) (hW : Ext y.val W) (p : Nat) (hp : p < n) => first_any r n p w.heap.size gr W ((BB.out.ext xY).ext hW) ((RR.out.ext xY).ext hW) hp)
  have QS1 := Lib.hid (fun (W : World) (hW : Ext y.val W) (p : Nat) (hp : p < n) => second_any r n p L (w.heap.size + 1) (w.heap.size + 1 + 1) w.heap.size gr W ((BL.out.ext xY).ext hW) (BN.out.ext hW) ((BB.out.ext xY).ext hW) ((RR.out.ext xY).ext hW) hp (by omega) (by omega) (fun i hi => by have := HB.out i hi; omega))
  have HSE := Lib.hid hsec
  have hle : w.heap.size ≤ y.val.heap.size := XY.out.size
  clear QS QF n2 n1 x1 x2 x3 xW1 xY c3 RA RR HA HR X0 KF KS BB BL hsec
  dsimp only [Act.put]
  simp only [List.setIfInBounds_toArray, List.set_cons_succ, List.set_cons_zero]
  have hmk := make_run y.val n (by omega) _ rfl
  have bn := BN.out.cell 0
  have HN0 := Lib.hid (show NW (y.val.alloc (.cells (madeCells #[.int .i64 0] n) 3)) y.val.heap.size y.val.heap.size n (List.replicate n 0) from NW.make y.val n (by omega))
  have htl : (twiceL n a r L).length = n := by rw [HP2.out.length_eq, List.length_range]
  have HRK0 := Lib.hid (RanksTo.start (g := pairN n r L) (a := twiceL n a r L) (r := List.replicate n 0) rfl htl)
  have htd : ∀ X, Ext y.val X → RN X g2 n (twiceL n a r L) := fun X hX => RT.out.ext hX
  have HTD := Lib.hid htd
  have HTL := Lib.hid htl
  clear htd htl
  generalize htw : twiceL n a r L = tw at *
  have HTW := Lib.hid htw
  clear htw
  generalize y.val = Y at *
  go_wp2
  clear hmk bn
  go_loopw [13] (fun i wr => ∃ (k : Nat) (nx : List Nat), 1 ≤ k ∧ k ≤ n ∧ i = .int .i64 (k : Int) ∧ Ext Y wr ∧ NW wr Y.heap.size Y.heap.size n nx ∧ RanksTo (pairN n r L) tw nx k) (fun i _ => n - (intOf i).toNat)
  case atStart => exact ⟨1, List.replicate n 0, by omega, by omega, rfl, (Ext.refl _).alloc _, HN0.out, HRK0.out⟩
  case round =>
    obtain ⟨k, nx, hk1, hk, rfl, hx, hw, hrk⟩ := hrel
    clear HN0 HRK0
    have bn := (BN.out.ext hx).cell 0
    by_cases hlt : k < n
    · obtain ⟨j, rfl⟩ : ∃ j, k = j + 1 := ⟨k - 1, by omega⟩
      have hA := perm_lt HP2.out (i := j) (by omega)
      have hB := perm_lt HP2.out (i := j + 1) hlt
      have cA := (HTD.out _ hx).2 j (by omega)
      have cB := (HTD.out _ hx).2 (j + 1) hlt
      have HST := Lib.hid (hrk.step HP2.out hlt)
      have HEQ := Lib.hid (pairN_eq (HSE.out _ hA) (HSE.out _ hB))
      have hnx : nx.getD (tw.getD j 0) 0 ≤ j := by
        rw [hrk.2 j (by omega)]
        exact rk_le _ _ _
      have HQA := Lib.hid (fun (W : World) (hW : Ext Y W) => QF1.out W hW _ hA)
      have HQB := Lib.hid (fun (W : World) (hW : Ext Y W) => QF1.out W hW _ hB)
      have HSA := Lib.hid (fun (W : World) (hW : Ext Y W) => QS1.out W hW _ hA)
      have HSB := Lib.hid (fun (W : World) (hW : Ext Y W) => QS1.out W hW _ hB)
      have hjn : (j : Int) + 1 < (n : Int) := by omega
      have e2 : (0 : Int) ≤ (j : Int) + 1 := by omega
      have e0 : IntKind.i64.wrap (j : Int) = (j : Int) := IntWalk.i64_in _ (by omega)
      generalize tw.getD j 0 = A at *
      generalize tw.getD (j + 1) 0 = B at *
      have cx := hw.cell A hA
      have cy := hw.cell B hB
      have fy := hw.free B hB
      have HW := Lib.hid hw
      have HX := Lib.hid hx
      have HW2 := Lib.hid (hw.set B (nx.getD A 0)).drew
      have HX2 := Lib.hid (Ext.set hx (p := ⟨Y.heap.size, B, none⟩) (Nat.le_refl _) (.int .i64 ((nx.getD A 0 : Nat) : Int))).drew
      have hset : (nx.set B (nx.getD A 0)).getD B 0 = nx.getD A 0 := by
        rw [List.getD_eq_getElem?_getD, List.getElem?_set_self (by rw [hw.len]; exact hB)]; rfl
      clear hw hx hrk
      generalize nx.getD A 0 = x at *
      have cz := HW2.out.cell B hB
      rw [hset] at cz
      have fz := HW2.out.free B hB
      have HUP := Lib.hid (show NW ((wr.setCell ⟨Y.heap.size, B, none⟩ (.int .i64 (x : Int))).drew.setCell ⟨Y.heap.size, B, none⟩ (.int .i64 ((x : Int) + 1))) Y.heap.size Y.heap.size n (nx.set B (x + 1)) from by
        have := HW2.out.set B (x + 1)
        rw [List.set_set] at this
        exact this)
      have HXP := Lib.hid (Ext.set HX2.out (p := ⟨Y.heap.size, B, none⟩) (Nat.le_refl _) (.int .i64 ((x : Int) + 1)))
      have CZ := Lib.hid cz
      have FZ := Lib.hid fz
      clear hset cz fz
      generalize nx.getD B 0 = old at *
      generalize r.getD A 0 = fa at *
      generalize r.getD B 0 = fb at *
      generalize secondN n r L A = sa at *
      generalize secondN n r L B = sb at *
      go_wp2
      go_region
      go_wp2_with fail
      refine (HQA.out _ HX2.out).mono ?_
      rintro e w5 ⟨rfl, rfl⟩
      go_wp2_with fail
      refine (HQB.out _ HX2.out).mono ?_
      rintro e w5 ⟨rfl, rfl⟩
      generalize hW5 : (wr.setCell ⟨Y.heap.size, B, none⟩ (.int .i64 (x : Int))).drew = w5 at *
      clear hW5
      have cz := CZ.out
      have fz := FZ.out
      by_cases h1 : fa = fb
      · have h1' : ((fa : Int) != (fb : Int)) = false := by simp [h1]
        go_wp2_with fail
        refine (HSA.out _ HX2.out).mono ?_
        rintro e w5 ⟨rfl, rfl⟩
        go_wp2_with fail
        refine (HSB.out _ HX2.out).mono ?_
        rintro e w5 ⟨rfl, rfl⟩
        by_cases h2 : sa = sb
        · have h2' : ((sa : Int) != (sb : Int)) = false := by simp [h2]
          have HR2 := HST.out
          rw [if_pos (HEQ.out.2 ⟨h1, h2⟩)] at HR2
          have HR2 := Lib.hid HR2
          clear HST
          go_wp2
          go_roundw
          case rel => exact ⟨j + 2, _, by omega, by omega, by go_num, HX2.out, HW2.out, HR2.out⟩
          case measure => simp [intOf]; omega
        · have h2' : ((sa : Int) != (sb : Int)) = true := by simp; omega
          have HR2 := HST.out
          rw [if_neg (fun h => h2 (HEQ.out.1 h).2)] at HR2
          have HR2 := Lib.hid HR2
          clear HST
          go_wp2
          go_roundw
          case rel => exact ⟨j + 2, _, by omega, by omega, by go_num, HXP.out, HUP.out, HR2.out⟩
          case measure => simp [intOf]; omega
      · have h1' : ((fa : Int) != (fb : Int)) = true := by simp; omega
        have HR2 := HST.out
        rw [if_neg (fun h => h1 (HEQ.out.1 h).1)] at HR2
        have HR2 := Lib.hid HR2
        clear HST
        go_wp2
        go_roundw
        case rel => exact ⟨j + 2, _, by omega, by omega, by go_num, HXP.out, HUP.out, HR2.out⟩
        case measure => simp [intOf]; omega
    · have e : k = n := by omega
      subst e
      obtain ⟨m, rfl⟩ : ∃ m, k = m + 1 := ⟨k - 1, by omega⟩
      have hA := perm_lt HP2.out (i := m) (by omega)
      have cA := (HTD.out _ hx).2 m (by omega)
      have hda := Lib.hid (hrk.done (by rw [HTL.out]; exact Nat.le_refl _))
      have HX := Lib.hid hx.drew
      have HN := Lib.hid hw.drew.rn
      have HT := Lib.hid (HTD.out _ hx.drew)
      have cx := hw.cell _ hA
      have e0 : IntKind.i64.wrap (m : Int) = (m : Int) := IntWalk.i64_in _ (by omega)
      have HTW := Lib.hid HTW.out.symm
      clear hrk hw hx
      generalize hAA : tw.getD m 0 = A at *
      have HAA := Lib.hid hAA
      generalize hxx : nx.getD A 0 = x at *
      have HXX := Lib.hid hxx
      clear hAA hxx
      have hbx : ((x : Int) == (m : Int)) = decide (x = m) := by by_cases h : x = m <;> simp [h]; omega
      have HBX := Lib.hid hbx
      clear hbx
      go_wp2
      go_region
      go_wp2
      refine bodyPost_ret (results_tmp3 rfl _ _ _) rfl ⟨g2, Y.heap.size, nx, ?_, XY.out.trans HX.out, ?_, HN.out, ?_⟩
      · show Ending.returned (.tuple #[.slice (some ⟨g2, 0, none⟩) (m + 1) (m + 1), .slice (some ⟨Y.heap.size, 0, none⟩) (m + 1) (m + 1), .bool ((x : Int) == (m : Int))]) = _
        rw [HBX.out, ← HTW.out, Nat.add_sub_cancel, HAA.out, HXX.out]
      · rw [← HTW.out]; exact HT.out
      · rw [← HTW.out]; exact hda.out
end Go.Proofs.Yteflhfofahdckaa
