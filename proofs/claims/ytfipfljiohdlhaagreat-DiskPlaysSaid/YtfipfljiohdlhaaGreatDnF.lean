/- The document's disk: Changed, where an entry comes. -/
import Derived.Test.YtfipfljiohdlhaaGreatDnE
import Derived.Test.YtfipfljiohdlhaaGreatAnyV
import Derived.Test.YtfipfljiohdlhaaGreatAppV
import Derived.WideAt
namespace Go.Proofs.YtfipfljiohdlhaaGreat
set_option linter.unusedVariables false
set_option linter.unusedSimpArgs false
open Go.RowKit
attribute [local go_sem] S_size S_toList S_append S_extract S_beq S_bne S_empty S_nil
variable {K : List Nat}

theorem less_before : ∀ a b : List UInt8, Op.bytesLess a b = bytesBefore a b
  | [], [] => rfl
  | [], _ :: _ => rfl
  | _ :: _, [] => rfl
  | a :: r, b :: s => by
    unfold Op.bytesLess bytesBefore
    rw [less_before r s]
section
variable {P : Program} {ops : Array Oper} {Q : Exit → Act → World → Prop} {md : Region.Mode} {S : List Nat}
/-- a whole struct is loaded out of the middle of a block -/
theorem v_load_mid {listed : Array Bool} {k fuel : Nat} {a : Act} {w : World} {oi : Oper} {rest : List Oper} (hs : Region.noSelect ops = true) (hf : Region.free md ops listed k = true)
    (hr : (Region.ready md ops listed).contains k = true) (hQ : ∀ v, ∀ c a w, Q (.panic c) (a.put oi.dst v) w → Q (.panic c) a w)
    (hw : Region.wanted oi (yielded ops a.tmps) = true) (hS : S.contains k = false) (ty : TypeId) (x : Operand) (ho : oi.op = .load ty x)
    {g i : Nat} (hx : a.eval x = .pointer (some ⟨g, i, none⟩)) {cs : List Value} {d : TypeDesc} (hg : w.rangeAt g i cs)
    (hu : P.underlying ty = some d) (hd : d.isRow = true) (hsz : (P.info? ty).map (·.size) = some cs.length)
    (h : OutV P md ops Q S fuel (listed.setIfInBounds k true) (k + 1) rest (a.put oi.dst (.agg cs.toArray)) w) : OutV P md ops Q S (fuel + 1) listed k (oi :: rest) a w :=
  v_want hs hf hr hQ hw hS fun K hK => by
    refine ⟨.agg cs.toArray, fun y => ?_, hK _ h⟩
    unfold upAt
    simp only [execOp, ho, hx, Instr.loadAt, Instr.sureAddr, Sem.run_bind, Sem.run_pure, Result.andThen_ok, run_loadVar_mid y.val g i ty cs d (rangeAt_ext hg y.ext) hu hd hsz]
    exact ⟨rfl, rfl⟩
end
theorem run_bs0n (w : World) : (Instr.buildSlice 30 0 #[]).run Tryz.prog w = .ok (.slice (some ⟨w.heap.size, 0, none⟩) 0 0) (w.alloc (.cells #[] 98)) := by kernel_rfl
theorem ins_eq {to : List UInt8} {n : Nat} {l : List (List UInt8 × Nat)} {k : Nat} (hk : k ≤ l.length) (h1 : ∀ j x, j < k → l[j]? = some x → bytesBefore x.1 to = true) (h2 : ∀ x, l[k]? = some x → ¬ bytesBefore x.1 to = true) (hne : ∀ x ∈ l, x.1 ≠ to) : l.take k ++ [(to, n)] ++ l.drop k = dIns (to, n) l := by
  rw [dIns_split hk h1 (fun x hx => ?_), List.append_assoc]
  · rfl
  · rcases Go.WideAt.bytes_total x.1 to (hne x (List.mem_of_getElem? hx)) with h | h
    · exact absurd h (h2 x hx)
    · exact h
theorem del_ne {s : List UInt8} {l : List (List UInt8 × Nat)} : ∀ x ∈ dDel s l, x.1 ≠ s := fun x hx => by
  have := (List.mem_filter.1 hx).2
  simpa using this

theorem goneL_length (fr : List UInt8) (l : List (List UInt8 × Nat)) : (goneL fr l).length ≤ l.length := by
  unfold goneL
  split
  · exact Nat.le_refl _
  · exact dDel_length fr l
set_option maxRecDepth 20000 in
set_option maxHeartbeats 8000000 in
theorem rchanged_some {w : World} {v : Value} {l : List (List UInt8 × Nat)} (hK : ∀ k ∈ K, k < w.heap.size) (h : RK K eC 2 w v l) (hl : (l.length : Int) ≤ 1000000) (fr to : List UInt8) (n : Nat) (ht : to ≠ []) :
    Calls Tryz.prog 69 #[v, .agg #[.string (S fr), .string (S to), .int .i64 (n : Int)]] w fun e w' => ∃ v', e = .returned v' ∧ RK K eC 2 w' v' (dPut to n (goneL fr l)) ∧ Ext w w' := by
  have X0 := Lib.hid ((Ext.refl w).alloc (.cells #[.string (S fr), .string (S to), .int .i64 (n : Int)] 100))
  have B0 := Lib.hid (Blk.new w 100 #[.string (S fr), .string (S to), .int .i64 (n : Int)])
  have Q := Lib.hid (rwithout_any (h.ext X0.out).1 hl fr)
  have H := Lib.hid (h.ext X0.out)
  have HK := Lib.hid hK
  clear hK
  have hg := goneL_length fr l
  have hbt : (to == []) = false := by simpa using ht
  obtain ⟨L1, hL1⟩ : ∃ L1, L1 = goneL fr l := ⟨_, rfl⟩
  rw [← hL1] at hg ⊢
  obtain ⟨RS, hRS⟩ : ∃ RS, RS = dPut to n L1 := ⟨_, rfl⟩
  rw [← hRS]
  have HRS := Lib.hid hRS
  clear h hRS
  by_cases hf : fr = []
  · subst hf
    have E : L1 = l := hL1
    clear Q hL1
    subst E
    go_enter Tryz.func69, Tryz.ntmps69
    have B1 := Lib.hid B0.out
    have R1 := Lib.hid H.out.1
    have X1 := Lib.hid X0.out
    clear H B0
    have Q2 := Lib.hid (rwithout_any R1.out (by omega) to)
    go_wp2_with fail
    refine Q2.out.mono ?_
    rintro _ w2 ⟨v2, rfl, r2, x2⟩
    have hl2 : (dDel to L1).length ≤ 1000000 := by have := dDel_length to L1; omega
    have NE := Lib.hid (del_ne (s := to) (l := L1))
    have B2 := Lib.hid (B1.out.ext x2)
    have X2 := Lib.hid (X1.out.trans x2)
    have R2 := Lib.hid r2
    have EP := Lib.hid (show RS = dIns (to, n) (dDel to L1) from HRS.out)
    clear x2 Q2 HRS
    generalize dDel to L1 = l2 at *
    have RT := Lib.hid (show w2.rangeAt w.heap.size 1 (eC (to, n)) from fun j u hj => by
      rw [B2.out.cell]
      match j, hj with
      | 0, hj => exact hj
      | 1, hj => exact hj)
    rcases r2.2 with ⟨rfl, h0⟩ | ⟨g2, c2, _, rfl, hg2, _, hc2, _⟩
    · obtain rfl : l2 = [] := List.eq_nil_of_length_eq_zero h0
      clear r2 h0
      go_wp2_with fail
      go_loopw [5] (fun i wr => i = .int .i64 0 ∧ Ext w2 wr) (fun i _ => 0)
      case atStart => exact ⟨rfl, Ext.refl _⟩
      case round =>
        obtain ⟨rfl, hx⟩ := hrel
        have HX := Lib.hid hx
        have T1 : ∀ x : Up wr, x.val.cell? ⟨w.heap.size, 1, none⟩ = some (.string (S to)) := up_cell ((B2.out.ext hx).cell 1)
        clear hx
        go_wp2
        refine wp_region_up (by kernel_rfl) (by kernel_rfl) ?_
        repeat (go_big_quiet_step (fail))
        refine wpQuiet_nil ?_
        rintro _ ⟨z, rfl⟩
        have HZ := Lib.hid (HX.out.trans z.ext)
        have IE := Lib.hid (show ([] : List (List UInt8 × Nat)) ++ [(to, n)] ++ ([] : List (List UInt8 × Nat)) = dIns (to, n) [] from rfl)
        have RB := Lib.hid (fun (W : World) (x : Ext w2 W) => RR.nil (f := eC) (s := 2) W)
        have RC := Lib.hid (fun (W : World) (x : Ext w2 W) => RR.nil (f := eC) (s := 2) W)
        have HLs := Lib.hid (show ([] : List (List UInt8 × Nat)).length + 1 + ([] : List (List UInt8 × Nat)).length ≤ 1000001 by decide)
        clear T1 HX
        go_wp2_with fail
        refine wp_region_v [9, 10, 11] _ rfl (by kernel_rfl) ?_
        dsimp only [List.length_cons, List.length_nil]
        have RTZ := Lib.hid (rangeAt_ext RT.out HZ.out.drew)
        refine v_late ?_
        iterate 3
          (refine v_want (by kernel_rfl) (by kernel_rfl) (by kernel_rfl) (fun _ _ _ _ h => h) (by kernel_rfl) (by kernel_rfl) (fun K hK => ?_)
           go_simp
           (refine hK _ ?_; clear hK K))
        refine v_late ?_
        refine v_want (by kernel_rfl) (by kernel_rfl) (by kernel_rfl) (fun _ _ _ _ h => h) (by kernel_rfl) (by kernel_rfl) (fun K hK => ?_)
        go_simp
        (refine hK _ ?_; clear hK K)
        refine v_load_mid (by kernel_rfl) (by kernel_rfl) (by kernel_rfl) (fun _ _ _ _ h => h) (by kernel_rfl) (by kernel_rfl) 98 (.tmp 45) rfl rfl RTZ.out Tryz.underlying98 rfl rentry_size ?_
        dsimp only [Act.put]
        simp only [List.setIfInBounds_toArray, List.set_cons_succ, List.set_cons_zero]
        refine v_late ?_
        refine v_late ?_
        iterate 3
          (refine v_pure (by kernel_rfl) (by kernel_rfl) (by kernel_rfl) (fun _ _ _ _ h => h) (by kernel_rfl) (fun K hK => ?_)
           go_simp
           (refine hK _ ?_; clear hK K))
        refine v_rest ?_
        have HX0 := Lib.hid (Ext.drew (X2.out.trans HZ.out))
        have HW0 := Lib.hid (Ext.drew HZ.out)
        have HKZ := Lib.hid (show ∀ k ∈ K, k < z.val.drew.heap.size from fun k hk => Nat.lt_of_lt_of_le (HK.out k hk) HX0.out.size)
        clear HZ
        generalize z.val.drew = Z at *
        refine v_app3 (m := 1) (te := 98) (csA := #[]) (csC := (eC (to, n)).toArray) (iA := 0) (iB := 4) (iC := 7) (iD := 8) (iE := 12)
          (fun v w' => WR eC 2 w' Z.heap.size 98 v ([] : List (List UInt8 × Nat))) (fun v w' => WR eC 2 w' Z.heap.size 98 v (([] : List (List UInt8 × Nat)) ++ [(to, n)])) (fun v w' => WR eC 2 w' Z.heap.size 98 v (([] : List (List UInt8 × Nat)) ++ [(to, n)] ++ ([] : List (List UInt8 × Nat))))
          rfl rfl rfl rfl rfl rfl rfl rfl rfl rfl (fun d h => by cases h; decide) (fun d h => by cases h; decide)
          (by kernel_rfl) (by kernel_rfl) (by kernel_rfl) (by kernel_rfl) (by kernel_rfl) (by kernel_rfl) (by kernel_rfl) (by kernel_rfl) (by kernel_rfl) (by decide) (by decide)
          (fun v w w' h hx => h.ext hx)
          (fun u => ⟨BsAt.of (vs := #[]) 30 #[] rfl rfl run_bs0n, BsAt.of (vs := #[]) 30 #[] rfl rfl run_bs0n⟩)
          (fun gA u a' ha w' hx hle hb => ?_)
          (fun gA v a' ha => ?_)
          (fun gA gC v w' hx h1 hb => ?_)
          (fun gA gC v1 v2 w' hx h2 => ?_)
          (fun v w w' h hx => h.ext hx)
          (fun gA gC v1 v2 v3 w' hx h3 => ?_)
        · obtain ⟨v', w'', p1, p2, p3⟩ := WR.app0 (B := Z.heap.size) eC_len (by decide) eC_one hb hle (RB.out w' (HW0.out.trans hx)) hx.le (P := Tryz.prog) (t := 30) Tryz.underlying30 rentry_info rfl (by have := HLs.out; omega) (by have := HLs.out; unfold maxLen; omega)
          refine ⟨v', w'', ?_, p3, p2⟩
          rcases ha with rfl | rfl <;> exact exec_app (.tmp 40) (.tmp 43) 30 rfl rfl rfl rfl p1
        · rcases ha with rfl | rfl | rfl <;> exact BsAt.of (vs := #[(0, .agg (eC (to, n)).toArray)]) 30 _ rfl rfl (run_bs1e (to, n))
        · obtain ⟨v', w'', p1, p2, p3, _⟩ := WR.app1 eC_len (by decide) eC_one h1 hb hx.le (P := Tryz.prog) (t := 30) Tryz.underlying30 rentry_info rfl (by have := HLs.out; omega) (by have := HLs.out; unfold maxLen; omega)
          exact ⟨v', w'', exec_app (.tmp 44) (.tmp 47) 30 rfl rfl rfl rfl p1, Below.trans hx (h1.belowO hx.le p3), p2⟩
        · obtain ⟨v', w'', p1, p2, p3⟩ := WR.appS eC_len (by decide) eC_one h2 (RC.out w' (HW0.out.trans hx)) hx.le (P := Tryz.prog) (t := 30) Tryz.underlying30 rentry_info rfl (by rw [List.length_append, List.length_singleton]; have := HLs.out; omega) (by rw [List.length_append, List.length_singleton]; have := HLs.out; unfold maxLen; omega)
          exact ⟨v', w'', exec_app (.tmp 48) (.tmp 51) 30 rfl rfl rfl rfl p1, Below.trans hx (h2.belowO hx.le p3), p2⟩
        · have HX := Lib.hid (HX0.out.trans hx)
          have H3 := Lib.hid h3
          obtain ⟨a3, c3, e3, _, _⟩ := WR.shape eC_len h3
          generalize (([] : List (List UInt8 × Nat)) ++ [(to, n)] ++ ([] : List (List UInt8 × Nat))).length = N3 at e3
          subst e3
          clear hx h3 RB RC HX0 HW0 RTZ
          refine v_one 13 (by kernel_rfl) rfl (by kernel_rfl) fun y1 K hK => ?_
          go_simp
          refine hK _ _ (fun _ => Ext.refl _) ?_
          clear hK K
          refine v_done (by kernel_rfl) fun y3 => ?_
          go_wp2
          all_goals
            go_ret
            have hxx := y1.ext.trans y3.ext
            exact ⟨_, rfl, by rw [EP.out, ← IE.out]; exact WR.rk eC_len (H3.out.ext hxx) HKZ.out, HX.out.trans hxx⟩
    ·
      clear r2
      go_wp2_with fail
      go_loopw [5] (fun i wr => ∃ k : Nat, i = .int .i64 (k : Int) ∧ k ≤ l2.length ∧ RowKit.Hid (∀ j x, j < k → l2[j]? = some x → bytesBefore x.1 to = true) ∧ Ext w2 wr) (fun i _ => l2.length - (intOf i).toNat)
      case atStart => exact ⟨0, rfl, Nat.zero_le _, Lib.hid (fun j x hj => by omega), Ext.refl _⟩
      case round =>
        obtain ⟨k, rfl, hk, HB, hx⟩ := hrel
        have HX := Lib.hid hx
        have T1 : ∀ x : Up wr, x.val.cell? ⟨w.heap.size, 1, none⟩ = some (.string (S to)) := up_cell ((B2.out.ext hx).cell 1)
        by_cases hlt : k < l2.length
        · have hI : (k : Int) < (l2.length : Int) := by omega
          obtain ⟨x, hxk⟩ : ∃ x, l2[k]? = some x := ⟨_, List.getElem?_eq_getElem hlt⟩
          obtain ⟨a', c', e', _, hs'⟩ := WR.shape eC_len (R2.out.ext hx)
          injection e' with e1 e2 e3
          subst e1
          obtain ⟨g', e1, _, _, hr, _⟩ := hs' (by omega)
          injection e1 with e1
          injection e1 with e1
          subst e1
          have T2 : ∀ y : Up wr, y.val.cell? ⟨g2, k * 2, none⟩ = some (.string (S x.1)) := up_cell (by have := hr k x hxk 0 _ rfl; rwa [Nat.add_zero] at this)
          have HKM := Lib.hid hlt
          by_cases hb : bytesBefore x.1 to = true
          · have HB2 := Lib.hid (show ∀ j y, j < k + 1 → l2[j]? = some y → bytesBefore y.1 to = true from fun j y hj hy => by
              rcases Nat.lt_or_ge j k with h1 | h1
              · exact HB.out j y h1 hy
              · obtain rfl : j = k := by omega
                rw [hxk] at hy; injection hy with hy; exact hy ▸ hb)
            have hbl : Op.bytesLess x.1 to = true := (less_before _ _).trans hb
            clear hr hxk hx hlt hk HB hs' hb e2 e3
            obtain ⟨xs, xn⟩ := x
            dsimp only at *
            go_wp2
            refine wp_region_up (by kernel_rfl) (by kernel_rfl) ?_
            repeat (go_big_quiet_step (fail))
            refine wpQuiet_nil ?_
            rintro _ ⟨z, rfl⟩
            have HZ := Lib.hid (HX.out.trans z.ext)
            go_wp2
            go_roundw
            case rel => exact ⟨k + 1, by go_num, by have := HKM.out; omega, HB2, HZ.out⟩
            case measure => simp [intOf]; have := HKM.out; omega
          · have IE := Lib.hid (ins_eq (n := n) hk HB.out (fun y hy => by rw [hxk] at hy; injection hy with hy; exact hy ▸ hb) NE.out)
            have hbl : Op.bytesLess x.1 to = false := (less_before _ _).trans (by simpa using hb)
            clear hr hxk hx HB hs' hb e2 e3
            obtain ⟨xs, xn⟩ := x
            dsimp only at *
            go_wp2
            refine wp_region_up (by kernel_rfl) (by kernel_rfl) ?_
            repeat (go_big_quiet_step (fail))
            refine wpQuiet_nil ?_
            rintro _ ⟨z, rfl⟩
            have HZ := Lib.hid (HX.out.trans z.ext)
            clear T1 T2 HX
            have hkc : (k : Int) ≤ (c2 : Int) := by omega
            have hkl : (k : Int) ≤ (l2.length : Int) := by omega
            have HLs := Lib.hid (show (l2.take k).length + 1 + (l2.drop k).length ≤ 1000001 by rw [List.length_take, List.length_drop]; omega)
            have RB := Lib.hid (show ∀ W, Ext w2 W → RR eC 2 W (.slice (some ⟨g2, 0, none⟩) k c2) (l2.take k) from fun W x => RR.take (WR.rr eC_len (R2.out.ext x)) k (by omega))
            have RC := Lib.hid (show ∀ W, Ext w2 W → RR eC 2 W (.slice (if c2 = k then some ⟨g2, 0, none⟩ else some ⟨g2, k * 2, none⟩) (l2.length - k) (c2 - k)) (l2.drop k) from fun W x => by
              refine RR.drop (WR.rr eC_len (R2.out.ext x)) k (by omega) _ (fun g' o' e hlt => ?_) (fun e => ?_)
              · injection e with e; injection e with e1 e2; subst e1; subst e2
                rw [if_neg (by omega), Nat.zero_add]
              · split at e <;> cases e)
            go_wp2_with fail
            refine wp_region_v [9, 10, 11] _ rfl (by kernel_rfl) ?_
            dsimp only [List.length_cons, List.length_nil]
            have RTZ := Lib.hid (rangeAt_ext RT.out HZ.out.drew)
            refine v_late ?_
            iterate 3
              (refine v_want (by kernel_rfl) (by kernel_rfl) (by kernel_rfl) (fun _ _ _ _ h => h) (by kernel_rfl) (by kernel_rfl) (fun K hK => ?_)
               go_simp
               (refine hK _ ?_; clear hK K))
            refine v_late ?_
            refine v_want (by kernel_rfl) (by kernel_rfl) (by kernel_rfl) (fun _ _ _ _ h => h) (by kernel_rfl) (by kernel_rfl) (fun K hK => ?_)
            go_simp
            (refine hK _ ?_; clear hK K)
            refine v_load_mid (by kernel_rfl) (by kernel_rfl) (by kernel_rfl) (fun _ _ _ _ h => h) (by kernel_rfl) (by kernel_rfl) 98 (.tmp 45) rfl rfl RTZ.out Tryz.underlying98 rfl rentry_size ?_
            dsimp only [Act.put]
            simp only [List.setIfInBounds_toArray, List.set_cons_succ, List.set_cons_zero]
            refine v_late ?_
            refine v_late ?_
            iterate 3
              (refine v_pure (by kernel_rfl) (by kernel_rfl) (by kernel_rfl) (fun _ _ _ _ h => h) (by kernel_rfl) (fun K hK => ?_)
               go_simp
               (refine hK _ ?_; clear hK K))
            refine v_rest ?_
            have HX0 := Lib.hid (Ext.drew (X2.out.trans HZ.out))
            have HW0 := Lib.hid (Ext.drew HZ.out)
            have HKZ := Lib.hid (show ∀ k ∈ K, k < z.val.drew.heap.size from fun k hk => Nat.lt_of_lt_of_le (HK.out k hk) HX0.out.size)
            clear HZ
            generalize z.val.drew = Z at *
            refine v_app3 (m := 1) (te := 98) (csA := #[]) (csC := (eC (to, n)).toArray) (iA := 0) (iB := 4) (iC := 7) (iD := 8) (iE := 12)
              (fun v w' => WR eC 2 w' Z.heap.size 98 v (l2.take k)) (fun v w' => WR eC 2 w' Z.heap.size 98 v ((l2.take k) ++ [(to, n)])) (fun v w' => WR eC 2 w' Z.heap.size 98 v ((l2.take k) ++ [(to, n)] ++ l2.drop k))
              rfl rfl rfl rfl rfl rfl rfl rfl rfl rfl (fun d h => by cases h; decide) (fun d h => by cases h; decide)
              (by kernel_rfl) (by kernel_rfl) (by kernel_rfl) (by kernel_rfl) (by kernel_rfl) (by kernel_rfl) (by kernel_rfl) (by kernel_rfl) (by kernel_rfl) (by decide) (by decide)
              (fun v w w' h hx => h.ext hx)
              (fun u => ⟨BsAt.of (vs := #[]) 30 #[] rfl rfl run_bs0n, BsAt.of (vs := #[]) 30 #[] rfl rfl run_bs0n⟩)
              (fun gA u a' ha w' hx hle hb => ?_)
              (fun gA v a' ha => ?_)
              (fun gA gC v w' hx h1 hb => ?_)
              (fun gA gC v1 v2 w' hx h2 => ?_)
              (fun v w w' h hx => h.ext hx)
              (fun gA gC v1 v2 v3 w' hx h3 => ?_)
            · obtain ⟨v', w'', p1, p2, p3⟩ := WR.app0 (B := Z.heap.size) eC_len (by decide) eC_one hb hle (RB.out w' (HW0.out.trans hx)) hx.le (P := Tryz.prog) (t := 30) Tryz.underlying30 rentry_info rfl (by have := HLs.out; omega) (by have := HLs.out; unfold maxLen; omega)
              refine ⟨v', w'', ?_, p3, p2⟩
              rcases ha with rfl | rfl <;> exact exec_app (.tmp 40) (.tmp 43) 30 rfl rfl rfl rfl p1
            · rcases ha with rfl | rfl | rfl <;> exact BsAt.of (vs := #[(0, .agg (eC (to, n)).toArray)]) 30 _ rfl rfl (run_bs1e (to, n))
            · obtain ⟨v', w'', p1, p2, p3, _⟩ := WR.app1 eC_len (by decide) eC_one h1 hb hx.le (P := Tryz.prog) (t := 30) Tryz.underlying30 rentry_info rfl (by have := HLs.out; omega) (by have := HLs.out; unfold maxLen; omega)
              exact ⟨v', w'', exec_app (.tmp 44) (.tmp 47) 30 rfl rfl rfl rfl p1, Below.trans hx (h1.belowO hx.le p3), p2⟩
            · obtain ⟨v', w'', p1, p2, p3⟩ := WR.appS eC_len (by decide) eC_one h2 (RC.out w' (HW0.out.trans hx)) hx.le (P := Tryz.prog) (t := 30) Tryz.underlying30 rentry_info rfl (by rw [List.length_append, List.length_singleton]; have := HLs.out; omega) (by rw [List.length_append, List.length_singleton]; have := HLs.out; unfold maxLen; omega)
              exact ⟨v', w'', exec_app (.tmp 48) (.tmp 51) 30 rfl rfl rfl rfl p1, Below.trans hx (h2.belowO hx.le p3), p2⟩
            · have HX := Lib.hid (HX0.out.trans hx)
              have H3 := Lib.hid h3
              obtain ⟨a3, c3, e3, _, _⟩ := WR.shape eC_len h3
              generalize ((l2.take k) ++ [(to, n)] ++ l2.drop k).length = N3 at e3
              subst e3
              clear hx h3 RB RC HX0 HW0 RTZ
              refine v_one 13 (by kernel_rfl) rfl (by kernel_rfl) fun y1 K hK => ?_
              go_simp
              refine hK _ _ (fun _ => Ext.refl _) ?_
              clear hK K
              refine v_done (by kernel_rfl) fun y3 => ?_
              go_wp2
              all_goals
                go_ret
                have hxx := y1.ext.trans y3.ext
                exact ⟨_, rfl, by rw [EP.out, ← IE.out]; exact WR.rk eC_len (H3.out.ext hxx) HKZ.out, HX.out.trans hxx⟩
        · have hke : l2.length ≤ k := by omega
          have hIe : (l2.length : Int) ≤ (k : Int) := by omega
          have IE := Lib.hid (ins_eq (n := n) hk HB.out (fun y hy => by rw [List.getElem?_eq_none hke] at hy; cases hy) NE.out)
          clear hx HB
          go_wp2
          refine wp_region_up (by kernel_rfl) (by kernel_rfl) ?_
          repeat (go_big_quiet_step (fail))
          refine wpQuiet_nil ?_
          rintro _ ⟨z, rfl⟩
          have HZ := Lib.hid (HX.out.trans z.ext)
          clear T1 HX hke hIe hlt
          have hkc : (k : Int) ≤ (c2 : Int) := by omega
          have hkl : (k : Int) ≤ (l2.length : Int) := by omega
          have HLs := Lib.hid (show (l2.take k).length + 1 + (l2.drop k).length ≤ 1000001 by rw [List.length_take, List.length_drop]; omega)
          have RB := Lib.hid (show ∀ W, Ext w2 W → RR eC 2 W (.slice (some ⟨g2, 0, none⟩) k c2) (l2.take k) from fun W x => RR.take (WR.rr eC_len (R2.out.ext x)) k (by omega))
          have RC := Lib.hid (show ∀ W, Ext w2 W → RR eC 2 W (.slice (if c2 = k then some ⟨g2, 0, none⟩ else some ⟨g2, k * 2, none⟩) (l2.length - k) (c2 - k)) (l2.drop k) from fun W x => by
            refine RR.drop (WR.rr eC_len (R2.out.ext x)) k (by omega) _ (fun g' o' e hlt => ?_) (fun e => ?_)
            · injection e with e; injection e with e1 e2; subst e1; subst e2
              rw [if_neg (by omega), Nat.zero_add]
            · split at e <;> cases e)
          go_wp2_with fail
          refine wp_region_v [9, 10, 11] _ rfl (by kernel_rfl) ?_
          dsimp only [List.length_cons, List.length_nil]
          have RTZ := Lib.hid (rangeAt_ext RT.out HZ.out.drew)
          refine v_late ?_
          iterate 3
            (refine v_want (by kernel_rfl) (by kernel_rfl) (by kernel_rfl) (fun _ _ _ _ h => h) (by kernel_rfl) (by kernel_rfl) (fun K hK => ?_)
             go_simp
             (refine hK _ ?_; clear hK K))
          refine v_late ?_
          refine v_want (by kernel_rfl) (by kernel_rfl) (by kernel_rfl) (fun _ _ _ _ h => h) (by kernel_rfl) (by kernel_rfl) (fun K hK => ?_)
          go_simp
          (refine hK _ ?_; clear hK K)
          refine v_load_mid (by kernel_rfl) (by kernel_rfl) (by kernel_rfl) (fun _ _ _ _ h => h) (by kernel_rfl) (by kernel_rfl) 98 (.tmp 45) rfl rfl RTZ.out Tryz.underlying98 rfl rentry_size ?_
          dsimp only [Act.put]
          simp only [List.setIfInBounds_toArray, List.set_cons_succ, List.set_cons_zero]
          refine v_late ?_
          refine v_late ?_
          iterate 3
            (refine v_pure (by kernel_rfl) (by kernel_rfl) (by kernel_rfl) (fun _ _ _ _ h => h) (by kernel_rfl) (fun K hK => ?_)
             go_simp
             (refine hK _ ?_; clear hK K))
          refine v_rest ?_
          have HX0 := Lib.hid (Ext.drew (X2.out.trans HZ.out))
          have HW0 := Lib.hid (Ext.drew HZ.out)
          have HKZ := Lib.hid (show ∀ k ∈ K, k < z.val.drew.heap.size from fun k hk => Nat.lt_of_lt_of_le (HK.out k hk) HX0.out.size)
          clear HZ
          generalize z.val.drew = Z at *
          refine v_app3 (m := 1) (te := 98) (csA := #[]) (csC := (eC (to, n)).toArray) (iA := 0) (iB := 4) (iC := 7) (iD := 8) (iE := 12)
            (fun v w' => WR eC 2 w' Z.heap.size 98 v (l2.take k)) (fun v w' => WR eC 2 w' Z.heap.size 98 v ((l2.take k) ++ [(to, n)])) (fun v w' => WR eC 2 w' Z.heap.size 98 v ((l2.take k) ++ [(to, n)] ++ l2.drop k))
            rfl rfl rfl rfl rfl rfl rfl rfl rfl rfl (fun d h => by cases h; decide) (fun d h => by cases h; decide)
            (by kernel_rfl) (by kernel_rfl) (by kernel_rfl) (by kernel_rfl) (by kernel_rfl) (by kernel_rfl) (by kernel_rfl) (by kernel_rfl) (by kernel_rfl) (by decide) (by decide)
            (fun v w w' h hx => h.ext hx)
            (fun u => ⟨BsAt.of (vs := #[]) 30 #[] rfl rfl run_bs0n, BsAt.of (vs := #[]) 30 #[] rfl rfl run_bs0n⟩)
            (fun gA u a' ha w' hx hle hb => ?_)
            (fun gA v a' ha => ?_)
            (fun gA gC v w' hx h1 hb => ?_)
            (fun gA gC v1 v2 w' hx h2 => ?_)
            (fun v w w' h hx => h.ext hx)
            (fun gA gC v1 v2 v3 w' hx h3 => ?_)
          · obtain ⟨v', w'', p1, p2, p3⟩ := WR.app0 (B := Z.heap.size) eC_len (by decide) eC_one hb hle (RB.out w' (HW0.out.trans hx)) hx.le (P := Tryz.prog) (t := 30) Tryz.underlying30 rentry_info rfl (by have := HLs.out; omega) (by have := HLs.out; unfold maxLen; omega)
            refine ⟨v', w'', ?_, p3, p2⟩
            rcases ha with rfl | rfl <;> exact exec_app (.tmp 40) (.tmp 43) 30 rfl rfl rfl rfl p1
          · rcases ha with rfl | rfl | rfl <;> exact BsAt.of (vs := #[(0, .agg (eC (to, n)).toArray)]) 30 _ rfl rfl (run_bs1e (to, n))
          · obtain ⟨v', w'', p1, p2, p3, _⟩ := WR.app1 eC_len (by decide) eC_one h1 hb hx.le (P := Tryz.prog) (t := 30) Tryz.underlying30 rentry_info rfl (by have := HLs.out; omega) (by have := HLs.out; unfold maxLen; omega)
            exact ⟨v', w'', exec_app (.tmp 44) (.tmp 47) 30 rfl rfl rfl rfl p1, Below.trans hx (h1.belowO hx.le p3), p2⟩
          · obtain ⟨v', w'', p1, p2, p3⟩ := WR.appS eC_len (by decide) eC_one h2 (RC.out w' (HW0.out.trans hx)) hx.le (P := Tryz.prog) (t := 30) Tryz.underlying30 rentry_info rfl (by rw [List.length_append, List.length_singleton]; have := HLs.out; omega) (by rw [List.length_append, List.length_singleton]; have := HLs.out; unfold maxLen; omega)
            exact ⟨v', w'', exec_app (.tmp 48) (.tmp 51) 30 rfl rfl rfl rfl p1, Below.trans hx (h2.belowO hx.le p3), p2⟩
          · have HX := Lib.hid (HX0.out.trans hx)
            have H3 := Lib.hid h3
            obtain ⟨a3, c3, e3, _, _⟩ := WR.shape eC_len h3
            generalize ((l2.take k) ++ [(to, n)] ++ l2.drop k).length = N3 at e3
            subst e3
            clear hx h3 RB RC HX0 HW0 RTZ
            refine v_one 13 (by kernel_rfl) rfl (by kernel_rfl) fun y1 K hK => ?_
            go_simp
            refine hK _ _ (fun _ => Ext.refl _) ?_
            clear hK K
            refine v_done (by kernel_rfl) fun y3 => ?_
            go_wp2
            all_goals
              go_ret
              have hxx := y1.ext.trans y3.ext
              exact ⟨_, rfl, by rw [EP.out, ← IE.out]; exact WR.rk eC_len (H3.out.ext hxx) HKZ.out, HX.out.trans hxx⟩
  · have hb : (fr == []) = false := by simpa using hf
    have E : L1 = dDel fr l := hL1.trans (if_neg hf)
    rw [← E] at Q
    clear hL1 H
    go_enter Tryz.func69, Tryz.ntmps69
    go_wp2_with fail
    refine Q.out.mono ?_
    rintro _ w1 ⟨v1, rfl, r1, x1⟩
    have B1 := Lib.hid (B0.out.ext x1)
    have R1 := Lib.hid (WR.rr eC_len r1)
    have X1 := Lib.hid (X0.out.trans x1)
    have c1 : w1.cell? ⟨w.heap.size, 1, none⟩ = some (.string (S to)) := B1.out.cell 1
    clear r1 x1 E
    have Q2 := Lib.hid (rwithout_any R1.out (by omega) to)
    go_wp2_with fail
    refine Q2.out.mono ?_
    rintro _ w2 ⟨v2, rfl, r2, x2⟩
    have hl2 : (dDel to L1).length ≤ 1000000 := by have := dDel_length to L1; omega
    have NE := Lib.hid (del_ne (s := to) (l := L1))
    have B2 := Lib.hid (B1.out.ext x2)
    have X2 := Lib.hid (X1.out.trans x2)
    have R2 := Lib.hid r2
    have EP := Lib.hid (show RS = dIns (to, n) (dDel to L1) from HRS.out)
    clear x2 Q2 HRS
    generalize dDel to L1 = l2 at *
    have RT := Lib.hid (show w2.rangeAt w.heap.size 1 (eC (to, n)) from fun j u hj => by
      rw [B2.out.cell]
      match j, hj with
      | 0, hj => exact hj
      | 1, hj => exact hj)
    rcases r2.2 with ⟨rfl, h0⟩ | ⟨g2, c2, _, rfl, hg2, _, hc2, _⟩
    · obtain rfl : l2 = [] := List.eq_nil_of_length_eq_zero h0
      clear r2 h0
      go_wp2_with fail
      go_loopw [5] (fun i wr => i = .int .i64 0 ∧ Ext w2 wr) (fun i _ => 0)
      case atStart => exact ⟨rfl, Ext.refl _⟩
      case round =>
        obtain ⟨rfl, hx⟩ := hrel
        have HX := Lib.hid hx
        have T1 : ∀ x : Up wr, x.val.cell? ⟨w.heap.size, 1, none⟩ = some (.string (S to)) := up_cell ((B2.out.ext hx).cell 1)
        clear hx
        go_wp2
        refine wp_region_up (by kernel_rfl) (by kernel_rfl) ?_
        repeat (go_big_quiet_step (fail))
        refine wpQuiet_nil ?_
        rintro _ ⟨z, rfl⟩
        have HZ := Lib.hid (HX.out.trans z.ext)
        have IE := Lib.hid (show ([] : List (List UInt8 × Nat)) ++ [(to, n)] ++ ([] : List (List UInt8 × Nat)) = dIns (to, n) [] from rfl)
        have RB := Lib.hid (fun (W : World) (x : Ext w2 W) => RR.nil (f := eC) (s := 2) W)
        have RC := Lib.hid (fun (W : World) (x : Ext w2 W) => RR.nil (f := eC) (s := 2) W)
        have HLs := Lib.hid (show ([] : List (List UInt8 × Nat)).length + 1 + ([] : List (List UInt8 × Nat)).length ≤ 1000001 by decide)
        clear T1 HX
        go_wp2_with fail
        refine wp_region_v [9, 10, 11] _ rfl (by kernel_rfl) ?_
        dsimp only [List.length_cons, List.length_nil]
        have RTZ := Lib.hid (rangeAt_ext RT.out HZ.out.drew)
        refine v_late ?_
        iterate 3
          (refine v_want (by kernel_rfl) (by kernel_rfl) (by kernel_rfl) (fun _ _ _ _ h => h) (by kernel_rfl) (by kernel_rfl) (fun K hK => ?_)
           go_simp
           (refine hK _ ?_; clear hK K))
        refine v_late ?_
        refine v_want (by kernel_rfl) (by kernel_rfl) (by kernel_rfl) (fun _ _ _ _ h => h) (by kernel_rfl) (by kernel_rfl) (fun K hK => ?_)
        go_simp
        (refine hK _ ?_; clear hK K)
        refine v_load_mid (by kernel_rfl) (by kernel_rfl) (by kernel_rfl) (fun _ _ _ _ h => h) (by kernel_rfl) (by kernel_rfl) 98 (.tmp 45) rfl rfl RTZ.out Tryz.underlying98 rfl rentry_size ?_
        dsimp only [Act.put]
        simp only [List.setIfInBounds_toArray, List.set_cons_succ, List.set_cons_zero]
        refine v_late ?_
        refine v_late ?_
        iterate 3
          (refine v_pure (by kernel_rfl) (by kernel_rfl) (by kernel_rfl) (fun _ _ _ _ h => h) (by kernel_rfl) (fun K hK => ?_)
           go_simp
           (refine hK _ ?_; clear hK K))
        refine v_rest ?_
        have HX0 := Lib.hid (Ext.drew (X2.out.trans HZ.out))
        have HW0 := Lib.hid (Ext.drew HZ.out)
        have HKZ := Lib.hid (show ∀ k ∈ K, k < z.val.drew.heap.size from fun k hk => Nat.lt_of_lt_of_le (HK.out k hk) HX0.out.size)
        clear HZ
        generalize z.val.drew = Z at *
        refine v_app3 (m := 1) (te := 98) (csA := #[]) (csC := (eC (to, n)).toArray) (iA := 0) (iB := 4) (iC := 7) (iD := 8) (iE := 12)
          (fun v w' => WR eC 2 w' Z.heap.size 98 v ([] : List (List UInt8 × Nat))) (fun v w' => WR eC 2 w' Z.heap.size 98 v (([] : List (List UInt8 × Nat)) ++ [(to, n)])) (fun v w' => WR eC 2 w' Z.heap.size 98 v (([] : List (List UInt8 × Nat)) ++ [(to, n)] ++ ([] : List (List UInt8 × Nat))))
          rfl rfl rfl rfl rfl rfl rfl rfl rfl rfl (fun d h => by cases h; decide) (fun d h => by cases h; decide)
          (by kernel_rfl) (by kernel_rfl) (by kernel_rfl) (by kernel_rfl) (by kernel_rfl) (by kernel_rfl) (by kernel_rfl) (by kernel_rfl) (by kernel_rfl) (by decide) (by decide)
          (fun v w w' h hx => h.ext hx)
          (fun u => ⟨BsAt.of (vs := #[]) 30 #[] rfl rfl run_bs0n, BsAt.of (vs := #[]) 30 #[] rfl rfl run_bs0n⟩)
          (fun gA u a' ha w' hx hle hb => ?_)
          (fun gA v a' ha => ?_)
          (fun gA gC v w' hx h1 hb => ?_)
          (fun gA gC v1 v2 w' hx h2 => ?_)
          (fun v w w' h hx => h.ext hx)
          (fun gA gC v1 v2 v3 w' hx h3 => ?_)
        · obtain ⟨v', w'', p1, p2, p3⟩ := WR.app0 (B := Z.heap.size) eC_len (by decide) eC_one hb hle (RB.out w' (HW0.out.trans hx)) hx.le (P := Tryz.prog) (t := 30) Tryz.underlying30 rentry_info rfl (by have := HLs.out; omega) (by have := HLs.out; unfold maxLen; omega)
          refine ⟨v', w'', ?_, p3, p2⟩
          rcases ha with rfl | rfl <;> exact exec_app (.tmp 40) (.tmp 43) 30 rfl rfl rfl rfl p1
        · rcases ha with rfl | rfl | rfl <;> exact BsAt.of (vs := #[(0, .agg (eC (to, n)).toArray)]) 30 _ rfl rfl (run_bs1e (to, n))
        · obtain ⟨v', w'', p1, p2, p3, _⟩ := WR.app1 eC_len (by decide) eC_one h1 hb hx.le (P := Tryz.prog) (t := 30) Tryz.underlying30 rentry_info rfl (by have := HLs.out; omega) (by have := HLs.out; unfold maxLen; omega)
          exact ⟨v', w'', exec_app (.tmp 44) (.tmp 47) 30 rfl rfl rfl rfl p1, Below.trans hx (h1.belowO hx.le p3), p2⟩
        · obtain ⟨v', w'', p1, p2, p3⟩ := WR.appS eC_len (by decide) eC_one h2 (RC.out w' (HW0.out.trans hx)) hx.le (P := Tryz.prog) (t := 30) Tryz.underlying30 rentry_info rfl (by rw [List.length_append, List.length_singleton]; have := HLs.out; omega) (by rw [List.length_append, List.length_singleton]; have := HLs.out; unfold maxLen; omega)
          exact ⟨v', w'', exec_app (.tmp 48) (.tmp 51) 30 rfl rfl rfl rfl p1, Below.trans hx (h2.belowO hx.le p3), p2⟩
        · have HX := Lib.hid (HX0.out.trans hx)
          have H3 := Lib.hid h3
          obtain ⟨a3, c3, e3, _, _⟩ := WR.shape eC_len h3
          generalize (([] : List (List UInt8 × Nat)) ++ [(to, n)] ++ ([] : List (List UInt8 × Nat))).length = N3 at e3
          subst e3
          clear hx h3 RB RC HX0 HW0 RTZ
          refine v_one 13 (by kernel_rfl) rfl (by kernel_rfl) fun y1 K hK => ?_
          go_simp
          refine hK _ _ (fun _ => Ext.refl _) ?_
          clear hK K
          refine v_done (by kernel_rfl) fun y3 => ?_
          go_wp2
          all_goals
            go_ret
            have hxx := y1.ext.trans y3.ext
            exact ⟨_, rfl, by rw [EP.out, ← IE.out]; exact WR.rk eC_len (H3.out.ext hxx) HKZ.out, HX.out.trans hxx⟩
    ·
      clear r2
      go_wp2_with fail
      go_loopw [5] (fun i wr => ∃ k : Nat, i = .int .i64 (k : Int) ∧ k ≤ l2.length ∧ RowKit.Hid (∀ j x, j < k → l2[j]? = some x → bytesBefore x.1 to = true) ∧ Ext w2 wr) (fun i _ => l2.length - (intOf i).toNat)
      case atStart => exact ⟨0, rfl, Nat.zero_le _, Lib.hid (fun j x hj => by omega), Ext.refl _⟩
      case round =>
        obtain ⟨k, rfl, hk, HB, hx⟩ := hrel
        have HX := Lib.hid hx
        have T1 : ∀ x : Up wr, x.val.cell? ⟨w.heap.size, 1, none⟩ = some (.string (S to)) := up_cell ((B2.out.ext hx).cell 1)
        by_cases hlt : k < l2.length
        · have hI : (k : Int) < (l2.length : Int) := by omega
          obtain ⟨x, hxk⟩ : ∃ x, l2[k]? = some x := ⟨_, List.getElem?_eq_getElem hlt⟩
          obtain ⟨a', c', e', _, hs'⟩ := WR.shape eC_len (R2.out.ext hx)
          injection e' with e1 e2 e3
          subst e1
          obtain ⟨g', e1, _, _, hr, _⟩ := hs' (by omega)
          injection e1 with e1
          injection e1 with e1
          subst e1
          have T2 : ∀ y : Up wr, y.val.cell? ⟨g2, k * 2, none⟩ = some (.string (S x.1)) := up_cell (by have := hr k x hxk 0 _ rfl; rwa [Nat.add_zero] at this)
          have HKM := Lib.hid hlt
          by_cases hb : bytesBefore x.1 to = true
          · have HB2 := Lib.hid (show ∀ j y, j < k + 1 → l2[j]? = some y → bytesBefore y.1 to = true from fun j y hj hy => by
              rcases Nat.lt_or_ge j k with h1 | h1
              · exact HB.out j y h1 hy
              · obtain rfl : j = k := by omega
                rw [hxk] at hy; injection hy with hy; exact hy ▸ hb)
            have hbl : Op.bytesLess x.1 to = true := (less_before _ _).trans hb
            clear hr hxk hx hlt hk HB hs' hb e2 e3
            obtain ⟨xs, xn⟩ := x
            dsimp only at *
            go_wp2
            refine wp_region_up (by kernel_rfl) (by kernel_rfl) ?_
            repeat (go_big_quiet_step (fail))
            refine wpQuiet_nil ?_
            rintro _ ⟨z, rfl⟩
            have HZ := Lib.hid (HX.out.trans z.ext)
            go_wp2
            go_roundw
            case rel => exact ⟨k + 1, by go_num, by have := HKM.out; omega, HB2, HZ.out⟩
            case measure => simp [intOf]; have := HKM.out; omega
          · have IE := Lib.hid (ins_eq (n := n) hk HB.out (fun y hy => by rw [hxk] at hy; injection hy with hy; exact hy ▸ hb) NE.out)
            have hbl : Op.bytesLess x.1 to = false := (less_before _ _).trans (by simpa using hb)
            clear hr hxk hx HB hs' hb e2 e3
            obtain ⟨xs, xn⟩ := x
            dsimp only at *
            go_wp2
            refine wp_region_up (by kernel_rfl) (by kernel_rfl) ?_
            repeat (go_big_quiet_step (fail))
            refine wpQuiet_nil ?_
            rintro _ ⟨z, rfl⟩
            have HZ := Lib.hid (HX.out.trans z.ext)
            clear T1 T2 HX
            have hkc : (k : Int) ≤ (c2 : Int) := by omega
            have hkl : (k : Int) ≤ (l2.length : Int) := by omega
            have HLs := Lib.hid (show (l2.take k).length + 1 + (l2.drop k).length ≤ 1000001 by rw [List.length_take, List.length_drop]; omega)
            have RB := Lib.hid (show ∀ W, Ext w2 W → RR eC 2 W (.slice (some ⟨g2, 0, none⟩) k c2) (l2.take k) from fun W x => RR.take (WR.rr eC_len (R2.out.ext x)) k (by omega))
            have RC := Lib.hid (show ∀ W, Ext w2 W → RR eC 2 W (.slice (if c2 = k then some ⟨g2, 0, none⟩ else some ⟨g2, k * 2, none⟩) (l2.length - k) (c2 - k)) (l2.drop k) from fun W x => by
              refine RR.drop (WR.rr eC_len (R2.out.ext x)) k (by omega) _ (fun g' o' e hlt => ?_) (fun e => ?_)
              · injection e with e; injection e with e1 e2; subst e1; subst e2
                rw [if_neg (by omega), Nat.zero_add]
              · split at e <;> cases e)
            go_wp2_with fail
            refine wp_region_v [9, 10, 11] _ rfl (by kernel_rfl) ?_
            dsimp only [List.length_cons, List.length_nil]
            have RTZ := Lib.hid (rangeAt_ext RT.out HZ.out.drew)
            refine v_late ?_
            iterate 3
              (refine v_want (by kernel_rfl) (by kernel_rfl) (by kernel_rfl) (fun _ _ _ _ h => h) (by kernel_rfl) (by kernel_rfl) (fun K hK => ?_)
               go_simp
               (refine hK _ ?_; clear hK K))
            refine v_late ?_
            refine v_want (by kernel_rfl) (by kernel_rfl) (by kernel_rfl) (fun _ _ _ _ h => h) (by kernel_rfl) (by kernel_rfl) (fun K hK => ?_)
            go_simp
            (refine hK _ ?_; clear hK K)
            refine v_load_mid (by kernel_rfl) (by kernel_rfl) (by kernel_rfl) (fun _ _ _ _ h => h) (by kernel_rfl) (by kernel_rfl) 98 (.tmp 45) rfl rfl RTZ.out Tryz.underlying98 rfl rentry_size ?_
            dsimp only [Act.put]
            simp only [List.setIfInBounds_toArray, List.set_cons_succ, List.set_cons_zero]
            refine v_late ?_
            refine v_late ?_
            iterate 3
              (refine v_pure (by kernel_rfl) (by kernel_rfl) (by kernel_rfl) (fun _ _ _ _ h => h) (by kernel_rfl) (fun K hK => ?_)
               go_simp
               (refine hK _ ?_; clear hK K))
            refine v_rest ?_
            have HX0 := Lib.hid (Ext.drew (X2.out.trans HZ.out))
            have HW0 := Lib.hid (Ext.drew HZ.out)
            have HKZ := Lib.hid (show ∀ k ∈ K, k < z.val.drew.heap.size from fun k hk => Nat.lt_of_lt_of_le (HK.out k hk) HX0.out.size)
            clear HZ
            generalize z.val.drew = Z at *
            refine v_app3 (m := 1) (te := 98) (csA := #[]) (csC := (eC (to, n)).toArray) (iA := 0) (iB := 4) (iC := 7) (iD := 8) (iE := 12)
              (fun v w' => WR eC 2 w' Z.heap.size 98 v (l2.take k)) (fun v w' => WR eC 2 w' Z.heap.size 98 v ((l2.take k) ++ [(to, n)])) (fun v w' => WR eC 2 w' Z.heap.size 98 v ((l2.take k) ++ [(to, n)] ++ l2.drop k))
              rfl rfl rfl rfl rfl rfl rfl rfl rfl rfl (fun d h => by cases h; decide) (fun d h => by cases h; decide)
              (by kernel_rfl) (by kernel_rfl) (by kernel_rfl) (by kernel_rfl) (by kernel_rfl) (by kernel_rfl) (by kernel_rfl) (by kernel_rfl) (by kernel_rfl) (by decide) (by decide)
              (fun v w w' h hx => h.ext hx)
              (fun u => ⟨BsAt.of (vs := #[]) 30 #[] rfl rfl run_bs0n, BsAt.of (vs := #[]) 30 #[] rfl rfl run_bs0n⟩)
              (fun gA u a' ha w' hx hle hb => ?_)
              (fun gA v a' ha => ?_)
              (fun gA gC v w' hx h1 hb => ?_)
              (fun gA gC v1 v2 w' hx h2 => ?_)
              (fun v w w' h hx => h.ext hx)
              (fun gA gC v1 v2 v3 w' hx h3 => ?_)
            · obtain ⟨v', w'', p1, p2, p3⟩ := WR.app0 (B := Z.heap.size) eC_len (by decide) eC_one hb hle (RB.out w' (HW0.out.trans hx)) hx.le (P := Tryz.prog) (t := 30) Tryz.underlying30 rentry_info rfl (by have := HLs.out; omega) (by have := HLs.out; unfold maxLen; omega)
              refine ⟨v', w'', ?_, p3, p2⟩
              rcases ha with rfl | rfl <;> exact exec_app (.tmp 40) (.tmp 43) 30 rfl rfl rfl rfl p1
            · rcases ha with rfl | rfl | rfl <;> exact BsAt.of (vs := #[(0, .agg (eC (to, n)).toArray)]) 30 _ rfl rfl (run_bs1e (to, n))
            · obtain ⟨v', w'', p1, p2, p3, _⟩ := WR.app1 eC_len (by decide) eC_one h1 hb hx.le (P := Tryz.prog) (t := 30) Tryz.underlying30 rentry_info rfl (by have := HLs.out; omega) (by have := HLs.out; unfold maxLen; omega)
              exact ⟨v', w'', exec_app (.tmp 44) (.tmp 47) 30 rfl rfl rfl rfl p1, Below.trans hx (h1.belowO hx.le p3), p2⟩
            · obtain ⟨v', w'', p1, p2, p3⟩ := WR.appS eC_len (by decide) eC_one h2 (RC.out w' (HW0.out.trans hx)) hx.le (P := Tryz.prog) (t := 30) Tryz.underlying30 rentry_info rfl (by rw [List.length_append, List.length_singleton]; have := HLs.out; omega) (by rw [List.length_append, List.length_singleton]; have := HLs.out; unfold maxLen; omega)
              exact ⟨v', w'', exec_app (.tmp 48) (.tmp 51) 30 rfl rfl rfl rfl p1, Below.trans hx (h2.belowO hx.le p3), p2⟩
            · have HX := Lib.hid (HX0.out.trans hx)
              have H3 := Lib.hid h3
              obtain ⟨a3, c3, e3, _, _⟩ := WR.shape eC_len h3
              generalize ((l2.take k) ++ [(to, n)] ++ l2.drop k).length = N3 at e3
              subst e3
              clear hx h3 RB RC HX0 HW0 RTZ
              refine v_one 13 (by kernel_rfl) rfl (by kernel_rfl) fun y1 K hK => ?_
              go_simp
              refine hK _ _ (fun _ => Ext.refl _) ?_
              clear hK K
              refine v_done (by kernel_rfl) fun y3 => ?_
              go_wp2
              all_goals
                go_ret
                have hxx := y1.ext.trans y3.ext
                exact ⟨_, rfl, by rw [EP.out, ← IE.out]; exact WR.rk eC_len (H3.out.ext hxx) HKZ.out, HX.out.trans hxx⟩
        · have hke : l2.length ≤ k := by omega
          have hIe : (l2.length : Int) ≤ (k : Int) := by omega
          have IE := Lib.hid (ins_eq (n := n) hk HB.out (fun y hy => by rw [List.getElem?_eq_none hke] at hy; cases hy) NE.out)
          clear hx HB
          go_wp2
          refine wp_region_up (by kernel_rfl) (by kernel_rfl) ?_
          repeat (go_big_quiet_step (fail))
          refine wpQuiet_nil ?_
          rintro _ ⟨z, rfl⟩
          have HZ := Lib.hid (HX.out.trans z.ext)
          clear T1 HX hke hIe hlt
          have hkc : (k : Int) ≤ (c2 : Int) := by omega
          have hkl : (k : Int) ≤ (l2.length : Int) := by omega
          have HLs := Lib.hid (show (l2.take k).length + 1 + (l2.drop k).length ≤ 1000001 by rw [List.length_take, List.length_drop]; omega)
          have RB := Lib.hid (show ∀ W, Ext w2 W → RR eC 2 W (.slice (some ⟨g2, 0, none⟩) k c2) (l2.take k) from fun W x => RR.take (WR.rr eC_len (R2.out.ext x)) k (by omega))
          have RC := Lib.hid (show ∀ W, Ext w2 W → RR eC 2 W (.slice (if c2 = k then some ⟨g2, 0, none⟩ else some ⟨g2, k * 2, none⟩) (l2.length - k) (c2 - k)) (l2.drop k) from fun W x => by
            refine RR.drop (WR.rr eC_len (R2.out.ext x)) k (by omega) _ (fun g' o' e hlt => ?_) (fun e => ?_)
            · injection e with e; injection e with e1 e2; subst e1; subst e2
              rw [if_neg (by omega), Nat.zero_add]
            · split at e <;> cases e)
          go_wp2_with fail
          refine wp_region_v [9, 10, 11] _ rfl (by kernel_rfl) ?_
          dsimp only [List.length_cons, List.length_nil]
          have RTZ := Lib.hid (rangeAt_ext RT.out HZ.out.drew)
          refine v_late ?_
          iterate 3
            (refine v_want (by kernel_rfl) (by kernel_rfl) (by kernel_rfl) (fun _ _ _ _ h => h) (by kernel_rfl) (by kernel_rfl) (fun K hK => ?_)
             go_simp
             (refine hK _ ?_; clear hK K))
          refine v_late ?_
          refine v_want (by kernel_rfl) (by kernel_rfl) (by kernel_rfl) (fun _ _ _ _ h => h) (by kernel_rfl) (by kernel_rfl) (fun K hK => ?_)
          go_simp
          (refine hK _ ?_; clear hK K)
          refine v_load_mid (by kernel_rfl) (by kernel_rfl) (by kernel_rfl) (fun _ _ _ _ h => h) (by kernel_rfl) (by kernel_rfl) 98 (.tmp 45) rfl rfl RTZ.out Tryz.underlying98 rfl rentry_size ?_
          dsimp only [Act.put]
          simp only [List.setIfInBounds_toArray, List.set_cons_succ, List.set_cons_zero]
          refine v_late ?_
          refine v_late ?_
          iterate 3
            (refine v_pure (by kernel_rfl) (by kernel_rfl) (by kernel_rfl) (fun _ _ _ _ h => h) (by kernel_rfl) (fun K hK => ?_)
             go_simp
             (refine hK _ ?_; clear hK K))
          refine v_rest ?_
          have HX0 := Lib.hid (Ext.drew (X2.out.trans HZ.out))
          have HW0 := Lib.hid (Ext.drew HZ.out)
          have HKZ := Lib.hid (show ∀ k ∈ K, k < z.val.drew.heap.size from fun k hk => Nat.lt_of_lt_of_le (HK.out k hk) HX0.out.size)
          clear HZ
          generalize z.val.drew = Z at *
          refine v_app3 (m := 1) (te := 98) (csA := #[]) (csC := (eC (to, n)).toArray) (iA := 0) (iB := 4) (iC := 7) (iD := 8) (iE := 12)
            (fun v w' => WR eC 2 w' Z.heap.size 98 v (l2.take k)) (fun v w' => WR eC 2 w' Z.heap.size 98 v ((l2.take k) ++ [(to, n)])) (fun v w' => WR eC 2 w' Z.heap.size 98 v ((l2.take k) ++ [(to, n)] ++ l2.drop k))
            rfl rfl rfl rfl rfl rfl rfl rfl rfl rfl (fun d h => by cases h; decide) (fun d h => by cases h; decide)
            (by kernel_rfl) (by kernel_rfl) (by kernel_rfl) (by kernel_rfl) (by kernel_rfl) (by kernel_rfl) (by kernel_rfl) (by kernel_rfl) (by kernel_rfl) (by decide) (by decide)
            (fun v w w' h hx => h.ext hx)
            (fun u => ⟨BsAt.of (vs := #[]) 30 #[] rfl rfl run_bs0n, BsAt.of (vs := #[]) 30 #[] rfl rfl run_bs0n⟩)
            (fun gA u a' ha w' hx hle hb => ?_)
            (fun gA v a' ha => ?_)
            (fun gA gC v w' hx h1 hb => ?_)
            (fun gA gC v1 v2 w' hx h2 => ?_)
            (fun v w w' h hx => h.ext hx)
            (fun gA gC v1 v2 v3 w' hx h3 => ?_)
          · obtain ⟨v', w'', p1, p2, p3⟩ := WR.app0 (B := Z.heap.size) eC_len (by decide) eC_one hb hle (RB.out w' (HW0.out.trans hx)) hx.le (P := Tryz.prog) (t := 30) Tryz.underlying30 rentry_info rfl (by have := HLs.out; omega) (by have := HLs.out; unfold maxLen; omega)
            refine ⟨v', w'', ?_, p3, p2⟩
            rcases ha with rfl | rfl <;> exact exec_app (.tmp 40) (.tmp 43) 30 rfl rfl rfl rfl p1
          · rcases ha with rfl | rfl | rfl <;> exact BsAt.of (vs := #[(0, .agg (eC (to, n)).toArray)]) 30 _ rfl rfl (run_bs1e (to, n))
          · obtain ⟨v', w'', p1, p2, p3, _⟩ := WR.app1 eC_len (by decide) eC_one h1 hb hx.le (P := Tryz.prog) (t := 30) Tryz.underlying30 rentry_info rfl (by have := HLs.out; omega) (by have := HLs.out; unfold maxLen; omega)
            exact ⟨v', w'', exec_app (.tmp 44) (.tmp 47) 30 rfl rfl rfl rfl p1, Below.trans hx (h1.belowO hx.le p3), p2⟩
          · obtain ⟨v', w'', p1, p2, p3⟩ := WR.appS eC_len (by decide) eC_one h2 (RC.out w' (HW0.out.trans hx)) hx.le (P := Tryz.prog) (t := 30) Tryz.underlying30 rentry_info rfl (by rw [List.length_append, List.length_singleton]; have := HLs.out; omega) (by rw [List.length_append, List.length_singleton]; have := HLs.out; unfold maxLen; omega)
            exact ⟨v', w'', exec_app (.tmp 48) (.tmp 51) 30 rfl rfl rfl rfl p1, Below.trans hx (h2.belowO hx.le p3), p2⟩
          · have HX := Lib.hid (HX0.out.trans hx)
            have H3 := Lib.hid h3
            obtain ⟨a3, c3, e3, _, _⟩ := WR.shape eC_len h3
            generalize ((l2.take k) ++ [(to, n)] ++ l2.drop k).length = N3 at e3
            subst e3
            clear hx h3 RB RC HX0 HW0 RTZ
            refine v_one 13 (by kernel_rfl) rfl (by kernel_rfl) fun y1 K hK => ?_
            go_simp
            refine hK _ _ (fun _ => Ext.refl _) ?_
            clear hK K
            refine v_done (by kernel_rfl) fun y3 => ?_
            go_wp2
            all_goals
              go_ret
              have hxx := y1.ext.trans y3.ext
              exact ⟨_, rfl, by rw [EP.out, ← IE.out]; exact WR.rk eC_len (H3.out.ext hxx) HKZ.out, HX.out.trans hxx⟩
end Go.Proofs.YtfipfljiohdlhaaGreat
