/- suffix: the reference's Common. -/
import Derived.Test.YteflhfofahdckaaSufS
import Derived.Test.YteflhfofahdckaaAppV
namespace Go.Proofs.Yteflhfofahdckaa
set_option linter.unusedVariables false
set_option linter.unusedSimpArgs false
open Go.RowKit
attribute [local go_sem] S_size S_toList S_extract S_beq S_bne S_empty S_nil

theorem mr_snoc (f : Nat → Nat) (k : Nat) : toI ((List.range k).map f) ++ [(f k : Int)] = toI ((List.range (k + 1)).map f) := by
  unfold toI
  rw [List.range_succ, List.map_append, List.map_append]; rfl
theorem toI_mr_length (f : Nat → Nat) (k : Nat) : (toI ((List.range k).map f)).length = k := by rw [toI_length]; simp

set_option maxRecDepth 20000 in
set_option maxHeartbeats 4000000 in
theorem rcommon_any (s : List UInt8) (ar : List Int) (v : Value) (w : World) (hr : RI w v ar) (hl : (ar.length : Int) ≤ 30000) (hs : (s.length : Int) ≤ 30000) :
    Calls Try.prog 30 #[.string (S s), v] w fun e w' => ∃ u, e = .returned (.tuple #[u, .int .i64 (comE s ar)]) ∧ Ext w w' ∧ RI w' u (toI (comL s ar)) := by
  obtain ⟨a, c, rfl, hlc, _, hsh⟩ := hr.shape
  have HS := Lib.hid hsh
  have HR := Lib.hid hr
  have HK := Lib.hid (rranks_any ar _ w hr hl)
  clear hsh hr
  go_enter Try.func30, Try.ntmps30
  go_wp2_with fail
  refine HK.out.mono ?_
  rintro e w1 ⟨u, rfl, x1, hru⟩
  have X1 := Lib.hid x1
  cases hp : okP ar with
  | false =>
    have HF := Lib.hid (com_false (s := s) (ar := ar) (by unfold okC; rw [hp]; rfl))
    rw [(rk_false hp).1]
    clear hru x1 HK
    go_wp2
    go_ret2
    exact ⟨_, by rw [HF.out.1]; rfl, X1.out, by rw [HF.out.2]; exact RI.nil _⟩
  | true =>
    rw [rk_true hp]
    by_cases hlen : ar.length = s.length + 1
    · have hok : okC s ar = true := by unfold okC; rw [hp, Bool.true_and]; exact decide_eq_true hlen
      have hbb : ((ar.length : Int) != (s.length : Int) + 1) = false := bne_eq_false_iff_eq.2 (by omega)
      have W1 := w64_small (n := (s.length : Int) + 1) (by omega) (by omega)
      have H0 := Lib.hid (show IW (w1.alloc (.cells #[.int .i64 0] 3)) w1.heap.size (.slice (some ⟨w1.heap.size, 0, none⟩) 1 1) (toI ((List.range 1).map (comAt s ar))) from IW.lit w1 _ (by simp [toI]) 1 rfl _ rfl)
      have HP := Lib.hid hp
      have HOK := Lib.hid hok
      have HLEN := Lib.hid hlen
      clear hru x1 hp hok HK hlen
      go_wp2_with (refine wpList_bs (vs := #[(0, .int .i64 0)]) rfl 33 1 _ rfl rfl (run_bs1i 0 w1) ?_)
      go_loopw [8, 9] (fun v i wr => ∃ k : Nat, 1 ≤ k ∧ k ≤ ar.length ∧ i = .int .i64 (k : Int) ∧ IW wr w1.heap.size v (toI ((List.range k).map (comAt s ar))) ∧ Ext w1 wr) (fun _ i _ => ar.length - (intOf i).toNat)
      case atStart => exact ⟨1, by omega, by have := HLEN.out; omega, rfl, H0.out, (Ext.refl _).alloc _⟩
      case round =>
        obtain ⟨k, hk1, hk, rfl, hw, hx⟩ := hrel
        clear H0
        by_cases hlt : k < ar.length
        · obtain ⟨j, rfl⟩ : ∃ j, k = j + 1 := ⟨k - 1, by omega⟩
          have hin1 := okP_in HP.out (i := j) (by omega)
          have hin2 := okP_in HP.out (i := j + 1) hlt
          obtain ⟨q, hq⟩ : ∃ q : Nat, ar.getD j 0 = (q : Int) := ⟨(ar.getD j 0).toNat, by omega⟩
          obtain ⟨p, hp⟩ : ∃ p : Nat, ar.getD (j + 1) 0 = (p : Int) := ⟨(ar.getD (j + 1) 0).toNat, by omega⟩
          have hcom : comAt s ar (j + 1) = alikeN (s.drop p) (s.drop q) := by
            unfold comAt endAt
            rw [if_neg (by omega)]
            unfold placeN
            rw [show j + 1 - 1 = j from rfl, hq, hp, Int.toNat_natCast, Int.toNat_natCast]
          have HSN := Lib.hid (show toI ((List.range (j + 1)).map (comAt s ar)) ++ [((alikeN (s.drop p) (s.drop q) : Nat) : Int)] = toI ((List.range (j + 1 + 1)).map (comAt s ar)) by rw [← hcom]; exact mr_snoc _ _)
          obtain ⟨ga, oa, rfl, hca⟩ := HS.out (by omega)
          have cq := Go.cell_later (X1.out.trans hx) (hca j (by omega))
          have cp := Go.cell_later (X1.out.trans hx) (hca (j + 1) hlt)
          rw [hq] at cq
          rw [hp] at cp
          have CQ := Lib.hid (up_cell (W := wr.drew) cq)
          have CP := Lib.hid (up_cell (W := wr.drew) cp)
          have QA := Lib.hid (fun (x : Up wr.drew) => refAlike_any (s.drop p) (s.drop q) x.val (by rw [List.length_drop]; omega) (by rw [List.length_drop]; omega))
          have hpl : (p : Int) ≤ (s.length : Int) := by have := HLEN.out; omega
          have hql : (q : Int) ≤ (s.length : Int) := by have := HLEN.out; omega
          have hjn : (j : Int) + 1 < (ar.length : Int) := by omega
          have hjl : (j : Int) < (ar.length : Int) := by omega
          have hac : (ar.length : Int) ≤ (c : Int) := by omega
          have ew : IntKind.i64.wrap (j : Int) = (j : Int) := IntWalk.i64_in _ (by omega)
          have ew2 : (0 : Int) ≤ (j : Int) + 1 := by omega
          have HW := Lib.hid hw
          have HX := Lib.hid hx
          have HL := Lib.hid (toI_mr_length (comAt s ar) (j + 1))
          obtain ⟨gv, cv, rfl, _, _⟩ := hw.shape
          clear hw hx hin1 hin2 hq hp hcom hca cq cp
          generalize alikeN (s.drop p) (s.drop q) = al at *
          generalize hT : toI ((List.range (j + 1)).map (comAt s ar)) = T at *
          have HT := Lib.hid hT
          clear hT
          rw [HL.out]
          rw [HL.out] at HW
          go_wp2_with fail
          refine wp_region_v [] _ rfl (by kernel_rfl) ?_
          dsimp only [List.length_cons, List.length_nil]
          have cq := CQ.out
          have cp := CP.out
          iterate 15
            (refine v_want (by kernel_rfl) (by kernel_rfl) (by kernel_rfl) (fun _ _ _ _ h => h) (by kernel_rfl) (by kernel_rfl) (fun K hK => ?_)
             go_simp
             first
               | (refine hK _ ?_; clear hK K)
               | (apply Exists.intro
                  refine ⟨fun _ => ?_, hK _ ?_⟩
                  (go_at_call 44; exact QA.out _)
                  clear hK K))
          refine v_late ?_
          refine v_late ?_
          refine v_late ?_
          refine v_rest ?_
          refine v_one 15 (by kernel_rfl) rfl (by kernel_rfl) fun y1 K hK => ?_
          refine (BsAt.of (vs := #[(0, .int .i64 (al : Int))]) 33 _ rfl rfl (run_bs1i (al : Int))).wp (hK _ _ (fun _ => (Ext.refl _).alloc _) ?_)
          clear hK K
          have X0 := Lib.hid ((Ext.refl wr).drew.trans y1.ext)
          have HB := Lib.hid (Blk.new y1.val 3 #[.int .i64 (al : Int)])
          refine v_app (v := .slice gv (j + 1) cv) (u := .slice (some ⟨y1.val.heap.size, 0, none⟩) 1 1) 16 48 (.tmp 32) (.tmp 47) 33 (fun v' W w' => IW w' w1.heap.size v' (T ++ [(al : Int)]) ∧ Ext w1 w') (by kernel_rfl) rfl rfl rfl rfl rfl rfl rfl (.inl (by kernel_rfl)) (fun W x => ?_) (fun v2 W2 w2 x2 h2 => ?_)
          · have hXW : Ext wr W := (X0.out.alloc _).trans x
            have hB : w1.heap.size ≤ W.heap.size := (HX.out.trans hXW).le
            obtain ⟨v1, w5, p1, p2, p3⟩ := IW.appS (HW.out.ext hXW) (RI.one (HB.out.ext x)) hB (by rw [HL.out]; simp; omega)
            exact ⟨_, _, p1, p2, Below.trans (HX.out.trans hXW) (IW.below (HW.out.ext hXW) hB p3)⟩
          refine v_val 17 8 (.tmp 48) (by kernel_rfl) rfl rfl rfl rfl rfl (fun W3 x3 => ?_)
          refine v_done (by kernel_rfl) (fun y => ?_)
          have HI := Lib.hid ((h2.1.ext x3).ext y.ext)
          have HX3 := Lib.hid ((h2.2.trans x3).trans y.ext)
          rw [HSN.out] at HI
          obtain ⟨g3, c3, rfl, _, _⟩ := h2.1.shape
          clear h2 x2 x3 HB X0 CQ CP cq cp QA HW HX HSN HL
          generalize (T ++ [(al : Int)]).length = n3 at *
          dsimp only [Act.put]
          simp only [List.setIfInBounds_toArray, List.set_cons_succ, List.set_cons_zero]
          generalize y.val = W9 at *
          go_wp2
          go_roundw
          case rel => exact ⟨j + 2, by omega, by omega, by go_num, HI.out, HX3.out⟩
          case measure => simp [intOf]; omega
        · have e : k = ar.length := by omega
          subst e
          have HE := Lib.hid (com_true HOK.out)
          have HD := Lib.hid (show comL s ar = (List.range ar.length).map (comAt s ar) by unfold comL; rw [if_pos HOK.out])
          have HI := Lib.hid hw.ri
          have HX := Lib.hid (X1.out.trans hx)
          obtain ⟨gv, cv, rfl, _, _⟩ := hw.shape
          clear hw hx hlt hk
          go_wp2
          go_ret2
          exact ⟨_, by rw [HE.out]; rfl, HX.out, by rw [HD.out]; exact HI.out⟩
    · have HF := Lib.hid (com_false (s := s) (ar := ar) (by unfold okC; rw [hp, Bool.true_and]; exact decide_eq_false hlen))
      have hl2 : ¬ (ar.length : Int) = (s.length : Int) + 1 := by omega
      have W1 := w64_small (n := (s.length : Int) + 1) (by omega) (by omega)
      have hbb : ((ar.length : Int) != (s.length : Int) + 1) = true := by simpa using hl2
      clear hru x1 HK hp hlen hl2
      go_wp2
      go_ret2
      exact ⟨_, by rw [HF.out.1]; rfl, X1.out, by rw [HF.out.2]; exact RI.nil _⟩
end Go.Proofs.Yteflhfofahdckaa
