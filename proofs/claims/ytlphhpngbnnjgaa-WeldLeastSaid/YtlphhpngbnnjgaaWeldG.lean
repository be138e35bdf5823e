/- weld's laws: may, sum, awake. -/
import Derived.Test.YtlphhpngbnnjgaaWeldF
import Derived.Test.YtlphhpngbnnjgaaSameR
namespace Go.Proofs.Ytlphhpngbnnjgaa
set_option linter.unusedVariables false
set_option linter.unusedSimpArgs false
open Go.RowKit

theorem all_step {l : List Int} {k : Nat} (hk : k < l.length) : (l.drop k).all mayP = (mayP (l.getD k 0) && (l.drop (k + 1)).all mayP) := by
  rw [List.drop_eq_getElem_cons hk, List.all_cons, List.getD_eq_getElem?_getD, List.getElem?_eq_getElem hk]; rfl
set_option maxRecDepth 20000 in
set_option maxHeartbeats 2000000 in
theorem may_any (l : List Int) (v : Value) (w : World) (hr : RI w v l) (hl : (l.length : Int) ≤ 1000000000) :
    Calls Try.prog 19 #[v] w fun e w' => e = .returned (.bool (l.all mayP)) ∧ Ext w w' := by
  obtain ⟨a, c, rfl, _, _, hs⟩ := hr.shape
  have HS := Lib.hid hs
  clear hr hs
  go_enter Try.func19, Try.ntmps19
  go_wp2
  go_loopw [3] (fun i wr => ∃ k : Nat, i = .int .i64 (k : Int) ∧ k ≤ l.length ∧ l.all mayP = (l.drop k).all mayP ∧ Ext w wr) (fun i _ => l.length - (intOf i).toNat)
  case atStart => exact ⟨0, rfl, Nat.zero_le _, rfl, Ext.refl _⟩
  case round =>
    obtain ⟨k, rfl, hk, hp, hx⟩ := hrel
    have hxx := Lib.hid hx
    have P := Lib.hid hp
    clear hp
    by_cases hlt : k < l.length
    · have hI : (k : Int) < (l.length : Int) := by omega
      obtain ⟨g, o, rfl, hc⟩ := HS.out (by omega)
      have d1 := (show wr.cell? ⟨g, o + k, none⟩ = some (.int .i64 (l.getD k 0)) from Go.cell_later hx (hc k hlt))
      have H1 := Lib.hid (all_step hlt)
      clear hx hc
      generalize l.getD k 0 = x at *
      by_cases h1 : 0 ≤ x
      · by_cases h2 : x ≤ 20000
        · have P1 := Lib.hid (show l.all mayP = (l.drop (k + 1)).all mayP by rw [P.out, H1.out, mayP_iff.2 ⟨h1, h2⟩, Bool.true_and])
          clear H1
          go_wp2
          go_roundw
          case rel => exact ⟨k + 1, by go_num, by omega, P1.out, hxx.out⟩
          case measure => simp [intOf]; omega
        · have P1 := Lib.hid (show l.all mayP = false by rw [P.out, H1.out, show mayP x = false by unfold mayP; simp [h2], Bool.false_and])
          clear H1
          go_wp2
          go_ret
          exact ⟨by rw [P1.out]; rfl, hxx.out⟩
      · have P1 := Lib.hid (show l.all mayP = false by rw [P.out, H1.out, show mayP x = false by unfold mayP; simp [h1], Bool.false_and])
        clear H1
        go_wp2
        go_ret
        exact ⟨by rw [P1.out]; rfl, hxx.out⟩
    · have P1 := Lib.hid (show l.all mayP = true by rw [P.out, List.drop_eq_nil_of_le (by omega)]; rfl)
      have hI : ¬ ((k : Int) < (l.length : Int)) := by omega
      go_wp2
      go_ret
      exact ⟨by rw [P1.out]; rfl, hxx.out⟩

set_option maxRecDepth 20000 in
set_option maxHeartbeats 2000000 in
theorem sum_any (l : List Int) (v : Value) (w : World) (hr : RI w v l) (hl : (l.length : Int) ≤ 1000000000) (h0 : ∀ x ∈ l, 0 ≤ x) (hs : sumL l ≤ 1000000000000) :
    Calls Try.prog 20 #[v] w fun e w' => e = .returned (.int .i64 (sumL l)) ∧ Ext w w' := by
  have HT := Lib.hid (sumL_take h0)
  have HB := Lib.hid hs
  obtain ⟨a, c, rfl, _, _, hs⟩ := hr.shape
  have HS := Lib.hid hs
  clear hr hs h0
  go_enter Try.func20, Try.ntmps20
  go_wp2
  go_loopw [4, 3] (fun i n wr => ∃ k : Nat, i = .int .i64 (k : Int) ∧ k ≤ l.length ∧ n = .int .i64 (sumL (l.take k)) ∧ Ext w wr) (fun i _ _ => l.length - (intOf i).toNat)
  case atStart => exact ⟨0, rfl, Nat.zero_le _, rfl, Ext.refl _⟩
  case round =>
    obtain ⟨k, rfl, hk, rfl, hx⟩ := hrel
    have hxx := Lib.hid hx
    by_cases hlt : k < l.length
    · have hI : (k : Int) < (l.length : Int) := by omega
      obtain ⟨g, o, rfl, hc⟩ := HS.out (by omega)
      have d1 := (show wr.cell? ⟨g, o + k, none⟩ = some (.int .i64 (l.getD k 0)) from Go.cell_later hx (hc k hlt))
      have hw : IntKind.i64.wrap (sumL (l.take k) + l.getD k 0) = sumL (l.take (k + 1)) := by
        have h1 := sumL_succ hlt
        have h2 := HT.out (k + 1)
        have h3 := HB.out
        rw [← h1, IntKind.wrap_i64]; omega
      clear hx hc
      generalize sumL (l.take k) = u at *
      obtain ⟨u2, hu2⟩ : ∃ u2, u2 = sumL (l.take (k + 1)) := ⟨_, rfl⟩
      rw [← hu2] at hw
      have HU := Lib.hid hu2
      clear hu2
      generalize l.getD k 0 = x at *
      go_wp2
      go_roundw
      case rel => exact ⟨k + 1, by go_num, by omega, by rw [← HU.out], hxx.out⟩
      case measure => simp [intOf]; omega
    · obtain rfl : k = l.length := by omega
      have P1 := Lib.hid (show sumL (l.take l.length) = sumL l by rw [List.take_of_length_le (Nat.le_refl _)])
      clear hx hk
      go_wp2
      go_ret
      exact ⟨by rw [← P1.out]; rfl, hxx.out⟩

theorem lit_ri (w : World) (l : List Int) (n : Nat) (hn : l.length = n) (hl : l.length ≤ 1000) (cs : Array Value) (hcs : cs.toList = ints l) : RI (w.alloc (.cells cs 3)) (.slice (some ⟨w.heap.size, 0, none⟩) n n) l :=
  (IW.lit w l (by omega) n hn cs hcs).ri
def awakeM : M7 := ⟨9, 20, 7, 1, 1, 0, 0⟩
theorem meta_build (w : World) : (Instr.build 41 #[(0, .int .i64 9), (1, .int .i64 20), (2, .int .i64 7), (3, .int .i64 1), (4, .int .i64 1)]).run Try.prog w = .ok (.agg #[.int .i64 9, .int .i64 20, .int .i64 7, .int .i64 1, .int .i64 1, .int .i64 0, .int .i64 0]) w := by kernel_rfl
theorem run_bs_meta (w : World) : (Instr.buildSlice 32 1 #[(0, .agg #[.int .i64 9, .int .i64 20, .int .i64 7, .int .i64 1, .int .i64 1, .int .i64 0, .int .i64 0])]).run Try.prog w = .ok (.slice (some ⟨w.heap.size, 0, none⟩) 1 1) (w.alloc (.cells #[.int .i64 9, .int .i64 20, .int .i64 7, .int .i64 1, .int .i64 1, .int .i64 0, .int .i64 0] 41)) := by kernel_rfl
theorem awake_rr (w : World) : RR metaC 7 (w.alloc (.cells #[.int .i64 9, .int .i64 20, .int .i64 7, .int .i64 1, .int .i64 1, .int .i64 0, .int .i64 0] 41)) (.slice (some ⟨w.heap.size, 0, none⟩) 1 1) [awakeM] := by
  have := World.ownsRow_lit (base := w.heap.size) (e := 41) (size := 7) w #[.int .i64 9, .int .i64 20, .int .i64 7, .int .i64 1, .int .i64 1, .int .i64 0, .int .i64 0] 1 (Nat.le_refl _) (by unfold maxLen; omega) rfl
  exact WR.rr (l := [awakeM]) (B := w.heap.size) (e := 41) metaC_length this

set_option maxRecDepth 20000 in
set_option maxHeartbeats 4000000 in
theorem awake_any (w : World) :
    Calls Try.prog 7 #[] w fun e w' => e = .returned (.bool true) ∧ Ext w w' := by
  have e1 : pf [10, 20, 90, 5] 100 0 = some 0 := by decide
  have e2 : stepL [10, 20, 90, 5] 100 = [30, 90, 5] := by decide
  have e3 : planL [10, 20, 90, 5] 100 = ([30, 95], 2) := by decide
  have e4 : pf [50, 50] 100 0 = none := by decide
  have e5 : rawsL [awakeM] = [7] := by decide
  have e6 : doneP [] 100 = true := by decide
  have e7 : footI (blocksP [awakeM]) = 0 := by decide
  have q1 := Lib.hid (fun w' => wPair_any [10, 20, 90, 5] 100 _ _ (lit_ri w' [10, 20, 90, 5] 4 rfl (by decide) #[.int .i64 10, .int .i64 20, .int .i64 90, .int .i64 5] rfl) (by decide))
  have q2 := Lib.hid (fun w' => wStep_any [10, 20, 90, 5] 100 _ _ (lit_ri w' [10, 20, 90, 5] 4 rfl (by decide) #[.int .i64 10, .int .i64 20, .int .i64 90, .int .i64 5] rfl) (by decide))
  have q3 := Lib.hid (fun w' => wPlan_any [10, 20, 90, 5] 100 _ _ (lit_ri w' [10, 20, 90, 5] 4 rfl (by decide) #[.int .i64 10, .int .i64 20, .int .i64 90, .int .i64 5] rfl) (by decide))
  have q4 := Lib.hid (fun w' => wStep_any [50, 50] 100 _ _ (lit_ri w' [50, 50] 2 rfl (by decide) #[.int .i64 50, .int .i64 50] rfl) (by decide))
  have q5 := Lib.hid (fun w' => wRaws_any [awakeM] _ _ (awake_rr w'))
  have q6 := Lib.hid (fun w' => wDone_any [] 100 _ w' (RR.nil w'))
  rw [e1, e2] at q2
  rw [e1] at q1
  rw [e3] at q3
  rw [e4] at q4
  rw [e5, e7] at q5
  rw [e6] at q6
  clear e1 e2 e3 e4 e5 e6 e7
  go_enter Try.func7, Try.ntmps7
  go_wp2_with fail
  refine (q1.out _).mono ?_
  rintro _ w1 ⟨rfl, x1⟩
  simp only [placeV]
  go_wp2_with fail
  refine (q2.out _).mono ?_
  rintro _ w2 ⟨v2, rfl, x2, i2⟩
  simp only [Option.isSome]
  have I2 := Lib.hid i2
  obtain ⟨a2, c2, rfl, _, _⟩ := i2.shape
  clear i2
  go_wp2_with fail
  refine (q3.out _).mono ?_
  rintro _ w3 ⟨v3, rfl, x3, i3⟩
  have I3 := Lib.hid i3
  obtain ⟨a3, c3, rfl, _, _⟩ := i3.shape
  clear i3
  go_wp2_with fail
  refine (q4.out _).mono ?_
  rintro _ w4 ⟨v4, rfl, x4, i4⟩
  simp only [Option.isSome]
  obtain ⟨a4, c4, rfl, _, _⟩ := i4.shape
  clear i4
  have rm := meta_build
  go_wp2_with (refine wpList_bs (vs := #[(0, .agg #[.int .i64 9, .int .i64 20, .int .i64 7, .int .i64 1, .int .i64 1, .int .i64 0, .int .i64 0])]) rfl 32 1 _ rfl rfl (run_bs_meta _) ?_)
  refine (q5.out _).mono ?_
  rintro _ w5 ⟨v5, rfl, x5, i5⟩
  obtain ⟨a5, c5, rfl, _, s5⟩ := i5.shape
  obtain ⟨g5, rfl, _, _, d5, _⟩ := s5 (by decide)
  have X3 : Ext w2 w3 := ((Ext.refl w2).alloc _).trans x3
  have X4 : Ext w3 w4 := ((Ext.refl w3).alloc _).trans x4
  have X5 : Ext w4 w5 := ((Ext.refl w4).alloc _).trans x5
  have X0 := Lib.hid (((((Ext.refl w).alloc _).trans x1).trans ((Ext.refl w1).alloc _)).trans x2)
  have R2 := Lib.hid (I2.out.ri.ext ((X3.trans X4).trans X5))
  have R3 := Lib.hid (I3.out.ri.ext (X4.trans X5))
  have XX := Lib.hid ((X3.trans X4).trans X5)
  have hd5 := Lib.hid (d5 0 (by decide))
  clear x1 x2 x3 x4 x5 X3 X4 X5 s5 d5 i5 I2 I3 q1 q2 q3 q4 q5
  have p1 := sameR_any [30, 90, 5] [30, 90, 5] _ _ _ (R2.out.alloc (.cells #[.int .i64 30, .int .i64 90, .int .i64 5] 3)) (lit_ri w5 [30, 90, 5] 3 rfl (by decide) #[.int .i64 30, .int .i64 90, .int .i64 5] rfl) (by decide) (by decide)
  rw [show (([30, 90, 5] : List Int) == [30, 90, 5]) = true by decide] at p1
  have p1 := Lib.hid p1
  go_wp2_with fail
  refine (p1.out).mono ?_
  rintro _ w6 ⟨rfl, x6⟩
  have X6 := Lib.hid (((Ext.refl w5).alloc (.cells #[.int .i64 30, .int .i64 90, .int .i64 5] 3)).trans x6)
  clear x6
  have p2 := sameR_any [30, 95] [30, 95] _ _ _ ((R3.out.ext X6.out).alloc (.cells #[.int .i64 30, .int .i64 95] 3)) (lit_ri w6 [30, 95] 2 rfl (by decide) #[.int .i64 30, .int .i64 95] rfl) (by decide) (by decide)
  rw [show (([30, 95] : List Int) == [30, 95]) = true by decide] at p2
  have p2 := Lib.hid p2
  go_wp2_with fail
  refine (p2.out).mono ?_
  rintro _ w7 ⟨rfl, x7⟩
  have X7 := Lib.hid (X6.out.trans (((Ext.refl w6).alloc (.cells #[.int .i64 30, .int .i64 95] 3)).trans x7))
  have c7 : w7.cell? ⟨g5, 0, none⟩ = some (.int .i64 7) := Go.cell_later X7.out hd5.out
  clear x7
  go_wp2_with fail
  refine (q6.out _).mono ?_
  rintro _ w8 ⟨rfl, x8⟩
  go_wp2
  go_ret
  exact ⟨rfl, ((X0.out.trans XX.out).trans X7.out).trans x8⟩
end Go.Proofs.Ytlphhpngbnnjgaa
