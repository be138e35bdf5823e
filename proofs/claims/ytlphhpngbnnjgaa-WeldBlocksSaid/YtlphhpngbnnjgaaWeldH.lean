/- The walks of WeldSteps and WeldBlocks. -/
import Derived.Test.YtlphhpngbnnjgaaWeldG
namespace Go.Proofs.Ytlphhpngbnnjgaa
set_option linter.unusedVariables false
set_option linter.unusedSimpArgs false
open Go.RowKit

set_option maxRecDepth 20000 in
set_option maxHeartbeats 4000000 in
theorem weldSteps_law (v : Value) (l : List Int) (t : Int) (wt : (Lit.int .i64 t).wf = true) (W : World) (rd : RI W v l) (hb : (l.length : Int) ≤ 9223372036854775807) (hR : ∀ x ∈ l, (Lit.int .i64 x).wf = true) :
    Calls Try.prog 3 #[v, .int .i64 t] W fun e w' => e = .returned (.bool true) ∧ Ext W w' := by
  by_cases hlen : (l.length : Int) ≤ 300
  · have HR := Lib.hid rd
    have h9 : (l.length : Int) ≤ 1000000000 := by omega
    have q1 := Lib.hid (fun w (h : RI w v l) => wPair_any l t v w h h9)
    have q2 := Lib.hid (fun w (h : RI w v l) => rPair_any l t v w h h9)
    have q3 := Lib.hid (fun w (h : RI w v l) => wStep_any l t v w h h9)
    have q4 := Lib.hid (fun w (h : RI w v l) => rStep_any l t v w h h9)
    have q5 := Lib.hid (fun w (h : RI w v l) => wPlan_any l t v w h h9)
    have q6 := Lib.hid (fun w (h : RI w v l) => rPlan_any l t v w h h9)
    have hs : ((stepL l t).length : Int) ≤ 1000000000 := by
      unfold stepL
      split
      · omega
      · rename_i i hp; rw [weldW_length (pf_some hp).2.1]; omega
    have hp : ((planL l t).1.length : Int) ≤ 1000000000 := by have := planL_len l t; omega
    have HS := Lib.hid hs
    have HP := Lib.hid hp
    obtain ⟨a, c, rfl, _, _, _⟩ := rd.shape
    clear rd hs hp hR hb wt
    generalize hpf : pf l t 0 = p at *
    generalize stepL l t = st at *
    generalize planL l t = pl at *
    clear hpf
    obtain ⟨pl, pn⟩ := pl
    have hn : ¬ (300 : Int) < (l.length : Int) := by omega
    have hsb : (st == st) = true := by simp
    have hpb : (pl == pl) = true := by simp
    clear hlen
    rcases p with _ | i
    all_goals
      go_enter Try.func3, Try.ntmps3
      go_wp2_with fail
      refine (q1.out _ HR.out).mono ?_
      rintro _ w1 ⟨rfl, x1⟩
      simp only [placeV]
      have X1 := Lib.hid x1
      clear x1
      go_wp2_with fail
      refine (q2.out _ (HR.out.ext X1.out)).mono ?_
      rintro _ w2 ⟨rfl, x2⟩
      simp only [placeV]
      have X2 := Lib.hid (X1.out.trans x2)
      clear x2 X1
      go_wp2_with fail
      refine (q3.out _ (HR.out.ext X2.out)).mono ?_
      rintro _ w3 ⟨v3, rfl, x3, i3⟩
      simp only [Option.isSome]
      have X3 := Lib.hid (X2.out.trans x3)
      have I3 := Lib.hid i3.ri
      obtain ⟨a3, c3, rfl, _, _⟩ := i3.shape
      clear x3 i3 X2
      go_wp2_with fail
      refine (q4.out _ (HR.out.ext X3.out)).mono ?_
      rintro _ w4 ⟨v4, rfl, x4, i4⟩
      simp only [Option.isSome]
      have X4 := Lib.hid (X3.out.trans x4)
      have I4 := Lib.hid i4.ri
      have I3 := Lib.hid (I3.out.ext x4)
      obtain ⟨a4, c4, rfl, _, _⟩ := i4.shape
      clear x4 i4 X3
      go_wp2_with fail
      refine (q5.out _ (HR.out.ext X4.out)).mono ?_
      rintro _ w5 ⟨v5, rfl, x5, i5⟩
      have X5 := Lib.hid (X4.out.trans x5)
      have I5 := Lib.hid i5.ri
      have I3 := Lib.hid (I3.out.ext x5)
      have I4 := Lib.hid (I4.out.ext x5)
      obtain ⟨a5, c5, rfl, _, _⟩ := i5.shape
      clear x5 i5 X4
      go_wp2_with fail
      refine (q6.out _ (HR.out.ext X5.out)).mono ?_
      rintro _ w6 ⟨v6, rfl, x6, i6⟩
      have X6 := Lib.hid (X5.out.trans x6)
      have I6 := Lib.hid i6.ri
      have I3 := Lib.hid (I3.out.ext x6)
      have I4 := Lib.hid (I4.out.ext x6)
      have I5 := Lib.hid (I5.out.ext x6)
      obtain ⟨a6, c6, rfl, _, _⟩ := i6.shape
      clear x6 i6 X5
      have s1 := sameR_any st st _ _ w6 I3.out I4.out HS.out HS.out
      rw [hsb] at s1
      have s1 := Lib.hid s1
      go_wp2_with fail
      refine (s1.out).mono ?_
      rintro _ w7 ⟨rfl, x7⟩
      have X7 := Lib.hid (X6.out.trans x7)
      have s2 := sameR_any pl pl _ _ w7 (I5.out.ext x7) (I6.out.ext x7) HP.out HP.out
      rw [hpb] at s2
      have s2 := Lib.hid s2
      clear x7
      go_wp2_with fail
      refine (s2.out).mono ?_
      rintro _ w8 ⟨rfl, x8⟩
      have X8 := Lib.hid (X7.out.trans x8)
      clear x8
      go_wp2_with fail
      refine (awake_any w8).mono ?_
      rintro _ w9 ⟨rfl, x9⟩
      go_wp2
      go_ret
      exact ⟨rfl, X8.out.trans x9⟩
  · have hn : (300 : Int) < (l.length : Int) := by omega
    obtain ⟨a, c, rfl, _, _, _⟩ := rd.shape
    have q := Lib.hid (awake_any W)
    clear rd hR hb hlen
    go_enter Try.func3, Try.ntmps3
    go_wp2_with fail
    refine (q.out).mono ?_
    rintro _ w1 ⟨rfl, x1⟩
    go_wp2
    go_ret
    exact ⟨rfl, x1⟩

set_option maxRecDepth 20000 in
set_option maxHeartbeats 4000000 in
theorem weldBlocks_law (v : Value) (l : List M7) (t : Int) (wt : (Lit.int .i64 t).wf = true) (W : World) (rd : RR metaC 7 W v l) (hb : (l.length : Int) ≤ 9223372036854775807) (hR : ∀ x ∈ l, True) :
    Calls Try.prog 4 #[v, .int .i64 t] W fun e w' => e = .returned (.bool true) ∧ Ext W w' := by
  by_cases hlen : (l.length : Int) ≤ 1200
  · have HR := Lib.hid rd
    have q1 := Lib.hid (fun w (h : RR metaC 7 w v l) => wRaws_any l v w h)
    have q2 := Lib.hid (fun w (h : RR metaC 7 w v l) => rRaws_any l v w h)
    have q3 := Lib.hid (fun w (h : RR metaC 7 w v l) => wDone_any l t v w h)
    have q4 := Lib.hid (fun w (h : RR metaC 7 w v l) => rDone_any l t v w h)
    have HS := Lib.hid (show ((rawsL l).length : Int) ≤ 1000000000 by have := rawsL_len l; omega)
    obtain ⟨a, c, rfl, _, _, _⟩ := rd
    clear hR hb wt
    generalize rawsL l = st at *
    generalize doneP l t = dn at *
    generalize footI (blocksP l) = fi at *
    have hn : ¬ (1200 : Int) < (l.length : Int) := by omega
    have hsb : (st == st) = true := by simp
    clear hlen
    go_enter Try.func4, Try.ntmps4
    go_wp2_with fail
    refine (q1.out _ HR.out).mono ?_
    rintro _ w3 ⟨v3, rfl, x3, i3⟩
    have X3 := Lib.hid x3
    have I3 := Lib.hid i3.ri
    obtain ⟨a3, c3, rfl, _, _⟩ := i3.shape
    clear x3 i3
    go_wp2_with fail
    refine (q2.out _ (HR.out.ext X3.out)).mono ?_
    rintro _ w4 ⟨v4, rfl, x4, i4⟩
    have X4 := Lib.hid (X3.out.trans x4)
    have I4 := Lib.hid i4.ri
    have I3 := Lib.hid (I3.out.ext x4)
    obtain ⟨a4, c4, rfl, _, _⟩ := i4.shape
    clear x4 i4 X3
    have s1 := sameR_any st st _ _ w4 I3.out I4.out HS.out HS.out
    rw [hsb] at s1
    have s1 := Lib.hid s1
    go_wp2_with fail
    refine (s1.out).mono ?_
    rintro _ w7 ⟨rfl, x7⟩
    have X7 := Lib.hid (X4.out.trans x7)
    clear x7
    go_wp2_with fail
    refine (q3.out _ (HR.out.ext X7.out)).mono ?_
    rintro _ w8 ⟨rfl, x8⟩
    have X8 := Lib.hid (X7.out.trans x8)
    clear x8
    go_wp2_with fail
    refine (q4.out _ (HR.out.ext X8.out)).mono ?_
    rintro _ w9 ⟨rfl, x9⟩
    have X9 := Lib.hid (X8.out.trans x9)
    clear x9
    go_wp2_with fail
    refine (awake_any w9).mono ?_
    rintro _ w10 ⟨rfl, x10⟩
    go_wp2
    go_ret
    exact ⟨rfl, X9.out.trans x10⟩
  · have hn : (1200 : Int) < (l.length : Int) := by omega
    obtain ⟨a, c, rfl, _, _, _⟩ := rd
    have q := Lib.hid (awake_any W)
    clear hR hb hlen
    go_enter Try.func4, Try.ntmps4
    go_wp2_with fail
    refine (q.out).mono ?_
    rintro _ w1 ⟨rfl, x1⟩
    go_wp2
    go_ret
    exact ⟨rfl, x1⟩
end Go.Proofs.Ytlphhpngbnnjgaa
