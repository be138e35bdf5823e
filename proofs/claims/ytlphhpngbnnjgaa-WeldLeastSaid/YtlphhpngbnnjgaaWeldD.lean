/- weld: Step, Plan. -/
import Derived.Test.YtlphhpngbnnjgaaWeldC
import Derived.ScopeJumps
namespace Go.Proofs.Ytlphhpngbnnjgaa
set_option linter.unusedVariables false
set_option linter.unusedSimpArgs false
open Go.RowKit

def lenV : Value → Nat
  | .slice _ n _ => n
  | _ => 0
set_option maxRecDepth 20000 in
theorem wStep_any (l : List Int) (t : Int) (v : Value) (w : World) (hr : RI w v l) (hl : (l.length : Int) ≤ 1000000000) :
    Calls Try.prog 10 #[v, .int .i64 t] w fun e w' => ∃ v', e = .returned (.tuple #[v', .bool (pf l t 0).isSome]) ∧ Ext w w' ∧ IW w' w.heap.size v' (stepL l t) := by
  have q := Lib.hid (clone_any v l w hr hl)
  obtain ⟨a, c, rfl, _, _, _⟩ := hr.shape
  clear hr
  cases hp : pf l t 0 with
  | none =>
    have HS := Lib.hid (show stepL l t = l by unfold stepL; rw [hp])
    have HP := Lib.hid hp
    clear hp
    go_enter Try.func10, Try.ntmps10
    go_wp2_with fail
    refine (q.out).mono ?_
    rintro e w1 ⟨v1, rfl, x1, i1⟩
    have q2 := wPair_any l t v1 w1 i1.ri hl
    rw [HP.out] at q2
    have q2 := Lib.hid q2
    have X1 := Lib.hid x1
    have I1 := Lib.hid i1
    obtain ⟨a1, c1, rfl, _, _⟩ := i1.shape
    clear x1 i1
    go_wp2_with fail
    refine (q2.out).mono ?_
    rintro e w2 ⟨rfl, x2⟩
    simp only [placeV]
    have X2 := Lib.hid x2
    clear x2
    go_wp2
    go_ret2
    exact ⟨_, rfl, X1.out.trans X2.out, by rw [HS.out]; exact I1.out.ext X2.out⟩
  | some i =>
    have HS := Lib.hid (show stepL l t = weldW l i by unfold stepL; rw [hp])
    have HP := Lib.hid hp
    obtain ⟨_, h1, h2, _⟩ := pf_some hp
    have h2 := okP_iff.1 h2
    have HW := Lib.hid (fun v B w h hB => welded_any l i v B w h hB h1 hl ⟨by omega, by omega⟩)
    clear hp h1 h2
    go_enter Try.func10, Try.ntmps10
    go_wp2_with fail
    refine (q.out).mono ?_
    rintro e w1 ⟨v1, rfl, x1, i1⟩
    have q2 := wPair_any l t v1 w1 i1.ri hl
    rw [HP.out] at q2
    have q2 := Lib.hid q2
    have X1 := Lib.hid x1
    have I1 := Lib.hid i1
    obtain ⟨a1, c1, rfl, _, _⟩ := i1.shape
    clear x1 i1
    go_wp2_with fail
    refine (q2.out).mono ?_
    rintro e w2 ⟨rfl, x2⟩
    simp only [placeV]
    have X2 := Lib.hid x2
    clear x2
    have q3 := Lib.hid (HW.out _ w.heap.size w2 (I1.out.ext X2.out) (X1.out.trans X2.out).le)
    go_wp2_with fail
    refine (q3.out).mono ?_
    rintro e w3 ⟨v3, rfl, x3, i3⟩
    obtain ⟨a3, c3, rfl, _, _⟩ := i3.shape
    have X3 := Lib.hid x3
    have I3 := Lib.hid i3
    clear x3 i3
    go_wp2
    go_ret2
    exact ⟨_, rfl, Below.trans (X1.out.trans X2.out) X3.out, by rw [HS.out]; exact I3.out⟩

set_option maxRecDepth 20000 in
set_option maxHeartbeats 2000000 in
theorem wPlan_any (l : List Int) (t : Int) (v : Value) (w : World) (hr : RI w v l) (hl : (l.length : Int) ≤ 1000000000) :
    Calls Try.prog 12 #[v, .int .i64 t] w fun e w' => ∃ v', e = .returned (.tuple #[v', .int .i64 ((planL l t).2 : Int)]) ∧ Ext w w' ∧ IW w' w.heap.size v' (planL l t).1 := by
  have q := Lib.hid (clone_any v l w hr hl)
  obtain ⟨a, c, rfl, _, _, _⟩ := hr.shape
  clear hr
  go_enter Try.func12, Try.ntmps12
  go_wp2_with fail
  refine wp_scope_jumps 0 (fun a' w' => ∃ (cur : List Int) (v : Value) (n f : Nat) (u2 u3 u9 u10 u11 u12 u13 u14 u15 u16 u17 u18 u19 u20 u21 u22 u23 u24 u25 u26 u27 u28 u29 : Value), a' = { tmps := #[.slice a l.length c, .int .i64 t, u2, u3, .slice none 0 0, .int .i64 0, v, .int .i64 (n : Int), .int .i64 (f : Int), u9, u10, u11, u12, u13, u14, u15, u16, u17, u18, u19, u20, u21, u22, u23, u24, u25, u26, u27, u28, u29], defers := [] } ∧ Ext w w' ∧ IW w' w.heap.size v cur ∧ pf cur t (f - 1) = pf cur t 0 ∧ f ≤ l.length ∧ n + cur.length = l.length ∧ planL l t = ((planL cur t).1, n + (planL cur t).2)) (fun a' _ => lenV (a'.tmps.getD 6 undef)) rfl ?_ ?_
  · go_wp2_with fail
    refine (q.out).mono ?_
    rintro e w1 ⟨v1, rfl, x1, i1⟩
    have X1 := Lib.hid x1
    have I1 := Lib.hid i1
    have PF := Lib.hid (show pf l t (-1 : Int).toNat = pf l t 0 from rfl)
    have PL := Lib.hid (show planL l t = ((planL l t).1, 0 + (planL l t).2) by rw [Nat.zero_add])
    clear x1 i1 q
    have hc1 : (l.length : Int) ≤ 1000000000 := by omega
    have qp := wpair_any l t (-1) _ _ I1.out.ri hc1 (by omega) (by omega)
    rw [PF.out] at qp
    obtain ⟨a1, c1, rfl, _, _⟩ := I1.out.shape
    cases hp : pf l t 0 with
    | none =>
      rw [hp] at qp
      have qp := Lib.hid qp
      have HE := Lib.hid (planL_none hp)
      clear hp
      go_wp2_with fail
      go_step3
      go_wp2_with fail
      refine (qp.out).mono ?_
      rintro e w2 ⟨rfl, x2⟩
      simp only [placeV]
      have X2 := Lib.hid x2
      clear x2
      go_wp2
      simp only [Exit.jump]
      go_ret2
      rw [HE.out]
      exact ⟨_, rfl, X1.out.trans X2.out, I1.out.ext X2.out⟩
    | some i =>
      rw [hp] at qp
      have qp := Lib.hid qp
      have HE := Lib.hid (planL_some hp)
      obtain ⟨_, h1, h2, _⟩ := pf_some hp
      have h2 := okP_iff.1 h2
      have HW := Lib.hid (fun v B w h hB => welded_any l i v B w h hB h1 hc1 ⟨by omega, by omega⟩)
      have HF := Lib.hid (weld_pf hp)
      have HI := Lib.hid h1
      have HL := Lib.hid (weldW_length h1)
      clear hp h1 h2
      go_wp2_with fail
      go_step3
      go_wp2_with fail
      refine (qp.out).mono ?_
      rintro e w2 ⟨rfl, x2⟩
      simp only [placeV]
      have X2 := Lib.hid x2
      clear x2
      have q3 := Lib.hid (HW.out _ w.heap.size w2 (I1.out.ext X2.out) (X1.out.trans X2.out).le)
      go_wp2_with fail
      refine (q3.out).mono ?_
      rintro e w3 ⟨v3, rfl, x3, i3⟩
      have X3 := Lib.hid x3
      have I3 := Lib.hid i3
      obtain ⟨a3, c3, rfl, _, _⟩ := i3.shape
      clear x3 i3
      go_wp2
      go_step3
      exact ⟨rfl, weldW l i, _, 0 + 1, i, _, _, _, _, _, _, _, _, _, _, _, _, _, _, _, _, _, _, _, _, _, _, _, rfl, Below.trans (X1.out.trans X2.out) X3.out, I3.out, HF.out, by have := HI.out; omega, by have := HI.out; rw [HL.out]; omega, by rw [HE.out]; simp only [Prod.mk.injEq, true_and]; omega⟩
  · rintro _ wr ⟨cur, v1, n, f, u2, u3, u9, u10, u11, u12, u13, u14, u15, u16, u17, u18, u19, u20, u21, u22, u23, u24, u25, u26, u27, u28, u29, rfl, x1, i1, pf1, hf, hn, pl⟩
    have X1 := Lib.hid x1
    have I1 := Lib.hid i1
    have PF := Lib.hid (show pf cur t ((f : Int) - 1).toNat = pf cur t 0 by rw [← pf1]; congr 1; omega)
    have PL := Lib.hid pl
    have e1 : IntKind.i64.wrap ((f : Int) - 1) = (f : Int) - 1 := by rw [IntKind.wrap_i64]; omega
    have e2 : IntKind.i64.wrap ((n : Int) + 1) = (n : Int) + 1 := by rw [IntKind.wrap_i64]; omega
    clear x1 i1 pf1 pl q
    have hc1 : (cur.length : Int) ≤ 1000000000 := by omega
    have qp := wpair_any cur t ((f : Int) - 1) _ _ I1.out.ri hc1 (by omega) (by omega)
    rw [PF.out] at qp
    obtain ⟨a1, c1, rfl, _, _⟩ := I1.out.shape
    cases hp : pf cur t 0 with
    | none =>
      rw [hp] at qp
      have qp := Lib.hid qp
      have HE := Lib.hid (planL_none hp)
      clear hp
      go_wp2_with fail
      refine (qp.out).mono ?_
      rintro e w2 ⟨rfl, x2⟩
      simp only [placeV]
      have X2 := Lib.hid x2
      clear x2
      go_wp2
      simp only [Exit.jump]
      go_ret2
      have h1 := PL.out
      rw [HE.out] at h1
      rw [h1]
      exact ⟨_, rfl, X1.out.trans X2.out, I1.out.ext X2.out⟩
    | some i =>
      rw [hp] at qp
      have qp := Lib.hid qp
      have HE := Lib.hid (planL_some hp)
      obtain ⟨_, h1, h2, _⟩ := pf_some hp
      have h2 := okP_iff.1 h2
      have HW := Lib.hid (fun v B w h hB => welded_any cur i v B w h hB h1 hc1 ⟨by omega, by omega⟩)
      have HF := Lib.hid (weld_pf hp)
      have HI := Lib.hid h1
      have HL := Lib.hid (weldW_length h1)
      clear hp h1 h2
      go_wp2_with fail
      refine (qp.out).mono ?_
      rintro e w2 ⟨rfl, x2⟩
      simp only [placeV]
      have X2 := Lib.hid x2
      clear x2
      have q3 := Lib.hid (HW.out _ w.heap.size w2 (I1.out.ext X2.out) (X1.out.trans X2.out).le)
      go_wp2_with fail
      refine (q3.out).mono ?_
      rintro e w3 ⟨v3, rfl, x3, i3⟩
      have X3 := Lib.hid x3
      have I3 := Lib.hid i3
      obtain ⟨a3, c3, rfl, _, _⟩ := i3.shape
      clear x3 i3
      go_wp2
      go_step3
      exact ⟨rfl, ⟨weldW cur i, _, n + 1, i, _, _, _, _, _, _, _, _, _, _, _, _, _, _, _, _, _, _, _, _, _, _, _, by rw [show ((n + 1 : Nat) : Int) = (n : Int) + 1 by omega], Below.trans (X1.out.trans X2.out) X3.out, I3.out, HF.out, by have := HI.out; omega, by have := HI.out; rw [HL.out]; omega, by rw [PL.out, HE.out]; simp only [Prod.mk.injEq, true_and]; omega⟩, by have := HI.out; simp [lenV]; rw [HL.out]; omega⟩
end Go.Proofs.Ytlphhpngbnnjgaa
