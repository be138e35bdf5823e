/- ref: Step, Plan. -/
import Derived.Test.YtlphhpngbnnjgaaWeldD
import Derived.Test.YtlphhpngbnnjgaaApp3
namespace Go.Proofs.Ytlphhpngbnnjgaa
set_option linter.unusedVariables false
set_option linter.unusedSimpArgs false
open Go.RowKit

set_option maxRecDepth 20000 in
set_option maxHeartbeats 2000000 in
theorem rStep_no (l : List Int) (t : Int) (v : Value) (w : World) (hr : RI w v l) (hl : (l.length : Int) ≤ 1000000000) (hp : pf l t 0 = none) :
    Calls Try.prog 11 #[v, .int .i64 t] w fun e w' => ∃ v', e = .returned (.tuple #[v', .bool false]) ∧ Ext w w' ∧ IW w' w.heap.size v' l := by
  have q := rPair_any l t v w hr hl
  rw [hp] at q
  have q := Lib.hid q
  have HR := Lib.hid hr
  obtain ⟨a, c, rfl, _, _, _⟩ := hr.shape
  clear hr hp
  go_enter Try.func11, Try.ntmps11
  go_wp2_with fail
  refine (q.out).mono ?_
  rintro e w1 ⟨rfl, x1⟩
  simp only [placeV]
  have X1 := Lib.hid x1
  obtain ⟨v', w2, p1, p2, p3⟩ := IW.app0 (B := w.heap.size) (Blk.new w1 3 #[]) (x1.le) ((HR.out.ext x1).alloc _) (by rw [World.size_alloc]; have := x1.le; omega) hl
  obtain ⟨a2, c2, rfl, _, _⟩ := p2.shape
  have P2 := Lib.hid p2
  have P3 := Lib.hid p3
  clear x1 p2 p3
  go_wp2_with (at_builtin; refine wpList_app rfl (.tmp 16) (.tmp 17) 22 rfl rfl rfl rfl p1 ?_)
  go_ret2
  exact ⟨_, rfl, (X1.out.alloc _).trans P3.out, P2.out⟩

set_option maxRecDepth 20000 in
set_option maxHeartbeats 4000000 in
theorem rStep_yes (l : List Int) (t : Int) (i : Nat) (v : Value) (w : World) (hr : RI w v l) (hl : (l.length : Int) ≤ 1000000000) (hp : pf l t 0 = some i) :
    Calls Try.prog 11 #[v, .int .i64 t] w fun e w' => ∃ v', e = .returned (.tuple #[v', .bool true]) ∧ Ext w w' ∧ IW w' w.heap.size v' (weldW l i) := by
  have q := rPair_any l t v w hr hl
  rw [hp] at q
  obtain ⟨_, h1, h2, _⟩ := pf_some hp
  have h2 := okP_iff.1 h2
  have q := Lib.hid q
  have HR := Lib.hid hr
  obtain ⟨a, c, rfl, hc, _, hs⟩ := hr.shape
  obtain ⟨g, o, rfl, hcell⟩ := hs (by omega)
  have d1 := Lib.hid (hcell i (by omega))
  have d2 := Lib.hid (hcell (i + 1) h1)
  have HW := Lib.hid (show l.take i ++ ((l.getD i 0 + l.getD (i + 1) 0) :: l.drop (i + 2)) = weldW l i from rfl)
  have hsum : IntKind.i64.wrap (l.getD i 0 + l.getD (i + 1) 0) = l.getD i 0 + l.getD (i + 1) 0 := by rw [IntKind.wrap_i64]; omega
  have k1 : (i : Int) < (l.length : Int) := by omega
  have k2 : (i : Int) + 1 < (l.length : Int) := by omega
  have k3 : (i : Int) + 2 ≤ (l.length : Int) := by omega
  have k4 : (0 : Int) ≤ (i : Int) + 1 := by omega
  have k5 : (0 : Int) ≤ (i : Int) + 2 := by omega
  have k6 : IntKind.i64.wrap ((i : Int) + 1) = (i : Int) + 1 := by rw [IntKind.wrap_i64]; omega
  have k7 : IntKind.i64.wrap ((i : Int) + 2) = (i : Int) + 2 := by rw [IntKind.wrap_i64]; omega
  have k8 : (l.length : Int) ≤ (c : Int) := by omega
  have k9 : (i : Int) ≤ (c : Int) := by omega
  clear hr hp hs hcell h1 h2
  have hS2 := Lib.hid (fun (w' : World) (h : RI w' (.slice (some ⟨g, o, none⟩) l.length c) l) => show RI w' (.slice (if c = ((i : Int) + 2).toNat then some ⟨g, o, none⟩ else some ⟨g, o + ((i : Int) + 2).toNat, none⟩) (l.length - ((i : Int) + 2).toNat) (c - ((i : Int) + 2).toNat)) (l.drop (i + 2)) from by
    rw [show ((i : Int) + 2).toNat = i + 2 by omega]
    refine RR.drop h (i + 2) (by omega) _ (fun g' o' e hlt => ?_) (fun e => ?_)
    · injection e with e; injection e with e1 e2; subst e1; subst e2
      rw [if_neg (by omega), Nat.mul_one]
    · split at e <;> cases e)
  have hl1 : ((l.take i).length : Int) + 1 ≤ 1000000000 := by rw [List.length_take]; omega
  have hl2 : ((l.take i ++ [l.getD i 0 + l.getD (i + 1) 0]).length : Int) + ((l.drop (i + 2)).length : Int) ≤ 1000000000 := by rw [List.length_append, List.length_take, List.length_drop, List.length_singleton]; omega
  have HL1 := Lib.hid hl1
  have HL2 := Lib.hid hl2
  have hi := Lib.hid (show i ≤ l.length by omega)
  clear hl1 hl2
  generalize l.getD i 0 = x at *
  generalize l.getD (i + 1) 0 = y at *
  go_enter Try.func11, Try.ntmps11
  go_wp2_with fail
  refine (q.out).mono ?_
  rintro e w1 ⟨rfl, x1⟩
  simp only [placeV]
  have X1 := Lib.hid x1
  have c1 := up_cell (W := w1.drew) (show w1.cell? ⟨g, o + i, none⟩ = some (.int .i64 x) from Go.cell_later x1 d1.out)
  have c2 := up_cell (W := w1.drew) (show w1.cell? ⟨g, o + (i + 1), none⟩ = some (.int .i64 y) from Go.cell_later x1 d2.out)
  clear x1
  go_wp2_with fail
  refine wp_region_v [17, 18, 19, 20] _ rfl (by kernel_rfl) ?_
  dsimp only [List.length_cons, List.length_nil]
  refine v_late ?_
  iterate 3
    (refine v_want (by kernel_rfl) (by kernel_rfl) (by kernel_rfl) (fun _ _ _ _ h => h) (by kernel_rfl) (by kernel_rfl) (fun K hK => ?_)
     go_simp
     (refine hK _ ?_; clear hK K))
  refine v_late ?_
  iterate 10
    (refine v_want (by kernel_rfl) (by kernel_rfl) (by kernel_rfl) (fun _ _ _ _ h => h) (by kernel_rfl) (by kernel_rfl) (fun K hK => ?_)
     go_simp
     (refine hK _ ?_; clear hK K))
  refine v_late ?_
  refine v_late ?_
  iterate 4
    (refine v_pure (by kernel_rfl) (by kernel_rfl) (by kernel_rfl) (fun _ _ _ _ h => h) (by kernel_rfl) (fun K hK => ?_)
     go_simp
     (refine hK _ ?_; clear hK K))
  refine v_rest ?_
  have HR0 := HR.out.ext X1.out.drew
  have HR1 := Lib.hid (RI.take HR0 i hi.out)
  have HR2 := Lib.hid (hS2.out _ HR0)
  clear hS2 HR0
  generalize Value.slice (if c = ((i : Int) + 2).toNat then some (⟨g, o, none⟩ : Addr) else some ⟨g, o + ((i : Int) + 2).toNat, none⟩) (l.length - ((i : Int) + 2).toNat) (c - ((i : Int) + 2).toNat) = S2 at *
  refine v_app3 (m := 1) (te := 3) (csA := #[]) (csC := #[.int .i64 (x + y)]) (iA := 0) (iB := 4) (iC := 15) (iD := 16) (iE := 21)
    (fun v w' => IW w' w1.heap.size v (l.take i)) (fun v w' => IW w' w1.heap.size v (l.take i ++ [x + y])) (fun v w' => IW w' w1.heap.size v (weldW l i))
    rfl rfl rfl rfl rfl rfl rfl rfl rfl rfl (fun d h => by cases h; decide) (fun d h => by cases h; decide)
    (by kernel_rfl) (by kernel_rfl) (by kernel_rfl) (by kernel_rfl) (by kernel_rfl) (by kernel_rfl) (by kernel_rfl) (by kernel_rfl) (by kernel_rfl) (by decide) (by decide)
    (fun v w w' h hx => h.ext hx)
    (fun u => ⟨BsAt.of (vs := #[]) 22 #[] rfl rfl run_bs0, BsAt.of (vs := #[]) 22 #[] rfl rfl run_bs0⟩)
    (fun gA u a' ha w' hx hle hb => ?_)
    (fun gA v a' ha => ?_)
    (fun gA gC v w' hx h1 hb => ?_)
    (fun gA gC v1 v2 w' hx h2 => ?_)
    (fun v w w' h hx => h.ext hx)
    (fun gA gC v1 v2 v3 w' hx h3 => ?_)
  · obtain ⟨v', w'', p1, p2, p3⟩ := IW.app0 (B := w1.heap.size) hb hle (HR1.out.ext hx) hx.le (by have := HL1.out; omega)
    refine ⟨v', w'', ?_, p3, p2⟩
    rcases ha with rfl | rfl <;> exact exec_app (.tmp 19) (.tmp 22) 22 rfl rfl rfl rfl p1
  · rcases ha with rfl | rfl | rfl <;> exact BsAt.of (vs := #[(0, .int .i64 (x + y))]) 22 _ rfl rfl (run_bs1i (x + y))
  · obtain ⟨v', w'', p1, p2, p3⟩ := IW.appS h1 (RI.one hb) hx.le HL1.out
    exact ⟨v', w'', exec_app (.tmp 23) (.tmp 34) 22 rfl rfl rfl rfl p1, Below.trans hx (h1.below hx.le p3), p2⟩
  · obtain ⟨v', w'', p1, p2, p3⟩ := IW.appS h2 (HR2.out.ext hx) hx.le HL2.out
    refine ⟨v', w'', exec_app (.tmp 35) (.tmp 39) 22 rfl rfl rfl rfl p1, Below.trans hx (h2.below hx.le p3), ?_⟩
    rw [List.append_assoc, List.singleton_append, HW.out] at p2
    exact p2
  · have HX := Lib.hid (X1.out.drew.trans hx)
    have H3 := Lib.hid h3
    obtain ⟨a3, c3, rfl, _, _⟩ := h3.shape
    have hB := Lib.hid X1.out.le
    clear hx h3 HR1 HR2 HL1 HL2 q d1 d2 HR c1 c2
    refine v_one 22 (by kernel_rfl) rfl (by kernel_rfl) fun y1 K hK => ?_
    go_simp
    refine hK _ _ (fun _ => Ext.refl _) ?_
    clear hK K
    refine v_one 23 (by kernel_rfl) rfl (by kernel_rfl) fun y2 K hK => ?_
    go_simp
    refine hK _ _ (fun _ => Ext.refl _) ?_
    clear hK K
    refine v_done (by kernel_rfl) fun y3 => ?_
    go_wp2
    go_ret2
    have hxx := (y1.ext.trans y2.ext).trans y3.ext
    exact ⟨_, rfl, HX.out.trans hxx, (H3.out.ext hxx).mono hB.out⟩

theorem rStep_any (l : List Int) (t : Int) (v : Value) (w : World) (hr : RI w v l) (hl : (l.length : Int) ≤ 1000000000) :
    Calls Try.prog 11 #[v, .int .i64 t] w fun e w' => ∃ v', e = .returned (.tuple #[v', .bool (pf l t 0).isSome]) ∧ Ext w w' ∧ IW w' w.heap.size v' (stepL l t) := by
  unfold stepL
  cases hp : pf l t 0 with
  | none => exact rStep_no l t v w hr hl hp
  | some i => exact rStep_yes l t i v w hr hl hp

set_option maxRecDepth 20000 in
set_option maxHeartbeats 2000000 in
theorem rPlan_any (l : List Int) (t : Int) (v : Value) (w : World) (hr : RI w v l) (hl : (l.length : Int) ≤ 1000000000) :
    Calls Try.prog 13 #[v, .int .i64 t] w fun e w' => ∃ v', e = .returned (.tuple #[v', .int .i64 ((planL l t).2 : Int)]) ∧ Ext w w' ∧ IW w' w.heap.size v' (planL l t).1 := by
  have HR := Lib.hid hr
  obtain ⟨a, c, rfl, _, _, _⟩ := hr.shape
  clear hr
  go_enter Try.func13, Try.ntmps13
  go_wp2
  go_loopw [0, 6] (fun v n wr => ∃ (cur : List Int) (k : Nat), n = .int .i64 (k : Int) ∧ RI wr v cur ∧ Ext w wr ∧ k + cur.length = l.length ∧ planL l t = ((planL cur t).1, k + (planL cur t).2)) (fun v _ _ => lenV v)
  case atStart => exact ⟨l, 0, rfl, HR.out, Ext.refl _, by omega, by rw [Nat.zero_add]⟩
  case round =>
    obtain ⟨cur, k, rfl, hr, hx, hk, hpl⟩ := hrel
    have hc : (cur.length : Int) ≤ 1000000000 := by omega
    have q := rStep_any cur t _ wr hr hc
    obtain ⟨a, c, rfl, _, _, _⟩ := hr.shape
    have HX := Lib.hid hx
    have PL := Lib.hid hpl
    have e2 : IntKind.i64.wrap ((k : Int) + 1) = (k : Int) + 1 := by rw [IntKind.wrap_i64]; omega
    clear hr hx hpl HR
    unfold stepL at q
    cases hp : pf cur t 0 with
    | none =>
      rw [hp] at q
      have q := Lib.hid q
      have HE := Lib.hid (planL_none hp)
      clear hp
      go_wp2_with fail
      refine (q.out).mono ?_
      rintro e w2 ⟨v2, rfl, x2, i2⟩
      simp only [Option.isSome]
      obtain ⟨a2, c2, rfl, _, _⟩ := i2.shape
      have X2 := Lib.hid x2
      have I2 := Lib.hid i2
      clear x2 i2
      go_wp2
      go_ret2
      have h1 := PL.out
      rw [HE.out] at h1
      rw [h1]
      exact ⟨_, rfl, HX.out.trans X2.out, I2.out.mono HX.out.le⟩
    | some i =>
      rw [hp] at q
      have q := Lib.hid q
      have HE := Lib.hid (planL_some hp)
      have HI := Lib.hid (pf_some hp).2.1
      have HL := Lib.hid (weldW_length (pf_some hp).2.1)
      clear hp
      go_wp2_with fail
      refine (q.out).mono ?_
      rintro e w2 ⟨v2, rfl, x2, i2⟩
      simp only [Option.isSome]
      have R2 := Lib.hid i2.ri
      obtain ⟨a2, c2, rfl, _, _⟩ := i2.shape
      have X2 := Lib.hid x2
      clear x2 i2
      go_wp2
      go_roundw
      case rel => exact ⟨weldW cur i, k + 1, by go_num, R2.out, HX.out.trans X2.out, by have := HI.out; rw [HL.out]; omega, by rw [PL.out, HE.out]; simp only [Prod.mk.injEq, true_and]; omega⟩
      case measure => have := HI.out; simp [lenV]; rw [HL.out]; omega
end Go.Proofs.Ytlphhpngbnnjgaa
