/- suffix: Common. -/
import Derived.Test.YteflhfofahdckaaSufO
import Derived.Test.YteflhfofahdckaaSufR
import Derived.Test.YteflhfofahdckaaSufP
namespace Go.Proofs.Yteflhfofahdckaa
set_option linter.unusedVariables false
set_option linter.unusedSimpArgs false
open Go.RowKit
attribute [local go_sem] S_size S_toList S_extract S_beq S_bne S_empty S_nil

/-- Common, as far as it has been laid -/
def ComTo (s : List UInt8) (ar : List Int) (o : List Nat) (k : Nat) : Prop :=
  o.length = ar.length ∧ ∀ i, i < ar.length → o.getD i 0 = if placeN ar i < k then comAt s ar i else 0
theorem ComTo.start {s : List UInt8} {ar : List Int} : ComTo s ar (List.replicate ar.length 0) 0 := by
  refine ⟨by simp, fun i hi => ?_⟩
  rw [if_neg (by omega), List.getD_eq_getElem?_getD, List.getElem?_replicate, if_pos hi]; rfl
theorem getD_setN {r : List Nat} {i j : Nat} {u : Nat} (hi : i < r.length) : (r.set i u).getD j 0 = if j = i then u else r.getD j 0 := by
  rw [List.getD_eq_getElem?_getD, List.getElem?_set]
  by_cases h : i = j
  · subst h; simp [hi]
  · rw [if_neg h, if_neg (fun e => h e.symm), List.getD_eq_getElem?_getD]
/-- where place k stands -/
theorem rk_at {ar : List Int} (h : okP ar = true) {k : Nat} (hk : k < ar.length) : (rkL ar).getD k 0 < ar.length ∧ placeN ar ((rkL ar).getD k 0) = k ∧ ∀ i, i < ar.length → placeN ar i = k → i = (rkL ar).getD k 0 := by
  obtain ⟨i, hi, e⟩ := okP_at h hk
  have e2 := (rkL_are h).2 i hi
  rw [e, Int.toNat_natCast] at e2
  refine ⟨by omega, by unfold placeN; rw [e2, e, Int.toNat_natCast], fun j hj hp => ?_⟩
  rw [e2]
  refine okP_inj (of_decide_eq_true h).2 hj hi ?_
  have := okP_in h hj
  unfold placeN at hp
  omega
theorem ComTo.step {s : List UInt8} {ar : List Int} {o : List Nat} {k : Nat} (h : ComTo s ar o k) (ho : okP ar = true) (hk : k < ar.length) :
    ComTo s ar (o.set ((rkL ar).getD k 0) (comAt s ar ((rkL ar).getD k 0))) (k + 1) := by
  obtain ⟨h1, h2, h3⟩ := rk_at ho hk
  refine ⟨by rw [List.length_set, h.1], fun i hi => ?_⟩
  rw [getD_setN (by rw [h.1]; exact h1)]
  by_cases e : i = (rkL ar).getD k 0
  · rw [if_pos e, e, h2, if_pos (by omega)]
  · rw [if_neg e, h.2 i hi]
    have : placeN ar i ≠ k := fun e2 => e (h3 i hi e2)
    by_cases h4 : placeN ar i < k
    · rw [if_pos h4, if_pos (by omega)]
    · rw [if_neg h4, if_neg (by omega)]
theorem ComTo.step0 {s : List UInt8} {ar : List Int} {o : List Nat} {k : Nat} (h : ComTo s ar o k) (ho : okP ar = true) (hk : k < ar.length) (h0 : (rkL ar).getD k 0 = 0) : ComTo s ar o (k + 1) := by
  obtain ⟨h1, h2, h3⟩ := rk_at ho hk
  rw [h0] at h1 h2 h3
  refine ⟨h.1, fun i hi => ?_⟩
  rw [h.2 i hi]
  by_cases e : placeN ar i = k
  · have := h3 i hi e
    subst this
    rw [if_neg (by omega), if_pos (by omega)]; rfl
  · by_cases h4 : placeN ar i < k
    · rw [if_pos h4, if_pos (by omega)]
    · rw [if_neg h4, if_neg (by omega)]
theorem ComTo.done {s : List UInt8} {ar : List Int} {o : List Nat} (h : ComTo s ar o ar.length) (ho : okC s ar = true) : o = comL s ar := by
  unfold comL
  rw [if_pos ho]
  have hp : okP ar = true := by
    unfold okC at ho
    rw [Bool.and_eq_true] at ho; exact ho.1
  refine List.ext_getElem (by simp [h.1]) fun i h1 h2 => ?_
  have hi : i < ar.length := by rw [← h.1]; exact h1
  have e := h.2 i hi
  have := okP_in hp hi
  rw [if_pos (by unfold placeN; omega), getD_lt h1] at e
  rw [e]; simp
theorem com_false {s : List UInt8} {ar : List Int} (h : okC s ar = false) : comE s ar = 2 ∧ comL s ar = [] := by
  unfold comE comL; rw [h]; exact ⟨rfl, rfl⟩
theorem com_true {s : List UInt8} {ar : List Int} (h : okC s ar = true) : comE s ar = 0 := by
  unfold comE; rw [h]; rfl
theorem alikeN_comm : ∀ a b : List UInt8, alikeN a b = alikeN b a
  | [], [] => rfl
  | [], y :: b => rfl
  | x :: a, [] => rfl
  | x :: a, y :: b => by
    unfold alikeN
    by_cases e : x = y
    · rw [if_pos e, if_pos e.symm, alikeN_comm a b]
    · rw [if_neg e, if_neg (fun h => e h.symm)]

set_option maxRecDepth 20000 in
set_option maxHeartbeats 4000000 in
theorem common_any (s : List UInt8) (ar : List Int) (v : Value) (w : World) (hr : RI w v ar) (hl : (ar.length : Int) ≤ 30000) (hs : (s.length : Int) ≤ 30000) :
    Calls Try.prog 29 #[.string (S s), v] w fun e w' => ∃ u, e = .returned (.tuple #[u, .int .i64 (comE s ar)]) ∧ Ext w w' ∧ RI w' u (toI (comL s ar)) := by
  obtain ⟨a, c, rfl, hlc, _, hsh⟩ := hr.shape
  have HS := Lib.hid hsh
  have HR := Lib.hid hr
  have HK := Lib.hid (ranks_any ar _ w hr hl)
  clear hsh hr
  go_enter Try.func29, Try.ntmps29
  go_wp2_with fail
  refine HK.out.mono ?_
  rintro e w1 ⟨u, rfl, x1, hru⟩
  have X1 := Lib.hid x1
  cases hp : okP ar with
  | false =>
    have HF := Lib.hid (com_false (s := s) (ar := ar) (by unfold okC; rw [hp]; rfl))
    rw [(rk_false hp).1]
    clear hru x1 HK
    go_wp2
    go_ret2
    exact ⟨_, by rw [HF.out.1]; rfl, X1.out, by rw [HF.out.2]; exact RI.nil _⟩
  | true =>
    rw [rk_true hp]
    by_cases hlen : ar.length = s.length + 1
    · have hok : okC s ar = true := by unfold okC; rw [hp, Bool.true_and]; exact decide_eq_true hlen
      have hrl : (toI (rkL ar)).length = ar.length := by rw [toI_length]; exact (rkL_are hp).1
      obtain ⟨au, cu, rfl, hlu, _, hsu⟩ := hru.shape
      rw [hrl] at hlu hsu
      rw [hrl]
      have HU := Lib.hid hsu
      have hmk := make_run w1 ar.length (by omega) _ rfl
      have H0 := Lib.hid (NW.make w1 ar.length (by omega))
      have HC0 := Lib.hid (ComTo.start (s := s) (ar := ar))
      have HP := Lib.hid hp
      have HOK := Lib.hid hok
      have hbb : ((ar.length : Int) != (s.length : Int) + 1) = false := bne_eq_false_iff_eq.2 (by omega)
      have W1 := w64_small (n := (s.length : Int) + 1) (by omega) (by omega)
      have HLEN := Lib.hid hlen
      clear hru x1 hsu hp hok HK hlen hrl
      go_wp2
      clear hmk
      go_loopw [31] (fun i wr => ∃ (k : Nat) (o : List Nat), k ≤ ar.length ∧ i = .int .i64 (k : Int) ∧ NW wr w1.heap.size w1.heap.size ar.length o ∧ ComTo s ar o k ∧ Ext w1 wr) (fun i _ => ar.length - (intOf i).toNat)
      case atStart => exact ⟨0, _, by omega, rfl, H0.out, HC0.out, (Ext.refl _).alloc _⟩
      case round =>
        obtain ⟨k, o, hk, rfl, hw, hco, hx⟩ := hrel
        by_cases hlt : k < ar.length
        · obtain ⟨gu, ou, rfl, hcu⟩ := HU.out (by omega)
          have cu' := Go.cell_later hx (hcu k hlt)
          rw [toI_getD] at cu'
          have hat := rk_at HP.out hlt
          have HX := Lib.hid hx
          have hki : (k : Int) < (ar.length : Int) := by omega
          have hci : (ar.length : Int) ≤ (cu : Int) := by omega
          by_cases h0 : (rkL ar).getD k 0 = 0
          · have HST := Lib.hid (hco.step0 HP.out hlt h0)
            have HW := Lib.hid hw
            rw [h0] at cu'
            clear hw hco hx hcu hat
            go_wp2
            go_roundw
            case rel => exact ⟨k + 1, _, by omega, by go_num, HW.out, HST.out, HX.out⟩
            case measure => simp [intOf]; omega
          · have HST := Lib.hid (hco.step HP.out hlt)
            generalize hi : (rkL ar).getD k 0 = i at *
            obtain ⟨j, rfl⟩ : ∃ j, i = j + 1 := ⟨i - 1, by omega⟩
            obtain ⟨hil, hpl, _⟩ := hat
            have hin := okP_in HP.out (i := j) (by omega)
            obtain ⟨q, hq⟩ : ∃ q : Nat, ar.getD j 0 = (q : Int) := ⟨(ar.getD j 0).toNat, by omega⟩
            have hcom : comAt s ar (j + 1) = alikeN (s.drop k) (s.drop q) := by
              unfold comAt endAt
              rw [if_neg (by omega), hpl]
              unfold placeN
              rw [show j + 1 - 1 = j from rfl, hq, Int.toNat_natCast]
            rw [hcom] at HST
            obtain ⟨ga, oa, rfl, hca⟩ := HS.out (by omega)
            have cq := Go.cell_later (X1.out.trans hx) (hca j (by omega))
            rw [hq] at cq
            have hLE := Lib.hid (show k ≤ s.length ∧ q ≤ s.length by have := HLEN.out; omega)
            have QA := Lib.hid (fun (x : Up wr.drew) => alike_any (s.drop k) (s.drop q) x.val (by rw [List.length_drop]; omega) (by rw [List.length_drop]; omega))
            have HSS := Lib.hid (fun (x : Up wr.drew) => (hw.ext (Ext.refl wr).drew).ext x.ext |>.set (j + 1) (alikeN (s.drop k) (s.drop q)))
            have HX2 := Lib.hid (fun (x : Up wr.drew) => Ext.set ((hx.drew).trans x.ext) (p := ⟨w1.heap.size, j + 1, none⟩) (Nat.le_refl _) (.int .i64 (alikeN (s.drop k) (s.drop q) : Int)))
            have CQ := Lib.hid (up_cell (W := wr.drew) cq)
            have CO := Lib.hid (fun (x : Up wr.drew) => ((hw.ext (Ext.refl wr).drew).ext x.ext).cell (j + 1) hil)
            have FO := Lib.hid (fun (x : Up wr.drew) => ((hw.ext (Ext.refl wr).drew).ext x.ext).free (j + 1) hil)
            have hjn : (j : Int) + 1 < (ar.length : Int) := by omega
            have hjl : (j : Int) < (ar.length : Int) := by omega
            have hac : (ar.length : Int) ≤ (c : Int) := by omega
            have hkl : (k : Int) ≤ (s.length : Int) := by have := hLE.out; omega
            have hql : (q : Int) ≤ (s.length : Int) := by have := hLE.out; omega
            have ew : IntKind.i64.wrap (j : Int) = (j : Int) := IntWalk.i64_in _ (by omega)
            have ew2 : (0 : Int) ≤ (j : Int) + 1 := by omega
            have ew3 : (0 : Int) < (j : Int) + 1 := by omega
            rw [show ((j + 1 : Nat) : Int) = (j : Int) + 1 from rfl] at cu'
            clear hw hco hx hcu hpl hin hcom hca cq hq hi h0 hil
            generalize alikeN (s.drop k) (s.drop q) = al at *
            generalize o.getD (j + 1) 0 = old at *
            go_wp2_with fail
            refine wp_region_lex _ rfl (by kernel_rfl) ?_
            dsimp only [List.length_cons, List.length_nil]
            have cq := CQ.out
            iterate 14
              (refine lex_want (by kernel_rfl) (by kernel_rfl) (by kernel_rfl) (by kernel_rfl) (fun _ _ _ _ h => h) (by kernel_rfl) (fun K hK => ?_)
               go_simp
               first
                 | (refine hK _ ?_; clear hK K)
                 | (apply Exists.intro
                    refine ⟨fun _ => ?_, hK _ ?_⟩
                    (go_at_call 43; exact QA.out _)
                    clear hK K))
            refine lex_last (by kernel_rfl) (by kernel_rfl) (by kernel_rfl) (by kernel_rfl) (by kernel_rfl) (fun x K hK => ?_)
            have p1 := CO.out x
            have p2 := FO.out x
            go_simp
            refine hK _ _ (fun y => ?_)
            have hy := Lib.hid ((HSS.out x).ext y.ext)
            have hx3 := Lib.hid ((HX2.out x).trans y.ext)
            clear hK p1 p2 cq CQ CO FO QA HSS HX2
            go_wp2
            go_roundw
            case rel => exact ⟨k + 1, _, by omega, by go_num, hy.out, HST.out, hx3.out⟩
            case measure => simp [intOf]; omega
        · have e : k = ar.length := by omega
          subst e
          have HD := Lib.hid (hco.done HOK.out)
          have HE := Lib.hid (com_true HOK.out)
          have HI := Lib.hid hw.rn.ri
          have HX := Lib.hid (X1.out.trans hx)
          clear hco hw hx hlt hk
          go_wp2
          go_ret2
          exact ⟨_, by rw [HE.out]; rfl, HX.out, by rw [← HD.out]; exact HI.out⟩
    · have HF := Lib.hid (com_false (s := s) (ar := ar) (by unfold okC; rw [hp, Bool.true_and]; exact decide_eq_false hlen))
      have hl2 : ¬ (ar.length : Int) = (s.length : Int) + 1 := by omega
      have W1 := w64_small (n := (s.length : Int) + 1) (by omega) (by omega)
      have hbb : ((ar.length : Int) != (s.length : Int) + 1) = true := by simpa using hl2
      clear hru x1 HK hp hlen hl2
      go_wp2
      go_ret2
      exact ⟨_, by rw [HF.out.1]; rfl, X1.out, by rw [HF.out.2]; exact RI.nil _⟩
end Go.Proofs.Yteflhfofahdckaa
