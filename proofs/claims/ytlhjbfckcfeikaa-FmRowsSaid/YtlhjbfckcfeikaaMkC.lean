/- Several texts in one. merged: SufQ SufR SufS SufT SufU SufV SufW SufX SufFp -/
import Derived.Test.YtlhjbfckcfeikaaMkB
import Derived.Test.YtlhjbfckcfeikaaAppV
import Derived.Test.YtlhjbfckcfeikaaGen
import Derived.Test.YtlhjbfckcfeikaaSameR
namespace Go.Proofs.Ytlhjbfckcfeikaa
set_option linter.unusedVariables false
set_option linter.unusedSimpArgs false
open Go.RowKit

attribute [local go_sem] S_size S_toList S_append S_extract S_beq S_bne S_empty S_nil

theorem take_false {s p : List UInt8} (h : s.length < p.length) : (s.take p.length == p) = false := by
  rw [beq_eq_false_iff_ne]; intro e
  have := congrArg List.length e
  rw [List.length_take] at this; omega
theorem preB_take (p s : List UInt8) : (s.take p.length == p) = preB p s := by
  rw [Bool.eq_iff_iff, beq_iff_eq, preB_iff, List.prefix_iff_eq_take]
  exact ⟨fun h => h.symm, fun h => h.symm⟩

set_option maxRecDepth 20000 in
set_option maxHeartbeats 400000 in
theorem hasPrefix_any (s p : List UInt8) (w : World) (hs : (s.length : Int) ≤ 9223372036854775807) (hp : (p.length : Int) ≤ 9223372036854775807) :
    Calls Try.prog 60 #[.string (S s), .string (S p)] w fun e w' => e = .returned (.bool (s.take p.length == p)) ∧ w = w' := by
  by_cases h : (p.length : Int) ≤ (s.length : Int)
  · by_cases hb : s.take p.length = p
    · have hb' : (s.take p.length == p) = true := by simpa using hb
      clear hb
      go_enter Try.func60, Try.ntmps60
      go_wp2
      go_ret
      exact ⟨by simp [beq_iff_eq.1 hb'], rfl⟩
    · have hb' : (s.take p.length == p) = false := by simpa using hb
      go_enter Try.func60, Try.ntmps60
      go_wp2
      go_ret
      exact ⟨by simp [hb], rfl⟩
  · have hf := Lib.hid (take_false (s := s) (p := p) (by omega))
    have h' : ¬ (p.length ≤ s.length) := by omega
    go_enter Try.func60, Try.ntmps60
    go_wp2
    go_ret
    exact ⟨by rw [hf.out]; rfl, rfl⟩
set_option maxRecDepth 20000 in
set_option maxHeartbeats 400000 in
theorem strPrefix_any (s p : List UInt8) (w : World) (hs : (s.length : Int) ≤ 9223372036854775807) (hp : (p.length : Int) ≤ 9223372036854775807) :
    Calls Try.prog 46 #[.string (S s), .string (S p)] w fun e w' => e = .returned (.bool (preB p s)) ∧ w = w' := by
  have HC := Lib.hid (hasPrefix_any s p w hs hp)
  go_enter Try.func46, Try.ntmps46
  go_wp2_with (go_at_call 60; refine HC.out.mono ?_; rintro e w' ⟨rfl, rfl⟩)
  go_ret
  exact ⟨by rw [preB_take]; rfl, rfl⟩

/-- a function value that tells whether -/
def PredAt (fv : Value) (P : Nat → Bool) (n : Nat) (w : World) : Prop :=
  ∃ (f : FuncId) (cap : Array Value), fv = .func (.func f) #[] cap ∧ (∀ (xs : Array Value) (W : World), (callFunc f xs).run Try.prog W = .ok (.enter f xs) W) ∧ ∀ W, Ext w W → ∀ i : Nat, i < n → Calls Try.prog f (#[.int .i64 (i : Int)] ++ cap) W fun e W' => e = .returned (.bool (P i)) ∧ Ext W W'

set_option maxRecDepth 20000 in
set_option maxHeartbeats 4000000 in
theorem search_any (P : Nat → Bool) (n : Nat) (fv : Value) (w : World) (hp : PredAt fv P n w) (hn : (n : Int) ≤ 100000) (hm : ∀ i j, i ≤ j → j < n → P i = true → P j = true) :
    Calls Try.prog 43 #[.int .i64 (n : Int), fv] w fun e w' => ∃ r : Nat, e = .returned (.int .i64 (r : Int)) ∧ FirstOf P n r ∧ Ext w w' := by
  obtain ⟨f, cap, rfl, hcf, hq⟩ := hp
  have HQ := Lib.hid hq
  have HM := Lib.hid hm
  clear hq hm
  go_enter Try.func43, Try.ntmps43
  go_wp2
  go_loopw [5, 6] (fun x y wr => ∃ (i j : Nat), x = .int .i64 (i : Int) ∧ y = .int .i64 (j : Int) ∧ i ≤ j ∧ j ≤ n ∧ (∀ k, k < i → P k = false) ∧ (∀ k, j ≤ k → k < n → P k = true) ∧ Ext w wr) (fun x y _ => (intOf y).toNat - (intOf x).toNat)
  case atStart => exact ⟨0, n, rfl, rfl, by omega, by omega, fun k hk => by omega, fun k h1 h2 => by omega, Ext.refl _⟩
  case round =>
    obtain ⟨i, j, rfl, rfl, hij, hjn, hlo, hhi, hx⟩ := hrel
    have HX := Lib.hid hx
    have HLO := Lib.hid hlo
    have HHI := Lib.hid hhi
    clear hx hlo hhi
    by_cases hlt : i < j
    · obtain ⟨q, hqe⟩ : ∃ q, q = (i + j) / 2 := ⟨_, rfl⟩
      have e1 : IntKind.i64.wrap ((i : Int) + (j : Int)) = (i : Int) + (j : Int) := IntWalk.i64_in _ (by omega)
      have hq1 : i ≤ q := by omega
      have hq2 : q < j := by omega
      have hsum : ((i : Int) + (j : Int)) / 2 = (q : Int) := by omega
      have HE := Lib.hid hqe
      clear hqe
      have HQQ := Lib.hid (HQ.out wr HX.out q (by omega))
      cases hP : P q with
      | false =>
        have HST := Lib.hid (show ∀ k, k < q + 1 → P k = false from fun k hk => by
          cases hk2 : P k with
          | false => rfl
          | true => have := HM.out k q (by omega) (by omega) hk2; rw [hP] at this; cases this)
        rw [hP] at HQQ
        go_wp2_with fail
        refine HQQ.out.mono ?_
        rintro e w1 ⟨rfl, x1⟩
        have HX2 := Lib.hid (HX.out.trans x1)
        clear x1
        go_wp2
        go_roundw
        case rel => exact ⟨q + 1, j, by go_num, rfl, by omega, by omega, HST.out, HHI.out, HX2.out⟩
        case measure => simp [intOf]; omega
      | true =>
        have HST := Lib.hid (show ∀ k, q ≤ k → k < n → P k = true from fun k h1 h2 => HM.out q k h1 h2 hP)
        rw [hP] at HQQ
        go_wp2_with fail
        refine HQQ.out.mono ?_
        rintro e w1 ⟨rfl, x1⟩
        have HX2 := Lib.hid (HX.out.trans x1)
        clear x1
        go_wp2
        go_roundw
        case rel => exact ⟨i, q, rfl, rfl, by omega, by omega, HLO.out, HST.out, HX2.out⟩
        case measure => simp [intOf]; omega
    · have e : i = j := by omega
      subst e
      go_wp2
      go_ret
      exact ⟨i, rfl, ⟨hjn, HLO.out, HHI.out⟩, HX.out⟩

set_option maxRecDepth 20000 in
set_option maxHeartbeats 4000000 in
theorem geAt_any (s what : List UInt8) (ar : List Int) (i g1 g2 g3 : Nat) (v : Value) (w : World) (h1 : Blk w g1 9 #[.string (S s)]) (h2 : Blk w g2 31 #[v]) (h3 : Blk w g3 9 #[.string (S what)]) (hr : RI w v ar)
    (hi : i < ar.length) (h0 : 0 ≤ ar.getD i 0 ∧ ar.getD i 0 ≤ (s.length : Int)) (hs : (s.length : Int) ≤ 1000000) (hw : (what.length : Int) ≤ 1000000) :
    Calls Try.prog 44 #[.int .i64 (i : Int), .pointer (some ⟨g1, 0, none⟩), .pointer (some ⟨g2, 0, none⟩), .pointer (some ⟨g3, 0, none⟩)] w fun e w' => e = .returned (.bool (geAt s ar what i)) ∧ Ext w w' := by
  obtain ⟨a, c, rfl, hlc, _, hcell⟩ := hr.shape
  obtain ⟨g, o, rfl, hc⟩ := hcell (by omega)
  have hci := hc i hi
  obtain ⟨p, hp⟩ : ∃ p : Nat, ar.getD i 0 = (p : Int) := ⟨(ar.getD i 0).toNat, by omega⟩
  have hG := Lib.hid (show geAt s ar what i = !Op.bytesLess (s.drop p) what from by unfold geAt endAt placeN; rw [hp, Int.toNat_natCast])
  rw [hp] at hci h0
  have c1 := up_cell (W := w) (h1.cell 0)
  have c2 := up_cell (W := w) (h2.cell 0)
  have c3 := up_cell (W := w) (h3.cell 0)
  have c4 := up_cell (W := w) hci
  have k1 : (i : Int) < (ar.length : Int) := by omega
  have k2 : (p : Int) ≤ (s.length : Int) := h0.2
  have k3 : (ar.length : Int) ≤ (c : Int) := by omega
  clear hcell hc hci hr h1 h2 h3 hp h0
  go_enter Try.func44, Try.ntmps44
  go_wp2_with fail
  refine wp_region_up (by kernel_rfl) (by kernel_rfl) ?_
  repeat (go_big_quiet_step (fail))
  refine wpQuiet_nil ?_
  rintro _ ⟨y2, rfl⟩
  have HXW := Lib.hid y2.ext
  generalize y2.val = w3 at *
  go_wp2
  go_ret
  exact ⟨by rw [hG.out]; rfl, HXW.out⟩
end Go.Proofs.Ytlhjbfckcfeikaa
namespace Go.Proofs.Ytlhjbfckcfeikaa
set_option linter.unusedVariables false
set_option linter.unusedSimpArgs false
open Go.RowKit

theorem mr_setI (n k : Nat) (u : Int) (f : Nat → Int) : ((List.range n).map f).set k u = (List.range n).map fun j => if j = k then u else f j := by
  apply List.ext_getElem?
  intro i
  rw [List.getElem?_set]
  by_cases hi : i < n
  · by_cases e : k = i
    · subst e; simp [hi]
    · rw [if_neg e]
      simp [hi, List.getElem?_range, show ¬ i = k from fun h => e h.symm]
  · by_cases e : k = i
    · subst e; simp [hi]
    · rw [if_neg e]; simp [hi]

end Go.Proofs.Ytlhjbfckcfeikaa
namespace Go.Proofs.Ytlhjbfckcfeikaa
set_option linter.unusedVariables false
set_option linter.unusedSimpArgs false
open Go.RowKit

attribute [local go_sem] S_size S_toList S_extract S_beq S_bne S_empty S_nil

/-- Common, as far as it has been laid -/
def ComTo (s : List UInt8) (ar : List Int) (o : List Nat) (k : Nat) : Prop :=
  o.length = ar.length ∧ ∀ i, i < ar.length → o.getD i 0 = if placeN ar i < k then comAt s ar i else 0
theorem ComTo.start {s : List UInt8} {ar : List Int} : ComTo s ar (List.replicate ar.length 0) 0 := by
  refine ⟨by simp, fun i hi => ?_⟩
  rw [if_neg (by omega), List.getD_eq_getElem?_getD, List.getElem?_replicate, if_pos hi]; rfl
theorem getD_setN {r : List Nat} {i j : Nat} {u : Nat} (hi : i < r.length) : (r.set i u).getD j 0 = if j = i then u else r.getD j 0 := by
  rw [List.getD_eq_getElem?_getD, List.getElem?_set]
  by_cases h : i = j
  · subst h; simp [hi]
  · rw [if_neg h, if_neg (fun e => h e.symm), List.getD_eq_getElem?_getD]
/-- where place k stands -/
theorem rk_at {ar : List Int} (h : okP ar = true) {k : Nat} (hk : k < ar.length) : (rkL ar).getD k 0 < ar.length ∧ placeN ar ((rkL ar).getD k 0) = k ∧ ∀ i, i < ar.length → placeN ar i = k → i = (rkL ar).getD k 0 := by
  obtain ⟨i, hi, e⟩ := okP_at h hk
  have e2 := (rkL_are h).2 i hi
  rw [e, Int.toNat_natCast] at e2
  refine ⟨by omega, by unfold placeN; rw [e2, e, Int.toNat_natCast], fun j hj hp => ?_⟩
  rw [e2]
  refine okP_inj (of_decide_eq_true h).2 hj hi ?_
  have := okP_in h hj
  unfold placeN at hp
  omega
theorem ComTo.step {s : List UInt8} {ar : List Int} {o : List Nat} {k : Nat} (h : ComTo s ar o k) (ho : okP ar = true) (hk : k < ar.length) :
    ComTo s ar (o.set ((rkL ar).getD k 0) (comAt s ar ((rkL ar).getD k 0))) (k + 1) := by
  obtain ⟨h1, h2, h3⟩ := rk_at ho hk
  refine ⟨by rw [List.length_set, h.1], fun i hi => ?_⟩
  rw [getD_setN (by rw [h.1]; exact h1)]
  by_cases e : i = (rkL ar).getD k 0
  · rw [if_pos e, e, h2, if_pos (by omega)]
  · rw [if_neg e, h.2 i hi]
    have : placeN ar i ≠ k := fun e2 => e (h3 i hi e2)
    by_cases h4 : placeN ar i < k
    · rw [if_pos h4, if_pos (by omega)]
    · rw [if_neg h4, if_neg (by omega)]
theorem ComTo.step0 {s : List UInt8} {ar : List Int} {o : List Nat} {k : Nat} (h : ComTo s ar o k) (ho : okP ar = true) (hk : k < ar.length) (h0 : (rkL ar).getD k 0 = 0) : ComTo s ar o (k + 1) := by
  obtain ⟨h1, h2, h3⟩ := rk_at ho hk
  rw [h0] at h1 h2 h3
  refine ⟨h.1, fun i hi => ?_⟩
  rw [h.2 i hi]
  by_cases e : placeN ar i = k
  · have := h3 i hi e
    subst this
    rw [if_neg (by omega), if_pos (by omega)]; rfl
  · by_cases h4 : placeN ar i < k
    · rw [if_pos h4, if_pos (by omega)]
    · rw [if_neg h4, if_neg (by omega)]
theorem ComTo.done {s : List UInt8} {ar : List Int} {o : List Nat} (h : ComTo s ar o ar.length) (ho : okC s ar = true) : o = comL s ar := by
  unfold comL
  rw [if_pos ho]
  have hp : okP ar = true := by
    unfold okC at ho
    rw [Bool.and_eq_true] at ho; exact ho.1
  refine List.ext_getElem (by simp [h.1]) fun i h1 h2 => ?_
  have hi : i < ar.length := by rw [← h.1]; exact h1
  have e := h.2 i hi
  have := okP_in hp hi
  rw [if_pos (by unfold placeN; omega), getD_lt h1] at e
  rw [e]; simp
theorem com_false {s : List UInt8} {ar : List Int} (h : okC s ar = false) : comE s ar = 2 ∧ comL s ar = [] := by
  unfold comE comL; rw [h]; exact ⟨rfl, rfl⟩
theorem com_true {s : List UInt8} {ar : List Int} (h : okC s ar = true) : comE s ar = 0 := by
  unfold comE; rw [h]; rfl
theorem alikeN_comm : ∀ a b : List UInt8, alikeN a b = alikeN b a
  | [], [] => rfl
  | [], y :: b => rfl
  | x :: a, [] => rfl
  | x :: a, y :: b => by
    unfold alikeN
    by_cases e : x = y
    · rw [if_pos e, if_pos e.symm, alikeN_comm a b]
    · rw [if_neg e, if_neg (fun h => e h.symm)]

end Go.Proofs.Ytlhjbfckcfeikaa
namespace Go.Proofs.Ytlhjbfckcfeikaa
set_option linter.unusedVariables false
set_option linter.unusedSimpArgs false
open Go.RowKit

attribute [local go_sem] S_size S_toList S_extract S_beq S_bne S_empty S_nil

theorem mr_snoc (f : Nat → Nat) (k : Nat) : toI ((List.range k).map f) ++ [(f k : Int)] = toI ((List.range (k + 1)).map f) := by
  unfold toI
  rw [List.range_succ, List.map_append, List.map_append]; rfl
theorem toI_mr_length (f : Nat → Nat) (k : Nat) : (toI ((List.range k).map f)).length = k := by rw [toI_length]; simp

end Go.Proofs.Ytlhjbfckcfeikaa
namespace Go.Proofs.Ytlhjbfckcfeikaa
set_option linter.unusedVariables false
set_option linter.unusedSimpArgs false
open Go.RowKit

attribute [local go_sem] S_size S_toList S_extract S_beq S_bne S_empty S_nil

set_option maxRecDepth 20000 in
set_option maxHeartbeats 4000000 in
theorem preAt_any (s what : List UInt8) (ar : List Int) (i lo g1 g2 g3 g4 : Nat) (v : Value) (w : World) (h1 : Blk w g1 9 #[.string (S s)]) (h2 : Blk w g2 31 #[v]) (h3 : Blk w g3 9 #[.string (S what)]) (h4 : Blk w g4 3 #[.int .i64 (lo : Int)]) (hr : RI w v ar)
    (hi : lo + i < ar.length) (h0 : 0 ≤ ar.getD (lo + i) 0 ∧ ar.getD (lo + i) 0 ≤ (s.length : Int)) (hs : (s.length : Int) ≤ 1000000) (hw : (what.length : Int) ≤ 1000000) (hal : (ar.length : Int) ≤ 1000000) :
    Calls Try.prog 45 #[.int .i64 (i : Int), .pointer (some ⟨g1, 0, none⟩), .pointer (some ⟨g2, 0, none⟩), .pointer (some ⟨g4, 0, none⟩), .pointer (some ⟨g3, 0, none⟩)] w fun e w' => e = .returned (.bool (!preAt s ar what (lo + i))) ∧ Ext w w' := by
  obtain ⟨a, c, rfl, hlc, _, hcell⟩ := hr.shape
  obtain ⟨g, o, rfl, hc⟩ := hcell (by omega)
  have hci := hc (lo + i) hi
  obtain ⟨p, hp⟩ : ∃ p : Nat, ar.getD (lo + i) 0 = (p : Int) := ⟨(ar.getD (lo + i) 0).toNat, by omega⟩
  have hG := Lib.hid (show preAt s ar what (lo + i) = preB what (s.drop p) from by unfold preAt endAt placeN; rw [hp, Int.toNat_natCast])
  rw [hp] at hci h0
  have c1 := up_cell (W := w.drew) (h1.cell 0)
  have c2 := up_cell (W := w.drew) (h2.cell 0)
  have c3 := up_cell (W := w.drew) (h3.cell 0)
  have c4 := up_cell (W := w.drew) (h4.cell 0)
  have c5 := up_cell (W := w.drew) (show w.drew.cell? _ = _ from hci)
  generalize hq : lo + i = q at *
  have e1 : IntKind.i64.wrap ((lo : Int) + (i : Int)) = (q : Int) := by rw [IntWalk.i64_in _ (by omega)]; omega
  have k1 : (q : Int) < (ar.length : Int) := by omega
  have k2 : (p : Int) ≤ (s.length : Int) := h0.2
  have k3 : (ar.length : Int) ≤ (c : Int) := by omega
  have QP := Lib.hid (fun (x : Up w) => strPrefix_any (s.drop p) what x.val (by rw [List.length_drop]; omega) (by omega))
  have HQ := Lib.hid hq
  have c1 := up_cell (W := w) (h1.cell 0)
  have c2 := up_cell (W := w) (h2.cell 0)
  have c3 := up_cell (W := w) (h3.cell 0)
  have c4 := up_cell (W := w) (h4.cell 0)
  have c5 := up_cell (W := w) hci
  clear hcell hc hci hr h1 h2 h3 h4 hp h0 hq hi
  generalize preB what (s.drop p) = b at *
  go_enter Try.func45, Try.ntmps45
  go_wp2_with fail
  refine wp_region_up (by kernel_rfl) (by kernel_rfl) ?_
  repeat (go_big_quiet_step (first | (go_at_call 46; (with_reducible exact up_same (QP.out _)))))
  refine wpQuiet_nil ?_
  rintro _ ⟨y2, rfl⟩
  have HXW := Lib.hid y2.ext
  generalize y2.val = w3 at *
  go_wp2
  go_ret
  exact ⟨by rw [hG.out]; rfl, HXW.out⟩

theorem FirstOf.unique {P : Nat → Bool} {n r r' : Nat} (h : FirstOf P n r) (h' : FirstOf P n r') : r = r' := by
  rcases Nat.lt_trichotomy r r' with hl | hl | hl
  · have h1 := h'.2.1 r hl
    have := h'.1
    rw [h.2.2 r (Nat.le_refl _) (by omega)] at h1; cases h1
  · exact hl
  · have h1 := h.2.1 r' hl
    have := h.1
    rw [h'.2.2 r' (Nat.le_refl _) (by omega)] at h1; cases h1
theorem first_exists {P : Nat → Bool} : ∀ n, (∀ i j, i ≤ j → j < n → P i = true → P j = true) → ∃ r, FirstOf P n r
  | 0, _ => ⟨0, Nat.le_refl _, fun i h => by omega, fun i h1 h2 => by omega⟩
  | n + 1, h => by
    obtain ⟨r, h1, h2, h3⟩ := first_exists n (fun i j hij hj => h i j hij (by omega))
    by_cases hr : r < n
    · refine ⟨r, by omega, h2, fun i hi hn => ?_⟩
      exact h r i hi hn (h3 r (Nat.le_refl _) hr)
    · have : r = n := by omega
      subst this
      by_cases hp : P r = true
      · refine ⟨r, by omega, h2, fun i hi hn => ?_⟩
        have : i = r := by omega
        subst this; exact hp
      · refine ⟨r + 1, by omega, fun i hi => ?_, fun i hi hn => by omega⟩
        rcases Nat.lt_or_ge i r with hl | hl
        · exact h2 i hl
        · have : i = r := by omega
          subst this; exact Bool.eq_false_iff.2 hp
theorem search_at {P : Nat → Bool} {n r : Nat} {fv : Value} {w : World} (hf : FirstOf P n r) (hp : PredAt fv P n w) (hn : (n : Int) ≤ 100000) :
    Calls Try.prog 43 #[.int .i64 (n : Int), fv] w fun e w' => e = .returned (.int .i64 (r : Int)) ∧ Ext w w' := by
  refine (search_any P n fv w hp hn (fun i j hij hj h => ?_)).mono ?_
  · refine hf.2.2 j ?_ hj
    refine Nat.le_trans (Nat.not_lt.1 fun hl => ?_) hij
    rw [hf.2.1 i hl] at h; cases h
  · rintro e w' ⟨r', rfl, h1, h2⟩
    rw [hf.unique h1]; exact ⟨rfl, h2⟩

/-- is this the text's array? -/
def okF (s : List UInt8) (ar : List Int) : Bool := decide (ar = toI (arrayL s))
def fndE (s : List UInt8) (ar : List Int) : Int := if okF s ar = true then 0 else 2
def fndR (s : List UInt8) (ar : List Int) (what : List UInt8) : Int × Int := if okF s ar = true then fndL s ar what else (0, 0)
theorem fnd_false {s what : List UInt8} {ar : List Int} (h : okF s ar = false) : fndE s ar = 2 ∧ fndR s ar what = (0, 0) := by
  unfold fndE fndR; rw [h]; exact ⟨rfl, rfl⟩
theorem fnd_true {s what : List UInt8} {ar : List Int} (h : okF s ar = true) : fndE s ar = 0 ∧ fndR s ar what = fndL s ar what := by
  unfold fndE fndR; rw [h]; exact ⟨rfl, rfl⟩
theorem okF_okC {s : List UInt8} {ar : List Int} (h : okF s ar = true) : okC s ar = true := by
  have e := of_decide_eq_true h
  subst e
  have ha := arrayL_is s
  have hl : (toI (arrayL s)).length = s.length + 1 := by rw [toI_length, ha.length]
  unfold okC okP
  rw [Bool.and_eq_true, decide_eq_true_iff, decide_eq_true_iff]
  refine ⟨⟨fun x hx => ?_, ?_⟩, hl⟩
  · obtain ⟨p, hp, rfl⟩ := List.mem_map.1 hx
    have := ha.mem.1 hp
    rw [hl]; omega
  · unfold toI
    refine List.pairwise_map.2 ?_
    refine ha.2.imp fun {p q} h e => ?_
    rw [Int.ofNat_inj.1 e, lessE_irrefl] at h; cases h
theorem okC_false {s : List UInt8} {ar : List Int} (h : okC s ar = false) : okF s ar = false := by
  cases hf : okF s ar with
  | false => rfl
  | true => rw [okF_okC hf] at h; cases h
theorem perm_nodup : ∀ a b : List Nat, a.Nodup → b.Nodup → (∀ x, x ∈ a ↔ x ∈ b) → a.Perm b
  | [], b, _, _, h => by
    cases b with
    | nil => exact List.Perm.refl _
    | cons y b => have := (h y).2 (by simp); cases this
  | x :: a, b, h1, h2, h => by
    have hx : x ∈ b := (h x).1 (by simp)
    have h1' := List.nodup_cons.1 h1
    refine List.Perm.trans (List.Perm.cons x (perm_nodup a (b.erase x) h1'.2 (h2.erase _) fun y => ?_)) (List.perm_cons_erase hx).symm
    rw [List.Nodup.mem_erase_iff h2, ← h y, List.mem_cons]
    constructor
    · intro hy
      exact ⟨fun e => h1'.1 (e ▸ hy), .inr hy⟩
    · rintro ⟨h3, h4 | h4⟩
      · exact absurd h4 h3
      · exact h4
/-- places that are each there once, in the order of their ends, are the array -/
theorem okF_of {s : List UInt8} {ar : List Int} (hc : okC s ar = true) (h : ∀ i, i + 1 < ar.length → Op.bytesLess (endAt s ar i) (endAt s ar (i + 1)) = true) : okF s ar = true := by
  unfold okC at hc
  rw [Bool.and_eq_true, decide_eq_true_iff] at hc
  obtain ⟨hp, hl⟩ := hc
  have hnn : ∀ x ∈ ar, 0 ≤ x ∧ x < (ar.length : Int) := (of_decide_eq_true hp).1
  have hnd := (of_decide_eq_true hp).2
  have e0 : toI (ar.map Int.toNat) = ar := by
    unfold toI
    rw [List.map_map]
    conv => rhs; rw [← List.map_id ar]
    exact List.map_congr_left fun x hx => by
      have := hnn x hx
      show ((x.toNat : Nat) : Int) = x
      omega
  have hless : ∀ d i, i + d + 1 < ar.length → Op.bytesLess (endAt s ar i) (endAt s ar (i + d + 1)) = true := by
    intro d
    induction d with
    | zero => exact fun i hi => h i hi
    | succ d ih => exact fun i hi => bl_trans _ _ _ (ih i (by omega)) (h (i + d + 1) (by omega))
  have hg : ∀ i, i < ar.length → (ar.map Int.toNat).getD i 0 = placeN ar i := fun i hi => by
    unfold placeN
    rw [List.getD_eq_getElem?_getD, List.getElem?_map, List.getD_eq_getElem?_getD, List.getElem?_eq_getElem hi]; rfl
  have hpm : IsArr s (s.length + 1) (ar.map Int.toNat) := by
    refine ⟨?_, ?_⟩
    · refine perm_nodup _ _ ?_ List.nodup_range fun p => ?_
      · refine List.pairwise_map.2 (hnd.imp_of_mem fun {x y} hx hy hxy e => ?_)
        have := hnn x hx
        have := hnn y hy
        exact hxy (by omega)
      · rw [List.mem_map, List.mem_range]
        constructor
        · rintro ⟨x, hx, rfl⟩
          have := hnn x hx
          omega
        · intro h5
          exact ⟨(p : Int), okP_full hp (by omega), Int.toNat_natCast p⟩
    · rw [List.pairwise_iff_getElem]
      intro i j hi hj hij
      have h1 := hless (j - i - 1) i (by rw [List.length_map] at hj; omega)
      rw [show i + (j - i - 1) + 1 = j by omega] at h1
      unfold endAt at h1
      rw [List.length_map] at hi hj
      rw [← hg i hi, ← hg j hj, getD_lt (by rw [List.length_map]; exact hi), getD_lt (by rw [List.length_map]; exact hj)] at h1
      exact h1
  unfold okF
  rw [decide_eq_true_iff, ← arrayL_eq hpm, e0]
end Go.Proofs.Ytlhjbfckcfeikaa
namespace Go.Proofs.Ytlhjbfckcfeikaa
set_option linter.unusedVariables false
set_option linter.unusedSimpArgs false
open Go.RowKit

attribute [local go_sem] S_size S_toList S_extract S_beq S_bne S_empty S_nil

theorem rng_size : (Try.prog.info? 23).map (·.size) = some 2 := by kernel_rfl
set_option maxRecDepth 20000 in
set_option maxHeartbeats 4000000 in
theorem find_any (s what : List UInt8) (ar : List Int) (v : Value) (w : World) (hr : RI w v ar) (hl : (ar.length : Int) ≤ 20001) (hs : (s.length : Int) ≤ 20000) (hw : (what.length : Int) ≤ 100000) :
    Calls Try.prog 23 #[.string (S s), v, .string (S what)] w fun e w' => e = .returned (.tuple #[.agg #[.int .i64 (fndR s ar what).1, .int .i64 (fndR s ar what).2], .int .i64 (fndE s ar)]) ∧ Ext w w' := by
  have hmf : ∀ (fn : Fn) (first cap : Array Value) (w : World), (Instr.makeFunc fn first cap).run Try.prog w = .ok (.func fn first cap) w := fun _ _ _ _ => rfl
  obtain ⟨a, c, rfl, hlc, _, hsh⟩ := hr.shape
  have HS := Lib.hid hsh
  have HR := Lib.hid hr
  have RS := Lib.hid rng_size
  have x0 : Ext w ((((w.alloc (.cells #[.string (S s)] 9)).alloc (.cells #[.slice a ar.length c] 31)).alloc (.cells #[.string (S what)] 9)).alloc (.cells #[.int .i64 0, .int .i64 0] 23)) := ((((Ext.refl w).alloc _).alloc _).alloc _).alloc _
  have b1 := (((Blk.new w 9 #[.string (S s)]).alloc (.cells #[.slice a ar.length c] 31)).alloc (.cells #[.string (S what)] 9)).alloc (.cells #[.int .i64 0, .int .i64 0] 23)
  have b2 := ((Blk.new (w.alloc (.cells #[.string (S s)] 9)) 31 #[.slice a ar.length c]).alloc (.cells #[.string (S what)] 9)).alloc (.cells #[.int .i64 0, .int .i64 0] 23)
  have b3 := (Blk.new ((w.alloc (.cells #[.string (S s)] 9)).alloc (.cells #[.slice a ar.length c] 31)) 9 #[.string (S what)]).alloc (.cells #[.int .i64 0, .int .i64 0] 23)
  have b4 := Blk.new (((w.alloc (.cells #[.string (S s)] 9)).alloc (.cells #[.slice a ar.length c] 31)).alloc (.cells #[.string (S what)] 9)) 23 #[.int .i64 0, .int .i64 0]
  simp only [World.size_alloc] at b2 b3 b4
  have XX := Lib.hid x0
  have BB1 := Lib.hid b1
  have BB2 := Lib.hid b2
  have BB3 := Lib.hid b3
  have BB4 := Lib.hid b4
  clear x0 b1 b2 b3 b4 hsh hr
  go_enter Try.func23, Try.ntmps23
  go_wp2_with fail
  generalize ((((w.alloc (.cells #[.string (S s)] 9)).alloc (.cells #[.slice a ar.length c] 31)).alloc (.cells #[.string (S what)] 9)).alloc (.cells #[.int .i64 0, .int .i64 0] 23)) = W0 at *
  have hn := XX.out.size
  have HK := Lib.hid (fun x (h : Ext W0 x) => ranks_any ar (.slice a ar.length c) x (HR.out.ext (XX.out.trans h)) (by omega))
  refine (HK.out _ (Ext.refl _)).mono ?_
  rintro e w1 ⟨u, rfl, x1, hru⟩
  clear HK hru
  have X1 := Lib.hid x1
  have C2 := Lib.hid ((BB2.out.ext x1).cell 0)
  have C1 := Lib.hid ((BB1.out.ext x1).cell 0)
  have B4 := Lib.hid (BB4.out.ext x1)
  clear x1
  cases hp : okP ar with
  | false =>
    have HF := Lib.hid (fnd_false (s := s) (what := what) (ar := ar) (okC_false (by unfold okC; rw [hp]; rfl)))
    rw [(rk_false hp).1]
    have c2 := C2.out
    go_wp2_with (refine wpList_store_blk rfl 23 (.tmp 6) (.tmp 31) rfl rfl rfl B4.out rfl RS.out (by kernel_rfl) ?_)
    exact bodyPost_ret (results_row_tmp rfl _ _ (w.heap.size + 1 + 1 + 1) _ _ (0, 0) _ rfl (B4.out.setRow #[.int .i64 0, .int .i64 0]) Try.underlying23 rfl RS.out) rfl ⟨by rw [HF.out.1, HF.out.2]; rfl, (XX.out.trans X1.out).setRow (by omega) _⟩
  | true =>
    rw [rk_true hp]
    by_cases hlen : ar.length = s.length + 1
    · have HOK := Lib.hid (show okC s ar = true by unfold okC; rw [hp, Bool.true_and]; exact decide_eq_true hlen)
      have hbb : ((ar.length : Int) != (s.length : Int) + 1) = false := bne_eq_false_iff_eq.2 (by omega)
      have W1 := w64_small (n := (s.length : Int) + 1) (by omega) (by omega)
      have HLEN := Lib.hid hlen
      have c2 := C2.out
      have c1 := C1.out
      clear hp hlen
      go_wp2_with fail
      refine (array_any s w1 (by omega)).mono ?_
      rintro e w2 ⟨go, rfl, x2, hro⟩
      have HRO := Lib.hid hro
      have X2 := Lib.hid (X1.out.trans x2)
      clear x2 hro hbb c1 c2 W1 C1 C2 B4
      have HRNG := Lib.hid (show ∀ i, i < ar.length → 0 ≤ ar.getD i 0 ∧ ar.getD i 0 ≤ (s.length : Int) from fun i hi => by
        have h1 := HOK.out
        unfold okC at h1
        rw [Bool.and_eq_true] at h1
        have := okP_in h1.1 hi
        have := HLEN.out
        omega)
      have Q1 := Lib.hid (show ∀ x, Ext W0 x → PredAt (.func (.func 44) #[] #[.pointer (some ⟨w.heap.size, 0, none⟩), .pointer (some ⟨w.heap.size + 1, 0, none⟩), .pointer (some ⟨w.heap.size + 1 + 1, 0, none⟩)]) (geAt s ar what) ar.length x from fun x hx =>
        ⟨_, _, rfl, callF_run Try.func44 rfl rfl, fun W hW i hi => geAt_any s what ar i w.heap.size (w.heap.size + 1) (w.heap.size + 1 + 1) _ W (BB1.out.ext (hx.trans hW)) (BB2.out.ext (hx.trans hW)) (BB3.out.ext (hx.trans hW)) (HR.out.ext (XX.out.trans (hx.trans hW))) hi (HRNG.out i hi) (by omega) (by omega)⟩)
      have Q2 := Lib.hid (show ∀ (lo g : Nat) x, Ext W0 x → Blk x g 3 #[.int .i64 (lo : Int)] → PredAt (.func (.func 45) #[] #[.pointer (some ⟨w.heap.size, 0, none⟩), .pointer (some ⟨w.heap.size + 1, 0, none⟩), .pointer (some ⟨g, 0, none⟩), .pointer (some ⟨w.heap.size + 1 + 1, 0, none⟩)]) (fun i => !preAt s ar what (lo + i)) (ar.length - lo) x from fun lo g x hx hb =>
        ⟨_, _, rfl, callF_run Try.func45 rfl rfl, fun W hW i hi => preAt_any s what ar i lo w.heap.size (w.heap.size + 1) (w.heap.size + 1 + 1) g _ W (BB1.out.ext (hx.trans hW)) (BB2.out.ext (hx.trans hW)) (BB3.out.ext (hx.trans hW)) (hb.ext hW) (HR.out.ext (XX.out.trans (hx.trans hW))) (by omega) (HRNG.out _ (by omega)) (by omega) (by omega) (by omega)⟩)
      go_wp2
      go_loopw [43] (fun i wr => ∃ k : Nat, k ≤ ar.length ∧ i = .int .i64 (k : Int) ∧ (∀ j, j < k → ar.getD j 0 = ((arrayL s).getD j 0 : Nat)) ∧ Ext w2 wr) (fun i _ => ar.length - (intOf i).toNat)
      case atStart => exact ⟨0, by omega, rfl, fun j hj => by omega, Ext.refl _⟩
      case round =>
        obtain ⟨k, hk, rfl, hall, hx⟩ := hrel
        have HX := Lib.hid (X2.out.trans hx)
        have c2 := (BB2.out.ext HX.out).cell 0
        by_cases hlt : k < ar.length
        · obtain ⟨ga, oa, rfl, hca⟩ := HS.out (by omega)
          have ca := Go.cell_later (XX.out.trans HX.out) (hca k hlt)
          have co := Go.cell_later hx (HRO.out.2 k (by have := HLEN.out; omega))
          have hki : (k : Int) < (ar.length : Int) := by omega
          have hkn : (k : Int) < (s.length : Int) + 1 := by have := HLEN.out; omega
          have hac : (ar.length : Int) ≤ (c : Int) := by omega
          have B4 := Lib.hid (BB4.out.ext HX.out)
          have HXR := Lib.hid hx
          have HA := Lib.hid hall
          by_cases he : ar.getD k 0 = ((arrayL s).getD k 0 : Nat)
          · have HST := Lib.hid (show ∀ j, j < k + 1 → ar.getD j 0 = ((arrayL s).getD j 0 : Nat) from fun j hj => by
              rcases Nat.lt_or_ge j k with h | h
              · exact hall j h
              · have : j = k := by omega
                subst this; exact he)
            rw [he] at ca
            clear he hall hx hca
            generalize (arrayL s).getD k 0 = q at *
            go_wp2
            go_roundw
            case rel => exact ⟨k + 1, by omega, by go_num, HST.out, HXR.out⟩
            case measure => simp [intOf]; omega
          · have HF := Lib.hid (fnd_false (s := s) (what := what) (ar := ar) (Bool.eq_false_iff.2 fun h => he (by have e := of_decide_eq_true h; conv => lhs; rw [e, toI_getD])))
            have hne : (ar.getD k 0 != ((arrayL s).getD k 0 : Nat)) = true := bne_iff_ne.2 he
            clear he hall hx hca
            generalize (arrayL s).getD k 0 = q at *
            generalize ar.getD k 0 = p at *
            go_wp2_with (refine wpList_store_blk rfl 23 (.tmp 6) (.tmp 54) rfl rfl rfl B4.out rfl RS.out (by kernel_rfl) ?_)
            exact bodyPost_ret (results_row_tmp rfl _ _ (w.heap.size + 1 + 1 + 1) _ _ (0, 0) _ rfl (B4.out.setRow #[.int .i64 0, .int .i64 0]) Try.underlying23 rfl RS.out) rfl ⟨by rw [HF.out.1, HF.out.2]; rfl, (XX.out.trans HX.out).setRow (by omega) _⟩
        · have e : k = ar.length := by omega
          subst e
          have hF : okF s ar = true := decide_eq_true (by
            refine List.ext_getElem (by rw [toI_length, (arrayL_is s).length]; exact HLEN.out) fun i h1 h2 => ?_
            have h3 := hall i h1
            have h4 := toI_getD (arrayL s) i
            rw [getD_ge h1] at h3
            rw [getD_ge h2] at h4
            rw [h3, h4])
          have hE : ar = toI (arrayL s) := of_decide_eq_true hF
          have HF := Lib.hid (fnd_true (s := s) (what := what) (ar := ar) hF)
          have hm1 : ∀ i j, i ≤ j → j < ar.length → geAt s ar what i = true → geAt s ar what j = true := fun i j h1 h2 h3 => by
            rw [hE] at h3 ⊢
            exact ge_mono h1 (by have := HLEN.out; omega) h3
          obtain ⟨lo, hlo⟩ := first_exists ar.length hm1
          have hm2 : ∀ i j, i ≤ j → j < ar.length - lo → (!preAt s ar what (lo + i)) = true → (!preAt s ar what (lo + j)) = true := fun i j h1 h2 h3 => by
            have h4 := hlo.2.2 (lo + i) (by omega) (by omega)
            cases h5 : preAt s ar what (lo + j) with
            | false => rfl
            | true =>
              rw [hE] at h3 h4 h5
              rw [pre_mono (show lo + i ≤ lo + j by omega) (by have := HLEN.out; omega) h4 h5] at h3
              cases h3
          obtain ⟨d, hd⟩ := first_exists (P := fun i => !preAt s ar what (lo + i)) (ar.length - lo) hm2
          have hres : fndL s ar what = if d = 0 then (1, 0) else ((lo : Int), (lo : Int) + (d : Int) - 1) := by
            have h1 := hlo
            have h2 := hd
            rw [HLEN.out] at h1 h2
            rw [hE] at h1 h2 ⊢
            exact (fnd_eq h1 h2).2
          have HRES := Lib.hid hres
          have S1 := Lib.hid (fun x (hx : Ext W0 x) => search_at hlo (Q1.out x hx) (by omega))
          have S2 := Lib.hid (fun g x (hx : Ext W0 x) hb => search_at hd (Q2.out lo g x hx hb) (by omega))
          have hll : lo ≤ ar.length := hlo.1
          have hdl : d ≤ ar.length - lo := hd.1
          have B4 := Lib.hid (BB4.out.ext HX.out)
          have C4 := Lib.hid (BB2.out.ext HX.out)
          have n9 : ¬ (ar.length : Int) < (s.length : Int) + 1 := by have := HLEN.out; omega
          clear hm1 hm2 hlo hd hres hall hF hE hx Q1 Q2 HRNG
          go_wp2_with fail
          refine (S1.out wr HX.out).mono ?_
          rintro e w3 ⟨rfl, x3⟩
          have X3 := Lib.hid (HX.out.trans x3)
          clear x3 S1
          have B14 := Lib.hid (Blk.new w3 3 #[.int .i64 (lo : Int)])
          have X4 := Lib.hid (X3.out.alloc (.cells #[.int .i64 (lo : Int)] 3))
          go_wp2_with fail
          generalize w3.alloc (.cells #[.int .i64 (lo : Int)] 3) = W4 at *
          generalize w3.heap.size = g14 at *
          have QS := Lib.hid (fun (x : Up W4) => S2.out g14 x.val (X4.out.trans x.ext) (B14.out.ext x.ext))
          have e1 : IntKind.i64.wrap ((ar.length : Int) - (lo : Int)) = ((ar.length - lo : Nat) : Int) := by rw [IntWalk.i64_in _ (by omega)]; omega
          have e2 : IntKind.i64.wrap ((lo : Int) + (d : Int)) = (lo : Int) + (d : Int) := IntWalk.i64_in _ (by omega)
          have k14 := up_cell (W := W4) (B14.out.cell 0)
          have k4 := up_cell (W := W4) ((BB2.out.ext X4.out).cell 0)
          refine wp_region_up (by kernel_rfl) (by kernel_rfl) ?_
          repeat (go_big_quiet_step (first | (go_at_call 43; (with_reducible exact up_call (QS.out _)))))
          refine wpQuiet_nil ?_
          rintro _ ⟨y2, rfl⟩
          have HXW := Lib.hid (X4.out.trans y2.ext)
          have B4 := Lib.hid (BB4.out.ext HXW.out)
          have c14 := (B14.out.ext y2.ext).cell 0
          generalize y2.val = w5 at *
          clear k14 k4 QS
          by_cases h0 : d = 0
          · have HR2 := HRES.out
            rw [if_pos h0] at HR2
            have HR3 := Lib.hid HR2
            subst h0
            go_wp2_with (refine wpList_store_blk rfl 23 (.tmp 6) (.tmp 71) rfl rfl rfl B4.out rfl RS.out (by kernel_rfl) ?_)
            exact bodyPost_ret (results_row_tmp rfl _ _ (w.heap.size + 1 + 1 + 1) _ _ (0, 0) _ rfl (B4.out.setRow #[.int .i64 1, .int .i64 0]) Try.underlying23 rfl RS.out) rfl ⟨by rw [HF.out.1, HF.out.2, HR3.out]; rfl, (XX.out.trans HXW.out).setRow (by omega) _⟩
          · have HR2 := HRES.out
            rw [if_neg h0] at HR2
            have HR3 := Lib.hid HR2
            have hde : ((lo : Int) + (d : Int) == (lo : Int)) = false := beq_eq_false_iff_ne.2 (by omega)
            have hde2 : ¬ (lo : Int) + (d : Int) = (lo : Int) := by omega
            have e3 : IntKind.i64.wrap ((lo : Int) + (d : Int) - 1) = (lo : Int) + (d : Int) - 1 := IntWalk.i64_in _ (by omega)
            go_wp2_with (refine wpList_store_blk rfl 23 (.tmp 6) (.tmp 75) rfl rfl rfl B4.out rfl RS.out (by kernel_rfl) ?_)
            exact bodyPost_ret (results_row_tmp rfl _ _ (w.heap.size + 1 + 1 + 1) _ _ (0, 0) _ rfl (B4.out.setRow #[.int .i64 (lo : Int), .int .i64 ((lo : Int) + (d : Int) - 1)]) Try.underlying23 rfl RS.out) rfl ⟨by rw [HF.out.1, HF.out.2, HR3.out]; rfl, (XX.out.trans HXW.out).setRow (by omega) _⟩
    · have HF := Lib.hid (fnd_false (s := s) (what := what) (ar := ar) (okC_false (by unfold okC; rw [hp, Bool.true_and]; exact decide_eq_false hlen)))
      have hl2 : ¬ (ar.length : Int) = (s.length : Int) + 1 := by omega
      have W1 := w64_small (n := (s.length : Int) + 1) (by omega) (by omega)
      have hbb : ((ar.length : Int) != (s.length : Int) + 1) = true := by simpa using hl2
      have c2 := C2.out
      have c1 := C1.out
      clear hp hlen hl2
      go_wp2_with (refine wpList_store_blk rfl 23 (.tmp 6) (.tmp 31) rfl rfl rfl B4.out rfl RS.out (by kernel_rfl) ?_)
      exact bodyPost_ret (results_row_tmp rfl _ _ (w.heap.size + 1 + 1 + 1) _ _ (0, 0) _ rfl (B4.out.setRow #[.int .i64 0, .int .i64 0]) Try.underlying23 rfl RS.out) rfl ⟨by rw [HF.out.1, HF.out.2]; rfl, (XX.out.trans X1.out).setRow (by omega) _⟩
end Go.Proofs.Ytlhjbfckcfeikaa
namespace Go.Proofs.Ytlhjbfckcfeikaa
set_option linter.unusedVariables false
set_option linter.unusedSimpArgs false
open Go.RowKit

attribute [local go_sem] S_size S_toList S_extract S_beq S_bne S_empty S_nil

theorem scan_yes {Q : Nat → Bool} {k : Nat} (h : Q k = true) (hl : (scanN Q k).2 < (scanN Q k).1) : scanN Q (k + 1) = ((k : Int), (k : Int)) := by
  unfold scanN; rw [if_pos h, if_pos hl]
theorem scan_more {Q : Nat → Bool} {k : Nat} (h : Q k = true) (hl : ¬ (scanN Q k).2 < (scanN Q k).1) : scanN Q (k + 1) = ((scanN Q k).1, (k : Int)) := by
  conv => lhs; unfold scanN
  rw [if_pos h, if_neg hl]
theorem scan_no {Q : Nat → Bool} {k : Nat} (h : Q k = false) : scanN Q (k + 1) = scanN Q k := by
  conv => lhs; unfold scanN
  rw [if_neg (by rw [h]; simp)]

end Go.Proofs.Ytlhjbfckcfeikaa
namespace Go.Proofs.Ytlhjbfckcfeikaa
set_option linter.unusedVariables false
set_option linter.unusedSimpArgs false
open Go.RowKit

theorem lit_ri (w : World) (l : List Int) (n : Nat) (hn : l.length = n) (hl : l.length ≤ 1000) (cs : Array Value) (hcs : cs.toList = ints l) : RI (w.alloc (.cells cs 3)) (.slice (some ⟨w.heap.size, 0, none⟩) n n) l :=
  (IW.lit w l (by omega) n hn cs hcs).ri
def banana : List UInt8 := [98, 97, 110, 97, 110, 97]
def banA : List Int := [6, 5, 3, 1, 0, 4, 2]

end Go.Proofs.Ytlhjbfckcfeikaa
namespace Go.Proofs.Ytlhjbfckcfeikaa
set_option linter.unusedVariables false
set_option linter.unusedSimpArgs false
open Go.RowKit

/-- how many of the first k -/
def countB (Q : Nat → Bool) : Nat → Nat
  | 0 => 0
  | k + 1 => countB Q k + if Q k = true then 1 else 0
theorem countB_succ (Q : Nat → Bool) (k : Nat) : countB Q (k + 1) = countB Q k + if Q k = true then 1 else 0 := rfl
theorem countB_filter (Q : Nat → Bool) : ∀ k, countB Q k = ((List.range k).filter Q).length
  | 0 => rfl
  | k + 1 => by
    rw [List.range_succ, List.filter_append, List.length_append, ← countB_filter Q k, countB_succ]
    by_cases h : Q k = true
    · rw [if_pos h, List.filter_cons_of_pos h]; rfl
    · rw [if_neg h, List.filter_cons_of_neg h]; rfl
theorem countB_le (Q : Nat → Bool) : ∀ k, countB Q k ≤ k
  | 0 => Nat.le_refl _
  | k + 1 => by
    have := countB_le Q k
    rw [countB_succ]
    split <;> omega
theorem countB_band {Q : Nat → Bool} {n lo d : Nat} (h : ∀ i, i < n → (Q i = true ↔ lo ≤ i ∧ i < lo + d)) : ∀ k, k ≤ n → countB Q k = min k (lo + d) - min k lo
  | 0, _ => by simp [countB]
  | k + 1, hk => by
    have ih := countB_band h k (by omega)
    have hq := h k (by omega)
    rw [countB_succ]
    by_cases hc : lo ≤ k ∧ k < lo + d
    · rw [if_pos (hq.2 hc), ih]; omega
    · rw [if_neg (fun e => hc (hq.1 e)), ih]; omega
theorem countB_stop {Q : Nat → Bool} {k : Nat} : ∀ n, k ≤ n → (∀ i, k ≤ i → i < n → Q i = false) → countB Q n = countB Q k
  | 0, h, _ => by have : k = 0 := by omega
                  subst this; rfl
  | n + 1, h, hq => by
    rcases Nat.lt_or_ge n k with h1 | h1
    · have : k = n + 1 := by omega
      subst this; rfl
    · rw [← countB_stop n h1 (fun i h2 h3 => hq i h2 (by omega))]
      rw [countB_succ, hq n h1 (by omega)]; rfl
/-- does it stand here? -/
def occB (s what : List UInt8) (p : Nat) : Bool := preB what (s.drop p)
theorem occ_at {s what : List UInt8} {p : Nat} : ((s.take (p + what.length)).drop p == what) = occB s what p := by
  unfold occB
  rw [Bool.eq_iff_iff, beq_iff_eq, preB_iff, List.drop_take, show p + what.length - p = what.length by omega, List.prefix_iff_eq_take]
  exact ⟨fun h => h.symm, fun h => h.symm⟩
theorem occ_long {s what : List UInt8} {p : Nat} (h : s.length < p + what.length) (hp : p ≤ s.length) : occB s what p = false := by
  refine Bool.eq_false_iff.2 fun h1 => ?_
  have := (preB_iff.1 h1).length_le
  rw [List.length_drop] at this
  omega
theorem occ_len {s what : List UInt8} {p : Nat} (h : occB s what p = true) (hp : p ≤ s.length) : p + what.length ≤ s.length := by
  have := (preB_iff.1 h).length_le
  rw [List.length_drop] at this
  omega
theorem preAt_occ {s what : List UInt8} {i : Nat} : preAt s (toI (arrayL s)) what i = occB s what ((arrayL s).getD i 0) := by
  unfold preAt endAt occB; rw [toI_placeN]
theorem list_getD_map (a : List Nat) : (List.range a.length).map (fun i => a.getD i 0) = a := by
  refine List.ext_getElem (by simp) fun i h1 h2 => ?_
  rw [List.getElem_map, List.getElem_range, getD_lt h2]
theorem count_occ (s what : List UInt8) : countB (preAt s (toI (arrayL s)) what) (s.length + 1) = countB (occB s what) (s.length + 1) := by
  rw [countB_filter, countB_filter]
  have h1 := (arrayL_is s).1.filter (occB s what)
  rw [← h1.length_eq]
  conv => rhs; rw [← list_getD_map (arrayL s)]
  rw [List.filter_map, List.length_map, (arrayL_is s).length]
  congr 1
  refine List.filter_congr fun i _ => ?_
  exact preAt_occ
/-- what Find tells of a text's own array -/
theorem fnd_spec (s what : List UInt8) : ∃ lo d : Nat, lo + d ≤ s.length + 1 ∧ (∀ i, i < s.length + 1 → (occB s what ((arrayL s).getD i 0) = true ↔ lo ≤ i ∧ i < lo + d)) ∧ countB (occB s what) (s.length + 1) = d ∧
    fndE s (toI (arrayL s)) = 0 ∧ fndR s (toI (arrayL s)) what = if d = 0 then (1, 0) else ((lo : Int), (lo : Int) + (d : Int) - 1) := by
  obtain ⟨lo, hlo⟩ := first_exists (s.length + 1) (P := geAt s (toI (arrayL s)) what) fun i j h1 h2 h3 => ge_mono h1 h2 h3
  obtain ⟨d, hd⟩ := first_exists (P := fun i => !preAt s (toI (arrayL s)) what (lo + i)) (s.length + 1 - lo) (fun i j h1 h2 h3 => by
    have h4 := hlo.2.2 (lo + i) (by omega) (by omega)
    cases h5 : preAt s (toI (arrayL s)) what (lo + j) with
    | false => rfl
    | true =>
      rw [pre_mono (show lo + i ≤ lo + j by omega) (by omega) h4 h5] at h3
      cases h3)
  obtain ⟨hb, hr⟩ := fnd_eq hlo hd
  have hF := fnd_true (s := s) (what := what) (ar := toI (arrayL s)) (decide_eq_true rfl)
  have h1 := hlo.1
  have h2 := hd.1
  refine ⟨lo, d, by omega, fun i hi => ?_, ?_, hF.1, hF.2.trans hr⟩
  · rw [← preAt_occ]; exact hb i hi
  · rw [← count_occ, countB_band hb _ (Nat.le_refl _)]
    omega
end Go.Proofs.Ytlhjbfckcfeikaa
