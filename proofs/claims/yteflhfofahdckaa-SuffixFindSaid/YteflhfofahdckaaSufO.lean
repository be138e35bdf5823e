/- suffix: Ranks. -/
import Derived.Test.YteflhfofahdckaaSufM
namespace Go.Proofs.Yteflhfofahdckaa
set_option linter.unusedVariables false
set_option linter.unusedSimpArgs false
open Go.RowKit

/-- a row of numbers, of the call's own, at block g -/
def IN (w : World) (B g n : Nat) (l : List Int) : Prop := IW w B (.slice (some ⟨g, 0, none⟩) n n) l
/-- a row of truth values -/
def bools (l : List Bool) : List Value := l.map Value.bool
theorem bools_length (l : List Bool) : (bools l).length = l.length := List.length_map _
def TN (w : World) (B g n : Nat) (l : List Bool) : Prop := RW w B 4 (.slice (some ⟨g, 0, none⟩) n n) (bools l)
theorem bool_info : (Try.prog.info? 4).map (fun i => (i.zero, i.size, i.bytes)) = some (some (.bool false), 1, 1) := by kernel_rfl
section
variable {w w' : World} {B g n : Nat}
theorem IN.len {l : List Int} (h : IN w B g n l) : l.length = n := (IW.facts h).1
theorem IN.cell {l : List Int} (h : IN w B g n l) (i : Nat) (hi : i < n) : w.cell? ⟨g, i, none⟩ = some (.int .i64 (l.getD i 0)) := ((IW.facts h).2.2 i hi).1
theorem IN.free {l : List Int} (h : IN w B g n l) (i : Nat) (hi : i < n) : w.frozen? ⟨g, i, none⟩ = false := ((IW.facts h).2.2 i hi).2
theorem IN.lt {l : List Int} (h : IN w B g n l) (hn : 0 < n) : g < w.heap.size ∧ B ≤ g := (IW.facts h).2.1 hn
theorem IN.ext {l : List Int} (h : IN w B g n l) (hx : Ext w w') : IN w' B g n l := IW.ext h hx
theorem IN.set {l : List Int} (h : IN w B g n l) (i : Nat) (v : Int) : IN (w.setCell ⟨g, i, none⟩ (.int .i64 v)) B g n (l.set i v) := by
  have hl := h.len
  subst hl
  exact IW.set h i v
theorem IN.ri {l : List Int} (h : IN w B g n l) : RI w (.slice (some ⟨g, 0, none⟩) n n) l := IW.ri h
theorem RW.farF {e : TypeId} {v : Value} {xs : List Value} (h : RW w B e (.slice (some ⟨g, 0, none⟩) n n) xs) {p : Addr} (hne : p.block ≠ g) (u : Value) : RW (w.setCell p u) B e (.slice (some ⟨g, 0, none⟩) n n) xs := by
  rcases h.2 with ⟨h1, h2⟩ | ⟨g', cap, cur, h1, hB, h2, h3⟩
  · cases h1
  · injection h1 with e1 e2 e3
    injection e1 with e1
    injection e1 with e1
    subst e1
    exact ⟨h.1, .inr ⟨g, cap, cur, by rw [← e3, ← e2], hB, (show Blk w g e cur from h2).far (fun e => hne e.symm) u, h3⟩⟩
theorem IN.far {l : List Int} (h : IN w B g n l) {p : Addr} (hne : p.block ≠ g) (u : Value) : IN (w.setCell p u) B g n l := RW.farF (v := .bool true) h hne u
theorem TN.far {l : List Bool} (h : TN w B g n l) {p : Addr} (hne : p.block ≠ g) (u : Value) : TN (w.setCell p u) B g n l := RW.farF (v := .bool true) h hne u
theorem TN.len {l : List Bool} (h : TN w B g n l) : l.length = n := by
  obtain ⟨a, c, h1, _, _⟩ := RW.shape h
  injection h1 with _ h1 _
  rw [bools_length] at h1; exact h1.symm
theorem TN.facts {l : List Bool} (h : TN w B g n l) (hn : 0 < n) : B ≤ g ∧ g < w.heap.size ∧ (∀ i, i < n → w.cell? ⟨g, i, none⟩ = some (.bool (l.getD i false))) ∧ ∀ i, w.frozen? ⟨g, i, none⟩ = false := by
  have hl := h.len
  obtain ⟨a, c, h1, h2, h3⟩ := RW.shape h
  injection h1 with e1 e2 e3
  obtain ⟨g', e, p1, p2, p3, p4⟩ := h3 (by omega)
  rw [e] at e1
  injection e1 with e1
  injection e1 with e1
  subst e1
  refine ⟨p1, p2, fun i hi => ?_, p4⟩
  rw [p3 i (by omega)]
  unfold bools
  rw [List.getElem?_map, List.getD_eq_getElem?_getD, List.getElem?_eq_getElem (show i < l.length by omega)]
  rfl
theorem TN.cell {l : List Bool} (h : TN w B g n l) (i : Nat) (hi : i < n) : w.cell? ⟨g, i, none⟩ = some (.bool (l.getD i false)) := (h.facts (by omega)).2.2.1 i hi
theorem TN.free {l : List Bool} (h : TN w B g n l) (i : Nat) (hi : i < n) : w.frozen? ⟨g, i, none⟩ = false := (h.facts (by omega)).2.2.2 i
theorem TN.ext {l : List Bool} (h : TN w B g n l) (hx : Ext w w') : TN w' B g n l := RW.ext h hx
theorem TN.set {l : List Bool} (h : TN w B g n l) (i : Nat) (v : Bool) : TN (w.setCell ⟨g, i, none⟩ (.bool v)) B g n (l.set i v) := by
  have hl := h.len
  subst hl
  unfold TN at *
  rw [show bools (l.set i v) = (bools l).set i (.bool v) from List.map_set]
  rw [← bools_length l] at h ⊢
  have h' : RW w B 4 (.slice (some ⟨g, 0, none⟩) (bools l).length (bools l).length) (bools l) := h
  exact RW.set h' i (.bool v)
end
theorem IN.make (w : World) (n : Nat) (hn : n ≤ 1000000000) : IN (w.alloc (.cells (madeCells #[.int .i64 0] n) 3)) w.heap.size w.heap.size n (List.replicate n 0) := (IW.make w n hn).2
theorem TN.make (w : World) (n : Nat) (hn : n ≤ 1000000000) : (∀ m : Int, m = (n : Int) → (Instr.makeSlice 42 (.int .i64 m) (.int .i64 m)).run Try.prog w = .ok (.slice (some ⟨w.heap.size, 0, none⟩) n n) (w.alloc (.cells (madeCells #[.bool false] n) 4))) ∧
    TN (w.alloc (.cells (madeCells #[.bool false] n) 4)) w.heap.size w.heap.size n (List.replicate n false) := by
  obtain ⟨h1, h2⟩ := RW.make (P := Try.prog) (t := 42) w Try.underlying42 bool_info rfl n (by omega) (by omega)
  refine ⟨fun m hm => by subst hm; exact h1, ?_⟩
  unfold TN bools
  rw [List.map_replicate]; exact h2
/-- who has been seen -/
def SeenK (a : List Int) (t : List Bool) (k : Nat) : Prop := t.length = a.length ∧ ∀ p, p < a.length → (t.getD p false = true ↔ ∃ j, j < k ∧ a.getD j 0 = (p : Int))
theorem getD_setB {r : List Bool} {i j : Nat} {u : Bool} (hi : i < r.length) : (r.set i u).getD j false = if j = i then u else r.getD j false := by
  rw [List.getD_eq_getElem?_getD, List.getElem?_set]
  by_cases h : i = j
  · subst h; simp [hi]
  · rw [if_neg h, if_neg (fun e => h e.symm), List.getD_eq_getElem?_getD]
theorem SeenK.start {a : List Int} : SeenK a (List.replicate a.length false) 0 := by
  refine ⟨by simp, fun p hp => ?_⟩
  rw [List.getD_eq_getElem?_getD, List.getElem?_replicate, if_pos hp]
  constructor
  · intro h; cases h
  · rintro ⟨j, hj, _⟩; omega
theorem SeenK.step {a : List Int} {t : List Bool} {k : Nat} (h : SeenK a t k) (hk : k < a.length) (h0 : 0 ≤ a.getD k 0 ∧ a.getD k 0 < (a.length : Int)) : SeenK a (t.set (a.getD k 0).toNat true) (k + 1) := by
  have hlt : (a.getD k 0).toNat < t.length := by rw [h.1]; omega
  refine ⟨by rw [List.length_set, h.1], fun p hp => ?_⟩
  rw [getD_setB hlt]
  by_cases e : p = (a.getD k 0).toNat
  · rw [if_pos e]
    exact ⟨fun _ => ⟨k, by omega, by omega⟩, fun _ => rfl⟩
  · rw [if_neg e, h.2 p hp]
    constructor
    · rintro ⟨j, hj, e2⟩; exact ⟨j, by omega, e2⟩
    · rintro ⟨j, hj, e2⟩
      rcases Nat.lt_or_ge j k with h3 | h3
      · exact ⟨j, h3, e2⟩
      · have : j = k := by omega
        subst this
        exact absurd (by omega) e
theorem nodupK {a : List Int} {k : Nat} (h : ∀ i j, i < j → j < k → a.getD i 0 ≠ a.getD j 0) (hn : ∀ j, j < k → a.getD j 0 ≠ a.getD k 0) : ∀ i j, i < j → j < k + 1 → a.getD i 0 ≠ a.getD j 0 := by
  intro i j h1 h2
  rcases Nat.lt_or_ge j k with h3 | h3
  · exact h i j h1 h3
  · have : j = k := by omega
    subst this; exact hn i h1

set_option maxRecDepth 20000 in
set_option maxHeartbeats 4000000 in
theorem ranks_any (ar : List Int) (v : Value) (w : World) (hr : RI w v ar) (hl : (ar.length : Int) ≤ 30000) :
    Calls Try.prog 27 #[v] w fun e w' => ∃ u, e = .returned (.tuple #[u, .int .i64 (rkE ar)]) ∧ Ext w w' ∧ RI w' u (toI (rkL ar)) := by
  obtain ⟨a, c, rfl, hlc, _, hs⟩ := hr.shape
  have HS := Lib.hid hs
  have hmk := make_run w ar.length (by omega) _ rfl
  have h0 := Lib.hid (IN.make w ar.length (by omega))
  generalize hw1 : w.alloc (.cells (madeCells #[.int .i64 0] ar.length) 3) = w1 at *
  have hmk2 := (TN.make w1 ar.length (by omega)).1 _ rfl
  have t0 := Lib.hid (TN.make w1 ar.length (by omega)).2
  have X1 := Lib.hid (show Ext w w1 from hw1 ▸ (Ext.refl w).alloc _)
  have hsz := Lib.hid (show w1.heap.size = w.heap.size + 1 from by rw [← hw1, World.size_alloc])
  have HK0 := Lib.hid (RanksK.start (a := ar) (z := 0))
  have HT0 := Lib.hid (SeenK.start (a := ar))
  clear hr hs hw1
  go_enter Try.func27, Try.ntmps27
  go_wp2
  clear hmk hmk2
  go_loopw [16] (fun i wr => ∃ (k : Nat) (r : List Int) (t : List Bool), k ≤ ar.length ∧ i = .int .i64 (k : Int) ∧ IN wr w.heap.size w.heap.size ar.length r ∧ TN wr w.heap.size w1.heap.size ar.length t ∧ RanksK ar r 0 k ∧ SeenK ar t k ∧ (∀ i j, i < j → j < k → ar.getD i 0 ≠ ar.getD j 0) ∧ Ext w wr) (fun i _ => ar.length - (intOf i).toNat)
  case atStart => exact ⟨0, _, _, by omega, rfl, h0.out.ext ((Ext.refl _).alloc _), RW.mono t0.out X1.out.le, HK0.out, HT0.out, fun i j _ h => by omega, X1.out.trans ((Ext.refl _).alloc _)⟩
  case round =>
    obtain ⟨k, r, t, hk, rfl, hi, ht, hrk, hse, hnd, hx⟩ := hrel
    by_cases hlt : k < ar.length
    · obtain ⟨g, o, rfl, hcell⟩ := HS.out (by omega)
      have cx := Go.cell_later hx (hcell k hlt)
      have HX := Lib.hid hx
      have hki : (k : Int) < (ar.length : Int) := by omega
      have hci : (ar.length : Int) ≤ (c : Int) := by omega
      by_cases hin : 0 ≤ ar.getD k 0 ∧ ar.getD k 0 < (ar.length : Int)
      · obtain ⟨p, hp⟩ : ∃ p : Nat, ar.getD k 0 = (p : Int) := ⟨(ar.getD k 0).toNat, by omega⟩
        have hpl : p < ar.length := by omega
        have hpi : (p : Int) < (ar.length : Int) := by omega
        have n3 : ¬ (p : Int) < 0 := by omega
        have n4 : ¬ (ar.length : Int) ≤ (p : Int) := by omega
        have ct := ht.cell p hpl
        have ci := hi.cell p hpl
        have fi := hi.free p hpl
        cases hq : t.getD p false with
        | true =>
          obtain ⟨j, hj, e⟩ := (hse.2 p hpl).1 hq
          have HF := Lib.hid (rk_false (okP_twice hj hlt (e.trans hp.symm)))
          rw [hq] at ct
          rw [hp] at cx
          clear hse hnd hrk ht hi hin hcell hq e hp hx ci fi
          go_wp2
          go_ret2
          exact ⟨_, by rw [HF.out.1]; rfl, HX.out, by rw [HF.out.2]; exact RI.nil _⟩
        | false =>
          have hne : ∀ j, j < k → ar.getD j 0 ≠ ar.getD k 0 := fun j hj e => by
            have := (hse.2 p hpl).2 ⟨j, hj, e.trans hp⟩
            rw [hq] at this; cases this
          have hne2 : w1.heap.size ≠ w.heap.size := by have := hsz.out; omega
          have HRK := hrk.step hlt hin hne
          have HSE := hse.step hlt hin
          rw [hp, Int.toNat_natCast] at HRK HSE
          have HRK := Lib.hid HRK
          have HSE := Lib.hid HSE
          have HND := Lib.hid (nodupK hnd hne)
          have ft := Lib.hid (show (wr.setCell ⟨w.heap.size, p, none⟩ (.int .i64 (k : Int))).frozen? ⟨w1.heap.size, p, none⟩ = false from (ht.far (fun e => hne2 e.symm) _).free p hpl)
          have ct2 := Lib.hid (show (wr.setCell ⟨w.heap.size, p, none⟩ (.int .i64 (k : Int))).cell? ⟨w1.heap.size, p, none⟩ = _ from (ht.far (fun e => hne2 e.symm) _).cell p hpl)
          have HI := Lib.hid ((hi.set p (k : Int)).far (p := ⟨w1.heap.size, p, none⟩) hne2 (.bool true))
          have HT := Lib.hid ((ht.far (p := ⟨w.heap.size, p, none⟩) (fun e => hne2 e.symm) (.int .i64 (k : Int))).set p true)
          have HX2 := Lib.hid (Ext.set (Ext.set hx (p := ⟨w.heap.size, p, none⟩) (Nat.le_refl _) (.int .i64 (k : Int))) (p := ⟨w1.heap.size, p, none⟩) (by have := hsz.out; show w.heap.size ≤ w1.heap.size; omega) (.bool true))
          rw [hq] at ct
          rw [hp] at cx
          clear hse hnd hrk ht hi hin hcell hp hx hne hne2
          have ft := ft.out
          have ct2 := ct2.out
          go_wp2
          go_roundw
          case rel => exact ⟨k + 1, _, _, by omega, by go_num, HI.out, HT.out, HRK.out, HSE.out, HND.out, HX2.out⟩
          case measure => simp [intOf]; omega
      · have HF := Lib.hid (rk_false (okP_bad hlt hin))
        have n5 : ar.getD k 0 < 0 ∨ (¬ ar.getD k 0 < 0 ∧ (ar.length : Int) ≤ ar.getD k 0) := by omega
        clear hx hi ht hrk hse hnd hcell hin
        generalize ar.getD k 0 = x at *
        rcases n5 with h1 | ⟨h1, h2⟩
        all_goals
          (go_wp2
           go_ret2
           exact ⟨_, by rw [HF.out.1]; rfl, HX.out, by rw [HF.out.2]; exact RI.nil _⟩)
    · have e : k = ar.length := by omega
      subst e
      have hok := RanksK.ok hrk hnd
      have HD := Lib.hid (RanksK.done hrk hok)
      have HE := Lib.hid (rk_true hok)
      have HI := Lib.hid hi.ri
      have HX := Lib.hid hx
      clear hrk hse hi ht hnd hok hx
      go_wp2
      go_ret2
      exact ⟨_, by rw [HE.out]; rfl, HX.out, by rw [← HD.out]; exact HI.out⟩
end Go.Proofs.Yteflhfofahdckaa
