/- suffix: the reference's Ranks. -/
import Derived.Test.YteflhfofahdckaaSufO
namespace Go.Proofs.Yteflhfofahdckaa
set_option linter.unusedVariables false
set_option linter.unusedSimpArgs false
open Go.RowKit

theorem mr_setI (n k : Nat) (u : Int) (f : Nat → Int) : ((List.range n).map f).set k u = (List.range n).map fun j => if j = k then u else f j := by
  apply List.ext_getElem?
  intro i
  rw [List.getElem?_set]
  by_cases hi : i < n
  · by_cases e : k = i
    · subst e; simp [hi]
    · rw [if_neg e]
      simp [hi, List.getElem?_range, show ¬ i = k from fun h => e h.symm]
  · by_cases e : k = i
    · subst e; simp [hi]
    · rw [if_neg e]; simp [hi]

set_option maxRecDepth 20000 in
set_option maxHeartbeats 4000000 in
theorem rranks_any (ar : List Int) (v : Value) (w : World) (hr : RI w v ar) (hl : (ar.length : Int) ≤ 30000) :
    Calls Try.prog 28 #[v] w fun e w' => ∃ u, e = .returned (.tuple #[u, .int .i64 (rkE ar)]) ∧ Ext w w' ∧ RI w' u (toI (rkL ar)) := by
  obtain ⟨a, c, rfl, hlc, _, hs⟩ := hr.shape
  have HS := Lib.hid hs
  have hmk := make_run w ar.length (by omega) _ rfl
  have h0 := Lib.hid (show IN (w.alloc (.cells (madeCells #[.int .i64 0] ar.length) 3)) w.heap.size w.heap.size ar.length ((List.range ar.length).map fun j => if j < 0 then -1 else 0) from by
    have : ((List.range ar.length).map fun j => if j < 0 then (-1 : Int) else 0) = List.replicate ar.length 0 := by
      rw [List.eq_replicate_iff]
      refine ⟨by simp, fun b hb => ?_⟩
      obtain ⟨j, _, rfl⟩ := List.mem_map.1 hb
      rfl
    rw [this]; exact IN.make w ar.length (by omega))
  have HK0 := Lib.hid (RanksK.start (a := ar) (z := -1))
  clear hr hs
  go_enter Try.func28, Try.ntmps28
  go_wp2
  clear hmk
  go_loopw [5] (fun i wr => ∃ k : Nat, k ≤ ar.length ∧ i = .int .i64 (k : Int) ∧ Ext w wr ∧ IN wr w.heap.size w.heap.size ar.length ((List.range ar.length).map fun j => if j < k then -1 else 0)) (fun i _ => ar.length - (intOf i).toNat)
  case atStart => exact ⟨0, by omega, rfl, (Ext.refl _).alloc _, h0.out⟩
  case round =>
    obtain ⟨k, hk, rfl, hx, hw⟩ := hrel
    clear h0
    by_cases hlt : k < ar.length
    · have cc := hw.cell k hlt
      have ff := hw.free k hlt
      have HST := Lib.hid (show IN (wr.setCell ⟨w.heap.size, k, none⟩ (.int .i64 (-1))) w.heap.size w.heap.size ar.length ((List.range ar.length).map fun j => if j < k + 1 then -1 else 0) from by
        have h1 := hw.set k (-1)
        rw [mr_setI] at h1
        rw [show ((List.range ar.length).map fun j => if j < k + 1 then (-1 : Int) else 0) = (List.range ar.length).map fun j => if j = k then (-1 : Int) else if j < k then -1 else 0 from List.map_congr_left fun i hi => by
          by_cases e : i = k
          · subst e; simp
          · by_cases e2 : i < k
            · simp [e, e2, show i < k + 1 by omega]
            · simp [e, e2, show ¬ i < k + 1 by omega]]
        exact h1)
      have HX := Lib.hid hx
      have hki : (k : Int) < (ar.length : Int) := by omega
      clear hw hx hk
      generalize ((List.range ar.length).map fun j => if j < k then (-1 : Int) else 0).getD k 0 = old at *
      go_wp2
      go_roundw
      case rel => exact ⟨k + 1, by omega, by go_num, Ext.set HX.out (Nat.le_refl _) _, HST.out⟩
      case measure => simp [intOf]; omega
    · have e : k = ar.length := by omega
      subst e
      have H1 := Lib.hid (show IN wr w.heap.size w.heap.size ar.length (List.replicate ar.length (-1)) from by
        rw [show List.replicate ar.length (-1 : Int) = (List.range ar.length).map fun j => if j < ar.length then (-1 : Int) else 0 from by
          symm
          rw [List.eq_replicate_iff]
          refine ⟨by simp, fun b hb => ?_⟩
          obtain ⟨j, hj, rfl⟩ := List.mem_map.1 hb
          rw [if_pos (List.mem_range.1 hj)]]
        exact hw)
      have HX0 := Lib.hid hx
      clear hw hx hlt hk
      go_wp2
      go_loopw [6] (fun i w2 => ∃ (k : Nat) (r : List Int), k ≤ ar.length ∧ i = .int .i64 (k : Int) ∧ IN w2 w.heap.size w.heap.size ar.length r ∧ RanksK ar r (-1) k ∧ (∀ i j, i < j → j < k → ar.getD i 0 ≠ ar.getD j 0) ∧ Ext w w2) (fun i _ => ar.length - (intOf i).toNat)
      case atStart => exact ⟨0, _, by omega, rfl, H1.out, HK0.out, fun i j _ h => by omega, HX0.out⟩
      case round =>
        rename World => w2
        obtain ⟨k, r, hk, rfl, hi, hrk, hnd, hx⟩ := hrel
        by_cases hlt : k < ar.length
        · obtain ⟨g, o, rfl, hcell⟩ := HS.out (by omega)
          have cx := Go.cell_later hx (hcell k hlt)
          have HX := Lib.hid hx
          have hki : (k : Int) < (ar.length : Int) := by omega
          have hci : (ar.length : Int) ≤ (c : Int) := by omega
          by_cases hin : 0 ≤ ar.getD k 0 ∧ ar.getD k 0 < (ar.length : Int)
          · obtain ⟨p, hp⟩ : ∃ p : Nat, ar.getD k 0 = (p : Int) := ⟨(ar.getD k 0).toNat, by omega⟩
            have hpl : p < ar.length := by omega
            have hpi : (p : Int) < (ar.length : Int) := by omega
            have n3 : ¬ (p : Int) < 0 := by omega
            have n4 : ¬ (ar.length : Int) ≤ (p : Int) := by omega
            have ci := hi.cell p hpl
            have fi := hi.free p hpl
            have htk := hrk.taken (by decide) hpl
            by_cases hq : r.getD p 0 < 0
            · have hne : ∀ j, j < k → ar.getD j 0 ≠ ar.getD k 0 := fun j hj e => htk.1 hq j hj (e.trans hp)
              have HRK := hrk.step hlt hin hne
              rw [hp, Int.toNat_natCast] at HRK
              have HRK2 := Lib.hid HRK
              have HND := Lib.hid (nodupK hnd hne)
              have HI := Lib.hid (hi.set p (k : Int))
              have HX2 := Lib.hid (Ext.set hx (p := ⟨w.heap.size, p, none⟩) (Nat.le_refl _) (.int .i64 (k : Int)))
              have n5 : ¬ 0 ≤ r.getD p 0 := by omega
              rw [hp] at cx
              clear hnd hrk hi hin hcell hp hx hne HRK htk H1
              generalize r.getD p 0 = x at *
              go_wp2
              go_roundw
              case rel => exact ⟨k + 1, _, by omega, by go_num, HI.out, HRK2.out, HND.out, HX2.out⟩
              case measure => simp [intOf]; omega
            · have hq2 : ∃ j, j < k ∧ ar.getD j 0 = (p : Int) := Classical.byContradiction fun hn => hq (htk.2 fun j hj e => hn ⟨j, hj, e⟩)
              obtain ⟨j, hj, e⟩ := hq2
              have HF := Lib.hid (rk_false (okP_twice hj hlt (e.trans hp.symm)))
              have n5 : 0 ≤ r.getD p 0 := by omega
              rw [hp] at cx
              clear hnd hrk hi hin hcell e hp hx fi htk hq H1
              generalize r.getD p 0 = x at *
              go_wp2
              go_ret2
              exact ⟨_, by rw [HF.out.1]; rfl, HX.out, by rw [HF.out.2]; exact RI.nil _⟩
          · have HF := Lib.hid (rk_false (okP_bad hlt hin))
            have n5 : ar.getD k 0 < 0 ∨ (¬ ar.getD k 0 < 0 ∧ (ar.length : Int) ≤ ar.getD k 0) := by omega
            clear hx hi hrk hnd hcell hin H1
            generalize ar.getD k 0 = x at *
            rcases n5 with h1 | ⟨h1, h2⟩
            all_goals
              (go_wp2
               go_ret2
               exact ⟨_, by rw [HF.out.1]; rfl, HX.out, by rw [HF.out.2]; exact RI.nil _⟩)
        · have e : k = ar.length := by omega
          subst e
          have hok := RanksK.ok hrk hnd
          have HD := Lib.hid (RanksK.done hrk hok)
          have HE := Lib.hid (rk_true hok)
          have HI := Lib.hid hi.ri
          have HX := Lib.hid hx
          clear hrk hi hnd hok hx H1
          go_wp2
          go_ret2
          exact ⟨_, by rw [HE.out]; rfl, HX.out, by rw [← HD.out]; exact HI.out⟩
end Go.Proofs.Yteflhfofahdckaa
