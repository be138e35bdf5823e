/- suffix: Sort. -/
import Derived.Test.YteflhfofahdckaaSufJ
namespace Go.Proofs.Yteflhfofahdckaa
set_option linter.unusedVariables false
set_option linter.unusedSimpArgs false
open Go.RowKit

theorem okKeys_true {ks : List Int} {most : Int} (h : okKeys ks most = true) : 0 ≤ most ∧ most ≤ 1000000 ∧ ∀ x ∈ ks, 0 ≤ x ∧ x ≤ most := of_decide_eq_true h
theorem okKeys_false {ks : List Int} {most : Int} (h : ¬ (0 ≤ most ∧ most ≤ 1000000 ∧ ∀ x ∈ ks, 0 ≤ x ∧ x ≤ most)) : okKeys ks most = false := decide_eq_false h
/-- what is told -/
def srtR (ks : List Int) (most : Int) : List Nat := if okKeys ks most then srtL ks most else []
def srtE (ks : List Int) (most : Int) : Int := if okKeys ks most then 0 else 2
theorem mem_getD {ks : List Int} {x : Int} (h : x ∈ ks) : ∃ i, i < ks.length ∧ ks.getD i 0 = x := by
  obtain ⟨i, hi, e⟩ := List.mem_iff_getElem.1 h
  exact ⟨i, hi, by rw [List.getD_eq_getElem?_getD, List.getElem?_eq_getElem hi]; exact e⟩

set_option maxRecDepth 20000 in
set_option maxHeartbeats 4000000 in
theorem sort_any (ks : List Int) (most : Int) (v : Value) (w : World) (hr : RI w v ks) (hl : (ks.length : Int) ≤ 1000) :
    Calls Try.prog 25 #[v, .int .i64 most] w fun e w' => ∃ u, e = .returned (.tuple #[u, .int .i64 (srtE ks most)]) ∧ Ext w w' ∧ RI w' u (toI (srtR ks most)) := by
  have hmf : ∀ (fn : Fn) (first cap : Array Value) (w : World), (Instr.makeFunc fn first cap).run Try.prog w = .ok (.func fn first cap) w := fun _ _ _ _ => rfl
  by_cases hm : 0 ≤ most ∧ most ≤ 1000000
  · obtain ⟨hm1, hm2⟩ := hm
    obtain ⟨a, c, rfl, hlc, _, hs⟩ := hr.shape
    have HR := Lib.hid hr
    have x0 := Lib.hid ((Ext.refl w).alloc (.cells #[.slice a ks.length c] 33))
    have b0 := Lib.hid (Blk.new w 33 #[.slice a ks.length c])
    have HS := Lib.hid hs
    have n1 : ¬ most < 0 := by omega
    have n2 : ¬ (1000000 : Int) < most := by omega
    have HU := Lib.hid (fun (x : World) => upto_any ks.length x (by omega))
    have HC := Lib.hid (fun (hk : ∀ x ∈ ks, 0 ≤ x ∧ x ≤ most) (x : World) (g : Nat) (hx : Ext (w.alloc (.cells #[.slice a ks.length c] 33)) x) (hg : RN x g ks.length (List.range ks.length)) =>
      counted_any (List.range ks.length) most.toNat (.slice (some ⟨g, 0, none⟩) ks.length ks.length) (.func (.func 42) #[] #[.pointer (some ⟨w.heap.size, 0, none⟩)]) (fun p => (ks.getD p 0).toNat) x hg.ri ((key_key ks most w.heap.size _ x (b0.out.ext hx) (HR.out.ext (x0.out.trans hx)) hk).sub (fun p hp => List.mem_range.1 hp)) (by omega) (fun p hp => by have := key_in hk (List.mem_range.1 hp); omega) (by rw [List.length_range]; omega))
    rw [List.length_range] at HC
    have em : ((most.toNat : Nat) : Int) = most := by omega
    rw [em] at HC
    have HM := Lib.hid (show 0 ≤ most ∧ most ≤ 1000000 from ⟨hm1, hm2⟩)
    clear hr hs hm1 hm2 em
    go_enter Try.func25, Try.ntmps25
    go_wp2
    go_loopw [16] (fun i wr => ∃ k : Nat, k ≤ ks.length ∧ i = .int .i64 (k : Int) ∧ (∀ j, j < k → 0 ≤ ks.getD j 0 ∧ ks.getD j 0 ≤ most) ∧ Ext (w.alloc (.cells #[.slice a ks.length c] 33)) wr) (fun i _ => ks.length - (intOf i).toNat)
    case atStart => exact ⟨0, by omega, rfl, fun j hj => by omega, Ext.refl _⟩
    case round =>
      obtain ⟨k, hk, rfl, hall, hx⟩ := hrel
      by_cases hlt : k < ks.length
      · obtain ⟨g, o, rfl, hcell⟩ := HS.out (by omega)
        have cx := Go.cell_later hx (Go.cell_later x0.out (hcell k hlt))
        have HX := Lib.hid hx
        have HALL := Lib.hid hall
        have hki : (k : Int) < (ks.length : Int) := by omega
        have hci : (ks.length : Int) ≤ (c : Int) := by omega
        by_cases hin : 0 ≤ ks.getD k 0 ∧ ks.getD k 0 ≤ most
        · have HST := Lib.hid (show ∀ j, j < k + 1 → 0 ≤ ks.getD j 0 ∧ ks.getD j 0 ≤ most from fun j hj => by
            rcases Nat.lt_or_ge j k with h | h
            · exact HALL.out j h
            · have : j = k := by omega
              subst this; exact hin)
          have n3 : ¬ ks.getD k 0 < 0 := by omega
          have n4 : ¬ most < ks.getD k 0 := by omega
          clear hx hall hcell hin
          generalize ks.getD k 0 = x at *
          go_wp2
          go_roundw
          case rel => exact ⟨k + 1, by omega, by go_num, HST.out, HX.out⟩
          case measure => simp [intOf]; omega
        · have HF := Lib.hid (okKeys_false (ks := ks) (most := most) (fun h => hin (key_in h.2.2 hlt)))
          have X1 := Lib.hid (x0.out.trans HX.out)
          have n5 : ks.getD k 0 < 0 ∨ (¬ ks.getD k 0 < 0 ∧ most < ks.getD k 0) := by omega
          clear hx hall hcell hin
          generalize ks.getD k 0 = x at *
          rcases n5 with h1 | ⟨h1, h2⟩
          all_goals
            (go_wp2
             go_ret2
             exact ⟨_, by unfold srtE; rw [HF.out]; rfl, X1.out, by unfold srtR; rw [HF.out]; exact RI.nil _⟩)
      · have e : k = ks.length := by omega
        subst e
        have hall2 : ∀ x ∈ ks, 0 ≤ x ∧ x ≤ most := fun x hx => by
          obtain ⟨i, hi, rfl⟩ := mem_getD hx
          exact hall i hi
        have HT := Lib.hid (show okKeys ks most = true from decide_eq_true ⟨HM.out.1, HM.out.2, hall2⟩)
        have HX := Lib.hid hx
        have HC := Lib.hid (HC.out hall2)
        have cb := (b0.out.ext hx).cell 0
        clear hall hx hall2
        go_wp2_with fail
        refine (HU.out _).mono ?_
        rintro e w1 ⟨g1, rfl, x1, n1⟩
        have HC := Lib.hid (HC.out w1 g1 (HX.out.trans x1) n1.rn)
        have X1 := Lib.hid (HX.out.trans x1)
        clear x1 n1
        go_wp2_with fail
        refine HC.out.mono ?_
        rintro e w2 ⟨g2, rfl, x2, n2⟩
        have X2 := Lib.hid ((x0.out.trans X1.out).trans x2)
        have N2 := Lib.hid n2.rn.ri
        clear x2 n2
        go_wp2
        go_ret2
        exact ⟨_, by unfold srtE; rw [HT.out]; rfl, X2.out, by unfold srtR; rw [HT.out]; exact N2.out⟩
  · have HF := Lib.hid (okKeys_false (ks := ks) (most := most) (fun h => hm ⟨h.1, h.2.1⟩))
    obtain ⟨a, c, rfl, hlc, _, hs⟩ := hr.shape
    have x0 := Lib.hid ((Ext.refl w).alloc (.cells #[.slice a ks.length c] 33))
    clear hr hs
    rcases (show most < 0 ∨ (¬ most < 0 ∧ (1000000 : Int) < most) by omega) with h1 | ⟨h1, h2⟩
    all_goals
      (clear hm
       go_enter Try.func25, Try.ntmps25
       go_wp2
       go_ret2
       exact ⟨_, by unfold srtE; rw [HF.out]; rfl, x0.out, by unfold srtR; rw [HF.out]; exact RI.nil _⟩)
end Go.Proofs.Yteflhfofahdckaa
