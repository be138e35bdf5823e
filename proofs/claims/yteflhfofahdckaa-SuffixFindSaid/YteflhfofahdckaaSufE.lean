/- suffix: counted. -/
import Derived.Test.YteflhfofahdckaaSufD
import Derived.RegionTactic
namespace Go.Proofs.Yteflhfofahdckaa
set_option linter.unusedVariables false
set_option linter.unusedSimpArgs false
open Go.RowKit

theorem ext_of_eq {a b : World} (h : a = b) : Ext a b := h ▸ Ext.refl _
theorem take_prefix (l : List Nat) (k : Nat) (h : k < l.length) : l.take k ++ [l.getD k 0] = l.take (k + 1) := by
  rw [getD_lt h, List.take_succ_eq_append_getElem h]
theorem cnt_le (key : Nat → Nat) (l : List Nat) (k : Nat) : cnt key l k ≤ l.length := List.length_filter_le _ _
theorem cntSt_get {key : Nat → Nat} {most : Nat} {pre : List Nat} {k : Nat} (h : k ≤ most) : (cntSt key most pre).getD (k + 1) 0 = cnt key pre k := by
  unfold cntSt; rw [mr_getD _ _ _ (by omega), if_neg (by omega)]; rfl
theorem sumSt_get1 {key : Nat → Nat} {most : Nat} {l : List Nat} {i : Nat} (h : i ≤ most) : (sumSt key most l i).getD (i + 1) 0 = cnt key l i := by
  unfold sumSt; rw [mr_getD _ _ _ (by omega), if_neg (by omega)]; rfl
theorem sumSt_get0 {key : Nat → Nat} {most : Nat} {l : List Nat} {i : Nat} (h : i ≤ most) : (sumSt key most l i).getD i 0 = cum key l i := by
  unfold sumSt; rw [mr_getD _ _ _ (by omega), if_pos (Nat.le_refl _)]
set_option maxRecDepth 20000 in
set_option maxHeartbeats 8000000 in
theorem counted_any (l : List Nat) (most : Nat) (v fv : Value) (key : Nat → Nat) (w : World) (hr : RI w v (toI l)) (hk : KeyAt fv key (· ∈ l) w) (hm : most ≤ 1000000) (hkm : ∀ p ∈ l, key p ≤ most) (hl : l.length ≤ 1000000) :
    Calls Try.prog 39 #[v, .int .i64 (most : Int), fv] w fun e w' => ∃ g, e = .returned (.slice (some ⟨g, 0, none⟩) l.length l.length) ∧ Ext w w' ∧ NW w' w.heap.size g l.length (csort key most l) := by
  obtain ⟨f, cap, rfl, hcall, hkey⟩ := hk
  have W1 := w64_small (n := (most : Int) + 2) (by omega) (by omega)
  have W2 := w64_small (n := (most : Int) + 1) (by omega) (by omega)
  have hmk := make_run w (most + 2) (by omega) ((most : Int) + 2) (by omega)
  have h0 := NW.make w (most + 2) (by omega)
  rw [← cntSt_nil (key := key)] at h0
  obtain ⟨a, c, rfl, k1, k2, k3⟩ := hr.shape
  rw [toI_length] at k1 k3 ⊢
  have HK := Lib.hid hkey
  have HM := Lib.hid hkm
  have H0 := Lib.hid h0
  have HR := Lib.hid hr
  have HC := Lib.hid (fun k (h : k < l.length) => k3 (by omega))
  clear hkey hkm h0 hr k3 k2
  go_enter Try.func39, Try.ntmps39
  go_wp2
  clear hmk
  go_loopw [20] (fun i wr => ∃ k : Nat, k ≤ l.length ∧ i = .int .i64 (k : Int) ∧ Ext w wr ∧ NW wr w.heap.size w.heap.size (most + 2) (cntSt key most (l.take k))) (fun i _ => l.length - (intOf i).toNat)
  case atStart => exact ⟨0, by omega, rfl, (Ext.refl _).alloc _, H0.out⟩
  case round =>
    obtain ⟨k, hk, rfl, hx, hw⟩ := hrel
    clear H0
    have HX := Lib.hid hx
    have HW := Lib.hid hw
    by_cases hlt : k < l.length
    · obtain ⟨g, o, rfl, hc⟩ := HC.out k hlt
      have HP := Lib.hid (show l.getD k 0 ∈ l from by rw [getD_lt hlt]; exact List.getElem_mem _)
      have c1 := Go.cell_later hx (hc k (by first | exact hlt | (rw [toI_length]; exact hlt)))
      rw [toI_getD] at c1
      have HT := Lib.hid (take_prefix l k hlt)
      have hkp := HM.out _ HP.out
      have HST := Lib.hid (cntSt_step (key := key) (most := most) (pre := l.take k) (l.getD k 0) hkp)
      have hcl : cnt key (l.take k) (key (l.getD k 0)) ≤ 1000000 := by have := cnt_le key (l.take k) (key (l.getD k 0)); rw [List.length_take] at this; omega
      have HG := Lib.hid (cntSt_get (key := key) (most := most) (pre := l.take k) hkp)
      have W3 := w64_small (n := (key (l.getD k 0) : Int) + 1) (by omega) (by omega)
      have W4 := w64_small (n := (cnt key (l.take k) (key (l.getD k 0)) : Int) + 1) (by omega) (by omega)
      clear hc hw hx
      generalize l.getD k 0 = p at *
      generalize hkk : key p = kp at *
      have HKK := Lib.hid hkk
      clear hkk
      generalize cnt key (l.take k) kp = old at *
      go_wp2_with fail
      refine (HK.out _ HX.out _ HP.out).mono ?_
      rw [HKK.out]
      rintro _ w2 ⟨rfl, x2'⟩; have x2 := ext_of_eq x2'; clear x2'
      have HW2 := Lib.hid (HW.out.ext x2)
      have c2 := HW2.out.cell (kp + 1) (by omega)
      rw [HG.out] at c2
      have f2 := HW2.out.free (kp + 1) (by omega)
      have HX2 := Lib.hid (HX.out.trans x2)
      clear x2
      go_wp2
      go_roundw
      case rel =>
        refine ⟨k + 1, by omega, by go_num, Ext.set HX2.out (Nat.le_refl _) _, ?_⟩
        rw [← HT.out, HST.out, HG.out]
        exact HW2.out.set (kp + 1) (old + 1)
      case measure => simp [intOf]; omega
    · have e : k = l.length := by omega
      subst e
      rw [List.take_length, ← sumSt_zero] at hw
      have HW0 := Lib.hid hw
      have HX0 := Lib.hid hx
      clear hw hx HW HX hk
      go_wp2
      go_loopw [36] (fun i wr2 => ∃ k : Nat, k ≤ most + 1 ∧ i = .int .i64 (k : Int) ∧ Ext w wr2 ∧ NW wr2 w.heap.size w.heap.size (most + 2) (sumSt key most l k)) (fun i _ => most + 1 - (intOf i).toNat)
      case atStart => exact ⟨0, by omega, rfl, HX0.out, HW0.out⟩
      case round =>
        obtain ⟨k, hk, rfl, hx, hw⟩ := hrel
        clear HX0 HW0
        by_cases hlt : k < most + 1
        · have c0 := hw.cell k (by omega)
          have c1 := hw.cell (k + 1) (by omega)
          have f1 := hw.free (k + 1) (by omega)
          rw [sumSt_get0 (by omega)] at c0
          rw [sumSt_get1 (by omega)] at c1
          have HSS := Lib.hid (sumSt_step (key := key) (most := most) (l := l) k (by omega))
          rw [sumSt_get0 (by omega), sumSt_get1 (by omega)] at HSS
          have hcl := cnt_le key l k
          have hcu := cum_mono (key := key) (l := l) (show k + 1 ≤ most + 1 by omega)
          rw [cum_all HM.out, cum_succ] at hcu
          have W3 := w64_small (n := (k : Int) + 1) (by omega) (by omega)
          have W4 := w64_small (n := (cnt key l k : Int) + (cum key l k : Int)) (by omega) (by omega)
          have HW := Lib.hid hw
          have HX := Lib.hid hx
          clear hw hx
          generalize cnt key l k = u at *
          generalize cum key l k = v at *
          have hlt' : (k : Int) < (most : Int) + 1 := by omega
          go_wp2
          go_region
          all_goals
            go_wp2
            go_roundw
            case rel =>
              refine ⟨k + 1, by omega, by go_num, (Ext.set HX.out (Nat.le_refl _) _).drew, ?_⟩
              rw [HSS.out]
              exact (HW.out.set (k + 1) (u + v)).ext (Ext.refl _).drew
            case measure => simp [intOf]; omega
        · have e : k = most + 1 := by omega
          subst e
          rw [← putSt_nil] at hw
          rename World => wr2
          have hge : ¬ (((most + 1 : Nat) : Int) < (most : Int) + 1) := by omega
          have hmk2 := make_run wr2 l.length (by omega) _ rfl
          have hB2 : w.heap.size < wr2.heap.size := hw.lt (by omega)
          have HW0 := Lib.hid (NW.ext hw ((Ext.refl wr2).alloc (.cells (madeCells #[.int .i64 0] l.length) 3)))
          have HX0 := Lib.hid (hx.alloc (.cells (madeCells #[.int .i64 0] l.length) 3))
          have HN0 := Lib.hid (show NW (wr2.alloc (.cells (madeCells #[.int .i64 0] l.length) 3)) w.heap.size wr2.heap.size l.length (List.replicate l.length 0) from IW.mono (NW.make wr2 l.length (by omega)) (by omega))
          clear hw hx hk hlt
          go_wp2
          clear hmk2 hge
          go_loopw [56] (fun i wr3 => ∃ (k : Nat) (out : List Nat), k ≤ l.length ∧ i = .int .i64 (k : Int) ∧ Ext w wr3 ∧ NW wr3 w.heap.size w.heap.size (most + 2) (putSt key most l (l.take k)) ∧ NW wr3 w.heap.size wr2.heap.size l.length out ∧ OutOk key l (l.take k) out) (fun i _ => l.length - (intOf i).toNat)
          case atStart => exact ⟨0, List.replicate l.length 0, by omega, rfl, HX0.out, HW0.out, HN0.out, OutOk.nil (by simp)⟩
          case round =>
            obtain ⟨k, out, hk, rfl, hx, hw, hn, hok⟩ := hrel
            clear HX0 HW0 HN0
            by_cases hlt : k < l.length
            · obtain ⟨g, o, rfl, hc⟩ := HC.out k hlt
              have HP := Lib.hid (show l.getD k 0 ∈ l from by rw [getD_lt hlt]; exact List.getElem_mem _)
              have c1 := Go.cell_later hx (hc k (by first | exact hlt | (rw [toI_length]; exact hlt)))
              rw [toI_getD] at c1
              have hT := take_prefix l k hlt
              have hpre : (l.take k ++ [l.getD k 0]) <+: l := by rw [hT]; exact List.take_prefix _ _
              have hkp := HM.out _ HP.out
              have hpos := put_lt (key := key) hpre HM.out
              have HST := Lib.hid (putSt_step (key := key) (most := most) (l := l) (pre := l.take k) (l.getD k 0) hkp)
              have HG := Lib.hid (putSt_get (key := key) (most := most) (l := l) (pre := l.take k) (k := key (l.getD k 0)) (by omega))
              have HOK := Lib.hid (OutOk.step hok hpre HM.out)
              have HT := Lib.hid hT
              have W4 := w64_small (n := ((cum key l (key (l.getD k 0)) + cnt key (l.take k) (key (l.getD k 0)) : Nat) : Int) + 1) (by omega) (by omega)
              have HX := Lib.hid hx
              have HW := Lib.hid hw
              have HN := Lib.hid hn
              clear hc hw hx hn hok hpre hT
              generalize l.getD k 0 = p at *
              generalize hkk : key p = kp at *
              have HKK := Lib.hid hkk
              clear hkk
              generalize cum key l kp + cnt key (l.take k) kp = pos at *
              go_wp2_with fail
              refine (HK.out _ HX.out _ HP.out).mono ?_
              rw [HKK.out]
              rintro _ w2 ⟨rfl, x2'⟩; have x2 := ext_of_eq x2'; clear x2'
              have HW2 := Lib.hid (HW.out.ext x2)
              have HN2 := Lib.hid (HN.out.ext x2)
              have HX2 := Lib.hid (HX.out.trans x2)
              have c2 := HW2.out.cell kp (by omega)
              rw [HG.out] at c2
              have c3 := HN2.out.cell pos hpos
              have f3 := HN2.out.free pos hpos
              have hne : ¬ w.heap.size = wr2.heap.size := by omega
              have HN3 := Lib.hid (HN2.out.set pos p)
              have HW3 := Lib.hid (HW2.out.far (p := ⟨wr2.heap.size, pos, none⟩) (fun e => hne e.symm) (.int .i64 (p : Int)))
              have HX3 := Lib.hid (Ext.set HX2.out (p := ⟨wr2.heap.size, pos, none⟩) (Nat.le_of_lt hB2) (.int .i64 (p : Int)))
              have c4 := HW3.out.cell kp (by omega)
              rw [HG.out] at c4
              have f4 := HW3.out.free kp (by omega)
              clear x2
              generalize out.getD pos 0 = old at *
              go_wp2
              go_roundw
              case rel =>
                refine ⟨k + 1, out.set pos p, by omega, by go_num, Ext.set HX3.out (Nat.le_refl _) _, ?_, ?_, ?_⟩
                · rw [← HT.out, HST.out, HG.out]
                  exact HW3.out.set kp (pos + 1)
                · exact HN3.out.far (p := ⟨w.heap.size, kp, none⟩) hne _
                · rw [← HT.out]; exact HOK.out
              case measure => simp [intOf]; omega
            · have e : k = l.length := by omega
              subst e
              rw [List.take_length] at hok
              have hd := hok.done HM.out
              subst hd
              go_wp2
              go_ret
              exact ⟨_, rfl, hx, hn⟩
end Go.Proofs.Yteflhfofahdckaa
