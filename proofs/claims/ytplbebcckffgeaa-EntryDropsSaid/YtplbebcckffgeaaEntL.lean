/- varveref24: Replace. (Printed by wip/tools/entry7.py.) -/
import Derived.Test.YtplbebcckffgeaaEntLp
import Derived.Test.YtplbebcckffgeaaEntE
import Derived.Test.YtplbebcckffgeaaSetW
namespace Go.Proofs.Ytplbebcckffgeaa
set_option linter.unusedVariables false
set_option linter.unusedSimpArgs false
open Go.RowKit

set_option maxRecDepth 20000 in
set_option maxHeartbeats 16000000 in
theorem rReplace_any (l : List E9) (e : E9) (v : Value) (w : World) (hr : RR entC 9 w v l) :
    Calls Try.prog 10 #[v, .agg (entC e).toArray] w fun x w' => ∃ v', x = .returned (.tuple #[v', .int .i64 (replE l e)]) ∧ Ext w w' ∧ EW w' w.heap.size v' (replL l e) := by
  have q := fun w' (h : RR entC 9 w' v l) => rRow_any l v w' h
  have B1 := Lib.hid (Blk.new w 26 (entC e).toArray)
  have X0 := Lib.hid ((Ext.refl w).alloc (.cells (entC e).toArray 26))
  have HR := Lib.hid (hr.ext X0.out)
  cases hrow : rowP l with
  | false =>
    rw [hrow] at q
    have Q := Lib.hid q
    have hs := repl_bad (e := e) hrow
    rw [hs.1, hs.2]
    clear hrow hs q hr
    generalize entC e = ce at *
    go_enter Try.func10, Try.ntmps10
    go_wp2_with fail
    refine (Q.out _ HR.out).mono ?_
    rintro _ w1 ⟨rfl, x1⟩
    simp only [errI, Bool.false_eq_true, if_false]
    go_wp2
    go_ret2
    exact ⟨_, rfl, X0.out.trans x1, WR.nil _ _ _⟩
  | true =>
    rw [hrow] at q
    have Q := Lib.hid q
    clear q
    obtain ⟨h1, h2⟩ := rowP_len hrow
    have HR0 := HR
    obtain ⟨a, c, rfl, hlc, _, hs⟩ := hr
    obtain ⟨g, o, rfl, hcells⟩ := hs (by omega)
    have HC := Lib.hid (fun k x hk => rangeAt_ext (hcells k x hk) X0.out)
    have HEND := Lib.hid (repl_end (e := e) hrow)
    have h2' := Lib.hid h2
    have h1' := Lib.hid h1
    have qr := Lib.hid (fun v w h => rRow_any (mapTo l e l.length) v w h)
    have C0 := Lib.hid (show _ = some (Value.int .i64 e.id) from B1.out.cell 0)
    have ES := Lib.hid (show (Try.prog.info? 26).map (·.size) = some (entC e).toArray.size from ent_size)
    have EO := Lib.hid (entC_all e)
    clear hs hcells hlc hrow h1 h2
    generalize replE l e = ev at *
    generalize replL l e = pl at *
    go_enter Try.func10, Try.ntmps10
    go_wp2_with fail
    refine (Q.out _ HR.out).mono ?_
    rintro _ w1 ⟨rfl, x1⟩
    simp only [errI, if_true]
    have X1 := Lib.hid x1
    clear x1
    obtain ⟨v', w', p1, p2, p3⟩ := WR.app0 (B := w1.heap.size) (w := w1.alloc (.cells #[] 26)) entC_length (by decide) entC_one (Blk.new w1 26 #[]) (Nat.le_refl _) (RR.ext (HR.out.ext X1.out) ((Ext.refl w1).alloc _)) (by rw [World.size_alloc]; omega) (P := Try.prog) (t := 22) Try.underlying22 ent_info rfl (by have := h2'.out; omega) (by have := h2'.out; unfold maxLen; omega)
    obtain ⟨a2, c2, rfl, hlc2, hs2⟩ := WR.shape entC_length p2
    have P2 := Lib.hid p2
    have P3 := Lib.hid p3
    clear p2 p3
    obtain ⟨g2, rfl, hg2, _⟩ := hs2 (by have := h1'.out; omega)
    have HG := Lib.hid hg2
    have HLC := Lib.hid hlc2
    clear hs2 hg2 hlc2
    go_wp2_with (first
      | (refine wpList_bs (vs := #[]) rfl 22 0 _ rfl rfl (run_bs0e _) ?_)
      | (at_builtin; refine wpList_app rfl (.tmp 13) (.tmp 14) 22 rfl rfl rfl rfl p1 ?_))
    go_loopw [8, 7] (fun i fd wr => ∃ k : Nat, i = .int .i64 (k : Int) ∧ k ≤ l.length ∧ fd = .bool (anyTo l e k) ∧ WR entC 9 wr w1.heap.size 26 (.slice (some ⟨g2, 0, none⟩) l.length c2) (mapTo l e k) ∧ Ext (w.alloc (.cells (entC e).toArray 26)) wr) (fun i _ _ => l.length - (intOf i).toNat)
    case atStart => exact ⟨0, rfl, Nat.zero_le _, rfl, by rw [mapTo_zero]; exact P2.out, X1.out.trans (((Ext.refl _).alloc _).trans P3.out)⟩
    case round =>
      obtain ⟨k, rfl, hk, rfl, hw, hx⟩ := hrel
      have HX := Lib.hid hx
      have HW := Lib.hid hw
      by_cases hlt : k < l.length
      · have hI : (k : Int) < (l.length : Int) := by omega
        have R := Lib.hid (rangeAt_ext (HC.out k _ (ent_at hlt)) hx)
        have HNO := Lib.hid (fun hh => mapTo_no (e := e) hlt hh)
        have HYES := Lib.hid (fun hh => mapTo_yes (e := e) hlt hh)
        have HANY := Lib.hid (anyTo_succ (e := e) hlt)
        have hkw : IntKind.i64.wrap ((k : Int) + 1) = ((k + 1 : Nat) : Int) := by have := h2'.out; rw [IntKind.wrap_i64]; omega
        have hkm := Lib.hid hlt
        have HTH := Lib.hid (WR.there (WR.alloc hw (.cells (entC (l.getD k default)).toArray 26)) k (by rw [mapTo_len]; exact hlt))
        have HST := Lib.hid (WR.set entC_length (WR.alloc hw (.cells (entC (l.getD k default)).toArray 26)) k (by rw [mapTo_len]; exact hlt) e)
        generalize l.getD k default = o at *
        have hcases := mat_firsts o e
        have B4 := Lib.hid (Blk.new wr 26 (entC o).toArray)
        have B5 := Lib.hid ((B1.out.ext hx).alloc (.cells (entC o).toArray 26))
        have d0 : (wr.alloc (.cells (entC o).toArray 26)).cell? ⟨wr.heap.size, 0, none⟩ = some (Value.int .i64 o.id) := B4.out.cell 0
        have d1 : (wr.alloc (.cells (entC o).toArray 26)).cell? ⟨wr.heap.size, 1, none⟩ = some (Value.int .i64 o.gen) := B4.out.cell 1
        have d2 : (wr.alloc (.cells (entC o).toArray 26)).cell? ⟨wr.heap.size, 2, none⟩ = some (Value.int .i64 o.fst) := B4.out.cell 2
        have d3 : (wr.alloc (.cells (entC o).toArray 26)).cell? ⟨wr.heap.size, 3, none⟩ = some (Value.bool o.sld) := B4.out.cell 3
        have d4 : (wr.alloc (.cells (entC o).toArray 26)).cell? ⟨wr.heap.size, 4, none⟩ = some (Value.int .i64 o.cnt) := B4.out.cell 4
        have d6 : (wr.alloc (.cells (entC o).toArray 26)).cell? ⟨wr.heap.size, 6, none⟩ = some (Value.int .i64 o.early) := B4.out.cell 6
        have d7 : (wr.alloc (.cells (entC o).toArray 26)).cell? ⟨wr.heap.size, 7, none⟩ = some (Value.int .i64 o.late) := B4.out.cell 7
        have f0 : (wr.alloc (.cells (entC o).toArray 26)).cell? ⟨w.heap.size, 0, none⟩ = some (Value.int .i64 e.id) := B5.out.cell 0
        have f1 : (wr.alloc (.cells (entC o).toArray 26)).cell? ⟨w.heap.size, 1, none⟩ = some (Value.int .i64 e.gen) := B5.out.cell 1
        have f2 : (wr.alloc (.cells (entC o).toArray 26)).cell? ⟨w.heap.size, 2, none⟩ = some (Value.int .i64 e.fst) := B5.out.cell 2
        have f3 : (wr.alloc (.cells (entC o).toArray 26)).cell? ⟨w.heap.size, 3, none⟩ = some (Value.bool e.sld) := B5.out.cell 3
        have f4 : (wr.alloc (.cells (entC o).toArray 26)).cell? ⟨w.heap.size, 4, none⟩ = some (Value.int .i64 e.cnt) := B5.out.cell 4
        have f6 : (wr.alloc (.cells (entC o).toArray 26)).cell? ⟨w.heap.size, 6, none⟩ = some (Value.int .i64 e.early) := B5.out.cell 6
        have f7 : (wr.alloc (.cells (entC o).toArray 26)).cell? ⟨w.heap.size, 7, none⟩ = some (Value.int .i64 e.late) := B5.out.cell 7
        have HLL := Lib.hid (show (Try.prog.info? 26).map (·.size) = some (entC o).length from ent_size)
        have HZ := Lib.hid (show (Try.prog.info? 26).map (·.size) = some (entC o).toArray.size from ent_size)
        have HS9 := Lib.hid (show (#[.int .i64 0, .int .i64 0, .int .i64 0, .bool false, .int .i64 0, .int .i64 0, .int .i64 0, .int .i64 0, .int .i64 0] : Array Value).size = (entC o).toArray.size from rfl)
        have H1 := Lib.hid (entC_all o)
        clear hx hw hk hlt
        generalize entC o = cs at *
        rcases hcases with ⟨hmat, h0⟩ | ⟨hmat, h0, h1⟩ | ⟨hmat, h0, h1, h2⟩ | ⟨hmat, h0, h1, h2, h3⟩ | ⟨hmat, h0, h1, h2, h3, h4⟩ | ⟨hmat, h0, h1, h2, h3, h4, h5⟩ | ⟨hmat, h0, h1, h2, h3, h4, h5, h6⟩ | ⟨hmat, h0, h1, h2, h3, h4, h5, h6, h7⟩ | ⟨hmat, h0, h1, h2, h3, h4, h5, h6, h7⟩
        · have h' : (o.id == e.id) = false := by simpa using h0
          go_wp2_with (first
            | (refine wpList_load_mid rfl 26 (.tmp 24) rfl g _ rfl cs _ R.out Try.underlying26 rfl HLL.out ?_)
            | (refine wpList_store_new (cs' := cs.toArray) rfl 26 (.tmp 9) (.tmp 25) rfl rfl rfl HS9.out HZ.out H1.out ?_; refine Held.go ?_))
          refine ⟨?_⟩
          go_wp2
          go_roundw
          case rel => exact ⟨k + 1, by go_num, by have := hkm.out; omega, by rw [HANY.out, hmat, Bool.or_false], by rw [HNO.out hmat]; exact WR.alloc HW.out _, HX.out.alloc _⟩
          case measure => simp [intOf]; have := hkm.out; omega
        · rw [h0] at d0
          rw [h1] at d3
          clear h0 h1
          go_wp2_with (first
            | (refine wpList_load_mid rfl 26 (.tmp 24) rfl g _ rfl cs _ R.out Try.underlying26 rfl HLL.out ?_)
            | (refine wpList_store_new (cs' := cs.toArray) rfl 26 (.tmp 9) (.tmp 25) rfl rfl rfl HS9.out HZ.out H1.out ?_; refine Held.go ?_))
          refine ⟨?_⟩
          go_wp2
          go_roundw
          case rel => exact ⟨k + 1, by go_num, by have := hkm.out; omega, by rw [HANY.out, hmat, Bool.or_false], by rw [HNO.out hmat]; exact WR.alloc HW.out _, HX.out.alloc _⟩
          case measure => simp [intOf]; have := hkm.out; omega
        · rw [h0] at d0
          rw [h1] at d3
          rw [h2] at f3
          clear h0 h1 h2
          go_wp2_with (first
            | (refine wpList_load_mid rfl 26 (.tmp 24) rfl g _ rfl cs _ R.out Try.underlying26 rfl HLL.out ?_)
            | (refine wpList_store_new (cs' := cs.toArray) rfl 26 (.tmp 9) (.tmp 25) rfl rfl rfl HS9.out HZ.out H1.out ?_; refine Held.go ?_))
          refine ⟨?_⟩
          go_wp2
          go_roundw
          case rel => exact ⟨k + 1, by go_num, by have := hkm.out; omega, by rw [HANY.out, hmat, Bool.or_false], by rw [HNO.out hmat]; exact WR.alloc HW.out _, HX.out.alloc _⟩
          case measure => simp [intOf]; have := hkm.out; omega
        · rw [h0] at d0
          rw [h1] at d3
          rw [h2] at f3
          clear h0 h1 h2
          go_wp2_with (first
            | (refine wpList_load_mid rfl 26 (.tmp 24) rfl g _ rfl cs _ R.out Try.underlying26 rfl HLL.out ?_)
            | (refine wpList_store_new (cs' := cs.toArray) rfl 26 (.tmp 9) (.tmp 25) rfl rfl rfl HS9.out HZ.out H1.out ?_; refine Held.go ?_))
          refine ⟨?_⟩
          go_wp2
          go_roundw
          case rel => exact ⟨k + 1, by go_num, by have := hkm.out; omega, by rw [HANY.out, hmat, Bool.or_false], by rw [HNO.out hmat]; exact WR.alloc HW.out _, HX.out.alloc _⟩
          case measure => simp [intOf]; have := hkm.out; omega
        · rw [h0] at d0
          rw [h1] at d3
          rw [h2] at f3
          have h' : (o.fst == e.fst) = false := by simpa using h4
          clear h0 h1 h2
          go_wp2_with (first
            | (refine wpList_load_mid rfl 26 (.tmp 24) rfl g _ rfl cs _ R.out Try.underlying26 rfl HLL.out ?_)
            | (refine wpList_store_new (cs' := cs.toArray) rfl 26 (.tmp 9) (.tmp 25) rfl rfl rfl HS9.out HZ.out H1.out ?_; refine Held.go ?_))
          refine ⟨?_⟩
          go_wp2
          go_roundw
          case rel => exact ⟨k + 1, by go_num, by have := hkm.out; omega, by rw [HANY.out, hmat, Bool.or_false], by rw [HNO.out hmat]; exact WR.alloc HW.out _, HX.out.alloc _⟩
          case measure => simp [intOf]; have := hkm.out; omega
        · rw [h0] at d0
          rw [h1] at d3
          rw [h2] at f3
          rw [h4] at d2
          have h' : (o.cnt == e.cnt) = false := by simpa using h5
          clear h0 h1 h2 h4
          go_wp2_with (first
            | (refine wpList_load_mid rfl 26 (.tmp 24) rfl g _ rfl cs _ R.out Try.underlying26 rfl HLL.out ?_)
            | (refine wpList_store_new (cs' := cs.toArray) rfl 26 (.tmp 9) (.tmp 25) rfl rfl rfl HS9.out HZ.out H1.out ?_; refine Held.go ?_))
          refine ⟨?_⟩
          go_wp2
          go_roundw
          case rel => exact ⟨k + 1, by go_num, by have := hkm.out; omega, by rw [HANY.out, hmat, Bool.or_false], by rw [HNO.out hmat]; exact WR.alloc HW.out _, HX.out.alloc _⟩
          case measure => simp [intOf]; have := hkm.out; omega
        · rw [h0] at d0
          rw [h1] at d3
          rw [h2] at f3
          rw [h4] at d2
          rw [h5] at d4
          have h' : (o.early == e.early) = false := by simpa using h6
          clear h0 h1 h2 h4 h5
          go_wp2_with (first
            | (refine wpList_load_mid rfl 26 (.tmp 24) rfl g _ rfl cs _ R.out Try.underlying26 rfl HLL.out ?_)
            | (refine wpList_store_new (cs' := cs.toArray) rfl 26 (.tmp 9) (.tmp 25) rfl rfl rfl HS9.out HZ.out H1.out ?_; refine Held.go ?_))
          refine ⟨?_⟩
          go_wp2
          go_roundw
          case rel => exact ⟨k + 1, by go_num, by have := hkm.out; omega, by rw [HANY.out, hmat, Bool.or_false], by rw [HNO.out hmat]; exact WR.alloc HW.out _, HX.out.alloc _⟩
          case measure => simp [intOf]; have := hkm.out; omega
        · rw [h0] at d0
          rw [h1] at d3
          rw [h2] at f3
          rw [h4] at d2
          rw [h5] at d4
          rw [h6] at d6
          have h' : (o.late == e.late) = false := by simpa using h7
          clear h0 h1 h2 h4 h5 h6
          go_wp2_with (first
            | (refine wpList_load_mid rfl 26 (.tmp 24) rfl g _ rfl cs _ R.out Try.underlying26 rfl HLL.out ?_)
            | (refine wpList_store_new (cs' := cs.toArray) rfl 26 (.tmp 9) (.tmp 25) rfl rfl rfl HS9.out HZ.out H1.out ?_; refine Held.go ?_))
          refine ⟨?_⟩
          go_wp2
          go_roundw
          case rel => exact ⟨k + 1, by go_num, by have := hkm.out; omega, by rw [HANY.out, hmat, Bool.or_false], by rw [HNO.out hmat]; exact WR.alloc HW.out _, HX.out.alloc _⟩
          case measure => simp [intOf]; have := hkm.out; omega
        · rw [h0] at d0
          rw [h1] at d3
          rw [h2] at f3
          rw [h4] at d2
          rw [h5] at d4
          rw [h6] at d6
          rw [h7] at d7
          clear h0 h1 h2 h4 h5 h6 h7
          go_wp2_with (first
            | (refine wpList_load_mid rfl 26 (.tmp 24) rfl g _ rfl cs _ R.out Try.underlying26 rfl HLL.out ?_)
            | (refine wpList_store_new (cs' := cs.toArray) rfl 26 (.tmp 9) (.tmp 25) rfl rfl rfl HS9.out HZ.out H1.out ?_; refine Held.go ?_))
          refine ⟨?_⟩
          go_wp2_with (first
            | (refine wpList_load_blk rfl 26 (.tmp 3) rfl rfl B5.out Try.underlying26 rfl ES.out ?_)
            | (refine wpList_store_mid rfl 26 (.tmp 83) (.tmp 82) rfl g2 (k * 9) (entC e).toArray rfl rfl HTH.out ES.out EO.out ?_; refine Held.go ?_))
          refine ⟨?_⟩
          go_wp2
          go_roundw
          case rel => exact ⟨k + 1, by go_num, by have := hkm.out; omega, by rw [HANY.out, hmat, Bool.or_true], by rw [HYES.out hmat]; exact HST.out, (HX.out.alloc _).setCells (Nat.le_trans X1.out.le HG.out) _ _⟩
          case measure => simp [intOf]; have := hkm.out; omega
      · obtain rfl : k = l.length := by omega
        have hres := HEND.out
        generalize anyTo l e l.length = fd at *
        generalize mapTo l e l.length = ml at *
        rcases hres with ⟨rfl, rfl, rfl⟩ | ⟨rfl, h1, h2⟩
        · clear hk hx hw
          go_wp2
          go_ret2
          exact ⟨_, rfl, X0.out.trans HX.out, WR.nil _ _ _⟩
        · unfold putL at h2
          cases hrow : rowP ml with
          | false =>
            rw [hrow] at qr h1 h2
            simp only [errI, Bool.false_eq_true, if_false] at qr h1 h2
            subst h1
            subst h2
            clear hk hx hw hrow
            go_wp2_with fail
            refine (qr.out _ _ (WR.rr entC_length HW.out)).mono ?_
            rintro _ w5 ⟨rfl, x5⟩
            go_wp2
            go_ret2
            exact ⟨_, rfl, (X0.out.trans HX.out).trans x5, WR.nil _ _ _⟩
          | true =>
            rw [hrow] at qr h1 h2
            simp only [errI, if_true] at qr h1 h2
            subst h1
            subst h2
            clear hk hx hw hrow
            go_wp2_with fail
            refine (qr.out _ _ (WR.rr entC_length HW.out)).mono ?_
            rintro _ w5 ⟨rfl, x5⟩
            go_wp2
            go_ret2
            exact ⟨_, rfl, (X0.out.trans HX.out).trans x5, (WR.ext HW.out x5).mono (X0.out.trans X1.out).le⟩
end Go.Proofs.Ytplbebcckffgeaa
