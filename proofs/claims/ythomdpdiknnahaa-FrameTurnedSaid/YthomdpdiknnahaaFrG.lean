/- varveref16: Scan, Same. -/
import Derived.Test.YthomdpdiknnahaaFrF
import Derived.Test.YthomdpdiknnahaaGen
namespace Go.Proofs.Ythomdpdiknnahaa
set_option linter.unusedVariables false
set_option linter.unusedSimpArgs false
open Go.RowKit
attribute [local go_sem] S_size S_toList S_append S_extract S_beq S_bne S_empty S_nil

theorem frame_info : (Try.prog.info? 31).map (fun i => (i.zero, i.size, i.bytes)) = some (some (.agg #[.int .i64 0, .string (S []), .int .i64 0, .int .i64 0]), 4, 40) := by kernel_rfl
theorem run_bs1f (f : F4) (w : World) : (Instr.buildSlice 36 1 #[(0, .agg (f4C f).toArray)]).run Try.prog w = .ok (.slice (some ⟨w.heap.size, 0, none⟩) 1 1) (w.alloc (.cells (f4C f).toArray 31)) := by
  obtain ⟨k, b, a, t⟩ := f
  kernel_rfl
abbrev FW (w : World) (B : Nat) (v : Value) (l : List F4) : Prop := WR f4C 4 w B 31 v l
theorem FW.app {w : World} {B : Nat} {v : Value} {l : List F4} (h : FW w B v l) (hB : B ≤ w.heap.size) (x : F4) (hl : l.length ≤ 1000000000) :
    ∃ v' w', (Builtin.append_ #[36, 36] 36 #[v, .slice (some ⟨w.heap.size, 0, none⟩) 1 1]).run Try.prog (w.alloc (.cells (f4C x).toArray 31)) = .ok v' w' ∧ FW w' B v' (l ++ [x]) ∧ Below B w w' ∧ (∀ k, k < w.heap.size → some k ≠ v.ownBlock → w'.heap[k]? = w.heap[k]?) :=
  WR.app f4C_length (by omega) f4C_one h hB (P := Try.prog) (t := 36) Try.underlying36 frame_info rfl x (by omega) (by unfold maxLen; omega)

set_option maxRecDepth 20000 in
set_option maxHeartbeats 8000000 in
theorem rScan_any (l : List UInt8) (a : Int) (w : World) (hl : (l.length : Int) ≤ 1000000000) :
    Calls Try.prog 15 #[.string (S l), .int .i64 a] w fun e w' => ∃ v', e = .returned (.tuple #[v', .int .i64 (scan l a).2]) ∧ Ext w w' ∧ FW w' w.heap.size v' (scan l a).1 := by
  have QT := Lib.hid refTable_any
  have Q := Lib.hid (fun a w => rget_any l a w hl)
  have TS := Lib.hid (tab_size theTab_length)
  have TZ := Lib.hid (show zeroTab.size = (tabL theTab).toArray.size by rw [zero_tab]; simp [tabL_length, theTab_length])
  have TO := Lib.hid (tab_all_one theTab)
  have HST := Lib.hid (fun a h => scan_step (l := l) (a := a) h)
  have HSP := Lib.hid (fun a h => scan_stop (l := l) (a := a) h)
  have HGZ := Lib.hid (fun a h => get_zero (l := l) (a := a) h)
  generalize hsc : scan l a = sc at *
  have HSC := Lib.hid hsc
  clear hsc
  generalize (tabL theTab).toArray = tb at *
  have hzr := zeroTab_run
  have hzn := zeroTab_ne
  have hfz := frame_zero
  go_enter Try.func15, Try.ntmps15
  go_wp2_with fail
  refine (QT.out _).mono ?_
  rintro _ w1 ⟨rfl, x1⟩
  have X1 := Lib.hid (x1.alloc (.cells tb 49))
  have BT := Lib.hid (Blk.new w1 49 tb)
  clear x1
  go_wp2_with (refine wpList_store_new (cs' := tb) rfl 49 (.tmp 6) (.tmp 10) rfl rfl rfl TZ.out TS.out TO.out ?_)
  go_loopw [7, 1] (fun v at_ wr => ∃ (pre : List F4) (p : Int), at_ = .int .i64 p ∧ FW wr (w1.alloc (.cells tb 49)).heap.size v pre ∧ sc = (pre ++ (scan l p).1, (scan l p).2) ∧ (pre = [] ∨ ((pre.length : Int) * 9 ≤ p ∧ p ≤ (l.length : Int))) ∧ Ext (w1.alloc (.cells tb 49)) wr) (fun _ at_ _ => l.length + 1 - (intOf at_).toNat)
  case atStart => exact ⟨[], a, rfl, WR.nil _ _ _, by rw [List.nil_append, HSC.out], .inl rfl, Ext.refl _⟩
  case round =>
    obtain ⟨pre, p, rfl, hw, hs, hlen, hx⟩ := hrel
    have HX := Lib.hid hx
    have HW := Lib.hid hw
    have BT := Lib.hid (BT.out.ext hx)
    have Q := Lib.hid (fun w => Q.out p w)
    have hst := HST.out p
    have hsp := HSP.out p
    have hgz := HGZ.out p
    have FS := Lib.hid (show (Try.prog.info? 31).map (·.size) = some (f4C (getF l p)).toArray.size from frame_size)
    have FZ := Lib.hid (show (#[.int .i64 0, .string (S []), .int .i64 0, .int .i64 0] : Array Value).size = (f4C (getF l p)).toArray.size from rfl)
    have FO := Lib.hid (f4C_all (getF l p))
    have HB1 := Lib.hid (fun w => run_bs1f (getF l p) w)
    have HC3 := Lib.hid (fun (w' : World) => (show (w'.alloc (.cells (f4C (getF l p)).toArray 31)).cell? ⟨w'.heap.size, 3, none⟩ = some (.int .i64 (getF l p).to) from (Blk.new w' 31 (f4C (getF l p)).toArray).cell 3))
    clear hx hw
    by_cases he : getE l p = 0
    · rw [he] at Q
      have hst := hst he
      obtain ⟨g1, g2, -, g4, g5, -⟩ := hgz he
      have hpl : pre.length ≤ 1000000000 := by
        rcases hlen with h | h
        · rw [h]; simp
        · omega
      have HAP := Lib.hid (fun (v : Value) (w' : World) (h : Ext (w1.alloc (.cells tb 49)) w') (hw : FW w' (w1.alloc (.cells tb 49)).heap.size v pre) => FW.app hw h.le (getF l p) hpl)
      have HREL := Lib.hid (show sc = ((pre ++ [getF l p]) ++ (scan l (getF l p).to).1, (scan l (getF l p).to).2) by rw [hs, hst]; simp)
      have HL9 := Lib.hid (show (((pre ++ [getF l p]).length : Nat) : Int) * 9 ≤ (getF l p).to ∧ (getF l p).to ≤ (l.length : Int) by
        refine ⟨?_, g5⟩
        rw [List.length_append, List.length_singleton]
        rcases hlen with h | h
        · rw [h]; simp; omega
        · omega)
      have HMS := Lib.hid (show l.length + 1 - (getF l p).to.toNat < l.length + 1 - p.toNat by omega)
      clear hs hlen hst hsp hgz g1 g2 g4 g5 he
      generalize getF l p = f at *
      generalize hfc : f4C f = fc at *
      generalize hfto : f.to = t at *
      have HFT := Lib.hid hfto
      clear hfto
      go_wp2_with (refine wpList_load_blk rfl 49 (.tmp 6) rfl rfl BT.out Try.underlying49 rfl TS.out ?_)
      refine (Q.out _).mono ?_
      rintro _ w2 ⟨rfl, x2⟩
      have X2 := Lib.hid (HX.out.trans (x2.alloc (.cells fc.toArray 31)))
      have HW2 := Lib.hid (HW.out.ext (x2.alloc (.cells fc.toArray 31)))
      have B8 := Lib.hid (Blk.new w2 31 fc.toArray)
      have c3 := HC3.out w2
      obtain ⟨v', w3, p1, p2, p3, p4⟩ := HAP.out _ _ X2.out HW2.out
      have F1 := Lib.hid (Below.trans X2.out p3 : Ext (w1.alloc (.cells tb 49)) w3)
      have F2 := Lib.hid p2
      rw [World.size_alloc] at p1
      have hne : some w2.heap.size ≠ Value.ownBlock _ := fun h => absurd (World.ownsRow.lt (HW.out.ext x2) w2.heap.size h.symm).2 (Nat.lt_irrefl _)
      have hk4 := p4 w2.heap.size (by rw [World.size_alloc]; omega) hne
      have c3 : w3.cell? ⟨w2.heap.size, 3, none⟩ = some (.int .i64 t) := by
        rw [World.cell?_of_block (w := w2.alloc (.cells fc.toArray 31)) (w' := w3) (a := ⟨w2.heap.size, 3, none⟩) hk4]; exact c3
      clear hne hk4
      clear p2 p3 p4 x2 X2 HW2
      go_wp2_with (first
        | (refine wpList_store_new (cs' := fc.toArray) rfl 31 (.tmp 8) (.tmp 16) rfl rfl rfl FZ.out FS.out FO.out ?_)
        | (refine wpList_load_blk rfl 31 (.tmp 8) rfl rfl B8.out Try.underlying31 rfl FS.out ?_)
        | (refine wpList_bs (vs := #[(0, .agg fc.toArray)]) rfl 36 1 _ rfl rfl (HB1.out _) ?_; refine Held.go ?_))
      refine ⟨?_⟩
      go_wp2_with (at_builtin; refine wpList_app rfl (.tmp 22) (.tmp 24) 36 rfl rfl rfl rfl p1 ?_)
      go_roundw
      case rel =>
        refine ⟨pre ++ [f], t, rfl, F2.out, ?_, .inr HL9.out, F1.out⟩
        exact HREL.out
      case measure => simpa [intOf] using HMS.out
    · have hst := hsp he
      rw [hst] at hs
      simp only [List.append_nil] at hs
      subst hs
      have he' : (getE l p == 0) = false := by simpa using he
      clear hst hsp hgz he hlen
      generalize getE l p = ev at *
      generalize f4C (getF l p) = fc at *
      go_wp2_with (refine wpList_load_blk rfl 49 (.tmp 6) rfl rfl BT.out Try.underlying49 rfl TS.out ?_)
      refine (Q.out _).mono ?_
      rintro _ w2 ⟨rfl, x2⟩
      have X2 := Lib.hid (HX.out.trans (x2.alloc (.cells fc.toArray 31)))
      have HW2 := Lib.hid (HW.out.ext (x2.alloc (.cells fc.toArray 31)))
      clear x2
      go_wp2_with (refine wpList_store_new (cs' := fc.toArray) rfl 31 (.tmp 8) (.tmp 16) rfl rfl rfl FZ.out FS.out FO.out ?_)
      go_ret2
      exact ⟨_, rfl, X1.out.trans X2.out, HW2.out.mono X1.out.le⟩

theorem f4_at {l : List F4} {k : Nat} (hk : k < l.length) : l[k]? = some (l.getD k default) := by
  rw [List.getD_eq_getElem?_getD, List.getElem?_eq_getElem hk]; rfl
theorem f4_ext {a b : F4} (h1 : a.kind = b.kind) (h2 : a.body = b.body) (h3 : a.at_ = b.at_) (h4 : a.to = b.to) : a = b := by
  cases a; cases b; simp_all
/-- the first k are the same -/
def fsameTo (a b : List F4) (k : Nat) : Prop := a.take k = b.take k
theorem fsame_end {a b : List F4} (hl : a.length = b.length) (h : fsameTo a b a.length) : decide (a = b) = true := by
  unfold fsameTo at h
  rw [List.take_length, hl, List.take_length] at h
  exact decide_eq_true h
theorem fsame_no {a b : List F4} {k : Nat} (h : ¬ a.getD k default = b.getD k default) : decide (a = b) = false := by
  rw [decide_eq_false_iff_not]
  rintro rfl
  exact h rfl
theorem fsame_step {a b : List F4} {k : Nat} (ha : k < a.length) (hb : k < b.length) (h0 : fsameTo a b k) (h : a.getD k default = b.getD k default) : fsameTo a b (k + 1) := by
  unfold fsameTo at h0 ⊢
  rw [List.take_add_one, List.take_add_one, h0, f4_at ha, f4_at hb, h]
theorem f4_firsts (x y : F4) : (¬ x.kind = y.kind) ∨ (x.kind = y.kind ∧ ¬ x.body = y.body) ∨ (x.kind = y.kind ∧ x.body = y.body ∧ ¬ x.at_ = y.at_) ∨ (x.kind = y.kind ∧ x.body = y.body ∧ x.at_ = y.at_ ∧ ¬ x.to = y.to) ∨ (x.kind = y.kind ∧ x.body = y.body ∧ x.at_ = y.at_ ∧ x.to = y.to) := by
  by_cases h1 : x.kind = y.kind
  · by_cases h2 : x.body = y.body
    · by_cases h3 : x.at_ = y.at_
      · by_cases h4 : x.to = y.to
        · exact .inr (.inr (.inr (.inr ⟨h1, h2, h3, h4⟩)))
        · exact .inr (.inr (.inr (.inl ⟨h1, h2, h3, h4⟩)))
      · exact .inr (.inr (.inl ⟨h1, h2, h3⟩))
    · exact .inr (.inl ⟨h1, h2⟩)
  · exact .inl h1
theorem f4_mid0 {w : World} {g o k : Nat} {e : F4} (h : w.rangeAt g (o + k * 4) (f4C e)) : w.cell? ⟨g, o + k * 4, none⟩ = some (.int .i64 e.kind) := h 0 _ rfl
theorem f4_mid1 {w : World} {g o k : Nat} {e : F4} (h : w.rangeAt g (o + k * 4) (f4C e)) : w.cell? ⟨g, o + k * 4 + 1, none⟩ = some (.string (S e.body)) := h 1 _ rfl
theorem f4_mid2 {w : World} {g o k : Nat} {e : F4} (h : w.rangeAt g (o + k * 4) (f4C e)) : w.cell? ⟨g, o + k * 4 + 2, none⟩ = some (.int .i64 e.at_) := h 2 _ rfl
theorem f4_mid3 {w : World} {g o k : Nat} {e : F4} (h : w.rangeAt g (o + k * 4) (f4C e)) : w.cell? ⟨g, o + k * 4 + 3, none⟩ = some (.int .i64 e.to) := h 3 _ rfl
set_option maxRecDepth 20000 in
set_option maxHeartbeats 8000000 in
theorem fSame_any (a b : List F4) (va vb : Value) (w : World) (ha : RR f4C 4 w va a) (hb : RR f4C 4 w vb b) (hl : (a.length : Int) ≤ 1000000000) :
    Calls Try.prog 16 #[va, vb] w fun e w' => e = .returned (.bool (decide (a = b))) ∧ Ext w w' := by
  obtain ⟨pa, ca, rfl, _, _, hsa⟩ := ha
  obtain ⟨pb, cb, rfl, _, _, hsb⟩ := hb
  by_cases hlen : a.length = b.length
  · have HSA := Lib.hid hsa
    have HSB := Lib.hid hsb
    have HE := Lib.hid (fun h => fsame_end hlen h)
    have HNO := Lib.hid (fun k h => fsame_no (a := a) (b := b) (k := k) h)
    have HST := Lib.hid (fun k h1 h2 h0 h => fsame_step (a := a) (b := b) (k := k) h1 h2 h0 h)
    generalize decide (a = b) = r at *
    have HLN := Lib.hid hlen
    rw [← hlen]
    clear hsa hsb hlen
    go_enter Try.func16, Try.ntmps16
    go_wp2
    go_loopw [5] (fun i wr => ∃ k : Nat, i = .int .i64 (k : Int) ∧ k ≤ a.length ∧ fsameTo a b k ∧ Ext w wr) (fun i _ => a.length - (intOf i).toNat)
    case atStart => exact ⟨0, rfl, Nat.zero_le _, rfl, Ext.refl _⟩
    case round =>
      obtain ⟨k, rfl, hk, hsm, hx⟩ := hrel
      have HX := Lib.hid hx
      by_cases hlt : k < a.length
      · have hI : (k : Int) < (a.length : Int) := by omega
        have hltb : k < b.length := by have := HLN.out; omega
        obtain ⟨ga, oa, rfl, hca⟩ := HSA.out (by omega)
        obtain ⟨gb, ob, rfl, hcb⟩ := HSB.out (by omega)
        have RA := Lib.hid (rangeAt_ext (hca k _ (f4_at hlt)) hx)
        have RB := Lib.hid (rangeAt_ext (hcb k _ (f4_at hltb)) hx)
        have HNO := Lib.hid (fun h => HNO.out k h)
        have HST := Lib.hid (fun h => HST.out k hlt hltb hsm h)
        have hkm := Lib.hid hlt
        have hkw : IntKind.i64.wrap ((k : Int) + 1) = ((k + 1 : Nat) : Int) := by rw [IntKind.wrap_i64]; omega
        clear hca hcb hx hk hsm hlt hltb
        generalize a.getD k default = x at *
        generalize b.getD k default = y at *
        have a0 := up_cell (f4_mid0 RA.out)
        have a1 := up_cell (f4_mid1 RA.out)
        have a2 := up_cell (f4_mid2 RA.out)
        have a3 := up_cell (f4_mid3 RA.out)
        have b0 := up_cell (f4_mid0 RB.out)
        have b1 := up_cell (f4_mid1 RB.out)
        have b2 := up_cell (f4_mid2 RB.out)
        have b3 := up_cell (f4_mid3 RB.out)
        rcases f4_firsts x y with h1 | ⟨h1, h2⟩ | ⟨h1, h2, h3⟩ | ⟨h1, h2, h3, h4⟩ | ⟨h1, h2, h3, h4⟩
        · have hs := HNO.out (fun hh => h1 (by rw [hh]))
          have h' : (x.kind != y.kind) = true := by simpa using h1
          subst hs
          clear HNO HST h1
          go_wp2
          refine wp_region_up (by kernel_rfl) (by kernel_rfl) ?_
          repeat (go_big_quiet_step (fail))
          refine wpQuiet_nil ?_
          rintro _ ⟨z, rfl⟩
          go_wp2
          go_ret
          exact ⟨rfl, HX.out.trans z.ext⟩
        · have hs := HNO.out (fun hh => h2 (by rw [hh]))
          have h' : (x.body == y.body) = false := by simpa using h2
          rw [h1] at a0
          subst hs
          clear HNO HST h1 h2
          go_wp2
          refine wp_region_up (by kernel_rfl) (by kernel_rfl) ?_
          repeat (go_big_quiet_step (fail))
          refine wpQuiet_nil ?_
          rintro _ ⟨z, rfl⟩
          go_wp2
          go_ret
          exact ⟨rfl, HX.out.trans z.ext⟩
        · have hs := HNO.out (fun hh => h3 (by rw [hh]))
          have h' : (x.at_ != y.at_) = true := by simpa using h3
          rw [h1] at a0
          rw [h2] at a1
          subst hs
          clear HNO HST h1 h2 h3
          go_wp2
          refine wp_region_up (by kernel_rfl) (by kernel_rfl) ?_
          repeat (go_big_quiet_step (fail))
          refine wpQuiet_nil ?_
          rintro _ ⟨z, rfl⟩
          go_wp2
          go_ret
          exact ⟨rfl, HX.out.trans z.ext⟩
        · have hs := HNO.out (fun hh => h4 (by rw [hh]))
          have h' : (x.to != y.to) = true := by simpa using h4
          rw [h1] at a0
          rw [h2] at a1
          rw [h3] at a2
          subst hs
          clear HNO HST h1 h2 h3 h4
          go_wp2
          refine wp_region_up (by kernel_rfl) (by kernel_rfl) ?_
          repeat (go_big_quiet_step (fail))
          refine wpQuiet_nil ?_
          rintro _ ⟨z, rfl⟩
          go_wp2
          go_ret
          exact ⟨rfl, HX.out.trans z.ext⟩
        · have hs := HST.out (f4_ext h1 h2 h3 h4)
          rw [h1] at a0
          rw [h2] at a1
          rw [h3] at a2
          rw [h4] at a3
          clear HNO HST h1 h2 h3 h4
          go_wp2
          refine wp_region_up (by kernel_rfl) (by kernel_rfl) ?_
          repeat (go_big_quiet_step (fail))
          refine wpQuiet_nil ?_
          rintro _ ⟨z, rfl⟩
          go_wp2
          go_roundw
          case rel => exact ⟨k + 1, by go_num, by have := hkm.out; omega, hs, HX.out.trans z.ext⟩
          case measure => simp [intOf]; have := hkm.out; omega
      · obtain rfl : k = a.length := by omega
        have hres := HE.out hsm
        clear hk hx hsm
        subst hres
        go_wp2
        go_ret
        exact ⟨rfl, HX.out⟩
  · have hne : ¬ (a.length : Int) = (b.length : Int) := by omega
    have hr : decide (a = b) = false := by rw [decide_eq_false_iff_not]; rintro rfl; exact hlen rfl
    rw [hr]
    have hne' : ((a.length : Int) == (b.length : Int)) = false := by simpa using hne
    clear hsa hsb hlen hr
    go_enter Try.func16, Try.ntmps16
    go_wp2
    go_ret
    exact ⟨rfl, Ext.refl _⟩
end Go.Proofs.Ythomdpdiknnahaa
