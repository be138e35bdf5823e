/- frame: frames, its iterator. -/
import Derived.Test.YthomdpdiknnahaaFrG
import Derived.Test.YthomdpdiknnahaaRangeW
import Derived.Maps.AppendAt
namespace Go.Proofs.Ythomdpdiknnahaa
set_option linter.unusedVariables false
set_option linter.unusedSimpArgs false
open Go.RowKit Go.Shelf
attribute [local go_sem] S_size S_toList S_append S_extract S_beq S_bne S_empty S_nil

theorem frames_any (l : List UInt8) (a : Int) (w : World) :
    Calls Try.prog 26 #[.string (S l), .int .i64 a] w fun e w' => e = .returned (.func (.func 34) #[] #[.pointer (some ⟨w.heap.size, 0, none⟩), .pointer (some ⟨w.heap.size + 1, 0, none⟩)]) ∧ w' = (w.alloc (.cells #[.string (S l)] 9)).alloc (.cells #[.int .i64 a] 3) := by
  go_enter Try.func26, Try.ntmps26
  go_wp2
  go_ret
  exact ⟨rfl, rfl⟩

/-- the frames from a place on, those ahead being known -/
def isAt (l : List UInt8) (a : Int) (pre : List F4) (p : Int) : Prop := (scan l a).1 = pre ++ (scan l p).1
/-- how much is left, read off the place's cell -/
def leftAt (n g : Nat) (w : World) : Nat := match w.cell? ⟨g, 0, none⟩ with
  | some (.int _ p) => n + 1 - p.toNat
  | _ => 0
theorem leftAt_eq {n g : Nat} {w : World} {t : TypeId} {p : Int} (h : Blk w g t #[.int .i64 p]) : leftAt n g w = n + 1 - p.toNat := by
  unfold leftAt
  rw [show w.cell? ⟨g, 0, none⟩ = some (.int .i64 p) from h.cell 0]
attribute [local go_sem] Oper.semAt_some frame_zero zeroTab_run zeroTab_ne
set_option maxRecDepth 20000 in
set_option maxHeartbeats 8000000 in
theorem iter_state (l : List UInt8) (a : Int) (gS gB gA gO : Nat) (w : World) (hl : (l.length : Int) ≤ 1000000000)
    (hS : Blk w gS 9 #[.string (S l)]) (hB : Blk w gB 3 #[.int .i64 a]) (n1 : gS ≠ gA) (n2 : gS ≠ gO) (n3 : gB ≠ gA) (n4 : gB ≠ gO) (n5 : gS ≠ gB) (hA : gA < w.heap.size) (hO : gO < w.heap.size) :
    SeqState Try.prog 34 #[.pointer (some ⟨gS, 0, none⟩), .pointer (some ⟨gB, 0, none⟩)] (fun f : F4 => #[.agg (f4C f).toArray]) (KpS gA gO 31) (OcS gO) gB (scan l a).1 w := by
  intro lp J W hW hJe hJs hJo hY h0
  have QT := Lib.hid table_any
  have QG := Lib.hid (fun p g w h => fget_any l p g w h hl)
  have TS := Lib.hid (tab_size theTab_length)
  have TZ := Lib.hid (show zeroTab.size = (tabL theTab).toArray.size by rw [zero_tab]; simp [tabL_length, theTab_length])
  have TO := Lib.hid (tab_all_one theTab)
  have HY := Lib.hid hY
  have HJE := Lib.hid hJe
  have HJS := Lib.hid hJs
  have HJO := Lib.hid hJo
  have H0 := Lib.hid h0
  have HS := Lib.hid (hS.ext hW)
  have HB := Lib.hid (hB.ext hW)
  have HN := Lib.hid (And.intro (And.intro n1 n2) (And.intro n3 (And.intro n4 n5)))
  have HAO := Lib.hid (And.intro (Nat.lt_of_lt_of_le hA hW.le) (Nat.lt_of_lt_of_le hO hW.le))
  have HBL0 := Lib.hid (hB.ext hW).lt
  clear hY hJe hJs hJo h0 hS hB n1 n2 n3 n4 n5 hA hO
  generalize (tabL theTab).toArray = tb at *
  refine callsIn_of_wp Try.func34 rfl trivial ?_ rfl
  simp only [Try.ntmps34, List.size_toArray, List.length_cons, List.length_nil, Nat.reduceAdd, Nat.reduceSub, Array.replicate_succ, Array.replicate_zero, List.push_toArray, List.append_toArray, List.nil_append, List.cons_append]
  gi_wp2_with fail
  refine ⟨trivial, rfl, (callsIn_wide.2 (QT.out _)).mono ?_⟩
  rintro _ w1 ⟨rfl, x1⟩
  have HBL := Lib.hid (Nat.lt_of_lt_of_le HBL0.out x1.le)
  have x2 := Ext.alloc x1 (.cells tb 49)
  have BT := Lib.hid (Blk.new w1 49 tb)
  have HS := Lib.hid (HS.out.ext x2)
  have HB := Lib.hid (HB.out.ext x2)
  have H0 := Lib.hid (HJE.out _ _ _ H0.out x2)
  have HTN := Lib.hid (show w1.heap.size ≠ gA ∧ w1.heap.size ≠ gO ∧ w1.heap.size ≠ gB from by
    have h1 := x1.le
    have h2 := HAO.out
    have h3 := HBL.out
    exact ⟨by omega, by omega, by omega⟩)
  have HAOW := Lib.hid (And.intro (Nat.lt_of_lt_of_le HAO.out.1 x1.le) (Nat.lt_of_lt_of_le HAO.out.2 x1.le))
  clear x1 x2
  gi_wp2_with (refine wpListIn_store_new (cs' := tb) rfl 49 (.tmp 4) (.tmp 7) rfl rfl rfl TZ.out TS.out TO.out ?_)
  dsimp only [Act.put]
  gi_loopw [6] (fun ev wr => ∃ (pre : List F4) (p : Int), Blk wr gB 3 #[.int .i64 p] ∧ isAt l a pre p ∧ J pre wr ∧ Blk wr w1.heap.size 49 tb ∧ Blk wr gS 9 #[.string (S l)]) (fun _ wr => leftAt l.length gB wr)
  case atStart => exact ⟨[], a, HB.out, rfl, H0.out, BT.out, HS.out⟩
  case round =>
    obtain ⟨pre, p, hb, hat, hJ, hbt, hbs⟩ := hrel
    have HB := Lib.hid hb
    have HBR := Lib.hid hb
    have HJ := Lib.hid hJ
    have BT := Lib.hid hbt
    have HS := Lib.hid hbs
    have HAT := Lib.hid hat
    have cS : wr.cell? ⟨gS, 0, none⟩ = some (.string (S l)) := hbs.cell 0
    have cB : wr.cell? ⟨gB, 0, none⟩ = some (.int .i64 p) := hb.cell 0
    have QG := Lib.hid (QG.out p)
    have FS := Lib.hid (show (Try.prog.info? 31).map (·.size) = some (f4C (getF l p)).toArray.size from frame_size)
    have FZ := Lib.hid (show (#[.int .i64 0, .string (S []), .int .i64 0, .int .i64 0] : Array Value).size = (f4C (getF l p)).toArray.size from rfl)
    have FO := Lib.hid (f4C_all (getF l p))
    have HC3 := Lib.hid (show (f4C (getF l p)).toArray[3]? = some (Value.int .i64 (getF l p).to) from rfl)
    clear hb hat hJ hbt hbs
    by_cases he : getE l p = 0
    · rw [he] at QG
      have hst := scan_step he
      obtain ⟨g1, g2, -, g4, g5, -⟩ := get_zero he
      have HAT2 := Lib.hid (show isAt l a (pre ++ [getF l p]) (getF l p).to from by
        unfold isAt
        rw [HAT.out, hst]
        simp)
      have HPRE := Lib.hid (show (pre ++ [getF l p]) <+: (scan l a).1 from ⟨_, HAT2.out.symm⟩)
      have HMS := Lib.hid (show l.length + 1 - (getF l p).to.toNat < l.length + 1 - p.toNat by omega)
      clear hst g1 g2 g4 g5 he
      generalize getF l p = f at *
      generalize hfc : f4C f = fc at *
      generalize hfto : f.to = t at *
      have HFC := Lib.hid hfc
      clear hfc
      gi_wp2_with fail
      refine ⟨trivial, rfl, (callsIn_wide.2 (QG.out _ _ BT.out)).mono ?_⟩
      rintro _ w2 ⟨rfl, x2⟩
      have x3 := Ext.alloc x2 (.cells fc.toArray 31)
      have HB := Lib.hid (HB.out.ext x3)
      have HJ3 := HJE.out _ _ _ HJ.out x3
      have HS := Lib.hid (HS.out.ext x3)
      have BF := Lib.hid (Blk.new w2 31 fc.toArray)
      have HSZ := Lib.hid (show gA < w2.heap.size ∧ gO < w2.heap.size ∧ w1.heap.size < w2.heap.size from by
        have h1 := HAOW.out
        have h2 := BT.out.lt
        have h3 := x2.le
        exact ⟨by omega, by omega, by omega⟩)
      obtain ⟨vo, co, ho⟩ := HJO.out _ _ HJ.out
      have HCO := Lib.hid (Go.cell_later x3 co)
      have HNO := Lib.hid (show vo.ownBlock ≠ some w2.heap.size from fun h => by
        have h1 := ho _ h
        have h2 := x2.le
        omega)
      have BT := Lib.hid (BT.out.ext x3)
      clear ho co x3
      obtain ⟨fn, tmps, assign, body, hy, hR⟩ := HY.out pre f _ HPRE.out HJ3
      rw [HFC.out] at hy
      have HR := Lib.hid hR
      clear hR HJ3 x2
      gi_wp2_with (first
        | (refine wpListIn_store_new (cs' := fc.toArray) rfl 31 (.tmp 5) (.tmp 12) rfl rfl rfl FZ.out FS.out FO.out ?_)
        | (refine wpListIn_load_blk_g (by kernel_rfl) 31 (.tmp 5) rfl rfl BF.out Try.underlying31 rfl FS.out ?_))
      refine ⟨rfl, HR.out.mono ?_⟩
      rintro _ W4 ⟨rfl, hJ4, hk4⟩
      have BF4 := hk4 _ _ _ _ HCO.out BF.out (by have := HSZ.out; omega) (by have := HSZ.out; omega) (.inr HNO.out)
      have HB4 := hk4 _ _ _ _ HCO.out HB.out HN.out.2.1 HN.out.2.2.1 (.inl (by decide))
      have BT4 := Lib.hid (hk4 _ _ _ _ HCO.out BT.out HTN.out.1 HTN.out.2.1 (.inl (by decide)))
      have HS4 := Lib.hid (hk4 _ _ _ _ HCO.out HS.out HN.out.1.1 HN.out.1.2 (.inl (by decide)))
      have c3 : W4.cell? ⟨w2.heap.size, 3, none⟩ = some (.int .i64 t) := (BF4.cell 3).trans HC3.out
      have cb : W4.cell? ⟨gB, 0, none⟩ = some (.int .i64 p) := HB4.cell 0
      have fb : W4.frozen? ⟨gB, 0, none⟩ = false := HB4.frozen 0
      have HB5 := Lib.hid (show Blk (W4.setCell ⟨gB, 0, none⟩ (.int .i64 t)) gB 3 #[.int .i64 t] from HB4.set_ 0 _)
      have HJ5 := Lib.hid (HJS.out _ _ (.int .i64 t) hJ4)
      have BT5 := Lib.hid (BT4.out.far (p := ⟨gB, 0, none⟩) HTN.out.2.2 (.int .i64 t))
      have HS5 := Lib.hid (HS4.out.far (p := ⟨gB, 0, none⟩) HN.out.2.2.2 (.int .i64 t))
      clear hJ4 hk4 BF4 HB4 HR hy
      gi_wp2
      go_roundw
      case rel => exact ⟨pre ++ [f], t, HB5.out, HAT2.out, HJ5.out, BT5.out, HS5.out⟩
      case measure => rw [leftAt_eq HB5.out, leftAt_eq HBR.out]; exact HMS.out
    · have hst := scan_stop he
      have hfin : (scan l a).1 = pre := by
        have := HAT.out
        unfold isAt at this
        rw [this, hst]
        simp
      have he' : ¬ getE l p = 0 := he
      have he2 : (getE l p != 0) = true := by simpa using he
      have HFIN := Lib.hid hfin
      clear hst hfin he
      generalize getE l p = ev at *
      generalize f4C (getF l p) = fc at *
      gi_wp2_with fail
      refine ⟨trivial, rfl, (callsIn_wide.2 (QG.out _ _ BT.out)).mono ?_⟩
      rintro _ w2 ⟨rfl, x2⟩
      have HJ3 := Lib.hid (HJE.out _ _ _ HJ.out (x2.alloc (.cells fc.toArray 31)))
      clear x2
      gi_wp2_with (refine wpListIn_store_new (cs' := fc.toArray) rfl 31 (.tmp 5) (.tmp 12) rfl rfl rfl FZ.out FS.out FO.out ?_)
      refine ⟨fun _ h => (by cases h), ?_⟩
      gi_wp2
      refine bodyPost_ret (results_none rfl _ _ _) rfl ?_
      exact ⟨⟨_, rfl⟩, by rw [HFIN.out]; exact HJ3.out⟩
end Go.Proofs.Ythomdpdiknnahaa
