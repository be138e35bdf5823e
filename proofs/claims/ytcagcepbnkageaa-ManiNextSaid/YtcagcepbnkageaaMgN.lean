/- Several texts in one. merged: MaA MaB -/
import Derived.Test.YtcagcepbnkageaaMgM
namespace Go.Proofs.Ytcagcepbnkageaa
set_option linter.unusedVariables false
set_option linter.unusedSimpArgs false
open Go.RowKit

structure Man where
  gen : Int
  next : Int
  now : Int
  floor : Int
  ents : List E9
/-- a manifest's cells; v: its slice -/
def manC (m : Man) (v : Value) : Array Value := #[.int .i64 m.gen, .int .i64 m.next, .int .i64 m.now, .int .i64 m.floor, v]
def lateP (l : List E9) (now : Int) : Bool := l.any fun e => decide (now < e.late)
def lastOf (l : List E9) : E9 := l.getD (l.length - 1) default
def fstOf (l : List E9) : E9 := l.getD 0 default
def m1D (m : Man) : Prop := 1 ≤ m.gen ∧ m.gen ≤ 1000000000 ∧ 0 ≤ m.now ∧ m.now ≤ 1000000000
instance (m : Man) : Decidable (m1D m) := by unfold m1D; infer_instance
def m2D (m : Man) : Prop := (lastOf m.ents).id < m.next ∧ m.next ≤ 1000000 ∧ m.floor = (fstOf m.ents).fst
instance (m : Man) : Decidable (m2D m) := by unfold m2D; infer_instance
def maniP (m : Man) : Bool := decide (m1D m) && (rowP m.ents && (decide (m2D m) && !lateP m.ents m.now))
theorem mani_cases (m : Man) : (maniP m = false ∧ m.gen < 1) ∨ (maniP m = false ∧ ¬ m.gen < 1 ∧ 1000000000 < m.gen) ∨ (maniP m = false ∧ ¬ m.gen < 1 ∧ ¬ 1000000000 < m.gen ∧ m.now < 0)
    ∨ (maniP m = false ∧ ¬ m.gen < 1 ∧ ¬ 1000000000 < m.gen ∧ ¬ m.now < 0 ∧ 1000000000 < m.now)
    ∨ (maniP m = false ∧ ¬ m.gen < 1 ∧ ¬ 1000000000 < m.gen ∧ ¬ m.now < 0 ∧ ¬ 1000000000 < m.now ∧ rowP m.ents = false)
    ∨ (maniP m = !(decide (m.next ≤ (lastOf m.ents).id) || (decide (1000000 < m.next) || ((m.floor != (fstOf m.ents).fst) || lateP m.ents m.now))) ∧ ¬ m.gen < 1 ∧ ¬ 1000000000 < m.gen ∧ ¬ m.now < 0 ∧ ¬ 1000000000 < m.now ∧ rowP m.ents = true) := by
  unfold maniP
  by_cases h1 : m.gen < 1
  · exact .inl ⟨by rw [decide_eq_false (by unfold m1D; omega)]; rfl, h1⟩
  by_cases h2 : 1000000000 < m.gen
  · exact .inr (.inl ⟨by rw [decide_eq_false (by unfold m1D; omega)]; rfl, h1, h2⟩)
  by_cases h3 : m.now < 0
  · exact .inr (.inr (.inl ⟨by rw [decide_eq_false (by unfold m1D; omega)]; rfl, h1, h2, h3⟩))
  by_cases h4 : 1000000000 < m.now
  · exact .inr (.inr (.inr (.inl ⟨by rw [decide_eq_false (by unfold m1D; omega)]; rfl, h1, h2, h3, h4⟩)))
  cases hr : rowP m.ents with
  | false => exact .inr (.inr (.inr (.inr (.inl ⟨by rw [Bool.false_and, Bool.and_false], h1, h2, h3, h4, rfl⟩))))
  | true =>
    refine .inr (.inr (.inr (.inr (.inr ⟨?_, h1, h2, h3, h4, rfl⟩))))
    rw [decide_eq_true (show m1D m by unfold m1D; omega), Bool.true_and, Bool.true_and]
    cases hl : lateP m.ents m.now
    · by_cases h : m2D m
      · have h' := h
        obtain ⟨p1, p2, p3⟩ := h'
        rw [decide_eq_true h, decide_eq_false (show ¬ m.next ≤ (lastOf m.ents).id by omega), decide_eq_false (show ¬ 1000000 < m.next by omega), p3, bne_self_eq_false]; rfl
      · rw [decide_eq_false h]
        by_cases q1 : m.next ≤ (lastOf m.ents).id
        · rw [decide_eq_true q1]; rfl
        · by_cases q2 : 1000000 < m.next
          · rw [decide_eq_false q1, decide_eq_true q2]; rfl
          · have q3 : (m.floor != (fstOf m.ents).fst) = true := bne_iff_ne.2 (fun e => h ⟨by omega, by omega, e⟩)
            rw [decide_eq_false q1, decide_eq_false q2, q3]; rfl
    · simp
theorem mani_row {m : Man} (h : maniP m = true) : m1D m ∧ rowP m.ents = true ∧ m2D m ∧ lateP m.ents m.now = false := by
  unfold maniP at h
  simpa using h

/-- where the first late entry is -/
def lateAt (l : List E9) (now : Int) : Int := match l.findIdx? (fun e => decide (now < e.late)) with | some i => (i : Int) | none => -1
theorem late_none {l : List E9} {now : Int} (h : ∀ i, i < l.length → decide (now < (l.getD i default).late) = false) : lateP l now = false := by
  unfold lateP
  rw [List.any_eq_false]
  intro e he
  obtain ⟨i, hi, rfl⟩ := List.getElem_of_mem he
  have := h i hi
  rw [List.getD_eq_getElem?_getD, List.getElem?_eq_getElem hi] at this
  simp only [Option.getD_some] at this
  rw [this]; exact Bool.false_ne_true
theorem late_some {l : List E9} {now : Int} {i : Nat} (hi : i < l.length) (h : decide (now < (l.getD i default).late) = true) : lateP l now = true := by
  unfold lateP
  rw [List.any_eq_true]
  rw [List.getD_eq_getElem?_getD, List.getElem?_eq_getElem hi] at h
  exact ⟨l[i], List.getElem_mem hi, h⟩

set_option maxRecDepth 20000 in
theorem late_any (e : E9) (g : Nat) (now : Int) (w : World) (h : w.cell? ⟨g, 2, none⟩ = some (.int .i64 now)) :
    Calls Try.prog 37 #[.agg (entC e).toArray, .pointer (some ⟨g, 0, none⟩)] w fun r w' => r = .returned (.bool (decide (now < e.late))) ∧ Ext w w' := by
  obtain ⟨id, gen, fst, sld, cnt, blk, early, late, bytes⟩ := e
  have b := Blk.new w 49 #[.int .i64 id, .int .i64 gen, .int .i64 fst, .bool sld, .int .i64 cnt, .int .i64 blk, .int .i64 early, .int .i64 late, .int .i64 bytes]
  have c7 := b.cell 7
  simp at c7
  have c2 := Go.cell_later ((Ext.refl w).alloc (.cells #[.int .i64 id, .int .i64 gen, .int .i64 fst, .bool sld, .int .i64 cnt, .int .i64 blk, .int .i64 early, .int .i64 late, .int .i64 bytes] 49)) h
  simp only [entC]
  clear b
  go_enter Try.func37, Try.ntmps37
  go_wp2
  go_ret
  exact ⟨rfl, (Ext.refl w).alloc _⟩

set_option maxRecDepth 20000 in
set_option maxHeartbeats 4000000 in
theorem index_any (l : List E9) (g : Nat) (now : Int) (v : Value) (w : World) (hr : RR entC 9 w v l) (hl : (l.length : Int) ≤ 1000000000) (h : w.cell? ⟨g, 2, none⟩ = some (.int .i64 now)) :
    Calls Try.prog 55 #[v, .func (.func 37) #[] #[.pointer (some ⟨g, 0, none⟩)]] w fun r w' => ∃ i : Int, r = .returned (.int .i64 i) ∧ decide (0 ≤ i) = lateP l now ∧ Ext w w' := by
  obtain ⟨a, c, rfl, _, _, hs⟩ := hr
  have HS := Lib.hid hs
  have H := Lib.hid h
  clear hs h
  go_enter Try.func55, Try.ntmps55
  go_wp2
  go_loopw [8] (fun i wr => ∃ k : Nat, i = .int .i64 (k : Int) ∧ k ≤ l.length ∧ (∀ j, j < k → decide (now < (l.getD j default).late) = false) ∧ Ext w wr) (fun i _ => l.length - (intOf i).toNat)
  case atStart => exact ⟨0, rfl, Nat.zero_le _, fun j hj => by omega, Ext.refl _⟩
  case round =>
    obtain ⟨k, rfl, hk, hno, hx⟩ := hrel
    have HNO := Lib.hid hno
    have HX := Lib.hid hx
    by_cases hlt : k < l.length
    · obtain ⟨ge, o, rfl, hcells⟩ := HS.out (by omega)
      have hI : (k : Int) < (l.length : Int) := by omega
      have R := Lib.hid (rangeAt_ext (hcells k _ (ent_at hlt)) hx)
      have QL := Lib.hid (fun e w' (hw : Ext wr w') => late_any e g now w' (Go.cell_later (hx.trans hw) H.out))
      have ZE := Lib.hid (show (Try.prog.info? 49).map (·.size) = some (entC (l.getD k default)).length from ent_size)
      have HLT := Lib.hid hlt
      have QK := QL.out (l.getD k default) wr (Ext.refl _)
      cases hb : decide (now < (l.getD k default).late) with
      | false =>
        rw [hb] at QK
        have QK := Lib.hid QK
        have HNO1 := Lib.hid (show ∀ j, j < k + 1 → decide (now < (l.getD j default).late) = false from fun j hj => by
          by_cases e : j < k
          · exact hno j e
          · obtain rfl : j = k := by omega
            exact hb)
        clear hcells hno hx hk hlt hb QL
        generalize entC (l.getD k default) = ce at *
        go_wp2_with (refine wpList_load_mid rfl 49 (.tmp 14) rfl ge _ rfl ce _ R.out Try.underlying49 rfl ZE.out ?_; refine Held.go ?_)
        refine ⟨?_⟩
        go_wp2_with fail
        refine QK.out.mono ?_
        rintro _ w2 ⟨rfl, x2⟩
        have X2 := Lib.hid (HX.out.trans x2)
        clear x2
        go_wp2
        go_roundw
        case rel => exact ⟨k + 1, by go_num, by have := HLT.out; omega, HNO1.out, X2.out⟩
        case measure => simp [intOf]; have := HLT.out; omega
      | true =>
        rw [hb] at QK
        have QK := Lib.hid QK
        have HT := Lib.hid (late_some hlt hb)
        clear hcells hno hx hk hlt hb QL
        generalize entC (l.getD k default) = ce at *
        go_wp2_with (refine wpList_load_mid rfl 49 (.tmp 14) rfl ge _ rfl ce _ R.out Try.underlying49 rfl ZE.out ?_; refine Held.go ?_)
        refine ⟨?_⟩
        go_wp2_with fail
        refine QK.out.mono ?_
        rintro _ w2 ⟨rfl, x2⟩
        have X2 := Lib.hid (HX.out.trans x2)
        clear x2
        go_wp2
        go_ret
        exact ⟨_, rfl, by rw [HT.out]; exact decide_eq_true (by omega), X2.out⟩
    · obtain rfl : k = l.length := by omega
      have HN := Lib.hid (late_none hno)
      clear hno hx hk
      go_wp2
      go_ret
      exact ⟨_, rfl, by rw [HN.out]; rfl, HX.out⟩
set_option maxRecDepth 20000 in
theorem contains_any (l : List E9) (g : Nat) (now : Int) (v : Value) (w : World) (hr : RR entC 9 w v l) (hl : (l.length : Int) ≤ 1000000000) (h : w.cell? ⟨g, 2, none⟩ = some (.int .i64 now)) :
    Calls Try.prog 38 #[v, .func (.func 37) #[] #[.pointer (some ⟨g, 0, none⟩)]] w fun r w' => r = .returned (.bool (lateP l now)) ∧ Ext w w' := by
  have Q := Lib.hid (fun w hr h => index_any l g now v w hr hl h)
  have HR := Lib.hid hr
  have H := Lib.hid h
  obtain ⟨a, c, rfl, _, _, hs⟩ := hr
  clear hs h
  go_enter Try.func38, Try.ntmps38
  go_wp2_with fail
  refine (Q.out _ HR.out H.out).mono ?_
  rintro _ w1 ⟨i, rfl, hi, x1⟩
  have HI := Lib.hid hi
  clear hi
  go_wp2
  go_ret
  exact ⟨by rw [← HI.out]; rfl, x1⟩
end Go.Proofs.Ytcagcepbnkageaa
namespace Go.Proofs.Ytcagcepbnkageaa
set_option linter.unusedVariables false
set_option linter.unusedSimpArgs false
open Go.RowKit
theorem man_size : (Try.prog.info? 24).map (·.size) = some 5 := by kernel_rfl

set_option maxRecDepth 20000 in
set_option maxHeartbeats 8000000 in
theorem mCheck_any (m : Man) (v : Value) (w : World) (hr : RR entC 9 w v m.ents) :
    Calls Try.prog 15 #[.agg (manC m v)] w fun r w' => r = .returned (.int .i64 (errI (maniP m) 250)) ∧ Ext w w' := by
  have hmf : ∀ (fn : Fn) (first cap : Array Value) (w : World), (Instr.makeFunc fn first cap).run Try.prog w = .ok (.func fn first cap) w := fun _ _ _ _ => rfl
  have hcases := mani_cases m
  generalize maniP m = r at *
  obtain ⟨gen, next, now, floor, ents⟩ := m
  dsimp only [manC] at *
  have QR := Lib.hid (fun w h => eRow_any ents v w h)
  have b1 := Lib.hid (Blk.new w 24 #[.int .i64 gen, .int .i64 next, .int .i64 now, .int .i64 floor, v])
  have X0 := Lib.hid ((Ext.refl w).alloc (.cells #[.int .i64 gen, .int .i64 next, .int .i64 now, .int .i64 floor, v] 24))
  have R0 := Lib.hid (hr.ext X0.out)
  rcases hcases with ⟨rfl, h1⟩ | ⟨rfl, h1, h2⟩ | ⟨rfl, h1, h2, h3⟩ | ⟨rfl, h1, h2, h3, h4⟩ | ⟨rfl, h1, h2, h3, h4, h5⟩ | ⟨hrr, h1, h2, h3, h4, h5⟩
  iterate 4
    · go_enter Try.func15, Try.ntmps15
      go_wp2
      go_ret
      exact ⟨rfl, X0.out⟩
  · rw [h5] at QR
    simp only [errI, Bool.false_eq_true, if_false] at QR
    clear h5
    obtain ⟨a, c, rfl, _, _, _⟩ := hr
    go_enter Try.func15, Try.ntmps15
    go_wp2_with fail
    refine (QR.out _ R0.out).mono ?_
    rintro _ w1 ⟨rfl, x1⟩
    go_wp2
    go_ret
    exact ⟨rfl, X0.out.trans x1⟩
  · have hlen := rowP_len h5
    rw [h5] at QR
    simp only [errI, if_true] at QR
    have HRR := Lib.hid hrr
    obtain ⟨n, hn⟩ : ∃ n : Nat, ents.length = n + 1 := ⟨ents.length - 1, by omega⟩
    have hr' := hr
    obtain ⟨a, c, rfl, hlc, hcn, hs⟩ := hr
    obtain ⟨ge, o, rfl, hcells⟩ := hs (by omega)
    have RL := Lib.hid (hcells n _ (ent_at (by omega)))
    have RF := Lib.hid (hcells 0 _ (ent_at (by omega)))
    have QC := Lib.hid (fun g w hr h => contains_any ents g now (.slice (some ⟨ge, o, none⟩) ents.length c) w hr (by omega) h)
    have HB := Lib.hid b1.out
    unfold lastOf fstOf at HRR
    rw [show ents.length - 1 = n by omega] at HRR
    have hkl : (ents.length : Int) = (n : Int) + 1 := by omega
    have HLEN := Lib.hid hlen
    have hb100 : (n : Int) + 1 ≤ 100 := by omega
    have QR := Lib.hid (QR.out _ R0.out)
    have ZE := Lib.hid (show (Try.prog.info? 49).map (·.size) = some (entC (ents.getD n default)).length from ent_size)
    have ZE' := Lib.hid (show (Try.prog.info? 49).map (·.size) = some (entC (ents.getD n default)).toArray.size from ent_size)
    have OE := Lib.hid (entC_all (ents.getD n default))
    have SE := Lib.hid (show (#[.int .i64 0, .int .i64 0, .int .i64 0, .bool false, .int .i64 0, .int .i64 0, .int .i64 0, .int .i64 0, .int .i64 0] : Array Value).size = (entC (ents.getD n default)).toArray.size from rfl)
    have HID := Lib.hid (show (entC (ents.getD n default)).toArray[0]? = some (.int .i64 (ents.getD n default).id) from rfl)
    have HF := Lib.hid (show (entC (ents.getD 0 default))[2]? = some (.int .i64 (ents.getD 0 default).fst) from rfl)
    rw [hn] at QR QC hlc
    have HR0 := Lib.hid (show ∀ w', Ext w w' → RR entC 9 w' (.slice (some ⟨ge, o, none⟩) (n + 1) c) ents from fun w' hx => by rw [← hn]; exact hr'.ext hx)
    rw [hn] at b1 HB X0 R0
    rw [hn]
    clear hcells hs hcn h5 hrr hlen hr' hkl hn
    generalize ents.getD n default = el at *
    generalize ents.getD 0 default = ef at *
    generalize (lateP ents now) = b4 at *
    go_enter Try.func15, Try.ntmps15
    go_wp2_with fail
    refine QR.out.mono ?_
    rintro _ w1 ⟨rfl, x1⟩
    have B1 := HB.out.ext x1
    have c4 : w1.cell? ⟨w.heap.size, 4, none⟩ = some (.slice (some ⟨ge, o, none⟩) (n + 1) c) := B1.cell 4
    have R1 := Lib.hid (rangeAt_ext RL.out (X0.out.trans x1))
    have y1 : Ext w (w1.alloc (.cells (entC el).toArray 49)) := (X0.out.trans x1).alloc _
    have y2 : Ext (w.alloc (.cells #[.int .i64 gen, .int .i64 next, .int .i64 now, .int .i64 floor, .slice (some ⟨ge, o, none⟩) (n + 1) c] 24)) (w1.alloc (.cells (entC el).toArray 49)) := x1.alloc _
    have B2 := HB.out.ext y2
    have e1 := B2.cell 1
    have e3 := B2.cell 3
    have e4 := B2.cell 4
    have e2 := B2.cell 2
    simp only [List.getElem?_toArray, List.getElem?_cons_succ, List.getElem?_cons_zero] at e1 e3 e4 e2
    have e0 : (w1.alloc (.cells (entC el).toArray 49)).cell? ⟨w1.heap.size, 0, none⟩ = some (.int .i64 el.id) := ((Blk.new w1 49 (entC el).toArray).cell 0).trans HID.out
    have ef := (rangeAt_ext RF.out y1) 2 _ HF.out
    simp only [Nat.zero_mul, Nat.add_zero] at ef
    have E1 := Lib.hid (up_cell e1)
    have E3 := Lib.hid (up_cell e3)
    have E4 := Lib.hid (up_cell e4)
    have E0 := Lib.hid (up_cell e0)
    have EF := Lib.hid (up_cell ef)
    have QX := Lib.hid (fun x : Up (w1.alloc (.cells (entC el).toArray 49)) => QC.out w.heap.size x.val (HR0.out _ (y1.trans x.ext)) (up_cell e2 x))
    have Y1 := Lib.hid y1
    have kn : (n : Int) < (n : Int) + 1 := by omega
    have kb : (n : Int) + 1 ≤ 100 := hb100
    clear B1 B2 e1 e2 e3 e4 e0 ef y1 y2 x1 QC HR0 HB b1
    generalize entC el = ce at *
    go_wp2_with (refine wpList_load_mid rfl 49 (.tmp 35) rfl ge _ rfl ce _ R1.out Try.underlying49 rfl ZE.out ?_; refine Held.go ?_)
    refine ⟨?_⟩
    go_wp2_with (refine wpList_store_new (cs' := ce.toArray) rfl 49 (.tmp 3) (.tmp 36) rfl rfl rfl SE.out ZE'.out OE.out ?_; refine Held.go ?_)
    refine ⟨?_⟩
    clear c4
    generalize w1.alloc (.cells ce.toArray 49) = w2 at *
    generalize el.id = lid at *
    generalize ef.fst = ff at *
    go_wp2
    have HRR := HRR.out
    obtain ⟨b1, hb1⟩ : ∃ b, decide (next ≤ lid) = b := ⟨_, rfl⟩
    obtain ⟨b2, hb2⟩ : ∃ b, decide (1000000 < next) = b := ⟨_, rfl⟩
    obtain ⟨b3, hb3⟩ : ∃ b, (floor != ff) = b := ⟨_, rfl⟩
    rw [hb1, hb2, hb3] at HRR
    have e1 := E1.out
    have e3 := E3.out
    have e4 := E4.out
    have e0 := E0.out
    have ef := EF.out
    have kz : (0 : Int) < (n : Int) + 1 := by omega
    clear h1 h2 h3 h4 kn kb hb100 hlc
    refine wp_region_up (by kernel_rfl) (by kernel_rfl) ?_
    cases b1 with
    | true =>
      have hr : r = false := HRR
      subst hr
      clear HRR
      repeat (go_big_quiet_step (first | (go_at_call 38; (with_reducible exact up_call (QX.out _)))))
      refine wpQuiet_nil ?_
      rintro _ ⟨z, rfl⟩
      go_wp2
      go_ret
      exact ⟨rfl, Y1.out.trans z.ext⟩
    | false =>
      cases b2 with
      | true =>
        have hr : r = false := HRR
        subst hr
        clear HRR
        repeat (go_big_quiet_step (first | (go_at_call 38; (with_reducible exact up_call (QX.out _)))))
        refine wpQuiet_nil ?_
        rintro _ ⟨z, rfl⟩
        go_wp2
        go_ret
        exact ⟨rfl, Y1.out.trans z.ext⟩
      | false =>
        cases b3 with
        | true =>
          have hr : r = false := HRR
          subst hr
          clear HRR
          repeat (go_big_quiet_step (first | (go_at_call 38; (with_reducible exact up_call (QX.out _)))))
          refine wpQuiet_nil ?_
          rintro _ ⟨z, rfl⟩
          go_wp2
          go_ret
          exact ⟨rfl, Y1.out.trans z.ext⟩
        | false =>
          cases b4 with
          | true =>
            have hr : r = false := HRR
            subst hr
            clear HRR
            repeat (go_big_quiet_step (first | (go_at_call 38; (with_reducible exact up_call (QX.out _)))))
            refine wpQuiet_nil ?_
            rintro _ ⟨z, rfl⟩
            go_wp2
            go_ret
            exact ⟨rfl, Y1.out.trans z.ext⟩
          | false =>
            have hr : r = true := HRR
            subst hr
            clear HRR
            repeat (go_big_quiet_step (first | (go_at_call 38; (with_reducible exact up_call (QX.out _)))))
            refine wpQuiet_nil ?_
            rintro _ ⟨z, rfl⟩
            go_wp2
            go_ret
            exact ⟨rfl, Y1.out.trans z.ext⟩
end Go.Proofs.Ytcagcepbnkageaa
