/- mani.Later. (Printed by wip/tools/mam.py.) -/
import Derived.Test.YtcagcepbnkageaaMaI
import Derived.Test.YtcagcepbnkageaaMinMax
import Derived.Test.YtcagcepbnkageaaAnyF
import Derived.Deep.DeepCutAuto
namespace Go.Proofs.Ytcagcepbnkageaa
set_option linter.unusedVariables false
set_option linter.unusedSimpArgs false
open Go.RowKit

/-- the next manifest, if it may be -/
def lat (m : Man) (now : Int) (l : List E9) : Man := ⟨m.gen + 1, max m.next ((lastOf l).id + 1), now, (fstOf l).fst, l⟩
def laterP (m : Man) (now : Int) (l : List E9) : Bool := maniP m && (rowP l && (maniP (lat m now l) && (!decide (now < m.now) && !decide ((fstOf l).fst < m.floor))))
def laterM (m : Man) (now : Int) (l : List E9) : Man := if laterP m now l then lat m now l else zM
theorem later_cases (m : Man) (now : Int) (l : List E9) : (maniP m = false ∧ laterP m now l = false) ∨ (maniP m = true ∧ rowP l = false ∧ laterP m now l = false)
    ∨ (maniP m = true ∧ rowP l = true ∧ maniP (lat m now l) = false ∧ laterP m now l = false)
    ∨ (maniP m = true ∧ rowP l = true ∧ maniP (lat m now l) = true ∧ now < m.now ∧ laterP m now l = false)
    ∨ (maniP m = true ∧ rowP l = true ∧ maniP (lat m now l) = true ∧ ¬ now < m.now ∧ (fstOf l).fst < m.floor ∧ laterP m now l = false)
    ∨ (maniP m = true ∧ rowP l = true ∧ maniP (lat m now l) = true ∧ ¬ now < m.now ∧ ¬ (fstOf l).fst < m.floor ∧ laterP m now l = true) := by
  unfold laterP
  cases h1 : maniP m with
  | false => exact .inl ⟨rfl, rfl⟩
  | true =>
    cases h2 : rowP l with
    | false => exact .inr (.inl ⟨rfl, rfl, rfl⟩)
    | true =>
      cases h3 : maniP (lat m now l) with
      | false => exact .inr (.inr (.inl ⟨rfl, rfl, rfl, rfl⟩))
      | true =>
        by_cases h4 : now < m.now
        · exact .inr (.inr (.inr (.inl ⟨rfl, rfl, rfl, h4, by rw [decide_eq_true h4]; rfl⟩)))
        · by_cases h5 : (fstOf l).fst < m.floor
          · exact .inr (.inr (.inr (.inr (.inl ⟨rfl, rfl, rfl, h4, h5, by rw [decide_eq_true h5, decide_eq_false h4]; rfl⟩))))
          · exact .inr (.inr (.inr (.inr (.inr ⟨rfl, rfl, rfl, h4, h5, by rw [decide_eq_false h5, decide_eq_false h4]; rfl⟩))))
attribute [local go_sem] man_zero man_build0 man_build5

set_option maxRecDepth 20000 in
set_option maxHeartbeats 16000000 in
theorem mLater_any (m : Man) (now : Int) (l : List E9) (v vl : Value) (w : World) (hm : RR entC 9 w v m.ents) (hl : RR entC 9 w vl l) :
    Calls Try.prog 18 #[.agg (manC m v), .int .i64 now, vl] w fun r w' => ∃ u, r = .returned (.tuple #[.agg (manC (laterM m now l) u), .int .i64 (errI (laterP m now l) 250)]) ∧ Ext w w' ∧ RR entC 9 w' u (laterM m now l).ents := by
  have MS := Lib.hid man_size
  have hcases := later_cases m now l
  have hLM : laterP m now l = false → laterM m now l = zM := fun h => by unfold laterM; rw [h]; rfl
  have hLT : laterP m now l = true → laterM m now l = lat m now l := fun h => by unfold laterM; rw [h]; rfl
  have X0 := Lib.hid (((Ext.refl w).alloc (.cells (manC m v) 24)).alloc (.cells #[.int .i64 0, .int .i64 0, .int .i64 0, .int .i64 0, .slice none 0 0] 24))
  have b1 := Lib.hid ((Blk.new w 24 (manC m v)).alloc (.cells #[.int .i64 0, .int .i64 0, .int .i64 0, .int .i64 0, .slice none 0 0] 24))
  have bz := Blk.new (w.alloc (.cells (manC m v) 24)) 24 #[.int .i64 0, .int .i64 0, .int .i64 0, .int .i64 0, .slice none 0 0]
  rw [World.size_alloc] at bz
  have BZ := Lib.hid bz
  have QC := Lib.hid (fun w h => mCheck_any m v w h)
  have QR := Lib.hid (fun w h => eRow_any l vl w h)
  have RM := Lib.hid (hm.ext X0.out)
  have RL := Lib.hid (hl.ext X0.out)
  have HLT := Lib.hid hLT
  have HLM := Lib.hid hLM
  have MSC := Lib.hid (show (Try.prog.info? 24).map (·.size) = some (manC m v).size from man_size)
  clear bz hLT hLM
  rcases hcases with ⟨h1, hL⟩ | ⟨h1, h2, hL⟩ | ⟨h1, h2, h3, hL⟩ | ⟨h1, h2, h3, h4, hL⟩ | ⟨h1, h2, h3, h4, h5, hL⟩ | ⟨h1, h2, h3, h4, h5, hL⟩

  · rw [h1] at QC
    simp only [errI, Bool.false_eq_true, if_false] at QC
    clear h1
    have HP := Lib.hid hL
    have HN := Lib.hid (HLM.out hL)
    obtain ⟨a, c, rfl, _, _, _⟩ := hl
    clear hL hm
    generalize manC m v = mc at *
    go_enter Try.func18, Try.ntmps18
    go_wp2_with (refine wpList_load_blk rfl 24 (.tmp 3) rfl rfl b1.out Try.underlying24 rfl MSC.out ?_; refine Held.go ?_)
    refine ⟨?_⟩
    go_wp2_with fail
    refine (QC.out _ RM.out).mono ?_
    rintro _ w1 ⟨rfl, x1⟩
    have Z1 := Lib.hid (BZ.out.ext x1)
    have X1 := Lib.hid (X0.out.trans x1)
    have B1 := Lib.hid (b1.out.ext x1)
    have RL1 := Lib.hid (RL.out.ext x1)
    clear x1
    go_wp2_with (refine wpList_store_blk rfl 24 (.tmp 6) (.tmp 15) rfl rfl rfl Z1.out rfl MS.out (by kernel_rfl) ?_)
    exact bodyPost_ret (results_row_tmp rfl _ _ (w.heap.size + 1) _ _ (0, 0) _ rfl (Z1.out.setRow #[.int .i64 0, .int .i64 0, .int .i64 0, .int .i64 0, .slice none 0 0]) Try.underlying24 rfl MS.out) rfl ⟨.slice none 0 0, by rw [HN.out, HP.out]; rfl, X1.out.setRow (Nat.le_succ _) _, by rw [HN.out]; exact RR.nil _⟩
  · rw [h1] at QC
    rw [h2] at QR
    simp only [errI, Bool.false_eq_true, if_false, if_true] at QC QR
    clear h1 h2
    have HP := Lib.hid hL
    have HN := Lib.hid (HLM.out hL)
    obtain ⟨a, c, rfl, _, _, _⟩ := hl
    clear hL hm
    generalize manC m v = mc at *
    go_enter Try.func18, Try.ntmps18
    go_wp2_with (refine wpList_load_blk rfl 24 (.tmp 3) rfl rfl b1.out Try.underlying24 rfl MSC.out ?_; refine Held.go ?_)
    refine ⟨?_⟩
    go_wp2_with fail
    refine (QC.out _ RM.out).mono ?_
    rintro _ w1 ⟨rfl, x1⟩
    have Z1 := Lib.hid (BZ.out.ext x1)
    have X1 := Lib.hid (X0.out.trans x1)
    have B1 := Lib.hid (b1.out.ext x1)
    have RL1 := Lib.hid (RL.out.ext x1)
    clear x1
    go_wp2_with fail
    refine (QR.out _ RL1.out).mono ?_
    rintro _ w2 ⟨rfl, x2⟩
    have Z2 := Lib.hid (Z1.out.ext x2)
    have X2 := Lib.hid (X1.out.trans x2)
    have B2 := Lib.hid (B1.out.ext x2)
    have RL2 := Lib.hid (RL1.out.ext x2)
    clear x2
    go_wp2_with (refine wpList_store_blk rfl 24 (.tmp 6) (.tmp 20) rfl rfl rfl Z2.out rfl MS.out (by kernel_rfl) ?_)
    exact bodyPost_ret (results_row_tmp rfl _ _ (w.heap.size + 1) _ _ (0, 0) _ rfl (Z2.out.setRow #[.int .i64 0, .int .i64 0, .int .i64 0, .int .i64 0, .slice none 0 0]) Try.underlying24 rfl MS.out) rfl ⟨.slice none 0 0, by rw [HN.out, HP.out]; rfl, X2.out.setRow (Nat.le_succ _) _, by rw [HN.out]; exact RR.nil _⟩
  · have hrow := h2
    have hlen := rowP_len h2
    have hgm := (mani_row h1).1
    obtain ⟨g1, g2, g3, g4⟩ := hgm
    have hent := row_ent h2 (i := l.length - 1) (by omega)
    rw [h1] at QC
    rw [h2] at QR
    simp only [errI, if_true] at QC QR
    obtain ⟨n, hn⟩ : ∃ n : Nat, l.length = n + 1 := ⟨l.length - 1, by omega⟩
    have hl' := hl
    obtain ⟨a, c, rfl, hlc, hcn, hs⟩ := hl
    obtain ⟨gl, o, rfl, hcells⟩ := hs (by omega)
    have RA := Lib.hid (hcells n _ (ent_at (by omega)))
    have RF := Lib.hid (hcells 0 _ (ent_at (by omega)))
    have QK := Lib.hid (fun w h => clone_any l (.slice (some ⟨gl, o, none⟩) l.length c) w h (by omega) (by omega))
    have hh : headD (lastOf l).id (lastOf l).gen (lastOf l).fst := by
      have hent : entP (lastOf l) = true := hent
      unfold entP at hent
      rw [Bool.and_eq_true] at hent
      simpa [headP] using hent.1
    obtain ⟨⟨i1, i2⟩, -, -⟩ := hh
    have hLast : l.getD n default = lastOf l := by unfold lastOf; rw [show l.length - 1 = n by omega]
    have hFst : l.getD 0 default = fstOf l := rfl
    have E0 := Lib.hid (show (entC (l.getD n default))[0]? = some (.int .i64 (lastOf l).id) by rw [hLast]; rfl)
    have E2 := Lib.hid (show (entC (l.getD 0 default))[2]? = some (.int .i64 (fstOf l).fst) from rfl)
    have HCN := Lib.hid (show ∀ u, manC (lat m now l) u = #[.int .i64 (m.gen + 1), .int .i64 (max m.next ((lastOf l).id + 1)), .int .i64 now, .int .i64 (fstOf l).fst, u] from fun u => rfl)
    have QN := Lib.hid (fun u w (h : RR entC 9 w u l) => (show Calls Try.prog 15 #[.agg #[.int .i64 (m.gen + 1), .int .i64 (max m.next ((lastOf l).id + 1)), .int .i64 now, .int .i64 (fstOf l).fst, u]] w fun r w' => r = .returned (.int .i64 (errI (maniP (lat m now l)) 250)) ∧ Ext w w' from mCheck_any (lat m now l) u w h))
    have C0 := Lib.hid (show (manC m v)[0]? = some (.int .i64 m.gen) from rfl)
    have C1 := Lib.hid (show (manC m v)[1]? = some (.int .i64 m.next) from rfl)
    have C2 := Lib.hid (show (manC m v)[2]? = some (.int .i64 m.now) from rfl)
    have C3 := Lib.hid (show (manC m v)[3]? = some (.int .i64 m.floor) from rfl)
    have HENTS := Lib.hid (show (lat m now l).ents = l from rfl)
    have ewg : IntKind.i64.wrap (m.gen + 1) = m.gen + 1 := by rw [IntKind.wrap_i64]; omega
    have ewl : IntKind.i64.wrap ((lastOf l).id + 1) = (lastOf l).id + 1 := by rw [IntKind.wrap_i64]; omega
    obtain ⟨mx, hmx⟩ : ∃ mx, mx = max m.next ((lastOf l).id + 1) := ⟨_, rfl⟩
    have hmax := Lib.hid (fun w => max2_run m.next ((lastOf l).id + 1) mx hmx w)
    rw [← hmx] at HCN QN
    have hb100 : (n : Int) + 1 ≤ 100 := by omega
    rw [h3] at QN
    rw [hn] at QK hlc
    rw [hn] at QR RL
    rw [hn]
    clear hrow hlen hent hl' hcells hs hcn hn hLast hFst i1 i2 g1 g2 g3 g4 h1 h2 h3 hm hmx
    have HP := Lib.hid hL
    have HN := Lib.hid (HLM.out hL)
    clear hL
    generalize manC m v = mc at *
    generalize (lastOf l).id = lid at *
    generalize (fstOf l).fst = ff at *
    generalize m.gen = gen at *
    generalize m.next = next at *
    generalize m.now = mnow at *
    generalize m.floor = floor at *
    go_enter Try.func18, Try.ntmps18
    go_wp2_with (refine wpList_load_blk rfl 24 (.tmp 3) rfl rfl b1.out Try.underlying24 rfl MSC.out ?_; refine Held.go ?_)
    refine ⟨?_⟩
    go_wp2_with fail
    refine (QC.out _ RM.out).mono ?_
    rintro _ w1 ⟨rfl, x1⟩
    have Z1 := Lib.hid (BZ.out.ext x1)
    have X1 := Lib.hid (X0.out.trans x1)
    have B1 := Lib.hid (b1.out.ext x1)
    have RL1 := Lib.hid (RL.out.ext x1)
    clear x1
    go_wp2_with fail
    refine (QR.out _ RL1.out).mono ?_
    rintro _ w2 ⟨rfl, x2⟩
    have Z2 := Lib.hid (Z1.out.ext x2)
    have X2 := Lib.hid (X1.out.trans x2)
    have B2 := Lib.hid (B1.out.ext x2)
    have RL2 := Lib.hid (RL1.out.ext x2)
    clear x2
    go_upto_region 6 with fail
    go_cut [9] (fun s9 wx => ∃ (g9 : Nat) (av : Option Addr) (cv : Nat), s9 = .pointer (some ⟨g9, 0, none⟩) ∧ Blk wx g9 24 #[.int .i64 (gen + 1), .int .i64 mx, .int .i64 now, .int .i64 ff, .slice av l.length cv] ∧ EW wx w2.heap.size (.slice av l.length cv) l ∧ Ext w2 wx)
    case first =>
      have e0 := up_cell (W := w2.drew) ((B2.out.cell 0).trans C0.out)
      have e1 := up_cell (W := w2.drew) ((B2.out.cell 1).trans C1.out)
      have rl0 := (rangeAt_ext RA.out X2.out) 0 _ E0.out
      have rf2 := (rangeAt_ext RF.out X2.out) 2 _ E2.out
      simp only [Nat.zero_mul, Nat.add_zero] at rl0 rf2
      have el := up_cell (W := w2.drew) rl0
      have ef := up_cell (W := w2.drew) rf2
      have hmx := hmax.out
      have ewn : IntKind.i64.wrap (n : Int) = (n : Int) := by rw [IntKind.wrap_i64]; omega
      have k0n : (0 : Int) ≤ (n : Int) := by omega
      have kn : (n : Int) < (n : Int) + 1 := by omega
      have kz : (0 : Int) < (n : Int) + 1 := by omega
      clear rl0 rf2
      refine wp_region_lex 26 rfl (by kernel_rfl) ?_
      iterate 22
        (refine lex_want (by kernel_rfl) (by kernel_rfl) (by kernel_rfl) (by kernel_rfl) (fun _ _ _ _ h => h) (by kernel_rfl) (fun K hK => ?_)
         go_simp
         (refine hK _ ?_; clear hK K))
      clear e0 e1 el ef hmx
      refine lex_fork 22 24 (by kernel_rfl) rfl rfl (by kernel_rfl) (by kernel_rfl) (fun xa K hK => ?_) (fun xa K hK => ?_)
      · go_simp
        refine (QK.out _ (RL2.out.ext (Ext.trans (Ext.refl w2).drew xa.ext))).mono ?_
        rintro _ w3 ⟨vc, rfl, x3, hvc⟩
        obtain ⟨av, cv, rfl, _, _⟩ := hvc.shape entC_length
        refine hK.out _ _ x3 ?_
        have y3 := Ext.trans (Ext.trans (Ext.refl w2).drew xa.ext) x3
        have HVC := Lib.hid (hvc.mono (Ext.trans (Ext.refl w2).drew xa.ext).le)
        have Y3 := Lib.hid y3
        clear hK K x3 y3 hvc
        refine out_done ?_
        refine out_want (by kernel_rfl) (by kernel_rfl) (by kernel_rfl) (fun _ _ _ _ h => h) (by kernel_rfl) (fun K hK => ?_)
        go_simp
        refine hK _ ?_
        clear hK K
        refine out_only (by kernel_rfl) (by kernel_rfl) (fun xu K hK => ?_)
        go_simp
        refine hK.out _ _ ((Ext.refl _).alloc _) ?_
        clear hK K
        refine out_lex (n := 26) (by kernel_rfl) ?_
        refine lex_last (by kernel_rfl) (by kernel_rfl) (by kernel_rfl) (by kernel_rfl) (by kernel_rfl) (fun xv K hK => ?_)
        have be := (Blk.new xu.val 24 #[.int .i64 0, .int .i64 0, .int .i64 0, .int .i64 0, .slice none 0 0]).ext xv.ext
        refine wp_store_blk 24 (.tmp 9) (.tmp 44) rfl rfl (cs' := #[.int .i64 (gen + 1), .int .i64 mx, .int .i64 now, .int .i64 ff, .slice av l.length cv]) rfl be rfl MS.out (by kernel_rfl) (hK _ _ (fun y => ?_))
        dsimp only [Act.put]
        have B9 := (be.setRow #[.int .i64 (gen + 1), .int .i64 mx, .int .i64 now, .int .i64 ff, .slice av l.length cv]).ext y.ext
        have hE : w3.heap.size ≤ xu.val.heap.size := xu.ext.le
        have y9 : Ext w3 y.val := Ext.trans (Ext.setRow ((xu.ext.alloc _).trans xv.ext) hE _) y.ext
        go_wp2_with fail
        go_meet
        exact ⟨_, av, cv, rfl, B9, HVC.out.ext y9, Y3.out.trans y9⟩
      · go_simp
        refine hK.out _ _ ((Ext.refl _).alloc _) ?_
        clear hK K
        refine out_only (by kernel_rfl) (by kernel_rfl) (fun xb K hK => ?_)
        go_simp
        have y2 := Ext.trans (((Ext.refl w2).drew.trans xa.ext).alloc (.cells #[.int .i64 0, .int .i64 0, .int .i64 0, .int .i64 0, .slice none 0 0] 24)) xb.ext
        have be := (Blk.new xa.val 24 #[.int .i64 0, .int .i64 0, .int .i64 0, .int .i64 0, .slice none 0 0]).ext xb.ext
        refine (QK.out _ (RL2.out.ext y2)).mono ?_
        rintro _ w3 ⟨vc, rfl, x3, hvc⟩
        obtain ⟨av, cv, rfl, _, _⟩ := hvc.shape entC_length
        refine hK.out _ _ x3 ?_
        have HVC := Lib.hid hvc
        have Y3 := Lib.hid (y2.trans x3)
        have BE := Lib.hid (be.ext x3)
        have HGE := Lib.hid (show xa.val.heap.size < xb.val.heap.size from be.lt)
        have HW2 := Lib.hid (show w2.heap.size ≤ xa.val.heap.size from xa.ext.le)
        have HWB := Lib.hid (show w2.heap.size ≤ xb.val.heap.size from y2.le)
        clear hK K x3 hvc y2 be
        refine out_want (by kernel_rfl) (by kernel_rfl) (by kernel_rfl) (fun _ _ _ _ h => h) (by kernel_rfl) (fun K hK => ?_)
        go_simp
        refine hK _ ?_
        clear hK K
        refine out_done ?_
        refine out_lex (n := 26) (by kernel_rfl) ?_
        refine lex_last (by kernel_rfl) (by kernel_rfl) (by kernel_rfl) (by kernel_rfl) (by kernel_rfl) (fun xv K hK => ?_)
        refine wp_store_blk 24 (.tmp 9) (.tmp 44) rfl rfl (cs' := #[.int .i64 (gen + 1), .int .i64 mx, .int .i64 now, .int .i64 ff, .slice av l.length cv]) rfl (BE.out.ext xv.ext) rfl MS.out (by kernel_rfl) (hK _ _ (fun y => ?_))
        dsimp only [Act.put]
        have B9 := (((BE.out.ext xv.ext).setRow #[.int .i64 (gen + 1), .int .i64 mx, .int .i64 now, .int .i64 ff, .slice av l.length cv])).ext y.ext
        have r9 : EW (xv.val.setRow xa.val.heap.size #[.int .i64 (gen + 1), .int .i64 mx, .int .i64 now, .int .i64 ff, .slice av l.length cv]) xb.val.heap.size (.slice av l.length cv) l := World.ownsRow.kept (HVC.out.ext xv.ext) (grownBy_setRow _ _ _) (by
          cases hv : (Value.slice av l.length cv).ownBlock with
          | none => exact .inl rfl
          | some k => exact .inr (by have := (World.ownsRow.lt HVC.out k hv).1; have := HGE.out; simp; omega))
        have y9 : Ext w2 y.val := Ext.trans (Ext.setRow (Y3.out.trans xv.ext) HW2.out _) y.ext
        go_wp2_with fail
        go_meet
        exact ⟨_, av, cv, rfl, B9, (r9.ext y.ext).mono HWB.out, y9⟩
    case rest =>
      obtain ⟨g9, av, cv, rfl, b9, hvc, y9⟩ := hcut
      have B9 := Lib.hid b9
      have R9 := Lib.hid hvc
      have Y9 := Lib.hid y9
      clear b9 hvc y9
      generalize wc = w4 at *
      have X4 := Lib.hid (X2.out.trans Y9.out)
      have Z4 := Lib.hid (Z2.out.ext Y9.out)
      have B4 := Lib.hid (B2.out.ext Y9.out)
      have QN := Lib.hid (QN.out _ _ (WR.rr entC_length R9.out))
      simp only [errI, Bool.false_eq_true, if_false, if_true] at QN
      go_wp2_with (refine wpList_load_blk rfl 24 (.tmp 9) rfl rfl B9.out Try.underlying24 rfl MS.out ?_; refine Held.go ?_)
      refine ⟨?_⟩
      go_wp2_with fail
      refine QN.out.mono ?_
      rintro _ w5 ⟨rfl, x5⟩
      have Z5 := Lib.hid (Z4.out.ext x5)
      have X5 := Lib.hid (X4.out.trans x5)
      have B95 := Lib.hid (B9.out.ext x5)
      have B5 := Lib.hid (B4.out.ext x5)
      have R95 := Lib.hid (R9.out.ext x5)
      have c2 := (B5.out.cell 2).trans C2.out
      have c3 := (B5.out.cell 3).trans C3.out
      have d3 := B95.out.cell 3
      simp only [List.getElem?_toArray, List.getElem?_cons_succ, List.getElem?_cons_zero] at d3
      clear x5
      go_wp2_with (refine wpList_store_blk rfl 24 (.tmp 6) (.tmp 62) rfl rfl rfl Z5.out rfl MS.out (by kernel_rfl) ?_)
      exact bodyPost_ret (results_row_tmp rfl _ _ (w.heap.size + 1) _ _ (0, 0) _ rfl (Z5.out.setRow #[.int .i64 0, .int .i64 0, .int .i64 0, .int .i64 0, .slice none 0 0]) Try.underlying24 rfl MS.out) rfl ⟨.slice none 0 0, by rw [HN.out, HP.out]; rfl, X5.out.setRow (Nat.le_succ _) _, by rw [HN.out]; exact RR.nil _⟩
  · have hrow := h2
    have hlen := rowP_len h2
    have hgm := (mani_row h1).1
    obtain ⟨g1, g2, g3, g4⟩ := hgm
    have hent := row_ent h2 (i := l.length - 1) (by omega)
    rw [h1] at QC
    rw [h2] at QR
    simp only [errI, if_true] at QC QR
    obtain ⟨n, hn⟩ : ∃ n : Nat, l.length = n + 1 := ⟨l.length - 1, by omega⟩
    have hl' := hl
    obtain ⟨a, c, rfl, hlc, hcn, hs⟩ := hl
    obtain ⟨gl, o, rfl, hcells⟩ := hs (by omega)
    have RA := Lib.hid (hcells n _ (ent_at (by omega)))
    have RF := Lib.hid (hcells 0 _ (ent_at (by omega)))
    have QK := Lib.hid (fun w h => clone_any l (.slice (some ⟨gl, o, none⟩) l.length c) w h (by omega) (by omega))
    have hh : headD (lastOf l).id (lastOf l).gen (lastOf l).fst := by
      have hent : entP (lastOf l) = true := hent
      unfold entP at hent
      rw [Bool.and_eq_true] at hent
      simpa [headP] using hent.1
    obtain ⟨⟨i1, i2⟩, -, -⟩ := hh
    have hLast : l.getD n default = lastOf l := by unfold lastOf; rw [show l.length - 1 = n by omega]
    have hFst : l.getD 0 default = fstOf l := rfl
    have E0 := Lib.hid (show (entC (l.getD n default))[0]? = some (.int .i64 (lastOf l).id) by rw [hLast]; rfl)
    have E2 := Lib.hid (show (entC (l.getD 0 default))[2]? = some (.int .i64 (fstOf l).fst) from rfl)
    have HCN := Lib.hid (show ∀ u, manC (lat m now l) u = #[.int .i64 (m.gen + 1), .int .i64 (max m.next ((lastOf l).id + 1)), .int .i64 now, .int .i64 (fstOf l).fst, u] from fun u => rfl)
    have QN := Lib.hid (fun u w (h : RR entC 9 w u l) => (show Calls Try.prog 15 #[.agg #[.int .i64 (m.gen + 1), .int .i64 (max m.next ((lastOf l).id + 1)), .int .i64 now, .int .i64 (fstOf l).fst, u]] w fun r w' => r = .returned (.int .i64 (errI (maniP (lat m now l)) 250)) ∧ Ext w w' from mCheck_any (lat m now l) u w h))
    have C0 := Lib.hid (show (manC m v)[0]? = some (.int .i64 m.gen) from rfl)
    have C1 := Lib.hid (show (manC m v)[1]? = some (.int .i64 m.next) from rfl)
    have C2 := Lib.hid (show (manC m v)[2]? = some (.int .i64 m.now) from rfl)
    have C3 := Lib.hid (show (manC m v)[3]? = some (.int .i64 m.floor) from rfl)
    have HENTS := Lib.hid (show (lat m now l).ents = l from rfl)
    have ewg : IntKind.i64.wrap (m.gen + 1) = m.gen + 1 := by rw [IntKind.wrap_i64]; omega
    have ewl : IntKind.i64.wrap ((lastOf l).id + 1) = (lastOf l).id + 1 := by rw [IntKind.wrap_i64]; omega
    obtain ⟨mx, hmx⟩ : ∃ mx, mx = max m.next ((lastOf l).id + 1) := ⟨_, rfl⟩
    have hmax := Lib.hid (fun w => max2_run m.next ((lastOf l).id + 1) mx hmx w)
    rw [← hmx] at HCN QN
    have hb100 : (n : Int) + 1 ≤ 100 := by omega
    rw [h3] at QN
    rw [hn] at QK hlc
    rw [hn] at QR RL
    rw [hn]
    clear hrow hlen hent hl' hcells hs hcn hn hLast hFst i1 i2 g1 g2 g3 g4 h1 h2 h3 hm hmx
    have HP := Lib.hid hL
    have HN := Lib.hid (HLM.out hL)
    clear hL
    generalize manC m v = mc at *
    generalize (lastOf l).id = lid at *
    generalize (fstOf l).fst = ff at *
    generalize m.gen = gen at *
    generalize m.next = next at *
    generalize m.now = mnow at *
    generalize m.floor = floor at *
    go_enter Try.func18, Try.ntmps18
    go_wp2_with (refine wpList_load_blk rfl 24 (.tmp 3) rfl rfl b1.out Try.underlying24 rfl MSC.out ?_; refine Held.go ?_)
    refine ⟨?_⟩
    go_wp2_with fail
    refine (QC.out _ RM.out).mono ?_
    rintro _ w1 ⟨rfl, x1⟩
    have Z1 := Lib.hid (BZ.out.ext x1)
    have X1 := Lib.hid (X0.out.trans x1)
    have B1 := Lib.hid (b1.out.ext x1)
    have RL1 := Lib.hid (RL.out.ext x1)
    clear x1
    go_wp2_with fail
    refine (QR.out _ RL1.out).mono ?_
    rintro _ w2 ⟨rfl, x2⟩
    have Z2 := Lib.hid (Z1.out.ext x2)
    have X2 := Lib.hid (X1.out.trans x2)
    have B2 := Lib.hid (B1.out.ext x2)
    have RL2 := Lib.hid (RL1.out.ext x2)
    clear x2
    go_upto_region 6 with fail
    go_cut [9] (fun s9 wx => ∃ (g9 : Nat) (av : Option Addr) (cv : Nat), s9 = .pointer (some ⟨g9, 0, none⟩) ∧ Blk wx g9 24 #[.int .i64 (gen + 1), .int .i64 mx, .int .i64 now, .int .i64 ff, .slice av l.length cv] ∧ EW wx w2.heap.size (.slice av l.length cv) l ∧ Ext w2 wx)
    case first =>
      have e0 := up_cell (W := w2.drew) ((B2.out.cell 0).trans C0.out)
      have e1 := up_cell (W := w2.drew) ((B2.out.cell 1).trans C1.out)
      have rl0 := (rangeAt_ext RA.out X2.out) 0 _ E0.out
      have rf2 := (rangeAt_ext RF.out X2.out) 2 _ E2.out
      simp only [Nat.zero_mul, Nat.add_zero] at rl0 rf2
      have el := up_cell (W := w2.drew) rl0
      have ef := up_cell (W := w2.drew) rf2
      have hmx := hmax.out
      have ewn : IntKind.i64.wrap (n : Int) = (n : Int) := by rw [IntKind.wrap_i64]; omega
      have k0n : (0 : Int) ≤ (n : Int) := by omega
      have kn : (n : Int) < (n : Int) + 1 := by omega
      have kz : (0 : Int) < (n : Int) + 1 := by omega
      clear rl0 rf2
      refine wp_region_lex 26 rfl (by kernel_rfl) ?_
      iterate 22
        (refine lex_want (by kernel_rfl) (by kernel_rfl) (by kernel_rfl) (by kernel_rfl) (fun _ _ _ _ h => h) (by kernel_rfl) (fun K hK => ?_)
         go_simp
         (refine hK _ ?_; clear hK K))
      clear e0 e1 el ef hmx
      refine lex_fork 22 24 (by kernel_rfl) rfl rfl (by kernel_rfl) (by kernel_rfl) (fun xa K hK => ?_) (fun xa K hK => ?_)
      · go_simp
        refine (QK.out _ (RL2.out.ext (Ext.trans (Ext.refl w2).drew xa.ext))).mono ?_
        rintro _ w3 ⟨vc, rfl, x3, hvc⟩
        obtain ⟨av, cv, rfl, _, _⟩ := hvc.shape entC_length
        refine hK.out _ _ x3 ?_
        have y3 := Ext.trans (Ext.trans (Ext.refl w2).drew xa.ext) x3
        have HVC := Lib.hid (hvc.mono (Ext.trans (Ext.refl w2).drew xa.ext).le)
        have Y3 := Lib.hid y3
        clear hK K x3 y3 hvc
        refine out_done ?_
        refine out_want (by kernel_rfl) (by kernel_rfl) (by kernel_rfl) (fun _ _ _ _ h => h) (by kernel_rfl) (fun K hK => ?_)
        go_simp
        refine hK _ ?_
        clear hK K
        refine out_only (by kernel_rfl) (by kernel_rfl) (fun xu K hK => ?_)
        go_simp
        refine hK.out _ _ ((Ext.refl _).alloc _) ?_
        clear hK K
        refine out_lex (n := 26) (by kernel_rfl) ?_
        refine lex_last (by kernel_rfl) (by kernel_rfl) (by kernel_rfl) (by kernel_rfl) (by kernel_rfl) (fun xv K hK => ?_)
        have be := (Blk.new xu.val 24 #[.int .i64 0, .int .i64 0, .int .i64 0, .int .i64 0, .slice none 0 0]).ext xv.ext
        refine wp_store_blk 24 (.tmp 9) (.tmp 44) rfl rfl (cs' := #[.int .i64 (gen + 1), .int .i64 mx, .int .i64 now, .int .i64 ff, .slice av l.length cv]) rfl be rfl MS.out (by kernel_rfl) (hK _ _ (fun y => ?_))
        dsimp only [Act.put]
        have B9 := (be.setRow #[.int .i64 (gen + 1), .int .i64 mx, .int .i64 now, .int .i64 ff, .slice av l.length cv]).ext y.ext
        have hE : w3.heap.size ≤ xu.val.heap.size := xu.ext.le
        have y9 : Ext w3 y.val := Ext.trans (Ext.setRow ((xu.ext.alloc _).trans xv.ext) hE _) y.ext
        go_wp2_with fail
        go_meet
        exact ⟨_, av, cv, rfl, B9, HVC.out.ext y9, Y3.out.trans y9⟩
      · go_simp
        refine hK.out _ _ ((Ext.refl _).alloc _) ?_
        clear hK K
        refine out_only (by kernel_rfl) (by kernel_rfl) (fun xb K hK => ?_)
        go_simp
        have y2 := Ext.trans (((Ext.refl w2).drew.trans xa.ext).alloc (.cells #[.int .i64 0, .int .i64 0, .int .i64 0, .int .i64 0, .slice none 0 0] 24)) xb.ext
        have be := (Blk.new xa.val 24 #[.int .i64 0, .int .i64 0, .int .i64 0, .int .i64 0, .slice none 0 0]).ext xb.ext
        refine (QK.out _ (RL2.out.ext y2)).mono ?_
        rintro _ w3 ⟨vc, rfl, x3, hvc⟩
        obtain ⟨av, cv, rfl, _, _⟩ := hvc.shape entC_length
        refine hK.out _ _ x3 ?_
        have HVC := Lib.hid hvc
        have Y3 := Lib.hid (y2.trans x3)
        have BE := Lib.hid (be.ext x3)
        have HGE := Lib.hid (show xa.val.heap.size < xb.val.heap.size from be.lt)
        have HW2 := Lib.hid (show w2.heap.size ≤ xa.val.heap.size from xa.ext.le)
        have HWB := Lib.hid (show w2.heap.size ≤ xb.val.heap.size from y2.le)
        clear hK K x3 hvc y2 be
        refine out_want (by kernel_rfl) (by kernel_rfl) (by kernel_rfl) (fun _ _ _ _ h => h) (by kernel_rfl) (fun K hK => ?_)
        go_simp
        refine hK _ ?_
        clear hK K
        refine out_done ?_
        refine out_lex (n := 26) (by kernel_rfl) ?_
        refine lex_last (by kernel_rfl) (by kernel_rfl) (by kernel_rfl) (by kernel_rfl) (by kernel_rfl) (fun xv K hK => ?_)
        refine wp_store_blk 24 (.tmp 9) (.tmp 44) rfl rfl (cs' := #[.int .i64 (gen + 1), .int .i64 mx, .int .i64 now, .int .i64 ff, .slice av l.length cv]) rfl (BE.out.ext xv.ext) rfl MS.out (by kernel_rfl) (hK _ _ (fun y => ?_))
        dsimp only [Act.put]
        have B9 := (((BE.out.ext xv.ext).setRow #[.int .i64 (gen + 1), .int .i64 mx, .int .i64 now, .int .i64 ff, .slice av l.length cv])).ext y.ext
        have r9 : EW (xv.val.setRow xa.val.heap.size #[.int .i64 (gen + 1), .int .i64 mx, .int .i64 now, .int .i64 ff, .slice av l.length cv]) xb.val.heap.size (.slice av l.length cv) l := World.ownsRow.kept (HVC.out.ext xv.ext) (grownBy_setRow _ _ _) (by
          cases hv : (Value.slice av l.length cv).ownBlock with
          | none => exact .inl rfl
          | some k => exact .inr (by have := (World.ownsRow.lt HVC.out k hv).1; have := HGE.out; simp; omega))
        have y9 : Ext w2 y.val := Ext.trans (Ext.setRow (Y3.out.trans xv.ext) HW2.out _) y.ext
        go_wp2_with fail
        go_meet
        exact ⟨_, av, cv, rfl, B9, (r9.ext y.ext).mono HWB.out, y9⟩
    case rest =>
      obtain ⟨g9, av, cv, rfl, b9, hvc, y9⟩ := hcut
      have B9 := Lib.hid b9
      have R9 := Lib.hid hvc
      have Y9 := Lib.hid y9
      clear b9 hvc y9
      generalize wc = w4 at *
      have X4 := Lib.hid (X2.out.trans Y9.out)
      have Z4 := Lib.hid (Z2.out.ext Y9.out)
      have B4 := Lib.hid (B2.out.ext Y9.out)
      have QN := Lib.hid (QN.out _ _ (WR.rr entC_length R9.out))
      simp only [errI, Bool.false_eq_true, if_false, if_true] at QN
      go_wp2_with (refine wpList_load_blk rfl 24 (.tmp 9) rfl rfl B9.out Try.underlying24 rfl MS.out ?_; refine Held.go ?_)
      refine ⟨?_⟩
      go_wp2_with fail
      refine QN.out.mono ?_
      rintro _ w5 ⟨rfl, x5⟩
      have Z5 := Lib.hid (Z4.out.ext x5)
      have X5 := Lib.hid (X4.out.trans x5)
      have B95 := Lib.hid (B9.out.ext x5)
      have B5 := Lib.hid (B4.out.ext x5)
      have R95 := Lib.hid (R9.out.ext x5)
      have c2 := (B5.out.cell 2).trans C2.out
      have c3 := (B5.out.cell 3).trans C3.out
      have d3 := B95.out.cell 3
      simp only [List.getElem?_toArray, List.getElem?_cons_succ, List.getElem?_cons_zero] at d3
      clear x5
      go_wp2_with (refine wpList_store_blk rfl 24 (.tmp 6) (.tmp 62) rfl rfl rfl Z5.out rfl MS.out (by kernel_rfl) ?_)
      exact bodyPost_ret (results_row_tmp rfl _ _ (w.heap.size + 1) _ _ (0, 0) _ rfl (Z5.out.setRow #[.int .i64 0, .int .i64 0, .int .i64 0, .int .i64 0, .slice none 0 0]) Try.underlying24 rfl MS.out) rfl ⟨.slice none 0 0, by rw [HN.out, HP.out]; rfl, X5.out.setRow (Nat.le_succ _) _, by rw [HN.out]; exact RR.nil _⟩
  · have hrow := h2
    have hlen := rowP_len h2
    have hgm := (mani_row h1).1
    obtain ⟨g1, g2, g3, g4⟩ := hgm
    have hent := row_ent h2 (i := l.length - 1) (by omega)
    rw [h1] at QC
    rw [h2] at QR
    simp only [errI, if_true] at QC QR
    obtain ⟨n, hn⟩ : ∃ n : Nat, l.length = n + 1 := ⟨l.length - 1, by omega⟩
    have hl' := hl
    obtain ⟨a, c, rfl, hlc, hcn, hs⟩ := hl
    obtain ⟨gl, o, rfl, hcells⟩ := hs (by omega)
    have RA := Lib.hid (hcells n _ (ent_at (by omega)))
    have RF := Lib.hid (hcells 0 _ (ent_at (by omega)))
    have QK := Lib.hid (fun w h => clone_any l (.slice (some ⟨gl, o, none⟩) l.length c) w h (by omega) (by omega))
    have hh : headD (lastOf l).id (lastOf l).gen (lastOf l).fst := by
      have hent : entP (lastOf l) = true := hent
      unfold entP at hent
      rw [Bool.and_eq_true] at hent
      simpa [headP] using hent.1
    obtain ⟨⟨i1, i2⟩, -, -⟩ := hh
    have hLast : l.getD n default = lastOf l := by unfold lastOf; rw [show l.length - 1 = n by omega]
    have hFst : l.getD 0 default = fstOf l := rfl
    have E0 := Lib.hid (show (entC (l.getD n default))[0]? = some (.int .i64 (lastOf l).id) by rw [hLast]; rfl)
    have E2 := Lib.hid (show (entC (l.getD 0 default))[2]? = some (.int .i64 (fstOf l).fst) from rfl)
    have HCN := Lib.hid (show ∀ u, manC (lat m now l) u = #[.int .i64 (m.gen + 1), .int .i64 (max m.next ((lastOf l).id + 1)), .int .i64 now, .int .i64 (fstOf l).fst, u] from fun u => rfl)
    have QN := Lib.hid (fun u w (h : RR entC 9 w u l) => (show Calls Try.prog 15 #[.agg #[.int .i64 (m.gen + 1), .int .i64 (max m.next ((lastOf l).id + 1)), .int .i64 now, .int .i64 (fstOf l).fst, u]] w fun r w' => r = .returned (.int .i64 (errI (maniP (lat m now l)) 250)) ∧ Ext w w' from mCheck_any (lat m now l) u w h))
    have C0 := Lib.hid (show (manC m v)[0]? = some (.int .i64 m.gen) from rfl)
    have C1 := Lib.hid (show (manC m v)[1]? = some (.int .i64 m.next) from rfl)
    have C2 := Lib.hid (show (manC m v)[2]? = some (.int .i64 m.now) from rfl)
    have C3 := Lib.hid (show (manC m v)[3]? = some (.int .i64 m.floor) from rfl)
    have HENTS := Lib.hid (show (lat m now l).ents = l from rfl)
    have ewg : IntKind.i64.wrap (m.gen + 1) = m.gen + 1 := by rw [IntKind.wrap_i64]; omega
    have ewl : IntKind.i64.wrap ((lastOf l).id + 1) = (lastOf l).id + 1 := by rw [IntKind.wrap_i64]; omega
    obtain ⟨mx, hmx⟩ : ∃ mx, mx = max m.next ((lastOf l).id + 1) := ⟨_, rfl⟩
    have hmax := Lib.hid (fun w => max2_run m.next ((lastOf l).id + 1) mx hmx w)
    rw [← hmx] at HCN QN
    have hb100 : (n : Int) + 1 ≤ 100 := by omega
    rw [h3] at QN
    rw [hn] at QK hlc
    rw [hn] at QR RL
    rw [hn]
    clear hrow hlen hent hl' hcells hs hcn hn hLast hFst i1 i2 g1 g2 g3 g4 h1 h2 h3 hm hmx
    have HP := Lib.hid hL
    have HN := Lib.hid (HLM.out hL)
    clear hL
    generalize manC m v = mc at *
    generalize (lastOf l).id = lid at *
    generalize (fstOf l).fst = ff at *
    generalize m.gen = gen at *
    generalize m.next = next at *
    generalize m.now = mnow at *
    generalize m.floor = floor at *
    go_enter Try.func18, Try.ntmps18
    go_wp2_with (refine wpList_load_blk rfl 24 (.tmp 3) rfl rfl b1.out Try.underlying24 rfl MSC.out ?_; refine Held.go ?_)
    refine ⟨?_⟩
    go_wp2_with fail
    refine (QC.out _ RM.out).mono ?_
    rintro _ w1 ⟨rfl, x1⟩
    have Z1 := Lib.hid (BZ.out.ext x1)
    have X1 := Lib.hid (X0.out.trans x1)
    have B1 := Lib.hid (b1.out.ext x1)
    have RL1 := Lib.hid (RL.out.ext x1)
    clear x1
    go_wp2_with fail
    refine (QR.out _ RL1.out).mono ?_
    rintro _ w2 ⟨rfl, x2⟩
    have Z2 := Lib.hid (Z1.out.ext x2)
    have X2 := Lib.hid (X1.out.trans x2)
    have B2 := Lib.hid (B1.out.ext x2)
    have RL2 := Lib.hid (RL1.out.ext x2)
    clear x2
    go_upto_region 6 with fail
    go_cut [9] (fun s9 wx => ∃ (g9 : Nat) (av : Option Addr) (cv : Nat), s9 = .pointer (some ⟨g9, 0, none⟩) ∧ Blk wx g9 24 #[.int .i64 (gen + 1), .int .i64 mx, .int .i64 now, .int .i64 ff, .slice av l.length cv] ∧ EW wx w2.heap.size (.slice av l.length cv) l ∧ Ext w2 wx)
    case first =>
      have e0 := up_cell (W := w2.drew) ((B2.out.cell 0).trans C0.out)
      have e1 := up_cell (W := w2.drew) ((B2.out.cell 1).trans C1.out)
      have rl0 := (rangeAt_ext RA.out X2.out) 0 _ E0.out
      have rf2 := (rangeAt_ext RF.out X2.out) 2 _ E2.out
      simp only [Nat.zero_mul, Nat.add_zero] at rl0 rf2
      have el := up_cell (W := w2.drew) rl0
      have ef := up_cell (W := w2.drew) rf2
      have hmx := hmax.out
      have ewn : IntKind.i64.wrap (n : Int) = (n : Int) := by rw [IntKind.wrap_i64]; omega
      have k0n : (0 : Int) ≤ (n : Int) := by omega
      have kn : (n : Int) < (n : Int) + 1 := by omega
      have kz : (0 : Int) < (n : Int) + 1 := by omega
      clear rl0 rf2
      refine wp_region_lex 26 rfl (by kernel_rfl) ?_
      iterate 22
        (refine lex_want (by kernel_rfl) (by kernel_rfl) (by kernel_rfl) (by kernel_rfl) (fun _ _ _ _ h => h) (by kernel_rfl) (fun K hK => ?_)
         go_simp
         (refine hK _ ?_; clear hK K))
      clear e0 e1 el ef hmx
      refine lex_fork 22 24 (by kernel_rfl) rfl rfl (by kernel_rfl) (by kernel_rfl) (fun xa K hK => ?_) (fun xa K hK => ?_)
      · go_simp
        refine (QK.out _ (RL2.out.ext (Ext.trans (Ext.refl w2).drew xa.ext))).mono ?_
        rintro _ w3 ⟨vc, rfl, x3, hvc⟩
        obtain ⟨av, cv, rfl, _, _⟩ := hvc.shape entC_length
        refine hK.out _ _ x3 ?_
        have y3 := Ext.trans (Ext.trans (Ext.refl w2).drew xa.ext) x3
        have HVC := Lib.hid (hvc.mono (Ext.trans (Ext.refl w2).drew xa.ext).le)
        have Y3 := Lib.hid y3
        clear hK K x3 y3 hvc
        refine out_done ?_
        refine out_want (by kernel_rfl) (by kernel_rfl) (by kernel_rfl) (fun _ _ _ _ h => h) (by kernel_rfl) (fun K hK => ?_)
        go_simp
        refine hK _ ?_
        clear hK K
        refine out_only (by kernel_rfl) (by kernel_rfl) (fun xu K hK => ?_)
        go_simp
        refine hK.out _ _ ((Ext.refl _).alloc _) ?_
        clear hK K
        refine out_lex (n := 26) (by kernel_rfl) ?_
        refine lex_last (by kernel_rfl) (by kernel_rfl) (by kernel_rfl) (by kernel_rfl) (by kernel_rfl) (fun xv K hK => ?_)
        have be := (Blk.new xu.val 24 #[.int .i64 0, .int .i64 0, .int .i64 0, .int .i64 0, .slice none 0 0]).ext xv.ext
        refine wp_store_blk 24 (.tmp 9) (.tmp 44) rfl rfl (cs' := #[.int .i64 (gen + 1), .int .i64 mx, .int .i64 now, .int .i64 ff, .slice av l.length cv]) rfl be rfl MS.out (by kernel_rfl) (hK _ _ (fun y => ?_))
        dsimp only [Act.put]
        have B9 := (be.setRow #[.int .i64 (gen + 1), .int .i64 mx, .int .i64 now, .int .i64 ff, .slice av l.length cv]).ext y.ext
        have hE : w3.heap.size ≤ xu.val.heap.size := xu.ext.le
        have y9 : Ext w3 y.val := Ext.trans (Ext.setRow ((xu.ext.alloc _).trans xv.ext) hE _) y.ext
        go_wp2_with fail
        go_meet
        exact ⟨_, av, cv, rfl, B9, HVC.out.ext y9, Y3.out.trans y9⟩
      · go_simp
        refine hK.out _ _ ((Ext.refl _).alloc _) ?_
        clear hK K
        refine out_only (by kernel_rfl) (by kernel_rfl) (fun xb K hK => ?_)
        go_simp
        have y2 := Ext.trans (((Ext.refl w2).drew.trans xa.ext).alloc (.cells #[.int .i64 0, .int .i64 0, .int .i64 0, .int .i64 0, .slice none 0 0] 24)) xb.ext
        have be := (Blk.new xa.val 24 #[.int .i64 0, .int .i64 0, .int .i64 0, .int .i64 0, .slice none 0 0]).ext xb.ext
        refine (QK.out _ (RL2.out.ext y2)).mono ?_
        rintro _ w3 ⟨vc, rfl, x3, hvc⟩
        obtain ⟨av, cv, rfl, _, _⟩ := hvc.shape entC_length
        refine hK.out _ _ x3 ?_
        have HVC := Lib.hid hvc
        have Y3 := Lib.hid (y2.trans x3)
        have BE := Lib.hid (be.ext x3)
        have HGE := Lib.hid (show xa.val.heap.size < xb.val.heap.size from be.lt)
        have HW2 := Lib.hid (show w2.heap.size ≤ xa.val.heap.size from xa.ext.le)
        have HWB := Lib.hid (show w2.heap.size ≤ xb.val.heap.size from y2.le)
        clear hK K x3 hvc y2 be
        refine out_want (by kernel_rfl) (by kernel_rfl) (by kernel_rfl) (fun _ _ _ _ h => h) (by kernel_rfl) (fun K hK => ?_)
        go_simp
        refine hK _ ?_
        clear hK K
        refine out_done ?_
        refine out_lex (n := 26) (by kernel_rfl) ?_
        refine lex_last (by kernel_rfl) (by kernel_rfl) (by kernel_rfl) (by kernel_rfl) (by kernel_rfl) (fun xv K hK => ?_)
        refine wp_store_blk 24 (.tmp 9) (.tmp 44) rfl rfl (cs' := #[.int .i64 (gen + 1), .int .i64 mx, .int .i64 now, .int .i64 ff, .slice av l.length cv]) rfl (BE.out.ext xv.ext) rfl MS.out (by kernel_rfl) (hK _ _ (fun y => ?_))
        dsimp only [Act.put]
        have B9 := (((BE.out.ext xv.ext).setRow #[.int .i64 (gen + 1), .int .i64 mx, .int .i64 now, .int .i64 ff, .slice av l.length cv])).ext y.ext
        have r9 : EW (xv.val.setRow xa.val.heap.size #[.int .i64 (gen + 1), .int .i64 mx, .int .i64 now, .int .i64 ff, .slice av l.length cv]) xb.val.heap.size (.slice av l.length cv) l := World.ownsRow.kept (HVC.out.ext xv.ext) (grownBy_setRow _ _ _) (by
          cases hv : (Value.slice av l.length cv).ownBlock with
          | none => exact .inl rfl
          | some k => exact .inr (by have := (World.ownsRow.lt HVC.out k hv).1; have := HGE.out; simp; omega))
        have y9 : Ext w2 y.val := Ext.trans (Ext.setRow (Y3.out.trans xv.ext) HW2.out _) y.ext
        go_wp2_with fail
        go_meet
        exact ⟨_, av, cv, rfl, B9, (r9.ext y.ext).mono HWB.out, y9⟩
    case rest =>
      obtain ⟨g9, av, cv, rfl, b9, hvc, y9⟩ := hcut
      have B9 := Lib.hid b9
      have R9 := Lib.hid hvc
      have Y9 := Lib.hid y9
      clear b9 hvc y9
      generalize wc = w4 at *
      have X4 := Lib.hid (X2.out.trans Y9.out)
      have Z4 := Lib.hid (Z2.out.ext Y9.out)
      have B4 := Lib.hid (B2.out.ext Y9.out)
      have QN := Lib.hid (QN.out _ _ (WR.rr entC_length R9.out))
      simp only [errI, Bool.false_eq_true, if_false, if_true] at QN
      go_wp2_with (refine wpList_load_blk rfl 24 (.tmp 9) rfl rfl B9.out Try.underlying24 rfl MS.out ?_; refine Held.go ?_)
      refine ⟨?_⟩
      go_wp2_with fail
      refine QN.out.mono ?_
      rintro _ w5 ⟨rfl, x5⟩
      have Z5 := Lib.hid (Z4.out.ext x5)
      have X5 := Lib.hid (X4.out.trans x5)
      have B95 := Lib.hid (B9.out.ext x5)
      have B5 := Lib.hid (B4.out.ext x5)
      have R95 := Lib.hid (R9.out.ext x5)
      have c2 := (B5.out.cell 2).trans C2.out
      have c3 := (B5.out.cell 3).trans C3.out
      have d3 := B95.out.cell 3
      simp only [List.getElem?_toArray, List.getElem?_cons_succ, List.getElem?_cons_zero] at d3
      clear x5
      go_wp2_with (refine wpList_store_blk rfl 24 (.tmp 6) (.tmp 62) rfl rfl rfl Z5.out rfl MS.out (by kernel_rfl) ?_)
      exact bodyPost_ret (results_row_tmp rfl _ _ (w.heap.size + 1) _ _ (0, 0) _ rfl (Z5.out.setRow #[.int .i64 0, .int .i64 0, .int .i64 0, .int .i64 0, .slice none 0 0]) Try.underlying24 rfl MS.out) rfl ⟨.slice none 0 0, by rw [HN.out, HP.out]; rfl, X5.out.setRow (Nat.le_succ _) _, by rw [HN.out]; exact RR.nil _⟩
  · have hrow := h2
    have hlen := rowP_len h2
    have hgm := (mani_row h1).1
    obtain ⟨g1, g2, g3, g4⟩ := hgm
    have hent := row_ent h2 (i := l.length - 1) (by omega)
    rw [h1] at QC
    rw [h2] at QR
    simp only [errI, if_true] at QC QR
    obtain ⟨n, hn⟩ : ∃ n : Nat, l.length = n + 1 := ⟨l.length - 1, by omega⟩
    have hl' := hl
    obtain ⟨a, c, rfl, hlc, hcn, hs⟩ := hl
    obtain ⟨gl, o, rfl, hcells⟩ := hs (by omega)
    have RA := Lib.hid (hcells n _ (ent_at (by omega)))
    have RF := Lib.hid (hcells 0 _ (ent_at (by omega)))
    have QK := Lib.hid (fun w h => clone_any l (.slice (some ⟨gl, o, none⟩) l.length c) w h (by omega) (by omega))
    have hh : headD (lastOf l).id (lastOf l).gen (lastOf l).fst := by
      have hent : entP (lastOf l) = true := hent
      unfold entP at hent
      rw [Bool.and_eq_true] at hent
      simpa [headP] using hent.1
    obtain ⟨⟨i1, i2⟩, -, -⟩ := hh
    have hLast : l.getD n default = lastOf l := by unfold lastOf; rw [show l.length - 1 = n by omega]
    have hFst : l.getD 0 default = fstOf l := rfl
    have E0 := Lib.hid (show (entC (l.getD n default))[0]? = some (.int .i64 (lastOf l).id) by rw [hLast]; rfl)
    have E2 := Lib.hid (show (entC (l.getD 0 default))[2]? = some (.int .i64 (fstOf l).fst) from rfl)
    have HCN := Lib.hid (show ∀ u, manC (lat m now l) u = #[.int .i64 (m.gen + 1), .int .i64 (max m.next ((lastOf l).id + 1)), .int .i64 now, .int .i64 (fstOf l).fst, u] from fun u => rfl)
    have QN := Lib.hid (fun u w (h : RR entC 9 w u l) => (show Calls Try.prog 15 #[.agg #[.int .i64 (m.gen + 1), .int .i64 (max m.next ((lastOf l).id + 1)), .int .i64 now, .int .i64 (fstOf l).fst, u]] w fun r w' => r = .returned (.int .i64 (errI (maniP (lat m now l)) 250)) ∧ Ext w w' from mCheck_any (lat m now l) u w h))
    have C0 := Lib.hid (show (manC m v)[0]? = some (.int .i64 m.gen) from rfl)
    have C1 := Lib.hid (show (manC m v)[1]? = some (.int .i64 m.next) from rfl)
    have C2 := Lib.hid (show (manC m v)[2]? = some (.int .i64 m.now) from rfl)
    have C3 := Lib.hid (show (manC m v)[3]? = some (.int .i64 m.floor) from rfl)
    have HENTS := Lib.hid (show (lat m now l).ents = l from rfl)
    have ewg : IntKind.i64.wrap (m.gen + 1) = m.gen + 1 := by rw [IntKind.wrap_i64]; omega
    have ewl : IntKind.i64.wrap ((lastOf l).id + 1) = (lastOf l).id + 1 := by rw [IntKind.wrap_i64]; omega
    obtain ⟨mx, hmx⟩ : ∃ mx, mx = max m.next ((lastOf l).id + 1) := ⟨_, rfl⟩
    have hmax := Lib.hid (fun w => max2_run m.next ((lastOf l).id + 1) mx hmx w)
    rw [← hmx] at HCN QN
    have hb100 : (n : Int) + 1 ≤ 100 := by omega
    rw [h3] at QN
    rw [hn] at QK hlc
    rw [hn] at QR RL
    rw [hn]
    clear hrow hlen hent hl' hcells hs hcn hn hLast hFst i1 i2 g1 g2 g3 g4 h1 h2 h3 hm hmx
    have HP := Lib.hid hL
    have HN := Lib.hid (HLT.out hL)
    clear hL
    generalize manC m v = mc at *
    generalize (lastOf l).id = lid at *
    generalize (fstOf l).fst = ff at *
    generalize m.gen = gen at *
    generalize m.next = next at *
    generalize m.now = mnow at *
    generalize m.floor = floor at *
    go_enter Try.func18, Try.ntmps18
    go_wp2_with (refine wpList_load_blk rfl 24 (.tmp 3) rfl rfl b1.out Try.underlying24 rfl MSC.out ?_; refine Held.go ?_)
    refine ⟨?_⟩
    go_wp2_with fail
    refine (QC.out _ RM.out).mono ?_
    rintro _ w1 ⟨rfl, x1⟩
    have Z1 := Lib.hid (BZ.out.ext x1)
    have X1 := Lib.hid (X0.out.trans x1)
    have B1 := Lib.hid (b1.out.ext x1)
    have RL1 := Lib.hid (RL.out.ext x1)
    clear x1
    go_wp2_with fail
    refine (QR.out _ RL1.out).mono ?_
    rintro _ w2 ⟨rfl, x2⟩
    have Z2 := Lib.hid (Z1.out.ext x2)
    have X2 := Lib.hid (X1.out.trans x2)
    have B2 := Lib.hid (B1.out.ext x2)
    have RL2 := Lib.hid (RL1.out.ext x2)
    clear x2
    go_upto_region 6 with fail
    go_cut [9] (fun s9 wx => ∃ (g9 : Nat) (av : Option Addr) (cv : Nat), s9 = .pointer (some ⟨g9, 0, none⟩) ∧ Blk wx g9 24 #[.int .i64 (gen + 1), .int .i64 mx, .int .i64 now, .int .i64 ff, .slice av l.length cv] ∧ EW wx w2.heap.size (.slice av l.length cv) l ∧ Ext w2 wx)
    case first =>
      have e0 := up_cell (W := w2.drew) ((B2.out.cell 0).trans C0.out)
      have e1 := up_cell (W := w2.drew) ((B2.out.cell 1).trans C1.out)
      have rl0 := (rangeAt_ext RA.out X2.out) 0 _ E0.out
      have rf2 := (rangeAt_ext RF.out X2.out) 2 _ E2.out
      simp only [Nat.zero_mul, Nat.add_zero] at rl0 rf2
      have el := up_cell (W := w2.drew) rl0
      have ef := up_cell (W := w2.drew) rf2
      have hmx := hmax.out
      have ewn : IntKind.i64.wrap (n : Int) = (n : Int) := by rw [IntKind.wrap_i64]; omega
      have k0n : (0 : Int) ≤ (n : Int) := by omega
      have kn : (n : Int) < (n : Int) + 1 := by omega
      have kz : (0 : Int) < (n : Int) + 1 := by omega
      clear rl0 rf2
      refine wp_region_lex 26 rfl (by kernel_rfl) ?_
      iterate 22
        (refine lex_want (by kernel_rfl) (by kernel_rfl) (by kernel_rfl) (by kernel_rfl) (fun _ _ _ _ h => h) (by kernel_rfl) (fun K hK => ?_)
         go_simp
         (refine hK _ ?_; clear hK K))
      clear e0 e1 el ef hmx
      refine lex_fork 22 24 (by kernel_rfl) rfl rfl (by kernel_rfl) (by kernel_rfl) (fun xa K hK => ?_) (fun xa K hK => ?_)
      · go_simp
        refine (QK.out _ (RL2.out.ext (Ext.trans (Ext.refl w2).drew xa.ext))).mono ?_
        rintro _ w3 ⟨vc, rfl, x3, hvc⟩
        obtain ⟨av, cv, rfl, _, _⟩ := hvc.shape entC_length
        refine hK.out _ _ x3 ?_
        have y3 := Ext.trans (Ext.trans (Ext.refl w2).drew xa.ext) x3
        have HVC := Lib.hid (hvc.mono (Ext.trans (Ext.refl w2).drew xa.ext).le)
        have Y3 := Lib.hid y3
        clear hK K x3 y3 hvc
        refine out_done ?_
        refine out_want (by kernel_rfl) (by kernel_rfl) (by kernel_rfl) (fun _ _ _ _ h => h) (by kernel_rfl) (fun K hK => ?_)
        go_simp
        refine hK _ ?_
        clear hK K
        refine out_only (by kernel_rfl) (by kernel_rfl) (fun xu K hK => ?_)
        go_simp
        refine hK.out _ _ ((Ext.refl _).alloc _) ?_
        clear hK K
        refine out_lex (n := 26) (by kernel_rfl) ?_
        refine lex_last (by kernel_rfl) (by kernel_rfl) (by kernel_rfl) (by kernel_rfl) (by kernel_rfl) (fun xv K hK => ?_)
        have be := (Blk.new xu.val 24 #[.int .i64 0, .int .i64 0, .int .i64 0, .int .i64 0, .slice none 0 0]).ext xv.ext
        refine wp_store_blk 24 (.tmp 9) (.tmp 44) rfl rfl (cs' := #[.int .i64 (gen + 1), .int .i64 mx, .int .i64 now, .int .i64 ff, .slice av l.length cv]) rfl be rfl MS.out (by kernel_rfl) (hK _ _ (fun y => ?_))
        dsimp only [Act.put]
        have B9 := (be.setRow #[.int .i64 (gen + 1), .int .i64 mx, .int .i64 now, .int .i64 ff, .slice av l.length cv]).ext y.ext
        have hE : w3.heap.size ≤ xu.val.heap.size := xu.ext.le
        have y9 : Ext w3 y.val := Ext.trans (Ext.setRow ((xu.ext.alloc _).trans xv.ext) hE _) y.ext
        go_wp2_with fail
        go_meet
        exact ⟨_, av, cv, rfl, B9, HVC.out.ext y9, Y3.out.trans y9⟩
      · go_simp
        refine hK.out _ _ ((Ext.refl _).alloc _) ?_
        clear hK K
        refine out_only (by kernel_rfl) (by kernel_rfl) (fun xb K hK => ?_)
        go_simp
        have y2 := Ext.trans (((Ext.refl w2).drew.trans xa.ext).alloc (.cells #[.int .i64 0, .int .i64 0, .int .i64 0, .int .i64 0, .slice none 0 0] 24)) xb.ext
        have be := (Blk.new xa.val 24 #[.int .i64 0, .int .i64 0, .int .i64 0, .int .i64 0, .slice none 0 0]).ext xb.ext
        refine (QK.out _ (RL2.out.ext y2)).mono ?_
        rintro _ w3 ⟨vc, rfl, x3, hvc⟩
        obtain ⟨av, cv, rfl, _, _⟩ := hvc.shape entC_length
        refine hK.out _ _ x3 ?_
        have HVC := Lib.hid hvc
        have Y3 := Lib.hid (y2.trans x3)
        have BE := Lib.hid (be.ext x3)
        have HGE := Lib.hid (show xa.val.heap.size < xb.val.heap.size from be.lt)
        have HW2 := Lib.hid (show w2.heap.size ≤ xa.val.heap.size from xa.ext.le)
        have HWB := Lib.hid (show w2.heap.size ≤ xb.val.heap.size from y2.le)
        clear hK K x3 hvc y2 be
        refine out_want (by kernel_rfl) (by kernel_rfl) (by kernel_rfl) (fun _ _ _ _ h => h) (by kernel_rfl) (fun K hK => ?_)
        go_simp
        refine hK _ ?_
        clear hK K
        refine out_done ?_
        refine out_lex (n := 26) (by kernel_rfl) ?_
        refine lex_last (by kernel_rfl) (by kernel_rfl) (by kernel_rfl) (by kernel_rfl) (by kernel_rfl) (fun xv K hK => ?_)
        refine wp_store_blk 24 (.tmp 9) (.tmp 44) rfl rfl (cs' := #[.int .i64 (gen + 1), .int .i64 mx, .int .i64 now, .int .i64 ff, .slice av l.length cv]) rfl (BE.out.ext xv.ext) rfl MS.out (by kernel_rfl) (hK _ _ (fun y => ?_))
        dsimp only [Act.put]
        have B9 := (((BE.out.ext xv.ext).setRow #[.int .i64 (gen + 1), .int .i64 mx, .int .i64 now, .int .i64 ff, .slice av l.length cv])).ext y.ext
        have r9 : EW (xv.val.setRow xa.val.heap.size #[.int .i64 (gen + 1), .int .i64 mx, .int .i64 now, .int .i64 ff, .slice av l.length cv]) xb.val.heap.size (.slice av l.length cv) l := World.ownsRow.kept (HVC.out.ext xv.ext) (grownBy_setRow _ _ _) (by
          cases hv : (Value.slice av l.length cv).ownBlock with
          | none => exact .inl rfl
          | some k => exact .inr (by have := (World.ownsRow.lt HVC.out k hv).1; have := HGE.out; simp; omega))
        have y9 : Ext w2 y.val := Ext.trans (Ext.setRow (Y3.out.trans xv.ext) HW2.out _) y.ext
        go_wp2_with fail
        go_meet
        exact ⟨_, av, cv, rfl, B9, (r9.ext y.ext).mono HWB.out, y9⟩
    case rest =>
      obtain ⟨g9, av, cv, rfl, b9, hvc, y9⟩ := hcut
      have B9 := Lib.hid b9
      have R9 := Lib.hid hvc
      have Y9 := Lib.hid y9
      clear b9 hvc y9
      generalize wc = w4 at *
      have X4 := Lib.hid (X2.out.trans Y9.out)
      have Z4 := Lib.hid (Z2.out.ext Y9.out)
      have B4 := Lib.hid (B2.out.ext Y9.out)
      have QN := Lib.hid (QN.out _ _ (WR.rr entC_length R9.out))
      simp only [errI, Bool.false_eq_true, if_false, if_true] at QN
      go_wp2_with (refine wpList_load_blk rfl 24 (.tmp 9) rfl rfl B9.out Try.underlying24 rfl MS.out ?_; refine Held.go ?_)
      refine ⟨?_⟩
      go_wp2_with fail
      refine QN.out.mono ?_
      rintro _ w5 ⟨rfl, x5⟩
      have Z5 := Lib.hid (Z4.out.ext x5)
      have X5 := Lib.hid (X4.out.trans x5)
      have B95 := Lib.hid (B9.out.ext x5)
      have B5 := Lib.hid (B4.out.ext x5)
      have R95 := Lib.hid (R9.out.ext x5)
      have c2 := (B5.out.cell 2).trans C2.out
      have c3 := (B5.out.cell 3).trans C3.out
      have d3 := B95.out.cell 3
      simp only [List.getElem?_toArray, List.getElem?_cons_succ, List.getElem?_cons_zero] at d3
      clear x5
      go_wp2_with (refine wpList_load_blk rfl 24 (.tmp 9) rfl rfl B95.out Try.underlying24 rfl MS.out ?_; refine Held.go ?_)
      refine ⟨?_⟩
      go_wp2_with (refine wpList_store_blk rfl 24 (.tmp 6) (.tmp 63) rfl rfl rfl Z5.out rfl MS.out (by kernel_rfl) ?_)
      refine bodyPost_ret (results_row_tmp rfl _ _ (w.heap.size + 1) _ _ (0, 0) _ rfl (Z5.out.setRow _) Try.underlying24 rfl MS.out) rfl ⟨.slice av l.length cv, by rw [HN.out, HP.out, HCN.out]; rfl, X5.out.setRow (Nat.le_succ _) _, ?_⟩
      rw [HN.out, HENTS.out]
      exact WR.rr entC_length (World.ownsRow.kept R95.out (grownBy_setRow _ _ _) (by
        cases hv : (Value.slice av l.length cv).ownBlock with
        | none => exact .inl rfl
        | some k => exact .inr (by have := (World.ownsRow.lt R95.out k hv).1; have := Z2.out.lt; simp; omega)))
end Go.Proofs.Ytcagcepbnkageaa
