/- varveref25.Later. (Printed by wip/tools/man.py.) -/
import Derived.Test.YtcagcepbnkageaaMaM
namespace Go.Proofs.Ytcagcepbnkageaa
set_option linter.unusedVariables false
set_option linter.unusedSimpArgs false
open Go.RowKit
attribute [local go_sem] man_zero man_build0 man_build5
theorem grown_setCell (w : World) (p : Addr) (u : Value) : w.grownBy (w.setCell p u) (some p.block) := ⟨rfl, rfl, rfl, by simp [World.setCell], fun k h1 h2 => Below.heap_setCell w p u k (fun e => h2 (by rw [e]))⟩
theorem ew_ne {w : World} {B : Nat} {v : Value} {l : List E9} {g : Nat} {a b c e : Value} {d : Int} (h : EW w B v l) (h0 : 0 < l.length) (hb : Blk w g 24 #[a, b, c, .int .i64 d, e]) : ∀ k, v.ownBlock = some k → k ≠ g := by
  obtain ⟨a', c', rfl, _, hs⟩ := WR.shape entC_length h
  obtain ⟨k', rfl, _, _, hc, _⟩ := hs h0
  intro k hk e'
  have hk' : k' = k := by simpa [Value.ownBlock] using hk
  subst hk'; subst e'
  have h1 := hc 0 _ (ent_at h0) 3 (.bool (l.getD 0 default).sld) rfl
  have h2 := hb.cell 3
  simp only [Nat.zero_mul, Nat.zero_add, List.getElem?_toArray, List.getElem?_cons_succ, List.getElem?_cons_zero] at h1 h2
  rw [h1] at h2
  injection h2 with h2
  cases h2
set_option maxRecDepth 20000 in
set_option maxHeartbeats 16000000 in
theorem rMLater_any (m : Man) (now : Int) (l : List E9) (v vl : Value) (w : World) (hm : RR entC 9 w v m.ents) (hl : RR entC 9 w vl l) :
    Calls Try.prog 19 #[.agg (manC m v), .int .i64 now, vl] w fun r w' => ∃ u, r = .returned (.tuple #[.agg (manC (laterM m now l) u), .int .i64 (errI (laterP m now l) 250)]) ∧ Ext w w' ∧ RR entC 9 w' u (laterM m now l).ents := by
  have MS := Lib.hid man_size
  have hcases := later_cases m now l
  have hLM : laterP m now l = false → laterM m now l = zM := fun h => by unfold laterM; rw [h]; rfl
  have hLT : laterP m now l = true → laterM m now l = lat m now l := fun h => by unfold laterM; rw [h]; rfl
  have X0 := Lib.hid (((Ext.refl w).alloc (.cells (manC m v) 24)).alloc (.cells #[.int .i64 0, .int .i64 0, .int .i64 0, .int .i64 0, .slice none 0 0] 24))
  have b1 := Lib.hid ((Blk.new w 24 (manC m v)).alloc (.cells #[.int .i64 0, .int .i64 0, .int .i64 0, .int .i64 0, .slice none 0 0] 24))
  have bz := Blk.new (w.alloc (.cells (manC m v) 24)) 24 #[.int .i64 0, .int .i64 0, .int .i64 0, .int .i64 0, .slice none 0 0]
  rw [World.size_alloc] at bz
  have BZ := Lib.hid bz
  have QC := Lib.hid (fun w h => rMCheck_any m v w h)
  have QR := Lib.hid (fun w h => rRow_any l vl w h)
  have RM := Lib.hid (hm.ext X0.out)
  have RL := Lib.hid (hl.ext X0.out)
  have HLT := Lib.hid hLT
  have HLM := Lib.hid hLM
  have MSC := Lib.hid (show (Try.prog.info? 24).map (·.size) = some (manC m v).size from man_size)
  clear bz hLT hLM
  rcases hcases with ⟨h1, hL⟩ | ⟨h1, h2, hL⟩ | hmore
  · rw [h1] at QC
    simp only [errI, Bool.false_eq_true, if_false] at QC
    clear h1
    have HP := Lib.hid hL
    have HN := Lib.hid (HLM.out hL)
    obtain ⟨a, c, rfl, _, _, _⟩ := hl
    clear hL hm
    generalize manC m v = mc at *
    go_enter Try.func19, Try.ntmps19
    go_wp2_with (refine wpList_load_blk rfl 24 (.tmp 3) rfl rfl b1.out Try.underlying24 rfl MSC.out ?_; refine Held.go ?_)
    refine ⟨?_⟩
    go_wp2_with fail
    refine (QC.out _ RM.out).mono ?_
    rintro _ w1 ⟨rfl, x1⟩
    have Z1 := Lib.hid (BZ.out.ext x1)
    have X1 := Lib.hid (X0.out.trans x1)
    have B1 := Lib.hid (b1.out.ext x1)
    have RL1 := Lib.hid (RL.out.ext x1)
    clear x1
    go_wp2_with (refine wpList_store_blk rfl 24 (.tmp 6) (.tmp 22) rfl rfl rfl Z1.out rfl MS.out (by kernel_rfl) ?_)
    exact bodyPost_ret (results_row_tmp rfl _ _ (w.heap.size + 1) _ _ (0, 0) _ rfl (Z1.out.setRow #[.int .i64 0, .int .i64 0, .int .i64 0, .int .i64 0, .slice none 0 0]) Try.underlying24 rfl MS.out) rfl ⟨.slice none 0 0, by rw [HN.out, HP.out]; rfl, X1.out.setRow (Nat.le_succ _) _, by rw [HN.out]; exact RR.nil _⟩
  · rw [h1] at QC
    rw [h2] at QR
    simp only [errI, Bool.false_eq_true, if_false, if_true] at QC QR
    clear h1 h2
    have HP := Lib.hid hL
    have HN := Lib.hid (HLM.out hL)
    obtain ⟨a, c, rfl, _, _, _⟩ := hl
    clear hL hm
    generalize manC m v = mc at *
    by_cases h0 : l.length = 0
    · have k0 : ((l.length : Int) == 0) = true := beq_iff_eq.2 (by omega)
      rw [h0] at *
      clear h0
      go_enter Try.func19, Try.ntmps19
      go_wp2_with (refine wpList_load_blk rfl 24 (.tmp 3) rfl rfl b1.out Try.underlying24 rfl MSC.out ?_; refine Held.go ?_)
      refine ⟨?_⟩
      go_wp2_with fail
      refine (QC.out _ RM.out).mono ?_
      rintro _ w1 ⟨rfl, x1⟩
      have Z1 := Lib.hid (BZ.out.ext x1)
      have X1 := Lib.hid (X0.out.trans x1)
      have B1 := Lib.hid (b1.out.ext x1)
      have RL1 := Lib.hid (RL.out.ext x1)
      clear x1
      go_wp2_with (refine wpList_store_blk rfl 24 (.tmp 6) (.tmp 22) rfl rfl rfl Z1.out rfl MS.out (by kernel_rfl) ?_)
      exact bodyPost_ret (results_row_tmp rfl _ _ (w.heap.size + 1) _ _ (0, 0) _ rfl (Z1.out.setRow #[.int .i64 0, .int .i64 0, .int .i64 0, .int .i64 0, .slice none 0 0]) Try.underlying24 rfl MS.out) rfl ⟨.slice none 0 0, by rw [HN.out, HP.out]; rfl, X1.out.setRow (Nat.le_succ _) _, by rw [HN.out]; exact RR.nil _⟩
    · have k0 : ((l.length : Int) == 0) = false := beq_eq_false_iff_ne.2 (by omega)
      clear h0
      go_enter Try.func19, Try.ntmps19
      go_wp2_with (refine wpList_load_blk rfl 24 (.tmp 3) rfl rfl b1.out Try.underlying24 rfl MSC.out ?_; refine Held.go ?_)
      refine ⟨?_⟩
      go_wp2_with fail
      refine (QC.out _ RM.out).mono ?_
      rintro _ w1 ⟨rfl, x1⟩
      have Z1 := Lib.hid (BZ.out.ext x1)
      have X1 := Lib.hid (X0.out.trans x1)
      have B1 := Lib.hid (b1.out.ext x1)
      have RL1 := Lib.hid (RL.out.ext x1)
      clear x1
      go_wp2_with fail
      refine (QR.out _ RL1.out).mono ?_
      rintro _ w2 ⟨rfl, x2⟩
      have Z2 := Lib.hid (Z1.out.ext x2)
      have X2 := Lib.hid (X1.out.trans x2)
      have B2 := Lib.hid (B1.out.ext x2)
      have RL2 := Lib.hid (RL1.out.ext x2)
      clear x2
      go_wp2_with (refine wpList_store_blk rfl 24 (.tmp 6) (.tmp 22) rfl rfl rfl Z2.out rfl MS.out (by kernel_rfl) ?_)
      exact bodyPost_ret (results_row_tmp rfl _ _ (w.heap.size + 1) _ _ (0, 0) _ rfl (Z2.out.setRow #[.int .i64 0, .int .i64 0, .int .i64 0, .int .i64 0, .slice none 0 0]) Try.underlying24 rfl MS.out) rfl ⟨.slice none 0 0, by rw [HN.out, HP.out]; rfl, X2.out.setRow (Nat.le_succ _) _, by rw [HN.out]; exact RR.nil _⟩
  · obtain ⟨h1, h2⟩ : maniP m = true ∧ rowP l = true := by rcases hmore with h | h | h | h <;> exact ⟨h.1, h.2.1⟩
    have HMORE := Lib.hid hmore
    have hrow := h2
    have hlen := rowP_len h2
    have hgm := (mani_row h1).1
    obtain ⟨g1, g2, g3, g4⟩ := hgm
    have hent := row_ent h2 (i := l.length - 1) (by omega)
    rw [h1] at QC
    rw [h2] at QR
    simp only [errI, if_true] at QC QR
    obtain ⟨n, hn⟩ : ∃ n : Nat, l.length = n + 1 := ⟨l.length - 1, by omega⟩
    have hl' := hl
    obtain ⟨a, c, rfl, hlc, hcn, hs⟩ := hl
    obtain ⟨gl, o, rfl, hcells⟩ := hs (by omega)
    have RA := Lib.hid (hcells n _ (ent_at (by omega)))
    have RF := Lib.hid (hcells 0 _ (ent_at (by omega)))
    have HLB := Lib.hid (show (l.length : Int) ≤ 100 by omega)
    have HLB0 := Lib.hid (show 0 < l.length by omega)
    have k0 : (((n : Int) + 1) == 0) = false := beq_eq_false_iff_ne.2 (by omega)
    have hh : headD (lastOf l).id (lastOf l).gen (lastOf l).fst := by
      have hent : entP (lastOf l) = true := hent
      unfold entP at hent
      rw [Bool.and_eq_true] at hent
      simpa [headP] using hent.1
    obtain ⟨⟨i1, i2⟩, -, -⟩ := hh
    have hLast : l.getD n default = lastOf l := by unfold lastOf; rw [show l.length - 1 = n by omega]
    have hFst : l.getD 0 default = fstOf l := rfl
    have E0 := Lib.hid (show (entC (l.getD n default))[0]? = some (.int .i64 (lastOf l).id) by rw [hLast]; rfl)
    have E2 := Lib.hid (show (entC (l.getD 0 default))[2]? = some (.int .i64 (fstOf l).fst) from rfl)
    have HCN := Lib.hid (show ∀ u, manC (lat m now l) u = #[.int .i64 (m.gen + 1), .int .i64 (max m.next ((lastOf l).id + 1)), .int .i64 now, .int .i64 (fstOf l).fst, u] from fun u => rfl)
    have QN := Lib.hid (fun u w (h : RR entC 9 w u l) => (show Calls Try.prog 16 #[.agg #[.int .i64 (m.gen + 1), .int .i64 (max m.next ((lastOf l).id + 1)), .int .i64 now, .int .i64 (fstOf l).fst, u]] w fun r w' => r = .returned (.int .i64 (errI (maniP (lat m now l)) 250)) ∧ Ext w w' from rMCheck_any (lat m now l) u w h))
    have C0 := Lib.hid (show (manC m v)[0]? = some (.int .i64 m.gen) from rfl)
    have C1 := Lib.hid (show (manC m v)[1]? = some (.int .i64 m.next) from rfl)
    have C2 := Lib.hid (show (manC m v)[2]? = some (.int .i64 m.now) from rfl)
    have C3 := Lib.hid (show (manC m v)[3]? = some (.int .i64 m.floor) from rfl)
    have HENTS := Lib.hid (show (lat m now l).ents = l from rfl)
    have ewg : IntKind.i64.wrap (m.gen + 1) = m.gen + 1 := by rw [IntKind.wrap_i64]; omega
    have ewl : IntKind.i64.wrap ((lastOf l).id + 1) = (lastOf l).id + 1 := by rw [IntKind.wrap_i64]; omega
    obtain ⟨mx, hmx⟩ : ∃ mx, mx = max m.next ((lastOf l).id + 1) := ⟨_, rfl⟩
    have HMX := Lib.hid hmx
    rw [← hmx] at HCN QN
    have hb100 : (n : Int) + 1 ≤ 100 := by omega
    rw [hn] at hlc
    rw [hn] at QR RL
    rw [hn]
    clear hrow hlen hent hl' hcells hs hcn hn hLast hFst i1 i2 g1 g2 g3 g4 h1 h2 hmore hm hmx
    generalize manC m v = mc at *
    generalize (lastOf l).id = lid at *
    generalize (fstOf l).fst = ff at *
    generalize m.gen = gen at *
    generalize m.next = next at *
    generalize m.now = mnow at *
    generalize m.floor = floor at *
    go_enter Try.func19, Try.ntmps19
    go_wp2_with (refine wpList_load_blk rfl 24 (.tmp 3) rfl rfl b1.out Try.underlying24 rfl MSC.out ?_; refine Held.go ?_)
    refine ⟨?_⟩
    go_wp2_with fail
    refine (QC.out _ RM.out).mono ?_
    rintro _ w1 ⟨rfl, x1⟩
    have Z1 := Lib.hid (BZ.out.ext x1)
    have X1 := Lib.hid (X0.out.trans x1)
    have B1 := Lib.hid (b1.out.ext x1)
    have RL1 := Lib.hid (RL.out.ext x1)
    clear x1
    go_wp2_with fail
    refine (QR.out _ RL1.out).mono ?_
    rintro _ w2 ⟨rfl, x2⟩
    have Z2 := Lib.hid (Z1.out.ext x2)
    have X2 := Lib.hid (X1.out.trans x2)
    have B2 := Lib.hid (B1.out.ext x2)
    have RL2 := Lib.hid (RL1.out.ext x2)
    clear x2
    go_upto_region 3 with fail
    have HL2 := Lib.hid (fun (x : World) (hx : Ext w2 x) (gA : Nat) (hb : Blk x gA 49 #[]) (hg : w2.heap.size ≤ gA) => WR.app0 (B := w2.heap.size) (w := x) entC_length (by decide) entC_one hb hg (RL2.out.ext hx) (Nat.le_trans hx.le (Nat.le_refl _)) (P := Try.prog) (t := 22) Try.underlying22 ent_info rfl (by have := HLB.out; omega) (by have := HLB.out; unfold maxLen; omega))
    go_cut [8] (fun s8 wx => ∃ (g8 : Nat) (av : Option Addr) (cv : Nat), s8 = .pointer (some ⟨g8, 0, none⟩) ∧ Blk wx g8 24 #[.int .i64 (gen + 1), .int .i64 next, .int .i64 now, .int .i64 ff, .slice av l.length cv] ∧ EW wx w2.heap.size (.slice av l.length cv) l ∧ Ext w2 wx ∧ w2.heap.size ≤ g8)
    case first =>
      have e0 := up_cell (W := w2.drew) ((B2.out.cell 0).trans C0.out)
      have e1 := up_cell (W := w2.drew) ((B2.out.cell 1).trans C1.out)
      have rf2 := (rangeAt_ext RF.out X2.out) 2 _ E2.out
      simp only [Nat.zero_mul, Nat.add_zero] at rf2
      have ef := up_cell (W := w2.drew) rf2
      have kz : (0 : Int) < (n : Int) + 1 := by omega
      clear rf2
      refine wp_region_lex 17 rfl (by kernel_rfl) ?_
      iterate 11
        (refine lex_want (by kernel_rfl) (by kernel_rfl) (by kernel_rfl) (by kernel_rfl) (fun _ _ _ _ h => h) (by kernel_rfl) (fun K hK => ?_)
         go_simp
         (refine hK _ ?_; clear hK K))
      clear e0 e1 ef
      refine lex_ahead 1 rfl (by kernel_rfl) (by kernel_rfl) (by kernel_rfl) (fun _ _ _ _ h => h) (by kernel_rfl) (fun K hK => ?_)
      go_simp
      refine hK _ ?_
      clear hK K
      refine out_fork 11 15 (by kernel_rfl) rfl rfl (by kernel_rfl) (by kernel_rfl) (fun xa K hK => ?_) (fun xa K hK => ?_)
      · refine wp_bs (vs := #[]) 22 0 _ rfl rfl (run_bs0e _) (hK.out _ _ ((Ext.refl _).alloc _) ?_)
        simp only [Act.put, List.getElem_toArray, List.getElem_cons_succ, List.getElem_cons_zero, List.setIfInBounds_toArray, List.set_cons_succ, List.set_cons_zero]
        have ya := ((Ext.refl w2).drew.trans xa.ext).alloc (.cells #[] 49)
        have ba := Blk.new xa.val 49 #[]
        have ga : w2.heap.size ≤ xa.val.heap.size := xa.ext.le
        clear hK K
        refine out_done ?_
        refine out_done ?_
        refine out_fork 13 15 (by kernel_rfl) rfl rfl (by kernel_rfl) (by kernel_rfl) (fun xb K hK => ?_) (fun xb K hK => ?_)
        · obtain ⟨v', W', p1, p2, p3⟩ := HL2.out xb.val (ya.trans xb.ext) _ (ba.ext xb.ext) ga
          obtain ⟨av, cv, rfl, _, _⟩ := p2.shape entC_length
          refine wp_of_exec (exec_app (.tmp 34) (.tmp 35) 22 rfl rfl rfl rfl p1) (hK.out _ _ p3 ?_)
          simp only [Act.put, List.getElem_toArray, List.getElem_cons_succ, List.getElem_cons_zero, List.setIfInBounds_toArray, List.set_cons_succ, List.set_cons_zero]
          have Y := Lib.hid ((ya.trans xb.ext).trans p3)
          have P2 := Lib.hid p2
          clear hK K p1 p2 p3 ya ba
          refine out_done ?_
          refine out_want (by kernel_rfl) (by kernel_rfl) (by kernel_rfl) (fun _ _ _ _ h => h) (by kernel_rfl) (fun K hK => ?_)
          go_simp
          refine hK _ ?_
          clear hK K
          refine out_only (by kernel_rfl) (by kernel_rfl) (fun xu K hK => ?_)
          go_simp
          refine hK.out _ _ ((Ext.refl _).alloc _) ?_
          clear hK K
          refine out_lex (n := 17) (by kernel_rfl) ?_
          refine lex_last (by kernel_rfl) (by kernel_rfl) (by kernel_rfl) (by kernel_rfl) (by kernel_rfl) (fun xv K hK => ?_)
          have be := (Blk.new xu.val 24 #[.int .i64 0, .int .i64 0, .int .i64 0, .int .i64 0, .slice none 0 0]).ext xv.ext
          refine wp_store_blk 24 (.tmp 8) (.tmp 37) rfl rfl (cs' := #[.int .i64 (gen + 1), .int .i64 next, .int .i64 now, .int .i64 ff, .slice av l.length cv]) rfl be rfl MS.out (by kernel_rfl) (hK _ _ (fun y => ?_))
          dsimp only [Act.put]
          have B9 := (be.setRow #[.int .i64 (gen + 1), .int .i64 next, .int .i64 now, .int .i64 ff, .slice av l.length cv]).ext y.ext
          have hE : W'.heap.size ≤ xu.val.heap.size := xu.ext.le
          have y9 : Ext W' y.val := Ext.trans (Ext.setRow ((xu.ext.alloc _).trans xv.ext) hE _) y.ext
          go_wp2_with fail
          go_meet
          exact ⟨_, av, cv, rfl, B9, P2.out.ext y9, Y.out.trans y9, Nat.le_trans Y.out.le hE⟩
        · go_simp
          refine hK.out _ _ ((Ext.refl _).alloc _) ?_
          have yb := (ya.trans xb.ext).alloc (.cells #[.int .i64 0, .int .i64 0, .int .i64 0, .int .i64 0, .slice none 0 0] 24)
          have bb := (ba.ext xb.ext).alloc (.cells #[.int .i64 0, .int .i64 0, .int .i64 0, .int .i64 0, .slice none 0 0] 24)
          have bm := Blk.new xb.val 24 #[.int .i64 0, .int .i64 0, .int .i64 0, .int .i64 0, .slice none 0 0]
          have gb : w2.heap.size ≤ xb.val.heap.size := (ya.trans xb.ext).le
          clear hK K ya ba
          refine out_only (by kernel_rfl) (by kernel_rfl) (fun xc K hK => ?_)
          obtain ⟨v', W', p1, p2, p3⟩ := HL2.out xc.val (yb.trans xc.ext) _ (bb.ext xc.ext) ga
          obtain ⟨av, cv, rfl, _, _⟩ := p2.shape entC_length
          refine wp_of_exec (exec_app (.tmp 34) (.tmp 35) 22 rfl rfl rfl rfl p1) (hK.out _ _ p3 ?_)
          simp only [Act.put, List.getElem_toArray, List.getElem_cons_succ, List.getElem_cons_zero, List.setIfInBounds_toArray, List.set_cons_succ, List.set_cons_zero]
          have Y := Lib.hid ((yb.trans xc.ext).trans p3)
          have BM := Lib.hid ((bm.ext xc.ext).ext p3)
          clear hK K p1 p3
          refine out_want (by kernel_rfl) (by kernel_rfl) (by kernel_rfl) (fun _ _ _ _ h => h) (by kernel_rfl) (fun K hK => ?_)
          go_simp
          refine hK _ ?_
          clear hK K
          refine out_done ?_
          refine out_lex (n := 17) (by kernel_rfl) ?_
          refine lex_last (by kernel_rfl) (by kernel_rfl) (by kernel_rfl) (by kernel_rfl) (by kernel_rfl) (fun xv K hK => ?_)
          refine wp_store_blk 24 (.tmp 8) (.tmp 37) rfl rfl (cs' := #[.int .i64 (gen + 1), .int .i64 next, .int .i64 now, .int .i64 ff, .slice av l.length cv]) rfl (BM.out.ext xv.ext) rfl MS.out (by kernel_rfl) (hK _ _ (fun y => ?_))
          dsimp only [Act.put]
          have B9 := ((BM.out.ext xv.ext).setRow #[.int .i64 (gen + 1), .int .i64 next, .int .i64 now, .int .i64 ff, .slice av l.length cv]).ext y.ext
          have hne := ew_ne p2 (by have := HLB0.out; exact this) BM.out
          have r9 : EW (xv.val.setRow xb.val.heap.size #[.int .i64 (gen + 1), .int .i64 next, .int .i64 now, .int .i64 ff, .slice av l.length cv]) w2.heap.size (.slice av l.length cv) l := World.ownsRow.kept (WR.ext p2 xv.ext) (grownBy_setRow _ _ _) (by
            cases hv : (Value.slice av l.length cv).ownBlock with
            | none => exact .inl rfl
            | some k => exact .inr (by have := hne k hv; simp; exact this))
          have y9 : Ext w2 y.val := Ext.trans (Ext.setRow (Y.out.trans xv.ext) gb _) y.ext
          go_wp2_with fail
          go_meet
          exact ⟨_, av, cv, rfl, B9, WR.ext r9 y.ext, y9, gb⟩
      · go_simp
        refine hK.out _ _ ((Ext.refl _).alloc _) ?_
        have ya := ((Ext.refl w2).drew.trans xa.ext).alloc (.cells #[.int .i64 0, .int .i64 0, .int .i64 0, .int .i64 0, .slice none 0 0] 24)
        have bm := Blk.new xa.val 24 #[.int .i64 0, .int .i64 0, .int .i64 0, .int .i64 0, .slice none 0 0]
        have gb : w2.heap.size ≤ xa.val.heap.size := xa.ext.le
        clear hK K
        refine out_only (by kernel_rfl) (by kernel_rfl) (fun xb K hK => ?_)
        refine wp_bs (vs := #[]) 22 0 _ rfl rfl (run_bs0e _) (hK.out _ _ ((Ext.refl _).alloc _) ?_)
        simp only [Act.put, List.getElem_toArray, List.getElem_cons_succ, List.getElem_cons_zero, List.setIfInBounds_toArray, List.set_cons_succ, List.set_cons_zero]
        have yb := (ya.trans xb.ext).alloc (.cells #[] 49)
        have bb := Blk.new xb.val 49 #[]
        have ga : w2.heap.size ≤ xb.val.heap.size := (ya.trans xb.ext).le
        have bm := (bm.ext xb.ext).alloc (.cells #[] 49)
        clear hK K
        refine out_done ?_
        refine out_only (by kernel_rfl) (by kernel_rfl) (fun xc K hK => ?_)
        obtain ⟨v', W', p1, p2, p3⟩ := HL2.out xc.val (yb.trans xc.ext) _ (bb.ext xc.ext) ga
        obtain ⟨av, cv, rfl, _, _⟩ := p2.shape entC_length
        refine wp_of_exec (exec_app (.tmp 34) (.tmp 35) 22 rfl rfl rfl rfl p1) (hK.out _ _ p3 ?_)
        simp only [Act.put, List.getElem_toArray, List.getElem_cons_succ, List.getElem_cons_zero, List.setIfInBounds_toArray, List.set_cons_succ, List.set_cons_zero]
        have Y := Lib.hid ((yb.trans xc.ext).trans p3)
        have BM := Lib.hid ((bm.ext xc.ext).ext p3)
        clear hK K p1 p3
        refine out_want (by kernel_rfl) (by kernel_rfl) (by kernel_rfl) (fun _ _ _ _ h => h) (by kernel_rfl) (fun K hK => ?_)
        go_simp
        refine hK _ ?_
        clear hK K
        refine out_done ?_
        refine out_lex (n := 17) (by kernel_rfl) ?_
        refine lex_last (by kernel_rfl) (by kernel_rfl) (by kernel_rfl) (by kernel_rfl) (by kernel_rfl) (fun xv K hK => ?_)
        refine wp_store_blk 24 (.tmp 8) (.tmp 37) rfl rfl (cs' := #[.int .i64 (gen + 1), .int .i64 next, .int .i64 now, .int .i64 ff, .slice av l.length cv]) rfl (BM.out.ext xv.ext) rfl MS.out (by kernel_rfl) (hK _ _ (fun y => ?_))
        dsimp only [Act.put]
        have B9 := ((BM.out.ext xv.ext).setRow #[.int .i64 (gen + 1), .int .i64 next, .int .i64 now, .int .i64 ff, .slice av l.length cv]).ext y.ext
        have hne := ew_ne p2 (by have := HLB0.out; exact this) BM.out
        have r9 : EW (xv.val.setRow xa.val.heap.size #[.int .i64 (gen + 1), .int .i64 next, .int .i64 now, .int .i64 ff, .slice av l.length cv]) w2.heap.size (.slice av l.length cv) l := World.ownsRow.kept (WR.ext p2 xv.ext) (grownBy_setRow _ _ _) (by
          cases hv : (Value.slice av l.length cv).ownBlock with
          | none => exact .inl rfl
          | some k => exact .inr (by have := hne k hv; simp; exact this))
        have y9 : Ext w2 y.val := Ext.trans (Ext.setRow (Y.out.trans xv.ext) gb _) y.ext
        go_wp2_with fail
        go_meet
        exact ⟨_, av, cv, rfl, B9, WR.ext r9 y.ext, y9, gb⟩
    case rest =>
      obtain ⟨g8, av, cv, rfl, b8, hvc, y8, hg8⟩ := hcut
      have B8 := Lib.hid b8
      have R8 := Lib.hid hvc
      have Y8 := Lib.hid y8
      have HG8 := Lib.hid hg8
      have X8 := Lib.hid (X2.out.trans y8)
      have Z8 := Lib.hid (Z2.out.ext y8)
      have B38 := Lib.hid (B2.out.ext y8)
      have rl0 := (rangeAt_ext RA.out X8.out) 0 _ E0.out
      have d1 := b8.cell 1
      simp only [List.getElem?_toArray, List.getElem?_cons_succ, List.getElem?_cons_zero] at d1
      have el := up_cell rl0
      have e1 := up_cell d1
      have ewn : IntKind.i64.wrap (n : Int) = (n : Int) := by rw [IntKind.wrap_i64]; omega
      have k0n : (0 : Int) ≤ (n : Int) := by omega
      have kn : (n : Int) < (n : Int) + 1 := by omega
      have RL0 := Lib.hid rl0
      simp only [Nat.add_zero] at el
      clear b8 hvc y8 hg8 rl0 d1
      generalize wc = w4 at *
      by_cases hgt : next < lid + 1
      · have kg : next < lid + 1 := hgt
        have HM2 := Lib.hid (show lid + 1 = mx by have := HMX.out; omega)
        clear hgt
        go_wp2
        refine wp_region_up (by kernel_rfl) (by kernel_rfl) ?_
        repeat (go_big_quiet_step (fail))
        refine wpQuiet_nil ?_
        rintro _ ⟨z, rfl⟩
        have el6 := Go.cell_later z.ext RL0.out
        simp only [Nat.add_zero] at el6
        have b6 := B8.out.ext z.ext
        have c6 := b6.cell 1
        have f6 := b6.frozen 1
        simp only [List.getElem?_toArray, List.getElem?_cons_succ, List.getElem?_cons_zero] at c6
        have b7 := b6.set_ 1 (.int .i64 (lid + 1))
        simp only [List.setIfInBounds_toArray, List.set_cons_succ, List.set_cons_zero] at b7
        have r6 := WR.ext R8.out z.ext
        have hne := ew_ne r6 HLB0.out b6
        have r7 : EW (z.val.setCell ⟨g8, 1, none⟩ (.int .i64 (lid + 1))) w2.heap.size (.slice av l.length cv) l := World.ownsRow.kept r6 (grown_setCell _ ⟨g8, 1, none⟩ _) (by
          cases hv : (Value.slice av l.length cv).ownBlock with
          | none => exact .inl rfl
          | some k => exact .inr (by have := hne k hv; simp; exact this))
        have hgw : w.heap.size + 1 < g8 := by have := Z2.out.lt; have := HG8.out; omega
        have z7 : Blk (z.val.setCell ⟨g8, 1, none⟩ (.int .i64 (lid + 1))) (w.heap.size + 1) 24 #[.int .i64 0, .int .i64 0, .int .i64 0, .int .i64 0, .slice none 0 0] := Blk.far (Z8.out.ext z.ext) (p := ⟨g8, 1, none⟩) (by show w.heap.size + 1 ≠ g8; omega) _
        have b37 : Blk (z.val.setCell ⟨g8, 1, none⟩ (.int .i64 (lid + 1))) w.heap.size 24 mc := Blk.far (B38.out.ext z.ext) (p := ⟨g8, 1, none⟩) (by show w.heap.size ≠ g8; omega) _
        have x7 : Ext w (z.val.setCell ⟨g8, 1, none⟩ (.int .i64 (lid + 1))) := Ext.set (X8.out.trans z.ext) (p := ⟨g8, 1, none⟩) (by show w.heap.size ≤ g8; omega) _
        have b7' : Blk (z.val.setCell ⟨g8, 1, none⟩ (.int .i64 (lid + 1))) g8 24 #[.int .i64 (gen + 1), .int .i64 mx, .int .i64 now, .int .i64 ff, .slice av l.length cv] := by rw [← HM2.out]; exact b7
        have B7 := Lib.hid b7'
        have R7 := Lib.hid r7
        have Z7 := Lib.hid z7
        have B37 := Lib.hid b37
        have X7 := Lib.hid x7
        clear b6 b7 b7' r6 r7 z7 b37 x7 hne hgw el e1
        go_wp2_with (refine wpList_hold 60 rfl ?_)
        refine ⟨?_⟩
        generalize z.val.setCell ⟨g8, 1, none⟩ (.int .i64 (lid + 1)) = w7 at *
        clear c6 f6 el6
        rcases HMORE.out with ⟨_, _, h3, hL⟩ | ⟨_, _, h3, h4, hL⟩ | ⟨_, _, h3, h4, h5, hL⟩ | ⟨_, _, h3, h4, h5, hL⟩
        · have HP := Lib.hid hL
          have HN := Lib.hid (HLM.out hL)
          clear hL
          have QN1 := QN.out
          rw [h3] at QN1
          have QN2 := QN1 _ _ (WR.rr entC_length R7.out)
          simp only [errI, Bool.false_eq_true, if_false, if_true] at QN2
          have QN2 := Lib.hid QN2
          refine wpList_load_blk rfl 24 (.tmp 8) rfl rfl B7.out Try.underlying24 rfl MS.out ?_
          go_wp2_with fail
          refine QN2.out.mono ?_
          rintro _ w9 ⟨rfl, x9⟩
          have Z9 := Lib.hid (Z7.out.ext x9)
          have X9 := Lib.hid (X7.out.trans x9)
          have B9 := Lib.hid (B7.out.ext x9)
          have R9 := Lib.hid (WR.ext R7.out x9)
          have c2 := ((B37.out.ext x9).cell 2).trans C2.out
          have c3 := ((B37.out.ext x9).cell 3).trans C3.out
          have d2 := B9.out.cell 2
          have d3 := B9.out.cell 3
          simp only [List.getElem?_toArray, List.getElem?_cons_succ, List.getElem?_cons_zero] at d2 d3
          clear x9 QN2
          go_wp2_with (refine wpList_store_blk rfl 24 (.tmp 6) (.tmp 77) rfl rfl rfl Z9.out rfl MS.out (by kernel_rfl) ?_)
          exact bodyPost_ret (results_row_tmp rfl _ _ (w.heap.size + 1) _ _ (0, 0) _ rfl (Z9.out.setRow #[.int .i64 0, .int .i64 0, .int .i64 0, .int .i64 0, .slice none 0 0]) Try.underlying24 rfl MS.out) rfl ⟨.slice none 0 0, by rw [HN.out, HP.out]; rfl, X9.out.setRow (Nat.le_succ _) _, by rw [HN.out]; exact RR.nil _⟩
        · have HP := Lib.hid hL
          have HN := Lib.hid (HLM.out hL)
          clear hL
          have QN1 := QN.out
          rw [h3] at QN1
          have QN2 := QN1 _ _ (WR.rr entC_length R7.out)
          simp only [errI, Bool.false_eq_true, if_false, if_true] at QN2
          have QN2 := Lib.hid QN2
          refine wpList_load_blk rfl 24 (.tmp 8) rfl rfl B7.out Try.underlying24 rfl MS.out ?_
          go_wp2_with fail
          refine QN2.out.mono ?_
          rintro _ w9 ⟨rfl, x9⟩
          have Z9 := Lib.hid (Z7.out.ext x9)
          have X9 := Lib.hid (X7.out.trans x9)
          have B9 := Lib.hid (B7.out.ext x9)
          have R9 := Lib.hid (WR.ext R7.out x9)
          have c2 := ((B37.out.ext x9).cell 2).trans C2.out
          have c3 := ((B37.out.ext x9).cell 3).trans C3.out
          have d2 := B9.out.cell 2
          have d3 := B9.out.cell 3
          simp only [List.getElem?_toArray, List.getElem?_cons_succ, List.getElem?_cons_zero] at d2 d3
          clear x9 QN2
          go_wp2_with (refine wpList_store_blk rfl 24 (.tmp 6) (.tmp 77) rfl rfl rfl Z9.out rfl MS.out (by kernel_rfl) ?_)
          exact bodyPost_ret (results_row_tmp rfl _ _ (w.heap.size + 1) _ _ (0, 0) _ rfl (Z9.out.setRow #[.int .i64 0, .int .i64 0, .int .i64 0, .int .i64 0, .slice none 0 0]) Try.underlying24 rfl MS.out) rfl ⟨.slice none 0 0, by rw [HN.out, HP.out]; rfl, X9.out.setRow (Nat.le_succ _) _, by rw [HN.out]; exact RR.nil _⟩
        · have HP := Lib.hid hL
          have HN := Lib.hid (HLM.out hL)
          clear hL
          have QN1 := QN.out
          rw [h3] at QN1
          have QN2 := QN1 _ _ (WR.rr entC_length R7.out)
          simp only [errI, Bool.false_eq_true, if_false, if_true] at QN2
          have QN2 := Lib.hid QN2
          refine wpList_load_blk rfl 24 (.tmp 8) rfl rfl B7.out Try.underlying24 rfl MS.out ?_
          go_wp2_with fail
          refine QN2.out.mono ?_
          rintro _ w9 ⟨rfl, x9⟩
          have Z9 := Lib.hid (Z7.out.ext x9)
          have X9 := Lib.hid (X7.out.trans x9)
          have B9 := Lib.hid (B7.out.ext x9)
          have R9 := Lib.hid (WR.ext R7.out x9)
          have c2 := ((B37.out.ext x9).cell 2).trans C2.out
          have c3 := ((B37.out.ext x9).cell 3).trans C3.out
          have d2 := B9.out.cell 2
          have d3 := B9.out.cell 3
          simp only [List.getElem?_toArray, List.getElem?_cons_succ, List.getElem?_cons_zero] at d2 d3
          clear x9 QN2
          go_wp2_with (refine wpList_store_blk rfl 24 (.tmp 6) (.tmp 77) rfl rfl rfl Z9.out rfl MS.out (by kernel_rfl) ?_)
          exact bodyPost_ret (results_row_tmp rfl _ _ (w.heap.size + 1) _ _ (0, 0) _ rfl (Z9.out.setRow #[.int .i64 0, .int .i64 0, .int .i64 0, .int .i64 0, .slice none 0 0]) Try.underlying24 rfl MS.out) rfl ⟨.slice none 0 0, by rw [HN.out, HP.out]; rfl, X9.out.setRow (Nat.le_succ _) _, by rw [HN.out]; exact RR.nil _⟩
        · have HP := Lib.hid hL
          have HN := Lib.hid (HLT.out hL)
          clear hL
          have QN1 := QN.out
          rw [h3] at QN1
          have QN2 := QN1 _ _ (WR.rr entC_length R7.out)
          simp only [errI, Bool.false_eq_true, if_false, if_true] at QN2
          have QN2 := Lib.hid QN2
          refine wpList_load_blk rfl 24 (.tmp 8) rfl rfl B7.out Try.underlying24 rfl MS.out ?_
          go_wp2_with fail
          refine QN2.out.mono ?_
          rintro _ w9 ⟨rfl, x9⟩
          have Z9 := Lib.hid (Z7.out.ext x9)
          have X9 := Lib.hid (X7.out.trans x9)
          have B9 := Lib.hid (B7.out.ext x9)
          have R9 := Lib.hid (WR.ext R7.out x9)
          have c2 := ((B37.out.ext x9).cell 2).trans C2.out
          have c3 := ((B37.out.ext x9).cell 3).trans C3.out
          have d2 := B9.out.cell 2
          have d3 := B9.out.cell 3
          simp only [List.getElem?_toArray, List.getElem?_cons_succ, List.getElem?_cons_zero] at d2 d3
          clear x9 QN2
          go_wp2_with (refine wpList_load_blk rfl 24 (.tmp 8) rfl rfl B9.out Try.underlying24 rfl MS.out ?_; refine Held.go ?_)
          refine ⟨?_⟩
          go_wp2_with (refine wpList_store_blk rfl 24 (.tmp 6) (.tmp 78) rfl rfl rfl Z9.out rfl MS.out (by kernel_rfl) ?_)
          refine bodyPost_ret (results_row_tmp rfl _ _ (w.heap.size + 1) _ _ (0, 0) _ rfl (Z9.out.setRow _) Try.underlying24 rfl MS.out) rfl ⟨.slice av l.length cv, by rw [HN.out, HP.out, HCN.out]; rfl, X9.out.setRow (Nat.le_succ _) _, ?_⟩
          rw [HN.out, HENTS.out]
          exact WR.rr entC_length (World.ownsRow.kept R9.out (grownBy_setRow _ _ _) (by
            cases hv : (Value.slice av l.length cv).ownBlock with
            | none => exact .inl rfl
            | some k => exact .inr (by have := (World.ownsRow.lt R9.out k hv).1; have := Z2.out.lt; simp; omega)))
      · have kg : ¬ next < lid + 1 := hgt
        have HM2 := Lib.hid (show next = mx by have := HMX.out; omega)
        clear hgt
        go_wp2
        refine wp_region_up (by kernel_rfl) (by kernel_rfl) ?_
        repeat (go_big_quiet_step (fail))
        refine wpQuiet_nil ?_
        rintro _ ⟨z, rfl⟩
        have b7 := B8.out.ext z.ext
        rw [HM2.out] at b7
        have B7 := Lib.hid b7
        have R7 := Lib.hid (WR.ext R8.out z.ext)
        have Z7 := Lib.hid (Z8.out.ext z.ext)
        have B37 := Lib.hid (B38.out.ext z.ext)
        have X7 := Lib.hid (X8.out.trans z.ext)
        clear b7 el e1
        go_wp2_with (refine wpList_hold 60 rfl ?_)
        refine ⟨?_⟩
        generalize z.val = w7 at *
        rcases HMORE.out with ⟨_, _, h3, hL⟩ | ⟨_, _, h3, h4, hL⟩ | ⟨_, _, h3, h4, h5, hL⟩ | ⟨_, _, h3, h4, h5, hL⟩
        · have HP := Lib.hid hL
          have HN := Lib.hid (HLM.out hL)
          clear hL
          have QN1 := QN.out
          rw [h3] at QN1
          have QN2 := QN1 _ _ (WR.rr entC_length R7.out)
          simp only [errI, Bool.false_eq_true, if_false, if_true] at QN2
          have QN2 := Lib.hid QN2
          refine wpList_load_blk rfl 24 (.tmp 8) rfl rfl B7.out Try.underlying24 rfl MS.out ?_
          go_wp2_with fail
          refine QN2.out.mono ?_
          rintro _ w9 ⟨rfl, x9⟩
          have Z9 := Lib.hid (Z7.out.ext x9)
          have X9 := Lib.hid (X7.out.trans x9)
          have B9 := Lib.hid (B7.out.ext x9)
          have R9 := Lib.hid (WR.ext R7.out x9)
          have c2 := ((B37.out.ext x9).cell 2).trans C2.out
          have c3 := ((B37.out.ext x9).cell 3).trans C3.out
          have d2 := B9.out.cell 2
          have d3 := B9.out.cell 3
          simp only [List.getElem?_toArray, List.getElem?_cons_succ, List.getElem?_cons_zero] at d2 d3
          clear x9 QN2
          go_wp2_with (refine wpList_store_blk rfl 24 (.tmp 6) (.tmp 77) rfl rfl rfl Z9.out rfl MS.out (by kernel_rfl) ?_)
          exact bodyPost_ret (results_row_tmp rfl _ _ (w.heap.size + 1) _ _ (0, 0) _ rfl (Z9.out.setRow #[.int .i64 0, .int .i64 0, .int .i64 0, .int .i64 0, .slice none 0 0]) Try.underlying24 rfl MS.out) rfl ⟨.slice none 0 0, by rw [HN.out, HP.out]; rfl, X9.out.setRow (Nat.le_succ _) _, by rw [HN.out]; exact RR.nil _⟩
        · have HP := Lib.hid hL
          have HN := Lib.hid (HLM.out hL)
          clear hL
          have QN1 := QN.out
          rw [h3] at QN1
          have QN2 := QN1 _ _ (WR.rr entC_length R7.out)
          simp only [errI, Bool.false_eq_true, if_false, if_true] at QN2
          have QN2 := Lib.hid QN2
          refine wpList_load_blk rfl 24 (.tmp 8) rfl rfl B7.out Try.underlying24 rfl MS.out ?_
          go_wp2_with fail
          refine QN2.out.mono ?_
          rintro _ w9 ⟨rfl, x9⟩
          have Z9 := Lib.hid (Z7.out.ext x9)
          have X9 := Lib.hid (X7.out.trans x9)
          have B9 := Lib.hid (B7.out.ext x9)
          have R9 := Lib.hid (WR.ext R7.out x9)
          have c2 := ((B37.out.ext x9).cell 2).trans C2.out
          have c3 := ((B37.out.ext x9).cell 3).trans C3.out
          have d2 := B9.out.cell 2
          have d3 := B9.out.cell 3
          simp only [List.getElem?_toArray, List.getElem?_cons_succ, List.getElem?_cons_zero] at d2 d3
          clear x9 QN2
          go_wp2_with (refine wpList_store_blk rfl 24 (.tmp 6) (.tmp 77) rfl rfl rfl Z9.out rfl MS.out (by kernel_rfl) ?_)
          exact bodyPost_ret (results_row_tmp rfl _ _ (w.heap.size + 1) _ _ (0, 0) _ rfl (Z9.out.setRow #[.int .i64 0, .int .i64 0, .int .i64 0, .int .i64 0, .slice none 0 0]) Try.underlying24 rfl MS.out) rfl ⟨.slice none 0 0, by rw [HN.out, HP.out]; rfl, X9.out.setRow (Nat.le_succ _) _, by rw [HN.out]; exact RR.nil _⟩
        · have HP := Lib.hid hL
          have HN := Lib.hid (HLM.out hL)
          clear hL
          have QN1 := QN.out
          rw [h3] at QN1
          have QN2 := QN1 _ _ (WR.rr entC_length R7.out)
          simp only [errI, Bool.false_eq_true, if_false, if_true] at QN2
          have QN2 := Lib.hid QN2
          refine wpList_load_blk rfl 24 (.tmp 8) rfl rfl B7.out Try.underlying24 rfl MS.out ?_
          go_wp2_with fail
          refine QN2.out.mono ?_
          rintro _ w9 ⟨rfl, x9⟩
          have Z9 := Lib.hid (Z7.out.ext x9)
          have X9 := Lib.hid (X7.out.trans x9)
          have B9 := Lib.hid (B7.out.ext x9)
          have R9 := Lib.hid (WR.ext R7.out x9)
          have c2 := ((B37.out.ext x9).cell 2).trans C2.out
          have c3 := ((B37.out.ext x9).cell 3).trans C3.out
          have d2 := B9.out.cell 2
          have d3 := B9.out.cell 3
          simp only [List.getElem?_toArray, List.getElem?_cons_succ, List.getElem?_cons_zero] at d2 d3
          clear x9 QN2
          go_wp2_with (refine wpList_store_blk rfl 24 (.tmp 6) (.tmp 77) rfl rfl rfl Z9.out rfl MS.out (by kernel_rfl) ?_)
          exact bodyPost_ret (results_row_tmp rfl _ _ (w.heap.size + 1) _ _ (0, 0) _ rfl (Z9.out.setRow #[.int .i64 0, .int .i64 0, .int .i64 0, .int .i64 0, .slice none 0 0]) Try.underlying24 rfl MS.out) rfl ⟨.slice none 0 0, by rw [HN.out, HP.out]; rfl, X9.out.setRow (Nat.le_succ _) _, by rw [HN.out]; exact RR.nil _⟩
        · have HP := Lib.hid hL
          have HN := Lib.hid (HLT.out hL)
          clear hL
          have QN1 := QN.out
          rw [h3] at QN1
          have QN2 := QN1 _ _ (WR.rr entC_length R7.out)
          simp only [errI, Bool.false_eq_true, if_false, if_true] at QN2
          have QN2 := Lib.hid QN2
          refine wpList_load_blk rfl 24 (.tmp 8) rfl rfl B7.out Try.underlying24 rfl MS.out ?_
          go_wp2_with fail
          refine QN2.out.mono ?_
          rintro _ w9 ⟨rfl, x9⟩
          have Z9 := Lib.hid (Z7.out.ext x9)
          have X9 := Lib.hid (X7.out.trans x9)
          have B9 := Lib.hid (B7.out.ext x9)
          have R9 := Lib.hid (WR.ext R7.out x9)
          have c2 := ((B37.out.ext x9).cell 2).trans C2.out
          have c3 := ((B37.out.ext x9).cell 3).trans C3.out
          have d2 := B9.out.cell 2
          have d3 := B9.out.cell 3
          simp only [List.getElem?_toArray, List.getElem?_cons_succ, List.getElem?_cons_zero] at d2 d3
          clear x9 QN2
          go_wp2_with (refine wpList_load_blk rfl 24 (.tmp 8) rfl rfl B9.out Try.underlying24 rfl MS.out ?_; refine Held.go ?_)
          refine ⟨?_⟩
          go_wp2_with (refine wpList_store_blk rfl 24 (.tmp 6) (.tmp 78) rfl rfl rfl Z9.out rfl MS.out (by kernel_rfl) ?_)
          refine bodyPost_ret (results_row_tmp rfl _ _ (w.heap.size + 1) _ _ (0, 0) _ rfl (Z9.out.setRow _) Try.underlying24 rfl MS.out) rfl ⟨.slice av l.length cv, by rw [HN.out, HP.out, HCN.out]; rfl, X9.out.setRow (Nat.le_succ _) _, ?_⟩
          rw [HN.out, HENTS.out]
          exact WR.rr entC_length (World.ownsRow.kept R9.out (grownBy_setRow _ _ _) (by
            cases hv : (Value.slice av l.length cv).ownBlock with
            | none => exact .inl rfl
            | some k => exact .inr (by have := (World.ownsRow.lt R9.out k hv).1; have := Z2.out.lt; simp; omega)))
end Go.Proofs.Ytcagcepbnkageaa
