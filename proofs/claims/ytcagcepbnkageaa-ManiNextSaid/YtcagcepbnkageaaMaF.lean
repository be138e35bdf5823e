/- varveref25.Encode. (Printed by wip/tools/mad2.py.) -/
import Derived.Test.YtcagcepbnkageaaMaD
namespace Go.Proofs.Ytcagcepbnkageaa
set_option linter.unusedVariables false
set_option linter.unusedSimpArgs false
open Go.RowKit
attribute [local go_sem] S_size S_toList S_append ent_zero9'

set_option maxRecDepth 20000 in
set_option maxHeartbeats 8000000 in
theorem rEncode_any (m : Man) (v : Value) (w : World) (hr : RR entC 9 w v m.ents) :
    Calls Try.prog 10 #[.agg (manC m v)] w fun e w' => e = .returned (.tuple #[.string (S (manB m)), .int .i64 (errI (maniP m) 250)]) ∧ Ext w w' := by
  have QC := Lib.hid (fun w h => rMCheck_any m v w h)
  have X0 := Lib.hid ((Ext.refl w).alloc (.cells (manC m v) 24))
  have R0 := Lib.hid (hr.ext X0.out)
  have B1 := Lib.hid (Blk.new w 24 (manC m v))
  have MS := Lib.hid (show (Try.prog.info? 24).map (·.size) = some (manC m v).size from man_size)
  cases hp : maniP m with
  | false =>
    have HH := Lib.hid (show manB m = [] by unfold manB; rw [hp]; rfl)
    rw [hp] at QC
    simp only [errI, Bool.false_eq_true, if_false] at QC ⊢
    clear hp hr
    generalize manC m v = mc at *
    go_enter Try.func10, Try.ntmps10
    go_wp2_with (refine wpList_load_blk rfl 24 (.tmp 1) rfl rfl B1.out Try.underlying24 rfl MS.out ?_; refine Held.go ?_)
    refine ⟨?_⟩
    go_wp2_with fail
    refine (QC.out _ R0.out).mono ?_
    rintro _ w1 ⟨rfl, x1⟩
    have X1 := Lib.hid (X0.out.trans x1)
    clear x1
    go_wp2
    exact bodyPost_ret (results_tmp2 rfl _ _ _) rfl ⟨by rw [HH.out]; rfl, X1.out⟩
  | true =>
    have HH := Lib.hid (show manB m = putsL (manK m m.ents.length) by unfold manB; rw [hp]; rfl)
    have HN := Lib.hid (manK_nn hp)
    have hrow := (mani_row hp).2.1
    have hlen := rowP_len hrow
    have HE := Lib.hid (fun i hi => row_ent hrow (i := i) hi)
    rw [hp] at QC
    simp only [errI, if_true] at QC ⊢
    obtain ⟨a, c, rfl, _, _, hs⟩ := hr
    have HS := Lib.hid hs
    have QC := Lib.hid (QC.out _ R0.out)
    have C0 := Lib.hid (show (manC m (.slice a m.ents.length c))[0]? = some (.int .i64 m.gen) from rfl)
    have C1 := Lib.hid (show (manC m (.slice a m.ents.length c))[1]? = some (.int .i64 m.next) from rfl)
    have C2 := Lib.hid (show (manC m (.slice a m.ents.length c))[2]? = some (.int .i64 m.now) from rfl)
    have C3 := Lib.hid (show (manC m (.slice a m.ents.length c))[3]? = some (.int .i64 m.floor) from rfl)
    have C4 := Lib.hid (show (manC m (.slice a m.ents.length c))[4]? = some (.slice a m.ents.length c) from rfl)
    have HLEN := Lib.hid hlen
    have HK0 := Lib.hid (show manK m 0 = [m.gen, m.next, m.now, m.floor, (m.ents.length : Int)] from rfl)
    clear hp hs hrow hlen
    generalize manC m (.slice a m.ents.length c) = mc at *
    go_enter Try.func10, Try.ntmps10
    go_wp2_with (refine wpList_load_blk rfl 24 (.tmp 1) rfl rfl B1.out Try.underlying24 rfl MS.out ?_; refine Held.go ?_)
    refine ⟨?_⟩
    go_wp2_with fail
    refine QC.out.mono ?_
    rintro _ w1 ⟨rfl, x1⟩
    have b1 := B1.out.ext x1
    have c0 := (b1.cell 0).trans C0.out
    have c1 := (b1.cell 1).trans C1.out
    have c2 := (b1.cell 2).trans C2.out
    have c3 := (b1.cell 3).trans C3.out
    have c4 := (b1.cell 4).trans C4.out
    have X1 := Lib.hid (X0.out.trans x1)
    have HB1 := Lib.hid b1
    generalize hgen : m.gen = gen at *
    generalize hnext : m.next = next at *
    generalize hnow : m.now = now at *
    generalize hfloor : m.floor = floor at *
    clear b1 x1 QC hgen hnext hnow hfloor
    go_wp2_with (refine wpList_bs (vs := #[(0, .int .i64 gen), (1, .int .i64 next), (2, .int .i64 now), (3, .int .i64 floor), (4, .int .i64 (m.ents.length : Int))]) rfl 51 5 _ rfl rfl (run_bs5i _ _ _ _ _ _) ?_; refine Held.go ?_)
    refine ⟨?_⟩
    clear c0 c1 c2 c3 c4
    have hN0 : ∀ x ∈ manK m 0, 0 ≤ x ∧ x ≤ 9223372036854775807 := fun x hx => HN.out x (by
      rw [HK0.out] at hx
      have e := HK0.out
      unfold manK at e ⊢
      simp only [List.take_zero, List.flatMap_nil, List.cons.injEq, and_true, true_and] at e
      simp only [List.mem_cons, List.not_mem_nil, or_false] at hx ⊢
      rcases hx with rfl | rfl | rfl | rfl | rfl
      · exact .inl e.1.symm
      · exact .inr (.inl e.2.1.symm)
      · exact .inr (.inr (.inl e.2.2.1.symm))
      · exact .inr (.inr (.inr (.inl e.2.2.2.symm)))
      · exact .inr (.inr (.inr (.inr (.inl rfl)))))
    rw [HK0.out] at hN0
    have QP := Lib.hid (rputs_any [gen, next, now, floor, (m.ents.length : Int)] _ _ (ri_lit [gen, next, now, floor, (m.ents.length : Int)] 5 rfl w1 #[.int .i64 gen, .int .i64 next, .int .i64 now, .int .i64 floor, .int .i64 (m.ents.length : Int)] rfl (by simp)) (by simp) hN0)
    have x2 : Ext w (w1.alloc (.cells #[.int .i64 gen, .int .i64 next, .int .i64 now, .int .i64 floor, .int .i64 (m.ents.length : Int)] 3)) := X1.out.alloc _
    have hb2 := HB1.out.alloc (.cells #[.int .i64 gen, .int .i64 next, .int .i64 now, .int .i64 floor, .int .i64 (m.ents.length : Int)] 3)
    clear hN0
    go_wp2_with fail
    refine QP.out.mono ?_
    rintro _ w2 ⟨rfl, y2⟩
    have X2 := Lib.hid (x2.trans y2)
    have F4 := Lib.hid (((hb2.ext y2).cell 4).trans C4.out)
    have HS0 := Lib.hid (show putsL [gen, next, now, floor, (m.ents.length : Int)] = putsL (manK m 0) by rw [HK0.out])
    have hps := puts_len [gen, next, now, floor, (m.ents.length : Int)]
    clear x2 hb2 y2 hps QP HB1 B1
    rw [HS0.out]
    go_wp2
    go_loopw [4, 5] (fun s i wr => ∃ k : Nat, i = .int .i64 (k : Int) ∧ k ≤ m.ents.length ∧ s = .string (S (putsL (manK m k))) ∧ Ext w2 wr) (fun _ i _ => m.ents.length - (intOf i).toNat)
    case atStart => exact ⟨0, rfl, Nat.zero_le _, rfl, Ext.refl _⟩
    case round =>
      obtain ⟨k, rfl, hk, rfl, hx⟩ := hrel
      have c4 := Go.cell_later hx F4.out
      have hfl := puts_len (manK m k)
      rw [manK_length m k hk] at hfl
      have hlen := HLEN.out
      by_cases hlt : k < m.ents.length
      · obtain ⟨g, o, rfl, hcells⟩ := HS.out (by omega)
        have hI : (k : Int) < (m.ents.length : Int) := by omega
        have R := Lib.hid (rangeAt_ext (hcells k _ (ent_at hlt)) (X2.out.trans hx))
        have hmore := manK_more m k hlt
        have hnn := e9L_nn (HE.out k hlt)
        clear hcells
        generalize m.ents.getD k default = e at *
        obtain ⟨id, gn, fs, sld, ct, bk, ey, lt, bt⟩ := e
        cases sld with
        | false =>
          have hmore := Lib.hid (show putsL (manK m (k + 1)) = putsL (manK m k) ++ putsL [id, gn, fs, 0, ct, bk, ey, lt, bt] by rw [hmore, putsL_app]; rfl)
          have QP := rputs_any [id, gn, fs, 0, ct, bk, ey, lt, bt] _ _ (ri_lit [id, gn, fs, 0, ct, bk, ey, lt, bt] 9 rfl (wr.alloc (.cells #[.int .i64 id, .int .i64 gn, .int .i64 fs, .bool false, .int .i64 ct, .int .i64 bk, .int .i64 ey, .int .i64 lt, .int .i64 bt] 49)) #[.int .i64 id, .int .i64 gn, .int .i64 fs, .int .i64 0, .int .i64 ct, .int .i64 bk, .int .i64 ey, .int .i64 lt, .int .i64 bt] rfl (by simp)) (by simp) hnn
          rw [World.size_alloc] at QP
          have QP := Lib.hid QP
          have hsl := puts_len [id, gn, fs, 0, ct, bk, ey, lt, bt]
          rw [show ([id, gn, fs, 0, ct, bk, ey, lt, bt] : List Int).length = 9 from rfl] at hsl
          have EZ := Lib.hid (show (Try.prog.info? 49).map (·.size) = some 9 from ent_size)
          have HX := Lib.hid hx
          have c4' := Lib.hid (Go.cell_later ((Ext.refl wr).alloc (.cells #[.int .i64 id, .int .i64 gn, .int .i64 fs, .bool false, .int .i64 ct, .int .i64 bk, .int .i64 ey, .int .i64 lt, .int .i64 bt] 49)) c4)
          have HLT := Lib.hid hlt
          have b1 : ((putsL (manK m k)).length : Int) ≤ 100000 := by omega
          have b2 : ((putsL [id, gn, fs, 0, ct, bk, ey, lt, bt]).length : Int) ≤ 100 := by omega
          have hl100 : (m.ents.length : Int) ≤ 100 := hlen.2
          clear hx hnn hfl hsl hk hlt hlen
          generalize putsL [id, gn, fs, 0, ct, bk, ey, lt, bt] = p9 at *
          generalize putsL (manK m k) = pk at *
          go_wp2_with (refine wpList_load_mid rfl 49 (.tmp 34) rfl g _ rfl [.int .i64 id, .int .i64 gn, .int .i64 fs, .bool false, .int .i64 ct, .int .i64 bk, .int .i64 ey, .int .i64 lt, .int .i64 bt] _ R.out Try.underlying49 rfl EZ.out ?_; refine Held.go ?_)
          refine ⟨?_⟩
          clear c4
          go_wp2_with (refine wpList_store_new rfl 49 (.tmp 6) (.tmp 35) rfl rfl rfl rfl EZ.out (by kernel_rfl) ?_; refine Held.go ?_)
          refine ⟨?_⟩
          go_wp2_with (refine wpList_bs (vs := #[(0, .int .i64 id), (1, .int .i64 gn), (2, .int .i64 fs), (3, .int .i64 0), (4, .int .i64 ct), (5, .int .i64 bk), (6, .int .i64 ey), (7, .int .i64 lt), (8, .int .i64 bt)]) rfl 51 9 _ rfl rfl (run_bs9i _ _ _ _ _ _ _ _ _ _) ?_; refine Held.go ?_)
          refine ⟨?_⟩
          go_wp2_with fail
          refine QP.out.mono ?_
          rintro _ w3 ⟨rfl, x3⟩
          have X3 := Lib.hid (((HX.out.alloc _).alloc _).trans x3)
          clear x3
          go_wp2
          go_roundw
          case rel => exact ⟨k + 1, by go_num, HLT.out, by rw [hmore.out], X3.out⟩
          case measure => simp [intOf]; have := HLT.out; omega
        | true =>
          have hmore := Lib.hid (show putsL (manK m (k + 1)) = putsL (manK m k) ++ putsL [id, gn, fs, 1, ct, bk, ey, lt, bt] by rw [hmore, putsL_app]; rfl)
          have QP := rputs_any [id, gn, fs, 1, ct, bk, ey, lt, bt] _ _ (ri_lit [id, gn, fs, 1, ct, bk, ey, lt, bt] 9 rfl (wr.alloc (.cells #[.int .i64 id, .int .i64 gn, .int .i64 fs, .bool true, .int .i64 ct, .int .i64 bk, .int .i64 ey, .int .i64 lt, .int .i64 bt] 49)) #[.int .i64 id, .int .i64 gn, .int .i64 fs, .int .i64 1, .int .i64 ct, .int .i64 bk, .int .i64 ey, .int .i64 lt, .int .i64 bt] rfl (by simp)) (by simp) hnn
          rw [World.size_alloc] at QP
          have QP := Lib.hid QP
          have hsl := puts_len [id, gn, fs, 1, ct, bk, ey, lt, bt]
          rw [show ([id, gn, fs, 1, ct, bk, ey, lt, bt] : List Int).length = 9 from rfl] at hsl
          have EZ := Lib.hid (show (Try.prog.info? 49).map (·.size) = some 9 from ent_size)
          have HX := Lib.hid hx
          have c4' := Lib.hid (Go.cell_later ((Ext.refl wr).alloc (.cells #[.int .i64 id, .int .i64 gn, .int .i64 fs, .bool true, .int .i64 ct, .int .i64 bk, .int .i64 ey, .int .i64 lt, .int .i64 bt] 49)) c4)
          have HLT := Lib.hid hlt
          have b1 : ((putsL (manK m k)).length : Int) ≤ 100000 := by omega
          have b2 : ((putsL [id, gn, fs, 1, ct, bk, ey, lt, bt]).length : Int) ≤ 100 := by omega
          have hl100 : (m.ents.length : Int) ≤ 100 := hlen.2
          clear hx hnn hfl hsl hk hlt hlen
          generalize putsL [id, gn, fs, 1, ct, bk, ey, lt, bt] = p9 at *
          generalize putsL (manK m k) = pk at *
          go_wp2_with (refine wpList_load_mid rfl 49 (.tmp 34) rfl g _ rfl [.int .i64 id, .int .i64 gn, .int .i64 fs, .bool true, .int .i64 ct, .int .i64 bk, .int .i64 ey, .int .i64 lt, .int .i64 bt] _ R.out Try.underlying49 rfl EZ.out ?_; refine Held.go ?_)
          refine ⟨?_⟩
          clear c4
          go_wp2_with (refine wpList_store_new rfl 49 (.tmp 6) (.tmp 35) rfl rfl rfl rfl EZ.out (by kernel_rfl) ?_; refine Held.go ?_)
          refine ⟨?_⟩
          go_wp2_with (refine wpList_bs (vs := #[(0, .int .i64 id), (1, .int .i64 gn), (2, .int .i64 fs), (3, .int .i64 1), (4, .int .i64 ct), (5, .int .i64 bk), (6, .int .i64 ey), (7, .int .i64 lt), (8, .int .i64 bt)]) rfl 51 9 _ rfl rfl (run_bs9i _ _ _ _ _ _ _ _ _ _) ?_; refine Held.go ?_)
          refine ⟨?_⟩
          go_wp2_with fail
          refine QP.out.mono ?_
          rintro _ w3 ⟨rfl, x3⟩
          have X3 := Lib.hid (((HX.out.alloc _).alloc _).trans x3)
          clear x3
          go_wp2
          go_roundw
          case rel => exact ⟨k + 1, by go_num, HLT.out, by rw [hmore.out], X3.out⟩
          case measure => simp [intOf]; have := HLT.out; omega
      · have e : k = m.ents.length := by omega
        subst e
        have hI : ¬ (m.ents.length : Int) < (m.ents.length : Int) := by omega
        have HX := Lib.hid hx
        clear hx hfl hlen hk hlt
        go_wp2
        exact bodyPost_ret (results_tmp2 rfl _ _ _) rfl ⟨by rw [HH.out]; rfl, X2.out.trans HX.out⟩
end Go.Proofs.Ytcagcepbnkageaa
