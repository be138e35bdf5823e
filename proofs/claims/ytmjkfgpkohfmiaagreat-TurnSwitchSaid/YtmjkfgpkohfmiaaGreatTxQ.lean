/- TurnSwitch: the law's walk. -/
import Derived.Test.YtmjkfgpkohfmiaaGreatTxP
namespace Go.Proofs.YtmjkfgpkohfmiaaGreat
set_option linter.unusedVariables false
set_option linter.unusedSimpArgs false
open Go.RowKit

attribute [local go_sem] S_size S_toList S_append S_extract S_beq S_bne S_empty S_nil man_zero

set_option maxRecDepth 20000 in
set_option maxHeartbeats 16000000 in
theorem turnSwitch_law (v1 : Value) (l : List MD) (arm : Int) (wa : (Lit.int .i64 arm).wf = true) (a : ActD) (w : World) (r1 : RR mdC 5 w v1 l) (b1 : (l.length : Int) ≤ 9223372036854775807) (R1 : ∀ x ∈ l, MW w x)
    (aw : ActW w a) (ac : chA a) :
    Calls Tryz.prog 3 #[v1, .int .i64 arm, .agg #[.int .i64 a.dir, a.vc, a.vm]] w fun e w' => e = .returned (.bool true) ∧ Ext w w' := by
  have QA := Lib.hid awake_any
  obtain ⟨p1, c1, rfl, _, _, s1⟩ := r1
  have X0 := Lib.hid ((Ext.refl w).alloc (.cells #[.int .i64 a.dir, a.vc, a.vm] 26))
  have B0 := Lib.hid (Blk.new w 26 #[.int .i64 a.dir, a.vc, a.vm])
  have CI := Lib.hid (show (Tryz.prog.info? 26).map (·.size) = some #[Value.int .i64 a.dir, a.vc, a.vm].size by kernel_rfl)
  have X1 := Lib.hid (X0.out.alloc (.cells (actC a).toArray 29))
  have q3 := few_of (w1 := (w.alloc (.cells #[.int .i64 a.dir, a.vc, a.vm] 26)).alloc (.cells (actC a).toArray 29)) (act_rr (a := a) (Blk.new (w.alloc (.cells #[.int .i64 a.dir, a.vc, a.vm] 26)) 29 (actC a).toArray)) (fun y hy => by rw [List.mem_singleton] at hy; subst hy; exact aw.ext X1.out) (by simp) (Ext.refl _)
  rw [World.size_alloc] at q3
  have BS := act_bs aw
  have EA : (actC a).toArray = #[.int .i64 0, .int .i64 0, .string (S []), .string (S []), .int .i64 a.dir, a.vc, a.vm] := by
    obtain ⟨h1, h2, h3, h4⟩ := ac
    unfold actC
    rw [h1, h2, h3, h4]
  rw [EA] at q3 BS X1
  have Q3 := Lib.hid q3
  have AW := Lib.hid aw
  have S1 := Lib.hid s1
  have HR1 := Lib.hid R1
  have WA := Lib.hid (i64_le wa)
  clear q3 EA aw ac R1 s1 wa
  by_cases f1 : 8 < (l.length : Int)
  · go_enter Tryz.func3, Tryz.ntmps3
    go_wp2_with fail
    refine (QA.out _).mono ?_
    rintro _ w2 ⟨rfl, x2⟩
    go_wp2
    go_ret
    exact ⟨rfl, X0.out.trans x2⟩
  by_cases fk : arm < 1
  · go_enter Tryz.func3, Tryz.ntmps3
    go_wp2_with fail
    refine (QA.out _).mono ?_
    rintro _ w2 ⟨rfl, x2⟩
    go_wp2
    go_ret
    exact ⟨rfl, X0.out.trans x2⟩
  have KD1 := Lib.hid (show decide ((8 : Int) < (l.length : Int)) = false from decide_eq_false f1)
  have KD2 := Lib.hid (show decide (arm < (1 : Int)) = false from decide_eq_false fk)
  by_cases f3 : ¬ FewA [a]
  · rw [decide_eq_false f3] at Q3
    go_enter Tryz.func3, Tryz.ntmps3
    go_wp2_with (refine wpList_hold 23 rfl ?_)
    refine ⟨?_⟩
    try simp only [KD1.out, KD2.out]
    go_wp2_with (refine wpList_load_blk_g (by kernel_rfl) 26 (.tmp 5) rfl rfl B0.out Tryz.underlying26 rfl CI.out ?_; refine Held.go ?_)
    refine ⟨?_⟩
    go_wp2_with (refine wpList_bs_g (vs := #[(0, .agg #[.int .i64 0, .int .i64 0, .string (S []), .string (S []), .int .i64 a.dir, a.vc, a.vm])]) (by kernel_rfl) 30 1 _ rfl rfl (BS _) ?_; refine Held.go ?_)
    refine ⟨?_⟩
    go_wp2_with fail
    refine (Q3.out).mono ?_
    rintro _ w1 ⟨rfl, rfl⟩
    go_wp2_with fail
    refine (QA.out _).mono ?_
    rintro _ w2 ⟨rfl, x2⟩
    go_wp2
    go_ret
    exact ⟨rfl, X1.out.trans x2⟩
  have f3 := Decidable.not_not.1 f3
  rw [decide_eq_true f3] at Q3
  have SW0 := Lib.hid (sw_first arm (Int.not_lt.1 fk))
  go_enter Tryz.func3, Tryz.ntmps3
  go_wp2_with (refine wpList_hold 23 rfl ?_)
  refine ⟨?_⟩
  try simp only [KD1.out, KD2.out]
  go_wp2_with (refine wpList_load_blk_g (by kernel_rfl) 26 (.tmp 5) rfl rfl B0.out Tryz.underlying26 rfl CI.out ?_; refine Held.go ?_)
  refine ⟨?_⟩
  go_wp2_with (refine wpList_bs_g (vs := #[(0, .agg #[.int .i64 0, .int .i64 0, .string (S []), .string (S []), .int .i64 a.dir, a.vc, a.vm])]) (by kernel_rfl) 30 1 _ rfl rfl (BS _) ?_; refine Held.go ?_)
  refine ⟨?_⟩
  go_wp2_with fail
  refine (Q3.out).mono ?_
  rintro _ w1 ⟨rfl, rfl⟩
  go_wp2_with fail
  refine (has_new 1000000 _ (by decide) (by decide)).mono ?_
  rintro _ w1 ⟨b, rfl, K0, h0, st0⟩
  have BW := Lib.hid (B0.out.alloc (.cells #[.int .i64 0, .int .i64 0, .string (S []), .string (S []), .int .i64 a.dir, a.vc, a.vm] 29))
  clear f3 Q3 BS B0 X0 KD1 KD2
  generalize (w.alloc (.cells #[.int .i64 a.dir, a.vc, a.vm] 26)).alloc (.cells #[.int .i64 0, .int .i64 0, .string (S []), .string (S []), .int .i64 a.dir, a.vc, a.vm] 29) = W at *
  have I0 := Lib.hid (show Has w1 b K0 (Dsk.new 1000000) ∧ Stp [] K0 W w1 from ⟨h0, st0⟩)
  clear h0 st0
  go_wp2_with fail
  refine (first_any _).mono ?_
  rintro _ w2 ⟨u2, rfl, r2, x2⟩
  have QS := save_any (I0.out.1.ext x2) (by decide) first26 u2 r2
  rw [jx1] at QS
  have QS := Lib.hid QS
  have S2 := Lib.hid (I0.out.2.then x2)
  clear x2 r2 I0
  go_wp2_with fail
  refine Calls.mono QS.out ?_
  rintro _ w3 ⟨rfl, K3, h3, st3⟩
  have QM := has_arm h3 arm WA.out
  rw [SW0.out.1] at QM
  have QM := Lib.hid QM
  have S3 := Lib.hid (S2.out.trans st3)
  have SWd := Lib.hid SW0.out.2
  clear st3 h3 S2 QS SW0
  generalize ((⟨[(firstT, firstT)], [(maniN, 0)], [(maniN, 0)], [], 1000000, 5, 0, false⟩ : Dsk).arm arm).1 = d0 at *
  go_wp2_with fail
  refine Calls.mono QM.out ?_
  rintro _ w4 ⟨rfl, K4, h4, st4⟩
  have H4 := Lib.hid h4
  have S4 := Lib.hid (S3.out.trans st4)
  clear h4 st4 S3 QM
  go_wp2_with fail
  refine (first_new _).mono ?_
  rintro _ w5 ⟨a5, c5, rfl, r5, x5, f5⟩
  have H5 := Lib.hid (H4.out.ext x5)
  have S5 := Lib.hid (S4.out.then x5)
  have E5 := Lib.hid (show ER K4 w5 (.slice a5 1 c5) first26.ents from ⟨r5, fun k hk => ⟨fun hm => by have := H4.out.lt k hm; have := f5 k hk; omega, r5.ltB (by decide) hk⟩⟩)
  clear r5 x5 f5 H4 S4
  go_wp2_with fail
  refine (first_new _).mono ?_
  rintro _ w6 ⟨a6, c6, rfl, r6, x6, f6⟩
  have H6 := Lib.hid (H5.out.ext x6)
  have S6 := Lib.hid (S5.out.then x6)
  have E6 := Lib.hid (E5.out.stp (Stp.of_ext x6))
  have F6 := Lib.hid (show ER K4 w6 (.slice a6 1 c6) first26.ents from ⟨r6, fun k hk => ⟨fun hm => by have := H5.out.lt k hm; have := f6 k hk; omega, r6.ltB (by decide) hk⟩⟩)
  clear r6 x6 f6 H5 S5 E5
  have NL8 := Lib.hid (show (l.length : Int) ≤ 8 from Int.not_lt.1 (by omega))
  have MZ := Lib.hid (show (Tryz.prog.info? 39).map (·.size) = some 5 from man_size)
  have x7 : Ext w6 ((w6.alloc (.cells #[.int .i64 0, .int .i64 0, .int .i64 0, .int .i64 0, .slice none 0 0] 39)).alloc (.cells #[.int .i64 0, .int .i64 0, .int .i64 0, .int .i64 0, .slice none 0 0] 39)) := ((Ext.refl w6).alloc _).alloc _
  have b9 := (Blk.new w6 39 #[.int .i64 0, .int .i64 0, .int .i64 0, .int .i64 0, .slice none 0 0]).alloc (.cells #[.int .i64 0, .int .i64 0, .int .i64 0, .int .i64 0, .slice none 0 0] 39)
  have b10 := Blk.new (w6.alloc (.cells #[.int .i64 0, .int .i64 0, .int .i64 0, .int .i64 0, .slice none 0 0] 39)) 39 #[.int .i64 0, .int .i64 0, .int .i64 0, .int .i64 0, .slice none 0 0]
  rw [World.size_alloc] at b10
  have B9 := Lib.hid b9
  have B10 := Lib.hid (b10.setRow_far (show w6.heap.size + 1 ≠ w6.heap.size by omega) (manC first26 (.slice a5 1 c5)))
  have I7 := Lib.hid (show SwM W ((((w6.alloc (.cells #[.int .i64 0, .int .i64 0, .int .i64 0, .int .i64 0, .slice none 0 0] 39)).alloc (.cells #[.int .i64 0, .int .i64 0, .int .i64 0, .int .i64 0, .slice none 0 0] 39)).setRow w6.heap.size (manC first26 (.slice a5 1 c5))).setRow (w6.heap.size + 1) (manC first26 (.slice a6 1 c6))) b w6.heap.size (w6.heap.size + 1) K4 d0 ⟨first26, .slice a5 1 c5⟩ ⟨first26, .slice a6 1 c6⟩ from by
    have n9 : w6.heap.size ∉ K4 := fun hm => by have := H6.out.lt _ hm; omega
    have n10 : w6.heap.size + 1 ∉ K4 := fun hm => by have := H6.out.lt _ hm; omega
    have e5 := E6.out.stp (Stp.of_ext x7)
    have e6 := F6.out.stp (Stp.of_ext x7)
    have s9 : (#[.int .i64 0, .int .i64 0, .int .i64 0, .int .i64 0, .slice none 0 0] : Array Value).size < 9 := by show 5 < 9; omega
    have b10' := b10.setRow_far (show w6.heap.size + 1 ≠ w6.heap.size by omega) (manC first26 (.slice a5 1 c5))
    have hW := S6.out.ext.size
    exact {
      has := has_row (has_row (H6.out.ext x7) n9 _) n10 _
      stp := ⟨But.of_ext (Ext.setRow (Ext.setRow ((S6.out.then x7).ext) hW _) (by omega) _), S6.out.2⟩
      b9 := (b9.setRow _).setRow_far (by omega) _
      b10 := b10'.setRow _
      n9 := n9
      n10 := n10
      ne := by omega
      l9 := hW
      l10 := by omega
      e9 := (e5.far b9 s9 _).far b10' s9 _
      e10 := (e6.far b9 s9 _).far b10' s9 _
      p9 := first_may
      p10 := first_may }) 
  clear E6 F6 H6 S6 x7 b9 b10
  go_wp2_with (refine wpList_store_blk rfl 39 (.tmp 9) (.tmp 52) rfl rfl rfl B9.out rfl MZ.out (by kernel_rfl) ?_; refine Held.go ?_)
  refine ⟨?_⟩
  go_wp2_with (refine wpList_store_blk rfl 39 (.tmp 10) (.tmp 53) rfl rfl rfl B10.out rfl MZ.out (by kernel_rfl) ?_; refine Held.go ?_)
  refine ⟨?_⟩
  clear B9 B10
  generalize ((((w6.alloc (.cells #[.int .i64 0, .int .i64 0, .int .i64 0, .int .i64 0, .slice none 0 0] 39)).alloc (.cells #[.int .i64 0, .int .i64 0, .int .i64 0, .int .i64 0, .slice none 0 0] 39)).setRow w6.heap.size (manC first26 (.slice a5 1 c5))).setRow (w6.heap.size + 1) (manC first26 (.slice a6 1 c6))) = w7 at *
  generalize w6.heap.size + 1 = g10 at *
  generalize w6.heap.size = g9 at *
  go_wp2_with fail
  go_loopw [11] (fun i wr => ∃ (k : Nat) (K : List Nat) (d : Dsk) (mo mn : MD), i = .int .i64 (k : Int) ∧ k ≤ l.length ∧ RowKit.Hid (SwM W wr b g9 g10 K d mo mn ∧ mn.m = mo.m ∧ Sw mo.m k d)) (fun i _ => l.length - (intOf i).toNat)
  case atStart => exact ⟨0, K4, d0, _, _, rfl, Nat.zero_le _, Lib.hid ⟨I7.out, rfl, SWd.out⟩⟩
  case round =>
    obtain ⟨k, K, d, mo, mn, rfl, hk, HS⟩ := hrel
    clear I7 SWd
    by_cases hlt : k < l.length
    · have hI : (k : Int) < (l.length : Int) := by omega
      obtain ⟨g, o, rfl, hc⟩ := S1.out (by omega)
      obtain ⟨x, hx⟩ : ∃ x, l[k]? = some x := ⟨_, List.getElem?_eq_getElem hlt⟩
      have XW := Lib.hid (X1.out.trans HS.out.1.stp.ext)
      have ra := rangeAt_ext (hc k x hx) XW.out
      have MWx := (HR1.out x (List.mem_of_getElem? hx)).ext X1.out
      obtain ⟨ax, cx, hu, _, _, _⟩ := MWx.1
      have c4 : wr.cell? ⟨g, o + k * 5 + 4, none⟩ = some x.u := ra 4 _ rfl
      rw [hu] at c4
      have RA := Lib.hid ra
      have RAWW := Lib.hid (fun (w' : World) (h : Ext W w') => rangeAt_ext (hc k x hx) (X1.out.trans h))
      have ZA := Lib.hid (show (Tryz.prog.info? 39).map (·.size) = some (mdC x).length from man_size)
      have RXW := Lib.hid MWx.1
      have QC := mCheck_any x.m x.u wr (MWx.1.ext HS.out.1.stp.ext)
      have QSW := Lib.hid (fun (w' : World) (h : Ext wr w') => save_any (HS.out.1.ext h).has (by have := HS.out.2.2.ops; omega) x.m x.u (MWx.1.ext ((HS.out.1.stp.ext).trans h)))
      rw [← mdC_man] at QC
      have QC := Lib.hid QC
      have LE := Lib.hid MWx.2
      have HKM := Lib.hid hlt
      have SL := Lib.hid (HS.out.2.2.le (Nat.le_succ k))
      have SV := Lib.hid (fun hp => HS.out.2.2.save (m := x.m) hp)
      have MSZ := Lib.hid (show ∀ (m : Man) (u : Value), (manC m u).size = (mdC x).toArray.size from fun _ _ => rfl)
      have MI := Lib.hid (show (Tryz.prog.info? 39).map (·.size) = some (mdC x).toArray.size from man_size)
      have MO := Lib.hid (show (mdC x).toArray.all (·.oneCell') = true from by rw [mdC_man, hu]; exact man_oneS x.m ax _ cx)
      clear hc hx hlt hk ra MWx hu
      have hle := LE.out
      by_cases h120 : 120 < (x.m.ents.length : Int)
      · clear RA QC QSW SV
        go_wp2_with fail
        go_roundw
        case rel => exact ⟨k + 1, K, d, mo, mn, by go_num, by have := HKM.out; omega, Lib.hid ⟨HS.out.1, HS.out.2.1, SL.out⟩⟩
        case measure => simp [intOf]; have := HKM.out; omega
      · have KD := Lib.hid (show decide ((120 : Int) < (x.m.ents.length : Int)) = false from decide_eq_false h120)
        have hbl : (x.m.ents.length : Int) ≤ 120 := by omega
        obtain ⟨L, hL⟩ : ∃ L, L = mdC x := ⟨_, rfl⟩
        rw [← hL] at RA ZA QC RAWW MSZ MI MO
        have HL := Lib.hid hL
        have LA := Lib.hid (show L.toArray = manC x.m x.u from by rw [hL]; rfl)
        clear hL
        go_wp2_with (refine wpList_hold 71 rfl ?_)
        refine ⟨?_⟩
        try simp only [KD.out]
        go_wp2_with (refine wpList_load_mid_g (by kernel_rfl) 39 (.tmp 70) rfl g _ rfl _ _ RA.out Tryz.underlying39 rfl ZA.out ?_; refine Held.go ?_)
        refine ⟨?_⟩
        go_wp2_with fail
        refine Calls.mono QC.out ?_
        rintro _ w8 ⟨rfl, x8⟩
        have X8 := Lib.hid x8
        have H8 := Lib.hid (HS.out.1.ext x8)
        clear x8
        cases hp : maniP x.m with
        | false =>
          have e : errI false 250 = 250 := rfl
          rw [e]
          clear hp e QSW SV
          go_wp2_with fail
          go_roundw
          case rel => exact ⟨k + 1, K, d, mo, mn, by go_num, by have := HKM.out; omega, Lib.hid ⟨H8.out, HS.out.2.1, SL.out⟩⟩
          case measure => simp [intOf]; have := HKM.out; omega
        | true =>
          have e : errI true 250 = 0 := rfl
          rw [e]
          have HP := Lib.hid hp
          have HE := Lib.hid (mani_ents hp)
          have QS := QSW.out w8 X8.out
          rw [← mdC_man, ← HL.out] at QS
          have QS := Lib.hid QS
          have R8 := Lib.hid (RAWW.out _ H8.out.stp.ext)
          clear hp e QSW
          go_wp2_with (refine wpList_load_mid rfl 39 (.tmp 78) rfl g _ rfl _ _ R8.out Tryz.underlying39 rfl ZA.out ?_; refine Held.go ?_)
          refine ⟨?_⟩
          go_wp2_with fail
          refine Calls.mono QS.out ?_
          rintro _ w9 ⟨rfl, K9, h9, st9⟩
          have I9 := Lib.hid (H8.out.turn h9 st9)
          clear h9 st9 QS R8 QC
          rcases SV.out HP.out with ⟨z, sw9⟩ | ⟨z, fe9, op9⟩
          · rw [z]
            have SW9 := Lib.hid sw9
            have MSZ := Lib.hid (MSZ.out mo.m mo.u)
            clear z sw9 SV
            go_wp2_with fail
            refine wp_region_v [4, 5, 6, 7] 10 rfl (by kernel_rfl) ?_
            have yd : Ext w9 w9.drew := (Ext.refl w9).drew
            have RD := Lib.hid (RAWW.out _ (I9.out.stp.ext.trans yd))
            iterate 3
              (refine v_want (by kernel_rfl) (by kernel_rfl) (by kernel_rfl) (fun _ _ _ _ h => h) (by kernel_rfl) (by kernel_rfl) (fun KK hK => ?_)
               go_simp
               (refine hK _ ?_; clear hK KK))
            refine v_load_mid (by kernel_rfl) (by kernel_rfl) (by kernel_rfl) (fun _ _ _ _ h => h) (by kernel_rfl) (by kernel_rfl) 39 (.tmp 95) rfl rfl RD.out Tryz.underlying39 rfl ZA.out ?_
            dsimp only [Act.put]
            simp only [List.setIfInBounds_toArray, List.set_cons_succ, List.set_cons_zero]
            iterate 3
              (refine v_pure (by kernel_rfl) (by kernel_rfl) (by kernel_rfl) (fun _ _ _ _ h => h) (by kernel_rfl) (fun KK hK => ?_)
               go_simp
               (refine hK _ ?_; clear hK KK))
            refine v_rest ?_
            have I9d := Lib.hid (I9.out.ext yd)
            clear I9 yd
            generalize w9.drew = w10 at *
            refine v_fork 7 8 (by kernel_rfl) rfl rfl (by kernel_rfl) (by kernel_rfl) (fun xa KK hK => ?_) (fun xa KK hK => ?_)
            focus
              refine wp_load_mid 39 (.tmp 99) rfl g _ rfl _ _ (RAWW.out _ (I9d.out.stp.ext.trans xa.ext)) Tryz.underlying39 rfl ZA.out (hK _ _ (fun _ => Ext.refl _) ?_)
              dsimp only [Act.put]
              simp only [List.setIfInBounds_toArray, List.set_cons_succ, List.set_cons_zero]
              clear hK KK
              refine v_one 8 (by kernel_rfl) rfl (by kernel_rfl) fun xb KK hK => ?_
              have j0 := (I9d.out.ext xa.ext).ext xb.ext
              have j1 : SwM W (xb.val.setRow g9 L.toArray) b g9 g10 K9 (d.saveM x.m).1 x mn := by
                have t := j0.set9 (ER.of RXW.out HE.out j0.stp) HP.out; rw [← LA.out] at t; exact t
              refine wp_store_blk 39 (.tmp 9) (.tmp 96) rfl rfl (cs' := L.toArray) rfl j0.b9 MSZ.out MI.out MO.out (hK _ _ (fun h0 => (Bool.false_ne_true (h0.symm.trans (by kernel_rfl))).elim) ?_)
              dsimp only [Act.put]
              clear hK KK
              refine v_one 9 (by kernel_rfl) rfl (by kernel_rfl) fun xc KK hK => ?_
              have j2 := j1.ext xc.ext
              have j3 : SwM W (xc.val.setRow g10 L.toArray) b g9 g10 K9 (d.saveM x.m).1 x x := by
                have t := j2.set10 (ER.of RXW.out HE.out j2.stp) HP.out; rw [← LA.out] at t; exact t
              refine wp_store_blk 39 (.tmp 10) (.tmp 100) rfl rfl (cs' := L.toArray) rfl j2.b10 MSZ.out MI.out MO.out (hK _ _ (fun h0 => (Bool.false_ne_true (h0.symm.trans (by kernel_rfl))).elim) ?_)
              dsimp only [Act.put]
              clear hK KK
              refine v_done (by kernel_rfl) (fun y => ?_)
              have J := Lib.hid (j3.ext y.ext)
              clear j0 j1 j2 j3
              generalize y.val = w11 at *
              go_wp2
              go_roundw
              case rel => exact ⟨k + 1, K9, _, x, x, by go_num, by have := HKM.out; omega, Lib.hid ⟨J.out, rfl, SW9.out⟩⟩
              case measure => simp [intOf]; have := HKM.out; omega
            have j0 := I9d.out.ext xa.ext
            have j1 : SwM W (xa.val.setRow g9 L.toArray) b g9 g10 K9 (d.saveM x.m).1 x mn := by
              have t := j0.set9 (ER.of RXW.out HE.out j0.stp) HP.out; rw [← LA.out] at t; exact t
            refine wp_store_blk 39 (.tmp 9) (.tmp 96) rfl rfl (cs' := L.toArray) rfl j0.b9 MSZ.out MI.out MO.out (hK _ _ (fun h0 => (Bool.false_ne_true (h0.symm.trans (by kernel_rfl))).elim) ?_)
            dsimp only [Act.put]
            clear hK KK
            refine v_one 7 (by kernel_rfl) rfl (by kernel_rfl) fun xb KK hK => ?_
            have j2 := j1.ext xb.ext
            refine wp_load_mid 39 (.tmp 99) rfl g _ rfl _ _ (RAWW.out _ j2.stp.ext) Tryz.underlying39 rfl ZA.out (hK _ _ (fun _ => Ext.refl _) ?_)
            dsimp only [Act.put]
            simp only [List.setIfInBounds_toArray, List.set_cons_succ, List.set_cons_zero]
            clear hK KK
            refine v_one 9 (by kernel_rfl) rfl (by kernel_rfl) fun xc KK hK => ?_
            have j3 := j2.ext xc.ext
            have j4 : SwM W (xc.val.setRow g10 L.toArray) b g9 g10 K9 (d.saveM x.m).1 x x := by
              have t := j3.set10 (ER.of RXW.out HE.out j3.stp) HP.out; rw [← LA.out] at t; exact t
            refine wp_store_blk 39 (.tmp 10) (.tmp 100) rfl rfl (cs' := L.toArray) rfl j3.b10 MSZ.out MI.out MO.out (hK _ _ (fun h0 => (Bool.false_ne_true (h0.symm.trans (by kernel_rfl))).elim) ?_)
            dsimp only [Act.put]
            clear hK KK
            refine v_done (by kernel_rfl) (fun y => ?_)
            have J := Lib.hid (j4.ext y.ext)
            clear j0 j1 j2 j3 j4
            generalize y.val = w11 at *
            go_wp2
            go_roundw
            case rel => exact ⟨k + 1, K9, _, x, x, by go_num, by have := HKM.out; omega, Lib.hid ⟨J.out, rfl, SW9.out⟩⟩
            case measure => simp [intOf]; have := HKM.out; omega
          · rw [z]
            have FE := Lib.hid fe9
            have OP := Lib.hid (show (d.saveM x.m).1.ops ≤ 1000 from by have := HKM.out; have := NL8.out; omega)
            have R9 := Lib.hid (RAWW.out _ I9.out.stp.ext)
            have j1 : SwM W (w9.setRow g10 L.toArray) b g9 g10 K9 (d.saveM x.m).1 mo x := by
              have t := I9.out.set10 (ER.of RXW.out HE.out I9.out.stp) HP.out; rw [← LA.out] at t; exact t
            have HM := Lib.hid j1
            clear z fe9 op9 SV j1
            go_wp2_with (refine wpList_load_mid rfl 39 (.tmp 91) rfl g _ rfl _ _ R9.out Tryz.underlying39 rfl ZA.out ?_; refine Held.go ?_)
            refine ⟨?_⟩
            go_wp2_with (refine wpList_store_blk rfl 39 (.tmp 10) (.tmp 92) rfl rfl rfl I9.out.b10 (MSZ.out mn.m mn.u) MI.out MO.out ?_; refine Held.go ?_)
            refine ⟨?_⟩
            have QO := Lib.hid (has_off HM.out.has (by have := OP.out; omega))
            go_wp2_with fail
            refine Calls.mono QO.out ?_
            rintro _ wa ⟨rfl, Ka, ha, sta⟩
            have HMa := Lib.hid (HM.out.turn ha sta)
            clear ha sta HM QO
            have BC := Lib.hid (BW.out.ext HMa.out.stp.ext)
            have AWr := AW.out.ext (X1.out.trans HMa.out.stp.ext)
            have QB := Lib.hid (has_boot HMa.out.has (by show (d.saveM x.m).1.ops ≤ _; have := OP.out; omega) a.dir AWr.cuts AWr.marks AWr.cl AWr.ml AWr.mkl)
            clear AWr
            go_wp2_with (refine wpList_load_blk rfl 26 (.tmp 5) rfl rfl BC.out Tryz.underlying26 rfl CI.out ?_; refine Held.go ?_)
            refine ⟨?_⟩
            go_wp2_with fail
            refine Calls.mono QB.out ?_
            rintro _ wb ⟨rfl, Kb, hb, stb⟩
            have HMb := Lib.hid (HMa.out.turn hb stb)
            have LD := Lib.hid (fell_load FE.out HMb.out.p9 HMb.out.p10 a.dir a.cuts a.marks)
            have QL := Lib.hid (load_any hb (by show (d.saveM x.m).1.ops ≤ _; have := OP.out; omega))
            clear hb stb HMa QB BC FE
            generalize ((d.saveM x.m).1).off.boot a.dir a.cuts a.marks = db at *
            go_wp2_with fail
            refine Calls.mono QL.out ?_
            rintro _ wc ⟨uc, rfl, xc, rc, _⟩
            obtain ⟨mc, hmc⟩ : ∃ mc, mc = db.loadM.1 := ⟨_, rfl⟩
            have hz : db.loadM.2 = 0 := by rcases LD.out with e | e <;> rw [e]
            have hor : mc = mo.m ∨ mc = x.m := by rcases LD.out with e | e <;> rw [hmc, e] <;> simp
            rw [hz]
            rw [← hmc] at rc ⊢
            have HMc := Lib.hid (HMb.out.ext xc)
            clear xc HMb QL LD hz hmc
            obtain ⟨ac, cc, rfl, hrc⟩ := rc
            have RC := Lib.hid (show RR entC 9 wc (.slice ac mc.ents.length cc) mc.ents from ⟨ac, cc, rfl, hrc⟩)
            have HOR := Lib.hid hor
            clear hor hrc
            have MSc := Lib.hid (show (Tryz.prog.info? 39).map (·.size) = some (manC mc (.slice ac mc.ents.length cc)).size from man_size)
            have MOc := Lib.hid (man_oneS mc ac mc.ents.length cc)
            have SZc := Lib.hid (show (#[.int .i64 0, .int .i64 0, .int .i64 0, .int .i64 0, .slice none 0 0] : Array Value).size = (manC mc (.slice ac mc.ents.length cc)).size from rfl)
            have Xd := Lib.hid ((Ext.refl wc).alloc (.cells (manC mc (.slice ac mc.ents.length cc)) 39))
            have B13 := Lib.hid (Blk.new wc 39 (manC mc (.slice ac mc.ents.length cc)))
            have HMd := Lib.hid (HMc.out.ext Xd.out)
            have RCd := Lib.hid (RC.out.ext Xd.out)
            have SA := Lib.hid (sameMan_refl mc)
            have LC := Lib.hid (show (mc.ents.length : Int) ≤ 1000000000 from by
              have hp : maniP mc = true := by
                rcases HOR.out with e | e
                · rw [e]; exact HMd.out.p9
                · rw [e]; exact HMd.out.p10
              have := rowP_len (mani_row hp).2.1
              omega)
            have QY := Lib.hid (fun (w' : World) (h : Ext (wc.alloc (.cells (manC mc (.slice ac mc.ents.length cc)) 39)) w') => rSameMan_any mc mo.m (.slice ac mc.ents.length cc) mo.u w' (RCd.out.ext h) (HMd.out.e9.1.ext h) LC.out)
            have QZ := Lib.hid (fun (w' : World) (h : Ext (wc.alloc (.cells (manC mc (.slice ac mc.ents.length cc)) 39)) w') => rSameMan_any mc x.m (.slice ac mc.ents.length cc) x.u w' (RCd.out.ext h) (HMd.out.e10.1.ext h) LC.out)
            have B9 := Lib.hid HMd.out.b9
            have B10 := Lib.hid HMd.out.b10
            have XE := Lib.hid (X1.out.trans HMd.out.stp.ext)
            have MS9 := Lib.hid (show (Tryz.prog.info? 39).map (·.size) = some (manC mo.m mo.u).size from man_size)
            have MS10 := Lib.hid (show (Tryz.prog.info? 39).map (·.size) = some (manC x.m x.u).size from man_size)
            clear HMc HMd RC RCd
            generalize manC mo.m mo.u = c9 at *
            generalize manC x.m x.u = c10 at *
            generalize manC mc (.slice ac mc.ents.length cc) = c13 at *
            go_wp2_with (refine wpList_store_new rfl 39 (.tmp 13) (.tmp 110) rfl rfl rfl SZc.out MSc.out MOc.out ?_; refine Held.go ?_)
            refine ⟨?_⟩
            generalize hwd : wc.alloc (.cells c13 39) = wd at *
            clear hwd Xd
            generalize wc.heap.size = g13 at *
            go_wp2_with (refine wpList_load_blk_g (by kernel_rfl) 39 (.tmp 13) rfl rfl B13.out Tryz.underlying39 rfl MSc.out ?_; refine Held.go ?_)
            refine ⟨?_⟩
            go_wp2_with (refine wpList_load_blk_g (by kernel_rfl) 39 (.tmp 9) rfl rfl B9.out Tryz.underlying39 rfl MS9.out ?_; refine Held.go ?_)
            refine ⟨?_⟩
            go_wp2_with fail
            refine (QY.out _ (Ext.refl _)).mono ?_
            rintro _ we ⟨rfl, xe⟩
            have Xe := Lib.hid xe
            clear xe
            cases hb : sameMan mc mo.m with
            | true =>
              clear hb
              go_wp2_with fail
              refine (QA.out _).mono ?_
              rintro _ wf ⟨rfl, xf⟩
              have XF := Lib.hid ((XE.out.trans Xe.out).trans xf)
              clear xf
              go_wp2
              go_ret
              exact ⟨rfl, XF.out⟩
            | false =>
              have hx : mc = x.m := by
                rcases HOR.out with e | e
                · exfalso
                  rw [← e, SA.out] at hb
                  exact Bool.noConfusion hb
                · exact e
              have QZ2 := QZ.out we Xe.out
              rw [← hx, SA.out] at QZ2
              have QZ2 := Lib.hid QZ2
              have B13e := Lib.hid (B13.out.ext Xe.out)
              have B10e := Lib.hid (B10.out.ext Xe.out)
              clear hb hx QZ QY
              go_wp2_with (refine wpList_load_blk_g (by kernel_rfl) 39 (.tmp 13) rfl rfl B13e.out Tryz.underlying39 rfl MSc.out ?_; refine Held.go ?_)
              refine ⟨?_⟩
              go_wp2_with (refine wpList_load_blk_g (by kernel_rfl) 39 (.tmp 10) rfl rfl B10e.out Tryz.underlying39 rfl MS10.out ?_; refine Held.go ?_)
              refine ⟨?_⟩
              go_wp2_with fail
              refine Calls.mono QZ2.out ?_
              rintro _ wf ⟨rfl, xf⟩
              have Xf := Lib.hid (Xe.out.trans xf)
              clear xf
              go_wp2_with fail
              refine (QA.out _).mono ?_
              rintro _ wg ⟨rfl, xg⟩
              have XF := Lib.hid ((XE.out.trans Xf.out).trans xg)
              clear xg
              go_wp2
              go_ret
              exact ⟨rfl, XF.out⟩
    · obtain rfl : k = l.length := by omega
      have HM := Lib.hid HS.out.1
      have FE := Lib.hid (show Fell d (manT mo.m) (manT mn.m) from by rw [HS.out.2.1]; exact HS.out.2.2.fell)
      have OP := Lib.hid (show d.ops ≤ 1000 from by have := HS.out.2.2.ops; have := NL8.out; omega)
      clear hk S1 HR1 HS
      have QO := Lib.hid (has_off HM.out.has (by have := OP.out; omega))
      go_wp2_with fail
      refine Calls.mono QO.out ?_
      rintro _ wa ⟨rfl, Ka, ha, sta⟩
      have HMa := Lib.hid (HM.out.turn ha sta)
      clear ha sta HM QO
      have BC := Lib.hid (BW.out.ext HMa.out.stp.ext)
      have AWr := AW.out.ext (X1.out.trans HMa.out.stp.ext)
      have QB := Lib.hid (has_boot HMa.out.has (by show d.ops ≤ _; have := OP.out; omega) a.dir AWr.cuts AWr.marks AWr.cl AWr.ml AWr.mkl)
      clear AWr
      go_wp2_with (refine wpList_load_blk rfl 26 (.tmp 5) rfl rfl BC.out Tryz.underlying26 rfl CI.out ?_; refine Held.go ?_)
      refine ⟨?_⟩
      go_wp2_with fail
      refine Calls.mono QB.out ?_
      rintro _ wb ⟨rfl, Kb, hb, stb⟩
      have HMb := Lib.hid (HMa.out.turn hb stb)
      have LD := Lib.hid (fell_load FE.out HMb.out.p9 HMb.out.p10 a.dir a.cuts a.marks)
      have QL := Lib.hid (load_any hb (by show d.ops ≤ _; have := OP.out; omega))
      clear hb stb HMa QB BC FE
      generalize (d).off.boot a.dir a.cuts a.marks = db at *
      go_wp2_with fail
      refine Calls.mono QL.out ?_
      rintro _ wc ⟨uc, rfl, xc, rc, _⟩
      obtain ⟨mc, hmc⟩ : ∃ mc, mc = db.loadM.1 := ⟨_, rfl⟩
      have hz : db.loadM.2 = 0 := by rcases LD.out with e | e <;> rw [e]
      have hor : mc = mo.m ∨ mc = mn.m := by rcases LD.out with e | e <;> rw [hmc, e] <;> simp
      rw [hz]
      rw [← hmc] at rc ⊢
      have HMc := Lib.hid (HMb.out.ext xc)
      clear xc HMb QL LD hz hmc
      obtain ⟨ac, cc, rfl, hrc⟩ := rc
      have RC := Lib.hid (show RR entC 9 wc (.slice ac mc.ents.length cc) mc.ents from ⟨ac, cc, rfl, hrc⟩)
      have HOR := Lib.hid hor
      clear hor hrc
      have MSc := Lib.hid (show (Tryz.prog.info? 39).map (·.size) = some (manC mc (.slice ac mc.ents.length cc)).size from man_size)
      have MOc := Lib.hid (man_oneS mc ac mc.ents.length cc)
      have SZc := Lib.hid (show (#[.int .i64 0, .int .i64 0, .int .i64 0, .int .i64 0, .slice none 0 0] : Array Value).size = (manC mc (.slice ac mc.ents.length cc)).size from rfl)
      have Xd := Lib.hid ((Ext.refl wc).alloc (.cells (manC mc (.slice ac mc.ents.length cc)) 39))
      have B13 := Lib.hid (Blk.new wc 39 (manC mc (.slice ac mc.ents.length cc)))
      have HMd := Lib.hid (HMc.out.ext Xd.out)
      have RCd := Lib.hid (RC.out.ext Xd.out)
      have SA := Lib.hid (sameMan_refl mc)
      have LC := Lib.hid (show (mc.ents.length : Int) ≤ 1000000000 from by
        have hp : maniP mc = true := by
          rcases HOR.out with e | e
          · rw [e]; exact HMd.out.p9
          · rw [e]; exact HMd.out.p10
        have := rowP_len (mani_row hp).2.1
        omega)
      have QY := Lib.hid (fun (w' : World) (h : Ext (wc.alloc (.cells (manC mc (.slice ac mc.ents.length cc)) 39)) w') => rSameMan_any mc mo.m (.slice ac mc.ents.length cc) mo.u w' (RCd.out.ext h) (HMd.out.e9.1.ext h) LC.out)
      have QZ := Lib.hid (fun (w' : World) (h : Ext (wc.alloc (.cells (manC mc (.slice ac mc.ents.length cc)) 39)) w') => rSameMan_any mc mn.m (.slice ac mc.ents.length cc) mn.u w' (RCd.out.ext h) (HMd.out.e10.1.ext h) LC.out)
      have B9 := Lib.hid HMd.out.b9
      have B10 := Lib.hid HMd.out.b10
      have XE := Lib.hid (X1.out.trans HMd.out.stp.ext)
      have MS9 := Lib.hid (show (Tryz.prog.info? 39).map (·.size) = some (manC mo.m mo.u).size from man_size)
      have MS10 := Lib.hid (show (Tryz.prog.info? 39).map (·.size) = some (manC mn.m mn.u).size from man_size)
      clear HMc HMd RC RCd
      generalize manC mo.m mo.u = c9 at *
      generalize manC mn.m mn.u = c10 at *
      generalize manC mc (.slice ac mc.ents.length cc) = c13 at *
      go_wp2_with (refine wpList_store_new rfl 39 (.tmp 13) (.tmp 110) rfl rfl rfl SZc.out MSc.out MOc.out ?_; refine Held.go ?_)
      refine ⟨?_⟩
      generalize hwd : wc.alloc (.cells c13 39) = wd at *
      clear hwd Xd
      generalize wc.heap.size = g13 at *
      go_wp2_with (refine wpList_load_blk_g (by kernel_rfl) 39 (.tmp 13) rfl rfl B13.out Tryz.underlying39 rfl MSc.out ?_; refine Held.go ?_)
      refine ⟨?_⟩
      go_wp2_with (refine wpList_load_blk_g (by kernel_rfl) 39 (.tmp 9) rfl rfl B9.out Tryz.underlying39 rfl MS9.out ?_; refine Held.go ?_)
      refine ⟨?_⟩
      go_wp2_with fail
      refine (QY.out _ (Ext.refl _)).mono ?_
      rintro _ we ⟨rfl, xe⟩
      have Xe := Lib.hid xe
      clear xe
      cases hb : sameMan mc mo.m with
      | true =>
        clear hb
        go_wp2_with fail
        refine (QA.out _).mono ?_
        rintro _ wf ⟨rfl, xf⟩
        have XF := Lib.hid ((XE.out.trans Xe.out).trans xf)
        clear xf
        go_wp2
        go_ret
        exact ⟨rfl, XF.out⟩
      | false =>
        have hmn : mc = mn.m := by
          rcases HOR.out with e | e
          · exfalso
            rw [← e, SA.out] at hb
            exact Bool.noConfusion hb
          · exact e
        have QZ2 := QZ.out we Xe.out
        rw [← hmn, SA.out] at QZ2
        have QZ2 := Lib.hid QZ2
        have B13e := Lib.hid (B13.out.ext Xe.out)
        have B10e := Lib.hid (B10.out.ext Xe.out)
        clear hb hmn QZ QY
        go_wp2_with (refine wpList_load_blk_g (by kernel_rfl) 39 (.tmp 13) rfl rfl B13e.out Tryz.underlying39 rfl MSc.out ?_; refine Held.go ?_)
        refine ⟨?_⟩
        go_wp2_with (refine wpList_load_blk_g (by kernel_rfl) 39 (.tmp 10) rfl rfl B10e.out Tryz.underlying39 rfl MS10.out ?_; refine Held.go ?_)
        refine ⟨?_⟩
        go_wp2_with fail
        refine Calls.mono QZ2.out ?_
        rintro _ wf ⟨rfl, xf⟩
        have Xf := Lib.hid (Xe.out.trans xf)
        clear xf
        go_wp2_with fail
        refine (QA.out _).mono ?_
        rintro _ wg ⟨rfl, xg⟩
        have XF := Lib.hid ((XE.out.trans Xf.out).trans xg)
        clear xg
        go_wp2
        go_ret
        exact ⟨rfl, XF.out⟩
end Go.Proofs.YtmjkfgpkohfmiaaGreat
