/- TurnClean: the law's walk. -/
import Derived.Test.YtmjkfgpkohfmiaaGreatMgAh
import Derived.Test.YtmjkfgpkohfmiaaGreatMgAg
import Derived.Test.YtmjkfgpkohfmiaaGreatMgAf
namespace Go.Proofs.YtmjkfgpkohfmiaaGreat
set_option linter.unusedVariables false
set_option linter.unusedSimpArgs false
open Go.RowKit

attribute [local go_sem] S_size S_toList S_append S_extract S_beq S_bne S_empty S_nil

set_option maxRecDepth 20000 in
set_option maxHeartbeats 16000000 in
theorem turnClean_law (v1 : Value) (l : List ActD) (vk : Value) (keep : List (List UInt8)) (a : ActD) (w : World) (r1 : RR actC 7 w v1 l) (b1 : (l.length : Int) ≤ 9223372036854775807) (R1 : ∀ x ∈ l, ActW w x)
    (rk : RR sC 1 w vk keep) (bk : (keep.length : Int) ≤ 9223372036854775807) (Rk : ∀ x ∈ keep, (x.length : Int) ≤ 9223372036854775807) (aw : ActW w a) (ac : chA a) :
    Calls Tryz.prog 4 #[v1, vk, .agg #[.int .i64 a.dir, a.vc, a.vm]] w fun e w' => e = .returned (.bool true) ∧ Ext w w' := by
  clear Rk
  have QA := Lib.hid awake_any
  obtain ⟨p1, c1, rfl, _, _, s1⟩ := r1
  have RR1 : RR actC 7 w (.slice p1 l.length c1) l := ⟨p1, c1, rfl, by assumption, by assumption, s1⟩
  obtain ⟨pk, ck, rfl, _, _, sk⟩ := rk
  have RK : RR sC 1 w (.slice pk keep.length ck) keep := ⟨pk, ck, rfl, by assumption, by assumption, sk⟩
  have Q1 := Lib.hid (fun (w1 : World) (x : Ext w w1) => few_of RR1 R1 b1 x)
  have X0 := Lib.hid ((Ext.refl w).alloc (.cells #[.int .i64 a.dir, a.vc, a.vm] 26))
  have B0 := Lib.hid (Blk.new w 26 #[.int .i64 a.dir, a.vc, a.vm])
  have CI := Lib.hid (show (Tryz.prog.info? 26).map (·.size) = some #[Value.int .i64 a.dir, a.vc, a.vm].size by kernel_rfl)
  have X1 := Lib.hid (X0.out.alloc (.cells (actC a).toArray 29))
  have q3 := few_of (w1 := (w.alloc (.cells #[.int .i64 a.dir, a.vc, a.vm] 26)).alloc (.cells (actC a).toArray 29)) (act_rr (a := a) (Blk.new (w.alloc (.cells #[.int .i64 a.dir, a.vc, a.vm] 26)) 29 (actC a).toArray)) (fun y hy => by rw [List.mem_singleton] at hy; subst hy; exact aw.ext X1.out) (by simp) (Ext.refl _)
  rw [World.size_alloc] at q3
  have BS := act_bs aw
  have EA : (actC a).toArray = #[.int .i64 0, .int .i64 0, .string (S []), .string (S []), .int .i64 a.dir, a.vc, a.vm] := by
    obtain ⟨h1, h2, h3, h4⟩ := ac
    unfold actC
    rw [h1, h2, h3, h4]
  rw [EA] at q3 BS X1
  have Q3 := Lib.hid q3
  have AW := Lib.hid aw
  have S1 := Lib.hid s1
  have HR1 := Lib.hid R1
  have HRK := Lib.hid RK
  clear q3 EA aw ac R1 RR1 s1 sk RK
  by_cases f1 : ¬ FewA l
  · rw [decide_eq_false f1] at Q1
    go_enter Tryz.func4, Tryz.ntmps4
    go_wp2_with fail
    refine (Q1.out _ X0.out).mono ?_
    rintro _ w1 ⟨rfl, rfl⟩
    go_wp2_with fail
    refine (QA.out _).mono ?_
    rintro _ w2 ⟨rfl, x2⟩
    go_wp2
    go_ret
    exact ⟨rfl, X0.out.trans x2⟩
  have f1 := Decidable.not_not.1 f1
  rw [decide_eq_true f1] at Q1
  by_cases fk : 60 < (keep.length : Int)
  · go_enter Tryz.func4, Tryz.ntmps4
    go_wp2_with fail
    refine (Q1.out _ X0.out).mono ?_
    rintro _ w1 ⟨rfl, rfl⟩
    go_wp2_with fail
    refine (QA.out _).mono ?_
    rintro _ w2 ⟨rfl, x2⟩
    go_wp2
    go_ret
    exact ⟨rfl, X0.out.trans x2⟩
  have KD := Lib.hid (show decide ((60 : Int) < (keep.length : Int)) = false from decide_eq_false fk)
  by_cases f3 : ¬ FewA [a]
  · rw [decide_eq_false f3] at Q3
    go_enter Tryz.func4, Tryz.ntmps4
    go_wp2_with fail
    refine (Q1.out _ X0.out).mono ?_
    rintro _ w1 ⟨rfl, rfl⟩
    go_wp2_with (refine wpList_hold 33 rfl ?_)
    refine ⟨?_⟩
    rw [KD.out]
    go_wp2_with (refine wpList_load_blk_g (by kernel_rfl) 26 (.tmp 5) rfl rfl B0.out Tryz.underlying26 rfl CI.out ?_; refine Held.go ?_)
    refine ⟨?_⟩
    go_wp2_with (refine wpList_bs_g (vs := #[(0, .agg #[.int .i64 0, .int .i64 0, .string (S []), .string (S []), .int .i64 a.dir, a.vc, a.vm])]) (by kernel_rfl) 30 1 _ rfl rfl (BS _) ?_; refine Held.go ?_)
    refine ⟨?_⟩
    go_wp2_with fail
    refine (Q3.out).mono ?_
    rintro _ w1 ⟨rfl, rfl⟩
    go_wp2_with fail
    refine (QA.out _).mono ?_
    rintro _ w2 ⟨rfl, x2⟩
    go_wp2
    go_ret
    exact ⟨rfl, X1.out.trans x2⟩
  have f3 := Decidable.not_not.1 f3
  rw [decide_eq_true f3] at Q3
  go_enter Tryz.func4, Tryz.ntmps4
  go_wp2_with fail
  refine (Q1.out _ X0.out).mono ?_
  rintro _ w1 ⟨rfl, rfl⟩
  go_wp2_with (refine wpList_hold 33 rfl ?_)
  refine ⟨?_⟩
  rw [KD.out]
  go_wp2_with (refine wpList_load_blk_g (by kernel_rfl) 26 (.tmp 5) rfl rfl B0.out Tryz.underlying26 rfl CI.out ?_; refine Held.go ?_)
  refine ⟨?_⟩
  go_wp2_with (refine wpList_bs_g (vs := #[(0, .agg #[.int .i64 0, .int .i64 0, .string (S []), .string (S []), .int .i64 a.dir, a.vc, a.vm])]) (by kernel_rfl) 30 1 _ rfl rfl (BS _) ?_; refine Held.go ?_)
  refine ⟨?_⟩
  go_wp2_with fail
  refine (Q3.out).mono ?_
  rintro _ w1 ⟨rfl, rfl⟩
  go_wp2_with fail
  refine (has_new 100000 _ (by decide) (by decide)).mono ?_
  rintro _ w1 ⟨b, rfl, K0, h0, st0⟩
  have NL := few_len f1
  have BW := Lib.hid (B0.out.alloc (.cells #[.int .i64 0, .int .i64 0, .string (S []), .string (S []), .int .i64 a.dir, a.vc, a.vm] 29))
  clear f1 f3 Q1 Q3 BS B0 X0
  generalize (w.alloc (.cells #[.int .i64 a.dir, a.vc, a.vm] 26)).alloc (.cells #[.int .i64 0, .int .i64 0, .string (S []), .string (S []), .int .i64 a.dir, a.vc, a.vm] 29) = W at *
  have I0 := Lib.hid (show Has w1 b K0 (Dsk.new 100000) ∧ Stp [] K0 W w1 ∧ Calm (Dsk.new 100000) (0 : Nat) from ⟨h0, st0, Calm.new _⟩)
  clear h0 st0
  have RKW := Lib.hid (HRK.out.ext X1.out)
  clear HRK
  go_wp2_with fail
  go_loopw [9] (fun i wr => ∃ (k : Nat) (K : List Nat) (d : Dsk), i = .int .i64 (k : Int) ∧ k ≤ l.length ∧ RowKit.Hid (Has wr b K d ∧ Stp [] K W wr ∧ Calm d k)) (fun i _ => l.length - (intOf i).toNat)
  case atStart => exact ⟨0, K0, _, rfl, Nat.zero_le _, I0⟩
  case round =>
    obtain ⟨k, K, d, rfl, hk, HS⟩ := hrel
    clear I0
    by_cases hlt : k < l.length
    · have hI : (k : Int) < (l.length : Int) := by omega
      obtain ⟨g, o, rfl, hc⟩ := S1.out (by omega)
      obtain ⟨x, hx⟩ : ∃ x, l[k]? = some x := ⟨_, List.getElem?_eq_getElem hlt⟩
      have XW := Lib.hid (X1.out.trans HS.out.2.1.ext)
      have ra := rangeAt_ext (hc k x hx) XW.out
      have c0 : wr.cell? ⟨g, o + k * 7, none⟩ = some (.int .i64 x.kind) := by
        have h := ra 0 _ rfl
        rwa [Nat.add_zero] at h
      have RA := Lib.hid ra
      have ZA := Lib.hid (show (Tryz.prog.info? 29).map (·.size) = some (actC x).length by kernel_rfl)
      have q := has_do HS.out.1 (by have := HS.out.2.2.ops; omega) ((HR1.out x (List.mem_of_getElem? hx)).ext XW.out)
      have CN := Lib.hid (fun h7 h8 => Calm.act HS.out.2.2 (a := x) h7 h8)
      have CS := Lib.hid (HS.out.2.2.le (m := ((k + 1 : Nat) : Int)) (by omega))
      have HKM := Lib.hid hlt
      clear hc hx hlt hk ra
      have Q := Lib.hid q
      clear q
      generalize x.kind = kind at *
      generalize actC x = L at *
      generalize (d.act x).1 = d2 at *
      by_cases h7 : kind = 7
      · subst h7
        clear CN Q RA
        go_wp2_with fail
        go_roundw
        case rel => exact ⟨k + 1, K, d, by go_num, by have := HKM.out; omega, Lib.hid ⟨HS.out.1, HS.out.2.1, CS.out⟩⟩
        case measure => simp [intOf]; have := HKM.out; omega
      · have b7 : (kind != 7) = true := by simpa using h7
        by_cases h8 : kind = 8
        · subst h8
          clear CN Q RA
          go_wp2_with fail
          go_roundw
          case rel => exact ⟨k + 1, K, d, by go_num, by have := HKM.out; omega, Lib.hid ⟨HS.out.1, HS.out.2.1, CS.out⟩⟩
          case measure => simp [intOf]; have := HKM.out; omega
        · have b8 : (kind != 8) = true := by simpa using h8
          have CN2 := Lib.hid ((CN.out h7 h8).le (m := ((k + 1 : Nat) : Int)) (by omega))
          clear CN CS
          go_wp2_with (refine wpList_load_mid rfl 29 (.tmp 73) rfl g _ rfl _ _ RA.out Tryz.underlying29 rfl ZA.out ?_; refine Held.go ?_)
          refine ⟨?_⟩
          go_wp2_with fail
          refine Calls.mono Q.out ?_
          rintro _ w2 ⟨rfl, K', h2, st2⟩
          have I2 := Lib.hid (And.intro h2 (HS.out.2.1.trans st2))
          clear h2 st2 c0
          go_wp2_with fail
          go_roundw
          case rel => exact ⟨k + 1, K', d2, by go_num, by have := HKM.out; omega, Lib.hid ⟨I2.out.1, I2.out.2, CN2.out⟩⟩
          case measure => simp [intOf]; have := HKM.out; omega
    · obtain rfl : k = l.length := by omega
      have I1 := Lib.hid (show Has wr b K d ∧ Stp [] K W wr ∧ Calm d 60 from ⟨HS.out.1, HS.out.2.1, HS.out.2.2.le (by omega)⟩)
      clear hk S1 HR1 HS
      go_wp2_with fail
      refine (has_list I1.out.1 (by have := I1.out.2.2.ops; omega)).mono ?_
      rintro _ w2 ⟨vn, rfl, sw, x2⟩
      have sr := sw.sr I1.out.1.lt
      have hl0 := list_len I1.out.1.ok
      obtain ⟨L, hL⟩ : ∃ L, L = d.list := ⟨_, rfl⟩
      rw [← hL] at sr hl0
      obtain ⟨an, cn, rfl⟩ := sr.shape
      have LD := hL.trans I1.out.2.2.list
      have NLn : L.length ≤ 60 := by
        have h1 := I1.out.1.ok.dirL
        have h2 := I1.out.2.2.ops
        rw [LD, List.length_map]; omega
      have BN := Lib.hid (show ∀ k, (Value.slice an L.length cn).ownBlock = some k → k < w2.heap.size from fun k hk => by
        cases an with
        | none => cases hk
        | some p => injection hk with hk; subst hk; exact (sr.2 _ _ _ rfl).2)
      have BWl := Lib.hid (show W.heap.size ≤ w2.heap.size from Nat.le_trans I1.out.2.1.ext.size x2.size)
      have HL := Lib.hid hl0
      have HLD := Lib.hid LD
      have DD := Lib.hid I1.out.2.2.dead
      obtain ⟨B, hB⟩ : ∃ B, B = w2.heap.size := ⟨_, rfl⟩
      rw [← hB] at BN BWl
      have I2 := Lib.hid (show Has w2 b K d ∧ Stp [] K W w2 ∧ SR K w2 (.slice an L.length cn) L ∧ TR K w2 B (.slice none 0 0) (texts d (L.take 0)) ∧ SyncT d 0 d ∧ B ≤ w2.heap.size from
        ⟨I1.out.1.ext x2, I1.out.2.1.then x2, sr, TR.nil _ _ _, ⟨I1.out.2.2, rfl, fun s hs => by simp at hs, fun _ => rfl⟩, by omega⟩)
      clear sr sw x2 I1 hl0 LD hB hL
      go_wp2_with fail
      go_loopw [12, 11] (fun i t wr => ∃ (k : Nat) (K' : List Nat) (d' : Dsk), i = .int .i64 (k : Int) ∧ k ≤ L.length ∧ RowKit.Hid (Has wr b K' d' ∧ Stp [] K' W wr ∧ SR K' wr (.slice an L.length cn) L ∧ TR K' wr B t (texts d (L.take k)) ∧ SyncT d k d' ∧ B ≤ wr.heap.size)) (fun i _ _ => L.length - (intOf i).toNat)
      case atStart => exact ⟨0, K, d, rfl, Nat.zero_le _, I2⟩
      case round =>
        obtain ⟨k, K', d', rfl, hk, HS⟩ := hrel
        clear I2
        by_cases hlt : k < L.length
        · have hI : (k : Int) < (L.length : Int) := by omega
          obtain ⟨s, hs⟩ : ∃ s, L[k]? = some s := ⟨_, List.getElem?_eq_getElem hlt⟩
          obtain ⟨g, o, rfl, c0⟩ := HS.out.2.2.1.cell hs
          have hsl := (HL.out s (List.mem_of_getElem? hs)).1
          have G1 := Lib.hid (HS.out.2.2.2.2.1.step HS.out.1.ok (by rw [← HLD.out]; exact hs))
          have ER := Lib.hid (show d'.read s = d.read s from read_calm HS.out.2.2.2.2.1.calm.dead DD.out s (by rw [HS.out.2.2.2.2.1.dir]) HS.out.2.2.2.2.1.same)
          have OPS := Lib.hid (show d'.ops ≤ 1000000 by have := HS.out.2.2.2.2.1.calm.ops; omega)
          have QR := has_read HS.out.1 OPS.out s (by unfold maxLen; omega)
          rw [ER.out] at QR
          have QR := Lib.hid QR
          have TS := Lib.hid (texts_step2 (d := d) hs)
          have LK : (texts d (L.take k)).length ≤ 1000000 := by unfold texts; rw [List.length_map, List.length_take]; omega
          obtain ⟨v', w3, hrun, t3, h3, x3⟩ := TR.app HS.out.2.2.2.1 HS.out.1 HS.out.2.2.2.2.2 (d.read s).1 LK
          have sr3 := SR.below HS.out.2.2.1 x3 BN.out
          have st3 := Stp.below HS.out.2.1 x3 BWl.out
          obtain ⟨g', o', e', c3⟩ := sr3.cell hs
          injection e' with e'
          injection e' with e1 e2
          subst e1 e2
          have QS := Lib.hid (has_sync h3 OPS.out s (by unfold maxLen; omega))
          rw [← TS.out] at t3
          have I3 := Lib.hid (show Stp [] K' W w3 ∧ SR K' w3 (.slice (some ⟨g, o, none⟩) L.length cn) L ∧ TR K' w3 B v' (texts d (L.take (k + 1))) ∧ B ≤ w3.heap.size from ⟨st3, sr3, t3, Nat.le_trans HS.out.2.2.2.2.2 x3.size⟩)
          have HKM := Lib.hid hlt
          have LLi := Lib.hid NLn
          clear hs hsl hlt hk t3 h3 x3 sr3 st3 HS LK ER TS
          generalize (d.read s).1 = tx at *
          generalize (d.read s).2 = te at *
          go_wp2_with fail
          refine Calls.mono QR.out ?_
          rintro _ w4 ⟨rfl, rfl⟩
          go_wp2_with (at_builtin; refine wpList_app rfl (.tmp 93) (.tmp 95) 24 rfl rfl rfl rfl hrun ?_)
          refine Calls.mono QS.out ?_
          rintro _ w5 ⟨rfl, K5, h5, st5⟩
          have I5 := Lib.hid (show Has w5 b K5 (d'.sync s).1 ∧ Stp [] K5 W w5 ∧ SR K5 w5 (.slice (some ⟨g, o, none⟩) L.length cn) L ∧ TR K5 w5 B v' (texts d (L.take (k + 1))) ∧ SyncT d (k + 1) (d'.sync s).1 ∧ B ≤ w5.heap.size from
            ⟨h5, I3.out.1.trans st5, I3.out.2.1.stp st5, I3.out.2.2.1.stp st5, G1.out, Nat.le_trans I3.out.2.2.2 st5.1.size⟩)
          clear h5 st5 I3 QS QR hrun c0 c3
          go_wp2_with fail
          go_roundw
          case rel => exact ⟨k + 1, K5, (d'.sync s).1, by go_num, by have := HKM.out; omega, I5⟩
          case measure => simp [intOf]; have := HKM.out; omega
        · obtain rfl : k = L.length := by omega
          clear hk
          have I3 := Lib.hid HS.out
          clear HS
          go_wp2_with fail
          have NLi := Lib.hid NLn
          have SYN := Lib.hid I3.out.2.2.2.2.1
          have UN := Lib.hid I3.out.1.names
          have OK3 := Lib.hid I3.out.1.ok
          have KL := Lib.hid (show d.dir.length ≤ L.length by rw [HLD.out, List.length_map]; exact Nat.le_refl _)
          have CL := Lib.hid (clean_law (keep := keep) SYN.out OK3.out UN.out DD.out KL.out)
          have KRV := Lib.hid (KR.of RKW.out I3.out.2.1)
          have QC := Lib.hid (clean_any I3.out.1 (by have := SYN.out.calm.ops; omega) keep (.slice pk keep.length ck) KRV.out (by omega))
          have E0 := Lib.hid (fun h => clean_none (keep := keep) SYN.out OK3.out UN.out DD.out KL.out h)
          have E1 := Lib.hid (fun h => clean_some (keep := keep) SYN.out OK3.out UN.out DD.out KL.out h a.dir a.cuts a.marks)
          have NUM := Lib.hid (show (d'.clean keep).2.1 = (L.filter fun s => !decide (s ∈ keep)).length by rw [CL.out.num, Nat.zero_add, SYN.out.dir, HLD.out])
          have OPC := Lib.hid (show (d'.clean keep).1.ops ≤ 400000 by have h1 := CL.out.ops; have h2 := SYN.out.calm.ops; rw [List.length_map, SYN.out.dir] at h1; have h3 := NLi.out; rw [HLD.out, List.length_map] at h3; omega)
          have EZ := Lib.hid CL.out.ok
          refine Calls.mono QC.out ?_
          rintro _ w4 ⟨rfl, K4, h4, st4⟩
          have I4 := Lib.hid (show Has w4 b K4 (d'.clean keep).1 ∧ Stp [] K4 W w4 ∧ SR K4 w4 (.slice an L.length cn) L ∧ SR K4 w4 u11 (texts d L) from
            ⟨h4, I3.out.2.1.trans st4, I3.out.2.2.1.stp st4, by
              have := I3.out.2.2.2.1.stp st4
              rw [List.take_length] at this
              exact this.sr⟩)
          clear h4 st4 I3 QC KRV CL KL OK3 UN SYN BN BWl
          obtain ⟨at_, ct, rfl⟩ := I4.out.2.2.2.shape
          rw [EZ.out]
          have FT := Lib.hid (filter_two keep L)
          rw [← NUM.out] at FT
          generalize hq : d'.clean keep = cr at *
          clear hq NUM
          obtain ⟨e1, nc, ez⟩ := cr
          dsimp only at *
          have FL := Lib.hid (show ((L.filter fun s => decide (s ∈ keep)).length : Int) ≤ 60 ∧ (nc : Int) ≤ 60 from by have := FT.out; have := NLi.out; omega)
          have hnc := FL.out.2
          by_cases hn : nc = 0
          · have EN := Lib.hid (E0.out hn)
            have I5 := Lib.hid I4.out
            have O5 := Lib.hid OPC.out
            clear E0 E1 I4 OPC
            subst hn
            go_wp2_with fail
            refine (has_list I5.out.1 (by have := O5.out; omega)).mono ?_
            rintro _ w7 ⟨vl, rfl, sw, x7⟩
            have sr := sw.sr I5.out.1.lt
            rw [EN.out.list, ← HLD.out] at sr
            obtain ⟨F, hF⟩ : ∃ F, F = L.filter fun s => decide (s ∈ keep) := ⟨_, rfl⟩
            rw [← hF] at sr FT FL
            have HF := Lib.hid hF
            clear hF
            obtain ⟨al, cl, rfl⟩ := sr.shape
            have I7 := Lib.hid (show Has w7 b K4 e1 ∧ Stp [] K4 W w7 ∧ SR K4 w7 (.slice an L.length cn) L ∧ SR K4 w7 (.slice at_ (texts d L).length ct) (texts d L) ∧ SR K4 w7 (.slice al F.length cl) F from
              ⟨I5.out.1.ext x7, I5.out.2.1.then x7, I5.out.2.2.1.stp (Stp.of_ext x7), I5.out.2.2.2.stp (Stp.of_ext x7), sr⟩)
            have RK7 := Lib.hid ((RKW.out.ext I7.out.2.1.ext).one)
            clear sr sw x7 I5
            go_wp2_with fail
            go_loopw [19, 18] (fun i kk wr => ∃ k : Nat, i = .int .i64 (k : Int) ∧ kk = .int .i64 ((keptN keep L k : Nat) : Int) ∧ k ≤ L.length ∧ RowKit.Hid (Ext w7 wr)) (fun i _ _ => L.length - (intOf i).toNat)
            case atStart => exact ⟨0, rfl, rfl, Nat.zero_le _, Lib.hid (Ext.refl _)⟩
            case round =>
              obtain ⟨k, rfl, rfl, hk, HX⟩ := hrel
              by_cases hlt : k < L.length
              · have hI : (k : Int) < (L.length : Int) := by omega
                obtain ⟨s, hs⟩ : ∃ s, L[k]? = some s := ⟨_, List.getElem?_eq_getElem hlt⟩
                obtain ⟨gn, on, rfl, cn0⟩ := I7.out.2.2.1.cell hs
                have CN0 := Lib.hid cn0
                have HSK := Lib.hid hs
                have HKM := Lib.hid hlt
                have hsl := (HL.out s (List.mem_of_getElem? hs)).1
                have HSL := Lib.hid hsl
                have kq := keptN_le keep L k
                rw [← HF.out] at kq
                have KQ := Lib.hid kq
                have KQ2 := Lib.hid (show (((keptN keep L k : Nat) : Int)) ≤ 60 by have := FL.out.1; omega)
                clear cn0 hs hsl kq hlt hk
                generalize hkq : keptN keep L k = q at *
                have HKQ := Lib.hid hkq
                clear hkq
                go_wp2_with fail
                go_loopw [21, 20] (fun j bb wr2 => ∃ m : Nat, j = .int .i64 (m : Int) ∧ bb = .bool (decide (s ∈ keep.take m)) ∧ m ≤ keep.length ∧ RowKit.Hid (Ext w7 wr2)) (fun j _ _ => keep.length - (intOf j).toNat)
                case atStart => exact ⟨0, rfl, by simp, Nat.zero_le _, HX⟩
                case round =>
                  obtain ⟨m, rfl, rfl, hm, HX2⟩ := hrel
                  by_cases hml : m < keep.length
                  · have hJ : (m : Int) < (keep.length : Int) := by omega
                    obtain ⟨ak, ckk, ek, sk⟩ := RK7.out
                    injection ek with ek1 ek2 ek3
                    obtain ⟨gk, ok, hak, dk⟩ := sk (by omega)
                    obtain ⟨y, hy⟩ : ∃ y, keep[m]? = some y := ⟨_, List.getElem?_eq_getElem hml⟩
                    have ck1 := up_cell (show wr.cell? ⟨gk, ok + m, none⟩ = some (.string (S y)) from Go.cell_later HX2.out (dk m y hy _ rfl))
                    have cn1 := up_cell (show wr.cell? ⟨gn, on + k, none⟩ = some (.string (S s)) from Go.cell_later HX2.out CN0.out)
                    have TK1 := Lib.hid (show (s ∈ keep.take (m + 1)) ↔ (s ∈ keep.take m ∨ s = y) from by rw [List.take_add_one, hy]; simp)
                    have HMM := Lib.hid hml
                    have HI := Lib.hid hI
                    subst ek1
                    subst hak
                    clear ek2 ek3 sk dk hy hml hm
                    by_cases hb : s ∈ keep.take m
                    · have T2 := Lib.hid (show decide (s ∈ keep.take (m + 1)) = true from decide_eq_true (TK1.out.2 (.inl hb)))
                      rw [decide_eq_true hb]
                      clear hb TK1
                      go_wp2
                      refine wp_region_up (by kernel_rfl) (by kernel_rfl) ?_
                      repeat (go_big_quiet_step (fail))
                      refine wpQuiet_nil ?_
                      rintro _ ⟨z, rfl⟩
                      have HX3 := Lib.hid (HX2.out.trans z.ext)
                      clear ck1 cn1
                      go_wp2
                      go_roundw
                      case rel => exact ⟨m + 1, by go_num, by rw [T2.out], by have := HMM.out; omega, HX3⟩
                      case measure => simp [intOf]; have := HMM.out; omega
                    · rw [decide_eq_false hb]
                      by_cases hys : y = s
                      · have T2 := Lib.hid (show decide (s ∈ keep.take (m + 1)) = true from decide_eq_true (TK1.out.2 (.inr hys.symm)))
                        subst hys
                        have hbb : (y == y) = true := by simp
                        clear hb TK1
                        go_wp2
                        refine wp_region_up (by kernel_rfl) (by kernel_rfl) ?_
                        repeat (go_big_quiet_step (fail))
                        refine wpQuiet_nil ?_
                        rintro _ ⟨z, rfl⟩
                        have HX3 := Lib.hid (HX2.out.trans z.ext)
                        clear ck1 cn1
                        go_wp2
                        go_roundw
                        case rel => exact ⟨m + 1, by go_num, by rw [T2.out], by have := HMM.out; omega, HX3⟩
                        case measure => simp [intOf]; have := HMM.out; omega
                      · have T2 := Lib.hid (show decide (s ∈ keep.take (m + 1)) = false from decide_eq_false (fun h => (TK1.out.1 h).elim hb (fun e => hys e.symm)))
                        have hbb : (y == s) = false := by simpa using hys
                        clear hb TK1 hys
                        go_wp2
                        refine wp_region_up (by kernel_rfl) (by kernel_rfl) ?_
                        repeat (go_big_quiet_step (fail))
                        refine wpQuiet_nil ?_
                        rintro _ ⟨z, rfl⟩
                        have HX3 := Lib.hid (HX2.out.trans z.ext)
                        clear ck1 cn1
                        go_wp2
                        go_roundw
                        case rel => exact ⟨m + 1, by go_num, by rw [T2.out], by have := HMM.out; omega, HX3⟩
                        case measure => simp [intOf]; have := HMM.out; omega
                  · obtain rfl : m = keep.length := by omega
                    rw [List.take_length]
                    clear hm hml
                    by_cases hkp : s ∈ keep
                    · rw [decide_eq_true hkp]
                      obtain ⟨ky1, ky2⟩ := keptN_yes HSK.out hkp
                      rw [HKQ.out] at ky1 ky2
                      rw [← HF.out] at ky2
                      have hqF : q < F.length := (List.getElem?_eq_some_iff.1 ky2).1
                      obtain ⟨gl, ol, hal, cl0⟩ := I7.out.2.2.2.2.cell ky2
                      have hst : (texts d L)[k]? = some (d.read s).1 := by unfold texts; rw [List.getElem?_map, HSK.out]; rfl
                      obtain ⟨gt, ot, hat, ct0⟩ := I7.out.2.2.2.1.cell hst
                      subst hal
                      subst hat
                      have ERD := EN.out.read s (by rw [← HLD.out]; exact List.mem_of_getElem? HSK.out) hkp
                      have QRD := has_read (I7.out.1.ext HX2.out) (by have := O5.out; omega) s (by have := HSL.out; unfold maxLen; omega)
                      rw [ERD] at QRD
                      have QRD := Lib.hid QRD
                      have c1 : wr.cell? ⟨gn, on + k, none⟩ = some (.string (S s)) := Go.cell_later HX2.out CN0.out
                      have u1 := up_cell c1
                      have u2 := up_cell (show wr.cell? ⟨gl, ol + q, none⟩ = some (.string (S s)) from Go.cell_later HX2.out cl0)
                      have u3 := up_cell (show wr.cell? ⟨gt, ot + k, none⟩ = some (.string (S (d.read s).1)) from Go.cell_later HX2.out ct0)
                      have KY := Lib.hid ky1
                      have hqi : (q : Int) < (F.length : Int) := by omega
                      have HGE1 := Lib.hid (show decide ((F.length : Int) ≤ (q : Int)) = false from decide_eq_false (by omega))
                      have HGE2 := Lib.hid (show decide (F.length ≤ q) = false from decide_eq_false (by omega))
                      clear cl0 ct0 ERD hst ky2 ky1 hqF hkp
                      generalize (d.read s).1 = tx at *
                      have htl : (k : Int) < ((texts d L).length : Int) := by unfold texts; rw [List.length_map]; exact hI
                      have hb1 : (s != s) = false := by simp
                      have hb2 : (tx != tx) = false := by simp
                      go_wp2_with fail
                      refine Calls.mono QRD.out ?_
                      rintro _ w8 ⟨rfl, rfl⟩
                      go_wp2_with fail
                      have hge1 := HGE1.out
                      have hge2 := HGE2.out
                      refine wp_region_up (by kernel_rfl) (by kernel_rfl) ?_
                      repeat (go_big_quiet_step (fail))
                      refine wpQuiet_nil ?_
                      rintro _ ⟨z, rfl⟩
                      have HX3 := Lib.hid (HX2.out.trans z.ext)
                      clear c1 u1 u2 u3 QRD
                      have hq60 := KQ2.out
                      go_wp2_with fail
                      go_roundw
                      case rel => exact ⟨k + 1, by go_num, by rw [KY.out]; go_num, by have := HKM.out; omega, HX3⟩
                      case measure => simp [intOf]; have := HKM.out; omega
                    · have KN1 := Lib.hid ((keptN_no HSK.out hkp).trans HKQ.out)
                      rw [decide_eq_false hkp]
                      clear hkp
                      go_wp2_with fail
                      go_roundw
                      case rel => exact ⟨k + 1, by go_num, by rw [KN1.out], by have := HKM.out; omega, HX2⟩
                      case measure => simp [intOf]; have := HKM.out; omega
              · obtain rfl : k = L.length := by omega
                rw [(keptN_all keep L).trans (congrArg List.length HF.out).symm]
                clear hk
                have hsub : (L.length : Int) - (F.length : Int) = (0 : Int) := by have := FT.out; omega
                have hFl := FL.out.1
                go_wp2_with fail
                refine (QA.out _).mono ?_
                rintro _ w8 ⟨rfl, x8⟩
                have XE := Lib.hid (show Ext w w8 from ((X1.out.trans I7.out.2.1.ext).trans HX.out).trans x8)
                clear x8
                go_wp2
                go_ret
                exact ⟨rfl, XE.out⟩
          · have EN := Lib.hid (E1.out (by omega))
            have hn0 : (0 : Int) < (nc : Int) := by omega
            have QF := Lib.hid (has_off I4.out.1 (by have := OPC.out; omega))
            clear E0 E1
            go_wp2_with fail
            refine Calls.mono QF.out ?_
            rintro _ w5 ⟨rfl, K5, h5, st5⟩
            have I4a := Lib.hid (show Has w5 b K5 e1.off ∧ Stp [] K5 W w5 ∧ SR K5 w5 (.slice an L.length cn) L ∧ SR K5 w5 (.slice at_ (texts d L).length ct) (texts d L) from ⟨h5, I4.out.2.1.trans st5, I4.out.2.2.1.stp st5, I4.out.2.2.2.stp st5⟩)
            clear h5 st5 I4 QF
            have BC := Lib.hid (BW.out.ext I4a.out.2.1.ext)
            have AWr := AW.out.ext (X1.out.trans I4a.out.2.1.ext)
            have QB := Lib.hid (has_boot I4a.out.1 (by show e1.ops ≤ _; have := OPC.out; omega) a.dir AWr.cuts AWr.marks AWr.cl AWr.ml AWr.mkl)
            clear AWr
            go_wp2_with (refine wpList_load_blk rfl 26 (.tmp 5) rfl rfl BC.out Tryz.underlying26 rfl CI.out ?_; refine Held.go ?_)
            refine ⟨?_⟩
            go_wp2_with fail
            refine Calls.mono QB.out ?_
            rintro _ w6 ⟨rfl, K6, h6, st6⟩
            have I5 := Lib.hid (show Has w6 b K6 (e1.off.boot a.dir a.cuts a.marks) ∧ Stp [] K6 W w6 ∧ SR K6 w6 (.slice an L.length cn) L ∧ SR K6 w6 (.slice at_ (texts d L).length ct) (texts d L) from ⟨h6, I4a.out.2.1.trans st6, I4a.out.2.2.1.stp st6, I4a.out.2.2.2.stp st6⟩)
            have O5 := Lib.hid (show (e1.off.boot a.dir a.cuts a.marks).ops ≤ 400000 from OPC.out)
            clear h6 st6 I4a QB BC OPC
            go_wp2_with fail
            refine (has_list I5.out.1 (by have := O5.out; omega)).mono ?_
            rintro _ w7 ⟨vl, rfl, sw, x7⟩
            have sr := sw.sr I5.out.1.lt
            rw [EN.out.list, ← HLD.out] at sr
            obtain ⟨F, hF⟩ : ∃ F, F = L.filter fun s => decide (s ∈ keep) := ⟨_, rfl⟩
            rw [← hF] at sr FT FL
            have HF := Lib.hid hF
            clear hF
            obtain ⟨al, cl, rfl⟩ := sr.shape
            have I7 := Lib.hid (show Has w7 b K6 (e1.off.boot a.dir a.cuts a.marks) ∧ Stp [] K6 W w7 ∧ SR K6 w7 (.slice an L.length cn) L ∧ SR K6 w7 (.slice at_ (texts d L).length ct) (texts d L) ∧ SR K6 w7 (.slice al F.length cl) F from
              ⟨I5.out.1.ext x7, I5.out.2.1.then x7, I5.out.2.2.1.stp (Stp.of_ext x7), I5.out.2.2.2.stp (Stp.of_ext x7), sr⟩)
            have RK7 := Lib.hid ((RKW.out.ext I7.out.2.1.ext).one)
            clear sr sw x7 I5
            go_wp2_with fail
            go_loopw [19, 18] (fun i kk wr => ∃ k : Nat, i = .int .i64 (k : Int) ∧ kk = .int .i64 ((keptN keep L k : Nat) : Int) ∧ k ≤ L.length ∧ RowKit.Hid (Ext w7 wr)) (fun i _ _ => L.length - (intOf i).toNat)
            case atStart => exact ⟨0, rfl, rfl, Nat.zero_le _, Lib.hid (Ext.refl _)⟩
            case round =>
              obtain ⟨k, rfl, rfl, hk, HX⟩ := hrel
              by_cases hlt : k < L.length
              · have hI : (k : Int) < (L.length : Int) := by omega
                obtain ⟨s, hs⟩ : ∃ s, L[k]? = some s := ⟨_, List.getElem?_eq_getElem hlt⟩
                obtain ⟨gn, on, rfl, cn0⟩ := I7.out.2.2.1.cell hs
                have CN0 := Lib.hid cn0
                have HSK := Lib.hid hs
                have HKM := Lib.hid hlt
                have hsl := (HL.out s (List.mem_of_getElem? hs)).1
                have HSL := Lib.hid hsl
                have kq := keptN_le keep L k
                rw [← HF.out] at kq
                have KQ := Lib.hid kq
                have KQ2 := Lib.hid (show (((keptN keep L k : Nat) : Int)) ≤ 60 by have := FL.out.1; omega)
                clear cn0 hs hsl kq hlt hk
                generalize hkq : keptN keep L k = q at *
                have HKQ := Lib.hid hkq
                clear hkq
                go_wp2_with fail
                go_loopw [21, 20] (fun j bb wr2 => ∃ m : Nat, j = .int .i64 (m : Int) ∧ bb = .bool (decide (s ∈ keep.take m)) ∧ m ≤ keep.length ∧ RowKit.Hid (Ext w7 wr2)) (fun j _ _ => keep.length - (intOf j).toNat)
                case atStart => exact ⟨0, rfl, by simp, Nat.zero_le _, HX⟩
                case round =>
                  obtain ⟨m, rfl, rfl, hm, HX2⟩ := hrel
                  by_cases hml : m < keep.length
                  · have hJ : (m : Int) < (keep.length : Int) := by omega
                    obtain ⟨ak, ckk, ek, sk⟩ := RK7.out
                    injection ek with ek1 ek2 ek3
                    obtain ⟨gk, ok, hak, dk⟩ := sk (by omega)
                    obtain ⟨y, hy⟩ : ∃ y, keep[m]? = some y := ⟨_, List.getElem?_eq_getElem hml⟩
                    have ck1 := up_cell (show wr.cell? ⟨gk, ok + m, none⟩ = some (.string (S y)) from Go.cell_later HX2.out (dk m y hy _ rfl))
                    have cn1 := up_cell (show wr.cell? ⟨gn, on + k, none⟩ = some (.string (S s)) from Go.cell_later HX2.out CN0.out)
                    have TK1 := Lib.hid (show (s ∈ keep.take (m + 1)) ↔ (s ∈ keep.take m ∨ s = y) from by rw [List.take_add_one, hy]; simp)
                    have HMM := Lib.hid hml
                    have HI := Lib.hid hI
                    subst ek1
                    subst hak
                    clear ek2 ek3 sk dk hy hml hm
                    by_cases hb : s ∈ keep.take m
                    · have T2 := Lib.hid (show decide (s ∈ keep.take (m + 1)) = true from decide_eq_true (TK1.out.2 (.inl hb)))
                      rw [decide_eq_true hb]
                      clear hb TK1
                      go_wp2
                      refine wp_region_up (by kernel_rfl) (by kernel_rfl) ?_
                      repeat (go_big_quiet_step (fail))
                      refine wpQuiet_nil ?_
                      rintro _ ⟨z, rfl⟩
                      have HX3 := Lib.hid (HX2.out.trans z.ext)
                      clear ck1 cn1
                      go_wp2
                      go_roundw
                      case rel => exact ⟨m + 1, by go_num, by rw [T2.out], by have := HMM.out; omega, HX3⟩
                      case measure => simp [intOf]; have := HMM.out; omega
                    · rw [decide_eq_false hb]
                      by_cases hys : y = s
                      · have T2 := Lib.hid (show decide (s ∈ keep.take (m + 1)) = true from decide_eq_true (TK1.out.2 (.inr hys.symm)))
                        subst hys
                        have hbb : (y == y) = true := by simp
                        clear hb TK1
                        go_wp2
                        refine wp_region_up (by kernel_rfl) (by kernel_rfl) ?_
                        repeat (go_big_quiet_step (fail))
                        refine wpQuiet_nil ?_
                        rintro _ ⟨z, rfl⟩
                        have HX3 := Lib.hid (HX2.out.trans z.ext)
                        clear ck1 cn1
                        go_wp2
                        go_roundw
                        case rel => exact ⟨m + 1, by go_num, by rw [T2.out], by have := HMM.out; omega, HX3⟩
                        case measure => simp [intOf]; have := HMM.out; omega
                      · have T2 := Lib.hid (show decide (s ∈ keep.take (m + 1)) = false from decide_eq_false (fun h => (TK1.out.1 h).elim hb (fun e => hys e.symm)))
                        have hbb : (y == s) = false := by simpa using hys
                        clear hb TK1 hys
                        go_wp2
                        refine wp_region_up (by kernel_rfl) (by kernel_rfl) ?_
                        repeat (go_big_quiet_step (fail))
                        refine wpQuiet_nil ?_
                        rintro _ ⟨z, rfl⟩
                        have HX3 := Lib.hid (HX2.out.trans z.ext)
                        clear ck1 cn1
                        go_wp2
                        go_roundw
                        case rel => exact ⟨m + 1, by go_num, by rw [T2.out], by have := HMM.out; omega, HX3⟩
                        case measure => simp [intOf]; have := HMM.out; omega
                  · obtain rfl : m = keep.length := by omega
                    rw [List.take_length]
                    clear hm hml
                    by_cases hkp : s ∈ keep
                    · rw [decide_eq_true hkp]
                      obtain ⟨ky1, ky2⟩ := keptN_yes HSK.out hkp
                      rw [HKQ.out] at ky1 ky2
                      rw [← HF.out] at ky2
                      have hqF : q < F.length := (List.getElem?_eq_some_iff.1 ky2).1
                      obtain ⟨gl, ol, hal, cl0⟩ := I7.out.2.2.2.2.cell ky2
                      have hst : (texts d L)[k]? = some (d.read s).1 := by unfold texts; rw [List.getElem?_map, HSK.out]; rfl
                      obtain ⟨gt, ot, hat, ct0⟩ := I7.out.2.2.2.1.cell hst
                      subst hal
                      subst hat
                      have ERD := EN.out.read s (by rw [← HLD.out]; exact List.mem_of_getElem? HSK.out) hkp
                      have QRD := has_read (I7.out.1.ext HX2.out) (by have := O5.out; omega) s (by have := HSL.out; unfold maxLen; omega)
                      rw [ERD] at QRD
                      have QRD := Lib.hid QRD
                      have c1 : wr.cell? ⟨gn, on + k, none⟩ = some (.string (S s)) := Go.cell_later HX2.out CN0.out
                      have u1 := up_cell c1
                      have u2 := up_cell (show wr.cell? ⟨gl, ol + q, none⟩ = some (.string (S s)) from Go.cell_later HX2.out cl0)
                      have u3 := up_cell (show wr.cell? ⟨gt, ot + k, none⟩ = some (.string (S (d.read s).1)) from Go.cell_later HX2.out ct0)
                      have KY := Lib.hid ky1
                      have hqi : (q : Int) < (F.length : Int) := by omega
                      have HGE1 := Lib.hid (show decide ((F.length : Int) ≤ (q : Int)) = false from decide_eq_false (by omega))
                      have HGE2 := Lib.hid (show decide (F.length ≤ q) = false from decide_eq_false (by omega))
                      clear cl0 ct0 ERD hst ky2 ky1 hqF hkp
                      generalize (d.read s).1 = tx at *
                      have htl : (k : Int) < ((texts d L).length : Int) := by unfold texts; rw [List.length_map]; exact hI
                      have hb1 : (s != s) = false := by simp
                      have hb2 : (tx != tx) = false := by simp
                      go_wp2_with fail
                      refine Calls.mono QRD.out ?_
                      rintro _ w8 ⟨rfl, rfl⟩
                      go_wp2_with fail
                      have hge1 := HGE1.out
                      have hge2 := HGE2.out
                      refine wp_region_up (by kernel_rfl) (by kernel_rfl) ?_
                      repeat (go_big_quiet_step (fail))
                      refine wpQuiet_nil ?_
                      rintro _ ⟨z, rfl⟩
                      have HX3 := Lib.hid (HX2.out.trans z.ext)
                      clear c1 u1 u2 u3 QRD
                      have hq60 := KQ2.out
                      go_wp2_with fail
                      go_roundw
                      case rel => exact ⟨k + 1, by go_num, by rw [KY.out]; go_num, by have := HKM.out; omega, HX3⟩
                      case measure => simp [intOf]; have := HKM.out; omega
                    · have KN1 := Lib.hid ((keptN_no HSK.out hkp).trans HKQ.out)
                      rw [decide_eq_false hkp]
                      clear hkp
                      go_wp2_with fail
                      go_roundw
                      case rel => exact ⟨k + 1, by go_num, by rw [KN1.out], by have := HKM.out; omega, HX2⟩
                      case measure => simp [intOf]; have := HKM.out; omega
              · obtain rfl : k = L.length := by omega
                rw [(keptN_all keep L).trans (congrArg List.length HF.out).symm]
                clear hk
                have hsub : (L.length : Int) - (F.length : Int) = (nc : Int) := by have := FT.out; omega
                have hFl := FL.out.1
                go_wp2_with fail
                refine (QA.out _).mono ?_
                rintro _ w8 ⟨rfl, x8⟩
                have XE := Lib.hid (show Ext w w8 from ((X1.out.trans I7.out.2.1.ext).trans HX.out).trans x8)
                clear x8
                go_wp2
                go_ret
                exact ⟨rfl, XE.out⟩
end Go.Proofs.YtmjkfgpkohfmiaaGreat
