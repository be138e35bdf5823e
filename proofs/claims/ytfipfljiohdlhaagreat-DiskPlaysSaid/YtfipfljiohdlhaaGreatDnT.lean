/- DiskPlays: the law's walk. -/
import Derived.Test.YtfipfljiohdlhaaGreatMgW
import Derived.Test.YtfipfljiohdlhaaGreatAnyL
import Derived.Test.YtfipfljiohdlhaaGreatDnF
namespace Go.Proofs.YtfipfljiohdlhaaGreat
set_option linter.unusedVariables false
set_option linter.unusedSimpArgs false
open Go.RowKit
attribute [local go_sem] S_size S_toList S_append S_extract S_beq S_bne S_empty S_nil

theorem Blk.rng {w : World} {g : Nat} {t : TypeId} {cs : Array Value} (h : Blk w g t cs) : w.rangeAt g 0 cs.toList := fun j v hv => by
  rw [Nat.zero_add, h.cell]
  simpa using hv
section
variable {P : Program} {ops : Array Oper} {Q : Exit → Act → World → Prop} {md : Region.Mode} {S : List Nat}
theorem v_fork {fuel : Nat} {listed : Array Bool} {a : Act} {w : World} (i j : Nat) {oi oj : Oper} (hr : Region.ready md ops listed = [i, j]) (hi : ops[i]? = some oi) (hj : ops[j]? = some oj)
    (wi : Region.wanted oi (yielded ops a.tmps) = true) (wj : Region.wanted oj (yielded ops a.tmps) = true)
    (h1 : ∀ x : Up w, ∀ K : Act → World → Prop, (∀ a' w', (lastS md ops S i = false → Ext x.val w') → wpAnyV P md ops Q S fuel (listed.setIfInBounds i true) a' w' → K a' w') → oi.wp P a x.val K Q)
    (h2 : ∀ x : Up w, ∀ K : Act → World → Prop, (∀ a' w', (lastS md ops S j = false → Ext x.val w') → wpAnyV P md ops Q S fuel (listed.setIfInBounds j true) a' w' → K a' w') → oj.wp P a x.val K Q) :
    wpAnyV P md ops Q S (fuel + 1) listed a w :=
  v_all [i, j] hr (by simp) fun m hm x K hK => by
    have hm : m = i ∨ m = j := by simpa using hm
    rcases hm with rfl | rfl
    · exact wpOp_wp hi wi (h1 x K hK)
    · exact wpOp_wp hj wj (h2 x K hK)
end
theorem Ply.new {W w1 w2 : World} {b : Nat} {K : List Nat} {d : Dsk} {v : V4} (h : Has w1 b K d) (s : Stp [] K W w1) (x : Ext w1 w2) (r : RefD K w2 v d) (h1 : ∀ c ∈ d.chs, c.2.2 = none → c.1 = []) (h2 : (d.files.length : Int) ≤ d.ops) (h3 : d.ops ≤ 0) :
    Ply W b w2.heap.size ((w2.alloc (.cells #[.slice none 0 0, .slice none 0 0, .slice none 0 0, .slice none 0 0, .int .i64 0, .int .i64 0, .int .i64 0, .bool false] 33)).setRow w2.heap.size (refC v d)) K d v 0 := by
  have hx : Ext w2 ((w2.alloc (.cells #[.slice none 0 0, .slice none 0 0, .slice none 0 0, .slice none 0 0, .int .i64 0, .int .i64 0, .int .i64 0, .bool false] 33)).setRow w2.heap.size (refC v d)) := Ext.setRow ((Ext.refl w2).alloc _) (Nat.le_refl _) _
  exact ⟨(h.ext x).ext hx, (s.then x).then hx, r.ext hx, (Blk.new w2 33 #[.slice none 0 0, .slice none 0 0, .slice none 0 0, .slice none 0 0, .int .i64 0, .int .i64 0, .int .i64 0, .bool false]).setRow _, fun hm => absurd (h.lt _ hm) (Nat.not_lt.2 x.size), Nat.le_trans s.1.size x.size, h1, h2, h3⟩
theorem new_flat (cap : Int) : (∀ c ∈ (Dsk.new cap).chs, c.2.2 = none → c.1 = []) ∧ (((Dsk.new cap).files.length : Nat) : Int) ≤ (Dsk.new cap).ops ∧ (Dsk.new cap).ops ≤ 0 :=
  ⟨fun c hc => (List.not_mem_nil hc).elim, Int.le_refl _, Int.le_refl _⟩
set_option maxRecDepth 20000 in
set_option maxHeartbeats 8000000 in
theorem diskPlays_law (cap : Int) (wc : (Lit.int .i64 cap).wf = true) (v1 : Value) (l : List ActD) (w : World) (r1 : RR actC 7 w v1 l) (b1 : (l.length : Int) ≤ 9223372036854775807) (R1 : ∀ x ∈ l, ActW w x) :
    Calls Tryz.prog 3 #[.int .i64 cap, v1] w fun e w' => e = .returned (.bool true) ∧ Ext w w' := by
  clear wc
  have QA := Lib.hid awake_any
  obtain ⟨p1, c1, rfl, _, _, s1⟩ := r1
  have RR1 : RR actC 7 w (.slice p1 l.length c1) l := ⟨p1, c1, rfl, by assumption, by assumption, s1⟩
  have Q1 := Lib.hid (fun (w1 : World) (x : Ext w w1) => few_of RR1 R1 b1 x)
  have S1 := Lib.hid s1
  have HR1 := Lib.hid R1
  clear R1 RR1 s1
  by_cases f1 : ¬ FewA l
  · rw [decide_eq_false f1] at Q1
    go_enter Tryz.func3, Tryz.ntmps3
    go_wp2_with fail
    refine (Q1.out _ (Ext.refl _)).mono ?_
    rintro _ w1 ⟨rfl, rfl⟩
    go_wp2_with fail
    refine (QA.out _).mono ?_
    rintro _ w2 ⟨rfl, x2⟩
    go_wp2
    go_ret
    exact ⟨rfl, x2⟩
  have f1 := Decidable.not_not.1 f1
  rw [decide_eq_true f1] at Q1
  by_cases hc : ¬ (0 ≤ cap ∧ cap ≤ 10000000)
  · have QB := Lib.hid (fun W => new_bad cap W (by omega))
    have QN := Lib.hid (fun W => rnew_any (K := []) cap W)
    rw [decide_eq_false hc] at QN
    clear hc
    go_enter Tryz.func3, Tryz.ntmps3
    go_wp2_with fail
    refine (Q1.out _ (Ext.refl _)).mono ?_
    rintro _ w1 ⟨rfl, rfl⟩
    go_wp2_with fail
    refine (QB.out _).mono ?_
    rintro _ w1 ⟨rfl, rfl⟩
    go_wp2_with fail
    refine (QN.out _).mono ?_
    rintro _ w2 ⟨v, rfl, r2, x2⟩
    obtain ⟨r1, r5, r2', r6, r3, r7, r4, r8, rfl⟩ := r2.open_
    have RS := Lib.hid (refC_size (⟨.slice r1 (Dsk.new cap).files.length r5, .slice r2' (Dsk.new cap).dir.length r6, .slice r3 (Dsk.new cap).safe.length r7, .slice r4 (Dsk.new cap).chs.length r8⟩ : V4) (Dsk.new cap))
    have RO := Lib.hid (refC_all r2)
    have BR := Lib.hid (Blk.new w2 33 #[.slice none 0 0, .slice none 0 0, .slice none 0 0, .slice none 0 0, .int .i64 0, .int .i64 0, .int .i64 0, .bool false])
    simp only [refV, refC] at RS RO ⊢
    have X2 := Lib.hid (Ext.setRow (x2.alloc (.cells #[.slice none 0 0, .slice none 0 0, .slice none 0 0, .slice none 0 0, .int .i64 0, .int .i64 0, .int .i64 0, .bool false] 33)) x2.size #[.slice r1 (Dsk.new cap).files.length r5, .slice r2' (Dsk.new cap).dir.length r6, .slice r3 (Dsk.new cap).safe.length r7, .slice r4 (Dsk.new cap).chs.length r8, .int .i64 (Dsk.new cap).cap, .int .i64 (Dsk.new cap).ops, .int .i64 (Dsk.new cap).armed, .bool (Dsk.new cap).dead])
    clear r2 x2
    generalize Dsk.new cap = d at *
    generalize d.cap = e1 at *
    generalize d.ops = e2 at *
    generalize d.armed = e3 at *
    generalize d.dead = e4 at *
    generalize d.files.length = e5 at *
    generalize d.dir.length = e6 at *
    generalize d.safe.length = e7 at *
    generalize d.chs.length = e8 at *
    go_wp2_with (refine wpList_store_blk rfl 33 (.tmp 7) (.tmp 24) rfl rfl rfl BR.out rfl RS.out RO.out ?_; refine Held.go ?_)
    refine ⟨?_⟩
    go_wp2_with fail
    refine (QA.out _).mono ?_
    rintro _ w3 ⟨rfl, x3⟩
    go_wp2
    go_ret
    exact ⟨rfl, X2.out.trans x3⟩
  have hc := Decidable.not_not.1 hc
  have QB := Lib.hid (fun W => has_new cap W hc.1 hc.2)
  have QN := Lib.hid (fun (K : List Nat) W => rnew_any (K := K) cap W)
  rw [decide_eq_true hc] at QN
  have NF := Lib.hid (new_flat cap)
  have NL := f1.1
  have NA := Lib.hid f1.2
  clear f1
  clear hc
  go_enter Tryz.func3, Tryz.ntmps3
  go_wp2_with fail
  refine (Q1.out _ (Ext.refl _)).mono ?_
  rintro _ w1 ⟨rfl, rfl⟩
  go_wp2_with fail
  refine (QB.out _).mono ?_
  rintro _ w1 ⟨b, rfl, K0, h0, st0⟩
  go_wp2_with fail
  refine (QN.out K0 _).mono ?_
  rintro _ w2 ⟨v, rfl, r2, x2⟩
  obtain ⟨r1, r5, r2', r6, r3, r7, r4, r8, rfl⟩ := r2.open_
  have RS := Lib.hid (refC_size (⟨.slice r1 (Dsk.new cap).files.length r5, .slice r2' (Dsk.new cap).dir.length r6, .slice r3 (Dsk.new cap).safe.length r7, .slice r4 (Dsk.new cap).chs.length r8⟩ : V4) (Dsk.new cap))
  have RO := Lib.hid (refC_all r2)
  have BR := Lib.hid (Blk.new w2 33 #[.slice none 0 0, .slice none 0 0, .slice none 0 0, .slice none 0 0, .int .i64 0, .int .i64 0, .int .i64 0, .bool false])
  simp only [refV, refC] at RS RO ⊢
  have P0 := Ply.new h0 st0 x2 r2 NF.out.1 NF.out.2.1 NF.out.2.2
  simp only [refC] at P0
  have P0 := Lib.hid P0
  clear h0 st0 r2 x2 NF QB QN Q1
  generalize Dsk.new cap = d0 at *
  go_wp2_with (refine wpList_store_blk rfl 33 (.tmp 7) (.tmp 24) rfl rfl rfl BR.out rfl RS.out RO.out ?_; refine Held.go ?_)
  refine ⟨?_⟩
  generalize hWW : World.setRow _ _ _ = W3 at P0 ⊢
  clear hWW BR RS RO
  have GW : w2.heap.size < W3.heap.size := P0.out.blk.lt
  generalize w2.heap.size = gr at *
  go_wp2_with fail
  go_loopw [9] (fun i wr => ∃ (k : Nat) (K : List Nat) (d : Dsk) (v : V4), i = .int .i64 (k : Int) ∧ k ≤ l.length ∧ RowKit.Hid (Ply w b gr wr K d v k)) (fun i _ => l.length - (intOf i).toNat)
  case atStart => exact ⟨0, K0, d0, _, rfl, Nat.zero_le _, P0⟩
  case round =>
    obtain ⟨k, K, d, v, rfl, hk, HP⟩ := hrel
    clear P0
    by_cases hlt : k < l.length
    · skip
      have hI : (k : Int) < (l.length : Int) := by omega
      obtain ⟨g, o, rfl, hcc⟩ := S1.out (by omega)
      obtain ⟨a, ha⟩ : ∃ a, l[k]? = some a := ⟨_, List.getElem?_eq_getElem hlt⟩
      have RA0 := Lib.hid (hcc k a ha)
      have XW := Lib.hid HP.out.stp.ext
      have RA := Lib.hid (rangeAt_ext RA0.out XW.out)
      have AW := Lib.hid (HR1.out a (List.mem_of_getElem? ha))
      have FA := Lib.hid (NA.out a (List.mem_of_getElem? ha))
      have ZA := Lib.hid (show (Tryz.prog.info? 43).map (·.size) = some (actC a).length by kernel_rfl)
      have HK := Lib.hid HP.out.has.lt
      have RGd := Lib.hid (HP.out.rg (by omega))
      have qd := fun W (x : Ext wr W) => rdo_any (K := K) (fun k hk => Nat.lt_of_lt_of_le (HK.out k hk) x.size) (HP.out.ref.ext x) RGd.out (AW.out.ext (XW.out.trans x)) (by have := FA.out.1; omega) (by have := FA.out.2.1; omega) (fun s hs => by have := FA.out.2.2.2 s hs; omega)
      rw [show refV v d = .agg (refC v d) from rfl] at qd
      have QD := Lib.hid qd
      have NS := Lib.hid (refC_nostr HP.out.ref)
      have BG := Lib.hid HP.out.blk
      have DSv := Lib.hid (refC_size v d)
      have HKM := Lib.hid (And.intro hlt NL)
      clear hcc ha hlt hk qd
      go_wp2_with fail
      refine wp_region_v [8] _ rfl (by kernel_rfl) ?_
      dsimp only [List.length_cons, List.length_nil]
      refine v_load_mid (by kernel_rfl) (by kernel_rfl) (by kernel_rfl) (fun _ _ _ _ h => h) (by kernel_rfl) (by kernel_rfl) 33 (.tmp 7) rfl rfl BG.out.drew.rng Tryz.underlying33 rfl DSv.out ?_
      dsimp only [Act.put]
      simp only [List.setIfInBounds_toArray, List.set_cons_succ, List.set_cons_zero]
      iterate 3
        (refine v_want (by kernel_rfl) (by kernel_rfl) (by kernel_rfl) (fun _ _ _ _ h => h) (by kernel_rfl) (by kernel_rfl) (fun KK hK => ?_)
         go_simp
         (refine hK _ ?_; clear hK KK))
      refine v_load_mid (by kernel_rfl) (by kernel_rfl) (by kernel_rfl) (fun _ _ _ _ h => h) (by kernel_rfl) (by kernel_rfl) 43 (.tmp 53) rfl rfl RA.out Tryz.underlying43 rfl ZA.out ?_
      dsimp only [Act.put]
      simp only [List.setIfInBounds_toArray, List.set_cons_succ, List.set_cons_zero]
      refine v_rest ?_
      refine v_fork 5 9 (by kernel_rfl) rfl rfl (by kernel_rfl) (by kernel_rfl) (fun xa KK hK => ?_) (fun xa KK hK => ?_)
      focus
        go_simp
        have y2 := Ext.trans (Ext.refl wr).drew xa.ext
        refine (QD.out _ y2).mono ?_
        rintro _ w6 ⟨v6, rfl, r6, x6⟩
        obtain ⟨a1, a5, a2, a6, a3, a7, a4, a8, rfl⟩ := r6.open_
        refine hK _ _ (fun _ => x6) ?_
        have X6 := Lib.hid (y2.trans x6)
        have R6 := Lib.hid r6
        have rs6 := refC_size (⟨.slice a1 (d.act a).1.files.length a5, .slice a2 (d.act a).1.dir.length a6, .slice a3 (d.act a).1.safe.length a7, .slice a4 (d.act a).1.chs.length a8⟩ : V4) (d.act a).1
        have ro6 := refC_all r6
        simp only [refC] at rs6 ro6
        have RS6 := Lib.hid rs6
        have RO6 := Lib.hid ro6
        clear hK KK x6 r6 y2 rs6 ro6
        simp only [refV]
        refine v_back 6 ?_
        dsimp only [List.drop_succ_cons, List.drop_zero]
        iterate 2
          (refine v_want (by kernel_rfl) (by kernel_rfl) (by kernel_rfl) (fun _ _ _ _ h => h) (by kernel_rfl) (by kernel_rfl) (fun KK hK => ?_)
           go_simp
           (refine hK _ ?_; clear hK KK))
        (refine v_pure (by kernel_rfl) (by kernel_rfl) (by kernel_rfl) (fun _ _ _ _ h => h) (by kernel_rfl) (fun KK hK => ?_)
         go_simp
         (refine hK _ ?_; clear hK KK))
        refine v_rest ?_
        refine v_one 9 (by kernel_rfl) rfl (by kernel_rfl) fun xu KK hK => ?_
        go_simp
        refine hK _ _ (fun _ => (Ext.refl _).alloc _) ?_
        clear hK KK
        refine v_one 10 (by kernel_rfl) rfl (by kernel_rfl) fun xv KK hK => ?_
        have be := (Blk.new xu.val 33 #[.slice none 0 0, .slice none 0 0, .slice none 0 0, .slice none 0 0, .int .i64 0, .int .i64 0, .int .i64 0, .bool false]).ext xv.ext
        refine wp_store_blk 33 (.tmp 10) (.tmp 56) rfl rfl (cs' := #[.slice a1 (d.act a).1.files.length a5, .slice a2 (d.act a).1.dir.length a6, .slice a3 (d.act a).1.safe.length a7, .slice a4 (d.act a).1.chs.length a8, .int .i64 (d.act a).1.cap, .int .i64 (d.act a).1.ops, .int .i64 (d.act a).1.armed, .bool (d.act a).1.dead]) rfl be rfl RS6.out RO6.out (hK _ _ (fun h0 => (Bool.false_ne_true (h0.symm.trans (by kernel_rfl))).elim) ?_)
        clear hK KK
        refine v_one 11 (by kernel_rfl) rfl (by kernel_rfl) fun xw KK hK => ?_
        go_simp
        refine hK _ _ (fun _ => Ext.refl _) ?_
        clear hK KK
        refine v_done (by kernel_rfl) (fun y => ?_)
        have yy := xw.ext.trans y.ext
        have BT := Lib.hid ((be.setRow #[.slice a1 (d.act a).1.files.length a5, .slice a2 (d.act a).1.dir.length a6, .slice a3 (d.act a).1.safe.length a7, .slice a4 (d.act a).1.chs.length a8, .int .i64 (d.act a).1.cap, .int .i64 (d.act a).1.ops, .int .i64 (d.act a).1.armed, .bool (d.act a).1.dead]).ext yy)
        have y9 : Ext w6 y.val := Ext.trans (Ext.setRow ((xu.ext.alloc _).trans xv.ext) xu.ext.size _) yy
        have X9 := Lib.hid (X6.out.trans y9)
        have R9 := Lib.hid (R6.out.ext y9)
        clear be y9
        generalize xu.val.heap.size = g10 at *
        generalize y.val = w9 at *
        have BG9 := Lib.hid (BG.out.ext X9.out)
        go_wp2_with (refine wpList_load_blk rfl 33 (.tmp 10) rfl rfl BT.out Tryz.underlying33 rfl RS6.out ?_; refine Held.go ?_)
        refine ⟨?_⟩
        go_wp2_with (refine wpList_store_blk rfl 33 (.tmp 7) (.tmp 58) rfl rfl rfl BG9.out rfl RS6.out RO6.out ?_; refine Held.go ?_)
        refine ⟨?_⟩
        obtain ⟨t1, t2, t3, t4⟩ := HP.out.turn X9.out R9.out NS.out
        simp only [refC] at t1 t2 t3 t4
        clear BT R9 BG9
        generalize hWW : World.setRow _ _ _ = w10 at t1 t2 t3 t4 ⊢
        clear hWW X9
        have RA10 := Lib.hid (rangeAt_ext RA0.out t2.ext)
        have QDo := Lib.hid (has_do t1 (by have := RGd.out.op; omega) (AW.out.ext t2.ext))
        have T := Lib.hid (And.intro t2 (And.intro t3 t4))
        clear t1 t2 t3 t4
        have c0 := RA10.out 0 _ rfl
        rw [Nat.add_zero] at c0
        go_wp2_with (refine wpList_load_mid rfl 43 (.tmp 62) rfl g _ rfl _ _ RA10.out Tryz.underlying43 rfl ZA.out ?_; refine Held.go ?_)
        refine ⟨?_⟩
        go_wp2_with fail
        refine Calls.mono QDo.out ?_
        rintro _ w11 ⟨rfl, K', h3, s3⟩
        have P1 := Lib.hid (HP.out.next T.out.1 T.out.2.1 T.out.2.2 h3 s3)
        clear h3 s3 T QDo c0 RA10
        have bg := P1.out.blk
        have qs := same_any P1.out.has P1.out.ref (P1.out.rg (by have := HKM.out; omega))
        simp only [refC] at bg qs
        have BG11 := Lib.hid bg
        have QS := Lib.hid qs
        clear bg qs
        go_wp2_with (refine wpList_load_blk_g (by kernel_rfl) 33 (.tmp 7) rfl rfl BG11.out Tryz.underlying33 rfl RS6.out ?_; refine Held.go ?_)
        refine ⟨?_⟩
        go_wp2_with fail
        refine QS.out.mono ?_
        rintro _ w12 ⟨rfl, x12⟩
        go_wp2
        go_roundw
        case rel => exact ⟨k + 1, K', (d.act a).1, (⟨.slice a1 (d.act a).1.files.length a5, .slice a2 (d.act a).1.dir.length a6, .slice a3 (d.act a).1.safe.length a7, .slice a4 (d.act a).1.chs.length a8⟩ : V4), by go_num, by have := HKM.out; omega, Lib.hid (P1.out.ext x12)⟩
        case measure => simp [intOf]; have := HKM.out; omega
      focus
        go_simp
        refine hK _ _ (fun _ => (Ext.refl _).alloc _) ?_
        clear hK KK
        refine v_one 5 (by kernel_rfl) rfl (by kernel_rfl) fun xb KK hK => ?_
        go_simp
        have y2 := Ext.trans (((Ext.refl wr).drew.trans xa.ext).alloc (.cells #[.slice none 0 0, .slice none 0 0, .slice none 0 0, .slice none 0 0, .int .i64 0, .int .i64 0, .int .i64 0, .bool false] 33)) xb.ext
        have be0 := (Blk.new xa.val 33 #[.slice none 0 0, .slice none 0 0, .slice none 0 0, .slice none 0 0, .int .i64 0, .int .i64 0, .int .i64 0, .bool false]).ext xb.ext
        refine (QD.out _ y2).mono ?_
        rintro _ w6 ⟨v6, rfl, r6, x6⟩
        obtain ⟨a1, a5, a2, a6, a3, a7, a4, a8, rfl⟩ := r6.open_
        refine hK _ _ (fun _ => x6) ?_
        have X6 := Lib.hid (y2.trans x6)
        have R6 := Lib.hid r6
        have rs6 := refC_size (⟨.slice a1 (d.act a).1.files.length a5, .slice a2 (d.act a).1.dir.length a6, .slice a3 (d.act a).1.safe.length a7, .slice a4 (d.act a).1.chs.length a8⟩ : V4) (d.act a).1
        have ro6 := refC_all r6
        simp only [refC] at rs6 ro6
        have RS6 := Lib.hid rs6
        have RO6 := Lib.hid ro6
        have BE := Lib.hid (be0.ext x6)
        have HW2 : wr.heap.size ≤ xa.val.heap.size := xa.ext.size
        clear hK KK x6 r6 y2 rs6 ro6 be0
        simp only [refV]
        refine v_back 6 ?_
        dsimp only [List.drop_succ_cons, List.drop_zero]
        iterate 2
          (refine v_want (by kernel_rfl) (by kernel_rfl) (by kernel_rfl) (fun _ _ _ _ h => h) (by kernel_rfl) (by kernel_rfl) (fun KK hK => ?_)
           go_simp
           (refine hK _ ?_; clear hK KK))
        (refine v_pure (by kernel_rfl) (by kernel_rfl) (by kernel_rfl) (fun _ _ _ _ h => h) (by kernel_rfl) (fun KK hK => ?_)
         go_simp
         (refine hK _ ?_; clear hK KK))
        refine v_rest ?_
        refine v_one 10 (by kernel_rfl) rfl (by kernel_rfl) fun xv KK hK => ?_
        have be := BE.out.ext xv.ext
        refine wp_store_blk 33 (.tmp 10) (.tmp 56) rfl rfl (cs' := #[.slice a1 (d.act a).1.files.length a5, .slice a2 (d.act a).1.dir.length a6, .slice a3 (d.act a).1.safe.length a7, .slice a4 (d.act a).1.chs.length a8, .int .i64 (d.act a).1.cap, .int .i64 (d.act a).1.ops, .int .i64 (d.act a).1.armed, .bool (d.act a).1.dead]) rfl be rfl RS6.out RO6.out (hK _ _ (fun h0 => (Bool.false_ne_true (h0.symm.trans (by kernel_rfl))).elim) ?_)
        clear hK KK
        refine v_one 11 (by kernel_rfl) rfl (by kernel_rfl) fun xw KK hK => ?_
        go_simp
        refine hK _ _ (fun _ => Ext.refl _) ?_
        clear hK KK
        refine v_done (by kernel_rfl) (fun y => ?_)
        have yy := xw.ext.trans y.ext
        have BT := Lib.hid ((be.setRow #[.slice a1 (d.act a).1.files.length a5, .slice a2 (d.act a).1.dir.length a6, .slice a3 (d.act a).1.safe.length a7, .slice a4 (d.act a).1.chs.length a8, .int .i64 (d.act a).1.cap, .int .i64 (d.act a).1.ops, .int .i64 (d.act a).1.armed, .bool (d.act a).1.dead]).ext yy)
        have X9 := Lib.hid (Ext.trans (Ext.setRow (X6.out.trans xv.ext) HW2 #[.slice a1 (d.act a).1.files.length a5, .slice a2 (d.act a).1.dir.length a6, .slice a3 (d.act a).1.safe.length a7, .slice a4 (d.act a).1.chs.length a8, .int .i64 (d.act a).1.cap, .int .i64 (d.act a).1.ops, .int .i64 (d.act a).1.armed, .bool (d.act a).1.dead]) yy)
        have rb : RefD K (xv.val.setRow xa.val.heap.size #[.slice a1 (d.act a).1.files.length a5, .slice a2 (d.act a).1.dir.length a6, .slice a3 (d.act a).1.safe.length a7, .slice a4 (d.act a).1.chs.length a8, .int .i64 (d.act a).1.cap, .int .i64 (d.act a).1.ops, .int .i64 (d.act a).1.armed, .bool (d.act a).1.dead]) _ _ := (R6.out.ext xv.ext).butG be zero_nostr (But.row1 xv.val xa.val.heap.size #[.slice a1 (d.act a).1.files.length a5, .slice a2 (d.act a).1.dir.length a6, .slice a3 (d.act a).1.safe.length a7, .slice a4 (d.act a).1.chs.length a8, .int .i64 (d.act a).1.cap, .int .i64 (d.act a).1.ops, .int .i64 (d.act a).1.armed, .bool (d.act a).1.dead])
        have R9 := Lib.hid (rb.ext yy)
        clear be BE HW2 rb
        generalize xa.val.heap.size = g10 at *
        generalize y.val = w9 at *
        have BG9 := Lib.hid (BG.out.ext X9.out)
        go_wp2_with (refine wpList_load_blk rfl 33 (.tmp 10) rfl rfl BT.out Tryz.underlying33 rfl RS6.out ?_; refine Held.go ?_)
        refine ⟨?_⟩
        go_wp2_with (refine wpList_store_blk rfl 33 (.tmp 7) (.tmp 58) rfl rfl rfl BG9.out rfl RS6.out RO6.out ?_; refine Held.go ?_)
        refine ⟨?_⟩
        obtain ⟨t1, t2, t3, t4⟩ := HP.out.turn X9.out R9.out NS.out
        simp only [refC] at t1 t2 t3 t4
        clear BT R9 BG9
        generalize hWW : World.setRow _ _ _ = w10 at t1 t2 t3 t4 ⊢
        clear hWW X9
        have RA10 := Lib.hid (rangeAt_ext RA0.out t2.ext)
        have QDo := Lib.hid (has_do t1 (by have := RGd.out.op; omega) (AW.out.ext t2.ext))
        have T := Lib.hid (And.intro t2 (And.intro t3 t4))
        clear t1 t2 t3 t4
        have c0 := RA10.out 0 _ rfl
        rw [Nat.add_zero] at c0
        go_wp2_with (refine wpList_load_mid rfl 43 (.tmp 62) rfl g _ rfl _ _ RA10.out Tryz.underlying43 rfl ZA.out ?_; refine Held.go ?_)
        refine ⟨?_⟩
        go_wp2_with fail
        refine Calls.mono QDo.out ?_
        rintro _ w11 ⟨rfl, K', h3, s3⟩
        have P1 := Lib.hid (HP.out.next T.out.1 T.out.2.1 T.out.2.2 h3 s3)
        clear h3 s3 T QDo c0 RA10
        have bg := P1.out.blk
        have qs := same_any P1.out.has P1.out.ref (P1.out.rg (by have := HKM.out; omega))
        simp only [refC] at bg qs
        have BG11 := Lib.hid bg
        have QS := Lib.hid qs
        clear bg qs
        go_wp2_with (refine wpList_load_blk_g (by kernel_rfl) 33 (.tmp 7) rfl rfl BG11.out Tryz.underlying33 rfl RS6.out ?_; refine Held.go ?_)
        refine ⟨?_⟩
        go_wp2_with fail
        refine QS.out.mono ?_
        rintro _ w12 ⟨rfl, x12⟩
        go_wp2
        go_roundw
        case rel => exact ⟨k + 1, K', (d.act a).1, (⟨.slice a1 (d.act a).1.files.length a5, .slice a2 (d.act a).1.dir.length a6, .slice a3 (d.act a).1.safe.length a7, .slice a4 (d.act a).1.chs.length a8⟩ : V4), by go_num, by have := HKM.out; omega, Lib.hid (P1.out.ext x12)⟩
        case measure => simp [intOf]; have := HKM.out; omega
    · obtain rfl : k = l.length := by omega
      clear hk
      go_wp2_with fail
      refine (QA.out _).mono ?_
      rintro _ w3 ⟨rfl, x3⟩
      go_wp2
      go_ret
      exact ⟨rfl, HP.out.stp.ext.trans x3⟩
end Go.Proofs.YtfipfljiohdlhaaGreat
