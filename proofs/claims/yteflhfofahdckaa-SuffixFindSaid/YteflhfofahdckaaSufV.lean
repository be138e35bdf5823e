/- suffix: Find. -/
import Derived.Test.YteflhfofahdckaaSufU
import Derived.Test.YteflhfofahdckaaSufO
import Derived.Test.YteflhfofahdckaaGen
namespace Go.Proofs.Yteflhfofahdckaa
set_option linter.unusedVariables false
set_option linter.unusedSimpArgs false
open Go.RowKit
attribute [local go_sem] S_size S_toList S_extract S_beq S_bne S_empty S_nil

theorem rng_size : (Try.prog.info? 53).map (·.size) = some 2 := by kernel_rfl
set_option maxRecDepth 20000 in
set_option maxHeartbeats 4000000 in
theorem find_any (s what : List UInt8) (ar : List Int) (v : Value) (w : World) (hr : RI w v ar) (hl : (ar.length : Int) ≤ 20001) (hs : (s.length : Int) ≤ 20000) (hw : (what.length : Int) ≤ 100000) :
    Calls Try.prog 31 #[.string (S s), v, .string (S what)] w fun e w' => e = .returned (.tuple #[.agg #[.int .i64 (fndR s ar what).1, .int .i64 (fndR s ar what).2], .int .i64 (fndE s ar)]) ∧ Ext w w' := by
  have hmf : ∀ (fn : Fn) (first cap : Array Value) (w : World), (Instr.makeFunc fn first cap).run Try.prog w = .ok (.func fn first cap) w := fun _ _ _ _ => rfl
  obtain ⟨a, c, rfl, hlc, _, hsh⟩ := hr.shape
  have HS := Lib.hid hsh
  have HR := Lib.hid hr
  have RS := Lib.hid rng_size
  have x0 : Ext w ((((w.alloc (.cells #[.string (S s)] 9)).alloc (.cells #[.slice a ar.length c] 33)).alloc (.cells #[.string (S what)] 9)).alloc (.cells #[.int .i64 0, .int .i64 0] 53)) := ((((Ext.refl w).alloc _).alloc _).alloc _).alloc _
  have b1 := (((Blk.new w 9 #[.string (S s)]).alloc (.cells #[.slice a ar.length c] 33)).alloc (.cells #[.string (S what)] 9)).alloc (.cells #[.int .i64 0, .int .i64 0] 53)
  have b2 := ((Blk.new (w.alloc (.cells #[.string (S s)] 9)) 33 #[.slice a ar.length c]).alloc (.cells #[.string (S what)] 9)).alloc (.cells #[.int .i64 0, .int .i64 0] 53)
  have b3 := (Blk.new ((w.alloc (.cells #[.string (S s)] 9)).alloc (.cells #[.slice a ar.length c] 33)) 9 #[.string (S what)]).alloc (.cells #[.int .i64 0, .int .i64 0] 53)
  have b4 := Blk.new (((w.alloc (.cells #[.string (S s)] 9)).alloc (.cells #[.slice a ar.length c] 33)).alloc (.cells #[.string (S what)] 9)) 53 #[.int .i64 0, .int .i64 0]
  simp only [World.size_alloc] at b2 b3 b4
  have XX := Lib.hid x0
  have BB1 := Lib.hid b1
  have BB2 := Lib.hid b2
  have BB3 := Lib.hid b3
  have BB4 := Lib.hid b4
  clear x0 b1 b2 b3 b4 hsh hr
  go_enter Try.func31, Try.ntmps31
  go_wp2_with fail
  generalize ((((w.alloc (.cells #[.string (S s)] 9)).alloc (.cells #[.slice a ar.length c] 33)).alloc (.cells #[.string (S what)] 9)).alloc (.cells #[.int .i64 0, .int .i64 0] 53)) = W0 at *
  have hn := XX.out.size
  have HK := Lib.hid (fun x (h : Ext W0 x) => ranks_any ar (.slice a ar.length c) x (HR.out.ext (XX.out.trans h)) (by omega))
  refine (HK.out _ (Ext.refl _)).mono ?_
  rintro e w1 ⟨u, rfl, x1, hru⟩
  clear HK hru
  have X1 := Lib.hid x1
  have C2 := Lib.hid ((BB2.out.ext x1).cell 0)
  have C1 := Lib.hid ((BB1.out.ext x1).cell 0)
  have B4 := Lib.hid (BB4.out.ext x1)
  clear x1
  cases hp : okP ar with
  | false =>
    have HF := Lib.hid (fnd_false (s := s) (what := what) (ar := ar) (okC_false (by unfold okC; rw [hp]; rfl)))
    rw [(rk_false hp).1]
    have c2 := C2.out
    go_wp2_with (refine wpList_store_blk rfl 53 (.tmp 6) (.tmp 31) rfl rfl rfl B4.out rfl RS.out (by kernel_rfl) ?_)
    exact bodyPost_ret (results_row_tmp rfl _ _ (w.heap.size + 1 + 1 + 1) _ _ (0, 0) _ rfl (B4.out.setRow #[.int .i64 0, .int .i64 0]) Try.underlying53 rfl RS.out) rfl ⟨by rw [HF.out.1, HF.out.2]; rfl, (XX.out.trans X1.out).setRow (by omega) _⟩
  | true =>
    rw [rk_true hp]
    by_cases hlen : ar.length = s.length + 1
    · have HOK := Lib.hid (show okC s ar = true by unfold okC; rw [hp, Bool.true_and]; exact decide_eq_true hlen)
      have hbb : ((ar.length : Int) != (s.length : Int) + 1) = false := bne_eq_false_iff_eq.2 (by omega)
      have W1 := w64_small (n := (s.length : Int) + 1) (by omega) (by omega)
      have HLEN := Lib.hid hlen
      have c2 := C2.out
      have c1 := C1.out
      clear hp hlen
      go_wp2_with fail
      refine (array_any s w1 (by omega)).mono ?_
      rintro e w2 ⟨go, rfl, x2, hro⟩
      have HRO := Lib.hid hro
      have X2 := Lib.hid (X1.out.trans x2)
      clear x2 hro hbb c1 c2 W1 C1 C2 B4
      have HRNG := Lib.hid (show ∀ i, i < ar.length → 0 ≤ ar.getD i 0 ∧ ar.getD i 0 ≤ (s.length : Int) from fun i hi => by
        have h1 := HOK.out
        unfold okC at h1
        rw [Bool.and_eq_true] at h1
        have := okP_in h1.1 hi
        have := HLEN.out
        omega)
      have Q1 := Lib.hid (show ∀ x, Ext W0 x → PredAt (.func (.func 46) #[] #[.pointer (some ⟨w.heap.size, 0, none⟩), .pointer (some ⟨w.heap.size + 1, 0, none⟩), .pointer (some ⟨w.heap.size + 1 + 1, 0, none⟩)]) (geAt s ar what) ar.length x from fun x hx =>
        ⟨_, _, rfl, callF_run Try.func46 rfl rfl, fun W hW i hi => geAt_any s what ar i w.heap.size (w.heap.size + 1) (w.heap.size + 1 + 1) _ W (BB1.out.ext (hx.trans hW)) (BB2.out.ext (hx.trans hW)) (BB3.out.ext (hx.trans hW)) (HR.out.ext (XX.out.trans (hx.trans hW))) hi (HRNG.out i hi) (by omega) (by omega)⟩)
      have Q2 := Lib.hid (show ∀ (lo g : Nat) x, Ext W0 x → Blk x g 3 #[.int .i64 (lo : Int)] → PredAt (.func (.func 47) #[] #[.pointer (some ⟨w.heap.size, 0, none⟩), .pointer (some ⟨w.heap.size + 1, 0, none⟩), .pointer (some ⟨g, 0, none⟩), .pointer (some ⟨w.heap.size + 1 + 1, 0, none⟩)]) (fun i => !preAt s ar what (lo + i)) (ar.length - lo) x from fun lo g x hx hb =>
        ⟨_, _, rfl, callF_run Try.func47 rfl rfl, fun W hW i hi => preAt_any s what ar i lo w.heap.size (w.heap.size + 1) (w.heap.size + 1 + 1) g _ W (BB1.out.ext (hx.trans hW)) (BB2.out.ext (hx.trans hW)) (BB3.out.ext (hx.trans hW)) (hb.ext hW) (HR.out.ext (XX.out.trans (hx.trans hW))) (by omega) (HRNG.out _ (by omega)) (by omega) (by omega) (by omega)⟩)
      go_wp2
      go_loopw [43] (fun i wr => ∃ k : Nat, k ≤ ar.length ∧ i = .int .i64 (k : Int) ∧ (∀ j, j < k → ar.getD j 0 = ((arrayL s).getD j 0 : Nat)) ∧ Ext w2 wr) (fun i _ => ar.length - (intOf i).toNat)
      case atStart => exact ⟨0, by omega, rfl, fun j hj => by omega, Ext.refl _⟩
      case round =>
        obtain ⟨k, hk, rfl, hall, hx⟩ := hrel
        have HX := Lib.hid (X2.out.trans hx)
        have c2 := (BB2.out.ext HX.out).cell 0
        by_cases hlt : k < ar.length
        · obtain ⟨ga, oa, rfl, hca⟩ := HS.out (by omega)
          have ca := Go.cell_later (XX.out.trans HX.out) (hca k hlt)
          have co := Go.cell_later hx (HRO.out.2 k (by have := HLEN.out; omega))
          have hki : (k : Int) < (ar.length : Int) := by omega
          have hkn : (k : Int) < (s.length : Int) + 1 := by have := HLEN.out; omega
          have hac : (ar.length : Int) ≤ (c : Int) := by omega
          have B4 := Lib.hid (BB4.out.ext HX.out)
          have HXR := Lib.hid hx
          have HA := Lib.hid hall
          by_cases he : ar.getD k 0 = ((arrayL s).getD k 0 : Nat)
          · have HST := Lib.hid (show ∀ j, j < k + 1 → ar.getD j 0 = ((arrayL s).getD j 0 : Nat) from fun j hj => by
              rcases Nat.lt_or_ge j k with h | h
              · exact hall j h
              · have : j = k := by omega
                subst this; exact he)
            rw [he] at ca
            clear he hall hx hca
            generalize (arrayL s).getD k 0 = q at *
            go_wp2
            go_roundw
            case rel => exact ⟨k + 1, by omega, by go_num, HST.out, HXR.out⟩
            case measure => simp [intOf]; omega
          · have HF := Lib.hid (fnd_false (s := s) (what := what) (ar := ar) (Bool.eq_false_iff.2 fun h => he (by have e := of_decide_eq_true h; conv => lhs; rw [e, toI_getD])))
            have hne : (ar.getD k 0 != ((arrayL s).getD k 0 : Nat)) = true := bne_iff_ne.2 he
            clear he hall hx hca
            generalize (arrayL s).getD k 0 = q at *
            generalize ar.getD k 0 = p at *
            go_wp2_with (refine wpList_store_blk rfl 53 (.tmp 6) (.tmp 54) rfl rfl rfl B4.out rfl RS.out (by kernel_rfl) ?_)
            exact bodyPost_ret (results_row_tmp rfl _ _ (w.heap.size + 1 + 1 + 1) _ _ (0, 0) _ rfl (B4.out.setRow #[.int .i64 0, .int .i64 0]) Try.underlying53 rfl RS.out) rfl ⟨by rw [HF.out.1, HF.out.2]; rfl, (XX.out.trans HX.out).setRow (by omega) _⟩
        · have e : k = ar.length := by omega
          subst e
          have hF : okF s ar = true := decide_eq_true (by
            refine List.ext_getElem (by rw [toI_length, (arrayL_is s).length]; exact HLEN.out) fun i h1 h2 => ?_
            have h3 := hall i h1
            have h4 := toI_getD (arrayL s) i
            rw [getD_ge h1] at h3
            rw [getD_ge h2] at h4
            rw [h3, h4])
          have hE : ar = toI (arrayL s) := of_decide_eq_true hF
          have HF := Lib.hid (fnd_true (s := s) (what := what) (ar := ar) hF)
          have hm1 : ∀ i j, i ≤ j → j < ar.length → geAt s ar what i = true → geAt s ar what j = true := fun i j h1 h2 h3 => by
            rw [hE] at h3 ⊢
            exact ge_mono h1 (by have := HLEN.out; omega) h3
          obtain ⟨lo, hlo⟩ := first_exists ar.length hm1
          have hm2 : ∀ i j, i ≤ j → j < ar.length - lo → (!preAt s ar what (lo + i)) = true → (!preAt s ar what (lo + j)) = true := fun i j h1 h2 h3 => by
            have h4 := hlo.2.2 (lo + i) (by omega) (by omega)
            cases h5 : preAt s ar what (lo + j) with
            | false => rfl
            | true =>
              rw [hE] at h3 h4 h5
              rw [pre_mono (show lo + i ≤ lo + j by omega) (by have := HLEN.out; omega) h4 h5] at h3
              cases h3
          obtain ⟨d, hd⟩ := first_exists (P := fun i => !preAt s ar what (lo + i)) (ar.length - lo) hm2
          have hres : fndL s ar what = if d = 0 then (1, 0) else ((lo : Int), (lo : Int) + (d : Int) - 1) := by
            have h1 := hlo
            have h2 := hd
            rw [HLEN.out] at h1 h2
            rw [hE] at h1 h2 ⊢
            exact (fnd_eq h1 h2).2
          have HRES := Lib.hid hres
          have S1 := Lib.hid (fun x (hx : Ext W0 x) => search_at hlo (Q1.out x hx) (by omega))
          have S2 := Lib.hid (fun g x (hx : Ext W0 x) hb => search_at hd (Q2.out lo g x hx hb) (by omega))
          have hll : lo ≤ ar.length := hlo.1
          have hdl : d ≤ ar.length - lo := hd.1
          have B4 := Lib.hid (BB4.out.ext HX.out)
          have C4 := Lib.hid (BB2.out.ext HX.out)
          have n9 : ¬ (ar.length : Int) < (s.length : Int) + 1 := by have := HLEN.out; omega
          clear hm1 hm2 hlo hd hres hall hF hE hx Q1 Q2 HRNG
          go_wp2_with fail
          refine (S1.out wr HX.out).mono ?_
          rintro e w3 ⟨rfl, x3⟩
          have X3 := Lib.hid (HX.out.trans x3)
          clear x3 S1
          have B14 := Lib.hid (Blk.new w3 3 #[.int .i64 (lo : Int)])
          have X4 := Lib.hid (X3.out.alloc (.cells #[.int .i64 (lo : Int)] 3))
          go_wp2_with fail
          generalize w3.alloc (.cells #[.int .i64 (lo : Int)] 3) = W4 at *
          generalize w3.heap.size = g14 at *
          have QS := Lib.hid (fun (x : Up W4) => S2.out g14 x.val (X4.out.trans x.ext) (B14.out.ext x.ext))
          have e1 : IntKind.i64.wrap ((ar.length : Int) - (lo : Int)) = ((ar.length - lo : Nat) : Int) := by rw [IntWalk.i64_in _ (by omega)]; omega
          have e2 : IntKind.i64.wrap ((lo : Int) + (d : Int)) = (lo : Int) + (d : Int) := IntWalk.i64_in _ (by omega)
          have k14 := up_cell (W := W4) (B14.out.cell 0)
          have k4 := up_cell (W := W4) ((BB2.out.ext X4.out).cell 0)
          refine wp_region_up (by kernel_rfl) (by kernel_rfl) ?_
          repeat (go_big_quiet_step (first | (go_at_call 45; (with_reducible exact up_call (QS.out _)))))
          refine wpQuiet_nil ?_
          rintro _ ⟨y2, rfl⟩
          have HXW := Lib.hid (X4.out.trans y2.ext)
          have B4 := Lib.hid (BB4.out.ext HXW.out)
          have c14 := (B14.out.ext y2.ext).cell 0
          generalize y2.val = w5 at *
          clear k14 k4 QS
          by_cases h0 : d = 0
          · have HR2 := HRES.out
            rw [if_pos h0] at HR2
            have HR3 := Lib.hid HR2
            subst h0
            go_wp2_with (refine wpList_store_blk rfl 53 (.tmp 6) (.tmp 71) rfl rfl rfl B4.out rfl RS.out (by kernel_rfl) ?_)
            exact bodyPost_ret (results_row_tmp rfl _ _ (w.heap.size + 1 + 1 + 1) _ _ (0, 0) _ rfl (B4.out.setRow #[.int .i64 1, .int .i64 0]) Try.underlying53 rfl RS.out) rfl ⟨by rw [HF.out.1, HF.out.2, HR3.out]; rfl, (XX.out.trans HXW.out).setRow (by omega) _⟩
          · have HR2 := HRES.out
            rw [if_neg h0] at HR2
            have HR3 := Lib.hid HR2
            have hde : ((lo : Int) + (d : Int) == (lo : Int)) = false := beq_eq_false_iff_ne.2 (by omega)
            have hde2 : ¬ (lo : Int) + (d : Int) = (lo : Int) := by omega
            have e3 : IntKind.i64.wrap ((lo : Int) + (d : Int) - 1) = (lo : Int) + (d : Int) - 1 := IntWalk.i64_in _ (by omega)
            go_wp2_with (refine wpList_store_blk rfl 53 (.tmp 6) (.tmp 75) rfl rfl rfl B4.out rfl RS.out (by kernel_rfl) ?_)
            exact bodyPost_ret (results_row_tmp rfl _ _ (w.heap.size + 1 + 1 + 1) _ _ (0, 0) _ rfl (B4.out.setRow #[.int .i64 (lo : Int), .int .i64 ((lo : Int) + (d : Int) - 1)]) Try.underlying53 rfl RS.out) rfl ⟨by rw [HF.out.1, HF.out.2, HR3.out]; rfl, (XX.out.trans HXW.out).setRow (by omega) _⟩
    · have HF := Lib.hid (fnd_false (s := s) (what := what) (ar := ar) (okC_false (by unfold okC; rw [hp, Bool.true_and]; exact decide_eq_false hlen)))
      have hl2 : ¬ (ar.length : Int) = (s.length : Int) + 1 := by omega
      have W1 := w64_small (n := (s.length : Int) + 1) (by omega) (by omega)
      have hbb : ((ar.length : Int) != (s.length : Int) + 1) = true := by simpa using hl2
      have c2 := C2.out
      have c1 := C1.out
      clear hp hlen hl2
      go_wp2_with (refine wpList_store_blk rfl 53 (.tmp 6) (.tmp 31) rfl rfl rfl B4.out rfl RS.out (by kernel_rfl) ?_)
      exact bodyPost_ret (results_row_tmp rfl _ _ (w.heap.size + 1 + 1 + 1) _ _ (0, 0) _ rfl (B4.out.setRow #[.int .i64 0, .int .i64 0]) Try.underlying53 rfl RS.out) rfl ⟨by rw [HF.out.1, HF.out.2]; rfl, (XX.out.trans X1.out).setRow (by omega) _⟩
end Go.Proofs.Yteflhfofahdckaa
