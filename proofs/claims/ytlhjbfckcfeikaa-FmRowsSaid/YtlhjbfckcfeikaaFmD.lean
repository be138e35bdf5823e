/- fm: count. -/
import Derived.Test.YtlhjbfckcfeikaaFmC
import Derived.Deep.DeepCutAuto
namespace Go.Proofs.Ytlhjbfckcfeikaa
set_option linter.unusedVariables false
set_option linter.unusedSimpArgs false
open Go.RowKit
attribute [local go_sem] S_size S_toList S_extract S_beq S_bne S_empty S_nil u8_beq U8_fold U8_toNat z256_run z256_ne

theorem idx_congr {l : List UInt8} {q : Int} {st st' : Nat → Nat} {kv pv : Value} {m : Bool} (h : ∀ b, b < 257 → st b = st' b) : idxV l q st kv pv m = idxV l q st' kv pv m := by
  unfold idxV
  congr 4
  refine List.map_congr_left fun b hb => ?_
  rw [h b (List.mem_range.1 hb)]

theorem blk_rr1c {w : World} {g : Nat} {t : TypeId} {c : Nat → Nat} (h : Blk w g t (cnC c).toArray) : RR cnC 256 w (.slice (some ⟨g, 0, none⟩) 1 1) [c] :=
  WR.rr (B := 0) cnC_length ⟨by simp [cnC_length], .inr ⟨g, 1, _, rfl, Nat.zero_le _, h, Nat.le_refl _, by unfold maxLen; omega, by simp [cnC_length], by
    have : ([c].length * 256) = (cnC c).length := by simp [cnC_length]
    rw [this, List.take_length]
    simp⟩⟩

set_option maxRecDepth 20000 in
set_option maxHeartbeats 8000000 in
theorem count_any (l : List UInt8) (q : Int) (g : Nat) (w : World) (hl : (l.length : Int) ≤ 20000) (hg : Blk w g 50 (idxV l q (fun _ => 0) (.slice none 0 0) (.slice none 0 0) true)) :
    Calls Try.prog 26 #[.pointer (some ⟨g, 0, none⟩)] w fun e w' => e = .returned (.tuple #[]) ∧ But [g] w w' ∧ ∃ kv, Blk w' g 50 (idxV l q (stN l) kv (.slice none 0 0) true) ∧ WR cnC 256 w' w.heap.size 86 kv (keptL l l.length) := by
  have hz : Try.zeroCells86 = numsV (cntsL l 0) := by rw [cnts_zero]; exact z256_eq
  have b2 : Blk (w.alloc (.cells Try.zeroCells86 86)) w.heap.size 86 (numsV (cntsL l 0)) := by
    rw [hz]; exact Blk.new w _ _
  have B2 := Lib.hid b2
  have B0 := Lib.hid (hg.alloc (.cells Try.zeroCells86 86))
  have X0 := Lib.hid ((But.refl [g] w).alloc (.cells Try.zeroCells86 86))
  have HG := Lib.hid hg.lt
  clear b2 hz hg
  go_enter Try.func26, Try.ntmps26
  go_wp2
  generalize w.alloc (.cells Try.zeroCells86 86) = W0 at *
  go_loopw [3] (fun i wr => ∃ (k : Nat) (kv : Value), k ≤ l.length ∧ i = .int .i64 (k : Int) ∧ Blk wr g 50 (idxV l q (fun _ => 0) kv (.slice none 0 0) true) ∧ Blk wr w.heap.size 86 (numsV (cntsL l k)) ∧ WR cnC 256 wr (w.heap.size + 1) 86 kv (keptL l k) ∧ But [g] w wr) (fun i _ => l.length - (intOf i).toNat)
  case atStart => exact ⟨0, _, Nat.zero_le _, rfl, B0.out, B2.out, WR.nil _ _ _, X0.out⟩
  case round =>
    obtain ⟨k, kv, hk, rfl, hb0, hb2, hw, hx⟩ := hrel
    clear B0 B2 X0
    have c0 := hb0.cell 0
    rw [idx_0] at c0
    by_cases hlt : k < l.length
    · have hki : (k : Int) < (l.length : Int) := by omega
      have HB0 := Lib.hid hb0
      have HB2 := Lib.hid hb2
      have HW := Lib.hid hw
      have HX := Lib.hid hx
      have HLT := Lib.hid hlt
      clear hb0 hb2 hw hx hlt
      go_upto_if 18 with fail
      go_cut [] (fun wx => ∃ kv' : Value, Blk wx g 50 (idxV l q (fun _ => 0) kv' (.slice none 0 0) true) ∧ Blk wx w.heap.size 86 (numsV (cntsL l k)) ∧ WR cnC 256 wx (w.heap.size + 1) 86 kv' (keptL l (k + 1)) ∧ But [g] w wx)
      case first =>
        by_cases h64 : k % 64 = 0
        · have hmod : (((k : Int) % 64) == 0) = true := by rw [beq_iff_eq]; omega
          have e1 := HB0.out.cell 259
          rw [idx_k] at e1
          have d1 := up_cell (W := wr.drew) e1
          have hcs : (numsV (cntsL l k)).size = 256 := by rw [numsV_size, cnts_length]
          have HBS := Lib.hid (fun w => run_bs1n (numsV (cntsL l k)) hcs w)
          have HCS := Lib.hid (show (Try.prog.info? 86).map (·.size) = some (numsV (cntsL l k)).size by rw [hcs]; exact cn_size)
          have HKS := Lib.hid (kept_step l k h64)
          have HNC := Lib.hid (nums_cnC l k)
          have HKL := Lib.hid (kept_length l k)
          clear h64 hcs e1
          go_wp2
          refine wp_region_v [0] _ rfl (by kernel_rfl) ?_
          dsimp only [List.length_cons, List.length_nil]
          (refine v_pure (by kernel_rfl) (by kernel_rfl) (by kernel_rfl) (fun _ _ _ _ h => h) (by kernel_rfl) (fun K hK => ?_)
           go_simp
           (refine hK _ ?_; clear hK K))
          iterate 4
            (refine v_want (by kernel_rfl) (by kernel_rfl) (by kernel_rfl) (fun _ _ _ _ h => h) (by kernel_rfl) (by kernel_rfl) (fun K hK => ?_)
             go_simp
             (refine hK _ ?_; clear hK K))
          refine v_load (by kernel_rfl) (by kernel_rfl) (by kernel_rfl) (fun _ _ _ _ h => h) (by kernel_rfl) (by kernel_rfl) 86 (.tmp 2) rfl rfl HB2.out.drew Try.underlying86 rfl HCS.out ?_
          dsimp only [Act.put]
          simp only [List.setIfInBounds_toArray, List.set_cons_succ, List.set_cons_zero]
          iterate 5 (refine v_late ?_)
          refine v_rest ?_
          refine v_one 6 (by kernel_rfl) rfl (by kernel_rfl) (fun xu K hK => ?_)
          refine BsAt.wp (BsAt.of (vs := #[(0, .agg (numsV (cntsL l k)))]) 48 _ rfl rfl HBS.out) (hK _ _ (fun _ => (Ext.refl _).alloc _) ?_)
          clear hK K
          have XU := Lib.hid ((Ext.refl wr).drew.trans (xu.ext.alloc (.cells (numsV (cntsL l k)) 86)))
          have BU := Lib.hid (Blk.new xu.val 86 (numsV (cntsL l k)))
          dsimp only [Act.put]
          simp only [List.setIfInBounds_toArray, List.set_cons_succ, List.set_cons_zero]
          generalize xu.val.heap.size = gu at *
          generalize xu.val.alloc (.cells (numsV (cntsL l k)) 86) = w1 at *
          refine v_one 7 (by kernel_rfl) rfl (by kernel_rfl) (fun xa K hK => ?_)
          have hB : w.heap.size + 1 ≤ xa.val.heap.size := by have := HX.out.size; have := XU.out.le; have := xa.ext.le; have := HB2.out.lt; omega
          obtain ⟨v', w2, p1, p2, p3⟩ := WR.appS cnC_length (by omega) cnC_one (WR.ext (WR.ext HW.out XU.out) xa.ext) (blk_rr1c (by have := BU.out; rw [HNC.out] at this; exact this.ext xa.ext)) hB (P := Try.prog) (t := 48) Try.underlying48 cn_info (by kernel_rfl) (by rw [HKL.out]; simp only [List.length_singleton]; omega) (by rw [HKL.out]; unfold maxLen; simp only [List.length_singleton]; omega)
          unfold Oper.wp
          rw [exec_app (.tmp 23) (.tmp 25) 48 rfl rfl rfl rfl p1]
          refine hK _ _ (fun h => absurd (show false = true from h.symm.trans (by kernel_rfl)) (by decide)) ?_
          clear hK K p1
          obtain ⟨va, vn, vc, rfl⟩ : ∃ a n c, v' = .slice a n c := by obtain ⟨a, c, h, _⟩ := WR.shape cnC_length p2; exact ⟨a, _, c, h⟩
          have XA := XU.out.trans xa.ext
          have hBe := WR.below (WR.ext (WR.ext HW.out XU.out) xa.ext) hB p3
          have hle0 := hB
          have b0 := (HB0.out.ext XA).below hBe (by have := HG.out; omega)
          have b2 := (HB2.out.ext XA).below hBe (by omega)
          have BX := Lib.hid ((HX.out.trans (But.of_ext XA)).below hBe (by omega))
          have W2 := Lib.hid p2
          have e2 := b0.cell 259
          rw [idx_k] at e2
          have f2 := b0.frozen 259
          have B0 := Lib.hid b0
          have B2 := Lib.hid b2
          have ck := Lib.hid (fun x => up_cell e2 x)
          have cf := Lib.hid (fun x : Up w2 => (b0.ext x.ext).frozen 259)
          clear XA hBe hle0 b0 b2 p2 p3 e2 f2 hB XU BU HBS HCS d1
          dsimp only [Act.put]
          try simp only [List.setIfInBounds_toArray, List.set_cons_succ, List.set_cons_zero]
          refine v_one 8 (by kernel_rfl) rfl (by kernel_rfl) (fun xb K hK => ?_)
          go_simp
          refine hK _ _ (fun _ => Ext.refl _) ?_
          clear hK K
          refine v_one 9 (by kernel_rfl) rfl (by kernel_rfl) (fun xc K hK => ?_)
          go_simp
          refine hK _ _ (fun _ => Ext.refl _) ?_
          clear hK K
          refine v_one 10 (by kernel_rfl) rfl (by kernel_rfl) (fun xd K hK => ?_)
          have E := Lib.hid ((xb.ext.trans xc.ext).trans xd.ext)
          have p1 : xd.val.cell? ⟨g, 259, none⟩ = some kv := ck.out ⟨xd.val, E.out⟩
          have p2 : xd.val.frozen? ⟨g, 259, none⟩ = false := cf.out ⟨xd.val, E.out⟩
          go_simp
          refine hK _ _ (fun h => absurd (show false = true from h.symm.trans (by kernel_rfl)) (by decide)) (v_done (by kernel_rfl) (fun y => ?_))
          have h0 := ((B0.out.ext E.out).set_ 259 (.slice va vn vc)).ext y.ext
          rw [set_k] at h0
          have H0 := Lib.hid h0
          have H2 := Lib.hid (((B2.out.ext E.out).far (p := ⟨g, 259, none⟩) (by have := HG.out; simp; omega) (.slice va vn vc)).ext y.ext)
          have H3 := Lib.hid ((((BX.out.trans (But.of_ext E.out)).set (p := ⟨g, 259, none⟩) (by simp) (.slice va vn vc))).trans (But.of_ext y.ext))
          have h4 := WR.ext (WR.farSet (WR.ext W2.out E.out) (p := ⟨g, 259, none⟩) (by have := HG.out; show g < _; omega) (.slice va vn vc)) y.ext
          rw [← HKS.out] at h4
          have H4 := Lib.hid h4
          clear h0 h4 p1 p2 hK ck cf K
          generalize y.val = wy at *
          go_wp2
          go_meet
          exact ⟨_, H0.out, H2.out, H4.out, H3.out⟩
        · have hmod : (((k : Int) % 64) == 0) = false := by rw [beq_eq_false_iff_ne]; omega
          go_wp2_with fail
          go_meet
          exact ⟨kv, HB0.out, HB2.out, by rw [kept_same l k h64]; exact HW.out, HX.out⟩
      case rest =>
        obtain ⟨kv', hb0', hb2', hw', hx'⟩ := hcut
        have hlt := HLT.out
        have ib := index_S l k hlt _ rfl
        have HS := Lib.hid (show (cntsL l k).set (B8 (l.getD k 0)) (cntL (l.take k) (B8 (l.getD k 0)) + 1) = cntsL l (k + 1) from cnts_step l k hlt)
        have hle := cntL_le (l.take k) (B8 (l.getD k 0))
        rw [List.length_take] at hle
        have hg := cnts_get l k (B8 (l.getD k 0)) (B8_lt _)
        have hc0 := hb0'.cell 0
        rw [idx_0] at hc0
        generalize l.getD k 0 = b at *
        have hlt8 := B8_lt b
        have hu0 := U8_nonneg b
        have hu1 := U8_lt b
        have c1 := hb2'.cell (B8 b)
        rw [numsV_get _ _ (by rw [cnts_length]; exact hlt8), hg] at c1
        have f1 := hb2'.frozen (B8 b)
        have B4 := hb2'.set_ (B8 b) (.int .i64 ((cntL (l.take k) (B8 b) + 1 : Nat) : Int))
        rw [numsV_set, HS.out] at B4
        have B4 := Lib.hid B4
        have B5 := Lib.hid (hb0'.far (p := ⟨w.heap.size, B8 b, none⟩) (by have := HG.out; simp; omega) (.int .i64 ((cntL (l.take k) (B8 b) + 1 : Nat) : Int)))
        have X4 := Lib.hid (hx'.set_new (p := ⟨w.heap.size, B8 b, none⟩) (by simp) (.int .i64 ((cntL (l.take k) (B8 b) + 1 : Nat) : Int)))
        have W4 := Lib.hid (WR.farSet hw' (p := ⟨w.heap.size, B8 b, none⟩) (by show w.heap.size < _; omega) (.int .i64 ((cntL (l.take k) (B8 b) + 1 : Nat) : Int)))
        have HLT := Lib.hid hlt
        clear hb0' hb2' hx' hw' hg HS hlt HB0 HB2 HW HX c0
        generalize cntL (l.take k) (B8 b) = x at *
        rw [show ((x + 1 : Nat) : Int) = (x : Int) + 1 from rfl] at *
        go_wp2
        go_roundw
        case rel => exact ⟨k + 1, kv', by have := HLT.out; omega, by go_num, B5.out, B4.out, W4.out, X4.out⟩
        case measure => simp [intOf]; have := HLT.out; omega
    · obtain rfl : k = l.length := by omega
      clear hlt
      have B0 := Lib.hid hb0
      have HNB := Lib.hid (fun b (h : b < 256) => (show (cntsL l l.length).getD b 0 = cntL l b by rw [cnts_get _ _ _ h, List.take_length]))
      have W0 := Lib.hid hw
      have X0 := Lib.hid hx
      have HCS := Lib.hid (show (Try.prog.info? 86).map (·.size) = some (numsV (cntsL l l.length)).size by rw [numsV_size, cnts_length]; exact cn_size)
      have hnl : (cntsL l l.length).length = 256 := cnts_length _ _
      have B2 := Lib.hid hb2
      clear hb0 hw hx hk hb2
      generalize cntsL l l.length = cn at *
      go_wp2_with (refine wpList_load_blk rfl 86 (.tmp 2) rfl rfl B2.out Try.underlying86 rfl HCS.out ?_)
      clear c0
      go_loopw [4, 5, 6, 40] (fun nx _ _ i wr => ∃ b : Nat, b ≤ 256 ∧ i = .int .i64 (b : Int) ∧ nx = .int .i64 (stN l b : Int) ∧ Blk wr g 50 (idxV l q (fun j => if j < b then stN l j else 0) kv (.slice none 0 0) true) ∧ WR cnC 256 wr (w.heap.size + 1) 86 kv (keptL l l.length) ∧ But [g] w wr) (fun _ _ _ i _ => 256 - (intOf i).toNat)
      case atStart => exact ⟨0, by omega, rfl, rfl, by rw [idx_congr (st' := fun _ => 0) (fun b hb => by rw [if_neg (by omega)])]; exact B0.out, W0.out, X0.out⟩
      case round =>
        obtain ⟨b, hb, rfl, rfl, hb0, hw, hx⟩ := hrel
        by_cases hlt : b < 256
        · have hbi : (b : Int) < 256 := by omega
          have hri := run_index_nums cn hnl b hlt
          rw [HNB.out b hlt] at hri
          have f0 := hb0.frozen (2 + b)
          have c0 := hb0.cell (2 + b)
          rw [idx_st (by omega)] at c0
          have h1 := hb0.set_ (2 + b) (.int .i64 (stN l b : Int))
          rw [set_st (by omega), idx_congr (st' := fun j => if j < b + 1 then stN l j else 0) (fun j hj => by
            by_cases e : j = b
            · subst e; rw [if_pos rfl, if_pos (by omega)]
            · rw [if_neg e]
              by_cases e2 : j < b
              · rw [if_pos e2, if_pos (by omega)]
              · rw [if_neg e2, if_neg (by omega)])] at h1
          have H1 := Lib.hid h1
          have HW := Lib.hid (WR.farSet hw (p := ⟨g, 2 + b, none⟩) (by have := HG.out; show g < _; omega) (.int .i64 (stN l b : Int)))
          have HX := Lib.hid (hx.set (p := ⟨g, 2 + b, none⟩) (by simp) (.int .i64 (stN l b : Int)))
          have hs1 := st_le (l := l) b (by omega)
          have hs2 := st_le (l := l) (b + 1) (by omega)
          have HST := Lib.hid (show stN l (b + 1) = stN l b + cntL l b from rfl)
          have HLT := Lib.hid hlt
          rw [HST.out] at hs2
          clear h1 hw hx hb0 hlt hb
          go_wp2
          refine ⟨⟨b + 1, by have := HLT.out; omega, by go_num, by rw [HST.out]; go_num, H1.out, HW.out, HX.out⟩, ?_⟩
          simp [intOf]; have := HLT.out; omega
        · obtain rfl : b = 256 := by omega
          have f0 := hb0.frozen 258
          have c0 := hb0.cell 258
          rw [show 258 = 2 + 256 from rfl, idx_st (by omega)] at c0
          have h1 := hb0.set_ 258 (.int .i64 (stN l 256 : Int))
          rw [show 258 = 2 + 256 from rfl, set_st (by omega), idx_congr (st' := stN l) (fun j hj => by
            by_cases e : j = 256
            · rw [if_pos e, e]
            · rw [if_neg e, if_pos (by omega)])] at h1
          have H1 := Lib.hid h1
          have HW := Lib.hid (WR.mono (WR.farSet hw (p := ⟨g, 258, none⟩) (by have := HG.out; show g < _; omega) (.int .i64 (stN l 256 : Int))) (Nat.le_succ w.heap.size))
          have HX := Lib.hid (hx.set (p := ⟨g, 258, none⟩) (by simp) (.int .i64 (stN l 256 : Int)))
          clear h1 hw hx hb0 hlt hb
          go_wp2
          exact bodyPost_end (v := .tuple #[]) (by simp [results, Try.results26, go_sem]) rfl ⟨rfl, HX.out, kv, H1.out, HW.out⟩
end Go.Proofs.Ytlhjbfckcfeikaa
