/- bwt: counts; the walks of BwtBack and BwtOnly. -/
import Derived.Test.YteflhfofahdckaaMgE
import Derived.Test.YteflhfofahdckaaArr
namespace Go.Proofs.Yteflhfofahdckaa
set_option linter.unusedVariables false
set_option linter.unusedSimpArgs false
open Go.RowKit

theorem i64_info : ∃ i, Try.prog.info? 3 = some i := by
  cases h : Try.prog.info? 3 with
  | some i => exact ⟨i, rfl⟩
  | none => exact absurd h (by decide +kernel)
theorem nums_neq (a : List Nat) (ha : a.length = 256) (w : World) : (binOp .neq 40 (.agg (numsV a)) (.agg (numsV a))).run Try.prog w = .ok (.bool false) w := by
  obtain ⟨i, hi⟩ := i64_info
  have := equalIn_arr (P := Try.prog) (e := 3) (f := fun x : Int => Value.int .i64 x) (by kernel_rfl) 9999 (fun x y w => by rw [run_equalIn_int w 9998 _ _ _ _ _ Try.underlying3]) Try.underlying40 hi (by kernel_rfl) (toI a) (toI a) (by rw [toI_length, ha]) (by rw [toI_length, ha]) w
  rw [run_neq_struct, show numsV a = ((toI a).map fun x : Int => Value.int .i64 x).toArray from rfl, this, beq_self_eq_true]; rfl
/-- a transform's bytes are the text's, in another order -/
theorem fwd_perm (s : List UInt8) : (fwdL s).Perm s := by
  unfold fwdL
  have h1 := ((arrayL_is s).1.filter fun p => p != 0).map fun p => s.getD (p - 1) 0
  refine h1.trans ?_
  have e : (List.range (s.length + 1)).filter (fun p => p != 0) = (List.range s.length).map fun p => p + 1 := by
    rw [List.range_succ_eq_map, List.filter_cons_of_neg (by simp), List.filter_eq_self.2 (by intro p hp; obtain ⟨j, _, rfl⟩ := List.mem_map.1 hp; simp)]
  rw [e, List.map_map]
  have e2 : (List.range s.length).map ((fun p => s.getD (p - 1) 0) ∘ fun p => p + 1) = s := by
    refine List.ext_getElem (by simp) fun i h2 h3 => ?_
    simp [List.getD_eq_getElem?_getD, h3]
  rw [e2]
theorem cnts_perm {a b : List UInt8} (h : a.Perm b) : cntsL a a.length = cntsL b b.length := mr_congr fun i _ => by
  rw [List.take_length, List.take_length]
  exact (h.filter _).length_eq
attribute [local go_sem] S_size S_toList S_append S_extract S_beq S_bne S_empty S_nil u8_beq U8_fold U8_toNat z256_run z256_ne

set_option maxRecDepth 20000 in
set_option maxHeartbeats 4000000 in
theorem counts_any (l : List UInt8) (w : World) (hl : (l.length : Int) ≤ 1000000) :
    Calls Try.prog 21 #[.string (S l)] w fun e w' => e = .returned (.agg (numsV (cntsL l l.length))) ∧ Ext w w' := by
  have hz : zeros256 = numsV (cntsL l 0) := by rw [cnts_zero]; rfl
  have b2 : Blk ((w.alloc (.cells zeros256 40)).alloc (.cells zeros256 40)) w.heap.size 40 (numsV (cntsL l 0)) := by
    rw [hz]; exact (Blk.new w _ _).alloc _
  have b3 : Blk ((w.alloc (.cells zeros256 40)).alloc (.cells zeros256 40)) (w.heap.size + 1) 40 (numsV (cntsL l 0)) := by
    have h := Blk.new (w.alloc (.cells zeros256 40)) 40 zeros256
    rw [World.size_alloc] at h
    rw [← hz]; exact h
  have x0 := Lib.hid (((Ext.refl w).alloc (.cells zeros256 40)).alloc (.cells zeros256 40))
  have B2 := Lib.hid b2
  have B3 := Lib.hid b3
  clear b2 b3 hz
  go_enter Try.func21, Try.ntmps21
  go_wp2
  generalize ((w.alloc (.cells zeros256 40)).alloc (.cells zeros256 40)) = W0 at *
  go_loopw [4] (fun i wr => ∃ k : Nat, k ≤ l.length ∧ i = .int .i64 (k : Int) ∧ Blk wr (w.heap.size + 1) 40 (numsV (cntsL l k)) ∧ Blk wr w.heap.size 40 (numsV (cntsL l 0)) ∧ Ext w wr) (fun i _ => l.length - (intOf i).toNat)
  case atStart => exact ⟨0, by omega, rfl, B3.out, B2.out, x0.out⟩
  case round =>
    obtain ⟨k, hk, rfl, hb, hb2, hx⟩ := hrel
    clear B2 B3 x0
    by_cases hlt : k < l.length
    · have ib := index_S l k hlt _ rfl
      have HS := Lib.hid (show (cntsL l k).set (B8 (l.getD k 0)) (cntL (l.take k) (B8 (l.getD k 0)) + 1) = cntsL l (k + 1) from cnts_step l k hlt)
      have hle := cntL_le (l.take k) (B8 (l.getD k 0))
      rw [List.length_take] at hle
      have hg := cnts_get l k (B8 (l.getD k 0)) (B8_lt _)
      generalize l.getD k 0 = b at *
      have hlt8 := B8_lt b
      have hu0 := U8_nonneg b
      have hu1 := U8_lt b
      have c1 := hb.cell (B8 b)
      rw [numsV_get _ _ (by rw [cnts_length]; exact hlt8), hg] at c1
      have f1 := hb.frozen (B8 b)
      have B4 := hb.set_ (B8 b) (.int .i64 ((cntL (l.take k) (B8 b) + 1 : Nat) : Int))
      rw [numsV_set, HS.out] at B4
      have B4 := Lib.hid B4
      have B5 := Lib.hid (hb2.far (p := ⟨w.heap.size + 1, B8 b, none⟩) (by simp) (.int .i64 ((cntL (l.take k) (B8 b) + 1 : Nat) : Int)))
      have X4 := Lib.hid (Ext.set hx (p := ⟨w.heap.size + 1, B8 b, none⟩) (by simp) (.int .i64 ((cntL (l.take k) (B8 b) + 1 : Nat) : Int)))
      have hki : (k : Int) < (l.length : Int) := by omega
      clear hb hb2 hx hg HS
      generalize cntL (l.take k) (B8 b) = x at *
      rw [show ((x + 1 : Nat) : Int) = (x : Int) + 1 from rfl] at *
      go_wp2
      go_roundw
      case rel => exact ⟨k + 1, by omega, by go_num, B4.out, B5.out, X4.out⟩
      case measure => simp [intOf]; omega
    · have e : k = l.length := by omega
      subst e
      have NS := Lib.hid (nums_size (cnts_length l l.length))
      have HB := Lib.hid hb
      have HB2 := Lib.hid hb2
      have HX := Lib.hid hx
      clear hb hb2 hx hlt hk
      go_wp2_with (first
        | (refine wpList_load_blk rfl 40 (.tmp 3) rfl rfl HB.out Try.underlying40 rfl NS.out ?_)
        | (refine wpList_store_blk rfl 40 (.tmp 2) (.tmp 18) rfl rfl rfl HB2.out (by rw [numsV_size, numsV_size, cnts_length, cnts_length]) NS.out (numsV_one _) ?_))
      exact bodyPost_ret (results_cell_row rfl _ _ w.heap.size _ _ (0, 0) _ rfl (HB2.out.setRow _) Try.underlying40 rfl NS.out) rfl ⟨rfl, Ext.setRow HX.out (Nat.le_refl _) _⟩

set_option maxRecDepth 20000 in
set_option maxHeartbeats 4000000 in
theorem bwtOnly_law (b : ByteArray) (hs : b.size ≤ maxLen) (p : Int) (wp : (Lit.int .i64 p).wf = true) (W : World) :
    Calls Try.prog 6 #[.string b, .int .i64 p] W fun e w' => e = .returned (.bool true) ∧ Ext W w' := by
  obtain ⟨l, rfl, hss⟩ := S_ex b
  clear hs hss wp
  by_cases h1 : (2000 : Int) < (l.length : Int)
  · have q := Lib.hid (awake13_any W)
    go_enter Try.func6, Try.ntmps6
    go_wp2_with fail
    refine (q.out).mono ?_
    rintro _ w1 ⟨rfl, x1⟩
    go_wp2
    go_ret
    exact ⟨rfl, x1⟩
  · have q1 := Lib.hid (fun w => inverse_any l p w (by omega))
    have hcase : (invE l p = 130 ∧ invL l p = []) ∨ (∃ q : Nat, p = (q : Int) ∧ invE l p = 0 ∧ fwdL (invL l p) = l ∧ priN (invL l p) = q ∧ (invL l p).length = l.length) := by
      cases hm : mayP l p with
      | false => exact .inl (inv_no hm)
      | true =>
        obtain ⟨q, rfl, hq⟩ := may_some hm
        cases ho : okI l q with
        | false => exact .inl (inv_bad hm ho)
        | true =>
          obtain ⟨e1, e2⟩ := inv_good hm ho
          refine .inr ⟨q, rfl, e1, ?_⟩
          rw [e2]
          exact ⟨only_fwd ho (by omega), only_pri ho (by omega), txt_length l q⟩
    rcases hcase with ⟨e1, e2⟩ | ⟨q, rfl, e1, e2, e3, e4⟩
    · rw [e1, e2] at q1
      go_enter Try.func6, Try.ntmps6
      go_wp2_with fail
      refine (q1.out _).mono ?_
      rintro _ w1 ⟨rfl, x1⟩
      have X1 := Lib.hid x1
      clear x1
      go_wp2_with fail
      refine (awake13_any w1).mono ?_
      rintro _ w2 ⟨rfl, x2⟩
      go_wp2
      go_ret
      exact ⟨rfl, X1.out.trans x2⟩
    · rw [e1] at q1
      have q2 := Lib.hid (fun w => forward_any (invL l q) w (by rw [e4]; omega))
      rw [e2, e3] at q2
      clear e1 e2 e3 e4
      have hb : (l == l) = true := by simp
      generalize invL l q = t at *
      go_enter Try.func6, Try.ntmps6
      go_wp2_with fail
      refine (q1.out _).mono ?_
      rintro _ w1 ⟨rfl, x1⟩
      have X1 := Lib.hid x1
      clear x1
      go_wp2_with fail
      refine (q2.out _).mono ?_
      rintro _ w2 ⟨rfl, x2⟩
      have X2 := Lib.hid (X1.out.trans x2)
      clear x2
      go_wp2_with fail
      refine (awake13_any w2).mono ?_
      rintro _ w3 ⟨rfl, x3⟩
      go_wp2
      go_ret
      exact ⟨rfl, X2.out.trans x3⟩

set_option maxRecDepth 20000 in
set_option maxHeartbeats 4000000 in
theorem bwtBack_law (b : ByteArray) (hs : b.size ≤ maxLen) (W : World) :
    Calls Try.prog 5 #[.string b] W fun e w' => e = .returned (.bool true) ∧ Ext W w' := by
  obtain ⟨s, rfl, hss⟩ := S_ex b
  clear hs hss
  by_cases h1 : (2000 : Int) < (s.length : Int)
  · have q := Lib.hid (awake13_any W)
    go_enter Try.func5, Try.ntmps5
    go_wp2_with fail
    refine (q.out).mono ?_
    rintro _ w1 ⟨rfl, x1⟩
    go_wp2
    go_ret
    exact ⟨rfl, x1⟩
  · have hlen := fwd_length s
    have hpl := (pri_at s).1
    have q1 := Lib.hid (fun w => forward_any s w (by omega))
    have q2 := Lib.hid (fun w => counts_any (fwdL s) w (by rw [hlen]; omega))
    have q3 := Lib.hid (fun w => counts_any s w (by omega))
    have q4 := Lib.hid (fun w => inverse_any (fwdL s) (priN s : Int) w (by rw [hlen]; omega))
    have hm : mayP (fwdL s) (priN s : Int) = true := by
      unfold mayP
      by_cases h0 : fwdL s = []
      · rw [if_pos h0]
        have : s.length = 0 := by rw [← hlen, h0]; rfl
        exact decide_eq_true (by omega)
      · rw [if_neg h0]
        have : 0 < (fwdL s).length := List.length_pos_iff.2 h0
        have := pri_pos s (by omega)
        exact decide_eq_true ⟨by omega, by omega⟩
    obtain ⟨e1, e2⟩ := inv_good hm (fwd_ok s)
    rw [e1, e2, fwd_txt] at q4
    rw [cnts_perm (fwd_perm s)] at q2
    have hneq := nums_neq (cntsL s s.length) (cnts_length _ _)
    have hp0 : priN s = 0 → s.length = 0 := fun h => by
      rcases Nat.eq_zero_or_pos s.length with h2 | h2
      · exact h2
      · have := pri_pos s h2; omega
    have hlb : ((s.length : Int) != (s.length : Int)) = false := by simp
    have hsb : (s == s) = true := by simp
    have HLEN := Lib.hid hlen
    clear hm e1 e2 hlen
    generalize fwdL s = f at *
    generalize numsV (cntsL s s.length) = cn at *
    generalize priN s = pr at *
    have n1 : ¬ (pr : Int) < 0 := by omega
    have n2 : ¬ (s.length : Int) < (pr : Int) := by omega
    have hlf : ((f.length : Int) != (s.length : Int)) = false := by rw [HLEN.out]; simp
    by_cases h0 : pr = 0
    · have hs0 := hp0 h0
      have hpb : ((pr : Int) == 0) = true := beq_iff_eq.2 (by omega)
      have n3 : ¬ 0 < (s.length : Int) := by omega
      clear hp0 h0 hs0
      go_enter Try.func5, Try.ntmps5
      go_wp2_with fail
      refine (q1.out _).mono ?_
      rintro _ w1 ⟨rfl, x1⟩
      have X1 := Lib.hid x1
      clear x1
      go_wp2_with fail
      refine (q2.out _).mono ?_
      rintro _ w2 ⟨rfl, x2⟩
      have X2 := Lib.hid (X1.out.trans x2)
      clear x2
      go_wp2_with fail
      refine (q3.out _).mono ?_
      rintro _ w3 ⟨rfl, x3⟩
      have X3 := Lib.hid (X2.out.trans x3)
      clear x3
      go_wp2_with fail
      refine (q4.out _).mono ?_
      rintro _ w4 ⟨rfl, x4⟩
      have X4 := Lib.hid (X3.out.trans x4)
      clear x4
      go_wp2_with fail
      refine (awake13_any w4).mono ?_
      rintro _ w5 ⟨rfl, x5⟩
      go_wp2
      go_ret
      exact ⟨rfl, X4.out.trans x5⟩
    · have hpb : ((pr : Int) == 0) = false := beq_eq_false_iff_ne.2 (by omega)
      clear hp0 h0
      go_enter Try.func5, Try.ntmps5
      go_wp2_with fail
      refine (q1.out _).mono ?_
      rintro _ w1 ⟨rfl, x1⟩
      have X1 := Lib.hid x1
      clear x1
      go_wp2_with fail
      refine (q2.out _).mono ?_
      rintro _ w2 ⟨rfl, x2⟩
      have X2 := Lib.hid (X1.out.trans x2)
      clear x2
      go_wp2_with fail
      refine (q3.out _).mono ?_
      rintro _ w3 ⟨rfl, x3⟩
      have X3 := Lib.hid (X2.out.trans x3)
      clear x3
      go_wp2_with fail
      refine (q4.out _).mono ?_
      rintro _ w4 ⟨rfl, x4⟩
      have X4 := Lib.hid (X3.out.trans x4)
      clear x4
      go_wp2_with fail
      refine (awake13_any w4).mono ?_
      rintro _ w5 ⟨rfl, x5⟩
      go_wp2
      go_ret
      exact ⟨rfl, X4.out.trans x5⟩
end Go.Proofs.Yteflhfofahdckaa
