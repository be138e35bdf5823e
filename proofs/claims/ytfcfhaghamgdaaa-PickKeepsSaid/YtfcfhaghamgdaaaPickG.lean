/- varveref27: Drop. -/
import Derived.Test.YtfcfhaghamgdaaaPickF
import Derived.Test.YtfcfhaghamgdaaaEntE
namespace Go.Proofs.Ytfcfhaghamgdaaa
set_option linter.unusedVariables false
set_option linter.unusedSimpArgs false
open Go.RowKit

theorem drop_enough {keep byt old now : Int} (hk : 0 ≤ keep) (hb : 0 ≤ byt) {l : List E9} (hr : rising l) (h : enoughP keep byt old now l = true) : dropL keep byt old now l = 0 := by
  cases l with
  | nil => rfl
  | cons e t => exact dropL_stop (by rw [too_enough hk hb (by simp) hr, h]; rfl)
theorem drop_more {keep byt old now : Int} (hk : 0 ≤ keep) (hb : 0 ≤ byt) {l : List E9} (hr : rising l) (h : enoughP keep byt old now l = false) : 0 < l.length ∧ dropL keep byt old now l = dropL keep byt old now (l.drop 1) + 1 := by
  cases l with
  | nil =>
    have : enoughP keep byt old now [] = true := by
      unfold enoughP
      simp [bytesL, hk, hb]
    rw [this] at h; cases h
  | cons e t => exact ⟨by simp, dropL_go (by simp) (by rw [too_enough hk hb (by simp) hr, h]; rfl)⟩

set_option maxRecDepth 20000 in
set_option maxHeartbeats 8000000 in
theorem rDrop_any (blk tgt seg age keep byt old now : Int) (l : List E9) (v : Value) (w : World) (hr : RR entC 9 w v l) :
    Calls Try.prog 8 #[.agg #[.int .i64 blk, .int .i64 tgt, .int .i64 seg, .int .i64 age, .int .i64 keep, .int .i64 byt, .int .i64 old], v, .int .i64 now] w fun e w' => e = .returned (.tuple #[.int .i64 (dropI blk tgt seg age keep byt old now l), .int .i64 (dropE blk tgt seg age keep byt old l)]) ∧ Ext w w' := by
  have qc := fun w => rconf_any blk tgt seg age keep byt old w
  have qr := fun w (h : RR entC 9 w v l) => rRow_any l v w h
  have HR := Lib.hid hr
  have B1 := Lib.hid (Blk.new w 23 #[.int .i64 blk, .int .i64 tgt, .int .i64 seg, .int .i64 age, .int .i64 keep, .int .i64 byt, .int .i64 old])
  have XA := Lib.hid ((Ext.refl w).alloc (.cells #[.int .i64 blk, .int .i64 tgt, .int .i64 seg, .int .i64 age, .int .i64 keep, .int .i64 byt, .int .i64 old] 23))
  have HZ := Lib.hid conf_size
  unfold dropI dropE
  obtain ⟨a, c, rfl, hlc, _, hcs⟩ := hr
  cases hb : confP blk tgt seg age keep byt old with
  | false =>
    rw [hb] at qc
    simp only [errC, Bool.false_eq_true, if_false] at qc
    have qc := Lib.hid qc
    clear hb hcs
    simp only [Bool.false_and, Bool.false_eq_true, if_false]
    go_enter Try.func8, Try.ntmps8
    go_wp2_with (refine wpList_load_blk rfl 23 (.tmp 3) rfl rfl B1.out Try.underlying23 rfl HZ.out ?_)
    refine (qc.out _).mono ?_
    rintro _ w1 ⟨rfl, x1⟩
    go_wp2
    go_ret2
    exact ⟨rfl, XA.out.trans x1⟩
  | true =>
    have hseg := confP_seg hb
    rw [hb] at qc
    simp only [errC, if_true] at qc
    have qc := Lib.hid qc
    clear hb
    simp only [Bool.true_and, if_true]
    cases hrow : rowP l with
    | false =>
      rw [hrow] at qr
      simp only [errI, Bool.false_eq_true, if_false] at qr
      have qr := Lib.hid qr
      clear hrow hcs
      simp only [errI, Bool.false_eq_true, if_false]
      go_enter Try.func8, Try.ntmps8
      go_wp2_with (refine wpList_load_blk rfl 23 (.tmp 3) rfl rfl B1.out Try.underlying23 rfl HZ.out ?_)
      refine (qc.out _).mono ?_
      rintro _ w1 ⟨rfl, x1⟩
      have X1 := Lib.hid (XA.out.trans x1)
      go_wp2_with fail
      refine (qr.out _ (HR.out.ext X1.out)).mono ?_
      rintro _ w2 ⟨rfl, x2⟩
      go_wp2
      go_ret2
      exact ⟨rfl, X1.out.trans x2⟩
    | true =>
      rw [hrow] at qr
      simp only [errI, if_true] at qr
      have qr := Lib.hid qr
      simp only [errI, if_true]
      obtain ⟨h1, h2, _, _⟩ := rowP_parts hrow
      obtain ⟨g, o, rfl, _⟩ := hcs (by omega)
      obtain ⟨m, hm⟩ : ∃ m, l.length = m + 1 := ⟨l.length - 1, by omega⟩
      have HRI := row_rising hrow
      have HTA := rowP_tame hrow
      rw [hm] at HRI hlc
      rw [show m + 1 - 1 = m from rfl] at HRI
      have hml : (l.take m).length = m := by rw [List.length_take]; omega
      have hrr : RR entC 9 w (.slice (some ⟨g, o, none⟩) m c) (l.take m) := RR.take HR.out m (by omega)
      have htk := tame_take HTA m
      have hm1 : (m : Int) ≤ 1000 := by omega
      have hm3 : IntKind.i64.wrap (m : Int) = (m : Int) := by rw [IntKind.wrap_i64]; omega
      have hmc : (m : Int) ≤ (c : Int) := by omega
      rw [hm, show m + 1 - 1 = m from rfl]
      rw [hm] at HR qr
      generalize hrl : l.take m = r at *
      have HRK := Lib.hid (fun k (hk : k ≤ m) => show RR entC 9 w (.slice (some ⟨g, o + k * 9, none⟩) (m - k) (c - k)) (r.drop k) from by
        have := RR.drop hrr k (by rw [hml]; exact hk) (some ⟨g, o + k * 9, none⟩) (fun g' o' e hlt => by
          injection e with e; injection e with e1 e2; subst e1; subst e2
          rfl) (fun e => by cases e)
        rw [hml] at this
        exact this)
      have HML := Lib.hid hml
      have qe := Lib.hid (fun k (hk : k ≤ m) w' (h : Ext w w') => enough_any blk tgt seg age keep byt old now (r.drop k) _ w' ((HRK.out k hk).ext h) (tame_drop htk k) (by rw [List.length_drop, HML.out]; omega) hseg.2.2.2.2.1 hseg.2.2.2.2.2.2.1 hseg.2.2.2.2.2.2.2.2)
      have HDE := Lib.hid (fun k => drop_enough (now := now) (old := old) hseg.2.2.2.2.1 hseg.2.2.2.2.2.2.1 (HRI k))
      have HDM := Lib.hid (fun k => drop_more (now := now) (old := old) hseg.2.2.2.2.1 hseg.2.2.2.2.2.2.1 (HRI k))
      clear hrow h1 h2 hm HTA hml hrr htk hrl hcs HRI
      go_enter Try.func8, Try.ntmps8
      go_wp2_with (refine wpList_load_blk rfl 23 (.tmp 3) rfl rfl B1.out Try.underlying23 rfl HZ.out ?_)
      refine (qc.out _).mono ?_
      rintro _ w1 ⟨rfl, x1⟩
      have X1 := Lib.hid (XA.out.trans x1)
      have B1 := Lib.hid (B1.out.ext x1)
      clear x1
      go_wp2_with fail
      refine (qr.out _ (HR.out.ext X1.out)).mono ?_
      rintro _ w2 ⟨rfl, x2⟩
      have X2 := Lib.hid (X1.out.trans x2)
      have B1 := Lib.hid (B1.out.ext x2)
      clear x2 X1 qc qr
      go_wp2
      go_loopw [9] (fun n wr => ∃ k : Nat, n = .int .i64 (k : Int) ∧ k ≤ m ∧ dropL keep byt old now r = k + dropL keep byt old now (r.drop k) ∧ Ext w2 wr) (fun n _ => m + 1 - (intOf n).toNat)
      case atStart => exact ⟨0, rfl, Nat.zero_le _, by rw [Nat.zero_add]; rfl, Ext.refl _⟩
      case round =>
        obtain ⟨k, rfl, hk, hdl, hx⟩ := hrel
        have HX := Lib.hid hx
        have HDL := Lib.hid hdl
        have BB := Lib.hid (B1.out.ext hx)
        have kI : (k : Int) ≤ (m : Int) := by omega
        have qk := Lib.hid (fun (x : Up wr) => qe.out k hk x.val ((X2.out.trans HX.out).trans x.ext))
        clear hx hdl
        cases hen : enoughP keep byt old now (r.drop k) with
        | true =>
          have hres := Lib.hid (show dropL keep byt old now r = k by rw [HDL.out, HDE.out k hen]; rfl)
          rw [hen] at qk
          clear hen
          go_wp2_with fail
          refine wp_region_up (by kernel_rfl) (by kernel_rfl) ?_
          refine wpQuiet_load_blk (by kernel_rfl) 23 (.tmp 3) rfl rfl BB.out Try.underlying23 rfl HZ.out ?_
          dsimp only [Act.put]
          simp only [List.setIfInBounds_toArray, List.set_cons_succ, List.set_cons_zero]
          repeat (go_big_quiet_step (first | (go_at_call 19; (with_reducible exact up_call (qk.out _))) | fail))
          refine wpQuiet_nil ?_
          rintro _ ⟨z, rfl⟩
          clear qk
          go_wp2
          go_ret2
          exact ⟨by rw [hres.out]; rfl, (X2.out.trans HX.out).trans z.ext⟩
        | false =>
          obtain ⟨n1, n2⟩ := HDM.out k hen
          have hkm : k < m := by rw [List.length_drop, HML.out] at n1; omega
          have hres := Lib.hid (show dropL keep byt old now r = (k + 1) + dropL keep byt old now (r.drop (k + 1)) by rw [HDL.out, n2, List.drop_drop]; omega)
          rw [hen] at qk
          clear hen n1 n2
          go_wp2_with fail
          refine wp_region_up (by kernel_rfl) (by kernel_rfl) ?_
          refine wpQuiet_load_blk (by kernel_rfl) 23 (.tmp 3) rfl rfl BB.out Try.underlying23 rfl HZ.out ?_
          dsimp only [Act.put]
          simp only [List.setIfInBounds_toArray, List.set_cons_succ, List.set_cons_zero]
          repeat (go_big_quiet_step (first | (go_at_call 19; (with_reducible exact up_call (qk.out _))) | fail))
          refine wpQuiet_nil ?_
          rintro _ ⟨z, rfl⟩
          clear qk
          go_wp2
          go_roundw
          case rel => exact ⟨k + 1, by go_num, by omega, hres.out, HX.out.trans z.ext⟩
          case measure => simp [intOf]; omega
end Go.Proofs.Ytfcfhaghamgdaaa
