/- PickLeast: the law. -/
import Derived.Test.YtfcfhaghamgdaaaPickI
import Derived.Test.YtfcfhaghamgdaaaPickG
import Derived.Test.YtfcfhaghamgdaaaPickJ
namespace Go.Proofs.Ytfcfhaghamgdaaa
set_option linter.unusedVariables false
set_option linter.unusedSimpArgs false
open Go.RowKit

theorem dropL_spec {keep byt old now : Int} (hk : 0 ≤ keep) (hb : 0 ≤ byt) : ∀ (n : Nat) (r : List E9), r.length = n → (∀ k, rising (r.drop k)) →
    enoughP keep byt old now (r.drop (dropL keep byt old now r)) = true ∧ (0 < dropL keep byt old now r → enoughP keep byt old now (r.drop (dropL keep byt old now r - 1)) = false) := by
  intro n
  induction n with
  | zero =>
    intro r hn hr
    obtain rfl := List.eq_nil_of_length_eq_zero hn
    cases h : enoughP keep byt old now [] with
    | true => exact ⟨h, fun h => by simp [dropL] at h⟩
    | false =>
      have := (drop_more hk hb (hr 0) h).1
      simp at this
  | succ n ih =>
    intro r hn hr
    have hr0 := hr 0
    rw [List.drop_zero] at hr0
    cases h : enoughP keep byt old now r with
    | true =>
      rw [drop_enough hk hb hr0 h]
      exact ⟨h, fun h => by omega⟩
    | false =>
      have hd := (drop_more hk hb hr0 h).2
      obtain ⟨i1, i2⟩ := ih (r.drop 1) (by rw [List.length_drop]; omega) (fun k => by rw [List.drop_drop]; exact hr _)
      rw [hd]
      rw [List.drop_drop] at i1 i2
      refine ⟨by rw [Nat.add_comm]; exact i1, fun _ => ?_⟩
      rw [Nat.add_sub_cancel]
      rcases Nat.eq_zero_or_pos (dropL keep byt old now (r.drop 1)) with h0 | h0
      · rw [h0]; exact h
      · have := i2 h0
        rw [show 1 + (dropL keep byt old now (r.drop 1) - 1) = dropL keep byt old now (r.drop 1) by omega] at this
        exact this
theorem drop_bad {blk tgt seg age keep byt old : Int} (now : Int) {l : List E9} (h : (confP blk tgt seg age keep byt old && rowP l) = false) : dropE blk tgt seg age keep byt old l ≠ 0 ∧ dropI blk tgt seg age keep byt old now l = 0 := by
  unfold dropE dropI
  rw [h]
  refine ⟨?_, rfl⟩
  cases h1 : confP blk tgt seg age keep byt old with
  | false => simp
  | true =>
    rw [h1] at h
    have h : rowP l = false := h
    rw [h]
    simp [errI]
theorem drop_ok {blk tgt seg age keep byt old : Int} (now : Int) {l : List E9} (h1 : confP blk tgt seg age keep byt old = true) (h2 : rowP l = true) : dropE blk tgt seg age keep byt old l = 0 ∧ dropI blk tgt seg age keep byt old now l = (dropL keep byt old now (l.take (l.length - 1)) : Int) := by
  unfold dropE dropI
  rw [h1, h2]
  exact ⟨rfl, rfl⟩

set_option maxRecDepth 20000 in
set_option maxHeartbeats 16000000 in
theorem pickLeast_law (blk tgt seg age keep byt old : Int) (v : Value) (l : List E9) (now : Int) (w : World) (rd : RR entC 9 w v l) (b : (l.length : Int) ≤ 9223372036854775807) (R : ∀ x ∈ l, True) :
    Calls Try.prog 4 #[.agg #[.int .i64 blk, .int .i64 tgt, .int .i64 seg, .int .i64 age, .int .i64 keep, .int .i64 byt, .int .i64 old], v, .int .i64 now] w fun e w' => e = .returned (.bool true) ∧ Ext w w' := by
  have HR := Lib.hid rd
  have qa := Lib.hid awake_any
  have q0 := Lib.hid (fun w h => wDrop_any blk tgt seg age keep byt old now l v w h)
  have XA := Lib.hid ((Ext.refl w).alloc (.cells #[.int .i64 blk, .int .i64 tgt, .int .i64 seg, .int .i64 age, .int .i64 keep, .int .i64 byt, .int .i64 old] 23))
  have B1 := Lib.hid (Blk.new w 23 #[.int .i64 blk, .int .i64 tgt, .int .i64 seg, .int .i64 age, .int .i64 keep, .int .i64 byt, .int .i64 old])
  have HZ := Lib.hid conf_size
  obtain ⟨a, c, rfl, hlc, _, hs⟩ := rd
  by_cases hn : (200 : Int) < (l.length : Int)
  · clear hs
    go_enter Try.func4, Try.ntmps4
    go_wp2_with fail
    refine (qa.out _).mono ?_
    rintro _ w1 ⟨rfl, x1⟩
    go_wp2
    go_ret
    exact ⟨rfl, XA.out.trans x1⟩
  · cases hb : confP blk tgt seg age keep byt old && rowP l with
    | false =>
      obtain ⟨e1, e2⟩ := drop_bad now hb
      rw [e2] at q0
      clear hb e2 hs
      generalize dropE blk tgt seg age keep byt old l = dE at *
      go_enter Try.func4, Try.ntmps4
      go_wp2_with (refine wpList_load_blk_g (by kernel_rfl) 23 (.tmp 3) rfl rfl B1.out Try.underlying23 rfl HZ.out ?_)
      refine (q0.out _ (HR.out.ext XA.out)).mono ?_
      rintro _ w1 ⟨rfl, x1⟩
      go_wp2_with fail
      refine (qa.out _).mono ?_
      rintro _ w2 ⟨rfl, x2⟩
      go_wp2
      go_ret
      exact ⟨rfl, (XA.out.trans x1).trans x2⟩
    | true =>
      rw [Bool.and_eq_true] at hb
      obtain ⟨hb, hrow⟩ := hb
      have hseg := confP_seg hb
      obtain ⟨e1, e2⟩ := drop_ok now hb hrow
      rw [e1, e2] at q0
      clear e1 e2 hb
      obtain ⟨h1, h2, _, _⟩ := rowP_parts hrow
      obtain ⟨g, o, rfl, _⟩ := hs (by omega)
      obtain ⟨m, hm⟩ : ∃ m, l.length = m + 1 := ⟨l.length - 1, by omega⟩
      have HRI := row_rising hrow
      have HTA := rowP_tame hrow
      rw [hm] at HRI hlc q0
      rw [show m + 1 - 1 = m from rfl] at HRI q0
      have hml : (l.take m).length = m := by rw [List.length_take]; omega
      have hrr : RR entC 9 w (.slice (some ⟨g, o, none⟩) m c) (l.take m) := RR.take HR.out m (by omega)
      have htk := tame_take HTA m
      have hm1 : (m : Int) ≤ 1000 := by omega
      have hm3 : IntKind.i64.wrap (m : Int) = (m : Int) := by rw [IntKind.wrap_i64]; omega
      have hmc : (m : Int) ≤ (c : Int) := by omega
      rw [hm] at HR hn
      have hn : ¬ (200 : Int) < (m : Int) + 1 := by omega
      rw [hm]
      generalize hrl : l.take m = r at *
      have HRK := Lib.hid (fun k (hk : k ≤ m) => show RR entC 9 w (.slice (some ⟨g, o + k * 9, none⟩) (m - k) (c - k)) (r.drop k) from by
        have := RR.drop hrr k (by rw [hml]; exact hk) (some ⟨g, o + k * 9, none⟩) (fun g' o' e hlt => by
          injection e with e; injection e with e1 e2; subst e1; subst e2
          rfl) (fun e => by cases e)
        rw [hml] at this
        exact this)
      have qe := Lib.hid (fun k (hk : k ≤ m) w' (h : Ext w w') => enough_any blk tgt seg age keep byt old now (r.drop k) _ w' ((HRK.out k hk).ext h) (tame_drop htk k) (by rw [List.length_drop, hml]; omega) hseg.2.2.2.2.1 hseg.2.2.2.2.2.2.1 hseg.2.2.2.2.2.2.2.2)
      obtain ⟨s1, s2⟩ := dropL_spec (old := old) (now := now) hseg.2.2.2.2.1 hseg.2.2.2.2.2.2.1 m r hml HRI
      have hdl := dropL_le keep byt old now r
      rw [hml] at hdl
      generalize dropL keep byt old now r = k at *
      have q1 := qe.out k hdl
      rw [s1] at q1
      have q1 := Lib.hid q1
      have hk1 : (k : Int) < (m : Int) + 1 := by omega
      have hk2 : (k : Int) ≤ (m : Int) := by omega
      have hk3 : (k : Int) ≤ (c : Int) := by omega
      by_cases h0 : 0 < k
      · obtain ⟨j, hj⟩ : ∃ j, j = k - 1 := ⟨_, rfl⟩
        have q2 := qe.out j (by omega)
        rw [hj, s2 h0, ← hj] at q2
        have q2 := Lib.hid q2
        have hj1 : IntKind.i64.wrap ((k : Int) - 1) = (j : Int) := by rw [IntKind.wrap_i64]; omega
        have hj2 : (j : Int) ≤ (m : Int) := by omega
        have hj3 : (j : Int) ≤ (c : Int) := by omega
        have hk0 : (0 : Int) < (k : Int) := by omega
        have hk0' : 0 < k := h0
        clear hrow h1 h2 hm HTA hml hrr htk hrl hs HRI s1 s2 hseg h0 hj hdl
        go_enter Try.func4, Try.ntmps4
        go_wp2_with (refine wpList_load_blk_g (by kernel_rfl) 23 (.tmp 3) rfl rfl B1.out Try.underlying23 rfl HZ.out ?_)
        refine (q0.out _ (HR.out.ext XA.out)).mono ?_
        rintro _ w1 ⟨rfl, x1⟩
        have X1 := Lib.hid (XA.out.trans x1)
        have B1 := Lib.hid (B1.out.ext x1)
        clear x1
        have q1 := Lib.hid (fun x : Up w1 => q1.out x.val (X1.out.trans x.ext))
        have q2 := Lib.hid (fun x : Up w1 => q2.out x.val (X1.out.trans x.ext))
        go_wp2_with fail
        refine wp_region_up (by kernel_rfl) (by kernel_rfl) ?_
        repeat (first
          | (refine wpQuiet_load_blk (by kernel_rfl) 23 (.tmp 3) rfl rfl B1.out Try.underlying23 rfl HZ.out ?_
             dsimp only [Act.put]
             simp only [List.setIfInBounds_toArray, List.set_cons_succ, List.set_cons_zero])
          | (go_big_quiet_step (first
            | (go_at_call 19; (with_reducible exact up_call (q1.out _)))
            | (go_at_call 19; (with_reducible exact up_call (q2.out _)))
            | fail)))
        refine wpQuiet_nil ?_
        rintro _ ⟨z, rfl⟩
        go_wp2_with fail
        refine (qa.out _).mono ?_
        rintro _ w3 ⟨rfl, x3⟩
        go_wp2
        go_ret
        exact ⟨rfl, (X1.out.trans z.ext).trans x3⟩
      · have hk0 : ¬ (0 : Int) < (k : Int) := by omega
        clear hrow h1 h2 hm HTA hml hrr htk hrl hs HRI s1 s2 hseg h0 hdl
        go_enter Try.func4, Try.ntmps4
        go_wp2_with (refine wpList_load_blk_g (by kernel_rfl) 23 (.tmp 3) rfl rfl B1.out Try.underlying23 rfl HZ.out ?_)
        refine (q0.out _ (HR.out.ext XA.out)).mono ?_
        rintro _ w1 ⟨rfl, x1⟩
        have X1 := Lib.hid (XA.out.trans x1)
        have B1 := Lib.hid (B1.out.ext x1)
        clear x1
        have q1 := Lib.hid (fun x : Up w1 => q1.out x.val (X1.out.trans x.ext))
        go_wp2_with fail
        have hk0 : ¬ (0 : Int) < (k : Int) := by omega
        have hk0' : ¬ 0 < k := by omega
        refine wp_region_up (by kernel_rfl) (by kernel_rfl) ?_
        refine wpQuiet_load_blk (by kernel_rfl) 23 (.tmp 3) rfl rfl B1.out Try.underlying23 rfl HZ.out ?_
        dsimp only [Act.put]
        simp only [List.setIfInBounds_toArray, List.set_cons_succ, List.set_cons_zero]
        repeat (go_big_quiet_step (first
            | (go_at_call 19; (with_reducible exact up_call (q1.out _)))
            | fail))
        refine wpQuiet_nil ?_
        rintro _ ⟨z, rfl⟩
        go_wp2_with fail
        refine (qa.out _).mono ?_
        rintro _ w3 ⟨rfl, x3⟩
        go_wp2
        go_ret
        exact ⟨rfl, (X1.out.trans z.ext).trans x3⟩
end Go.Proofs.Ytfcfhaghamgdaaa
