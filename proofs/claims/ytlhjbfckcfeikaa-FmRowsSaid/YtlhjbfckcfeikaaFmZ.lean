/- FmRows: the law's walk. -/
import Derived.Test.YtlhjbfckcfeikaaFmS
import Derived.Test.YtlhjbfckcfeikaaFmU
namespace Go.Proofs.Ytlhjbfckcfeikaa
set_option linter.unusedVariables false
set_option linter.unusedSimpArgs false
open Go.RowKit
attribute [local go_sem] S_size S_toList S_beq S_bne S_empty S_nil

section
variable {P : Program} {ops : Array Oper} {Q : Exit → Act → World → Prop} {md : Region.Mode}
/-- one more is taken ahead of its place -/
theorem out_ahead (d : Nat) {listed : Array Bool} {k fuel : Nat} {a : Act} {w : World} {oi : Oper} {l : List Oper} (hi : l[d]? = some oi) (hs : Region.noSelect ops = true) (hf : Region.free md ops listed (k + d) = true)
    (hr : (Region.ready md ops listed).contains (k + d) = true) (hQ : ∀ v, ∀ c a w, Q (.panic c) (a.put oi.dst v) w → Q (.panic c) a w)
    (hw : Region.wanted oi (yielded ops a.tmps) = true)
    (h : ∀ K : Act → Prop, (∀ a', OutAt P md ops Q fuel (listed.setIfInBounds (k + d) true) k l a' w → K a') → ∃ v, (∀ x : Up w, upAt P oi a x.val v) ∧ K (a.put oi.dst v)) :
    OutAt P md ops Q (fuel + 1) listed k l a w := by
  intro hd
  have hi' : ops[k + d]? = some oi := by
    rw [← hd, List.getElem?_drop] at hi
    simpa using hi
  exact any_want hi' hs hf hr hQ hw fun K hK => h K fun a' h' => hK a' (h' hd)
/-- a load of a whole struct is taken ahead of its place -/
theorem out_ahead_load (d : Nat) {listed : Array Bool} {k fuel : Nat} {a : Act} {w : World} {oi : Oper} {l : List Oper} (hi : l[d]? = some oi) (hs : Region.noSelect ops = true) (hf : Region.free md ops listed (k + d) = true)
    (hr : (Region.ready md ops listed).contains (k + d) = true) (hQ : ∀ v, ∀ c a w, Q (.panic c) (a.put oi.dst v) w → Q (.panic c) a w)
    (hw : Region.wanted oi (yielded ops a.tmps) = true) (ty : TypeId) (x : Operand) (ho : oi.op = .load ty x)
    {g : Nat} (hx : a.eval x = .pointer (some ⟨g, 0, none⟩)) {t : TypeId} {cs : Array Value} {dd : TypeDesc} (hg : Blk w g t cs)
    (hu : P.underlying ty = some dd) (hd : (match dd with | .struct _ | .array _ _ => true | _ => false) = true) (hsz : (P.info? ty).map (·.size) = some cs.size)
    (h : OutAt P md ops Q fuel (listed.setIfInBounds (k + d) true) k l (a.put oi.dst (.agg cs)) w) : OutAt P md ops Q (fuel + 1) listed k l a w :=
  out_ahead d hi hs hf hr hQ hw fun K hK => by
    refine ⟨.agg cs, fun y => ?_, hK _ h⟩
    unfold upAt
    simp only [execOp, ho, hx, Instr.loadAt, Instr.sureAddr, Sem.run_bind, Sem.run_pure, Result.andThen_ok, run_loadVar_row y.val g t ty cs (0, 0) dd (hg.ext y.ext) hu hd hsz]
    exact ⟨rfl, rfl⟩
end
theorem occ_iff (s what : List UInt8) (p : Nat) : occB s what p = decide (what <+: s.drop p) := by
  rw [← occ_at, Bool.eq_iff_iff, beq_iff_eq, decide_eq_true_iff]
  have h0 : (s.take (p + what.length)).drop p = (s.drop p).take what.length := by rw [List.drop_take, Nat.add_sub_cancel_left]
  rw [h0, List.prefix_iff_eq_take]
  exact ⟨fun h => h.symm, fun h => h.symm⟩
/-- the rows that begin so are the ones that are found in the array -/
theorem rows_found (s what : List UInt8) : fndE s (toI (arrayL s)) = 0 ∧ rwR (fwdL s) (priN s) what = fndR s (toI (arrayL s)) what := by
  obtain ⟨lo, d, h1, h2, _, h4, h5⟩ := fnd_spec s what
  refine ⟨h4, ?_⟩
  have hiv : IsIv (rowsP (fwdL s) (priN s) what) ((fwdL s).length + 1) lo (lo + d) := by
    rw [fwd_length]
    refine ⟨h1, fun i hi => ?_⟩
    unfold rowsP plcN
    rw [fwd_txt, ← occ_iff]
    exact h2 i hi
  unfold rwR
  rw [fl_iv hiv, h5]
  unfold ivR
  by_cases hd : d = 0
  · rw [if_pos hd, if_neg (by omega)]
  · rw [if_neg hd, if_pos (by omega)]
    exact Prod.ext rfl (by show ((lo + d : Nat) : Int) - 1 = (lo : Int) + (d : Int) - 1; omega)
theorem fwd_may (s : List UInt8) : mayP (fwdL s) (priN s : Int) = true := by
  have hp := (pri_at s).1
  have hl := fwd_length s
  unfold mayP
  by_cases h : fwdL s = []
  · rw [if_pos h]
    have h0 : s.length = 0 := by rw [← hl, h]; rfl
    exact decide_eq_true (by omega)
  · rw [if_neg h]
    have h0 : 0 < s.length := by rw [← hl]; exact List.length_pos_iff.2 h
    have := pri_pos s h0
    exact decide_eq_true (by omega)
theorem run_bs1b (b : UInt8) (w : World) : (Instr.buildSlice 61 1 #[(0, .int .u8 (U8 b))]).run Try.prog w = .ok (.slice (some ⟨w.heap.size, 0, none⟩) 1 1) (w.alloc (.cells #[.int .u8 (U8 b)] 5)) := by kernel_rfl
theorem bw_one (b : UInt8) (w : World) : BW (w.alloc (.cells #[.int .u8 (U8 b)] 5)) w.heap.size (.slice (some ⟨w.heap.size, 0, none⟩) 1 1) [b] :=
  ⟨rfl, .inr ⟨w.heap.size, 1, _, rfl, Nat.le_refl _, heap_alloc_new w _, Nat.le_refl _, by unfold maxLen; omega, rfl, rfl⟩⟩

set_option maxRecDepth 20000 in
set_option maxHeartbeats 16000000 in
theorem fmRows_main (s what : List UInt8) (b : UInt8) (w : World) (hl : ¬ (2000 : Int) < (s.length : Int)) (hwl : ¬ (2000 : Int) < (what.length : Int)) :
    Calls Try.prog 6 #[.string (S s), .string (S what), .int .u8 (U8 b)] w fun x w' => x = .returned (.bool true) ∧ Ext w w' := by
  have QA := Lib.hid awake39_any
  have RS := Lib.hid rng_size
  have hfl := fwd_length s
  have hq : priN s < (fwdL s).length + 1 := by rw [hfl]; exact (pri_at s).1
  have ho := fwd_ok s
  have Q1 := Lib.hid (fun w => forward_any s w (by omega))
  have Q2 := Lib.hid (fun w => fnew_ok (fwdL s) (priN s) w (by rw [hfl]; omega) (fwd_may s) ho)
  have Q3 := Lib.hid (fun w => array_any s w (by omega))
  obtain ⟨f1, f2⟩ := rows_found s what
  have q4 := fun v w h => find_any s what (toI (arrayL s)) v w h (by rw [toI_length, (arrayL_is s).length]; omega) (by omega) (by omega)
  rw [f1, ← f2] at q4
  have Q4 := Lib.hid q4
  have Q5 := Lib.hid (fun v w h => rows_any (fwdL s) (priN s) v what w (by rw [hfl]; omega) (by omega) ho hq h)
  have q6 := fun v w h => rows_any (fwdL s) (priN s) v (b :: what) w (by rw [hfl]; omega) (by simp only [List.length_cons]; omega) ho hq h
  rw [rw_cons ho hq] at q6
  have Q6 := Lib.hid q6
  have Q7 := Lib.hid (fun v w h => back_any (fwdL s) (priN s) v (rwR (fwdL s) (priN s) what).1 (rwR (fwdL s) (priN s) what).2 b w (by rw [hfl]; omega) ho hq h)
  have HAL := Lib.hid (show (toI (arrayL s)).length = s.length + 1 by rw [toI_length, (arrayL_is s).length])
  clear q4 q6 f1 f2 hq ho hfl
  generalize rwR (fwdL s) (priN s) what = r at *
  obtain ⟨r1, r2⟩ := r
  dsimp only at Q4 Q5 Q6 Q7
  generalize bkR (fwdL s) (priN s) r1 r2 b = k at *
  obtain ⟨k1, k2⟩ := k
  dsimp only at Q6 Q7
  generalize fwdL s = l at *
  generalize priN s = q at *
  have he1 := fun w => range_eql r1 r2 r1 r2 w
  have he2 := fun w => range_eql k1 k2 k1 k2 w
  rw [decide_eq_true rfl, decide_eq_true rfl] at he1 he2
  go_enter Try.func6, Try.ntmps6
  go_wp2_with fail
  refine (Q1.out _).mono ?_
  rintro _ w1 ⟨rfl, x1⟩
  have X1 := Lib.hid x1
  clear x1
  go_wp2_with fail
  refine (Q2.out _).mono ?_
  rintro _ w2 ⟨v, rfl, x2, i2⟩
  have X2 := Lib.hid (X1.out.trans x2)
  have I2 := Lib.hid i2
  clear x2 i2 X1
  go_wp2_with fail
  refine (Q3.out _).mono ?_
  rintro _ w3 ⟨ga, rfl, x3, r3⟩
  have X3 := Lib.hid (X2.out.trans x3)
  have I3 := Lib.hid (I2.out.ext x3)
  have R3 := Lib.hid r3.ri
  clear x3 r3 X2 I2
  go_wp2_with fail
  refine (Q4.out _ _ R3.out).mono ?_
  rintro _ w4 ⟨rfl, x4⟩
  have y4 := x4.alloc (.cells #[.int .i64 r1, .int .i64 r2] 23)
  have X4 := Lib.hid (X3.out.trans y4)
  have I4 := Lib.hid (I3.out.ext y4)
  have B14 := Lib.hid (Blk.new w4 23 #[.int .i64 r1, .int .i64 r2])
  clear x4 y4 X3 I3 R3
  go_wp2_with (refine wpList_store_new rfl 23 (.tmp 14) (.tmp 58) rfl rfl rfl rfl RS.out (by kernel_rfl) ?_; refine Held.go ?_)
  refine ⟨?_⟩
  generalize w4.alloc (.cells #[.int .i64 r1, .int .i64 r2] 23) = w5 at *
  generalize w4.heap.size = g14 at *
  go_wp2_with fail
  refine (Q5.out _ _ I4.out).mono ?_
  rintro _ w6 ⟨rfl, x6⟩
  have y6 := x6.alloc (.cells #[.int .i64 r1, .int .i64 r2] 23)
  have X6 := Lib.hid (X4.out.trans y6)
  have I6 := Lib.hid (I4.out.ext y6)
  have B14 := Lib.hid (B14.out.ext y6)
  have B16 := Lib.hid (Blk.new w6 23 #[.int .i64 r1, .int .i64 r2])
  clear x6 y6 X4 I4
  go_wp2_with (refine wpList_store_new rfl 23 (.tmp 16) (.tmp 62) rfl rfl rfl rfl RS.out (by kernel_rfl) ?_; refine Held.go ?_)
  refine ⟨?_⟩
  generalize w6.alloc (.cells #[.int .i64 r1, .int .i64 r2] 23) = w7 at *
  generalize w6.heap.size = g16 at *
  go_wp2
  refine wp_region_lex 25 rfl (by kernel_rfl) ?_
  have y7 := (Ext.refl w7).drew
  have X7 := Lib.hid (X6.out.trans y7)
  have I7 := Lib.hid (I6.out.ext y7)
  have B14 := Lib.hid (B14.out.ext y7)
  have B16 := Lib.hid (B16.out.ext y7)
  clear y7 X6 I6
  generalize w7.drew = w8 at *
  iterate 3
    (refine lex_want (by kernel_rfl) (by kernel_rfl) (by kernel_rfl) (by kernel_rfl) (fun _ _ _ _ h => h) (by kernel_rfl) (fun K hK => ?_)
     go_simp
     (refine hK _ ?_; clear hK K))
  refine lex_load_blk (by kernel_rfl) (by kernel_rfl) (by kernel_rfl) (by kernel_rfl) (fun _ _ _ _ h => h) (by kernel_rfl) 23 (.tmp 16) rfl rfl B16.out Try.underlying23 rfl RS.out ?_
  dsimp only [Act.put]
  simp only [List.setIfInBounds_toArray, List.set_cons_succ, List.set_cons_zero]
  refine lex_load_blk (by kernel_rfl) (by kernel_rfl) (by kernel_rfl) (by kernel_rfl) (fun _ _ _ _ h => h) (by kernel_rfl) 23 (.tmp 14) rfl rfl B14.out Try.underlying23 rfl RS.out ?_
  dsimp only [Act.put]
  simp only [List.setIfInBounds_toArray, List.set_cons_succ, List.set_cons_zero]
  iterate 5
    (refine lex_want (by kernel_rfl) (by kernel_rfl) (by kernel_rfl) (by kernel_rfl) (fun _ _ _ _ h => h) (by kernel_rfl) (fun K hK => ?_)
     go_simp
     (refine hK _ ?_; clear hK K))
  refine lex_ahead_load 6 rfl (by kernel_rfl) (by kernel_rfl) (by kernel_rfl) (fun _ _ _ _ h => h) (by kernel_rfl) 23 (.tmp 16) rfl rfl B16.out Try.underlying23 rfl RS.out ?_
  dsimp only [Act.put]
  simp only [List.setIfInBounds_toArray, List.set_cons_succ, List.set_cons_zero]
  (refine out_ahead 2 rfl (by kernel_rfl) (by kernel_rfl) (by kernel_rfl) (fun _ _ _ _ h => h) (by kernel_rfl) (fun K hK => ?_)
   go_simp
   (refine hK _ ?_; clear hK K))
  (refine out_ahead 5 rfl (by kernel_rfl) (by kernel_rfl) (by kernel_rfl) (fun _ _ _ _ h => h) (by kernel_rfl) (fun K hK => ?_)
   go_simp
   (refine hK _ ?_; clear hK K))
  (refine out_ahead 7 rfl (by kernel_rfl) (by kernel_rfl) (by kernel_rfl) (fun _ _ _ _ h => h) (by kernel_rfl) (fun K hK => ?_)
   go_simp
   (refine hK _ ?_; clear hK K))
  refine out_only (by kernel_rfl) (by kernel_rfl) (fun x K hK => ?_)
  refine BsAt.wp (BsAt.of (vs := #[(0, .int .u8 (U8 b))]) 61 _ rfl rfl (run_bs1b b)) (hK.out _ _ ((Ext.refl _).alloc _) ?_)
  clear hK K
  have y9 := x.ext.alloc (.cells #[.int .u8 (U8 b)] 5)
  have HBW := Lib.hid (bw_one b x.val)
  have X9 := Lib.hid (X7.out.trans y9)
  have I9 := Lib.hid (I7.out.ext y9)
  clear y9 X7 I7 B14 B16
  generalize x.val.alloc (.cells #[.int .u8 (U8 b)] 5) = w9 at *
  generalize x.val.heap.size = gb at *
  clear x
  dsimp only [Act.put]
  try simp only [List.setIfInBounds_toArray, List.set_cons_succ, List.set_cons_zero]
  have hcv := fun y : Up w9 => (HBW.out.ext y.ext).conv
  have hcat := run_cat (P := Try.prog) [b] what (by simp only [List.length_singleton]; omega)
  (refine out_want (by kernel_rfl) (by kernel_rfl) (by kernel_rfl) (fun _ _ _ _ h => h) (by kernel_rfl) (fun K hK => ?_)
   go_simp
   (refine hK _ ?_; clear hK K))
  refine out_done ?_
  (refine out_want (by kernel_rfl) (by kernel_rfl) (by kernel_rfl) (fun _ _ _ _ h => h) (by kernel_rfl) (fun K hK => ?_)
   go_simp
   (refine hK _ ?_; clear hK K))
  (refine out_want (by kernel_rfl) (by kernel_rfl) (by kernel_rfl) (fun _ _ _ _ h => h) (by kernel_rfl) (fun K hK => ?_)
   go_simp
   apply Exists.intro
   refine ⟨fun x => ?_, hK _ ?_⟩
   exact (Q6.out _ _ (I9.out.ext x.ext))
   clear hK K)
  iterate 3 (refine out_done ?_)
  refine out_lex (n := 25) (by kernel_rfl) ?_
  (refine lex_want (by kernel_rfl) (by kernel_rfl) (by kernel_rfl) (by kernel_rfl) (fun _ _ _ _ h => h) (by kernel_rfl) (fun K hK => ?_)
   go_simp
   apply Exists.intro
   refine ⟨fun x => ?_, hK _ ?_⟩
   exact (Q7.out _ _ (I9.out.ext x.ext))
   clear hK K)
  iterate 3
    (refine lex_want (by kernel_rfl) (by kernel_rfl) (by kernel_rfl) (by kernel_rfl) (fun _ _ _ _ h => h) (by kernel_rfl) (fun K hK => ?_)
     go_simp
     (refine hK _ ?_; clear hK K))
  (refine lex_want (by kernel_rfl) (by kernel_rfl) (by kernel_rfl) (by kernel_rfl) (fun _ _ _ _ h => h) (by kernel_rfl) (fun K hK => ?_)
   go_simp
   apply Exists.intro
   refine ⟨fun x => ?_, hK _ ?_⟩
   exact (QA.out _)
   clear hK K)
  iterate 2
    (refine lex_want (by kernel_rfl) (by kernel_rfl) (by kernel_rfl) (by kernel_rfl) (fun _ _ _ _ h => h) (by kernel_rfl) (fun K hK => ?_)
     go_simp
     (refine hK _ ?_; clear hK K))
  refine lex_done (by kernel_rfl) (fun z => ?_)
  have XZ := Lib.hid (X9.out.trans z.ext)
  generalize z.val = wz at *
  clear hcv hcat
  go_wp2
  go_ret
  exact ⟨rfl, XZ.out⟩

set_option maxRecDepth 20000 in
set_option maxHeartbeats 16000000 in
theorem fmRows_law (b0 : ByteArray) (h0 : b0.size ≤ maxLen) (b1 : ByteArray) (h1 : b1.size ≤ maxLen) (z : Int) (wz : (Lit.int .u8 z).wf = true) (w : World) :
    Calls Try.prog 6 #[.string b0, .string b1, .int .u8 z] w fun x w' => x = .returned (.bool true) ∧ Ext w w' := by
  obtain ⟨s, rfl, hsz⟩ := S_ex b0
  rw [← hsz] at h0
  have hb : (s.length : Int) ≤ 9223372036854775807 := by unfold maxLen at h0; omega
  clear hsz h0
  obtain ⟨what, rfl, hsz⟩ := S_ex b1
  rw [← hsz] at h1
  have hb1 : (what.length : Int) ≤ 9223372036854775807 := by unfold maxLen at h1; omega
  clear hsz h1
  obtain ⟨b, rfl⟩ := u8_ex wz
  clear wz
  have QA := Lib.hid awake39_any
  by_cases hl : (2000 : Int) < (s.length : Int)
  · clear hb1
    go_enter Try.func6, Try.ntmps6
    go_wp2_with fail
    refine (QA.out _).mono ?_
    rintro _ w1 ⟨rfl, x1⟩
    go_wp2
    go_ret
    exact ⟨rfl, x1⟩
  by_cases hwl : (2000 : Int) < (what.length : Int)
  · go_enter Try.func6, Try.ntmps6
    go_wp2_with fail
    refine (QA.out _).mono ?_
    rintro _ w1 ⟨rfl, x1⟩
    go_wp2
    go_ret
    exact ⟨rfl, x1⟩
  exact fmRows_main s what b w hl hwl
end Go.Proofs.Ytlhjbfckcfeikaa
