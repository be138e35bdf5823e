/- FmLooks: the law's walk. -/
import Derived.Test.YtlhjbfckcfeikaaFmS
namespace Go.Proofs.Ytlhjbfckcfeikaa
set_option linter.unusedVariables false
set_option linter.unusedSimpArgs false
open Go.RowKit
attribute [local go_sem] S_size S_toList S_beq S_bne S_empty S_nil

section
variable {P : Program} {ops : Array Oper} {Q : Exit → Act → World → Prop} {md : Region.Mode}
/-- one more is taken ahead of its place -/
theorem out_ahead (d : Nat) {listed : Array Bool} {k fuel : Nat} {a : Act} {w : World} {oi : Oper} {l : List Oper} (hi : l[d]? = some oi) (hs : Region.noSelect ops = true) (hf : Region.free md ops listed (k + d) = true)
    (hr : (Region.ready md ops listed).contains (k + d) = true) (hQ : ∀ v, ∀ c a w, Q (.panic c) (a.put oi.dst v) w → Q (.panic c) a w)
    (hw : Region.wanted oi (yielded ops a.tmps) = true)
    (h : ∀ K : Act → Prop, (∀ a', OutAt P md ops Q fuel (listed.setIfInBounds (k + d) true) k l a' w → K a') → ∃ v, (∀ x : Up w, upAt P oi a x.val v) ∧ K (a.put oi.dst v)) :
    OutAt P md ops Q (fuel + 1) listed k l a w := by
  intro hd
  have hi' : ops[k + d]? = some oi := by
    rw [← hd, List.getElem?_drop] at hi
    simpa using hi
  exact any_want hi' hs hf hr hQ hw fun K hK => h K fun a' h' => hK a' (h' hd)
end

theorem ask_range {w : World} {g : Nat} {t : TypeId} {a b c d e f : Value} (h : Blk w g t #[a, b, c, d, e, f]) : w.rangeAt g 3 [d, e] := fun j v hv => by
  rw [h.cell]
  match j with
  | 0 => exact hv
  | 1 => exact hv
  | j + 2 => simp at hv

set_option maxRecDepth 20000 in
set_option maxHeartbeats 16000000 in
theorem fmLooks_main (l what : List UInt8) (q : Nat) (at_ n lo hi : Int) (b : UInt8) (w : World) (hl : ¬ (300 : Int) < (l.length : Int)) (hwl : ¬ (300 : Int) < (what.length : Int)) (hm : mayP l (q : Int) = true) (ho : okI l q = true) :
    Calls Try.prog 3 #[.string (S l), .int .i64 (q : Int), .agg #[.string (S what), .int .i64 at_, .int .i64 n, .int .i64 lo, .int .i64 hi, .int .u8 (U8 b)]] w fun x w' => x = .returned (.bool true) ∧ Ext w w' := by
  have QA := Lib.hid awake39_any
  have RS := Lib.hid rix_size
  have hq : q < l.length + 1 := by obtain ⟨q', e1, hq'⟩ := may_some hm; omega
  have Q1 := Lib.hid (fun w => fnew_ok l q w (by omega) hm ho)
  have Q2 := Lib.hid (fun w => rnew_ok l q w (by omega) hm ho)
  have Q3 := Lib.hid (fun v w h => rows_any l q v what w (by omega) (by omega) ho hq h)
  have hrr : ∀ av w, RI w av (toI (arrayL (txtN l q))) → Calls Try.prog 11 #[.agg #[.string (S (txtN l q)), av], .string (S what)] w fun e w' => e = .returned (.agg #[.int .i64 (rwR l q what).1, .int .i64 (rwR l q what).2]) ∧ Ext w w' := fun av w h => by
    have := rrows_any (txtN l q) what av w (by rw [txt_length]; omega) (by omega) h
    rw [txt_length] at this
    exact this
  have Q4 := Lib.hid hrr
  have Q5 := Lib.hid (fun v w h => count_places l q v what w (by omega) (by omega) ho hq h)
  have Q6 := Lib.hid (fun av w h => rplaces_any (txtN l q) what av w (by rw [txt_length]; omega) (by omega) h)
  have Q7 := Lib.hid (fun v w h => places_any l q v what w (by omega) (by omega) ho hq h)
  have hpl : (plcL (txtN l q) what).length ≤ 301 := by
    have := List.length_filter_le (fun p => decide (what <+: (txtN l q).drop p)) (List.range ((txtN l q).length + 1))
    rw [List.length_range, txt_length] at this
    unfold plcL
    rw [txt_length]
    omega
  have q8 := fun u v w h1 h2 => sameR_any (toI (plcL (txtN l q) what)) (toI (plcL (txtN l q) what)) u v w h1 h2 (by rw [toI_length]; omega) (by rw [toI_length]; omega)
  rw [show (toI (plcL (txtN l q) what) == toI (plcL (txtN l q) what)) = true from by simp] at q8
  have Q8 := Lib.hid q8
  have Q9 := Lib.hid (fun v w h => text_any l q v at_ n w (by omega) ho hq h)
  have Q10 := Lib.hid (fun av w h => rtext_any (txtN l q) av at_ n w (by rw [txt_length]; omega) h)
  have Q11 := Lib.hid (fun v w h => back_any l q v lo hi b w (by omega) ho hq h)
  have Q12 := Lib.hid (fun av w h => rback_any l q lo hi b av w (by omega) ho hq h)
  have HPL := Lib.hid (fun (u : Value) (w : World) (h : RI w u (toI (plcL (txtN l q) what))) => (show ∃ a c, u = .slice a (plcL (txtN l q) what).length c from by
    obtain ⟨a, c, e, _⟩ := h.shape
    rw [toI_length] at e
    exact ⟨a, c, e⟩))
  clear hrr q8 hm ho hq hpl
  generalize hr : rwR l q what = r at *
  clear hr
  obtain ⟨r1, r2⟩ := r
  generalize bkR l q lo hi b = k at *
  obtain ⟨k1, k2⟩ := k
  generalize partL (txtN l q) at_ n = t at *
  have he1 := fun w => range_eql r1 r2 r1 r2 w
  have he2 := fun w => range_eql k1 k2 k1 k2 w
  rw [decide_eq_true rfl, decide_eq_true rfl] at he1 he2
  dsimp only at Q3 Q4 Q11 Q12
  generalize arrayL (txtN l q) = ar at *
  generalize plcL (txtN l q) what = pl at *
  generalize txtN l q = s at *
  have X0 := Lib.hid ((Ext.refl w).alloc (.cells #[.string (S what), .int .i64 at_, .int .i64 n, .int .i64 lo, .int .i64 hi, .int .u8 (U8 b)] 25))
  have B5 := Lib.hid (Blk.new w 25 #[.string (S what), .int .i64 at_, .int .i64 n, .int .i64 lo, .int .i64 hi, .int .u8 (U8 b)])
  go_enter Try.func3, Try.ntmps3
  go_wp2_with fail
  refine (Q1.out _).mono ?_
  rintro _ w1 ⟨v, rfl, x1, i1⟩
  have X1 := Lib.hid (X0.out.trans x1)
  have I1 := Lib.hid i1
  have B5 := Lib.hid (B5.out.ext x1)
  clear x1 i1 X0
  go_wp2_with fail
  refine (Q2.out _).mono ?_
  rintro _ w2 ⟨av, rfl, x2, r2⟩
  obtain ⟨aa, ac, rfl, _, _, _⟩ := r2.shape
  have y2 := x2.alloc (.cells #[.string (S s), .slice aa (toI ar).length ac] 33)
  have X2 := Lib.hid (X1.out.trans y2)
  have I2 := Lib.hid (I1.out.ext y2)
  have B5 := Lib.hid (B5.out.ext y2)
  have B9 := Lib.hid (Blk.new w2 33 #[.string (S s), .slice aa (toI ar).length ac])
  have R2 := Lib.hid (r2.ext ((Ext.refl w2).alloc (.cells #[.string (S s), .slice aa (toI ar).length ac] 33)))
  have HAV := Lib.hid (show ∃ a n c, Value.slice aa (toI ar).length ac = .slice a n c from ⟨_, _, _, rfl⟩)
  clear x2 r2 X1 I1 y2
  go_wp2_with (refine wpList_store_new rfl 33 (.tmp 9) (.tmp 31) rfl rfl rfl rfl RS.out (by kernel_rfl) ?_; refine Held.go ?_)
  refine ⟨?_⟩
  generalize w2.alloc (.cells #[.string (S s), .slice aa (toI ar).length ac] 33) = w3 at *
  generalize Value.slice aa (toI ar).length ac = av at *
  obtain ⟨gx, kv, pv, rfl, _, _, _⟩ := I2.out
  go_wp2
  dsimp only [List.append]
  refine wp_region_lex 66 rfl (by kernel_rfl) ?_
  have y3 := (Ext.refl w3).drew
  have B5 := Lib.hid (B5.out.ext y3)
  have B9 := Lib.hid (B9.out.ext y3)
  have I2 := Lib.hid (I2.out.ext y3)
  have R2 := Lib.hid (R2.out.ext y3)
  have X2 := Lib.hid (X2.out.trans y3)
  clear y3
  generalize w3.drew = w4 at *
  have d0 := up_cell (B5.out.cell 0)
  have d1 := up_cell (B5.out.cell 1)
  have d2 := up_cell (B5.out.cell 2)
  have d5 := up_cell (B5.out.cell 5)
  iterate 3
    (refine lex_want (by kernel_rfl) (by kernel_rfl) (by kernel_rfl) (by kernel_rfl) (fun _ _ _ _ h => h) (by kernel_rfl) (fun K hK => ?_)
     go_simp
     (refine hK _ ?_; clear hK K))
  refine lex_want (by kernel_rfl) (by kernel_rfl) (by kernel_rfl) (by kernel_rfl) (fun _ _ _ _ h => h) (by kernel_rfl) (fun K hK => ?_)
  go_simp
  apply Exists.intro
  refine ⟨fun x => ?_, hK _ ?_⟩
  exact Q3.out _ _ (I2.out.ext x.ext)
  clear hK K
  refine lex_load_blk (by kernel_rfl) (by kernel_rfl) (by kernel_rfl) (by kernel_rfl) (fun _ _ _ _ h => h) (by kernel_rfl) 33 (.tmp 9) rfl rfl B9.out Try.underlying33 rfl RS.out ?_
  dsimp only [Act.put]
  simp only [List.setIfInBounds_toArray, List.set_cons_succ, List.set_cons_zero]
  iterate 2
    (refine lex_want (by kernel_rfl) (by kernel_rfl) (by kernel_rfl) (by kernel_rfl) (fun _ _ _ _ h => h) (by kernel_rfl) (fun K hK => ?_)
     go_simp
     (refine hK _ ?_; clear hK K))
  refine lex_want (by kernel_rfl) (by kernel_rfl) (by kernel_rfl) (by kernel_rfl) (fun _ _ _ _ h => h) (by kernel_rfl) (fun K hK => ?_)
  go_simp
  apply Exists.intro
  refine ⟨fun x => ?_, hK _ ?_⟩
  exact Q4.out _ _ (R2.out.ext x.ext)
  clear hK K
  iterate 5
    (refine lex_want (by kernel_rfl) (by kernel_rfl) (by kernel_rfl) (by kernel_rfl) (fun _ _ _ _ h => h) (by kernel_rfl) (fun K hK => ?_)
     go_simp
     (refine hK _ ?_; clear hK K))
  refine lex_want (by kernel_rfl) (by kernel_rfl) (by kernel_rfl) (by kernel_rfl) (fun _ _ _ _ h => h) (by kernel_rfl) (fun K hK => ?_)
  go_simp
  apply Exists.intro
  refine ⟨fun x => ?_, hK _ ?_⟩
  exact Q5.out _ _ (I2.out.ext x.ext)
  clear hK K
  refine lex_load_blk (by kernel_rfl) (by kernel_rfl) (by kernel_rfl) (by kernel_rfl) (fun _ _ _ _ h => h) (by kernel_rfl) 33 (.tmp 9) rfl rfl B9.out Try.underlying33 rfl RS.out ?_
  dsimp only [Act.put]
  simp only [List.setIfInBounds_toArray, List.set_cons_succ, List.set_cons_zero]
  iterate 2
    (refine lex_want (by kernel_rfl) (by kernel_rfl) (by kernel_rfl) (by kernel_rfl) (fun _ _ _ _ h => h) (by kernel_rfl) (fun K hK => ?_)
     go_simp
     (refine hK _ ?_; clear hK K))
  refine lex_only (by kernel_rfl) (by kernel_rfl) (fun x K hK => ?_)
  go_simp
  refine (Q6.out _ _ HAV.out).mono ?_
  rintro _ w5 ⟨u5, rfl, x5, r5⟩
  refine hK.out _ _ x5 ?_
  have y5 := Ext.trans x.ext x5
  have B5 := Lib.hid (B5.out.ext y5)
  have B9 := Lib.hid (B9.out.ext y5)
  have I2 := Lib.hid (I2.out.ext y5)
  have R2 := Lib.hid (R2.out.ext y5)
  have X2 := Lib.hid (X2.out.trans y5)
  obtain ⟨a5, c5, rfl⟩ := HPL.out _ _ r5
  clear hK K x5 y5 r5 x d0 d1 d2 d5
  have d0 := up_cell (B5.out.cell 0)
  have d1 := up_cell (B5.out.cell 1)
  have d2 := up_cell (B5.out.cell 2)
  have d5 := up_cell (B5.out.cell 5)
  iterate 7
    (refine lex_want (by kernel_rfl) (by kernel_rfl) (by kernel_rfl) (by kernel_rfl) (fun _ _ _ _ h => h) (by kernel_rfl) (fun K hK => ?_)
     go_simp
     (refine hK _ ?_; clear hK K))
  refine lex_ahead_load 1 rfl (by kernel_rfl) (by kernel_rfl) (by kernel_rfl) (fun _ _ _ _ h => h) (by kernel_rfl) 33 (.tmp 9) rfl rfl B9.out Try.underlying33 rfl RS.out ?_
  dsimp only [Act.put]
  simp only [List.setIfInBounds_toArray, List.set_cons_succ, List.set_cons_zero]
  refine out_ahead 2 rfl (by kernel_rfl) (by kernel_rfl) (by kernel_rfl) (fun _ _ _ _ h => h) (by kernel_rfl) (fun K hK => ?_)
  go_simp
  (refine hK _ ?_; clear hK K)
  refine out_ahead 3 rfl (by kernel_rfl) (by kernel_rfl) (by kernel_rfl) (fun _ _ _ _ h => h) (by kernel_rfl) (fun K hK => ?_)
  go_simp
  (refine hK _ ?_; clear hK K)
  refine out_only (by kernel_rfl) (by kernel_rfl) (fun x K hK => ?_)
  go_simp
  refine (Q7.out _ _ (I2.out.ext x.ext)).mono ?_
  rintro _ w6 ⟨u6, rfl, x6, r6⟩
  refine hK.out _ _ x6 ?_
  have y6 := Ext.trans x.ext x6
  have B5 := Lib.hid (B5.out.ext y6)
  have B9 := Lib.hid (B9.out.ext y6)
  have I2 := Lib.hid (I2.out.ext y6)
  have R2 := Lib.hid (R2.out.ext y6)
  have X2 := Lib.hid (X2.out.trans y6)
  have R6 := Lib.hid r6
  clear hK K x6 y6 r6 x d0 d1 d2 d5
  iterate 3 (refine out_done ?_)
  refine out_only (by kernel_rfl) (by kernel_rfl) (fun x K hK => ?_)
  go_simp
  refine (Q6.out _ _ HAV.out).mono ?_
  rintro _ w7 ⟨u7, rfl, x7, r7⟩
  refine hK.out _ _ x7 ?_
  have y7 := Ext.trans x.ext x7
  have B5 := Lib.hid (B5.out.ext y7)
  have B9 := Lib.hid (B9.out.ext y7)
  have I2 := Lib.hid (I2.out.ext y7)
  have R2 := Lib.hid (R2.out.ext y7)
  have R6 := Lib.hid (R6.out.ext y7)
  have X2 := Lib.hid (X2.out.trans y7)
  have R7 := Lib.hid r7
  clear hK K x7 y7 r7 x
  refine out_only (by kernel_rfl) (by kernel_rfl) (fun x K hK => ?_)
  go_simp
  refine (Q8.out _ _ _ (R6.out.ext x.ext) (R7.out.ext x.ext)).mono ?_
  rintro _ w8 ⟨rfl, x8⟩
  refine hK.out _ _ x8 ?_
  have y8 := Ext.trans x.ext x8
  have B5 := Lib.hid (B5.out.ext y8)
  have B9 := Lib.hid (B9.out.ext y8)
  have I2 := Lib.hid (I2.out.ext y8)
  have R2 := Lib.hid (R2.out.ext y8)
  have X2 := Lib.hid (X2.out.trans y8)
  clear hK K x8 y8 x R6 R7
  refine out_lex (n := 66) (by kernel_rfl) ?_
  have d0 := up_cell (B5.out.cell 0)
  have d1 := up_cell (B5.out.cell 1)
  have d2 := up_cell (B5.out.cell 2)
  have d5 := up_cell (B5.out.cell 5)
  iterate 7
    (refine lex_want (by kernel_rfl) (by kernel_rfl) (by kernel_rfl) (by kernel_rfl) (fun _ _ _ _ h => h) (by kernel_rfl) (fun K hK => ?_)
     go_simp
     (refine hK _ ?_; clear hK K))
  refine lex_want (by kernel_rfl) (by kernel_rfl) (by kernel_rfl) (by kernel_rfl) (fun _ _ _ _ h => h) (by kernel_rfl) (fun K hK => ?_)
  go_simp
  apply Exists.intro
  refine ⟨fun x => ?_, hK _ ?_⟩
  exact Q9.out _ _ (I2.out.ext x.ext)
  clear hK K
  refine lex_load_blk (by kernel_rfl) (by kernel_rfl) (by kernel_rfl) (by kernel_rfl) (fun _ _ _ _ h => h) (by kernel_rfl) 33 (.tmp 9) rfl rfl B9.out Try.underlying33 rfl RS.out ?_
  dsimp only [Act.put]
  simp only [List.setIfInBounds_toArray, List.set_cons_succ, List.set_cons_zero]
  iterate 4
    (refine lex_want (by kernel_rfl) (by kernel_rfl) (by kernel_rfl) (by kernel_rfl) (fun _ _ _ _ h => h) (by kernel_rfl) (fun K hK => ?_)
     go_simp
     (refine hK _ ?_; clear hK K))
  refine lex_want (by kernel_rfl) (by kernel_rfl) (by kernel_rfl) (by kernel_rfl) (fun _ _ _ _ h => h) (by kernel_rfl) (fun K hK => ?_)
  go_simp
  apply Exists.intro
  refine ⟨fun x => ?_, hK _ ?_⟩
  exact Q10.out _ _ HAV.out
  clear hK K
  iterate 5
    (refine lex_want (by kernel_rfl) (by kernel_rfl) (by kernel_rfl) (by kernel_rfl) (fun _ _ _ _ h => h) (by kernel_rfl) (fun K hK => ?_)
     go_simp
     (refine hK _ ?_; clear hK K))
  have RA := Lib.hid (ask_range B5.out)
  have RG := Lib.hid (show (Try.prog.info? 23).map (·.size) = some [Value.int .i64 lo, .int .i64 hi].length from rng_size)
  refine lex_load_range (by kernel_rfl) (by kernel_rfl) (by kernel_rfl) (by kernel_rfl) (fun _ _ _ _ h => h) (by kernel_rfl) 23 (.tmp 92) rfl rfl RA.out Try.underlying23 rfl RG.out ?_
  dsimp only [Act.put]
  simp only [List.setIfInBounds_toArray, List.set_cons_succ, List.set_cons_zero]
  iterate 2
    (refine lex_want (by kernel_rfl) (by kernel_rfl) (by kernel_rfl) (by kernel_rfl) (fun _ _ _ _ h => h) (by kernel_rfl) (fun K hK => ?_)
     go_simp
     (refine hK _ ?_; clear hK K))
  refine lex_want (by kernel_rfl) (by kernel_rfl) (by kernel_rfl) (by kernel_rfl) (fun _ _ _ _ h => h) (by kernel_rfl) (fun K hK => ?_)
  go_simp
  apply Exists.intro
  refine ⟨fun x => ?_, hK _ ?_⟩
  exact Q11.out _ _ (I2.out.ext x.ext)
  clear hK K
  refine lex_load_blk (by kernel_rfl) (by kernel_rfl) (by kernel_rfl) (by kernel_rfl) (fun _ _ _ _ h => h) (by kernel_rfl) 33 (.tmp 9) rfl rfl B9.out Try.underlying33 rfl RS.out ?_
  dsimp only [Act.put]
  simp only [List.setIfInBounds_toArray, List.set_cons_succ, List.set_cons_zero]
  iterate 1
    (refine lex_want (by kernel_rfl) (by kernel_rfl) (by kernel_rfl) (by kernel_rfl) (fun _ _ _ _ h => h) (by kernel_rfl) (fun K hK => ?_)
     go_simp
     (refine hK _ ?_; clear hK K))
  refine lex_load_range (by kernel_rfl) (by kernel_rfl) (by kernel_rfl) (by kernel_rfl) (fun _ _ _ _ h => h) (by kernel_rfl) 23 (.tmp 98) rfl rfl RA.out Try.underlying23 rfl RG.out ?_
  dsimp only [Act.put]
  simp only [List.setIfInBounds_toArray, List.set_cons_succ, List.set_cons_zero]
  iterate 2
    (refine lex_want (by kernel_rfl) (by kernel_rfl) (by kernel_rfl) (by kernel_rfl) (fun _ _ _ _ h => h) (by kernel_rfl) (fun K hK => ?_)
     go_simp
     (refine hK _ ?_; clear hK K))
  refine lex_want (by kernel_rfl) (by kernel_rfl) (by kernel_rfl) (by kernel_rfl) (fun _ _ _ _ h => h) (by kernel_rfl) (fun K hK => ?_)
  go_simp
  apply Exists.intro
  refine ⟨fun x => ?_, hK _ ?_⟩
  exact Q12.out _ _ (R2.out.ext x.ext)
  clear hK K
  iterate 3
    (refine lex_want (by kernel_rfl) (by kernel_rfl) (by kernel_rfl) (by kernel_rfl) (fun _ _ _ _ h => h) (by kernel_rfl) (fun K hK => ?_)
     go_simp
     (refine hK _ ?_; clear hK K))
  refine lex_want (by kernel_rfl) (by kernel_rfl) (by kernel_rfl) (by kernel_rfl) (fun _ _ _ _ h => h) (by kernel_rfl) (fun K hK => ?_)
  go_simp
  apply Exists.intro
  refine ⟨fun x => ?_, hK _ ?_⟩
  exact QA.out _
  clear hK K
  iterate 2
    (refine lex_want (by kernel_rfl) (by kernel_rfl) (by kernel_rfl) (by kernel_rfl) (fun _ _ _ _ h => h) (by kernel_rfl) (fun K hK => ?_)
     go_simp
     (refine hK _ ?_; clear hK K))
  refine lex_done (by kernel_rfl) (fun z => ?_)
  have X9 := Lib.hid (X2.out.trans z.ext)
  generalize z.val = w9 at *
  clear d0 d1 d2 d5 RA
  go_wp2
  go_ret
  exact ⟨rfl, X9.out⟩
end Go.Proofs.Ytlhjbfckcfeikaa
