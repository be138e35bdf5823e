/- gram: the law GramNever. -/
import Derived.Test.YtjbacmhkmofpkaaGramLB
import Derived.Test.YtjbacmhkmofpkaaKhG
namespace Go.Proofs.Ytjbacmhkmofpkaa
set_option linter.unusedVariables false
set_option linter.unusedSimpArgs false
open Go.RowKit
attribute [local go_sem] S_size S_toList S_append S_extract S_beq S_bne S_empty S_nil

section
variable {P : Program} {ops : Array Oper} {rest : List Oper} {o : Oper} {a : Act} {w : World} {Q : Exit → Act → World → Prop}
/-- a whole array or struct is loaded out of its block, where the guard is met -/
theorem wpList_load_blk_g (hw : Region.wanted o (yielded ops a.tmps) = true) (ty : TypeId) (x : Operand) (ho : o.op = .load ty x)
    {g : Nat} (hx : a.eval x = .pointer (some ⟨g, 0, none⟩)) {t : TypeId} {cs : Array Value} {d : TypeDesc} (hg : Blk w g t cs)
    (hu : P.underlying ty = some d) (hd : d.isRow = true) (hi : (P.info? ty).map (·.size) = some cs.size)
    (h : wpList P ops Q rest (a.put o.dst (.agg cs)) w) : wpList P ops Q (o :: rest) a w :=
  wpList_step fun _ hK => by
    rw [if_pos hw]
    unfold Oper.wp execOp
    simp only [ho, hx, Instr.loadAt, Instr.sureAddr, Sem.run_bind, Sem.run_pure, Result.andThen_ok, run_loadVar_row w g t ty cs (0, 0) d hg hu (by cases d <;> first | rfl | (exact hd)) hi]
    exact hK _ _ h
end
theorem marks_zero_run (w : World) : (zeroValue 29).run Try.prog w = .ok (.agg (wordsL emptyL).toArray) w := by kernel_rfl
theorem mw_blk {m n : W4} {w : World} {g : Nat} (h : Blk w g 29 (cells4 m ++ cells4 n).toArray) : MW w g (.slice (some ⟨g, 0, none⟩) 2 2) [m, n] := by
  have hl : ([m, n].flatMap cells4).length = 2 * 4 := by rw [flat_length cells4_length]; rfl
  have e : [m, n].flatMap cells4 = cells4 m ++ cells4 n := by simp
  refine ⟨hl, .inr ⟨g, 2, (cells4 m ++ cells4 n).toArray, rfl, Nat.le_refl _, h, Nat.le_refl _, by unfold maxLen; omega, by rw [List.size_toArray, ← e]; exact hl, ?_⟩⟩
  rw [e, List.take_of_length_le (by rw [← e]; exact Nat.le_of_eq hl)]
theorem may_found (s what : List UInt8) (m : W4) (h : (unionL (foldL [ofL s, m]).1 (ofL what).1 == (foldL [ofL s, m]).1) = false) : findL s what 0 = none := by
  cases hf : findL s what 0 with
  | none => rfl
  | some p =>
    have ha := List.find?_some hf
    unfold atL at ha
    rw [Bool.and_eq_true, decide_eq_true_iff, beq_iff_eq] at ha
    obtain ⟨h1, h2⟩ := ha
    rw [may_part s what m p h1 (fun t ht => ?_)] at h
    · cases h
    · rw [← h2, List.getD_eq_getElem?_getD, List.getD_eq_getElem?_getD, List.getElem?_drop, List.getElem?_take, if_pos (by omega)]
theorem may_self (s : List UInt8) (m : W4) : (unionL (foldL [ofL s, m]).1 (ofL s).1 == (foldL [ofL s, m]).1) = true :=
  may_part s s m 0 (by omega) (fun t ht => by rw [Nat.zero_add])

set_option maxRecDepth 20000 in
set_option maxHeartbeats 4000000 in
theorem gramNever_in (s what : List UInt8) (a b : W4) (w : World) (h1 : ¬ (2000 : Int) < s.length) (h2 : ¬ (500 : Int) < what.length) :
    Calls Try.prog 7 #[.string (S s), .string (S what), PV a b] w fun e w' => e = .returned (.bool true) ∧ Ext w w' := by
  have b1 := Blk.new w 25 (wordsL (a.1 ++ b.1)).toArray
  have r1 := Lib.hid (pair_ranges b1).1
  have X0 := Lib.hid ((Ext.refl w).alloc (.cells (wordsL (a.1 ++ b.1)).toArray 25))
  clear b1
  have qa := Lib.hid awake40
  have q1 := Lib.hid (fun w => of_any s w (by omega))
  have q2 := Lib.hid (fun v B w (hv : MW w B v [ofL s, a]) => both_any [ofL s, a] v B w hv (by simp))
  have q3 := Lib.hid (fun w => may_any (foldL [ofL s, a]) what w (by omega))
  have q4 := Lib.hid (fun w => khas_any s what w (by omega) (by omega))
  have q5 := Lib.hid (fun w => (may_self s a ▸ may_any (foldL [ofL s, a]) s w (by omega) : Calls Try.prog 14 #[MV (foldL [ofL s, a]).1, .string (S s)] w fun e w' => e = .returned (.bool true) ∧ Ext w w'))
  have hfo := may_found s what a
  have hmid := words4_mid a
  unfold PV MV at *
  have RB := Lib.hid (run_bs2' (ofL s) a)
  have RL := Lib.hid (mw_two (ofL s) a)
  generalize (wordsL (a.1 ++ b.1)).toArray = cs at *
  generalize foldL [ofL s, a] = f at *
  generalize ofL s = m at *
  generalize (unionL f.1 (ofL what).1 == f.1) = r at *
  generalize findL s what 0 = fd at *
  have hfm := f.2
  go_enter Try.func7, Try.ntmps7
  go_wp2_with fail
  refine wp_region_lex _ rfl (by kernel_rfl) ?_
  dsimp only [List.length_cons, List.length_nil]
  iterate 4 (first
    | (refine lex_load_range (by kernel_rfl) (by kernel_rfl) (by kernel_rfl) (by kernel_rfl) (fun _ _ _ _ h => h) (by kernel_rfl) 23 (.tmp 19) rfl rfl (rangeAt_drew r1.out) Try.underlying23 rfl hmid ?_)
    | (refine lex_want (by kernel_rfl) (by kernel_rfl) (by kernel_rfl) (by kernel_rfl) (fun _ _ _ _ h => h) (by kernel_rfl) (fun K hK => ?_)
       go_simp
       first
         | (refine hK _ ?_; clear hK K)
         | (apply Exists.intro
            refine ⟨fun _ => ?_, hK _ ?_⟩
            (first
               | (go_at_call 11; (with_reducible exact q1.out _)))
            clear hK K)))
  refine lex_bs_call_alloc (m := 2) (te := 29) (cs := (cells4 m ++ cells4 a).toArray) (vc := .agg (wordsL f.1).toArray) (by kernel_rfl) (by kernel_rfl) (by kernel_rfl) (by kernel_rfl) (by kernel_rfl) (by kernel_rfl) (by kernel_rfl) (by kernel_rfl) (by kernel_rfl) (fun _ _ _ _ h => h) rfl rfl rfl (by intro d hd; cases hd; decide) (by intro d hd; cases hd; decide) rfl marks_zero_run ?_ ?_ (fun gb gi w1 x1 hgi hbi => ?_)
  · rintro a' (rfl | ⟨u, rfl⟩) <;> exact BsAt.of (vs := #[(0, .agg (wordsL m.1).toArray), (1, .agg (wordsL a.1).toArray)]) 59 _ rfl rfl RB.out
  · rintro a' (rfl | ⟨u, rfl⟩) g w' x hg hb <;>
    · have hq := q2.out _ _ w' (mw_blk hb)
      clear hg hb
      go_simp
  have hsz : w.heap.size + 1 ≤ gi := by
    have e : (w.alloc (.cells cs 25)).drew.heap.size = w.heap.size + 1 := World.size_alloc ..
    omega
  have Y1 := Lib.hid (X0.out.drew.trans x1)
  have HI := Lib.hid hbi
  have HN := Lib.hid hsz
  clear x1 hgi hbi hsz
  refine lex_last (by kernel_rfl) (by kernel_rfl) (by kernel_rfl) (by kernel_rfl) (by kernel_rfl) (fun x K hK => ?_)
  refine wp_store_blk 29 (.tmp 7) (.tmp 22) rfl rfl rfl (HI.out.ext x.ext) (by rw [wordsL_size, wordsL_size, hfm]; rfl) (marks_size hfm) (wordsL_one _) (hK _ _ (fun y => ?_))
  have Y2 := Lib.hid ((Ext.setRow (Y1.out.trans x.ext) (show w.heap.size ≤ gi by have := HN.out; omega) (wordsL f.1).toArray).trans y.ext)
  have I2 := Lib.hid (((HI.out.ext x.ext).setRow (wordsL f.1).toArray).ext y.ext)
  clear hK K
  generalize y.val = w2 at *
  go_wp2_with (first
    | (refine wpList_load_blk rfl 29 (.tmp 7) rfl rfl I2.out Try.underlying29 rfl (marks_size hfm) ?_))
  refine (q3.out _).mono ?_
  rintro e w3 ⟨rfl, x3⟩
  have Y3 := Lib.hid (Y2.out.trans x3)
  have I3 := Lib.hid (I2.out.ext x3)
  clear x3
  cases r with
  | true =>
    clear hfo
    go_wp2_with (first
      | (refine wpList_load_blk_g (by kernel_rfl) 29 (.tmp 7) rfl rfl I3.out Try.underlying29 rfl (marks_size hfm) ?_))
    refine (q5.out _).mono ?_
    rintro e w4 ⟨rfl, x4⟩
    have Y4 := Lib.hid (Y3.out.trans x4)
    clear x4
    go_wp2_with fail
    refine (qa.out _).mono ?_
    rintro e w5 ⟨rfl, x5⟩
    go_wp2
    go_ret
    exact ⟨rfl, Y4.out.trans x5⟩
  | false =>
    obtain rfl := hfo rfl
    clear hfo
    go_wp2_with fail
    refine (q4.out _).mono ?_
    rintro e w4 ⟨rfl, x4⟩
    have Y4 := Lib.hid (Y3.out.trans x4)
    have I4 := Lib.hid (I3.out.ext x4)
    clear x4
    go_wp2_with (first
      | (refine wpList_load_blk_g (by kernel_rfl) 29 (.tmp 7) rfl rfl I4.out Try.underlying29 rfl (marks_size hfm) ?_))
    refine (q5.out _).mono ?_
    rintro e w5 ⟨rfl, x5⟩
    have Y5 := Lib.hid (Y4.out.trans x5)
    clear x5
    go_wp2_with fail
    refine (qa.out _).mono ?_
    rintro e w6 ⟨rfl, x6⟩
    go_wp2
    go_ret
    exact ⟨rfl, Y5.out.trans x6⟩

set_option maxRecDepth 20000 in
set_option maxHeartbeats 2000000 in
theorem gramNever_law (s1 : ByteArray) (hs1 : s1.size ≤ maxLen) (s2 : ByteArray) (hs2 : s2.size ≤ maxLen) (a b : W4) (w : World) :
    Calls Try.prog 7 #[.string s1, .string s2, PV a b] w fun e w' => e = .returned (.bool true) ∧ Ext w w' := by
  obtain ⟨s, rfl, hh⟩ := S_ex s1
  obtain ⟨d, rfl, hd⟩ := S_ex s2
  rw [S_size] at hs1 hs2
  unfold maxLen at hs1 hs2
  have qa := Lib.hid awake40
  have X0 := Lib.hid ((Ext.refl w).alloc (.cells (wordsL (a.1 ++ b.1)).toArray 25))
  clear hh hd
  by_cases h1 : (2000 : Int) < s.length
  · unfold PV
    generalize (wordsL (a.1 ++ b.1)).toArray = cs at *
    go_enter Try.func7, Try.ntmps7
    go_wp2_with fail
    refine (qa.out _).mono ?_
    rintro e w1 ⟨rfl, x1⟩
    go_wp2
    go_ret
    exact ⟨rfl, X0.out.trans x1⟩
  by_cases h2 : (500 : Int) < d.length
  · unfold PV
    generalize (wordsL (a.1 ++ b.1)).toArray = cs at *
    go_enter Try.func7, Try.ntmps7
    go_wp2_with fail
    refine (qa.out _).mono ?_
    rintro e w1 ⟨rfl, x1⟩
    go_wp2
    go_ret
    exact ⟨rfl, X0.out.trans x1⟩
  exact gramNever_in s d a b w h1 h2
end Go.Proofs.Ytjbacmhkmofpkaa
