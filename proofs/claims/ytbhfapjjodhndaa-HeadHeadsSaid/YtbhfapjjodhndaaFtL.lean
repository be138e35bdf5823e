/- HeadHeads: the law's walk. -/
import Derived.Test.YtbhfapjjodhndaaMgI
import Derived.Test.YtbhfapjjodhndaaHdO
namespace Go.Proofs.Ytbhfapjjodhndaa
set_option linter.unusedVariables false
set_option linter.unusedSimpArgs false
open Go.RowKit
attribute [local go_sem] S_size S_toList S_beq hd_zero

set_option maxRecDepth 20000 in
set_option maxHeartbeats 16000000 in
theorem headHeads_law (i g f : Int) (b : ByteArray) (hb : b.size ≤ maxLen) (w : World) :
    Calls Try.prog 3 #[.agg #[.int .i64 i, .int .i64 g, .int .i64 f], .string b] w fun x w' => x = .returned (.bool true) ∧ Ext w w' := by
  obtain ⟨s, rfl, hsz⟩ := S_ex b
  rw [← hsz] at hb
  have hb : (s.length : Int) ≤ 9223372036854775807 := by unfold maxLen at hb; omega
  clear hsz
  have QA := Lib.hid awake21_any
  have X0 := Lib.hid ((Ext.refl w).alloc (.cells #[.int .i64 i, .int .i64 g, .int .i64 f] 23))
  by_cases hbig : (1000 : Int) < (s.length : Int)
  · go_enter Try.func3, Try.ntmps3
    go_wp2_with fail
    refine (QA.out _).mono ?_
    rintro _ w1 ⟨rfl, x1⟩
    go_wp2
    go_ret
    exact ⟨rfl, X0.out.trans x1⟩
  · have HH := Lib.hid hd_size
    have b1 := Lib.hid (Blk.new w 23 #[.int .i64 i, .int .i64 g, .int .i64 f])
    have Q1 := Lib.hid (fun w => hput_any i g f w)
    have Q2 := Lib.hid (fun w => rput_h i g f w)
    have Q3 := Lib.hid (fun w => hget_any s w (by omega))
    have Q4 := Lib.hid (fun w => rget_h s w (by omega))
    have Q5 := Lib.hid (fun w => hcheck_any i g f w)
    have Q6 := Lib.hid (fun w => rcheck_any i g f w)
    generalize putH (i, g, f) = p at *
    generalize errI (headP i g f) 210 = n at *
    generalize getHe (getH s) = m at *
    generalize getHv (getH s) = hv at *
    obtain ⟨v1, v2, v3⟩ := hv
    simp only [hdC] at *
    have HEQ := Lib.hid (show ∀ w, (binOp .eql 23 (.agg #[.int .i64 v1, .int .i64 v2, .int .i64 v3]) (.agg #[.int .i64 v1, .int .i64 v2, .int .i64 v3])).run Try.prog w = .ok (.bool true) w from fun w => by
      rw [head_eql, decide_eq_true rfl, decide_eq_true rfl, decide_eq_true rfl]; rfl)
    go_enter Try.func3, Try.ntmps3
    go_wp2_with (refine wpList_load_blk rfl 23 (.tmp 2) rfl rfl b1.out Try.underlying23 rfl HH.out ?_)
    refine (Q1.out _).mono ?_
    rintro _ w1 ⟨rfl, x1⟩
    have B1 := Lib.hid (b1.out.ext x1)
    have X1 := Lib.hid (X0.out.trans x1)
    clear x1
    go_wp2_with (refine wpList_load_blk rfl 23 (.tmp 2) rfl rfl B1.out Try.underlying23 rfl HH.out ?_)
    refine (Q2.out _).mono ?_
    rintro _ w2 ⟨rfl, x2⟩
    have B1 := Lib.hid (B1.out.ext x2)
    have X2 := Lib.hid (X1.out.trans x2)
    clear x2
    go_wp2_with fail
    refine (Q3.out _).mono ?_
    rintro _ w3 ⟨rfl, x3⟩
    have y3 := x3.alloc (.cells #[.int .i64 v1, .int .i64 v2, .int .i64 v3] 23)
    have B1 := Lib.hid (B1.out.ext y3)
    have B9 := Lib.hid (Blk.new w3 23 #[.int .i64 v1, .int .i64 v2, .int .i64 v3])
    have X3 := Lib.hid (X2.out.trans y3)
    clear x3 y3
    go_wp2_with (refine wpList_store_new rfl 23 (.tmp 9) (.tmp 30) rfl rfl rfl rfl HH.out (by kernel_rfl) ?_)
    refine (Q4.out _).mono ?_
    rintro _ w4 ⟨rfl, x4⟩
    have y4 := x4.alloc (.cells #[.int .i64 v1, .int .i64 v2, .int .i64 v3] 23)
    have B1 := Lib.hid (B1.out.ext y4)
    have B9 := Lib.hid (B9.out.ext y4)
    have B11 := Lib.hid (Blk.new w4 23 #[.int .i64 v1, .int .i64 v2, .int .i64 v3])
    have X4 := Lib.hid (X3.out.trans y4)
    clear x4 y4
    go_wp2_with (refine wpList_store_new rfl 23 (.tmp 11) (.tmp 35) rfl rfl rfl rfl HH.out (by kernel_rfl) ?_)
    generalize (w4.alloc (.cells #[.int .i64 v1, .int .i64 v2, .int .i64 v3] 23)) = w5 at *
    have heq := HEQ.out
    refine wp_region_up (by kernel_rfl) (by kernel_rfl) ?_
    repeat (first
      | (refine wpQuiet_load_blk (by kernel_rfl) 23 (.tmp 2) rfl rfl B1.out Try.underlying23 rfl HH.out ?_
         dsimp only [Act.put]
         simp only [List.setIfInBounds_toArray, List.set_cons_succ, List.set_cons_zero])
      | (refine wpQuiet_load_blk (by kernel_rfl) 23 (.tmp 9) rfl rfl B9.out Try.underlying23 rfl HH.out ?_
         dsimp only [Act.put]
         simp only [List.setIfInBounds_toArray, List.set_cons_succ, List.set_cons_zero])
      | (refine wpQuiet_load_blk (by kernel_rfl) 23 (.tmp 11) rfl rfl B11.out Try.underlying23 rfl HH.out ?_
         dsimp only [Act.put]
         simp only [List.setIfInBounds_toArray, List.set_cons_succ, List.set_cons_zero])
      | (go_big_quiet_step (first
         | (go_at_call 12; (with_reducible exact up_call (Q5.out _)))
         | (go_at_call 13; (with_reducible exact up_call (Q6.out _)))
         | (go_at_call 7; (with_reducible exact up_call (QA.out _))))))
    refine wpQuiet_nil ?_
    rintro _ ⟨z, rfl⟩
    go_wp2
    go_ret
    exact ⟨rfl, X4.out.trans z.ext⟩
end Go.Proofs.Ytbhfapjjodhndaa
