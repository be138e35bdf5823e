/- HeadFoots: the law's walk. -/
import Derived.Test.YtbhfapjjodhndaaMgI
import Derived.Test.YtbhfapjjodhndaaHdO
import Derived.Test.YtbhfapjjodhndaaMetaO
namespace Go.Proofs.Ytbhfapjjodhndaa
set_option linter.unusedVariables false
set_option linter.unusedSimpArgs false
open Go.RowKit
attribute [local go_sem] S_size S_toList S_beq hd_zero
theorem ftV_len (s : List UInt8) : ((ftV (getFt s)).length : Int) ≤ 1000 := by
  cases h : getFt s with
  | error e => exact (by decide : ((0 : Nat) : Int) ≤ 1000)
  | ok l => exact (blocks_ok (putFt_getFt h).1).1

set_option maxRecDepth 20000 in
set_option maxHeartbeats 16000000 in
theorem headFoots_law (v : Value) (l : List M7) (b : ByteArray) (hb : b.size ≤ maxLen) (i g f : Int) (w : World) (rd : RR metaC 7 w v l) (bl : (l.length : Int) ≤ 9223372036854775807) (R : ∀ x ∈ l, True) :
    Calls Try.prog 4 #[v, .string b, .agg #[.int .i64 i, .int .i64 g, .int .i64 f]] w fun x w' => x = .returned (.bool true) ∧ Ext w w' := by
  obtain ⟨s, rfl, hsz⟩ := S_ex b
  rw [← hsz] at hb
  have hb : (s.length : Int) ≤ 9223372036854775807 := by unfold maxLen at hb; omega
  clear hsz R
  have QA := Lib.hid awake21_any
  have X0 := Lib.hid ((Ext.refl w).alloc (.cells #[.int .i64 i, .int .i64 g, .int .i64 f] 23))
  by_cases hl : (1200 : Int) < (l.length : Int)
  · obtain ⟨a, c, rfl, _, _, _⟩ := rd
    go_enter Try.func4, Try.ntmps4
    go_wp2_with fail
    refine (QA.out _).mono ?_
    rintro _ w1 ⟨rfl, x1⟩
    go_wp2
    go_ret
    exact ⟨rfl, X0.out.trans x1⟩
  by_cases hs : (5000 : Int) < (s.length : Int)
  · obtain ⟨a, c, rfl, _, _, _⟩ := rd
    go_enter Try.func4, Try.ntmps4
    go_wp2_with fail
    refine (QA.out _).mono ?_
    rintro _ w1 ⟨rfl, x1⟩
    go_wp2
    go_ret
    exact ⟨rfl, X0.out.trans x1⟩
  have HH := Lib.hid hd_size
  have B5 := Lib.hid (Blk.new w 23 #[.int .i64 i, .int .i64 g, .int .i64 f])
  have R0 := Lib.hid (rd.ext X0.out)
  have hlt := ftV_len s
  have Q1 := Lib.hid (fun w h => hPutFoot_any l v w h)
  have Q2 := Lib.hid (fun w h => rPutFoot_any l v w h)
  have Q3 := Lib.hid (fun w => hGetFoot_any s w (by omega))
  have Q4 := Lib.hid (fun w => rGetFoot_any s w (by omega))
  have Q5 := Lib.hid (fun w h => hEnd_any i g f l v w h)
  have Q6 := Lib.hid (fun w h => rEnd_any i g f l v w h)
  have Q7 := Lib.hid (fun w h => hBlocks_any l v w h)
  have Q8 := Lib.hid (fun w h => rBlocks_any l v w h)
  have Q9 := Lib.hid (fun w h => hNext_any i g f l v w h)
  have Q10 := Lib.hid (fun w h => rNext_any i g f l v w h)
  have q11 := fun va vb w ha hb => rSameM_any (ftV (getFt s)) (ftV (getFt s)) va vb w ha hb (by omega)
  rw [decide_eq_true rfl] at q11
  have Q11 := Lib.hid q11
  clear q11 hlt
  obtain ⟨a, c, rfl, _, _, _⟩ := rd
  generalize putFt l = p at *
  generalize footI (blocksP l) = n at *
  generalize ftE (getFt s) = m at *
  generalize ftV (getFt s) = fl at *
  generalize endV i g f l = ev at *
  generalize endE i g f l = ee at *
  generalize nextF f l = nx at *
  go_enter Try.func4, Try.ntmps4
  go_wp2_with fail
  refine (Q1.out _ R0.out).mono ?_
  rintro _ w1 ⟨rfl, x1⟩
  have B5 := Lib.hid (B5.out.ext x1)
  have R0 := Lib.hid (R0.out.ext x1)
  have X1 := Lib.hid (X0.out.trans x1)
  clear x1 X0
  go_wp2_with fail
  refine (Q2.out _ R0.out).mono ?_
  rintro _ w2 ⟨rfl, x2⟩
  have B5 := Lib.hid (B5.out.ext x2)
  have R0 := Lib.hid (R0.out.ext x2)
  have X2 := Lib.hid (X1.out.trans x2)
  clear x2 X1
  go_wp2_with fail
  refine (Q3.out _).mono ?_
  rintro _ w3 ⟨u3, rfl, x3, r3⟩
  have B5 := Lib.hid (B5.out.ext x3)
  have R0 := Lib.hid (R0.out.ext x3)
  have R3 := Lib.hid r3
  have X3 := Lib.hid (X2.out.trans x3)
  clear x3 X2 r3
  go_wp2_with fail
  refine (Q4.out _).mono ?_
  rintro _ w4 ⟨u4, rfl, x4, r4⟩
  have B5 := Lib.hid (B5.out.ext x4)
  have R0 := Lib.hid (R0.out.ext x4)
  have R3 := Lib.hid (R3.out.ext x4)
  have R4 := Lib.hid r4
  have X4 := Lib.hid (X3.out.trans x4)
  clear x4 X3 r4
  go_wp2_with (refine wpList_load_blk rfl 23 (.tmp 5) rfl rfl B5.out Try.underlying23 rfl HH.out ?_; refine Held.go ?_)
  refine ⟨?_⟩
  go_wp2_with fail
  refine (Q5.out _ R0.out).mono ?_
  rintro _ w5 ⟨rfl, x5⟩
  have B5 := Lib.hid (B5.out.ext x5)
  have R0 := Lib.hid (R0.out.ext x5)
  have R3 := Lib.hid (R3.out.ext x5)
  have R4 := Lib.hid (R4.out.ext x5)
  have X5 := Lib.hid (X4.out.trans x5)
  clear x5 X4
  go_wp2_with (refine wpList_load_blk rfl 23 (.tmp 5) rfl rfl B5.out Try.underlying23 rfl HH.out ?_; refine Held.go ?_)
  refine ⟨?_⟩
  go_wp2_with fail
  refine (Q6.out _ R0.out).mono ?_
  rintro _ w6 ⟨rfl, x6⟩
  have B5 := Lib.hid (B5.out.ext x6)
  have q7 := Lib.hid (fun x : Up w6 => Q7.out _ ((R0.out.ext x6).ext x.ext))
  have q8 := Lib.hid (fun x : Up w6 => Q8.out _ ((R0.out.ext x6).ext x.ext))
  have q9 := Lib.hid (fun x : Up w6 => Q9.out _ ((R0.out.ext x6).ext x.ext))
  have q10 := Lib.hid (fun x : Up w6 => Q10.out _ ((R0.out.ext x6).ext x.ext))
  have q11 := Lib.hid (fun x : Up w6 => Q11.out _ _ _ ((R3.out.ext x6).ext x.ext) ((R4.out.ext x6).ext x.ext))
  have X6 := Lib.hid (X5.out.trans x6)
  clear x6 X5 R0 R3 R4
  go_wp2
  refine wp_region_up (by kernel_rfl) (by kernel_rfl) ?_
  repeat (first
    | (refine wpQuiet_load_blk (by kernel_rfl) 23 (.tmp 5) rfl rfl B5.out Try.underlying23 rfl HH.out ?_
       dsimp only [Act.put]
       simp only [List.setIfInBounds_toArray, List.set_cons_succ, List.set_cons_zero])
    | (go_big_quiet_step (first
       | (go_at_call 20; (with_reducible exact up_call (q7.out _)))
       | (go_at_call 21; (with_reducible exact up_call (q8.out _)))
       | (go_at_call 23; (with_reducible exact up_call (q9.out _)))
       | (go_at_call 24; (with_reducible exact up_call (q10.out _)))
       | (go_at_call 22; (with_reducible exact up_call (q11.out _)))
       | (go_at_call 7; (with_reducible exact up_call (QA.out _))))))
  refine wpQuiet_nil ?_
  rintro _ ⟨z, rfl⟩
  go_wp2
  go_ret
  exact ⟨rfl, X6.out.trans z.ext⟩
end Go.Proofs.Ytbhfapjjodhndaa
