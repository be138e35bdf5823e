/- gram: has, with. -/
import Derived.Test.YtjbacmhkmofpkaaGramA
import Derived.Test.YtjbacmhkmofpkaaArr
namespace Go.Proofs.Ytjbacmhkmofpkaa
set_option linter.unusedVariables false
set_option linter.unusedSimpArgs false
open Go.RowKit
attribute [local go_sem] u64_or64 u64_beq64

theorem u64_info : ∃ i, Try.prog.info? 22 = some i := by
  cases h : Try.prog.info? 22 with
  | some i => exact ⟨i, rfl⟩
  | none => exact absurd h (by decide +kernel)
theorem marks_equalIn (a b : List UInt64) (ha : a.length = 4) (hb : b.length = 4) (w : World) : (Op.equalIn 10000 29 (.agg (wordsL a).toArray) (.agg (wordsL b).toArray)).run Try.prog w = .ok (a == b) w := by
  obtain ⟨i, hi⟩ := u64_info
  exact equalIn_arr (e := 22) (f := fun x : UInt64 => Value.int .u64 (U64 x)) (by kernel_rfl) 9999 (fun x y w => by rw [run_equalIn_int w 9998 _ _ _ _ _ Try.underlying22, u64_beq64]) Try.underlying29 hi (by kernel_rfl) a b ha hb w
theorem marks_eql (a b : List UInt64) (ha : a.length = 4) (hb : b.length = 4) (w : World) : (binOp .eql 29 (.agg (wordsL a).toArray) (.agg (wordsL b).toArray)).run Try.prog w = .ok (.bool (a == b)) w := by
  rw [run_eql_struct, marks_equalIn a b ha hb]; rfl
theorem marks_neq (a b : List UInt64) (ha : a.length = 4) (hb : b.length = 4) (w : World) : (binOp .neq 29 (.agg (wordsL a).toArray) (.agg (wordsL b).toArray)).run Try.prog w = .ok (.bool !(a == b)) w := by
  rw [run_neq_struct, marks_equalIn a b ha hb]; rfl

set_option maxRecDepth 20000 in
set_option maxHeartbeats 1000000 in
theorem hasm_any (m n : List UInt64) (w : World) (hm : m.length = 4) (hn : n.length = 4) :
    Calls Try.prog 31 #[MV m, MV n] w fun e w' => e = .returned (.bool (unionL m n == m)) ∧ Ext w w' := by
  have q0 := fun w => union_any m n w hm hn
  unfold MV at q0 ⊢
  have q := Lib.hid q0
  clear q0
  have he := marks_eql (unionL m n) m (unionL_length m n) hm
  have b1 : Blk ((w.alloc (.cells (wordsL m).toArray 29)).alloc (.cells (wordsL n).toArray 29)) w.heap.size 29 (wordsL m).toArray := (Blk.new w _ _).alloc _
  have b2 : Blk ((w.alloc (.cells (wordsL m).toArray 29)).alloc (.cells (wordsL n).toArray 29)) (w.heap.size + 1) 29 (wordsL n).toArray := by
    have := Blk.new (w.alloc (.cells (wordsL m).toArray 29)) 29 (wordsL n).toArray
    rw [World.size_alloc] at this; exact this
  have B1 := Lib.hid b1
  have B2 := Lib.hid b2
  clear b1 b2
  generalize unionL m n = u at *
  go_enter Try.func31, Try.ntmps31
  go_wp2_with fail
  refine wp_region_up (by kernel_rfl) (by kernel_rfl) ?_
  repeat (first
    | (refine wpQuiet_load_blk rfl 29 (.tmp 2) rfl rfl B1.out Try.underlying29 rfl (marks_size hm) ?_)
    | (refine wpQuiet_load_blk rfl 29 (.tmp 3) rfl rfl B2.out Try.underlying29 rfl (marks_size hn) ?_)
    | (quiet_step (first | (go_at_call 29; (with_reducible exact up_call (q.out _))))))
  refine wpQuiet_nil ?_
  rintro _ ⟨y, rfl⟩
  go_wp2
  go_ret
  exact ⟨rfl, (((Ext.refl _).alloc _).alloc _).trans y.ext⟩
end Go.Proofs.Ytjbacmhkmofpkaa
