/- gram: the law GramBack. -/
import Derived.Test.YtjbacmhkmofpkaaGramY
import Derived.Test.YtjbacmhkmofpkaaGramO
namespace Go.Proofs.Ytjbacmhkmofpkaa
set_option linter.unusedVariables false
set_option linter.unusedSimpArgs false
open Go.RowKit
attribute [local go_sem] S_size S_toList S_append S_extract S_beq S_bne S_empty S_nil

theorem pair_ranges {w : World} {g : Nat} {t : TypeId} {a b : W4} (h : Blk w g t (wordsL (a.1 ++ b.1)).toArray) : w.rangeAt g 0 (wordsL a.1) ∧ w.rangeAt g 4 (wordsL b.1) := by
  have ha : (wordsL a.1).length = 4 := cells4_length a
  have e : wordsL (a.1 ++ b.1) = wordsL a.1 ++ wordsL b.1 := List.map_append
  constructor
  · intro j v hj
    have hlt : j < (wordsL a.1).length := by
      rcases Nat.lt_or_ge j (wordsL a.1).length with h | h
      · exact h
      · rw [List.getElem?_eq_none h] at hj; cases hj
    rw [h.cell, List.getElem?_toArray, e, Nat.zero_add, List.getElem?_append_left hlt]; exact hj
  · intro j v hj
    rw [h.cell, List.getElem?_toArray, e, List.getElem?_append_right (by omega), ha, Nat.add_sub_cancel_left]; exact hj
theorem words4_mid (a : W4) : (Try.prog.info? 23).map (·.size) = some (wordsL a.1).length := by rw [show (wordsL a.1).length = 4 from cells4_length a]; kernel_rfl
theorem get_back (h p b : List UInt8) (m : W4) (hp : p = putL m) : getW (((h ++ (p ++ b)).drop h.length).take 32) = m := by
  subst hp
  rw [List.drop_left, List.take_left' (putL_length m), get_put]

set_option maxRecDepth 20000 in
set_option maxHeartbeats 4000000 in
theorem gramBack_law (a b : W4) (s1 : ByteArray) (hs1 : s1.size ≤ maxLen) (s2 : ByteArray) (hs2 : s2.size ≤ maxLen) (w : World) :
    Calls Try.prog 6 #[PV a b, .string s1, .string s2] w fun e w' => e = .returned (.bool true) ∧ Ext w w' := by
  obtain ⟨h, rfl, hh⟩ := S_ex s1
  obtain ⟨d, rfl, hd⟩ := S_ex s2
  rw [S_size] at hs1 hs2
  unfold maxLen at hs1 hs2
  have b1 := Blk.new w 25 (wordsL (a.1 ++ b.1)).toArray
  have r1 := Lib.hid (pair_ranges b1).1
  have qa := Lib.hid awake40
  have X0 := Lib.hid ((Ext.refl w).alloc (.cells (wordsL (a.1 ++ b.1)).toArray 25))
  clear hh hd b1
  unfold PV
  by_cases h1 : (1000 : Int) < h.length
  · generalize (wordsL (a.1 ++ b.1)).toArray = cs at *
    go_enter Try.func6, Try.ntmps6
    go_wp2_with fail
    refine (qa.out _).mono ?_
    rintro e w1 ⟨rfl, x1⟩
    go_wp2
    go_ret
    exact ⟨rfl, X0.out.trans x1⟩
  by_cases h2 : (1000 : Int) < d.length
  · generalize (wordsL (a.1 ++ b.1)).toArray = cs at *
    go_enter Try.func6, Try.ntmps6
    go_wp2_with fail
    refine (qa.out _).mono ?_
    rintro e w1 ⟨rfl, x1⟩
    go_wp2
    go_ret
    exact ⟨rfl, X0.out.trans x1⟩
  generalize (wordsL (a.1 ++ b.1)).toArray = cs at *
  have hpl := putL_length a
  have q1 := Lib.hid (fun w => put_any a w)
  have q2 := Lib.hid (fun w => get_ok (h ++ (putL a ++ d)) h.length w (by rw [List.length_append, List.length_append, hpl]; omega) (by rw [List.length_append, List.length_append, hpl]; omega))
  have hgb := get_back h (putL a) d a rfl
  have c1 := fun w => run_cat (P := Try.prog) h (putL a) (by rw [hpl]; omega) w
  have c2 := fun w => run_cat (P := Try.prog) (h ++ putL a) d (by rw [List.length_append, hpl]; omega) w
  have hE := fun w => (beq_self_eq_true a.1 ▸ marks_eql a.1 a.1 a.2 a.2 w : (binOp .eql 29 (.agg (wordsL a.1).toArray) (.agg (wordsL a.1).toArray)).run Try.prog w = .ok (.bool true) w)
  have e1 : IntKind.i64.wrap ((h.length : Int) + 32) = (h.length : Int) + 32 := by rw [IntKind.wrap_i64]; omega
  rw [hgb] at q2
  clear hgb
  have HP := Lib.hid hpl
  clear hpl
  unfold MV at *
  generalize putL a = p at *
  have hm := a.2
  have hmid := words4_mid a
  go_enter Try.func6, Try.ntmps6
  go_wp2_with (first
    | (refine wpList_load_mid rfl 23 (.tmp 21) rfl w.heap.size 0 rfl _ _ r1.out Try.underlying23 rfl hmid ?_))
  refine (q1.out _).mono ?_
  rintro e w1 ⟨rfl, x1⟩
  have X1 := Lib.hid (X0.out.trans x1)
  have r2 := Lib.hid (rangeAt_ext r1.out x1)
  clear x1
  go_wp2_with fail
  refine (q2.out _).mono ?_
  rintro e w2 ⟨rfl, x2⟩
  have X2 := Lib.hid ((X1.out.trans x2).alloc (.cells (wordsL a.1).toArray 29))
  have r3 := Lib.hid (rangeAt_ext (rangeAt_ext r2.out x2) ((Ext.refl w2).alloc (.cells (wordsL a.1).toArray 29)))
  have M2 := Lib.hid (Blk.new w2 29 (wordsL a.1).toArray)
  clear x2
  go_wp2_with (first
    | (refine wpList_store_new rfl 29 (.tmp 7) (.tmp 30) rfl rfl rfl (by rw [wordsL_size, hm]; rfl) (marks_size hm) (wordsL_one _) ?_)
    | (refine wpList_load_blk rfl 29 (.tmp 7) rfl rfl M2.out Try.underlying29 rfl (marks_size hm) ?_)
    | (refine wpList_load_mid rfl 23 (.tmp 34) rfl w.heap.size 0 rfl _ _ r3.out Try.underlying23 rfl hmid ?_))
  refine (qa.out _).mono ?_
  rintro e w3 ⟨rfl, x3⟩
  go_wp2
  go_ret
  exact ⟨rfl, X2.out.trans x3⟩
end Go.Proofs.Ytjbacmhkmofpkaa
