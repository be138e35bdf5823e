/- gram: Mark; marks in memory; union. -/
import Derived.Test.YtjbacmhkmofpkaaGramL
import Derived.Test.YtjbacmhkmofpkaaBits64
import Derived.Test.YtjbacmhkmofpkaaAnyX
import Derived.Handy
import Derived.LoopTactic
namespace Go.Proofs.Ytjbacmhkmofpkaa
set_option linter.unusedVariables false
set_option linter.unusedSimpArgs false
open Go.RowKit
attribute [local go_sem] u64_or64

def markL (a b c : UInt8) : Nat := (49 * a.toNat + 7 * b.toNat + c.toNat) % 251
theorem markL_lt (a b c : UInt8) : markL a b c < 251 := Nat.mod_lt _ (by decide)
theorem mark_int (a b c : UInt8) : (49 * U8 a + 7 * U8 b + U8 c).tmod 251 = (markL a b c : Int) := by
  have h1 := U8_nonneg a
  have h2 := U8_nonneg b
  have h3 := U8_nonneg c
  rw [Int.tmod_eq_emod_of_nonneg (by omega)]
  unfold U8 markL; omega

set_option maxRecDepth 20000 in
theorem mark_any (a b c : UInt8) (w : World) : Calls Try.prog 23 #[.int .u8 (U8 a), .int .u8 (U8 b), .int .u8 (U8 c)] w fun e w' => e = .returned (.int .i64 (markL a b c)) ∧ w = w' := by
  have h1 := U8_nonneg a
  have h2 := U8_nonneg b
  have h3 := U8_nonneg c
  have g1 := U8_lt a
  have g2 := U8_lt b
  have g3 := U8_lt c
  have hm := Lib.hid (mark_int a b c)
  go_enter Try.func23, Try.ntmps23
  go_wp2
  go_ret
  exact ⟨by rw [← hm.out]; rfl, rfl⟩
set_option maxRecDepth 20000 in
theorem rmark_any (a b c : UInt8) (w : World) : Calls Try.prog 24 #[.int .u8 (U8 a), .int .u8 (U8 b), .int .u8 (U8 c)] w fun e w' => e = .returned (.int .i64 (markL a b c)) ∧ w = w' := by
  have h1 := U8_nonneg a
  have h2 := U8_nonneg b
  have h3 := U8_nonneg c
  have g1 := U8_lt a
  have g2 := U8_lt b
  have g3 := U8_lt c
  have hm := Lib.hid (mark_int a b c)
  go_enter Try.func24, Try.ntmps24
  go_wp2
  go_ret
  exact ⟨by rw [← hm.out]; rfl, rfl⟩

def wordsL (m : List UInt64) : List Value := m.map fun x => .int .u64 (U64 x)
/-- marks, by value -/
def MV (m : List UInt64) : Value := .agg (wordsL m).toArray
def unionTo (m n : List UInt64) (k : Nat) : List UInt64 := (List.range 4).map fun i => if i < k then m.getD i 0 ||| n.getD i 0 else m.getD i 0
theorem unionTo_length (m n : List UInt64) (k : Nat) : (unionTo m n k).length = 4 := by simp [unionTo]
theorem unionTo_zero (m n : List UInt64) (hm : m.length = 4) : unionTo m n 0 = m := by
  apply List.ext_getElem (by rw [unionTo_length, hm])
  intro i h1 h2
  simp [unionTo, List.getD_eq_getElem?_getD, h2]
theorem unionTo_all (m n : List UInt64) : unionTo m n 4 = unionL m n := by
  unfold unionTo unionL
  apply List.map_congr_left
  intro i hi
  rw [if_pos (List.mem_range.1 hi)]
theorem unionTo_get (m n : List UInt64) (k : Nat) (h : k < 4) : (unionTo m n k).getD k 0 = m.getD k 0 := by
  simp [unionTo, List.getD_eq_getElem?_getD, h]
theorem unionTo_set (m n : List UInt64) (k : Nat) : (unionTo m n k).set k (m.getD k 0 ||| n.getD k 0) = unionTo m n (k + 1) := by
  apply List.ext_getElem?
  intro i
  rw [List.getElem?_set, unionTo_length]
  by_cases hi : i < 4
  · by_cases he : k = i
    · subst he; simp [unionTo, hi]
    · rw [if_neg he]
      simp only [unionTo, List.getElem?_map, List.getElem?_range hi, Option.map_some]
      by_cases h1 : i < k
      · rw [if_pos h1, if_pos (by omega)]
      · rw [if_neg h1, if_neg (by omega)]
  · by_cases he : k = i
    · subst he
      rw [if_pos rfl, if_neg hi, List.getElem?_eq_none (by rw [unionTo_length]; omega)]
    · rw [if_neg he, List.getElem?_eq_none (by rw [unionTo_length]; omega), List.getElem?_eq_none (by rw [unionTo_length]; omega)]
theorem wordsL_size (m : List UInt64) : (wordsL m).toArray.size = m.length := by simp [wordsL]
theorem wordsL_get (m : List UInt64) (k : Nat) (h : k < m.length) : (wordsL m).toArray[k]? = some (.int .u64 (U64 (m.getD k 0))) := by
  simp [wordsL, List.getD_eq_getElem?_getD, h]
theorem wordsL_set (m : List UInt64) (k : Nat) (x : UInt64) : (wordsL m).toArray.setIfInBounds k (.int .u64 (U64 x)) = (wordsL (m.set k x)).toArray := by
  simp [wordsL, List.map_set]
theorem wordsL_one (m : List UInt64) : (wordsL m).toArray.all (·.oneCell') = true := by
  simp [wordsL, Value.oneCell']
theorem marks_size {m : List UInt64} (hm : m.length = 4) : (Try.prog.info? 29).map (·.size) = some (wordsL m).toArray.size := by
  rw [wordsL_size, hm]; kernel_rfl
theorem marks_zero : (.agg #[.int .u64 0, .int .u64 0, .int .u64 0, .int .u64 0] : Value) = MV emptyL := rfl

set_option maxRecDepth 20000 in
set_option maxHeartbeats 2000000 in
theorem union_any (m n : List UInt64) (w : World) (hm : m.length = 4) (hn : n.length = 4) :
    Calls Try.prog 29 #[MV m, MV n] w fun e w' => e = .returned (MV (unionL m n)) ∧ Ext w w' := by
  unfold MV
  go_enter Try.func29, Try.ntmps29
  have hm0 : Blk (((w.alloc (.cells (wordsL m).toArray 29)).alloc (.cells (wordsL n).toArray 29)).alloc (.cells #[.int .u64 0, .int .u64 0, .int .u64 0, .int .u64 0] 29)) w.heap.size 29 (wordsL (unionTo m n 0)).toArray := by
    rw [unionTo_zero m n hm]; exact ((Blk.new w _ _).alloc _).alloc _
  have hn0 : Blk (((w.alloc (.cells (wordsL m).toArray 29)).alloc (.cells (wordsL n).toArray 29)).alloc (.cells #[.int .u64 0, .int .u64 0, .int .u64 0, .int .u64 0] 29)) (w.heap.size + 1) 29 (wordsL n).toArray := by
    have := (Blk.new (w.alloc (.cells (wordsL m).toArray 29)) 29 (wordsL n).toArray).alloc (.cells #[.int .u64 0, .int .u64 0, .int .u64 0, .int .u64 0] 29)
    rw [World.size_alloc] at this; exact this
  have hr0 : Blk (((w.alloc (.cells (wordsL m).toArray 29)).alloc (.cells (wordsL n).toArray 29)).alloc (.cells #[.int .u64 0, .int .u64 0, .int .u64 0, .int .u64 0] 29)) (w.heap.size + 2) 29 #[.int .u64 0, .int .u64 0, .int .u64 0, .int .u64 0] := by
    have := Blk.new ((w.alloc (.cells (wordsL m).toArray 29)).alloc (.cells (wordsL n).toArray 29)) 29 #[.int .u64 0, .int .u64 0, .int .u64 0, .int .u64 0]
    rw [World.size_alloc, World.size_alloc] at this; exact this
  have HM0 := Lib.hid hm0
  have HN0 := Lib.hid hn0
  have HR0 := Lib.hid hr0
  clear hm0 hn0 hr0
  go_wp2_with fail
  go_loopw [6] (fun i wr => ∃ k : Nat, i = .int .i64 k ∧ k ≤ 4 ∧ Ext w wr ∧ Blk wr w.heap.size 29 (wordsL (unionTo m n k)).toArray ∧ Blk wr (w.heap.size + 1) 29 (wordsL n).toArray ∧ Blk wr (w.heap.size + 2) 29 #[.int .u64 0, .int .u64 0, .int .u64 0, .int .u64 0]) (fun i _ => 4 - (intOf i).toNat)
  case atStart => exact ⟨0, rfl, by omega, (((Ext.refl _).alloc _).alloc _).alloc _, HM0.out, HN0.out, HR0.out⟩
  case round =>
    obtain ⟨k, rfl, hk, hx, h1, h2, h3⟩ := hrel
    have HX := Lib.hid hx
    have H1 := Lib.hid h1
    have H2 := Lib.hid h2
    have H3 := Lib.hid h3
    by_cases hlt : k < 4
    · have c1 := up_cell (W := wr.drew) (show wr.drew.cell? ⟨w.heap.size, k, none⟩ = some (.int .u64 (U64 (m.getD k 0))) from (h1.cell k).trans (by rw [wordsL_get _ _ (by rw [unionTo_length]; omega), unionTo_get m n k hlt]))
      have c2 := up_cell (W := wr.drew) (show wr.drew.cell? ⟨w.heap.size + 1, k, none⟩ = some (.int .u64 (U64 (n.getD k 0))) from (h2.cell k).trans (wordsL_get _ _ (by omega)))
      have cf := fun x : Up wr.drew => (h1.drew.ext x.ext).frozen k
      have HS := Lib.hid (fun x : Up wr.drew => by
        have := (h1.drew.ext x.ext).set_ k (.int .u64 (U64 (m.getD k 0 ||| n.getD k 0)))
        rw [wordsL_set, unionTo_set] at this; exact this)
      clear hx h1 h2 h3
      generalize m.getD k 0 = x at *
      generalize n.getD k 0 = y at *
      have hk4 : (k : Int) < 4 := by omega
      go_wp2_with fail
      refine wp_region_lex _ rfl (by kernel_rfl) ?_
      dsimp only [List.length_cons, List.length_nil]
      repeat (first
        | (refine lex_want (by kernel_rfl) (by kernel_rfl) (by kernel_rfl) (by kernel_rfl) (fun _ _ _ _ h => h) (by kernel_rfl) (fun K hK => ?_)
           go_simp
           (refine hK _ ?_; clear hK K)))
      refine lex_last (by kernel_rfl) (by kernel_rfl) (by kernel_rfl) (by kernel_rfl) (by kernel_rfl) (fun x K hK => ?_)
      have p1 := c1 x
      have p2 := cf x
      go_simp
      refine hK _ _ (fun y => ?_)
      have hy1 := Lib.hid ((HS.out x).ext y.ext)
      have hy2 := Lib.hid (((H2.out.drew.ext x.ext).far (p := ⟨w.heap.size, k, none⟩) (Nat.succ_ne_self _) _).ext y.ext)
      have hy3 := Lib.hid (((H3.out.drew.ext x.ext).far (p := ⟨w.heap.size, k, none⟩) (by show w.heap.size + 2 ≠ w.heap.size; omega) _).ext y.ext)
      have hy4 := Lib.hid ((Ext.set (HX.out.drew.trans x.ext) (p := ⟨w.heap.size, k, none⟩) (Nat.le_refl _) _).trans y.ext)
      clear hK c1 c2 cf p1 p2 HS
      go_wp2
      go_roundw
      case rel => exact ⟨k + 1, by go_num, by omega, hy4.out, hy1.out, hy2.out, hy3.out⟩
      case measure => simp [intOf]; omega
    · obtain rfl : k = 4 := by omega
      rw [unionTo_all] at h1
      clear hx h1 h2 h3 hk hlt
      have h1 : Blk wr w.heap.size 29 (wordsL (unionL m n)).toArray := by have := H1.out; rw [unionTo_all] at this; exact this
      have h3 := H3.out
      have U1 := Lib.hid h1
      have U3 := Lib.hid h3
      clear h1 h3
      go_wp2_with (first
        | (refine wpList_load_blk rfl 29 (.tmp 2) rfl rfl U1.out Try.underlying29 rfl (marks_size (unionL_length m n)) ?_)
        | (refine wpList_store_blk rfl 29 (.tmp 4) (.tmp 18) rfl rfl rfl U3.out (by rw [wordsL_size, unionL_length]; rfl) (marks_size (unionL_length m n)) (wordsL_one _) ?_))
      exact bodyPost_ret (results_cell_row rfl _ _ (w.heap.size + 2) _ _ (0, 0) _ rfl (U3.out.setRow _) Try.underlying29 rfl (marks_size (unionL_length m n))) rfl ⟨rfl, Ext.setRow HX.out (Nat.le_add_right _ _) _⟩
end Go.Proofs.Ytjbacmhkmofpkaa
