/- gram: Get. -/
import Derived.Test.YtjbacmhkmofpkaaGramH
import Derived.Test.YtjbacmhkmofpkaaRets
namespace Go.Proofs.Ytjbacmhkmofpkaa
set_option linter.unusedVariables false
set_option linter.unusedSimpArgs false
open Go.RowKit
attribute [local go_sem] S_size S_toList S_append S_extract S_beq S_bne S_empty S_nil u64_or64

theorem marks_build (w : World) : (Instr.build 29 #[]).run Try.prog w = .ok (.agg (wordsL emptyL).toArray) w := by kernel_rfl

set_option maxRecDepth 20000 in
set_option maxHeartbeats 2000000 in
theorem get_arg (s : List UInt8) (i : Int) (w : World) (hi : i < 0 ∨ (s.length : Int) < i) (hl : (s.length : Int) ≤ 1000000000) :
    Calls Try.prog 19 #[.string (S s), .int .i64 i] w fun e w' => e = .returned (.tuple #[MV emptyL, .int .i64 0, .int .i64 2]) ∧ Ext w w' := by
  have b1 := Lib.hid (Blk.new w 29 #[.int .u64 0, .int .u64 0, .int .u64 0, .int .u64 0])
  have hbd := marks_build
  unfold MV
  by_cases h0 : i < 0
  · go_enter Try.func19, Try.ntmps19
    go_wp2
    exact bodyPost_ret (results_row_tmp2 rfl _ _ w.heap.size _ _ (0, 0) _ rfl b1.out Try.underlying29 rfl (marks_size (m := emptyL) rfl)) rfl ⟨rfl, (Ext.refl w).alloc _⟩
  · have h1 : (s.length : Int) < i := by omega
    go_enter Try.func19, Try.ntmps19
    go_wp2
    exact bodyPost_ret (results_row_tmp2 rfl _ _ w.heap.size _ _ (0, 0) _ rfl b1.out Try.underlying29 rfl (marks_size (m := emptyL) rfl)) rfl ⟨rfl, (Ext.refl w).alloc _⟩
set_option maxRecDepth 20000 in
set_option maxHeartbeats 2000000 in
theorem get_short (s : List UInt8) (a : Nat) (w : World) (ha : a ≤ s.length) (hi : s.length < a + 32) (hl : (s.length : Int) ≤ 1000000000) :
    Calls Try.prog 19 #[.string (S s), .int .i64 a] w fun e w' => e = .returned (.tuple #[MV emptyL, .int .i64 0, .int .i64 4]) ∧ Ext w w' := by
  have b1 := Lib.hid (Blk.new w 29 #[.int .u64 0, .int .u64 0, .int .u64 0, .int .u64 0])
  have hbd := marks_build
  unfold MV
  have h0 : ¬ (a : Int) < 0 := by omega
  have h1 : ¬ (s.length : Int) < a := by omega
  have h2 : (s.length : Int) - a < 32 := by omega
  go_enter Try.func19, Try.ntmps19
  go_wp2
  exact bodyPost_ret (results_row_tmp2 rfl _ _ w.heap.size _ _ (0, 0) _ rfl b1.out Try.underlying29 rfl (marks_size (m := emptyL) rfl)) rfl ⟨rfl, (Ext.refl w).alloc _⟩

theorem getW_blk {w : World} {g : Nat} {t : TypeId} (l : List UInt8) (h : Blk w g t (wordsL (getN l 32)).toArray) : Blk w g t (wordsL (getW l).1).toArray := by
  simp only [getW]; exact h
theorem shl8 (x : UInt64) : IntKind.u64.wrap (U64 x * 256) = U64 (x <<< 8) := by
  unfold U64
  rw [IntKind.wrap_u64, UInt64.toNat_shiftLeft, show ((8 : UInt64).toNat % 64) = 8 from rfl, Nat.shiftLeft_eq]
  omega
theorem u64_of8 (b : UInt8) : IntKind.u64.wrap (U8 b) = U64 (u64of b) := by
  have := b.toNat_lt
  unfold U8 U64 u64of; rw [UInt64.toNat_ofNat', IntKind.wrap_u64]; omega
attribute [local go_sem] shl8 u64_of8

set_option maxRecDepth 20000 in
set_option maxHeartbeats 2000000 in
theorem get_ok (s : List UInt8) (a : Nat) (w : World) (ha : a + 32 ≤ s.length) (hl : (s.length : Int) ≤ 1000000000) :
    Calls Try.prog 19 #[.string (S s), .int .i64 a] w fun e w' => e = .returned (.tuple #[MV (getW ((s.drop a).take 32)).1, .int .i64 ((a : Int) + 32), .int .i64 0]) ∧ Ext w w' := by
  have b1 := Lib.hid (Blk.new w 29 (wordsL (getN ((s.drop a).take 32) 0)).toArray)
  unfold MV
  have h0 : ¬ (a : Int) < 0 := by omega
  have h1 : ¬ (s.length : Int) < a := by omega
  have h2 : ¬ (s.length : Int) - a < 32 := by omega
  have h3 : IntKind.i64.wrap ((a : Int) + 32) = (a : Int) + 32 := by rw [IntKind.wrap_i64]; omega
  go_enter Try.func19, Try.ntmps19
  go_wp2_with fail
  go_loopw [7] (fun i wr => ∃ n : Nat, i = .int .i64 (31 - (n : Int)) ∧ n ≤ 32 ∧ Ext w wr ∧ Blk wr w.heap.size 29 (wordsL (getN ((s.drop a).take 32) n)).toArray) (fun i _ => (intOf i + 1).toNat)
  case atStart => exact ⟨0, rfl, by omega, (Ext.refl _).alloc _, b1.out⟩
  case round =>
    obtain ⟨n, rfl, hn, hx, hb⟩ := hrel
    have HX := Lib.hid hx
    have HB := Lib.hid hb
    by_cases hlt : n < 32
    · have hb0 := hb
      have cf := fun x : Up wr.drew => (hb0.drew.ext x.ext).frozen ((31 - n) / 8)
      have c1 := up_cell (show wr.drew.cell? ⟨w.heap.size, (31 - n) / 8, none⟩ = some (.int .u64 (U64 ((getN ((s.drop a).take 32) n).getD ((31 - n) / 8) 0))) from (hb0.drew.cell _).trans (wordsL_get _ _ (by rw [getN_length]; omega)))
      have HS := Lib.hid (fun x : Up wr.drew => by
        have := (hb0.drew.ext x.ext).set_ ((31 - n) / 8) (.int .u64 (U64 ((getN ((s.drop a).take 32) n).getD ((31 - n) / 8) 0 <<< 8 ||| u64of (((s.drop a).take 32).getD (31 - n) 0))))
        rw [wordsL_set] at this; exact this)
      have hg : getN ((s.drop a).take 32) (n + 1) = (getN ((s.drop a).take 32) n).set ((31 - n) / 8) ((getN ((s.drop a).take 32) n).getD ((31 - n) / 8) 0 <<< 8 ||| u64of (((s.drop a).take 32).getD (31 - n) 0)) := rfl
      rw [← hg] at HS
      have HG := Lib.hid (getN_length ((s.drop a).take 32) (n + 1))
      have hix : ∀ w, (Instr.index 9 (.string (S s)) (.int .i64 ((a : Int) + (31 - (n : Int))))).run Try.prog w = .ok (.int .u8 (U8 (((s.drop a).take 32).getD (31 - n) 0))) w := fun w => by
        rw [show (a : Int) + (31 - (n : Int)) = ((a + (31 - n) : Nat) : Int) by omega]
        refine index_S s (a + (31 - n)) (by omega) _ ?_ w
        rw [List.getD_eq_getElem?_getD, List.getD_eq_getElem?_getD, List.getElem?_take, if_pos (by omega), List.getElem?_drop]
      clear hb hb0 hx hg
      have e1 : IntKind.i64.wrap ((31 - (n : Int)).tdiv 8) = (((31 - n) / 8 : Nat) : Int) := by rw [Int.tdiv_eq_ediv_of_nonneg (by omega), IntKind.wrap_i64]; omega
      have e2 : IntKind.i64.wrap ((a : Int) + (31 - (n : Int))) = (a : Int) + (31 - (n : Int)) := by rw [IntKind.wrap_i64]; omega
      have e3 : 0 ≤ 31 - (n : Int) := by omega
      have e4 : (((31 - n) / 8 : Nat) : Int) < 4 := by omega
      have e5 : IntKind.i64.wrap (31 - (n : Int) - 1) = 31 - ((n + 1 : Nat) : Int) := by rw [IntKind.wrap_i64]; omega
      generalize hI : 31 - (n : Int) = I at *
      have HI := Lib.hid hI
      have e6 := Lib.hid e5
      clear hI e5
      generalize (31 - n) / 8 = q at *
      generalize (getN ((s.drop a).take 32) n).getD q 0 = x at *
      generalize ((s.drop a).take 32).getD (31 - n) 0 = b at *
      generalize hm' : getN ((s.drop a).take 32) (n + 1) = m' at *
      have HM := Lib.hid hm'
      clear hm'
      go_wp2_with fail
      refine wp_region_lex _ rfl (by kernel_rfl) ?_
      dsimp only [List.length_cons, List.length_nil]
      repeat (first
        | (refine lex_want (by kernel_rfl) (by kernel_rfl) (by kernel_rfl) (by kernel_rfl) (fun _ _ _ _ h => h) (by kernel_rfl) (fun K hK => ?_)
           go_simp
           (refine hK _ ?_; clear hK K)))
      refine lex_last (by kernel_rfl) (by kernel_rfl) (by kernel_rfl) (by kernel_rfl) (by kernel_rfl) (fun x K hK => ?_)
      have p1 := c1 x
      have p2 := cf x
      go_simp
      refine hK _ _ (fun y => ?_)
      have hy1 := Lib.hid ((HS.out x).ext y.ext)
      have hy4 := Lib.hid ((Ext.set (HX.out.drew.trans x.ext) (p := ⟨w.heap.size, q, none⟩) (Nat.le_refl _) _).trans y.ext)
      clear hK c1 cf p1 p2 HS
      have e6 := e6.out
      go_wp2
      go_roundw
      case rel => exact ⟨n + 1, by first | rfl | go_num, by omega, hy4.out, by rw [HM.out]; exact hy1.out⟩
      case measure => simp [intOf]; have := HI.out; omega
    · obtain rfl : n = 32 := by omega
      have HB := Lib.hid (getW_blk _ HB.out)
      generalize hm : getW ((s.drop a).take 32) = m at *
      clear hb hx
      go_wp2_with (first
        | (refine wpList_load_blk rfl 29 (.tmp 4) rfl rfl HB.out Try.underlying29 rfl (marks_size m.2) ?_)
        | (refine wpList_store_blk rfl 29 (.tmp 4) (.tmp 44) rfl rfl rfl HB.out rfl (marks_size m.2) (wordsL_one _) ?_))
      exact bodyPost_ret (results_row_tmp2 rfl _ _ w.heap.size _ _ (0, 0) _ rfl (HB.out.setRow _) Try.underlying29 rfl (marks_size m.2)) rfl ⟨hm ▸ rfl, Ext.setRow HX.out (Nat.le_refl _) _⟩
end Go.Proofs.Ytjbacmhkmofpkaa
