/- gram, the document's answer: Get, where there are bytes enough. -/
import Derived.Test.YtjbacmhkmofpkaaGramU
namespace Go.Proofs.Ytjbacmhkmofpkaa
set_option linter.unusedVariables false
set_option linter.unusedSimpArgs false
open Go.RowKit
attribute [local go_sem] S_size S_toList S_append S_extract S_beq S_bne zero256_run zero256_ne

set_option maxRecDepth 20000 in
set_option maxHeartbeats 2000000 in
theorem rget_ok (s : List UInt8) (a : Nat) (w : World) (ha : a + 32 ≤ s.length) (hl : (s.length : Int) ≤ 1000000000) :
    Calls Try.prog 20 #[.string (S s), .int .i64 a] w fun e w' => e = .returned (.tuple #[BV (getB s a), .int .i64 ((a : Int) + 32), .int .i64 0]) ∧ Ext w w' := by
  have b1 : Blk ((w.alloc (.cells zero256 27)).alloc (.cells zero256 27)) w.heap.size 27 (boolsV noneB).toArray := (Blk.new w _ _).alloc _
  have b2 : Blk ((w.alloc (.cells zero256 27)).alloc (.cells zero256 27)) (w.heap.size + 1) 27 (boolsV (fillTo (bitAt s a) (fun _ => false) 0)).toArray := by
    have := Blk.new (w.alloc (.cells zero256 27)) 27 zero256
    rw [World.size_alloc] at this
    rw [fillTo_none, ← bools_zero]
    exact this
  have B1 := Lib.hid b1
  have B2 := Lib.hid b2
  clear b1 b2
  unfold BV
  have h0 : ¬ (a : Int) < 0 := by omega
  have h1 : ¬ (s.length : Int) < a := by omega
  have h2 : IntKind.i64.wrap ((a : Int) + 32) = (a : Int) + 32 := by rw [IntKind.wrap_i64]; omega
  have h3 : ¬ (s.length : Int) < (a : Int) + 32 := by omega
  go_enter Try.func20, Try.ntmps20
  go_wp2_with fail
  go_loopw [8] (fun i wr => ∃ k : Nat, i = .int .i64 k ∧ k ≤ 256 ∧ Ext w wr ∧ Blk wr w.heap.size 27 (boolsV noneB).toArray ∧ Blk wr (w.heap.size + 1) 27 (boolsV (fillTo (bitAt s a) (fun _ => false) k)).toArray) (fun i _ => 256 - (intOf i).toNat)
  case atStart => exact ⟨0, rfl, by omega, ((Ext.refl _).alloc _).alloc _, B1.out, B2.out⟩
  case round =>
    obtain ⟨k, rfl, hk, hx, hb1, hb2⟩ := hrel
    have HX := Lib.hid hx
    have H1 := Lib.hid hb1
    have H2 := Lib.hid hb2
    by_cases hlt : k < 256
    · have cf := hb2.frozen k
      have cc : wr.cell? ⟨w.heap.size + 1, k, none⟩ = some (.bool ((fillTo (bitAt s a) (fun _ => false) k).getD k false)) := (hb2.cell _).trans (boolsV_get _ _ (by rw [fillTo_length]; omega))
      have e0 : IntKind.i64.wrap ((k : Int).tdiv 8) = ((k / 8 : Nat) : Int) := by rw [Int.tdiv_eq_ediv_of_nonneg (by omega), IntKind.wrap_i64]; omega
      have e1 : IntKind.i64.wrap ((k : Int) / 8) = ((k / 8 : Nat) : Int) := by rw [IntKind.wrap_i64]; omega
      have e2' : (k : Int) % 8 = ((k % 8 : Nat) : Int) := by omega
      have e2 : (k : Int).tmod 8 = ((k % 8 : Nat) : Int) := by rw [Int.tmod_eq_emod_of_nonneg (by omega)]; omega
      have e3 : IntKind.i64.wrap ((a : Int) + ((k / 8 : Nat) : Int)) = ((a : Int) + ((k / 8 : Nat) : Int)) := by rw [IntKind.wrap_i64]; omega
      have e4 : ((k % 8 : Nat) : Int) < 8 := by omega
      have e5 : (k : Int) < 256 := by omega
      have hix : ∀ w, (Instr.index 9 (.string (S s)) (.int .i64 ((a : Int) + ((k / 8 : Nat) : Int)))).run Try.prog w = .ok (.int .u8 (U8 (s.getD (a + k / 8) 0))) w := fun w => by
        rw [show (a : Int) + ((k / 8 : Nat) : Int) = ((a + k / 8 : Nat) : Int) by omega]
        exact index_S s _ (by omega) _ rfl w
      have hb3 : ((U8 (s.getD (a + k / 8) 0) / 2 ^ (k % 8)) % 2 == 1) = bitAt s a k := bit_int8 _ _
      have hb4 : ((U8 (s.getD (a + k / 8) 0) / 2 ^ (k % 8)).tmod 2 == 1) = bitAt s a k := by rw [← hb3, Int.tmod_eq_emod_of_nonneg (Int.ediv_nonneg (U8_nonneg _) (Int.pow_nonneg (by decide)))]
      have HS := Lib.hid (hb2.set_ k (.bool (bitAt s a k)))
      have H1' := Lib.hid (hb1.far (p := ⟨w.heap.size + 1, k, none⟩) (by show w.heap.size ≠ w.heap.size + 1; omega) (.bool (bitAt s a k)))
      have HX' := Lib.hid (hx.set (p := ⟨w.heap.size + 1, k, none⟩) (Nat.le_succ _) (.bool (bitAt s a k)))
      rw [boolsV_set, fillTo_set] at HS
      clear hx hb1 hb2
      generalize bitAt s a k = y at *
      generalize s.getD (a + k / 8) 0 = x at *
      generalize k / 8 = q at *
      generalize k % 8 = r at *
      go_wp2_with fail
      go_roundw
      case rel => exact ⟨k + 1, by go_num, by omega, HX'.out, H1'.out, HS.out⟩
      case measure => simp [intOf]; omega
    · obtain rfl : k = 256 := by omega
      rw [fillTo_all] at H2
      have hz : (getB s a).length = 256 := getB_length s a
      have H2 : Hid (Blk wr (w.heap.size + 1) 27 (boolsV (getB s a)).toArray) := H2
      generalize hbl : getB s a = bl at *
      have HBL := Lib.hid hbl
      clear hbl
      clear hx hb1 hb2
      go_wp2_with (first
        | (refine wpList_load_blk rfl 27 (.tmp 7) rfl rfl H2.out Try.underlying27 rfl (bools_size hz) ?_)
        | (refine wpList_store_blk rfl 27 (.tmp 4) (.tmp 42) rfl rfl rfl H1.out (by rw [boolsV_size, boolsV_size, hz, noneB_length]) (bools_size hz) (boolsV_one _) ?_))
      exact bodyPost_ret (results_row_tmp2 rfl _ _ w.heap.size _ _ (0, 0) _ rfl (H1.out.setRow _) Try.underlying27 rfl (bools_size hz)) rfl ⟨by rw [HBL.out]; rfl, Ext.setRow HX.out (Nat.le_refl _) _⟩
end Go.Proofs.Ytjbacmhkmofpkaa
