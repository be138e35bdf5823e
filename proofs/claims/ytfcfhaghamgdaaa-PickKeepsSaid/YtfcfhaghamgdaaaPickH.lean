/- varvelaw27: conf, three. -/
import Derived.Test.YtfcfhaghamgdaaaEntF
import Derived.Test.YtfcfhaghamgdaaaPickB
namespace Go.Proofs.Ytfcfhaghamgdaaa
set_option linter.unusedVariables false
set_option linter.unusedSimpArgs false
open Go.RowKit

theorem conf_build (w : World) : (Instr.build 23 #[(0, .int .i64 100), (1, .int .i64 400), (2, .int .i64 1000), (3, .int .i64 50), (4, .int .i64 2)]).run Try.prog w = .ok (.agg #[.int .i64 100, .int .i64 400, .int .i64 1000, .int .i64 50, .int .i64 2, .int .i64 0, .int .i64 0]) w := by kernel_rfl
attribute [local go_sem] conf_build
set_option maxRecDepth 20000 in
set_option maxHeartbeats 2000000 in
theorem conf27_any (w : World) : Calls Try.prog 21 #[] w fun e w' => e = .returned (.agg #[.int .i64 100, .int .i64 400, .int .i64 1000, .int .i64 50, .int .i64 2, .int .i64 0, .int .i64 0]) ∧ Ext w w' := by
  have HZ := Lib.hid conf_size
  go_enter Try.func21, Try.ntmps21
  go_wp2
  exact bodyPost_ret (results_cell_row rfl _ _ w.heap.size _ _ (0, 0) _ rfl (Blk.new w _ _) Try.underlying23 rfl HZ.out) rfl ⟨rfl, (Ext.refl w).alloc _⟩

theorem head_build (id fst : Int) (w : World) : (Instr.build 49 #[(0, .int .i64 id), (1, .int .i64 1), (2, .int .i64 fst)]).run Try.prog w = .ok (.agg #[.int .i64 id, .int .i64 1, .int .i64 fst]) w := by kernel_rfl
theorem sent_build (id fst i : Int) (w : World) : (Instr.build 51 #[(0, .agg #[.int .i64 id, .int .i64 1, .int .i64 fst]), (1, .bool true), (2, .int .i64 10), (3, .int .i64 1), (4, .int .i64 i), (5, .int .i64 i), (6, .int .i64 100)]).run Try.prog w = .ok (.agg #[.int .i64 id, .int .i64 1, .int .i64 fst, .bool true, .int .i64 10, .int .i64 1, .int .i64 i, .int .i64 i, .int .i64 100]) w := by kernel_rfl
attribute [local go_sem] head_build sent_build ent_build
def ent3 (k : Nat) : E9 := ⟨(k : Int) + 1, 1, 10 * (k : Int) + 1, true, 10, 1, (k : Int), (k : Int), 100⟩
def threeL : List E9 := (List.range 3).map ent3 ++ [⟨4, 1, 31, false, 0, 0, 0, 0, 0⟩]
set_option maxRecDepth 20000 in
set_option maxHeartbeats 4000000 in
theorem three_any (w : World) : Calls Try.prog 22 #[] w fun e w' => ∃ v', e = .returned v' ∧ Ext w w' ∧ EW w' w.heap.size v' threeL := by
  go_enter Try.func22, Try.ntmps22
  go_wp2
  go_loopw [2, 1] (fun i v wr => ∃ k : Nat, i = .int .i64 (k : Int) ∧ k ≤ 3 ∧ Ext w wr ∧ EW wr w.heap.size v ((List.range k).map ent3)) (fun i _ _ => 3 - (intOf i).toNat)
  case atStart => exact ⟨0, rfl, by omega, Ext.refl _, WR.nil _ _ _⟩
  case round =>
    obtain ⟨k, rfl, hk, hx, h2⟩ := hrel
    have HX := Lib.hid hx
    have H2 := Lib.hid h2
    clear hx h2
    have hB : w.heap.size ≤ wr.heap.size := HX.out.le
    have hL : ((List.range k).map ent3).length ≤ 1000000 := by simp; omega
    by_cases hlt : k < 3
    · have hI : (k : Int) < 3 := by omega
      have e1 : IntKind.i64.wrap ((k : Int) + 1) = (k : Int) + 1 := by rw [IntKind.wrap_i64]; omega
      have e2 : IntKind.i64.wrap (10 * (k : Int)) = 10 * (k : Int) := by rw [IntKind.wrap_i64]; omega
      have e3 : IntKind.i64.wrap (10 * (k : Int) + 1) = 10 * (k : Int) + 1 := by rw [IntKind.wrap_i64]; omega
      obtain ⟨v', w', p1, p2, p3, _⟩ := EW.app H2.out hB (ent3 k) hL
      have P2 := Lib.hid p2
      have P3 := Lib.hid (show Ext w w' from Below.trans HX.out p3)
      clear p2 p3 hB hL
      generalize hy : List.map ent3 (List.range k) = ys at *
      have HY := Lib.hid hy
      clear hy
      go_wp2_with (first
        | (refine wpList_bs (vs := #[(0, .agg #[.int .i64 ((k : Int) + 1), .int .i64 1, .int .i64 (10 * (k : Int) + 1), .bool true, .int .i64 10, .int .i64 1, .int .i64 (k : Int), .int .i64 (k : Int), .int .i64 100])]) rfl 24 1 _ rfl rfl (run_bs1e _ _ _ _ _ _ _ _ _ _) ?_)
        | (at_builtin; refine wpList_app rfl (.tmp 7) (.tmp 17) 24 rfl rfl rfl rfl p1 ?_))
      go_roundw
      case rel =>
        refine ⟨k + 1, by go_num, by omega, P3.out, ?_⟩
        rw [List.range_succ, List.map_append, HY.out]
        exact P2.out
      case measure => simp [intOf]; omega
    · obtain rfl : k = 3 := by omega
      obtain ⟨v', w', p1, p2, p3, _⟩ := EW.app H2.out hB ⟨4, 1, 31, false, 0, 0, 0, 0, 0⟩ hL
      have P2 := Lib.hid p2
      have P3 := Lib.hid (show Ext w w' from Below.trans HX.out p3)
      clear p2 p3 hB hL H2
      go_wp2_with (first
        | (refine wpList_bs (vs := #[(0, .agg #[.int .i64 4, .int .i64 1, .int .i64 31, .bool false, .int .i64 0, .int .i64 0, .int .i64 0, .int .i64 0, .int .i64 0])]) rfl 24 1 _ rfl rfl (run_bs1e _ _ _ _ _ _ _ _ _ _) ?_)
        | (at_builtin; refine wpList_app rfl (.tmp 19) (.tmp 22) 24 rfl rfl rfl rfl p1 ?_))
      go_ret
      exact ⟨_, rfl, P3.out, P2.out⟩
end Go.Proofs.Ytfcfhaghamgdaaa
