/- gram: Put. -/
import Derived.Test.YtjbacmhkmofpkaaGramG
import Derived.Test.YtjbacmhkmofpkaaGramQ
import Derived.Test.YtjbacmhkmofpkaaBytes
namespace Go.Proofs.Ytjbacmhkmofpkaa
set_option linter.unusedVariables false
set_option linter.unusedSimpArgs false
open Go.RowKit
attribute [local go_sem] S_size S_toList S_append S_extract S_beq S_bne S_empty S_nil

theorem make032 (w : World) : (Instr.makeSlice 66 (.int .i64 0) (.int .i64 32)).run Try.prog w = .ok (.slice (some ⟨w.heap.size, 0, none⟩) 0 32) (w.alloc (.cells (madeCells #[.int .u8 0] 32) 5)) := by kernel_rfl

set_option maxRecDepth 20000 in
set_option maxHeartbeats 2000000 in
theorem put_any (m : W4) (w : World) :
    Calls Try.prog 21 #[MV m.1] w fun e w' => e = .returned (.string (S (putL m))) ∧ Ext w w' := by
  unfold MV
  have b1 := Lib.hid (Blk.new w 29 (wordsL m.1).toArray)
  have b2 := Lib.hid (BW.make0 (w.alloc (.cells (wordsL m.1).toArray 29)) 32 (by omega))
  have hmk := make032
  go_enter Try.func21, Try.ntmps21
  go_wp2_with (first
    | (refine wpList_load_blk rfl 29 (.tmp 1) rfl rfl (b1.out.alloc _) Try.underlying29 rfl (marks_size m.2) ?_))
  clear hmk
  go_loopw [8, 3] (fun i v wr => ∃ k : Nat, i = .int .i64 k ∧ k ≤ 4 ∧ Ext w wr ∧ w.heap.size + 1 ≤ wr.heap.size ∧ BW wr (w.heap.size + 1) v (putTo m.1 k)) (fun i _ _ => 4 - (intOf i).toNat)
  case atStart =>
    refine ⟨0, rfl, by omega, ((Ext.refl _).alloc _).alloc _, ?_, ?_⟩
    · rw [World.size_alloc, World.size_alloc]; omega
    · have := b2.out; rw [World.size_alloc] at this; exact this
  case round =>
    obtain ⟨k, rfl, hk, hx, hz, hb⟩ := hrel
    have HX := Lib.hid hx
    have HZ := Lib.hid hz
    have HB := Lib.hid hb
    clear hx hz hb
    by_cases hlt : k < 4
    · have hs := putTo_succ m.1 k (by rw [m.2]; exact hlt)
      have hln := putTo_length m.1 (k + 1) m.2
      have hix := run_index_marks m k hlt
      have hk4 : (k : Int) < 4 := by omega
      generalize m.1.getD k 0 = x at *
      generalize (wordsL m.1).toArray = cs at *
      rw [hs] at hln
      have HS := Lib.hid hs
      have HL := Lib.hid hln
      clear hs hln
      rw [← shifted_zero x] at hix
      go_wp2_with fail
      go_loopw [11, 3, 5] (fun i v x' wq => ∃ j : Nat, i = .int .i64 j ∧ j ≤ 8 ∧ x' = .int .u64 (U64 (shifted x j)) ∧ Ext w wq ∧ w.heap.size + 1 ≤ wq.heap.size ∧ BW wq (w.heap.size + 1) v (putTo m.1 k ++ bytesW x j)) (fun i _ _ _ => 8 - (intOf i).toNat)
      case atStart => exact ⟨0, rfl, by omega, rfl, HX.out, HZ.out, by rw [show bytesW x 0 = [] from rfl, List.append_nil]; exact HB.out⟩
      case round =>
        obtain ⟨j, rfl, hj, rfl, hx, hz, hb⟩ := hrel
        have GX := Lib.hid hx
        have GZ := Lib.hid hz
        have GB := Lib.hid hb
        clear hx hz hb
        by_cases hjt : j < 8
        · have hj8 : (j : Int) < 8 := by omega
          have hlen : (putTo m.1 k ++ bytesW x j).length ≤ 100 := by
            have h1 := HL.out
            rw [List.length_append] at h1 ⊢
            have h2 : (bytesW x 8).length = 8 := by simp [bytesW]
            have h3 : (bytesW x j).length = j := by simp [bytesW]
            omega
          obtain ⟨v', w', hrun, hm', hb', hk'⟩ := GB.out.app GZ.out (byteAt x j) (by omega)
          have F1 := Lib.hid (Below.trans GX.out (Below.mono hb' (Nat.le_succ _)) : Ext w w')
          have F2 := Lib.hid (Nat.le_trans GZ.out hb'.size)
          have F3 := Lib.hid hm'
          have e1 : IntKind.u8.wrap (U64 (shifted x j)) = U8 (byteAt x j) := by
            unfold U64 U8; rw [IntKind.wrap_u8, byteAt_nat]; omega
          have e2 : U64 (shifted x j) / 256 = U64 (shifted x (j + 1)) := by
            unfold U64; rw [shifted_succ]; omega
          have e3 := Lib.hid (bytesW_succ x j)
          clear hm' hb' hk' hlen
          generalize byteAt x j = b at *
          generalize hp : putTo m.1 k ++ bytesW x j = l at *
          have HP := Lib.hid hp
          clear hp
          go_wp2_with (at_builtin; refine wpList_app rfl (.tmp 13) (.tmp 16) 66 rfl rfl rfl rfl hrun ?_)
          go_roundw
          case rel =>
            refine ⟨j + 1, by go_num, by omega, rfl, F1.out, F2.out, ?_⟩
            rw [e3.out, ← List.append_assoc, HP.out]; exact F3.out
          case measure => simp [intOf]; omega
        · obtain rfl : j = 8 := by omega
          have GB := Lib.hid (show BW wr _ _ (putTo m.1 (k + 1)) by rw [HS.out]; exact GB.out)
          go_wp2_with fail
          go_roundw
          case rel => exact ⟨k + 1, by go_num, by omega, GX.out, GZ.out, GB.out⟩
          case measure => simp [intOf]; omega
    · obtain rfl : k = 4 := by omega
      rw [putTo_all] at HB
      have hcv := HB.out.str (by rw [putL_length]; omega)
      go_wp2
      go_ret
      exact ⟨rfl, HX.out⟩
end Go.Proofs.Ytjbacmhkmofpkaa
