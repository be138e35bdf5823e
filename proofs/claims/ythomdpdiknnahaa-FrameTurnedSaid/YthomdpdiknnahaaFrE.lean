/- varveref16: get. (Printed by wip/tools/frame1.py.) -/
import Derived.Test.YthomdpdiknnahaaFrD
namespace Go.Proofs.Ythomdpdiknnahaa
set_option linter.unusedVariables false
set_option linter.unusedSimpArgs false
open Go.RowKit
attribute [local go_sem] S_size S_toList S_append S_extract S_beq S_bne S_empty S_nil

attribute [local go_sem] frame_build0 frame_zero frame_build
set_option maxRecDepth 20000 in
set_option maxHeartbeats 8000000 in
theorem rget_any (l : List UInt8) (a : Int) (w : World) (hl : (l.length : Int) ≤ 1000000000) :
    Calls Try.prog 25 #[.agg (tabL theTab).toArray, .string (S l), .int .i64 a] w fun e w' => e = .returned (.tuple #[.agg (f4C (getF l a)).toArray, .int .i64 (getE l a)]) ∧ Ext w w' := by
  have FS := Lib.hid frame_size
  have TS := Lib.hid (tab_size theTab_length)
  have HB := Blk.new (w.alloc (.cells (tabL theTab).toArray 49)) 31 #[.int .i64 0, .string (S []), .int .i64 0, .int .i64 0]
  rw [World.size_alloc] at HB
  have HB := Lib.hid HB
  have X0 := Lib.hid (((Ext.refl w).alloc (.cells (tabL theTab).toArray 49)).alloc (.cells #[.int .i64 0, .string (S []), .int .i64 0, .int .i64 0] 31))
  have HT := Lib.hid ((Blk.new w 49 (tabL theTab).toArray).alloc (.cells #[.int .i64 0, .string (S []), .int .i64 0, .int .i64 0] 31))
  have QO := Lib.hid (fun x w h => rsum_any x w h)
  generalize (tabL theTab).toArray = tb at *
  have hcases := get_firsts l a
  rcases hcases with ⟨he, h1⟩ | ⟨he, h1, h2⟩ | ⟨he, h1, h2, h3⟩ | ⟨he, h1, h2, h3, h4⟩ | ⟨he, h1, h2, h3, h4⟩ | ⟨he, h1, h2, h3, h4, h5⟩ | ⟨he, h1, h2, h3, h4, h5, h6⟩ | ⟨he, h1, h2, h3, h4, h5, h6, h7⟩ | ⟨he, h1, h2, h3, h4, h5, h6, h7⟩
  · rw [f4_zero (by rw [he]; decide), he]
    clear he hl
    go_enter Try.func25, Try.ntmps25
    go_wp2
    exact bodyPost_ret (results_row_tmp rfl _ _ (w.heap.size + 1) _ _ (0, 0) _ rfl HB.out Try.underlying31 rfl FS.out) rfl ⟨rfl, X0.out⟩
  · rw [f4_zero (by rw [he]; decide), he]
    have n1 : ¬ a < 0 := by omega
    clear he hl h1
    go_enter Try.func25, Try.ntmps25
    go_wp2
    exact bodyPost_ret (results_row_tmp rfl _ _ (w.heap.size + 1) _ _ (0, 0) _ rfl HB.out Try.underlying31 rfl FS.out) rfl ⟨rfl, X0.out⟩
  · rw [f4_zero (by rw [he]; decide), he]
    obtain ⟨n, rfl⟩ : ∃ n : Nat, a = (n : Int) := ⟨a.toNat, by omega⟩
    have n1 : ¬ (n : Int) < 0 := by omega
    have n2 : ¬ (l.length : Int) < (n : Int) := by omega
    have e1 : IntKind.i64.wrap ((n : Int) + 5) = (n : Int) + 5 := by rw [IntKind.wrap_i64]; omega
    have h3' : (l.length : Int) < (n : Int) + 5 := by omega
    clear he hl h1 h2 h3
    go_enter Try.func25, Try.ntmps25
    go_wp2
    exact bodyPost_ret (results_row_tmp rfl _ _ (w.heap.size + 1) _ _ (0, 0) _ rfl HB.out Try.underlying31 rfl FS.out) rfl ⟨rfl, X0.out⟩
  · rw [f4_zero (by rw [he]; decide), he]
    obtain ⟨n, rfl⟩ : ∃ n : Nat, a = (n : Int) := ⟨a.toNat, by omega⟩
    have n1 : ¬ (n : Int) < 0 := by omega
    have n2 : ¬ (l.length : Int) < (n : Int) := by omega
    have e1 : IntKind.i64.wrap ((n : Int) + 5) = (n : Int) + 5 := by rw [IntKind.wrap_i64]; omega
    have n3 : ¬ (l.length : Int) < (n : Int) + 5 := by omega
    have hn : n < l.length := by omega
    have hb := byte_get l n (by rw [S_size]; exact hn)
    have hbl := byteAt_lt l n
    have e3 : IntKind.i64.wrap ((byteAt l n : Nat) : Int) = ((byteAt l n : Nat) : Int) := by rw [IntKind.wrap_i64]; omega
    have e2 : IntKind.i64.wrap ((n : Int) + 1) = ((n + 1 : Nat) : Int) := by rw [IntKind.wrap_i64]; omega
    have qu := fun w => rUnfix_any l (n + 1) w (by omega) hl
    have hk5 : (((n + 1 : Nat) : Int) + 4) = (n : Int) + 5 := by omega
    rw [hk5] at qu
    have QU := Lib.hid qu
    clear qu hk5
    simp only [Int.toNat_natCast] at h4
    have k1 : ((byteAt l n : Nat) : Int) < 1 := by omega
    clear he hl h1 h2 h3 h4 hbl
    generalize hbb : byteAt l n = bn at *
    clear hbb
    go_enter Try.func25, Try.ntmps25
    go_wp2
    exact bodyPost_ret (results_row_tmp rfl _ _ (w.heap.size + 1) _ _ (0, 0) _ rfl HB.out Try.underlying31 rfl FS.out) rfl ⟨rfl, X0.out⟩
  · rw [f4_zero (by rw [he]; decide), he]
    obtain ⟨n, rfl⟩ : ∃ n : Nat, a = (n : Int) := ⟨a.toNat, by omega⟩
    have n1 : ¬ (n : Int) < 0 := by omega
    have n2 : ¬ (l.length : Int) < (n : Int) := by omega
    have e1 : IntKind.i64.wrap ((n : Int) + 5) = (n : Int) + 5 := by rw [IntKind.wrap_i64]; omega
    have n3 : ¬ (l.length : Int) < (n : Int) + 5 := by omega
    have hn : n < l.length := by omega
    have hb := byte_get l n (by rw [S_size]; exact hn)
    have hbl := byteAt_lt l n
    have e3 : IntKind.i64.wrap ((byteAt l n : Nat) : Int) = ((byteAt l n : Nat) : Int) := by rw [IntKind.wrap_i64]; omega
    have e2 : IntKind.i64.wrap ((n : Int) + 1) = ((n + 1 : Nat) : Int) := by rw [IntKind.wrap_i64]; omega
    have qu := fun w => rUnfix_any l (n + 1) w (by omega) hl
    have hk5 : (((n + 1 : Nat) : Int) + 4) = (n : Int) + 5 := by omega
    rw [hk5] at qu
    have QU := Lib.hid qu
    clear qu hk5
    simp only [Int.toNat_natCast] at h4
    have k1 : ¬ ((byteAt l n : Nat) : Int) < 1 := by omega
    have k2 : (4 : Int) < ((byteAt l n : Nat) : Int) := by omega
    clear he hl h1 h2 h3 h4 hbl
    generalize hbb : byteAt l n = bn at *
    clear hbb
    go_enter Try.func25, Try.ntmps25
    go_wp2
    exact bodyPost_ret (results_row_tmp rfl _ _ (w.heap.size + 1) _ _ (0, 0) _ rfl HB.out Try.underlying31 rfl FS.out) rfl ⟨rfl, X0.out⟩
  · rw [f4_zero (by rw [he]; decide), he]
    obtain ⟨n, rfl⟩ : ∃ n : Nat, a = (n : Int) := ⟨a.toNat, by omega⟩
    have n1 : ¬ (n : Int) < 0 := by omega
    have n2 : ¬ (l.length : Int) < (n : Int) := by omega
    have e1 : IntKind.i64.wrap ((n : Int) + 5) = (n : Int) + 5 := by rw [IntKind.wrap_i64]; omega
    have n3 : ¬ (l.length : Int) < (n : Int) + 5 := by omega
    have hn : n < l.length := by omega
    have hb := byte_get l n (by rw [S_size]; exact hn)
    have hbl := byteAt_lt l n
    have e3 : IntKind.i64.wrap ((byteAt l n : Nat) : Int) = ((byteAt l n : Nat) : Int) := by rw [IntKind.wrap_i64]; omega
    have e2 : IntKind.i64.wrap ((n : Int) + 1) = ((n + 1 : Nat) : Int) := by rw [IntKind.wrap_i64]; omega
    have qu := fun w => rUnfix_any l (n + 1) w (by omega) hl
    have hk5 : (((n + 1 : Nat) : Int) + 4) = (n : Int) + 5 := by omega
    rw [hk5] at qu
    have QU := Lib.hid qu
    clear qu hk5
    have hbd : bodyN l (n : Int) = un4 l (n + 1) := by unfold bodyN; rw [Int.toNat_natCast]
    simp only [Int.toNat_natCast] at h4
    have k1 : ¬ ((byteAt l n : Nat) : Int) < 1 := by omega
    have k2 : ¬ (4 : Int) < ((byteAt l n : Nat) : Int) := by omega
    rw [hbd] at h5
    have k5 : (60000 : Int) < ((un4 l (n + 1) : Nat) : Int) := by omega
    clear he hl h1 h2 h3 h4 h5 hbl hbd
    generalize un4 l (n + 1) = k at *
    generalize hbb : byteAt l n = bn at *
    clear hbb
    go_enter Try.func25, Try.ntmps25
    go_wp2_with fail
    refine (QU.out _).mono ?_
    rintro _ _ ⟨rfl, rfl⟩
    go_wp2
    exact bodyPost_ret (results_row_tmp rfl _ _ (w.heap.size + 1) _ _ (0, 0) _ rfl HB.out Try.underlying31 rfl FS.out) rfl ⟨rfl, X0.out⟩
  · rw [f4_zero (by rw [he]; decide), he]
    obtain ⟨n, rfl⟩ : ∃ n : Nat, a = (n : Int) := ⟨a.toNat, by omega⟩
    have n1 : ¬ (n : Int) < 0 := by omega
    have n2 : ¬ (l.length : Int) < (n : Int) := by omega
    have e1 : IntKind.i64.wrap ((n : Int) + 5) = (n : Int) + 5 := by rw [IntKind.wrap_i64]; omega
    have n3 : ¬ (l.length : Int) < (n : Int) + 5 := by omega
    have hn : n < l.length := by omega
    have hb := byte_get l n (by rw [S_size]; exact hn)
    have hbl := byteAt_lt l n
    have e3 : IntKind.i64.wrap ((byteAt l n : Nat) : Int) = ((byteAt l n : Nat) : Int) := by rw [IntKind.wrap_i64]; omega
    have e2 : IntKind.i64.wrap ((n : Int) + 1) = ((n + 1 : Nat) : Int) := by rw [IntKind.wrap_i64]; omega
    have qu := fun w => rUnfix_any l (n + 1) w (by omega) hl
    have hk5 : (((n + 1 : Nat) : Int) + 4) = (n : Int) + 5 := by omega
    rw [hk5] at qu
    have QU := Lib.hid qu
    clear qu hk5
    have hbd : bodyN l (n : Int) = un4 l (n + 1) := by unfold bodyN; rw [Int.toNat_natCast]
    simp only [Int.toNat_natCast] at h4
    have k1 : ¬ ((byteAt l n : Nat) : Int) < 1 := by omega
    have k2 : ¬ (4 : Int) < ((byteAt l n : Nat) : Int) := by omega
    rw [hbd] at h5 h6
    have k5 : ¬ (60000 : Int) < ((un4 l (n + 1) : Nat) : Int) := by omega
    have e4 : IntKind.i64.wrap ((n : Int) + 9) = (n : Int) + 9 := by rw [IntKind.wrap_i64]; omega
    have e5 : IntKind.i64.wrap ((n : Int) + 9 + ((un4 l (n + 1) : Nat) : Int)) = (n : Int) + 9 + ((un4 l (n + 1) : Nat) : Int) := by rw [IntKind.wrap_i64]; omega
    have k6 : (l.length : Int) < (n : Int) + 9 + ((un4 l (n + 1) : Nat) : Int) := by omega
    clear he hl h1 h2 h3 h4 h5 h6 hbl hbd
    generalize un4 l (n + 1) = k at *
    generalize hbb : byteAt l n = bn at *
    clear hbb
    go_enter Try.func25, Try.ntmps25
    go_wp2_with fail
    refine (QU.out _).mono ?_
    rintro _ _ ⟨rfl, rfl⟩
    go_wp2
    exact bodyPost_ret (results_row_tmp rfl _ _ (w.heap.size + 1) _ _ (0, 0) _ rfl HB.out Try.underlying31 rfl FS.out) rfl ⟨rfl, X0.out⟩
  · rw [f4_zero (by rw [he]; decide), he]
    obtain ⟨n, rfl⟩ : ∃ n : Nat, a = (n : Int) := ⟨a.toNat, by omega⟩
    have n1 : ¬ (n : Int) < 0 := by omega
    have n2 : ¬ (l.length : Int) < (n : Int) := by omega
    have e1 : IntKind.i64.wrap ((n : Int) + 5) = (n : Int) + 5 := by rw [IntKind.wrap_i64]; omega
    have n3 : ¬ (l.length : Int) < (n : Int) + 5 := by omega
    have hn : n < l.length := by omega
    have hb := byte_get l n (by rw [S_size]; exact hn)
    have hbl := byteAt_lt l n
    have e3 : IntKind.i64.wrap ((byteAt l n : Nat) : Int) = ((byteAt l n : Nat) : Int) := by rw [IntKind.wrap_i64]; omega
    have e2 : IntKind.i64.wrap ((n : Int) + 1) = ((n + 1 : Nat) : Int) := by rw [IntKind.wrap_i64]; omega
    have qu := fun w => rUnfix_any l (n + 1) w (by omega) hl
    have hk5 : (((n + 1 : Nat) : Int) + 4) = (n : Int) + 5 := by omega
    rw [hk5] at qu
    have QU := Lib.hid qu
    clear qu hk5
    have hbd : bodyN l (n : Int) = un4 l (n + 1) := by unfold bodyN; rw [Int.toNat_natCast]
    simp only [Int.toNat_natCast] at h4
    have k1 : ¬ ((byteAt l n : Nat) : Int) < 1 := by omega
    have k2 : ¬ (4 : Int) < ((byteAt l n : Nat) : Int) := by omega
    rw [hbd] at h5 h6
    have k5 : ¬ (60000 : Int) < ((un4 l (n + 1) : Nat) : Int) := by omega
    have e4 : IntKind.i64.wrap ((n : Int) + 9) = (n : Int) + 9 := by rw [IntKind.wrap_i64]; omega
    have e5 : IntKind.i64.wrap ((n : Int) + 9 + ((un4 l (n + 1) : Nat) : Int)) = (n : Int) + 9 + ((un4 l (n + 1) : Nat) : Int) := by rw [IntKind.wrap_i64]; omega
    have k6 : ¬ (l.length : Int) < (n : Int) + 9 + ((un4 l (n + 1) : Nat) : Int) := by omega
    have hen : endN l (n : Int) = n + 5 + un4 l (n + 1) := by unfold endN; rw [hbd, Int.toNat_natCast]
    have hso : sumOk l (n : Int) = decide (sumN ((l.take (n + 5 + un4 l (n + 1))).drop n) = un4 l (n + 5 + un4 l (n + 1))) := by unfold sumOk; rw [hen, Int.toNat_natCast]
    rw [hso] at h7
    have e6 : IntKind.i64.wrap ((n : Int) + 5 + ((un4 l (n + 1) : Nat) : Int)) = ((n + 5 + un4 l (n + 1) : Nat) : Int) := by rw [IntKind.wrap_i64]; omega
    obtain ⟨en, hend⟩ : ∃ en, en = n + 5 + un4 l (n + 1) := ⟨_, rfl⟩
    rw [← hend] at e6 h7
    try rw [← hend]
    have ee1 : (n : Int) ≤ (en : Int) := by omega
    have ee2 : (en : Int) ≤ (l.length : Int) := by omega
    have ee3 : (n : Int) + 5 ≤ (en : Int) := by omega
    have e8 : IntKind.i64.wrap ((en : Int) + 4) = (en : Int) + 4 := by rw [IntKind.wrap_i64]; omega
    have ee4 : (en : Int) + 4 ≤ (l.length : Int) := by omega
    have ee5 : (en : Int) ≤ (en : Int) + 4 := by omega
    have ee6 : (0 : Int) ≤ (n : Int) + 5 := by omega
    have ee7 : ((n : Int) + 5).toNat = n + 5 := by omega
    have ee8 : (0 : Int) ≤ (en : Int) + 4 := by omega
    have ee9 : ((en : Int) + 4).toNat = en + 4 := by omega
    have hsl := sumN_lt ((l.take en).drop n)
    have e7 : IntKind.i64.wrap ((sumN ((l.take en).drop n) : Nat) : Int) = ((sumN ((l.take en).drop n) : Nat) : Int) := by rw [IntKind.wrap_i64]; omega
    have QO := Lib.hid (fun w => QO.out ((l.take en).drop n) w (by rw [List.length_drop, List.length_take]; omega))
    have hfi := fix4_iff (l := l) (e := en) (n := sumN ((l.take en).drop n)) (by omega) (sumN_lt _)
    have h7 := of_decide_eq_false h7
    have h7' : (fix4 (sumN ((l.take en).drop n)) == (l.take (en + 4)).drop en) = false := by
      rw [beq_eq_false_iff_ne]
      exact fun hh => h7 (hfi.1 hh)
    clear he hl h1 h2 h3 h4 h5 h6 h7 hbl hbd hso hen hend hsl hfi e7
    generalize un4 l (n + 1) = k at *
    generalize fix4 (sumN ((l.take en).drop n)) = x at *
    generalize hbb : byteAt l n = bn at *
    clear hbb
    go_enter Try.func25, Try.ntmps25
    go_wp2_with fail
    refine (QU.out _).mono ?_
    rintro _ _ ⟨rfl, rfl⟩
    go_wp2_with fail
    refine wp_region_up (by kernel_rfl) (by kernel_rfl) ?_
    refine wpQuiet_load_blk (by kernel_rfl) 49 (.tmp 3) rfl rfl HT.out Try.underlying49 rfl TS.out ?_
    dsimp only [Act.put]
    simp only [List.setIfInBounds_toArray, List.set_cons_succ, List.set_cons_zero]
    repeat (go_big_quiet_step (first | (go_at_call 22; (with_reducible exact up_call (QO.out _))) | fail))
    refine wpQuiet_nil ?_
    rintro _ ⟨z, rfl⟩
    have HB := Lib.hid (HB.out.ext z.ext)
    have X1 := Lib.hid (X0.out.trans z.ext)
    go_wp2_with (refine wpList_store_blk rfl 31 (.tmp 6) (.tmp 73) rfl rfl rfl HB.out rfl FS.out (by kernel_rfl) ?_)
    exact bodyPost_ret (results_row_tmp rfl _ _ (w.heap.size + 1) _ _ (0, 0) _ rfl (HB.out.setRow #[.int .i64 0, .string (S []), .int .i64 0, .int .i64 0]) Try.underlying31 rfl FS.out) rfl ⟨rfl, X1.out.setRow (by omega) _⟩
  · obtain ⟨n, rfl⟩ : ∃ n : Nat, a = (n : Int) := ⟨a.toNat, by omega⟩
    have n1 : ¬ (n : Int) < 0 := by omega
    have n2 : ¬ (l.length : Int) < (n : Int) := by omega
    have e1 : IntKind.i64.wrap ((n : Int) + 5) = (n : Int) + 5 := by rw [IntKind.wrap_i64]; omega
    have n3 : ¬ (l.length : Int) < (n : Int) + 5 := by omega
    have hn : n < l.length := by omega
    have hb := byte_get l n (by rw [S_size]; exact hn)
    have hbl := byteAt_lt l n
    have e3 : IntKind.i64.wrap ((byteAt l n : Nat) : Int) = ((byteAt l n : Nat) : Int) := by rw [IntKind.wrap_i64]; omega
    have e2 : IntKind.i64.wrap ((n : Int) + 1) = ((n + 1 : Nat) : Int) := by rw [IntKind.wrap_i64]; omega
    have qu := fun w => rUnfix_any l (n + 1) w (by omega) hl
    have hk5 : (((n + 1 : Nat) : Int) + 4) = (n : Int) + 5 := by omega
    rw [hk5] at qu
    have QU := Lib.hid qu
    clear qu hk5
    have hbd : bodyN l (n : Int) = un4 l (n + 1) := by unfold bodyN; rw [Int.toNat_natCast]
    simp only [Int.toNat_natCast] at h4
    have k1 : ¬ ((byteAt l n : Nat) : Int) < 1 := by omega
    have k2 : ¬ (4 : Int) < ((byteAt l n : Nat) : Int) := by omega
    rw [hbd] at h5 h6
    have k5 : ¬ (60000 : Int) < ((un4 l (n + 1) : Nat) : Int) := by omega
    have e4 : IntKind.i64.wrap ((n : Int) + 9) = (n : Int) + 9 := by rw [IntKind.wrap_i64]; omega
    have e5 : IntKind.i64.wrap ((n : Int) + 9 + ((un4 l (n + 1) : Nat) : Int)) = (n : Int) + 9 + ((un4 l (n + 1) : Nat) : Int) := by rw [IntKind.wrap_i64]; omega
    have k6 : ¬ (l.length : Int) < (n : Int) + 9 + ((un4 l (n + 1) : Nat) : Int) := by omega
    have hen : endN l (n : Int) = n + 5 + un4 l (n + 1) := by unfold endN; rw [hbd, Int.toNat_natCast]
    have hso : sumOk l (n : Int) = decide (sumN ((l.take (n + 5 + un4 l (n + 1))).drop n) = un4 l (n + 5 + un4 l (n + 1))) := by unfold sumOk; rw [hen, Int.toNat_natCast]
    rw [f4_yes he, he, hen, Int.toNat_natCast]
    rw [hso] at h7
    have e6 : IntKind.i64.wrap ((n : Int) + 5 + ((un4 l (n + 1) : Nat) : Int)) = ((n + 5 + un4 l (n + 1) : Nat) : Int) := by rw [IntKind.wrap_i64]; omega
    obtain ⟨en, hend⟩ : ∃ en, en = n + 5 + un4 l (n + 1) := ⟨_, rfl⟩
    rw [← hend] at e6 h7
    try rw [← hend]
    have ee1 : (n : Int) ≤ (en : Int) := by omega
    have ee2 : (en : Int) ≤ (l.length : Int) := by omega
    have ee3 : (n : Int) + 5 ≤ (en : Int) := by omega
    have e8 : IntKind.i64.wrap ((en : Int) + 4) = (en : Int) + 4 := by rw [IntKind.wrap_i64]; omega
    have ee4 : (en : Int) + 4 ≤ (l.length : Int) := by omega
    have ee5 : (en : Int) ≤ (en : Int) + 4 := by omega
    have ee6 : (0 : Int) ≤ (n : Int) + 5 := by omega
    have ee7 : ((n : Int) + 5).toNat = n + 5 := by omega
    have ee8 : (0 : Int) ≤ (en : Int) + 4 := by omega
    have ee9 : ((en : Int) + 4).toNat = en + 4 := by omega
    have hsl := sumN_lt ((l.take en).drop n)
    have e7 : IntKind.i64.wrap ((sumN ((l.take en).drop n) : Nat) : Int) = ((sumN ((l.take en).drop n) : Nat) : Int) := by rw [IntKind.wrap_i64]; omega
    have QO := Lib.hid (fun w => QO.out ((l.take en).drop n) w (by rw [List.length_drop, List.length_take]; omega))
    have hfi := fix4_iff (l := l) (e := en) (n := sumN ((l.take en).drop n)) (by omega) (sumN_lt _)
    have h7 := of_decide_eq_true h7
    have h7' : (fix4 (sumN ((l.take en).drop n)) == (l.take (en + 4)).drop en) = true := by
      rw [beq_iff_eq]
      exact hfi.2 h7
    clear he hl h1 h2 h3 h4 h5 h6 h7 hbl hbd hso hen hend hsl hfi e7
    generalize un4 l (n + 1) = k at *
    generalize fix4 (sumN ((l.take en).drop n)) = x at *
    generalize hbb : byteAt l n = bn at *
    clear hbb
    go_enter Try.func25, Try.ntmps25
    go_wp2_with fail
    refine (QU.out _).mono ?_
    rintro _ _ ⟨rfl, rfl⟩
    go_wp2_with fail
    refine wp_region_up (by kernel_rfl) (by kernel_rfl) ?_
    refine wpQuiet_load_blk (by kernel_rfl) 49 (.tmp 3) rfl rfl HT.out Try.underlying49 rfl TS.out ?_
    dsimp only [Act.put]
    simp only [List.setIfInBounds_toArray, List.set_cons_succ, List.set_cons_zero]
    repeat (go_big_quiet_step (first | (go_at_call 22; (with_reducible exact up_call (QO.out _))) | fail))
    refine wpQuiet_nil ?_
    rintro _ ⟨z, rfl⟩
    have HB := Lib.hid (HB.out.ext (z.ext.trans (Ext.refl _).drew))
    have X1 := Lib.hid (X0.out.trans (z.ext.trans (Ext.refl _).drew))
    go_wp2_with fail
    refine wp_region_lex _ rfl (by kernel_rfl) ?_
    dsimp only [List.length_cons, List.length_nil]
    iterate 13
      (refine lex_want (by kernel_rfl) (by kernel_rfl) (by kernel_rfl) (by kernel_rfl) (fun _ _ _ _ h => h) (by kernel_rfl) (fun K hK => ?_)
       go_simp
       (refine hK _ ?_; clear hK K))
    refine lex_tail (by kernel_rfl) (by kernel_rfl) (by kernel_rfl) (by kernel_rfl) (fun x K hK => ?_)
    refine wp_store_blk 31 (.tmp 6) (.tmp 86) rfl rfl rfl (HB.out.ext x.ext) rfl FS.out (by kernel_rfl) (hK _ _ ?_)
    clear hK K
    (refine lex_want (by kernel_rfl) (by kernel_rfl) (by kernel_rfl) (by kernel_rfl) (fun _ _ _ _ h => h) (by kernel_rfl) (fun K hK => ?_)
     go_simp
     (refine hK _ ?_; clear hK K))
    refine lex_done (by kernel_rfl) (fun y => ?_)
    go_wp2
    exact bodyPost_ret (results_row_tmp rfl _ _ (w.heap.size + 1) _ _ (0, 0) _ rfl (((HB.out.ext x.ext).setRow #[.int .i64 (bn : Int), .string (S ((l.take en).drop (n + 5))), .int .i64 (n : Int), .int .i64 ((en : Int) + 4)]).ext y.ext) Try.underlying31 rfl FS.out) rfl ⟨rfl, (((X1.out.trans x.ext).setRow (by omega) _).trans y.ext)⟩
end Go.Proofs.Ythomdpdiknnahaa
