/- kmp: ref's All, Has, Fail, Walk. -/
import Derived.Test.YtojebaplpfebdaaKmpC
namespace Go.Proofs.Ytojebaplpfebdaa
set_option linter.unusedVariables false
set_option linter.unusedSimpArgs false
open Go.RowKit
attribute [local go_sem] S_size S_toList S_append S_extract S_beq S_bne S_empty S_nil u8_beq

theorem rhas_any (s what : List UInt8) (w : World) (hs : (s.length : Int) ≤ 1000000000) (hw : (what.length : Int) ≤ 1000000000) :
    Calls Try.prog 15 #[.string (S s), .string (S what)] w fun e w' => e = .returned (.bool (findL s what 0).isSome) ∧ w = w' := by
  have q := rfind_any s what 0 w hs hw
  rw [show (max (0 : Int) 0).toNat = 0 from rfl] at q
  cases hf : findL s what 0 with
  | none =>
    rw [hf] at q
    have q := Lib.hid q
    go_enter Try.func15, Try.ntmps15
    go_wp2_with fail
    refine q.out.mono ?_
    rintro e w' ⟨rfl, rfl⟩
    simp only [placeV]
    go_wp2
    go_ret
    exact ⟨rfl, rfl⟩
  | some p =>
    rw [hf] at q
    have q := Lib.hid q
    go_enter Try.func15, Try.ntmps15
    go_wp2_with fail
    refine q.out.mono ?_
    rintro e w' ⟨rfl, rfl⟩
    simp only [placeV]
    go_wp2
    go_ret
    exact ⟨rfl, rfl⟩

/-- all places ahead of k -/
def placesTo (s what : List UInt8) (k : Nat) : List Int := ((List.range k).filter (atL s what)).map fun (p : Nat) => (p : Int)
/-- all places -/
def placesL (s what : List UInt8) : List Int := placesTo s what (s.length + 1)
theorem placesTo_hit {s what : List UInt8} {k : Nat} (h : atL s what k = true) : placesTo s what (k + 1) = placesTo s what k ++ [(k : Int)] := by
  unfold placesTo; rw [List.range_succ, List.filter_append, List.map_append, List.filter_cons_of_pos h]; rfl
theorem placesTo_miss {s what : List UInt8} {k : Nat} (h : atL s what k = false) : placesTo s what (k + 1) = placesTo s what k := by
  unfold placesTo; rw [List.range_succ, List.filter_append, List.map_append, List.filter_cons_of_neg (by rw [h]; exact Bool.false_ne_true)]; simp
theorem placesTo_length (s what : List UInt8) (k : Nat) : (placesTo s what k).length ≤ k := by
  unfold placesTo; rw [List.length_map]; exact Nat.le_trans (List.length_filter_le _ _) (by simp)

set_option maxRecDepth 20000 in
set_option maxHeartbeats 2000000 in
theorem rall_any (s what : List UInt8) (w : World) (hs : (s.length : Int) ≤ 100000000) (hw : (what.length : Int) ≤ 1000000000) :
    Calls Try.prog 13 #[.string (S s), .string (S what)] w fun e w' => ∃ v, e = .returned v ∧ Ext w w' ∧ IW w' w.heap.size v (placesL s what) := by
  go_enter Try.func13, Try.ntmps13
  go_wp2
  go_loopw [5, 6] (fun v i wr => ∃ k : Nat, i = .int .i64 k ∧ k ≤ s.length + 1 ∧ Ext w wr ∧ IW wr w.heap.size v (placesTo s what k)) (fun _ i _ => s.length + 1 - (intOf i).toNat)
  case atStart => exact ⟨0, rfl, Nat.zero_le _, Ext.refl _, IW.nil _ _⟩
  case round =>
    obtain ⟨k, rfl, hkl, hx, hiw⟩ := hrel
    by_cases hk : k ≤ s.length
    · have hsb : (s.length : Int) ≤ 1000000000 := by omega
      have q := Lib.hid (at_any s what k wr hsb hw hk)
      have hX := Lib.hid hx
      have hI := Lib.hid hiw
      have hK := Lib.hid hk
      have hk2 : (k : Int) ≤ (s.length : Int) := by omega
      cases ha : atL s what k with
      | true =>
        have hp := Lib.hid (placesTo_hit ha)
        rw [ha] at q
        obtain ⟨v', w', hrun, hiw', hb, _⟩ := hiw.app hx.le (k : Int) (by have := placesTo_length s what k; omega)
        have hI' := Lib.hid hiw'
        have hX' := Lib.hid (Below.trans hx hb)
        clear ha hiw hx hkl hk hiw' hb hw hsb
        go_wp2_with fail
        refine q.out.mono ?_
        rintro e w2 ⟨rfl, rfl⟩
        go_wp2_with (at_builtin; refine wpList_app rfl (.tmp 17) (.tmp 19) 26 rfl rfl rfl rfl hrun ?_)
        go_roundw
        case rel => exact ⟨k + 1, by go_num, by have := hK.out; omega, hX'.out, by rw [hp.out]; exact hI'.out⟩
        case measure => have := hK.out; simp [intOf]; omega
      | false =>
        have hp := Lib.hid (placesTo_miss ha)
        rw [ha] at q
        clear ha hiw hx hkl hk hw hsb
        go_wp2_with fail
        refine q.out.mono ?_
        rintro e w2 ⟨rfl, rfl⟩
        go_wp2
        go_roundw
        case rel => exact ⟨k + 1, by go_num, by have := hK.out; omega, hX.out, by rw [hp.out]; exact hI.out⟩
        case measure => have := hK.out; simp [intOf]; omega
    · obtain rfl : k = s.length + 1 := by omega
      have hX := Lib.hid hx
      have hI := Lib.hid hiw
      have hk2 : ¬ (s.length : Int) + 1 ≤ (s.length : Int) := by omega
      clear hk hkl hx hiw
      go_wp2
      go_ret
      exact ⟨_, rfl, hX.out, hI.out⟩

theorem failTo_take_succ (what : List UInt8) (k : Nat) : ((List.range (k + 1)).map fun i => (failL what i : Int)) = ((List.range k).map fun i => (failL what i : Int)) ++ [(failL what k : Int)] := by
  rw [List.range_succ, List.map_append]; rfl
theorem ovGo_hit {what t : List UInt8} {k : Nat} (h : k + 1 ≤ what.length) (he : (what.take (k + 1) == t.drop (t.length - (k + 1))) = true) : ovGo what t (k + 1) = k + 1 := by
  unfold ovGo; rw [if_pos ⟨h, beq_iff_eq.1 he⟩]
theorem ovGo_miss {what t : List UInt8} {k : Nat} (he : (what.take (k + 1) == t.drop (t.length - (k + 1))) = false) : ovGo what t (k + 1) = ovGo what t k := by
  rw [ovGo, if_neg (fun h => by rw [h.2, beq_self_eq_true] at he; cases he)]
theorem ovGo_long {what t : List UInt8} {k : Nat} (h : what.length < k + 1) : ovGo what t (k + 1) = ovGo what t k := by
  rw [ovGo, if_neg (fun h' => by omega)]

set_option maxRecDepth 20000 in
set_option maxHeartbeats 2000000 in
theorem rfail_any (what : List UInt8) (w : World) (hw : (what.length : Int) ≤ 100000000) :
    Calls Try.prog 17 #[.string (S what)] w fun e w' => ∃ v, e = .returned v ∧ Ext w w' ∧ IW w' w.heap.size v (failsL what) := by
  go_enter Try.func17, Try.ntmps17
  go_wp2
  go_loopw [3, 4] (fun v i wr => ∃ k : Nat, i = .int .i64 k ∧ k ≤ what.length ∧ Ext w wr ∧ IW wr w.heap.size v ((List.range k).map fun i => (failL what i : Int))) (fun _ i _ => what.length - (intOf i).toNat)
  case atStart => exact ⟨0, rfl, Nat.zero_le _, Ext.refl _, IW.nil _ _⟩
  case round =>
    rename_i v0
    obtain ⟨i, rfl, hil, hx, hiw⟩ := hrel
    by_cases hi : i < what.length
    · have hi2 : (i : Int) < (what.length : Int) := by omega
      have hX := Lib.hid hx
      have hI := Lib.hid hiw
      have hF := Lib.hid (show failL what i = ovGo what (what.take (i + 1)) i from rfl)
      have htl : (what.take (i + 1)).length = i + 1 := by rw [List.length_take]; omega
      have hTL := Lib.hid htl
      clear hx hiw hil htl
      go_wp2
      go_loopw [5] (fun k wi => ∃ K : Nat, k = .int .i64 K ∧ K ≤ i ∧ Ext wr wi ∧ ovGo what (what.take (i + 1)) K = failL what i) (fun k _ => (intOf k).toNat)
      case atStart => exact ⟨i, rfl, Nat.le_refl _, Ext.refl _, rfl⟩
      case round =>
        obtain ⟨K, rfl, hK, hxi, hov⟩ := hrel
        have hXI := Lib.hid hxi
        clear hxi
        cases K with
        | zero =>
          have hov2 := Lib.hid (show 0 = failL what i from hov)
          have hj0 : ((0 : Nat) : Int) = 0 := rfl
          clear hov
          go_wp2_with fail
          refine wp_region_up (by kernel_rfl) (by kernel_rfl) ?_
          repeat (go_big_quiet_step (fail))
          refine wpQuiet_nil ?_
          rintro _ ⟨z, rfl⟩
          have hz := hXI.out.trans z.ext
          have hiz := hI.out.ext hz
          have hzw := hX.out.trans hz
          obtain ⟨v', w', hrun, hiw', hb', _⟩ := hiz.app hzw.le 0 (by simp; omega)
          have hI' := Lib.hid hiw'
          have hX' := Lib.hid (Below.trans hzw hb')
          clear hiz hiw' hb' hz hzw
          go_wp2_with (at_builtin; refine wpList_app rfl (.tmp 31) (.tmp 33) 26 rfl rfl rfl rfl hrun ?_)
          go_roundw
          case rel => exact ⟨i + 1, by go_num, by omega, hX'.out, by rw [failTo_take_succ, ← hov2.out]; exact hI'.out⟩
          case measure => simp [intOf]; omega
        | succ j =>
          have hd : i - j = i + 1 - (j + 1) := by omega
          have hjw : j + 1 ≤ what.length := by omega
          have hdi : i - j ≤ i + 1 := by omega
          cases hb : (what.take (j + 1) == (what.take (i + 1)).drop (i - j)) with
          | true =>
            have hov2 := Lib.hid ((ovGo_hit hjw (by rw [hTL.out, ← hd]; exact hb)).symm.trans hov)
            clear hov hd
            go_wp2_with fail
            refine wp_region_up (by kernel_rfl) (by kernel_rfl) ?_
            repeat (go_big_quiet_step (fail))
            refine wpQuiet_nil ?_
            rintro _ ⟨z, rfl⟩
            have hz := hXI.out.trans z.ext
            have hiz := hI.out.ext hz
            have hzw := hX.out.trans hz
            obtain ⟨v', w', hrun, hiw', hb', _⟩ := hiz.app hzw.le ((j : Int) + 1) (by simp; omega)
            have hI' := Lib.hid hiw'
            have hX' := Lib.hid (Below.trans hzw hb')
            clear hiz hiw' hb' hz hzw
            go_wp2_with (at_builtin; refine wpList_app rfl (.tmp 31) (.tmp 33) 26 rfl rfl rfl rfl hrun ?_)
            go_roundw
            case rel => exact ⟨i + 1, by go_num, by omega, hX'.out, by rw [failTo_take_succ, ← hov2.out]; exact hI'.out⟩
            case measure => simp [intOf]; omega
          | false =>
            have hov2 := Lib.hid ((ovGo_miss (by rw [hTL.out, ← hd]; exact hb)).symm.trans hov)
            clear hov hd
            go_wp2_with fail
            refine wp_region_up (by kernel_rfl) (by kernel_rfl) ?_
            repeat (go_big_quiet_step (fail))
            refine wpQuiet_nil ?_
            rintro _ ⟨z, rfl⟩
            go_wp2
            go_roundw
            case rel => exact ⟨j, by go_num, by omega, hXI.out.trans z.ext, hov2.out⟩
            case measure => first | (simp [intOf]; done) | (simp [intOf]; omega)
    · obtain rfl : i = what.length := by omega
      have hX := Lib.hid hx
      have hI := Lib.hid hiw
      clear hx hiw hi hil
      go_wp2
      go_ret
      exact ⟨_, rfl, hX.out, hI.out⟩

theorem conv_one (w : World) (g : Nat) (b : UInt8) (h : w.cell? ⟨g, 0, none⟩ = some (.int .u8 (U8 b))) :
    (convert 37 9 (.slice (some ⟨g, 0, none⟩) 1 1)).run Try.prog w = .ok (.string (S [b])) w := by
  rw [run_convert_bytes_arg w _ 5 Try.underlying37 Try.underlying5 g 0 1 1 [U8 b] rfl ?_ _ Try.underlying9]
  · congr 2
    simp only [strOfNums, S, List.map_cons, List.map_nil]
    congr 2
    simp only [List.cons.injEq, and_true]
    show UInt8.ofNat (B8 b) = b
    apply UInt8.toNat_inj.1
    unfold B8; rw [UInt8.toNat_ofNat']; have := b.toNat_lt; omega
  · intro i hi
    obtain rfl : i = 0 := by omega
    rw [h]; rfl

set_option maxRecDepth 20000 in
set_option maxHeartbeats 4000000 in
theorem rwalk_any (what : List UInt8) (state : Int) (b : UInt8) (w : World) (hw : (what.length : Int) ≤ 100000000) :
    Calls Try.prog 19 #[.string (S what), .int .i64 state, .int .u8 (U8 b)] w fun e w' => e = .returned (.int .i64 (walkL what state b)) ∧ Ext w w' := by
  obtain ⟨n, hk⟩ : ∃ n, n = clampL what state := ⟨_, rfl⟩
  unfold walkL
  rw [← hk]
  have hkl : n ≤ what.length := by unfold clampL at hk; omega
  have hc : (state < 0 ∧ n = 0) ∨ (¬ state < 0 ∧ (what.length : Int) < state ∧ n = what.length) ∨ (¬ state < 0 ∧ ¬ (what.length : Int) < state ∧ state = (n : Int)) := by unfold clampL at hk; omega
  clear hk
  have hcat := run_cat (P := Try.prog) (what.take n) [b] (by simp; omega)
  obtain ⟨T, hT⟩ : ∃ T, T = what.take n ++ [b] := ⟨_, rfl⟩
  have hTL := Lib.hid (show T.length = n + 1 by rw [hT]; simp; omega)
  have hTl2 : T.length = n + 1 := hTL.out
  have hTt : T.take (n + 1) = T := List.take_of_length_le (by omega)
  obtain ⟨r, hr⟩ : ∃ r, ov what T = r := ⟨_, rfl⟩
  have hov : ovGo what T (n + 1) = r := by rw [← hr, ov, hTL.out]
  rw [← hT] at hcat ⊢
  rw [hr]
  clear hr hT
  rcases hc with ⟨c1, rfl⟩ | ⟨c1, c2, rfl⟩ | ⟨c1, c2, rfl⟩
  · rw [List.take_zero] at hcat
    go_enter Try.func19, Try.ntmps19
    go_wp2_with fail
    refine wp_region_lex _ rfl (by kernel_rfl) ?_
    dsimp only [List.length_cons, List.length_nil]
    iterate 4 ((refine lex_want (by kernel_rfl) (by kernel_rfl) (by kernel_rfl) (by kernel_rfl) (fun _ _ _ _ h => h) (by kernel_rfl) (fun K hK => ?_)); go_simp; (refine hK _ ?_; clear hK K))
    refine lex_only (by kernel_rfl) (by kernel_rfl) (fun x K hK => ?_)
    go_simp
    refine hK.out _ _ ((Ext.refl _).alloc _) ?_
    clear hK K
    have hcv := fun y : Up (x.val.alloc (.cells #[.int .u8 (U8 b)] 5)) => conv_one y.val x.val.heap.size b (up_cell (W := x.val.alloc (.cells #[.int .u8 (U8 b)] 5)) (by simp) y)
    iterate 3 ((refine lex_want (by kernel_rfl) (by kernel_rfl) (by kernel_rfl) (by kernel_rfl) (fun _ _ _ _ h => h) (by kernel_rfl) (fun K hK => ?_)); go_simp; (refine hK _ ?_; clear hK K))
    refine lex_done (by kernel_rfl) (fun y => ?_)
    have hy : Ext w y.val := (((Ext.refl w).drew.trans x.ext).alloc _).trans y.ext
    have hY := Lib.hid hy
    generalize y.val = w1 at hY
    clear hy hcat hcv
    go_wp2
    go_loopw [8] (fun k wr => ∃ K : Nat, k = .int .i64 K ∧ K ≤ 0 + 1 ∧ Ext w wr ∧ ovGo what T K = r) (fun k _ => (intOf k).toNat)
    case atStart => exact ⟨0 + 1, by first | rfl | go_num, Nat.le_refl _, hY.out, hov⟩
    case round =>
      obtain ⟨K, rfl, hK, hxi, hov⟩ := hrel
      have hXI := Lib.hid hxi
      clear hxi
      cases K with
      | zero =>
        have hov2 := Lib.hid (show 0 = r from hov)
        clear hov
        go_wp2_with fail
        refine wp_region_up (by kernel_rfl) (by kernel_rfl) ?_
        repeat (go_big_quiet_step (fail))
        refine wpQuiet_nil ?_
        rintro _ ⟨z, rfl⟩
        go_wp2
        go_ret
        exact ⟨by rw [← hov2.out]; rfl, hXI.out.trans z.ext⟩
      | succ j =>
        by_cases hlong : (what.length : Int) < (j : Int) + 1
        · have hov2 := Lib.hid ((ovGo_long (by omega)).symm.trans hov)
          clear hov
          go_wp2_with fail
          refine wp_region_up (by kernel_rfl) (by kernel_rfl) ?_
          repeat (go_big_quiet_step (fail))
          refine wpQuiet_nil ?_
          rintro _ ⟨z, rfl⟩
          go_wp2
          go_roundw
          case rel => exact ⟨j, by go_num, by omega, hXI.out.trans z.ext, hov2.out⟩
          case measure => first | (simp [intOf]; done) | (simp [intOf]; omega)
        · have hjw : j + 1 ≤ what.length := by omega
          have hd : 0 - j = 0 + 1 - (j + 1) := by omega
          cases hb : (what.take (j + 1) == T) with
          | true =>
            have hov2 := Lib.hid ((ovGo_hit hjw (by rw [hTL.out, ← hd, Nat.zero_sub, List.drop_zero]; exact hb)).symm.trans hov)
            clear hov hd
            go_wp2_with fail
            have hl2 : ¬ (what.length : Int) < (j : Int) + 1 := by omega
            have hl3 : ¬ what.length < j + 1 := by omega
            refine wp_region_up (by kernel_rfl) (by kernel_rfl) ?_
            repeat (go_big_quiet_step (fail))
            refine wpQuiet_nil ?_
            rintro _ ⟨z, rfl⟩
            go_wp2
            go_ret
            exact ⟨by rw [← hov2.out]; rfl, hXI.out.trans z.ext⟩
          | false =>
            have hov2 := Lib.hid ((ovGo_miss (by rw [hTL.out, ← hd, Nat.zero_sub, List.drop_zero]; exact hb)).symm.trans hov)
            clear hov hd
            go_wp2_with fail
            have hl2 : ¬ (what.length : Int) < (j : Int) + 1 := by omega
            have hl3 : ¬ what.length < j + 1 := by omega
            refine wp_region_up (by kernel_rfl) (by kernel_rfl) ?_
            repeat (go_big_quiet_step (fail))
            refine wpQuiet_nil ?_
            rintro _ ⟨z, rfl⟩
            go_wp2
            go_roundw
            case rel => exact ⟨j, by go_num, by omega, hXI.out.trans z.ext, hov2.out⟩
            case measure => first | (simp [intOf]; done) | (simp [intOf]; omega)
  · rw [List.take_length] at hcat
    clear hkl
    go_enter Try.func19, Try.ntmps19
    go_wp2_with fail
    refine wp_region_lex _ rfl (by kernel_rfl) ?_
    dsimp only [List.length_cons, List.length_nil]
    iterate 4 ((refine lex_want (by kernel_rfl) (by kernel_rfl) (by kernel_rfl) (by kernel_rfl) (fun _ _ _ _ h => h) (by kernel_rfl) (fun K hK => ?_)); go_simp; (refine hK _ ?_; clear hK K))
    refine lex_only (by kernel_rfl) (by kernel_rfl) (fun x K hK => ?_)
    go_simp
    refine hK.out _ _ ((Ext.refl _).alloc _) ?_
    clear hK K
    have hcv := fun y : Up (x.val.alloc (.cells #[.int .u8 (U8 b)] 5)) => conv_one y.val x.val.heap.size b (up_cell (W := x.val.alloc (.cells #[.int .u8 (U8 b)] 5)) (by simp) y)
    iterate 3 ((refine lex_want (by kernel_rfl) (by kernel_rfl) (by kernel_rfl) (by kernel_rfl) (fun _ _ _ _ h => h) (by kernel_rfl) (fun K hK => ?_)); go_simp; (refine hK _ ?_; clear hK K))
    refine lex_done (by kernel_rfl) (fun y => ?_)
    have hy : Ext w y.val := (((Ext.refl w).drew.trans x.ext).alloc _).trans y.ext
    have hY := Lib.hid hy
    generalize y.val = w1 at hY
    clear hy hcat hcv
    go_wp2
    go_loopw [8] (fun k wr => ∃ K : Nat, k = .int .i64 K ∧ K ≤ what.length + 1 ∧ Ext w wr ∧ ovGo what T K = r) (fun k _ => (intOf k).toNat)
    case atStart => exact ⟨what.length + 1, by first | rfl | go_num, Nat.le_refl _, hY.out, hov⟩
    case round =>
      obtain ⟨K, rfl, hK, hxi, hov⟩ := hrel
      have hXI := Lib.hid hxi
      clear hxi
      cases K with
      | zero =>
        have hov2 := Lib.hid (show 0 = r from hov)
        clear hov
        go_wp2_with fail
        refine wp_region_up (by kernel_rfl) (by kernel_rfl) ?_
        repeat (go_big_quiet_step (fail))
        refine wpQuiet_nil ?_
        rintro _ ⟨z, rfl⟩
        go_wp2
        go_ret
        exact ⟨by rw [← hov2.out]; rfl, hXI.out.trans z.ext⟩
      | succ j =>
        by_cases hlong : (what.length : Int) < (j : Int) + 1
        · have hov2 := Lib.hid ((ovGo_long (by omega)).symm.trans hov)
          clear hov
          go_wp2_with fail
          refine wp_region_up (by kernel_rfl) (by kernel_rfl) ?_
          repeat (go_big_quiet_step (fail))
          refine wpQuiet_nil ?_
          rintro _ ⟨z, rfl⟩
          go_wp2
          go_roundw
          case rel => exact ⟨j, by go_num, by omega, hXI.out.trans z.ext, hov2.out⟩
          case measure => first | (simp [intOf]; done) | (simp [intOf]; omega)
        · have hjw : j + 1 ≤ what.length := by omega
          have hd : what.length - j = what.length + 1 - (j + 1) := by omega
          cases hb : (what.take (j + 1) == T.drop (what.length - j)) with
          | true =>
            have hov2 := Lib.hid ((ovGo_hit hjw (by rw [hTL.out, ← hd]; exact hb)).symm.trans hov)
            clear hov hd
            go_wp2_with fail
            have hl2 : ¬ (what.length : Int) < (j : Int) + 1 := by omega
            have hl3 : ¬ what.length < j + 1 := by omega
            refine wp_region_up (by kernel_rfl) (by kernel_rfl) ?_
            repeat (go_big_quiet_step (fail))
            refine wpQuiet_nil ?_
            rintro _ ⟨z, rfl⟩
            go_wp2
            go_ret
            exact ⟨by rw [← hov2.out]; rfl, hXI.out.trans z.ext⟩
          | false =>
            have hov2 := Lib.hid ((ovGo_miss (by rw [hTL.out, ← hd]; exact hb)).symm.trans hov)
            clear hov hd
            go_wp2_with fail
            have hl2 : ¬ (what.length : Int) < (j : Int) + 1 := by omega
            have hl3 : ¬ what.length < j + 1 := by omega
            refine wp_region_up (by kernel_rfl) (by kernel_rfl) ?_
            repeat (go_big_quiet_step (fail))
            refine wpQuiet_nil ?_
            rintro _ ⟨z, rfl⟩
            go_wp2
            go_roundw
            case rel => exact ⟨j, by go_num, by omega, hXI.out.trans z.ext, hov2.out⟩
            case measure => first | (simp [intOf]; done) | (simp [intOf]; omega)
  · skip
    go_enter Try.func19, Try.ntmps19
    go_wp2_with fail
    refine wp_region_lex _ rfl (by kernel_rfl) ?_
    dsimp only [List.length_cons, List.length_nil]
    iterate 4 ((refine lex_want (by kernel_rfl) (by kernel_rfl) (by kernel_rfl) (by kernel_rfl) (fun _ _ _ _ h => h) (by kernel_rfl) (fun K hK => ?_)); go_simp; (refine hK _ ?_; clear hK K))
    refine lex_only (by kernel_rfl) (by kernel_rfl) (fun x K hK => ?_)
    go_simp
    refine hK.out _ _ ((Ext.refl _).alloc _) ?_
    clear hK K
    have hcv := fun y : Up (x.val.alloc (.cells #[.int .u8 (U8 b)] 5)) => conv_one y.val x.val.heap.size b (up_cell (W := x.val.alloc (.cells #[.int .u8 (U8 b)] 5)) (by simp) y)
    iterate 3 ((refine lex_want (by kernel_rfl) (by kernel_rfl) (by kernel_rfl) (by kernel_rfl) (fun _ _ _ _ h => h) (by kernel_rfl) (fun K hK => ?_)); go_simp; (refine hK _ ?_; clear hK K))
    refine lex_done (by kernel_rfl) (fun y => ?_)
    have hy : Ext w y.val := (((Ext.refl w).drew.trans x.ext).alloc _).trans y.ext
    have hY := Lib.hid hy
    generalize y.val = w1 at hY
    clear hy hcat hcv
    go_wp2
    go_loopw [8] (fun k wr => ∃ K : Nat, k = .int .i64 K ∧ K ≤ n + 1 ∧ Ext w wr ∧ ovGo what T K = r) (fun k _ => (intOf k).toNat)
    case atStart => exact ⟨n + 1, by first | rfl | go_num, Nat.le_refl _, hY.out, hov⟩
    case round =>
      obtain ⟨K, rfl, hK, hxi, hov⟩ := hrel
      have hXI := Lib.hid hxi
      clear hxi
      cases K with
      | zero =>
        have hov2 := Lib.hid (show 0 = r from hov)
        clear hov
        go_wp2_with fail
        refine wp_region_up (by kernel_rfl) (by kernel_rfl) ?_
        repeat (go_big_quiet_step (fail))
        refine wpQuiet_nil ?_
        rintro _ ⟨z, rfl⟩
        go_wp2
        go_ret
        exact ⟨by rw [← hov2.out]; rfl, hXI.out.trans z.ext⟩
      | succ j =>
        by_cases hlong : (what.length : Int) < (j : Int) + 1
        · have hov2 := Lib.hid ((ovGo_long (by omega)).symm.trans hov)
          clear hov
          go_wp2_with fail
          refine wp_region_up (by kernel_rfl) (by kernel_rfl) ?_
          repeat (go_big_quiet_step (fail))
          refine wpQuiet_nil ?_
          rintro _ ⟨z, rfl⟩
          go_wp2
          go_roundw
          case rel => exact ⟨j, by go_num, by omega, hXI.out.trans z.ext, hov2.out⟩
          case measure => first | (simp [intOf]; done) | (simp [intOf]; omega)
        · have hjw : j + 1 ≤ what.length := by omega
          have hd : n - j = n + 1 - (j + 1) := by omega
          cases hb : (what.take (j + 1) == T.drop (n - j)) with
          | true =>
            have hov2 := Lib.hid ((ovGo_hit hjw (by rw [hTL.out, ← hd]; exact hb)).symm.trans hov)
            clear hov hd
            go_wp2_with fail
            have hl2 : ¬ (what.length : Int) < (j : Int) + 1 := by omega
            have hl3 : ¬ what.length < j + 1 := by omega
            refine wp_region_up (by kernel_rfl) (by kernel_rfl) ?_
            repeat (go_big_quiet_step (fail))
            refine wpQuiet_nil ?_
            rintro _ ⟨z, rfl⟩
            go_wp2
            go_ret
            exact ⟨by rw [← hov2.out]; rfl, hXI.out.trans z.ext⟩
          | false =>
            have hov2 := Lib.hid ((ovGo_miss (by rw [hTL.out, ← hd]; exact hb)).symm.trans hov)
            clear hov hd
            go_wp2_with fail
            have hl2 : ¬ (what.length : Int) < (j : Int) + 1 := by omega
            have hl3 : ¬ what.length < j + 1 := by omega
            refine wp_region_up (by kernel_rfl) (by kernel_rfl) ?_
            repeat (go_big_quiet_step (fail))
            refine wpQuiet_nil ?_
            rintro _ ⟨z, rfl⟩
            go_wp2
            go_roundw
            case rel => exact ⟨j, by go_num, by omega, hXI.out.trans z.ext, hov2.out⟩
            case measure => first | (simp [intOf]; done) | (simp [intOf]; omega)
end Go.Proofs.Ytojebaplpfebdaa
