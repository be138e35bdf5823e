/- fm: New. -/
import Derived.Test.YtlhjbfckcfeikaaFmE
namespace Go.Proofs.Ytlhjbfckcfeikaa
set_option linter.unusedVariables false
set_option linter.unusedSimpArgs false
open Go.RowKit
attribute [local go_sem] S_size S_toList S_extract S_beq S_bne S_empty S_nil u8_beq U8_fold U8_toNat

theorem idx_zero (l : List UInt8) (p : Int) : ((Try.zeroCells50.setIfInBounds 0 (.string (S l))).setIfInBounds 1 (.int .i64 p)).setIfInBounds 261 (.bool true) = idxV l p (fun _ => 0) (.slice none 0 0) (.slice none 0 0) true := by kernel_rfl
/-- an index in memory -/
def IX (w : World) (v : Value) (l : List UInt8) (q : Nat) : Prop :=
  ∃ g kv pv, v = .pointer (some ⟨g, 0, none⟩) ∧ Blk w g 50 (idxV l (q : Int) (stN l) kv pv true) ∧ RR cnC 256 w kv (keptL l l.length) ∧ RI w pv (toI (placesN l q))
theorem IX.ext {w w' : World} {v : Value} {l : List UInt8} {q : Nat} (h : IX w v l q) (x : Ext w w') : IX w' v l q := by
  obtain ⟨g, kv, pv, rfl, h1, h2, h3⟩ := h
  exact ⟨g, kv, pv, rfl, h1.ext x, h2.ext x, h3.ext x⟩
theorem invE_no {l : List UInt8} {p : Int} (h : ¬ (mayP l p = true ∧ okI l p.toNat = true)) : invE l p = 130 := by
  unfold invE
  by_cases hm : mayP l p = true
  · rw [if_pos hm, if_neg (fun h2 => h ⟨hm, h2⟩)]
  · rw [if_neg hm]

set_option maxRecDepth 20000 in
set_option maxHeartbeats 8000000 in
theorem fnew_no (l : List UInt8) (p : Int) (w : World) (hl : (l.length : Int) ≤ 20000) (h : ¬ (mayP l p = true ∧ okI l p.toNat = true)) :
    Calls Try.prog 8 #[.string (S l), .int .i64 p] w fun e w' => e = .returned (.tuple #[.pointer none, .int .i64 130]) ∧ Ext w w' := by
  have q := inverse_any l p w hl
  rw [invE_no h] at q
  have Q := Lib.hid q
  clear q h
  generalize invL l p = t at *
  go_enter Try.func8, Try.ntmps8
  go_wp2_with fail
  refine Q.out.mono ?_
  rintro _ w1 ⟨rfl, x1⟩
  go_wp2
  exact bodyPost_ret (results_tmp2 rfl _ _ _) rfl ⟨rfl, x1⟩

set_option maxRecDepth 20000 in
set_option maxHeartbeats 8000000 in
theorem fnew_ok (l : List UInt8) (q : Nat) (w : World) (hl : (l.length : Int) ≤ 20000) (hm : mayP l (q : Int) = true) (ho : okI l q = true) :
    Calls Try.prog 8 #[.string (S l), .int .i64 (q : Int)] w fun e w' => ∃ v, e = .returned (.tuple #[v, .int .i64 0]) ∧ Ext w w' ∧ IX w' v l q := by
  obtain ⟨q', e1, hq'⟩ := may_some hm
  obtain rfl : q' = q := by omega
  have hq : q' < l.length + 1 := by omega
  have q1 := inverse_any l q' w hl
  rw [show invE l q' = 0 from by unfold invE; rw [if_pos hm, if_pos (by exact ho)]] at q1
  have Q1 := Lib.hid q1
  have Q2 := Lib.hid (fun w => (show Calls Try.prog 25 #[.string (S l), .int .i64 (q' : Int)] w fun e w' => ∃ u, e = .returned (.tuple #[u, .int .i64 0]) ∧ Ext w w' ∧ RI w' u (toI ((List.range (l.length + 1)).map (lfN l q'))) from by
    have := steps_any l q' w hl
    rw [(stp_yes hm).1, (stp_yes hm).2] at this
    exact this))
  have QC := Lib.hid (fun g w h => count_any l q' g w hl h)
  have QP := Lib.hid (fun st kv g sv w0 w h1 h2 h3 h4 => place_any l q' q' st kv g sv w0 w hl ho hq h1 h2 h3 h4)
  clear q1 hm ho hq e1 hq'
  generalize invL l q' = t at *
  go_enter Try.func8, Try.ntmps8
  go_wp2_with fail
  refine Q1.out.mono ?_
  rintro _ w1 ⟨rfl, x1⟩
  have X1 := Lib.hid x1
  clear x1
  go_wp2_with fail
  refine (Q2.out _).mono ?_
  rintro _ w2 ⟨u2, rfl, x2, r2⟩
  have X2 := Lib.hid (X1.out.trans x2)
  have R2 := Lib.hid r2
  clear x2 X1 r2
  go_wp2_with fail
  have b0 := Blk.new w2 50 (((Try.zeroCells50.setIfInBounds 0 (.string (S l))).setIfInBounds 1 (.int .i64 (q' : Int))).setIfInBounds 261 (.bool true))
  have x3 := (Ext.refl w2).alloc (.cells (((Try.zeroCells50.setIfInBounds 0 (.string (S l))).setIfInBounds 1 (.int .i64 (q' : Int))).setIfInBounds 261 (.bool true)) 50)
  have hz := idx_zero l (q' : Int)
  rw [hz] at b0 x3
  generalize ((Try.zeroCells50.setIfInBounds 0 (.string (S l))).setIfInBounds 1 (.int .i64 (q' : Int))).setIfInBounds 261 (.bool true) = zc at *
  subst hz
  refine (QC.out _ _ b0).mono ?_
  rintro _ w3 ⟨rfl, x4, kv, b4, k4⟩
  have BX := Lib.hid (x3.but x4 (fun k hk => by rw [List.mem_singleton.1 hk]; exact Nat.le_refl _))
  have HLT := Lib.hid b0.lt
  have B4 := Lib.hid b4
  have K4 := Lib.hid k4
  clear b0 x3 x4 b4 k4
  generalize (w2.alloc (.cells (idxV l (q' : Int) (fun _ => 0) (.slice none 0 0) (.slice none 0 0) true) 50)) = w2' at *
  go_wp2_with fail
  refine (QP.out _ _ _ _ _ _ B4.out R2.out BX.out (Nat.le_refl _)).mono ?_
  rintro _ w4 ⟨rfl, x5, b5, n5⟩
  have X5 := Lib.hid (X2.out.trans (BX.out.but x5 (fun k hk => by rw [List.mem_singleton.1 hk]; exact Nat.le_refl _)))
  have I5 : IX w4 (.pointer (some ⟨w2.heap.size, 0, none⟩)) l q' := ⟨_, _, _, rfl, b5, (WR.but K4.out x5 (fun k hk => by rw [List.mem_singleton.1 hk]; exact HLT.out)).rr cnC_length, IW.ri n5⟩
  have I5 := Lib.hid I5
  clear b5 n5 x5
  go_wp2
  exact bodyPost_ret (results_tmp2 rfl _ _ _) rfl ⟨_, rfl, X5.out, I5.out⟩
end Go.Proofs.Ytlhjbfckcfeikaa
