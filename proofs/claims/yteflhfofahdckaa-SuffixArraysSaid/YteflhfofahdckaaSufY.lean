/- The walk of SuffixArrays. -/
import Derived.Test.YteflhfofahdckaaSufX
namespace Go.Proofs.Yteflhfofahdckaa
set_option linter.unusedVariables false
set_option linter.unusedSimpArgs false
open Go.RowKit
attribute [local go_sem] S_size

theorem srtR_len {ks : List Int} {most : Int} : (srtR ks most).length ≤ ks.length := by
  unfold srtR
  cases h : okKeys ks most with
  | false => simp
  | true =>
    rw [if_pos rfl]
    have hk := (okKeys_true h).2.2
    have : (srtL ks most).Perm (List.range ks.length) := csort_perm fun p hp => by
      have := key_in hk (List.mem_range.1 hp); omega
    rw [this.length_eq, List.length_range]
    exact Nat.le_refl _

set_option maxRecDepth 20000 in
set_option maxHeartbeats 4000000 in
theorem suffixArrays_out (s : List UInt8) (v : Value) (l : List Int) (t : Int) (W : World) (rd : RI W v l) (h : (600 : Int) < (s.length : Int) ∨ (¬ (600 : Int) < (s.length : Int) ∧ (500 : Int) < (l.length : Int))) :
    Calls Try.prog 8 #[.string (S s), v, .int .i64 t] W fun e w' => e = .returned (.bool true) ∧ Ext W w' := by
  obtain ⟨a, c, rfl, _, _, _⟩ := rd.shape
  have q := Lib.hid (awake12_any W)
  clear rd
  rcases h with h1 | ⟨h1, h2⟩
  all_goals
    (go_enter Try.func8, Try.ntmps8
     go_wp2_with fail
     refine (q.out).mono ?_
     rintro _ w1 ⟨rfl, x1⟩
     go_wp2
     go_ret
     exact ⟨rfl, x1⟩)
set_option maxRecDepth 20000 in
set_option maxHeartbeats 4000000 in
theorem suffixArrays_in (s : List UInt8) (v : Value) (l : List Int) (t : Int) (W : World) (rd : RI W v l) (h1 : ¬ (600 : Int) < (s.length : Int)) (h2 : ¬ (500 : Int) < (l.length : Int)) :
    Calls Try.prog 8 #[.string (S s), v, .int .i64 t] W fun e w' => e = .returned (.bool true) ∧ Ext W w' := by
  have HR := Lib.hid rd
  have q1 := Lib.hid (fun w => array_any s w (by omega))
  have q2 := Lib.hid (fun w => rarray_any s w (by omega))
  have q3 := Lib.hid (fun w (h : RI w v l) => sort_any l t v w h (by omega))
  have q4 := Lib.hid (fun w (h : RI w v l) => rsort_any l t v w h (by omega))
  have hA : ((toI (arrayL s)).length : Int) ≤ 1000000000 := by rw [toI_length, (arrayL_is s).length]; omega
  have hS : ((toI (srtR l t)).length : Int) ≤ 1000000000 := by
    have := srtR_len (ks := l) (most := t)
    rw [toI_length]; omega
  have HA := Lib.hid hA
  have HS := Lib.hid hS
  obtain ⟨a, c, rfl, _, _, _⟩ := rd.shape
  have q1 : Hid (∀ w, Calls Try.prog 23 #[.string (S s)] w fun e w' => ∃ u, e = .returned (.tuple #[u, .int .i64 0]) ∧ Ext w w' ∧ RI w' u (toI (arrayL s))) := Lib.hid (fun w => (q1.out w).mono (by
    rintro e w' ⟨g, h1, h2, h3⟩
    exact ⟨_, h1, h2, h3.ri⟩))
  clear rd hA hS
  generalize toI (arrayL s) = A at *
  generalize toI (srtR l t) = B at *
  generalize srtE l t = E at *
  have hb1 : (A == A) = true := by simp
  have hb2 : (B == B) = true := by simp
  go_enter Try.func8, Try.ntmps8
  go_wp2_with fail
  refine (q1.out _).mono ?_
  rintro _ w1 ⟨u1, rfl, x1, r1⟩
  have X1 := Lib.hid x1
  have R1 := Lib.hid r1
  obtain ⟨a1, c1, rfl, _, _, _⟩ := r1.shape
  clear x1 r1
  go_wp2_with fail
  refine (q2.out _).mono ?_
  rintro _ w2 ⟨u2, rfl, x2, r2⟩
  have X2 := Lib.hid (X1.out.trans x2)
  have R1 := Lib.hid (R1.out.ext x2)
  have R2 := Lib.hid r2.ri
  obtain ⟨a2, c2, rfl, _, _⟩ := r2.shape
  clear x2 r2 X1
  go_wp2_with fail
  refine (q3.out _ (HR.out.ext X2.out)).mono ?_
  rintro _ w3 ⟨u3, rfl, x3, r3⟩
  have X3 := Lib.hid (X2.out.trans x3)
  have R1 := Lib.hid (R1.out.ext x3)
  have R2 := Lib.hid (R2.out.ext x3)
  have R3 := Lib.hid r3
  obtain ⟨a3, c3, rfl, _, _, _⟩ := r3.shape
  clear x3 r3 X2
  go_wp2_with fail
  refine (q4.out _ (HR.out.ext X3.out)).mono ?_
  rintro _ w4 ⟨u4, rfl, x4, r4⟩
  have X4 := Lib.hid (X3.out.trans x4)
  have s1 := sameR_any A A _ _ w4 (R1.out.ext x4) (R2.out.ext x4) HA.out HA.out
  have R3 := Lib.hid (R3.out.ext x4)
  have R4 := Lib.hid r4
  obtain ⟨a4, c4, rfl, _, _, _⟩ := r4.shape
  rw [hb1] at s1
  have s1 := Lib.hid s1
  clear x4 r4 X3
  go_wp2_with fail
  refine (s1.out).mono ?_
  rintro _ w5 ⟨rfl, x5⟩
  have X5 := Lib.hid (X4.out.trans x5)
  have s2 := sameR_any B B _ _ w5 (R3.out.ext x5) (R4.out.ext x5) HS.out HS.out
  rw [hb2] at s2
  have s2 := Lib.hid s2
  clear x5
  go_wp2_with fail
  refine (s2.out).mono ?_
  rintro _ w6 ⟨rfl, x6⟩
  have X6 := Lib.hid (X5.out.trans x6)
  clear x6
  go_wp2_with fail
  refine (awake12_any w6).mono ?_
  rintro _ w7 ⟨rfl, x7⟩
  go_wp2
  go_ret
  exact ⟨rfl, X6.out.trans x7⟩
theorem suffixArrays_law (b : ByteArray) (hs : b.size ≤ maxLen) (v : Value) (l : List Int) (t : Int) (wt : (Lit.int .i64 t).wf = true) (W : World) (rd : RI W v l) (hb : (l.length : Int) ≤ 9223372036854775807) (hR : ∀ x ∈ l, (Lit.int .i64 x).wf = true) :
    Calls Try.prog 8 #[.string b, v, .int .i64 t] W fun e w' => e = .returned (.bool true) ∧ Ext W w' := by
  obtain ⟨s, rfl, _⟩ := S_ex b
  by_cases h1 : (600 : Int) < (s.length : Int)
  · exact suffixArrays_out s v l t W rd (.inl h1)
  by_cases h2 : (500 : Int) < (l.length : Int)
  · exact suffixArrays_out s v l t W rd (.inr ⟨h1, h2⟩)
  exact suffixArrays_in s v l t W rd h1 h2
end Go.Proofs.Yteflhfofahdckaa
