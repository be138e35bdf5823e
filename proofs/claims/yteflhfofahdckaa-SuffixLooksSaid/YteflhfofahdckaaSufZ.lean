/- The walk of SuffixLooks. -/
import Derived.Test.YteflhfofahdckaaSufX
namespace Go.Proofs.Yteflhfofahdckaa
set_option linter.unusedVariables false
set_option linter.unusedSimpArgs false
open Go.RowKit
attribute [local go_sem] S_size

theorem rkL_len {a : List Int} : (rkL a).length ≤ a.length := by
  unfold rkL
  split
  · simp
  · simp
theorem comL_len {s : List UInt8} {a : List Int} : (comL s a).length ≤ a.length := by
  unfold comL
  split
  · simp
  · simp

set_option maxRecDepth 20000 in
set_option maxHeartbeats 4000000 in
theorem suffixLooks_out (s : List UInt8) (v : Value) (l : List Int) (t : List UInt8) (W : World) (rd : RI W v l) (h : (600 : Int) < (s.length : Int) ∨ (¬ (600 : Int) < (s.length : Int) ∧ (700 : Int) < (l.length : Int)) ∨ (¬ (600 : Int) < (s.length : Int) ∧ ¬ (700 : Int) < (l.length : Int) ∧ (600 : Int) < (t.length : Int))) :
    Calls Try.prog 9 #[.string (S s), v, .string (S t)] W fun e w' => e = .returned (.bool true) ∧ Ext W w' := by
  obtain ⟨a, c, rfl, _, _, _⟩ := rd.shape
  have q := Lib.hid (awake12_any W)
  clear rd
  rcases h with h1 | ⟨h1, h2⟩ | ⟨h1, h2, h3⟩
  all_goals
    (go_enter Try.func9, Try.ntmps9
     go_wp2_with fail
     refine (q.out).mono ?_
     rintro _ w1 ⟨rfl, x1⟩
     go_wp2
     go_ret
     exact ⟨rfl, x1⟩)
set_option maxRecDepth 20000 in
set_option maxHeartbeats 4000000 in
theorem suffixLooks_in (s : List UInt8) (v : Value) (l : List Int) (t : List UInt8) (W : World) (rd : RI W v l) (h1 : ¬ (600 : Int) < (s.length : Int)) (h2 : ¬ (700 : Int) < (l.length : Int)) (h3 : ¬ (600 : Int) < (t.length : Int)) :
    Calls Try.prog 9 #[.string (S s), v, .string (S t)] W fun e w' => e = .returned (.bool true) ∧ Ext W w' := by
  have HR := Lib.hid rd
  have RS := Lib.hid rng_size
  have q1 := Lib.hid (fun w (h : RI w v l) => ranks_any l v w h (by omega))
  have q2 := Lib.hid (fun w (h : RI w v l) => rranks_any l v w h (by omega))
  have q3 := Lib.hid (fun w (h : RI w v l) => common_any s l v w h (by omega) (by omega))
  have q4 := Lib.hid (fun w (h : RI w v l) => rcommon_any s l v w h (by omega) (by omega))
  have q5 := Lib.hid (fun w (h : RI w v l) => find_any s t l v w h (by omega) (by omega) (by omega))
  have q6 := Lib.hid (fun w (h : RI w v l) => rfind_any s t l v w h (by omega) (by omega) (by omega))
  have hA : ((toI (rkL l)).length : Int) ≤ 1000000000 := by have := rkL_len (a := l); rw [toI_length]; omega
  have hS : ((toI (comL s l)).length : Int) ≤ 1000000000 := by have := comL_len (s := s) (a := l); rw [toI_length]; omega
  have HA := Lib.hid hA
  have HS := Lib.hid hS
  obtain ⟨a, c, rfl, _, _, _⟩ := rd.shape
  clear rd hA hS
  generalize toI (rkL l) = A at *
  generalize toI (comL s l) = B at *
  generalize rkE l = E at *
  generalize comE s l = E2 at *
  generalize fndE s l = E3 at *
  generalize fndR s l t = r at *
  have hb1 : (A == A) = true := by simp
  have hb2 : (B == B) = true := by simp
  go_enter Try.func9, Try.ntmps9
  go_wp2_with fail
  refine (q1.out _ HR.out).mono ?_
  rintro _ w1 ⟨u1, rfl, x1, r1⟩
  have X1 := Lib.hid x1
  have R1 := Lib.hid r1
  obtain ⟨a1, c1, rfl, _, _, _⟩ := r1.shape
  clear x1 r1
  go_wp2_with fail
  refine (q2.out _ (HR.out.ext X1.out)).mono ?_
  rintro _ w2 ⟨u2, rfl, x2, r2⟩
  have X2 := Lib.hid (X1.out.trans x2)
  have R1 := Lib.hid (R1.out.ext x2)
  have R2 := Lib.hid r2
  obtain ⟨a2, c2, rfl, _, _, _⟩ := r2.shape
  clear x2 r2 X1
  go_wp2_with fail
  refine (q3.out _ (HR.out.ext X2.out)).mono ?_
  rintro _ w3 ⟨u3, rfl, x3, r3⟩
  have X3 := Lib.hid (X2.out.trans x3)
  have R1 := Lib.hid (R1.out.ext x3)
  have R2 := Lib.hid (R2.out.ext x3)
  have R3 := Lib.hid r3
  obtain ⟨a3, c3, rfl, _, _, _⟩ := r3.shape
  clear x3 r3 X2
  go_wp2_with fail
  refine (q4.out _ (HR.out.ext X3.out)).mono ?_
  rintro _ w4 ⟨u4, rfl, x4, r4⟩
  have X4 := Lib.hid (X3.out.trans x4)
  have R1 := Lib.hid (R1.out.ext x4)
  have R2 := Lib.hid (R2.out.ext x4)
  have R3 := Lib.hid (R3.out.ext x4)
  have R4 := Lib.hid r4
  obtain ⟨a4, c4, rfl, _, _, _⟩ := r4.shape
  clear x4 r4 X3
  go_wp2_with fail
  refine (q5.out _ (HR.out.ext X4.out)).mono ?_
  rintro _ w5 ⟨rfl, x5⟩
  have x5 := x5.alloc (.cells #[.int .i64 r.1, .int .i64 r.2] 53)
  have X5 := Lib.hid (X4.out.trans x5)
  have R1 := Lib.hid (R1.out.ext x5)
  have R2 := Lib.hid (R2.out.ext x5)
  have R3 := Lib.hid (R3.out.ext x5)
  have R4 := Lib.hid (R4.out.ext x5)
  have B5 := Lib.hid (Blk.new w5 53 #[.int .i64 r.1, .int .i64 r.2])
  clear x5 X4
  go_wp2_with (refine wpList_store_new (cs' := #[.int .i64 r.1, .int .i64 r.2]) rfl 53 (.tmp 15) (.tmp 60) rfl rfl rfl RS.out (by kernel_rfl) ?_)
  refine (q6.out _ (HR.out.ext X5.out)).mono ?_
  rintro _ w6 ⟨rfl, x6⟩
  have x6 := x6.alloc (.cells #[.int .i64 r.1, .int .i64 r.2] 53)
  have X6 := Lib.hid (X5.out.trans x6)
  have R1 := Lib.hid (R1.out.ext x6)
  have R2 := Lib.hid (R2.out.ext x6)
  have R3 := Lib.hid (R3.out.ext x6)
  have R4 := Lib.hid (R4.out.ext x6)
  have B5 := Lib.hid (B5.out.ext x6)
  have B6 := Lib.hid (Blk.new w6 53 #[.int .i64 r.1, .int .i64 r.2])
  clear x6 X5
  have s1 := Lib.hid (sameR_any A A _ _ _ R1.out R2.out HA.out HA.out)
  rw [hb1] at s1
  go_wp2_with (refine wpList_store_new (cs' := #[.int .i64 r.1, .int .i64 r.2]) rfl 53 (.tmp 17) (.tmp 67) rfl rfl rfl RS.out (by kernel_rfl) ?_)
  refine (s1.out).mono ?_
  rintro _ w7 ⟨rfl, x7⟩
  have X7 := Lib.hid (X6.out.trans x7)
  have s2 := sameR_any B B _ _ w7 (R3.out.ext x7) (R4.out.ext x7) HS.out HS.out
  have B5 := Lib.hid (B5.out.ext x7)
  have B6 := Lib.hid (B6.out.ext x7)
  rw [hb2] at s2
  have s2 := Lib.hid s2
  clear x7 X6
  go_wp2_with fail
  refine (s2.out).mono ?_
  rintro _ w8 ⟨rfl, x8⟩
  have X8 := Lib.hid (X7.out.trans x8)
  have B5 := Lib.hid (B5.out.ext x8)
  have B6 := Lib.hid (B6.out.ext x8)
  clear x8
  go_wp2_with (first
    | (refine wpList_load_blk_g (by kernel_rfl) 53 (.tmp 15) rfl rfl B5.out Try.underlying53 rfl RS.out ?_)
    | (refine wpList_load_blk_g (by kernel_rfl) 53 (.tmp 17) rfl rfl B6.out Try.underlying53 rfl RS.out ?_))
  refine (awake12_any w8).mono ?_
  rintro _ w9 ⟨rfl, x9⟩
  go_wp2
  go_ret
  exact ⟨rfl, X8.out.trans x9⟩
theorem suffixLooks_law (b : ByteArray) (hs : b.size ≤ maxLen) (v : Value) (l : List Int) (t : ByteArray) (wt : t.size ≤ maxLen) (W : World) (rd : RI W v l) (hb : (l.length : Int) ≤ 9223372036854775807) (hR : ∀ x ∈ l, (Lit.int .i64 x).wf = true) :
    Calls Try.prog 9 #[.string b, v, .string t] W fun e w' => e = .returned (.bool true) ∧ Ext W w' := by
  obtain ⟨s, rfl, _⟩ := S_ex b
  obtain ⟨t, rfl, _⟩ := S_ex t
  by_cases h1 : (600 : Int) < (s.length : Int)
  · exact suffixLooks_out s v l t W rd (.inl h1)
  by_cases h2 : (700 : Int) < (l.length : Int)
  · exact suffixLooks_out s v l t W rd (.inr (.inl ⟨h1, h2⟩))
  by_cases h3 : (600 : Int) < (t.length : Int)
  · exact suffixLooks_out s v l t W rd (.inr (.inr ⟨h1, h2, h3⟩))
  exact suffixLooks_in s v l t W rd h1 h2 h3
end Go.Proofs.Yteflhfofahdckaa
