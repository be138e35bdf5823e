/- suffix: awake. -/
import Derived.Test.YteflhfofahdckaaSufL
import Derived.Test.YteflhfofahdckaaSufW
import Derived.Test.YteflhfofahdckaaSameR
namespace Go.Proofs.Yteflhfofahdckaa
set_option linter.unusedVariables false
set_option linter.unusedSimpArgs false
open Go.RowKit

theorem lit_ri (w : World) (l : List Int) (n : Nat) (hn : l.length = n) (hl : l.length ≤ 1000) (cs : Array Value) (hcs : cs.toList = ints l) : RI (w.alloc (.cells cs 3)) (.slice (some ⟨w.heap.size, 0, none⟩) n n) l :=
  (IW.lit w l (by omega) n hn cs hcs).ri
def banana : List UInt8 := [98, 97, 110, 97, 110, 97]
def banA : List Int := [6, 5, 3, 1, 0, 4, 2]

set_option maxRecDepth 20000 in
set_option maxHeartbeats 4000000 in
theorem awake12_any (w : World) :
    Calls Try.prog 22 #[] w fun e w' => e = .returned (.bool true) ∧ Ext w w' := by
  have e1 : toI (arrayL banana) = banA := by decide
  have e2 : fndR banana banA [97, 110] = (2, 3) := by decide
  have e2b : fndE banana banA = 0 := by decide
  have e3 : toI (comL banana banA) = [0, 0, 1, 3, 0, 0, 2] := by decide
  have e3b : comE banana banA = 0 := by decide
  have e4 : toI (rkL banA) = [4, 3, 6, 2, 5, 1, 0] := by decide
  have e4b : rkE banA = 0 := by decide
  have e5 : toI (srtR [2, 0, 2, 1] 2) = [1, 3, 0, 2] := by decide
  have e5b : srtE [2, 0, 2, 1] 2 = 0 := by decide
  have e6 : rkE [0, 0] = 2 := by decide
  have RS := Lib.hid rng_size
  have q1 := array_any banana w (by decide)
  have q2 := Lib.hid (fun (v : Value) (x : World) (h : RI x v banA) => find_any banana [97, 110] banA v x h (by decide) (by decide) (by decide))
  have q3 := Lib.hid (fun (v : Value) (x : World) (h : RI x v banA) => common_any banana banA v x h (by decide) (by decide))
  have q4 := Lib.hid (fun (v : Value) (x : World) (h : RI x v banA) => ranks_any banA v x h (by decide))
  have q5 := Lib.hid (fun (x : World) => sort_any [2, 0, 2, 1] 2 _ _ (lit_ri x [2, 0, 2, 1] 4 rfl (by decide) #[.int .i64 2, .int .i64 0, .int .i64 2, .int .i64 1] rfl) (by decide))
  have q6 := Lib.hid (fun (x : World) => ranks_any [0, 0] _ _ (lit_ri x [0, 0] 2 rfl (by decide) #[.int .i64 0, .int .i64 0] rfl) (by decide))
  rw [e2, e2b] at q2
  rw [e3, e3b] at q3
  rw [e4, e4b] at q4
  rw [e5, e5b] at q5
  rw [e6] at q6
  have q1 : Calls Try.prog 23 #[.string (S banana)] w fun e w' => ∃ g, e = .returned (.tuple #[.slice (some ⟨g, 0, none⟩) 7 7, .int .i64 0]) ∧ Ext w w' ∧ RI w' (.slice (some ⟨g, 0, none⟩) 7 7) banA := q1.mono (by
    rintro e w' ⟨g, h1, h2, h3⟩
    have := h3.ri
    rw [e1] at this
    exact ⟨g, h1, h2, this⟩)
  have q1 := Lib.hid q1
  clear e1 e2 e2b e3 e3b e4 e4b e5 e5b e6
  go_enter Try.func22, Try.ntmps22
  go_wp2_with fail
  refine (q1.out).mono ?_
  rintro _ w1 ⟨g1, rfl, x1, r1⟩
  have R1 := Lib.hid r1
  have X1 := Lib.hid x1
  clear r1 x1
  go_wp2_with fail
  refine (q2.out _ _ R1.out).mono ?_
  rintro _ w2 ⟨rfl, x2⟩
  have R2 := Lib.hid ((R1.out.ext x2).alloc (.cells #[.int .i64 2, .int .i64 3] 53))
  have X2 := Lib.hid ((X1.out.trans x2).alloc (.cells #[.int .i64 2, .int .i64 3] 53))
  have B3 := Lib.hid (Blk.new w2 53 #[.int .i64 2, .int .i64 3])
  clear x2 R1 X1
  go_wp2_with (refine wpList_store_new (cs' := #[.int .i64 2, .int .i64 3]) rfl 53 (.tmp 3) (.tmp 20) rfl rfl rfl RS.out (by kernel_rfl) ?_)
  refine (q3.out _ _ R2.out).mono ?_
  rintro _ w3 ⟨u3, rfl, x3, r3⟩
  have R3 := Lib.hid (R2.out.ext x3)
  have X3 := Lib.hid (X2.out.trans x3)
  have B3 := Lib.hid (B3.out.ext x3)
  have RC := Lib.hid r3
  obtain ⟨a3, c3, rfl, _, _, _⟩ := r3.shape
  clear r3 x3 R2 X2
  simp only [List.length_cons, List.length_nil] at *
  go_wp2_with fail
  refine (q4.out _ _ R3.out).mono ?_
  rintro _ w4 ⟨u4, rfl, x4, r4⟩
  have R4 := Lib.hid (R3.out.ext x4)
  have X4 := Lib.hid (X3.out.trans x4)
  have B3 := Lib.hid (B3.out.ext x4)
  have RC := Lib.hid (RC.out.ext x4)
  have RK := Lib.hid r4
  obtain ⟨a4, c4, rfl, _, _, _⟩ := r4.shape
  clear r4 x4 R3 X3
  simp only [List.length_cons, List.length_nil] at *
  go_wp2_with fail
  refine (q5.out _).mono ?_
  rintro _ w5 ⟨u5, rfl, x5, r5⟩
  have x5 : Ext w4 w5 := ((Ext.refl w4).alloc _).trans x5
  have R5 := Lib.hid (R4.out.ext x5)
  have X5 := Lib.hid (X4.out.trans x5)
  have B3 := Lib.hid (B3.out.ext x5)
  have RC := Lib.hid (RC.out.ext x5)
  have RK := Lib.hid (RK.out.ext x5)
  have RT := Lib.hid r5
  obtain ⟨a5, c5, rfl, _, _, _⟩ := r5.shape
  clear r5 x5 R4 X4
  simp only [List.length_cons, List.length_nil] at *
  go_wp2_with fail
  refine (q6.out _).mono ?_
  rintro _ w6 ⟨u6, rfl, x6, r6⟩
  have x6 : Ext w5 w6 := ((Ext.refl w5).alloc _).trans x6
  have R6 := Lib.hid (R5.out.ext x6)
  have X6 := Lib.hid (X5.out.trans x6)
  have B3 := Lib.hid (B3.out.ext x6)
  have RC := Lib.hid (RC.out.ext x6)
  have RK := Lib.hid (RK.out.ext x6)
  have RT := Lib.hid (RT.out.ext x6)
  obtain ⟨a6, c6, rfl, _, _, _⟩ := r6.shape
  clear r6 x6 R5 X5 q1 q2 q3 q4 q5 q6
  have p1 := Lib.hid (fun x (h : Ext w6 x) => sameR_any banA banA _ _ _ ((R6.out.ext h).alloc (.cells #[.int .i64 6, .int .i64 5, .int .i64 3, .int .i64 1, .int .i64 0, .int .i64 4, .int .i64 2] 3)) (lit_ri x banA 7 rfl (by decide) #[.int .i64 6, .int .i64 5, .int .i64 3, .int .i64 1, .int .i64 0, .int .i64 4, .int .i64 2] rfl) (by decide) (by decide))
  rw [show (banA == banA) = true by decide] at p1
  have p2 := Lib.hid (fun x (h : Ext w6 x) => sameR_any [0, 0, 1, 3, 0, 0, 2] [0, 0, 1, 3, 0, 0, 2] _ _ _ ((RC.out.ext h).alloc (.cells #[.int .i64 0, .int .i64 0, .int .i64 1, .int .i64 3, .int .i64 0, .int .i64 0, .int .i64 2] 3)) (lit_ri x [0, 0, 1, 3, 0, 0, 2] 7 rfl (by decide) #[.int .i64 0, .int .i64 0, .int .i64 1, .int .i64 3, .int .i64 0, .int .i64 0, .int .i64 2] rfl) (by decide) (by decide))
  rw [show (([0, 0, 1, 3, 0, 0, 2] : List Int) == [0, 0, 1, 3, 0, 0, 2]) = true by decide] at p2
  have p3 := Lib.hid (fun x (h : Ext w6 x) => sameR_any [1, 3, 0, 2] [1, 3, 0, 2] _ _ _ ((RT.out.ext h).alloc (.cells #[.int .i64 1, .int .i64 3, .int .i64 0, .int .i64 2] 3)) (lit_ri x [1, 3, 0, 2] 4 rfl (by decide) #[.int .i64 1, .int .i64 3, .int .i64 0, .int .i64 2] rfl) (by decide) (by decide))
  rw [show (([1, 3, 0, 2] : List Int) == [1, 3, 0, 2]) = true by decide] at p3
  go_wp2_with fail
  refine (p1.out w6 (Ext.refl _)).mono ?_
  rintro _ w7 ⟨rfl, x7⟩
  have x7 : Ext w6 w7 := ((Ext.refl w6).alloc _).trans x7
  have X7 := Lib.hid x7
  have B3 := Lib.hid (B3.out.ext x7)
  clear x7 p1
  go_wp2_with (refine wpList_load_blk_g (by kernel_rfl) 53 (.tmp 3) rfl rfl B3.out Try.underlying53 rfl RS.out ?_)
  refine (p2.out w7 X7.out).mono ?_
  rintro _ w8 ⟨rfl, x8⟩
  have X8 := Lib.hid (X7.out.trans (((Ext.refl w7).alloc (.cells #[.int .i64 0, .int .i64 0, .int .i64 1, .int .i64 3, .int .i64 0, .int .i64 0, .int .i64 2] 3)).trans x8))
  obtain ⟨_, _, hs, _, _, h7⟩ := (RK.out.ext X8.out).shape
  obtain ⟨g7, o7, rfl, d7⟩ := h7 (by decide)
  injection hs with e1 e2 e3
  subst e1
  have d6 := d7 6 (by decide)
  have d6 : w8.cell? ⟨g7, o7 + 6, none⟩ = some (.int .i64 0) := d6
  clear x8 d7 p2 h7 e2
  subst e3
  go_wp2_with fail
  refine (p3.out w8 X8.out).mono ?_
  rintro _ w9 ⟨rfl, x9⟩
  have X9 := Lib.hid ((X6.out.trans X8.out).trans (((Ext.refl w8).alloc (.cells #[.int .i64 1, .int .i64 3, .int .i64 0, .int .i64 2] 3)).trans x9))
  clear x9
  go_wp2
  go_ret
  exact ⟨rfl, X9.out⟩
end Go.Proofs.Yteflhfofahdckaa
