/- file: awake. -/
import Derived.Test.YtahnjfbcklifoaaFileE
namespace Go.Proofs.Ytahnjfbcklifoaa
set_option linter.unusedVariables false
set_option linter.unusedSimpArgs false
open Go.RowKit
attribute [local go_sem] S_size S_toList S_append S_extract S_beq S_bne S_empty S_nil

theorem file_f0 (a b : List UInt8) (w : World) : (Instr.field 40 (.agg #[.string (S a), .string (S b)]) 0).run Try.prog w = .ok (.string (S a)) w := by kernel_rfl
theorem file_f1 (a b : List UInt8) (w : World) : (Instr.field 40 (.agg #[.string (S a), .string (S b)]) 1).run Try.prog w = .ok (.string (S b)) w := by kernel_rfl
attribute [local go_sem] file_f0 file_f1
theorem Blk.two {w : World} {g : Nat} {t : TypeId} {x y : Value} (h : Blk w g t #[x, y]) : w.cell? ⟨g, 0, none⟩ = some x ∧ w.cell? ⟨g, 1, none⟩ = some y := ⟨h.cell 0, h.cell 1⟩

set_option maxRecDepth 20000 in
set_option maxHeartbeats 1000000 in
theorem awake19 (w : World) : Calls Try.prog 27 #[] w fun e w' => e = .returned (.bool true) ∧ Ext w w' := by
  have l1 : ByteArray.mk #[97, 98] = S [97, 98] := rfl
  have l2 : ByteArray.mk #[97, 98, 99, 100, 101, 102] = S [97, 98, 99, 100, 101, 102] := rfl
  have l3 : ByteArray.mk #[103] = S [103] := rfl
  have l4 : ByteArray.mk #[97] = S [97] := rfl
  have l5 : ByteArray.mk #[120] = S [120] := rfl
  have l6 : ByteArray.mk #[97, 98, 99, 100, 120] = S [97, 98, 99, 100, 120] := rfl
  have l7 : ByteArray.mk #[97, 98, 99, 100, 101, 102, 103] = S [97, 98, 99, 100, 101, 102, 103] := rfl
  have q1 := Lib.hid (fun w => fappend_any [97, 98] [97, 98, 99, 100, 101, 102] [103] w (by decide) (by decide) (by decide))
  have q2 := Lib.hid (fun w => fcut_any [97, 98] [97, 98, 99, 100, 101, 102] 1 w (by decide))
  have q3 := Lib.hid (fun w => fcut_any [97, 98] [97, 98, 99, 100, 101, 102] 7 w (by decide))
  have q4 := Lib.hid (fun w => fall_any [97, 98] [97, 98, 99, 100, 101, 102] 3 [120] w (by decide) (by decide) (by decide))
  have q5 := Lib.hid (fun w => fsync_any [97, 98] [97, 98, 99, 100, 101, 102] w)
  have q6 := Lib.hid (fun w => floose_any [97, 98] [97, 98, 99, 100, 101, 102] w)
  have q7 := Lib.hid (fun w => fall_any [97, 98] [97] 0 [] w (by decide) (by decide) (by decide))
  have q8 := Lib.hid (fun w => fall_any [97, 98] [97] 1 [] w (by decide) (by decide) (by decide))
  have e1 : okV (fappend ([97, 98], [97, 98, 99, 100, 101, 102]) [103]) = .tuple #[.agg #[.string (S [97, 98]), .string (S [97, 98, 99, 100, 101, 102, 103])], .int .i64 0] := rfl
  have e2 : okV (fcut ([97, 98], [97, 98, 99, 100, 101, 102]) 1) = .tuple #[.agg #[.string (S [97, 98]), .string (S [97])], .int .i64 0] := rfl
  have e3 : okV (fcut ([97, 98], [97, 98, 99, 100, 101, 102]) 7) = .tuple #[.agg #[.string (S []), .string (S [])], .int .i64 2] := rfl
  have e4 : leftL [97, 98] [97, 98, 99, 100, 101, 102] 3 [120] = [97, 98, 99, 100, 120] := by decide
  have e6 : (([97, 98] : List UInt8) != [97, 98, 99, 100, 101, 102]) = true := by decide
  have e7 : leftL [97, 98] [97] 0 [] = [97, 98] := by decide
  have e8 : leftL [97, 98] [97] 1 [] = [97] := by decide
  rw [e1] at q1
  rw [e2] at q2
  rw [e3] at q3
  rw [e4] at q4
  rw [e6] at q6
  rw [e7] at q7
  rw [e8] at q8
  clear e1 e2 e3 e4 e6 e7 e8
  go_enter Try.func27, Try.ntmps27
  go_wp2_with fail
  refine (q1.out _).mono ?_
  rintro e w1 ⟨rfl, h1⟩
  have B1 : Blk w1 w.heap.size 40 #[.string (S [97, 98]), .string (S [97, 98, 99, 100, 101, 102])] := (Blk.new w _ _).ext h1
  have L1 := B1.lt
  obtain ⟨p0, p1⟩ := B1.two
  have X1 : Ext w w1 := ((Ext.refl _).alloc _).trans h1
  go_wp2_with fail
  refine (q2.out _).mono ?_
  rintro e w2 ⟨rfl, h2⟩
  have B2 : Blk w2 w.heap.size 40 #[.string (S [97, 98]), .string (S [97, 98, 99, 100, 101, 102])] := (B1.alloc _).ext h2
  have C2 : Blk w2 w1.heap.size 40 #[.string (S [97, 98]), .string (S [97, 98, 99, 100, 101, 102, 103])] := (Blk.new w1 _ _).ext h2
  have L2 := B2.lt
  have L3 := C2.lt
  obtain ⟨r0, r1⟩ := B2.two
  obtain ⟨r2, r3⟩ := C2.two
  have X2 : Ext w w2 := (X1.alloc _).trans h2
  go_wp2_with fail
  refine (q3.out _).mono ?_
  rintro e w3 ⟨rfl, h3⟩
  have B3 : Blk w3 w.heap.size 40 #[.string (S [97, 98]), .string (S [97, 98, 99, 100, 101, 102])] := (B2.alloc _).ext h3
  have C3 : Blk w3 w1.heap.size 40 #[.string (S [97, 98]), .string (S [97, 98, 99, 100, 101, 102, 103])] := (C2.alloc _).ext h3
  have D3 : Blk w3 w2.heap.size 40 #[.string (S [97, 98]), .string (S [97])] := (Blk.new w2 _ _).ext h3
  have L4 := B3.lt
  have L5 := C3.lt
  have L6 := D3.lt
  have X3 : Ext w w3 := (X2.alloc _).trans h3
  obtain ⟨s0, s1⟩ := B3.two
  obtain ⟨s2, s3⟩ := C3.two
  obtain ⟨s4, s5⟩ := D3.two
  clear B1 B2 C2 h1 h2 h3
  go_wp2_with fail
  refine (q4.out _).mono ?_
  rintro e w4 ⟨rfl, h4⟩
  have B4 := (B3.alloc _).ext h4
  have D4 := (D3.alloc _).ext h4
  have X4 := (X3.alloc _).trans h4
  obtain ⟨b40, b41⟩ := B4.two
  obtain ⟨d40, d41⟩ := D4.two
  clear h4
  go_wp2_with fail
  refine (q5.out _).mono ?_
  rintro e w5 ⟨rfl, h5⟩
  have B5 := B4.ext h5
  have D5 := D4.ext h5
  have X5 := X4.trans h5
  obtain ⟨b50, b51⟩ := B5.two
  obtain ⟨d50, d51⟩ := D5.two
  clear h5
  go_wp2_with fail
  refine (q6.out _).mono ?_
  rintro e w6 ⟨rfl, h6⟩
  have B6 := B5.ext h6
  have D6 := D5.ext h6
  have X6 := X5.trans h6
  obtain ⟨b60, b61⟩ := B6.two
  obtain ⟨d60, d61⟩ := D6.two
  clear h6
  go_wp2_with fail
  refine (q7.out _).mono ?_
  rintro e w7 ⟨rfl, h7⟩
  have B7 := B6.ext h7
  have D7 := D6.ext h7
  have X7 := X6.trans h7
  obtain ⟨b70, b71⟩ := B7.two
  obtain ⟨d70, d71⟩ := D7.two
  clear h7
  go_wp2_with fail
  refine (q8.out _).mono ?_
  rintro e w8 ⟨rfl, h8⟩
  have B8 := B7.ext h8
  have D8 := D7.ext h8
  have X8 := X7.trans h8
  obtain ⟨b80, b81⟩ := B8.two
  obtain ⟨d80, d81⟩ := D8.two
  clear h8
  go_wp2_with fail
  go_ret
  exact ⟨rfl, X8⟩
end Go.Proofs.Ytahnjfbcklifoaa
