/- block: Seqs, Ticks; entry: meta, Seqs, Ticks. -/
import Derived.Test.YtplbebcckffgeaaEntP
import Derived.Test.YtplbebcckffgeaaMeta1
namespace Go.Proofs.Ytplbebcckffgeaa
set_option linter.unusedVariables false
set_option linter.unusedSimpArgs false
open Go.RowKit

/-- an entry as one block -/
def metaCells (b : Bool) (cnt fst early late : Int) : Array Value := if b then #[.int .i64 0, .int .i64 0, .int .i64 0, .int .i64 cnt, .int .i64 fst, .int .i64 early, .int .i64 late] else #[.int .i64 0, .int .i64 0, .int .i64 0, .int .i64 0, .int .i64 0, .int .i64 0, .int .i64 0]
/-- a sealed entry that may be -/
def goodP (e : E9) : Bool := e.sld && entP e
def seqLo (e : E9) : Int := if goodP e then e.fst else 1
def seqHi (e : E9) : Int := if goodP e then e.fst + e.cnt - 1 else 0
def tickLo (e : E9) : Int := if goodP e then e.early else 1
def tickHi (e : E9) : Int := if goodP e then e.late else 0
theorem good_sum {e : E9} (h : goodP e = true) : 1 ≤ e.fst ∧ 1 ≤ e.cnt ∧ e.fst + e.cnt ≤ 1000000001 := by
  unfold goodP at h
  rw [Bool.and_eq_true] at h
  obtain ⟨h1, h2⟩ := h
  have h3 := entP_sum h2
  unfold entP at h2
  rw [h1, Bool.and_eq_true, if_pos rfl] at h2
  have h4 := h2.2
  unfold sealP at h4
  have h4 := of_decide_eq_true h4
  unfold sealD at h4
  omega

theorem meta_build (cnt fst early late : Int) (w : World) : (Instr.build 50 #[(3, .int .i64 cnt), (4, .int .i64 fst), (5, .int .i64 early), (6, .int .i64 late)]).run Try.prog w = .ok (.agg #[.int .i64 0, .int .i64 0, .int .i64 0, .int .i64 cnt, .int .i64 fst, .int .i64 early, .int .i64 late]) w := by kernel_rfl
theorem meta_build0 (w : World) : (Instr.build 50 #[]).run Try.prog w = .ok (.agg #[.int .i64 0, .int .i64 0, .int .i64 0, .int .i64 0, .int .i64 0, .int .i64 0, .int .i64 0]) w := by kernel_rfl
theorem meta_zero (w : World) : (zeroValue 50).run Try.prog w = .ok (.agg #[.int .i64 0, .int .i64 0, .int .i64 0, .int .i64 0, .int .i64 0, .int .i64 0, .int .i64 0]) w := by kernel_rfl
attribute [local go_sem] meta_build meta_build0 meta_zero range_zero
set_option maxRecDepth 20000 in
set_option maxHeartbeats 4000000 in
theorem bSeqs_zero (a b c d x y : Int) (w : World) :
    Calls Try.prog 24 #[.agg #[.int .i64 a, .int .i64 b, .int .i64 c, .int .i64 0, .int .i64 d, .int .i64 x, .int .i64 y]] w fun e w' => e = .returned (.agg #[.int .i64 1, .int .i64 0]) ∧ Ext w w' := by
  have b1 := Lib.hid (Blk.new w 50 #[.int .i64 a, .int .i64 b, .int .i64 c, .int .i64 0, .int .i64 d, .int .i64 x, .int .i64 y])
  have b2 := Lib.hid (b1.out.alloc (.cells #[.int .i64 0, .int .i64 0] 43))
  have b3 := Lib.hid (Blk.new (w.alloc (.cells #[.int .i64 a, .int .i64 b, .int .i64 c, .int .i64 0, .int .i64 d, .int .i64 x, .int .i64 y] 50)) 43 #[.int .i64 1, .int .i64 0])
  rw [World.size_alloc] at b3
  have c3 := b2.out.cell 3
  go_enter Try.func24, Try.ntmps24
  go_wp2
  exact bodyPost_ret (results_cell_row rfl _ _ (w.heap.size + 1) _ _ (0, 0) _ rfl b3.out Try.underlying43 rfl range_size) rfl ⟨rfl, ((Ext.refl _).alloc _).alloc _⟩
set_option maxRecDepth 20000 in
set_option maxHeartbeats 4000000 in
theorem bTicks_zero (a b c d x y : Int) (w : World) :
    Calls Try.prog 26 #[.agg #[.int .i64 a, .int .i64 b, .int .i64 c, .int .i64 0, .int .i64 d, .int .i64 x, .int .i64 y]] w fun e w' => e = .returned (.agg #[.int .i64 1, .int .i64 0]) ∧ Ext w w' := by
  have b1 := Lib.hid (Blk.new w 50 #[.int .i64 a, .int .i64 b, .int .i64 c, .int .i64 0, .int .i64 d, .int .i64 x, .int .i64 y])
  have b2 := Lib.hid (b1.out.alloc (.cells #[.int .i64 0, .int .i64 0] 43))
  have b3 := Lib.hid (Blk.new (w.alloc (.cells #[.int .i64 a, .int .i64 b, .int .i64 c, .int .i64 0, .int .i64 d, .int .i64 x, .int .i64 y] 50)) 43 #[.int .i64 1, .int .i64 0])
  rw [World.size_alloc] at b3
  have c3 := b2.out.cell 3
  go_enter Try.func26, Try.ntmps26
  go_wp2
  exact bodyPost_ret (results_cell_row rfl _ _ (w.heap.size + 1) _ _ (0, 0) _ rfl b3.out Try.underlying43 rfl range_size) rfl ⟨rfl, ((Ext.refl _).alloc _).alloc _⟩
set_option maxRecDepth 20000 in
set_option maxHeartbeats 4000000 in
theorem bSeqs_good (a b c cnt fst x y : Int) (w : World) (h : 1 ≤ fst ∧ 1 ≤ cnt ∧ fst + cnt ≤ 1000000001) :
    Calls Try.prog 24 #[.agg #[.int .i64 a, .int .i64 b, .int .i64 c, .int .i64 cnt, .int .i64 fst, .int .i64 x, .int .i64 y]] w fun e w' => e = .returned (.agg #[.int .i64 fst, .int .i64 (fst + cnt - 1)]) ∧ Ext w w' := by
  obtain ⟨h1, h2, h3⟩ := h
  have b1 := Lib.hid (Blk.new w 50 #[.int .i64 a, .int .i64 b, .int .i64 c, .int .i64 cnt, .int .i64 fst, .int .i64 x, .int .i64 y])
  have b2 := Lib.hid (b1.out.alloc (.cells #[.int .i64 0, .int .i64 0] 43))
  have b3 := Lib.hid (Blk.new (w.alloc (.cells #[.int .i64 a, .int .i64 b, .int .i64 c, .int .i64 cnt, .int .i64 fst, .int .i64 x, .int .i64 y] 50)) 43 #[.int .i64 fst, .int .i64 (fst + cnt - 1)])
  rw [World.size_alloc] at b3
  have c3 := b2.out.cell 3
  have c4 := b2.out.cell 4
  have n1 : ¬ cnt < 1 := by omega
  have e1 : IntKind.i64.wrap (cnt - 1) = cnt - 1 := by rw [IntKind.wrap_i64]; omega
  have e2 : IntKind.i64.wrap (9223372036854775807 - (cnt - 1)) = 9223372036854775807 - (cnt - 1) := by rw [IntKind.wrap_i64]; omega
  have n2 : ¬ 9223372036854775807 - (cnt - 1) < fst := by omega
  have e3 : IntKind.i64.wrap (fst + (cnt - 1)) = fst + cnt - 1 := by rw [IntKind.wrap_i64]; omega
  clear h1 h2 h3
  go_enter Try.func24, Try.ntmps24
  go_wp2
  exact bodyPost_ret (results_cell_row rfl _ _ (w.heap.size + 1) _ _ (0, 0) _ rfl b3.out Try.underlying43 rfl range_size) rfl ⟨rfl, ((Ext.refl _).alloc _).alloc _⟩
set_option maxRecDepth 20000 in
set_option maxHeartbeats 4000000 in
theorem bTicks_good (a b c cnt fst x y : Int) (w : World) (h : 1 ≤ cnt) :
    Calls Try.prog 26 #[.agg #[.int .i64 a, .int .i64 b, .int .i64 c, .int .i64 cnt, .int .i64 fst, .int .i64 x, .int .i64 y]] w fun e w' => e = .returned (.agg #[.int .i64 x, .int .i64 y]) ∧ Ext w w' := by
  have b1 := Lib.hid (Blk.new w 50 #[.int .i64 a, .int .i64 b, .int .i64 c, .int .i64 cnt, .int .i64 fst, .int .i64 x, .int .i64 y])
  have b2 := Lib.hid (b1.out.alloc (.cells #[.int .i64 0, .int .i64 0] 43))
  have b3 := Lib.hid (Blk.new (w.alloc (.cells #[.int .i64 a, .int .i64 b, .int .i64 c, .int .i64 cnt, .int .i64 fst, .int .i64 x, .int .i64 y] 50)) 43 #[.int .i64 x, .int .i64 y])
  rw [World.size_alloc] at b3
  have c3 := b2.out.cell 3
  have c5 := b2.out.cell 5
  have c6 := b2.out.cell 6
  have n1 : ¬ cnt < 1 := by omega
  clear h
  go_enter Try.func26, Try.ntmps26
  go_wp2
  exact bodyPost_ret (results_cell_row rfl _ _ (w.heap.size + 1) _ _ (0, 0) _ rfl b3.out Try.underlying43 rfl range_size) rfl ⟨rfl, ((Ext.refl _).alloc _).alloc _⟩

set_option maxRecDepth 20000 in
set_option maxHeartbeats 8000000 in
theorem emeta_any (e : E9) (w : World) :
    Calls Try.prog 25 #[.agg (entC e).toArray] w fun x w' => x = .returned (.agg (metaCells (goodP e) e.cnt e.fst e.early e.late)) ∧ Ext w w' := by
  have q := fun w => echeck_any e w
  unfold goodP
  generalize entP e = r at *
  obtain ⟨id, gen, fst, sld, cnt, blk, early, late, bytes⟩ := e
  dsimp only [entC] at *
  have b1 := Blk.new w 26 #[.int .i64 id, .int .i64 gen, .int .i64 fst, .bool sld, .int .i64 cnt, .int .i64 blk, .int .i64 early, .int .i64 late, .int .i64 bytes]
  have b2 := b1.alloc (.cells #[.int .i64 0, .int .i64 0, .int .i64 0, .int .i64 0, .int .i64 0, .int .i64 0, .int .i64 0] 50)
  have B1 := Lib.hid b1
  have B2 := Lib.hid b2
  have B3 := Lib.hid (Blk.new (w.alloc (.cells #[.int .i64 id, .int .i64 gen, .int .i64 fst, .bool sld, .int .i64 cnt, .int .i64 blk, .int .i64 early, .int .i64 late, .int .i64 bytes] 26)) 50 #[.int .i64 0, .int .i64 0, .int .i64 0, .int .i64 0, .int .i64 0, .int .i64 0, .int .i64 0])
  have B4 := Lib.hid (Blk.new (w.alloc (.cells #[.int .i64 id, .int .i64 gen, .int .i64 fst, .bool sld, .int .i64 cnt, .int .i64 blk, .int .i64 early, .int .i64 late, .int .i64 bytes] 26)) 50 #[.int .i64 0, .int .i64 0, .int .i64 0, .int .i64 cnt, .int .i64 fst, .int .i64 early, .int .i64 late])
  rw [World.size_alloc] at B3 B4
  have c3 := b2.cell 3
  have SZ := Lib.hid ent_size
  clear b1 b2
  have Q := Lib.hid q
  clear q
  have EMZ := Lib.hid (show (Try.prog.info? 50).map (·.size) = some 7 from meta_size)
  have X0 := Lib.hid (((Ext.refl w).alloc (.cells #[.int .i64 id, .int .i64 gen, .int .i64 fst, .bool sld, .int .i64 cnt, .int .i64 blk, .int .i64 early, .int .i64 late, .int .i64 bytes] 26)).alloc (.cells #[.int .i64 0, .int .i64 0, .int .i64 0, .int .i64 0, .int .i64 0, .int .i64 0, .int .i64 0] 50))
  cases sld with
  | false =>
    simp only [Bool.false_and, metaCells, Bool.false_eq_true, if_false]
    go_enter Try.func25, Try.ntmps25
    go_wp2_with fail
    exact bodyPost_ret (results_cell_row rfl _ _ (w.heap.size + 1) _ _ (0, 0) _ rfl B3.out Try.underlying50 rfl EMZ.out) rfl ⟨rfl, X0.out⟩
  | true =>
    cases r with
    | false =>
      simp only [Bool.true_and, metaCells, Bool.false_eq_true, if_false, errI] at *
      go_enter Try.func25, Try.ntmps25
      go_wp2_with (refine wpList_load_blk_g (by kernel_rfl) 26 (.tmp 1) rfl rfl B2.out Try.underlying26 rfl SZ.out ?_)
      refine (Q.out _).mono ?_
      rintro _ w1 ⟨rfl, x1⟩
      have B3 := Lib.hid (B3.out.ext x1)
      have X1 := Lib.hid (X0.out.trans x1)
      go_wp2_with (refine wpList_store_blk rfl 50 (.tmp 2) (.tmp 11) rfl rfl rfl B3.out rfl EMZ.out (by kernel_rfl) ?_)
      exact bodyPost_ret (results_cell_row rfl _ _ (w.heap.size + 1) _ _ (0, 0) _ rfl (B3.out.setRow #[.int .i64 0, .int .i64 0, .int .i64 0, .int .i64 0, .int .i64 0, .int .i64 0, .int .i64 0]) Try.underlying50 rfl EMZ.out) rfl ⟨rfl, X1.out.setRow (by omega) _⟩
    | true =>
      simp only [Bool.true_and, metaCells, if_true, errI] at *
      go_enter Try.func25, Try.ntmps25
      go_wp2_with (refine wpList_load_blk_g (by kernel_rfl) 26 (.tmp 1) rfl rfl B2.out Try.underlying26 rfl SZ.out ?_)
      refine (Q.out _).mono ?_
      rintro _ w1 ⟨rfl, x1⟩
      have B3 := Lib.hid (B3.out.ext x1)
      have B2 := (B2.out.ext x1)
      have d2 := B2.cell 2
      have d4 := B2.cell 4
      have d6 := B2.cell 6
      have d7 := B2.cell 7
      clear B2
      have X1 := Lib.hid (X0.out.trans x1)
      go_wp2_with (refine wpList_store_blk rfl 50 (.tmp 2) (.tmp 21) rfl rfl rfl B3.out rfl EMZ.out (by kernel_rfl) ?_)
      exact bodyPost_ret (results_cell_row rfl _ _ (w.heap.size + 1) _ _ (0, 0) _ rfl (B3.out.setRow #[.int .i64 0, .int .i64 0, .int .i64 0, .int .i64 cnt, .int .i64 fst, .int .i64 early, .int .i64 late]) Try.underlying50 rfl EMZ.out) rfl ⟨rfl, X1.out.setRow (by omega) _⟩

set_option maxRecDepth 20000 in
set_option maxHeartbeats 8000000 in
theorem eSeqs_any (e : E9) (w : World) :
    Calls Try.prog 16 #[.agg (entC e).toArray] w fun x w' => x = .returned (.agg #[.int .i64 (seqLo e), .int .i64 (seqHi e)]) ∧ Ext w w' := by
  have q := Lib.hid (fun w => emeta_any e w)
  have qs : Hid (∀ w, Calls Try.prog 24 #[.agg (metaCells (goodP e) e.cnt e.fst e.early e.late)] w fun x w' => x = .returned (.agg #[.int .i64 (seqLo e), .int .i64 (seqHi e)]) ∧ Ext w w') := Lib.hid (fun w => by
    unfold seqLo seqHi metaCells
    cases hg : goodP e with
    | false => exact bSeqs_zero 0 0 0 0 0 0 w
    | true => exact bSeqs_good 0 0 0 e.cnt e.fst e.early e.late w (good_sum hg))
  generalize metaCells (goodP e) e.cnt e.fst e.early e.late = mc at *
  generalize seqLo e = lo at *
  generalize seqHi e = hi at *
  have SZ := Lib.hid (show (Try.prog.info? 26).map (·.size) = some (entC e).toArray.size from ent_size)
  generalize entC e = ce at *
  have B1 := Lib.hid ((Blk.new w 26 ce.toArray).alloc (.cells #[.int .i64 0, .int .i64 0] 43))
  have B3 := Lib.hid (Blk.new (w.alloc (.cells ce.toArray 26)) 43 #[.int .i64 0, .int .i64 0])
  rw [World.size_alloc] at B3
  have X0 := Lib.hid (((Ext.refl w).alloc (.cells ce.toArray 26)).alloc (.cells #[.int .i64 0, .int .i64 0] 43))
  have RS := Lib.hid range_size
  go_enter Try.func16, Try.ntmps16
  go_wp2_with (refine wpList_load_blk rfl 26 (.tmp 1) rfl rfl B1.out Try.underlying26 rfl SZ.out ?_)
  refine (q.out _).mono ?_
  rintro _ w1 ⟨rfl, x1⟩
  go_wp2_with fail
  refine (qs.out _).mono ?_
  rintro _ w2 ⟨rfl, x2⟩
  have B3 := Lib.hid ((B3.out.ext x1).ext x2)
  have X1 := Lib.hid ((X0.out.trans x1).trans x2)
  clear x1 x2
  go_wp2_with (refine wpList_store_blk rfl 43 (.tmp 2) (.tmp 5) rfl rfl rfl B3.out rfl RS.out (by kernel_rfl) ?_)
  exact bodyPost_ret (results_cell_row rfl _ _ (w.heap.size + 1) _ _ (0, 0) _ rfl (B3.out.setRow #[.int .i64 lo, .int .i64 hi]) Try.underlying43 rfl RS.out) rfl ⟨rfl, X1.out.setRow (by omega) _⟩
set_option maxRecDepth 20000 in
set_option maxHeartbeats 8000000 in
theorem eTicks_any (e : E9) (w : World) :
    Calls Try.prog 17 #[.agg (entC e).toArray] w fun x w' => x = .returned (.agg #[.int .i64 (tickLo e), .int .i64 (tickHi e)]) ∧ Ext w w' := by
  have q := Lib.hid (fun w => emeta_any e w)
  have qs : Hid (∀ w, Calls Try.prog 26 #[.agg (metaCells (goodP e) e.cnt e.fst e.early e.late)] w fun x w' => x = .returned (.agg #[.int .i64 (tickLo e), .int .i64 (tickHi e)]) ∧ Ext w w') := Lib.hid (fun w => by
    unfold tickLo tickHi metaCells
    cases hg : goodP e with
    | false => exact bTicks_zero 0 0 0 0 0 0 w
    | true => exact bTicks_good 0 0 0 e.cnt e.fst e.early e.late w (good_sum hg).2.1)
  generalize metaCells (goodP e) e.cnt e.fst e.early e.late = mc at *
  generalize tickLo e = lo at *
  generalize tickHi e = hi at *
  have SZ := Lib.hid (show (Try.prog.info? 26).map (·.size) = some (entC e).toArray.size from ent_size)
  generalize entC e = ce at *
  have B1 := Lib.hid ((Blk.new w 26 ce.toArray).alloc (.cells #[.int .i64 0, .int .i64 0] 43))
  have B3 := Lib.hid (Blk.new (w.alloc (.cells ce.toArray 26)) 43 #[.int .i64 0, .int .i64 0])
  rw [World.size_alloc] at B3
  have X0 := Lib.hid (((Ext.refl w).alloc (.cells ce.toArray 26)).alloc (.cells #[.int .i64 0, .int .i64 0] 43))
  have RS := Lib.hid range_size
  go_enter Try.func17, Try.ntmps17
  go_wp2_with (refine wpList_load_blk rfl 26 (.tmp 1) rfl rfl B1.out Try.underlying26 rfl SZ.out ?_)
  refine (q.out _).mono ?_
  rintro _ w1 ⟨rfl, x1⟩
  go_wp2_with fail
  refine (qs.out _).mono ?_
  rintro _ w2 ⟨rfl, x2⟩
  have B3 := Lib.hid ((B3.out.ext x1).ext x2)
  have X1 := Lib.hid ((X0.out.trans x1).trans x2)
  clear x1 x2
  go_wp2_with (refine wpList_store_blk rfl 43 (.tmp 2) (.tmp 5) rfl rfl rfl B3.out rfl RS.out (by kernel_rfl) ?_)
  exact bodyPost_ret (results_cell_row rfl _ _ (w.heap.size + 1) _ _ (0, 0) _ rfl (B3.out.setRow #[.int .i64 lo, .int .i64 hi]) Try.underlying43 rfl RS.out) rfl ⟨rfl, X1.out.setRow (by omega) _⟩
end Go.Proofs.Ytplbebcckffgeaa
