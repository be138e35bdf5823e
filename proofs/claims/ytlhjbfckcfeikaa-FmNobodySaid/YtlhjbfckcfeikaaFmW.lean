/- FmNobody: an index that no call made; the law's walk. -/
import Derived.Test.YtlhjbfckcfeikaaFmS
import Derived.Test.YtlhjbfckcfeikaaFmU
namespace Go.Proofs.Ytlhjbfckcfeikaa
set_option linter.unusedVariables false
set_option linter.unusedSimpArgs false
open Go.RowKit
attribute [local go_sem] S_size S_toList S_beq S_bne S_empty S_nil

/-- an index that no call made -/
def NX (w : World) (p : Option Addr) : Prop := p = none ∨ ∃ g, p = some ⟨g, 0, none⟩ ∧ w.cell? ⟨g, 261, none⟩ = some (.bool false)
theorem NX.ext {w w' : World} {p : Option Addr} (h : NX w p) (x : Ext w w') : NX w' p := by
  rcases h with rfl | ⟨g, rfl, h⟩
  · exact .inl rfl
  · exact .inr ⟨g, rfl, Go.cell_later x h⟩

set_option maxRecDepth 20000 in
set_option maxHeartbeats 8000000 in
theorem rows_none (p : Option Addr) (what : List UInt8) (w : World) (h : NX w p) :
    Calls Try.prog 10 #[.pointer p, .string (S what)] w fun e w' => e = .returned (.agg #[.int .i64 1, .int .i64 0]) ∧ Ext w w' := by
  have RS := Lib.hid rng_size
  have QN := Lib.hid none_any
  have X0 := Lib.hid ((Ext.refl w).alloc (.cells #[.int .i64 0, .int .i64 0] 23))
  have B4 := Lib.hid (Blk.new w 23 #[.int .i64 0, .int .i64 0])
  rcases h with rfl | ⟨g, rfl, h⟩
  · go_enter Try.func10, Try.ntmps10
    go_wp2_with fail
    refine (QN.out _).mono ?_
    rintro _ w1 ⟨rfl, x1⟩
    have B5 := Lib.hid (B4.out.ext x1)
    have X1 := Lib.hid (X0.out.trans x1)
    clear x1
    go_wp2_with (refine wpList_store_blk rfl 23 (.tmp 4) (.tmp 17) rfl rfl rfl B5.out rfl RS.out (by kernel_rfl) ?_; refine Held.go ?_)
    refine ⟨?_⟩
    go_wp2
    exact bodyPost_ret (results_cell_row rfl _ _ w.heap.size _ _ (0, 0) _ rfl (B5.out.setRow _) Try.underlying23 rfl RS.out) rfl ⟨rfl, Ext.setRow X1.out (Nat.le_refl _) _⟩
  · have cm := Go.cell_later X0.out h
    clear h
    go_enter Try.func10, Try.ntmps10
    go_wp2_with fail
    refine (QN.out _).mono ?_
    rintro _ w1 ⟨rfl, x1⟩
    have B5 := Lib.hid (B4.out.ext x1)
    have X1 := Lib.hid (X0.out.trans x1)
    clear x1
    go_wp2_with (refine wpList_store_blk rfl 23 (.tmp 4) (.tmp 17) rfl rfl rfl B5.out rfl RS.out (by kernel_rfl) ?_; refine Held.go ?_)
    refine ⟨?_⟩
    go_wp2
    exact bodyPost_ret (results_cell_row rfl _ _ w.heap.size _ _ (0, 0) _ rfl (B5.out.setRow _) Try.underlying23 rfl RS.out) rfl ⟨rfl, Ext.setRow X1.out (Nat.le_refl _) _⟩

set_option maxRecDepth 20000 in
set_option maxHeartbeats 8000000 in
theorem back_none (p : Option Addr) (lo hi : Int) (b : UInt8) (w : World) (h : NX w p) :
    Calls Try.prog 18 #[.pointer p, .agg #[.int .i64 lo, .int .i64 hi], .int .u8 (U8 b)] w fun e w' => e = .returned (.agg #[.int .i64 1, .int .i64 0]) ∧ Ext w w' := by
  have RS := Lib.hid rng_size
  have QN := Lib.hid none_any
  have X0 := Lib.hid (((Ext.refl w).alloc (.cells #[.int .i64 lo, .int .i64 hi] 23)).alloc (.cells #[.int .i64 0, .int .i64 0] 23))
  have b6 := Blk.new (w.alloc (.cells #[.int .i64 lo, .int .i64 hi] 23)) 23 #[.int .i64 0, .int .i64 0]
  rw [World.size_alloc] at b6
  have B6 := Lib.hid b6
  clear b6
  rcases h with rfl | ⟨g, rfl, h⟩
  · go_enter Try.func18, Try.ntmps18
    go_wp2_with fail
    refine (QN.out _).mono ?_
    rintro _ w1 ⟨rfl, x1⟩
    have B5 := Lib.hid (B6.out.ext x1)
    have X1 := Lib.hid (X0.out.trans x1)
    clear x1
    go_wp2_with (refine wpList_store_blk rfl 23 (.tmp 6) (.tmp 20) rfl rfl rfl B5.out rfl RS.out (by kernel_rfl) ?_; refine Held.go ?_)
    refine ⟨?_⟩
    go_wp2
    exact bodyPost_ret (results_cell_row rfl _ _ (w.heap.size + 1) _ _ (0, 0) _ rfl (B5.out.setRow _) Try.underlying23 rfl RS.out) rfl ⟨rfl, Ext.setRow X1.out (Nat.le_succ _) _⟩
  · have cm := Go.cell_later X0.out h
    clear h
    go_enter Try.func18, Try.ntmps18
    go_wp2_with fail
    refine (QN.out _).mono ?_
    rintro _ w1 ⟨rfl, x1⟩
    have B5 := Lib.hid (B6.out.ext x1)
    have X1 := Lib.hid (X0.out.trans x1)
    clear x1
    go_wp2_with (refine wpList_store_blk rfl 23 (.tmp 6) (.tmp 20) rfl rfl rfl B5.out rfl RS.out (by kernel_rfl) ?_; refine Held.go ?_)
    refine ⟨?_⟩
    go_wp2
    exact bodyPost_ret (results_cell_row rfl _ _ (w.heap.size + 1) _ _ (0, 0) _ rfl (B5.out.setRow _) Try.underlying23 rfl RS.out) rfl ⟨rfl, Ext.setRow X1.out (Nat.le_succ _) _⟩

set_option maxRecDepth 20000 in
set_option maxHeartbeats 8000000 in
theorem text_none (p : Option Addr) (at_ n : Int) (w : World) (h : NX w p) :
    Calls Try.prog 16 #[.pointer p, .int .i64 at_, .int .i64 n] w fun e w' => e = .returned (.string (S [])) ∧ Ext w w' := by
  rcases h with rfl | ⟨g, rfl, h⟩
  all_goals
    go_enter Try.func16, Try.ntmps16
    go_wp2
    go_ret
    exact ⟨rfl, Ext.refl _⟩

set_option maxRecDepth 20000 in
set_option maxHeartbeats 8000000 in
theorem count_none (p : Option Addr) (what : List UInt8) (w : World) (h : NX w p) :
    Calls Try.prog 12 #[.pointer p, .string (S what)] w fun e w' => e = .returned (.int .i64 0) ∧ Ext w w' := by
  have RS := Lib.hid rng_size
  have Q := Lib.hid (rows_none p what w h)
  clear h
  go_enter Try.func12, Try.ntmps12
  go_wp2_with fail
  refine Q.out.mono ?_
  rintro _ w1 ⟨rfl, x1⟩
  have X1 := Lib.hid (x1.alloc (.cells #[.int .i64 1, .int .i64 0] 23))
  have B5 := Lib.hid (Blk.new w1 23 #[.int .i64 1, .int .i64 0])
  clear x1
  go_wp2_with (refine wpList_store_new rfl 23 (.tmp 5) (.tmp 8) rfl rfl rfl rfl RS.out (by kernel_rfl) ?_; refine Held.go ?_)
  refine ⟨?_⟩
  generalize w1.alloc (.cells #[.int .i64 1, .int .i64 0] 23) = w2 at *
  have d0 := B5.out.cell 0
  have d1 := B5.out.cell 1
  simp only [List.getElem?_toArray, List.getElem?_cons_zero, List.getElem?_cons_succ] at d0 d1
  go_wp2
  go_ret
  exact ⟨rfl, X1.out⟩
set_option maxRecDepth 20000 in
set_option maxHeartbeats 8000000 in
theorem places_none (p : Option Addr) (what : List UInt8) (w : World) (h : NX w p) :
    Calls Try.prog 15 #[.pointer p, .string (S what)] w fun e w' => e = .returned (.slice none 0 0) ∧ Ext w w' := by
  have RS := Lib.hid rng_size
  have Q := Lib.hid (rows_none p what w h)
  clear h
  go_enter Try.func15, Try.ntmps15
  go_wp2_with fail
  refine Q.out.mono ?_
  rintro _ w1 ⟨rfl, x1⟩
  have X1 := Lib.hid (x1.alloc (.cells #[.int .i64 1, .int .i64 0] 23))
  have B5 := Lib.hid (Blk.new w1 23 #[.int .i64 1, .int .i64 0])
  clear x1
  go_wp2_with (refine wpList_store_new rfl 23 (.tmp 5) (.tmp 9) rfl rfl rfl rfl RS.out (by kernel_rfl) ?_; refine Held.go ?_)
  refine ⟨?_⟩
  generalize w1.alloc (.cells #[.int .i64 1, .int .i64 0] 23) = w2 at *
  have d0 := B5.out.cell 0
  have d1 := B5.out.cell 1
  simp only [List.getElem?_toArray, List.getElem?_cons_zero, List.getElem?_cons_succ] at d0 d1
  go_wp2
  go_ret
  exact ⟨rfl, X1.out⟩
end Go.Proofs.Ytlhjbfckcfeikaa
