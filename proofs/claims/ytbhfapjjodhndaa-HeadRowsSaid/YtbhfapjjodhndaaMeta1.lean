/- head: within, alone, follows; block: Seqs. -/
import Derived.Test.YtbhfapjjodhndaaReadG
import Derived.Test.YtbhfapjjodhndaaGen
import Derived.LoopTactic
import Derived.Test.YtbhfapjjodhndaaWithin
namespace Go.Proofs.Ytbhfapjjodhndaa
set_option linter.unusedVariables false
set_option linter.unusedSimpArgs false
open Go.RowKit

/-- a block's record -/
structure M7 where
  at_ : Int
  sz : Int
  raw : Int
  cnt : Int
  fst : Int
  early : Int
  late : Int
instance : Inhabited M7 := ⟨⟨0, 0, 0, 0, 0, 0, 0⟩⟩
def metaC (m : M7) : List Value := [.int .i64 m.at_, .int .i64 m.sz, .int .i64 m.raw, .int .i64 m.cnt, .int .i64 m.fst, .int .i64 m.early, .int .i64 m.late]
theorem metaC_length (m : M7) : (metaC m).length = 7 := rfl
theorem metaC_one (m : M7) : ∀ u ∈ metaC m, u.oneCell' = true := by
  intro u hu
  simp only [metaC, List.mem_cons, List.not_mem_nil, or_false] at hu
  rcases hu with rfl | rfl | rfl | rfl | rfl | rfl | rfl <;> rfl
def metaV (m : M7) : Value := .agg #[.int .i64 m.at_, .int .i64 m.sz, .int .i64 m.raw, .int .i64 m.cnt, .int .i64 m.fst, .int .i64 m.early, .int .i64 m.late]
theorem metaC_all (m : M7) : (metaC m).toArray.all (·.oneCell') = true := by simp [metaC, Value.oneCell']
theorem meta_size : (Try.prog.info? 55).map (·.size) = some 7 := by kernel_rfl

def aloneD (m : M7) : Prop := (0 ≤ m.at_ ∧ m.at_ ≤ 1000000) ∧ (10 ≤ m.sz ∧ m.sz ≤ 60009) ∧ (1 ≤ m.raw ∧ m.raw ≤ 20000) ∧ (1 ≤ m.cnt ∧ m.cnt ≤ m.raw) ∧ (1 ≤ m.fst ∧ m.fst ≤ 1000000001 - m.cnt) ∧ 0 ≤ m.early ∧ (m.early ≤ m.late ∧ m.late ≤ 1000000000)
instance (m : M7) : Decidable (aloneD m) := by unfold aloneD; infer_instance
/-- a block may be -/
def aloneP (m : M7) : Bool := decide (aloneD m)
def followsD (a b : M7) : Prop := b.at_ = a.at_ + a.sz ∧ b.fst = a.fst + a.cnt ∧ a.late ≤ b.early
instance (a b : M7) : Decidable (followsD a b) := by unfold followsD; infer_instance
/-- a block follows another one -/
def followsP (a b : M7) : Bool := decide (followsD a b)

theorem alone_cases (m : M7) :
    (aloneP m = true ∧ (0 ≤ m.at_ ∧ m.at_ ≤ 1000000) ∧ (10 ≤ m.sz ∧ m.sz ≤ 60009) ∧ (1 ≤ m.raw ∧ m.raw ≤ 20000) ∧ (1 ≤ m.cnt ∧ m.cnt ≤ m.raw) ∧ (1 ≤ m.fst ∧ m.fst ≤ 1000000001 - m.cnt) ∧ 0 ≤ m.early ∧ (m.early ≤ m.late ∧ m.late ≤ 1000000000)) ∨
    (aloneP m = false ∧ ¬ (0 ≤ m.at_ ∧ m.at_ ≤ 1000000)) ∨
    (aloneP m = false ∧ (0 ≤ m.at_ ∧ m.at_ ≤ 1000000) ∧ ¬ (10 ≤ m.sz ∧ m.sz ≤ 60009)) ∨
    (aloneP m = false ∧ (0 ≤ m.at_ ∧ m.at_ ≤ 1000000) ∧ (10 ≤ m.sz ∧ m.sz ≤ 60009) ∧ ¬ (1 ≤ m.raw ∧ m.raw ≤ 20000)) ∨
    (aloneP m = false ∧ (0 ≤ m.at_ ∧ m.at_ ≤ 1000000) ∧ (10 ≤ m.sz ∧ m.sz ≤ 60009) ∧ (1 ≤ m.raw ∧ m.raw ≤ 20000) ∧ ¬ (1 ≤ m.cnt ∧ m.cnt ≤ m.raw)) ∨
    (aloneP m = false ∧ (0 ≤ m.at_ ∧ m.at_ ≤ 1000000) ∧ (10 ≤ m.sz ∧ m.sz ≤ 60009) ∧ (1 ≤ m.raw ∧ m.raw ≤ 20000) ∧ (1 ≤ m.cnt ∧ m.cnt ≤ m.raw) ∧ ¬ (1 ≤ m.fst ∧ m.fst ≤ 1000000001 - m.cnt)) ∨
    (aloneP m = false ∧ (0 ≤ m.at_ ∧ m.at_ ≤ 1000000) ∧ (10 ≤ m.sz ∧ m.sz ≤ 60009) ∧ (1 ≤ m.raw ∧ m.raw ≤ 20000) ∧ (1 ≤ m.cnt ∧ m.cnt ≤ m.raw) ∧ (1 ≤ m.fst ∧ m.fst ≤ 1000000001 - m.cnt) ∧ ¬ 0 ≤ m.early) ∨
    (aloneP m = false ∧ (0 ≤ m.at_ ∧ m.at_ ≤ 1000000) ∧ (10 ≤ m.sz ∧ m.sz ≤ 60009) ∧ (1 ≤ m.raw ∧ m.raw ≤ 20000) ∧ (1 ≤ m.cnt ∧ m.cnt ≤ m.raw) ∧ (1 ≤ m.fst ∧ m.fst ≤ 1000000001 - m.cnt) ∧ 0 ≤ m.early ∧ ¬ (m.early ≤ m.late ∧ m.late ≤ 1000000000)) := by
  unfold aloneP
  rw [decide_eq_true_eq, decide_eq_false_iff_not]
  unfold aloneD
  by_cases h1 : (0 ≤ m.at_ ∧ m.at_ ≤ 1000000)
  · by_cases h2 : (10 ≤ m.sz ∧ m.sz ≤ 60009)
    · by_cases h3 : (1 ≤ m.raw ∧ m.raw ≤ 20000)
      · by_cases h4 : (1 ≤ m.cnt ∧ m.cnt ≤ m.raw)
        · by_cases h5 : (1 ≤ m.fst ∧ m.fst ≤ 1000000001 - m.cnt)
          · by_cases h6 : 0 ≤ m.early
            · by_cases h7 : (m.early ≤ m.late ∧ m.late ≤ 1000000000)
              · exact .inl ⟨⟨h1, h2, h3, h4, h5, h6, h7⟩, h1, h2, h3, h4, h5, h6, h7⟩
              · exact .inr (.inr (.inr (.inr (.inr (.inr (.inr ⟨fun h => h7 h.2.2.2.2.2.2, h1, h2, h3, h4, h5, h6, h7⟩))))))
            · exact .inr (.inr (.inr (.inr (.inr (.inr (.inl ⟨fun h => h6 h.2.2.2.2.2.1, h1, h2, h3, h4, h5, h6⟩))))))
          · exact .inr (.inr (.inr (.inr (.inr (.inl ⟨fun h => h5 h.2.2.2.2.1, h1, h2, h3, h4, h5⟩)))))
        · exact .inr (.inr (.inr (.inr (.inl ⟨fun h => h4 h.2.2.2.1, h1, h2, h3, h4⟩))))
      · exact .inr (.inr (.inr (.inl ⟨fun h => h3 h.2.2.1, h1, h2, h3⟩)))
    · exact .inr (.inr (.inl ⟨fun h => h2 h.2.1, h1, h2⟩))
  · exact .inr (.inl ⟨fun h => h1 h.1, h1⟩)

set_option maxRecDepth 20000 in
set_option maxHeartbeats 4000000 in
theorem alone_any (m : M7) (w : World) :
    Calls Try.prog 38 #[metaV m] w fun e w' => e = .returned (.bool (aloneP m)) ∧ Ext w w' := by
  have hcases := alone_cases m
  generalize aloneP m = r at *
  unfold metaV
  obtain ⟨at_, sz, raw, cnt, fst, early, late⟩ := m
  dsimp only at *
  have b1 := Lib.hid (Blk.new w 55 #[.int .i64 at_, .int .i64 sz, .int .i64 raw, .int .i64 cnt, .int .i64 fst, .int .i64 early, .int .i64 late])
  have c0 := b1.out.cell 0
  have c1 := b1.out.cell 1
  have c2 := b1.out.cell 2
  have c3 := b1.out.cell 3
  have c4 := b1.out.cell 4
  have c5 := b1.out.cell 5
  have c6 := b1.out.cell 6
  rcases hcases with ⟨rfl, h1, h2, h3, h4, h5, h6, h7⟩ | ⟨rfl, h1⟩ | ⟨rfl, h1, h2⟩ | ⟨rfl, h1, h2, h3⟩ | ⟨rfl, h1, h2, h3, h4⟩ | ⟨rfl, h1, h2, h3, h4, h5⟩ | ⟨rfl, h1, h2, h3, h4, h5, h6⟩ | ⟨rfl, h1, h2, h3, h4, h5, h6, h7⟩
  · have q1 := Lib.hid (fun w => within_yes _ _ _ w h1)
    have q2 := Lib.hid (fun w => within_yes _ _ _ w h2)
    have q3 := Lib.hid (fun w => within_yes _ _ _ w h3)
    have q4 := Lib.hid (fun w => within_yes _ _ _ w h4)
    have q5 := Lib.hid (fun w => within_yes _ _ _ w h5)
    have q7 := Lib.hid (fun w => within_yes _ _ _ w h7)
    have e1 : IntKind.i64.wrap (1000000001 - cnt) = 1000000001 - cnt := by rw [IntKind.wrap_i64]; omega
    clear h1 h2 h3 h4 h5 h7
    go_enter Try.func38, Try.ntmps38
    go_wp2_with fail
    refine (q1.out _).mono ?_
    rintro _ _ ⟨rfl, rfl⟩
    go_wp2_with fail
    refine (q2.out _).mono ?_
    rintro _ _ ⟨rfl, rfl⟩
    go_wp2_with fail
    refine (q3.out _).mono ?_
    rintro _ _ ⟨rfl, rfl⟩
    go_wp2_with fail
    refine (q4.out _).mono ?_
    rintro _ _ ⟨rfl, rfl⟩
    go_wp2_with fail
    refine (q5.out _).mono ?_
    rintro _ _ ⟨rfl, rfl⟩
    go_wp2_with fail
    refine (q7.out _).mono ?_
    rintro _ _ ⟨rfl, rfl⟩
    go_wp2_with fail
    go_ret
    exact ⟨rfl, (Ext.refl _).alloc _⟩
  · have q1 := Lib.hid (fun w => within_no _ _ _ w h1)
    clear h1
    go_enter Try.func38, Try.ntmps38
    go_wp2_with fail
    refine (q1.out _).mono ?_
    rintro _ _ ⟨rfl, rfl⟩
    go_wp2_with fail
    go_ret
    exact ⟨rfl, (Ext.refl _).alloc _⟩
  · have q1 := Lib.hid (fun w => within_yes _ _ _ w h1)
    have q2 := Lib.hid (fun w => within_no _ _ _ w h2)
    clear h1 h2
    go_enter Try.func38, Try.ntmps38
    go_wp2_with fail
    refine (q1.out _).mono ?_
    rintro _ _ ⟨rfl, rfl⟩
    go_wp2_with fail
    refine (q2.out _).mono ?_
    rintro _ _ ⟨rfl, rfl⟩
    go_wp2_with fail
    go_ret
    exact ⟨rfl, (Ext.refl _).alloc _⟩
  · have q1 := Lib.hid (fun w => within_yes _ _ _ w h1)
    have q2 := Lib.hid (fun w => within_yes _ _ _ w h2)
    have q3 := Lib.hid (fun w => within_no _ _ _ w h3)
    clear h1 h2 h3
    go_enter Try.func38, Try.ntmps38
    go_wp2_with fail
    refine (q1.out _).mono ?_
    rintro _ _ ⟨rfl, rfl⟩
    go_wp2_with fail
    refine (q2.out _).mono ?_
    rintro _ _ ⟨rfl, rfl⟩
    go_wp2_with fail
    refine (q3.out _).mono ?_
    rintro _ _ ⟨rfl, rfl⟩
    go_wp2_with fail
    go_ret
    exact ⟨rfl, (Ext.refl _).alloc _⟩
  · have q1 := Lib.hid (fun w => within_yes _ _ _ w h1)
    have q2 := Lib.hid (fun w => within_yes _ _ _ w h2)
    have q3 := Lib.hid (fun w => within_yes _ _ _ w h3)
    have q4 := Lib.hid (fun w => within_no _ _ _ w h4)
    clear h1 h2 h3 h4
    go_enter Try.func38, Try.ntmps38
    go_wp2_with fail
    refine (q1.out _).mono ?_
    rintro _ _ ⟨rfl, rfl⟩
    go_wp2_with fail
    refine (q2.out _).mono ?_
    rintro _ _ ⟨rfl, rfl⟩
    go_wp2_with fail
    refine (q3.out _).mono ?_
    rintro _ _ ⟨rfl, rfl⟩
    go_wp2_with fail
    refine (q4.out _).mono ?_
    rintro _ _ ⟨rfl, rfl⟩
    go_wp2_with fail
    go_ret
    exact ⟨rfl, (Ext.refl _).alloc _⟩
  · have q1 := Lib.hid (fun w => within_yes _ _ _ w h1)
    have q2 := Lib.hid (fun w => within_yes _ _ _ w h2)
    have q3 := Lib.hid (fun w => within_yes _ _ _ w h3)
    have q4 := Lib.hid (fun w => within_yes _ _ _ w h4)
    have q5 := Lib.hid (fun w => within_no _ _ _ w h5)
    have e1 : IntKind.i64.wrap (1000000001 - cnt) = 1000000001 - cnt := by rw [IntKind.wrap_i64]; omega
    clear h1 h2 h3 h4 h5
    go_enter Try.func38, Try.ntmps38
    go_wp2_with fail
    refine (q1.out _).mono ?_
    rintro _ _ ⟨rfl, rfl⟩
    go_wp2_with fail
    refine (q2.out _).mono ?_
    rintro _ _ ⟨rfl, rfl⟩
    go_wp2_with fail
    refine (q3.out _).mono ?_
    rintro _ _ ⟨rfl, rfl⟩
    go_wp2_with fail
    refine (q4.out _).mono ?_
    rintro _ _ ⟨rfl, rfl⟩
    go_wp2_with fail
    refine (q5.out _).mono ?_
    rintro _ _ ⟨rfl, rfl⟩
    go_wp2_with fail
    go_ret
    exact ⟨rfl, (Ext.refl _).alloc _⟩
  · have q1 := Lib.hid (fun w => within_yes _ _ _ w h1)
    have q2 := Lib.hid (fun w => within_yes _ _ _ w h2)
    have q3 := Lib.hid (fun w => within_yes _ _ _ w h3)
    have q4 := Lib.hid (fun w => within_yes _ _ _ w h4)
    have q5 := Lib.hid (fun w => within_yes _ _ _ w h5)
    have e1 : IntKind.i64.wrap (1000000001 - cnt) = 1000000001 - cnt := by rw [IntKind.wrap_i64]; omega
    clear h1 h2 h3 h4 h5
    go_enter Try.func38, Try.ntmps38
    go_wp2_with fail
    refine (q1.out _).mono ?_
    rintro _ _ ⟨rfl, rfl⟩
    go_wp2_with fail
    refine (q2.out _).mono ?_
    rintro _ _ ⟨rfl, rfl⟩
    go_wp2_with fail
    refine (q3.out _).mono ?_
    rintro _ _ ⟨rfl, rfl⟩
    go_wp2_with fail
    refine (q4.out _).mono ?_
    rintro _ _ ⟨rfl, rfl⟩
    go_wp2_with fail
    refine (q5.out _).mono ?_
    rintro _ _ ⟨rfl, rfl⟩
    go_wp2_with fail
    go_ret
    exact ⟨rfl, (Ext.refl _).alloc _⟩
  · have q1 := Lib.hid (fun w => within_yes _ _ _ w h1)
    have q2 := Lib.hid (fun w => within_yes _ _ _ w h2)
    have q3 := Lib.hid (fun w => within_yes _ _ _ w h3)
    have q4 := Lib.hid (fun w => within_yes _ _ _ w h4)
    have q5 := Lib.hid (fun w => within_yes _ _ _ w h5)
    have q7 := Lib.hid (fun w => within_no _ _ _ w h7)
    have e1 : IntKind.i64.wrap (1000000001 - cnt) = 1000000001 - cnt := by rw [IntKind.wrap_i64]; omega
    clear h1 h2 h3 h4 h5 h7
    go_enter Try.func38, Try.ntmps38
    go_wp2_with fail
    refine (q1.out _).mono ?_
    rintro _ _ ⟨rfl, rfl⟩
    go_wp2_with fail
    refine (q2.out _).mono ?_
    rintro _ _ ⟨rfl, rfl⟩
    go_wp2_with fail
    refine (q3.out _).mono ?_
    rintro _ _ ⟨rfl, rfl⟩
    go_wp2_with fail
    refine (q4.out _).mono ?_
    rintro _ _ ⟨rfl, rfl⟩
    go_wp2_with fail
    refine (q5.out _).mono ?_
    rintro _ _ ⟨rfl, rfl⟩
    go_wp2_with fail
    refine (q7.out _).mono ?_
    rintro _ _ ⟨rfl, rfl⟩
    go_wp2_with fail
    go_ret
    exact ⟨rfl, (Ext.refl _).alloc _⟩

theorem aloneP_iff {m : M7} : aloneP m = true ↔ aloneD m := by unfold aloneP; rw [decide_eq_true_eq]
theorem run_range (a b : Int) (w : World) : (Instr.build 96 #[(0, .int .i64 a), (1, .int .i64 b)]).run Try.prog w = .ok (.agg #[.int .i64 a, .int .i64 b]) w := by kernel_rfl
theorem range_f1 (a b : Int) (w : World) : (Instr.field 96 (.agg #[.int .i64 a, .int .i64 b]) 1).run Try.prog w = .ok (.int .i64 b) w := by kernel_rfl
theorem range_zero (w : World) : (zeroValue 96).run Try.prog w = .ok (.agg #[.int .i64 0, .int .i64 0]) w := by kernel_rfl
theorem range_size : (Try.prog.info? 96).map (·.size) = some 2 := by kernel_rfl

set_option maxRecDepth 20000 in
set_option maxHeartbeats 4000000 in
theorem seqs_any (m : M7) (w : World) (h : aloneD m) :
    Calls Try.prog 51 #[metaV m] w fun e w' => e = .returned (.agg #[.int .i64 m.fst, .int .i64 (m.fst + m.cnt - 1)]) ∧ Ext w w' := by
  obtain ⟨-, -, k3, k4, k5, -⟩ := h
  unfold metaV
  obtain ⟨at_, sz, raw, cnt, fst, early, late⟩ := m
  dsimp only at *
  have b1 := Lib.hid (Blk.new w 55 #[.int .i64 at_, .int .i64 sz, .int .i64 raw, .int .i64 cnt, .int .i64 fst, .int .i64 early, .int .i64 late])
  have b2 := Lib.hid (b1.out.alloc (.cells #[.int .i64 0, .int .i64 0] 96))
  have b3 := Lib.hid (Blk.new (w.alloc (.cells #[.int .i64 at_, .int .i64 sz, .int .i64 raw, .int .i64 cnt, .int .i64 fst, .int .i64 early, .int .i64 late] 55)) 96 #[.int .i64 fst, .int .i64 (fst + cnt - 1)])
  rw [World.size_alloc] at b3
  have c3 := b2.out.cell 3
  have c4 := b2.out.cell 4
  have n1 : ¬ cnt < 1 := by omega
  have e1 : IntKind.i64.wrap (cnt - 1) = cnt - 1 := by rw [IntKind.wrap_i64]; omega
  have e2 : IntKind.i64.wrap (9223372036854775807 - (cnt - 1)) = 9223372036854775807 - (cnt - 1) := by rw [IntKind.wrap_i64]; omega
  have n2 : ¬ 9223372036854775807 - (cnt - 1) < fst := by omega
  have e3 : IntKind.i64.wrap (fst + (cnt - 1)) = fst + cnt - 1 := by rw [IntKind.wrap_i64]; omega
  clear k3 k4 k5
  go_enter Try.func51, Try.ntmps51
  go_wp2
  exact bodyPost_ret (results_cell_row rfl _ _ (w.heap.size + 1) _ _ (0, 0) _ rfl b3.out Try.underlying96 rfl range_size) rfl ⟨rfl, ((Ext.refl _).alloc _).alloc _⟩

attribute [local go_sem] range_f1
theorem follows_cases (a b : M7) :
    (followsP a b = false ∧ ¬ b.at_ = a.at_ + a.sz) ∨ (followsP a b = false ∧ b.at_ = a.at_ + a.sz ∧ ¬ b.fst = a.fst + a.cnt) ∨ (followsP a b = decide (a.late ≤ b.early) ∧ b.at_ = a.at_ + a.sz ∧ b.fst = a.fst + a.cnt) := by
  unfold followsP followsD
  by_cases h1 : b.at_ = a.at_ + a.sz
  · by_cases h2 : b.fst = a.fst + a.cnt
    · exact .inr (.inr ⟨by simp [h1, h2], h1, h2⟩)
    · exact .inr (.inl ⟨by simp [h2], h1, h2⟩)
  · exact .inl ⟨by simp [h1], h1⟩

set_option maxRecDepth 20000 in
set_option maxHeartbeats 4000000 in
theorem follows_any (a b : M7) (w : World) (h : aloneD a) :
    Calls Try.prog 39 #[metaV a, metaV b] w fun e w' => e = .returned (.bool (followsP a b)) ∧ Ext w w' := by
  have q := Lib.hid (fun w => seqs_any a w h)
  have hcases := follows_cases a b
  generalize followsP a b = r at *
  obtain ⟨k1, k2, k3, k4, k5, -⟩ := h
  unfold metaV at *
  obtain ⟨at_, sz, raw, cnt, fst, early, late⟩ := a
  obtain ⟨bt_, bz, braw, bcnt, bfst, bearly, blate⟩ := b
  dsimp only at *
  have b1 := (Blk.new w 55 #[.int .i64 at_, .int .i64 sz, .int .i64 raw, .int .i64 cnt, .int .i64 fst, .int .i64 early, .int .i64 late]).alloc (.cells #[.int .i64 bt_, .int .i64 bz, .int .i64 braw, .int .i64 bcnt, .int .i64 bfst, .int .i64 bearly, .int .i64 blate] 55)
  have b2 := Blk.new (w.alloc (.cells #[.int .i64 at_, .int .i64 sz, .int .i64 raw, .int .i64 cnt, .int .i64 fst, .int .i64 early, .int .i64 late] 55)) 55 #[.int .i64 bt_, .int .i64 bz, .int .i64 braw, .int .i64 bcnt, .int .i64 bfst, .int .i64 bearly, .int .i64 blate]
  rw [World.size_alloc] at b2
  have B1 := Lib.hid b1
  have a0 := up_cell (b1.cell 0)
  have a1 := up_cell (b1.cell 1)
  have a6 := up_cell (b1.cell 6)
  have d0 := up_cell (b2.cell 0)
  have d4 := up_cell (b2.cell 4)
  have d5 := up_cell (b2.cell 5)
  have e1 : IntKind.i64.wrap (at_ + sz) = at_ + sz := by rw [IntKind.wrap_i64]; omega
  have e2 : IntKind.i64.wrap (fst + cnt - 1 + 1) = fst + cnt := by rw [IntKind.wrap_i64]; omega
  have e3 : IntKind.i64.wrap (fst + cnt) = fst + cnt := by rw [IntKind.wrap_i64]; omega
  clear b1 b2 k1 k2 k3 k4 k5
  rcases hcases with ⟨rfl, h1⟩ | ⟨rfl, h1, h2⟩ | ⟨rfl, h1, h2⟩
  · have g1 : (bt_ == at_ + sz) = false := by simpa using h1
    go_enter Try.func39, Try.ntmps39
    go_wp2_with fail
    refine wp_region_up (by kernel_rfl) (by kernel_rfl) ?_
    repeat (go_big_quiet_step (fail))
    refine wpQuiet_nil ?_
    rintro _ ⟨z, rfl⟩
    go_wp2
    go_ret
    exact ⟨rfl, Ext.trans (((Ext.refl _).alloc _).alloc _) z.ext⟩
  · have g2 : (bfst == fst + cnt) = false := by simpa using h2
    have e1' : IntKind.i64.wrap (at_ + sz) = bt_ := e1.trans h1.symm
    clear h1 e1
    go_enter Try.func39, Try.ntmps39
    go_wp2_with fail
    refine wp_region_up (by kernel_rfl) (by kernel_rfl) ?_
    repeat (first
      | (refine wpQuiet_load_blk (by kernel_rfl) 55 (.tmp 2) rfl rfl B1.out Try.underlying55 rfl meta_size ?_; dsimp only [Act.put]; simp only [List.setIfInBounds_toArray, List.set_cons_succ, List.set_cons_zero])
      | go_big_quiet_step (first | (go_at_call 51; (with_reducible exact up_call (q.out _))) | fail))
    refine wpQuiet_nil ?_
    rintro _ ⟨z, rfl⟩
    go_wp2
    go_ret
    exact ⟨rfl, Ext.trans (((Ext.refl _).alloc _).alloc _) z.ext⟩
  · have e1' : IntKind.i64.wrap (at_ + sz) = bt_ := e1.trans h1.symm
    have e2' : IntKind.i64.wrap (fst + cnt - 1 + 1) = bfst := e2.trans h2.symm
    have e3' : IntKind.i64.wrap (fst + cnt) = bfst := e3.trans h2.symm
    clear h1 h2 e1 e2 e3
    go_enter Try.func39, Try.ntmps39
    go_wp2_with fail
    refine wp_region_up (by kernel_rfl) (by kernel_rfl) ?_
    repeat (first
      | (refine wpQuiet_load_blk (by kernel_rfl) 55 (.tmp 2) rfl rfl B1.out Try.underlying55 rfl meta_size ?_; dsimp only [Act.put]; simp only [List.setIfInBounds_toArray, List.set_cons_succ, List.set_cons_zero])
      | go_big_quiet_step (first | (go_at_call 51; (with_reducible exact up_call (q.out _))) | fail))
    refine wpQuiet_nil ?_
    rintro _ ⟨z, rfl⟩
    go_wp2
    go_ret
    exact ⟨rfl, Ext.trans (((Ext.refl _).alloc _).alloc _) z.ext⟩
end Go.Proofs.Ytbhfapjjodhndaa
