/- head: within, Check; varveref21: Check. (Printed by wip/tools/entry1.py.) -/
import Derived.Test.YtcagcepbnkageaaReadG
import Derived.Test.YtcagcepbnkageaaGen
import Derived.LoopTactic
import Derived.Test.YtcagcepbnkageaaWithin
namespace Go.Proofs.Ytcagcepbnkageaa
set_option linter.unusedVariables false
set_option linter.unusedSimpArgs false
open Go.RowKit

def headD (id gen fst : Int) : Prop := (1 ≤ id ∧ id ≤ 999999) ∧ (1 ≤ gen ∧ gen ≤ 999999) ∧ (1 ≤ fst ∧ fst ≤ 1000000000)
instance (id gen fst : Int) : Decidable (headD id gen fst) := by unfold headD; infer_instance
/-- a header may be -/
def headP (id gen fst : Int) : Bool := decide (headD id gen fst)
/-- an error, or none -/
def errI (b : Bool) (k : Int) : Int := if b then 0 else k
theorem head_pairs (id gen fst : Int) :
    (headP id gen fst = true ∧ (1 ≤ id ∧ id ≤ 999999) ∧ (1 ≤ gen ∧ gen ≤ 999999) ∧ (1 ≤ fst ∧ fst ≤ 1000000000))
    ∨ (headP id gen fst = false ∧ ¬ ((1 ≤ id ∧ id ≤ 999999)))
    ∨ (headP id gen fst = false ∧ (1 ≤ id ∧ id ≤ 999999) ∧ ¬ ((1 ≤ gen ∧ gen ≤ 999999)))
    ∨ (headP id gen fst = false ∧ (1 ≤ id ∧ id ≤ 999999) ∧ (1 ≤ gen ∧ gen ≤ 999999) ∧ ¬ ((1 ≤ fst ∧ fst ≤ 1000000000))) := by
  unfold headP
  rw [decide_eq_true_eq, decide_eq_false_iff_not]
  unfold headD
  refine (Classical.em ((1 ≤ id ∧ id ≤ 999999))).elim (fun h0 => ?_) (fun h0 => .inr (.inl ⟨fun h => h0 h.1, h0⟩))
  refine (Classical.em ((1 ≤ gen ∧ gen ≤ 999999))).elim (fun h1 => ?_) (fun h1 => .inr (.inr (.inl ⟨fun h => h1 h.2.1, h0, h1⟩)))
  refine (Classical.em ((1 ≤ fst ∧ fst ≤ 1000000000))).elim (fun h2 => ?_) (fun h2 => .inr (.inr (.inr (⟨fun h => h2 h.2.2, h0, h1, h2⟩))))
  have hall := And.intro h0 (And.intro h1 (h2))
  exact .inl ⟨hall, h0, h1, h2⟩

theorem head_firsts (id gen fst : Int) :
    (headP id gen fst = true ∧ 1 ≤ id ∧ id ≤ 999999 ∧ 1 ≤ gen ∧ gen ≤ 999999 ∧ 1 ≤ fst ∧ fst ≤ 1000000000)
    ∨ (headP id gen fst = false ∧ ¬ (1 ≤ id))
    ∨ (headP id gen fst = false ∧ 1 ≤ id ∧ ¬ (id ≤ 999999))
    ∨ (headP id gen fst = false ∧ 1 ≤ id ∧ id ≤ 999999 ∧ ¬ (1 ≤ gen))
    ∨ (headP id gen fst = false ∧ 1 ≤ id ∧ id ≤ 999999 ∧ 1 ≤ gen ∧ ¬ (gen ≤ 999999))
    ∨ (headP id gen fst = false ∧ 1 ≤ id ∧ id ≤ 999999 ∧ 1 ≤ gen ∧ gen ≤ 999999 ∧ ¬ (1 ≤ fst))
    ∨ (headP id gen fst = false ∧ 1 ≤ id ∧ id ≤ 999999 ∧ 1 ≤ gen ∧ gen ≤ 999999 ∧ 1 ≤ fst ∧ ¬ (fst ≤ 1000000000)) := by
  unfold headP
  rw [decide_eq_true_eq, decide_eq_false_iff_not]
  unfold headD
  simp only [and_assoc]
  refine (Classical.em (1 ≤ id)).elim (fun h0 => ?_) (fun h0 => .inr (.inl ⟨fun h => h0 h.1, h0⟩))
  refine (Classical.em (id ≤ 999999)).elim (fun h1 => ?_) (fun h1 => .inr (.inr (.inl ⟨fun h => h1 h.2.1, h0, h1⟩)))
  refine (Classical.em (1 ≤ gen)).elim (fun h2 => ?_) (fun h2 => .inr (.inr (.inr (.inl ⟨fun h => h2 h.2.2.1, h0, h1, h2⟩))))
  refine (Classical.em (gen ≤ 999999)).elim (fun h3 => ?_) (fun h3 => .inr (.inr (.inr (.inr (.inl ⟨fun h => h3 h.2.2.2.1, h0, h1, h2, h3⟩)))))
  refine (Classical.em (1 ≤ fst)).elim (fun h4 => ?_) (fun h4 => .inr (.inr (.inr (.inr (.inr (.inl ⟨fun h => h4 h.2.2.2.2.1, h0, h1, h2, h3, h4⟩))))))
  refine (Classical.em (fst ≤ 1000000000)).elim (fun h5 => ?_) (fun h5 => .inr (.inr (.inr (.inr (.inr (.inr (⟨fun h => h5 h.2.2.2.2.2, h0, h1, h2, h3, h4, h5⟩)))))))
  have hall := And.intro h0 (And.intro h1 (And.intro h2 (And.intro h3 (And.intro h4 (h5)))))
  exact .inl ⟨h0, h1, h2, h3, h4, h5, hall⟩

set_option maxRecDepth 20000 in
set_option maxHeartbeats 4000000 in
theorem hcheck_any (id gen fst : Int) (w : World) :
    Calls Try.prog 52 #[.agg #[.int .i64 id, .int .i64 gen, .int .i64 fst]] w fun e w' => e = .returned (.int .i64 (errI (headP id gen fst) 210)) ∧ Ext w w' := by
  have hcases := head_pairs id gen fst
  generalize headP id gen fst = r at *
  have b1 := Lib.hid (Blk.new w 26 #[.int .i64 id, .int .i64 gen, .int .i64 fst])
  have c0 := b1.out.cell 0
  have c1 := b1.out.cell 1
  have c2 := b1.out.cell 2
  rcases hcases with ⟨rfl, h0, h1, h2⟩ | ⟨rfl, h0⟩ | ⟨rfl, h0, h1⟩ | ⟨rfl, h0, h1, h2⟩
  · have q0 := Lib.hid (fun w => within_yes _ _ _ w h0)
    have q1 := Lib.hid (fun w => within_yes _ _ _ w h1)
    have q2 := Lib.hid (fun w => within_yes _ _ _ w h2)
    clear h0 h1 h2
    go_enter Try.func52, Try.ntmps52
    go_wp2_with fail
    refine (q0.out _).mono ?_
    rintro _ _ ⟨rfl, rfl⟩
    go_wp2_with fail
    refine (q1.out _).mono ?_
    rintro _ _ ⟨rfl, rfl⟩
    go_wp2_with fail
    refine (q2.out _).mono ?_
    rintro _ _ ⟨rfl, rfl⟩
    go_wp2_with fail
    go_ret
    exact ⟨rfl, (Ext.refl _).alloc _⟩
  · have q0 := Lib.hid (fun w => within_no _ _ _ w h0)
    clear h0
    go_enter Try.func52, Try.ntmps52
    go_wp2_with fail
    refine (q0.out _).mono ?_
    rintro _ _ ⟨rfl, rfl⟩
    go_wp2_with fail
    go_ret
    exact ⟨rfl, (Ext.refl _).alloc _⟩
  · have q0 := Lib.hid (fun w => within_yes _ _ _ w h0)
    have q1 := Lib.hid (fun w => within_no _ _ _ w h1)
    clear h0 h1
    go_enter Try.func52, Try.ntmps52
    go_wp2_with fail
    refine (q0.out _).mono ?_
    rintro _ _ ⟨rfl, rfl⟩
    go_wp2_with fail
    refine (q1.out _).mono ?_
    rintro _ _ ⟨rfl, rfl⟩
    go_wp2_with fail
    go_ret
    exact ⟨rfl, (Ext.refl _).alloc _⟩
  · have q0 := Lib.hid (fun w => within_yes _ _ _ w h0)
    have q1 := Lib.hid (fun w => within_yes _ _ _ w h1)
    have q2 := Lib.hid (fun w => within_no _ _ _ w h2)
    clear h0 h1 h2
    go_enter Try.func52, Try.ntmps52
    go_wp2_with fail
    refine (q0.out _).mono ?_
    rintro _ _ ⟨rfl, rfl⟩
    go_wp2_with fail
    refine (q1.out _).mono ?_
    rintro _ _ ⟨rfl, rfl⟩
    go_wp2_with fail
    refine (q2.out _).mono ?_
    rintro _ _ ⟨rfl, rfl⟩
    go_wp2_with fail
    go_ret
    exact ⟨rfl, (Ext.refl _).alloc _⟩

set_option maxRecDepth 20000 in
set_option maxHeartbeats 4000000 in
theorem rcheck_any (id gen fst : Int) (w : World) :
    Calls Try.prog 35 #[.agg #[.int .i64 id, .int .i64 gen, .int .i64 fst]] w fun e w' => e = .returned (.int .i64 (errI (headP id gen fst) 210)) ∧ Ext w w' := by
  have hcases := head_firsts id gen fst
  generalize headP id gen fst = r at *
  have b1 := Lib.hid (Blk.new w 26 #[.int .i64 id, .int .i64 gen, .int .i64 fst])
  have c0 := b1.out.cell 0
  have c1 := b1.out.cell 1
  have c2 := b1.out.cell 2
  rcases hcases with ⟨rfl, h0, h1, h2, h3, h4, h5⟩ | ⟨rfl, h0⟩ | ⟨rfl, h0, h1⟩ | ⟨rfl, h0, h1, h2⟩ | ⟨rfl, h0, h1, h2, h3⟩ | ⟨rfl, h0, h1, h2, h3, h4⟩ | ⟨rfl, h0, h1, h2, h3, h4, h5⟩
  · go_enter Try.func35, Try.ntmps35
    go_wp2
    go_ret
    exact ⟨rfl, (Ext.refl _).alloc _⟩
  · go_enter Try.func35, Try.ntmps35
    go_wp2
    go_ret
    exact ⟨rfl, (Ext.refl _).alloc _⟩
  · go_enter Try.func35, Try.ntmps35
    go_wp2
    go_ret
    exact ⟨rfl, (Ext.refl _).alloc _⟩
  · go_enter Try.func35, Try.ntmps35
    go_wp2
    go_ret
    exact ⟨rfl, (Ext.refl _).alloc _⟩
  · go_enter Try.func35, Try.ntmps35
    go_wp2
    go_ret
    exact ⟨rfl, (Ext.refl _).alloc _⟩
  · go_enter Try.func35, Try.ntmps35
    go_wp2
    go_ret
    exact ⟨rfl, (Ext.refl _).alloc _⟩
  · go_enter Try.func35, Try.ntmps35
    go_wp2
    go_ret
    exact ⟨rfl, (Ext.refl _).alloc _⟩

end Go.Proofs.Ytcagcepbnkageaa
