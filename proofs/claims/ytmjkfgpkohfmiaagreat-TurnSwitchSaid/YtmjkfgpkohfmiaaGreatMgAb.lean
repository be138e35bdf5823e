/- Several texts in one. merged: Within ToA ToB ToC ToD -/
import Derived.Test.YtmjkfgpkohfmiaaGreatReadG
import Derived.Test.YtmjkfgpkohfmiaaGreatGen
import Derived.LoopTactic
import Derived.Laws.StructEq
namespace Go.Proofs.YtmjkfgpkohfmiaaGreat
set_option linter.unusedVariables false
set_option linter.unusedSimpArgs false
open Go.RowKit

set_option maxRecDepth 20000 in
theorem within_yes (n f t : Int) (w : World) (h : f ≤ n ∧ n ≤ t) :
    Calls Tryz.prog 128 #[.int .i64 n, .int .i64 f, .int .i64 t] w fun e w' => e = .returned (.bool true) ∧ w = w' := by
  obtain ⟨h1, h2⟩ := h
  go_enter Tryz.func128, Tryz.ntmps128
  go_wp2
  go_ret
  exact ⟨rfl, rfl⟩
set_option maxRecDepth 20000 in
theorem within_no (n f t : Int) (w : World) (h : ¬ (f ≤ n ∧ n ≤ t)) :
    Calls Tryz.prog 128 #[.int .i64 n, .int .i64 f, .int .i64 t] w fun e w' => e = .returned (.bool false) ∧ w = w' := by
  by_cases h1 : f ≤ n
  · have h2 : ¬ n ≤ t := fun h2 => h ⟨h1, h2⟩
    clear h
    go_enter Tryz.func128, Tryz.ntmps128
    go_wp2
    go_ret
    exact ⟨rfl, rfl⟩
  · clear h
    go_enter Tryz.func128, Tryz.ntmps128
    go_wp2
    go_ret
    exact ⟨rfl, rfl⟩

end Go.Proofs.YtmjkfgpkohfmiaaGreat
namespace Go.Proofs.YtmjkfgpkohfmiaaGreat
set_option linter.unusedVariables false
set_option linter.unusedSimpArgs false
open Go.RowKit

def headD (id gen fst : Int) : Prop := (1 ≤ id ∧ id ≤ 999999) ∧ (1 ≤ gen ∧ gen ≤ 999999) ∧ (1 ≤ fst ∧ fst ≤ 1000000000)
instance (id gen fst : Int) : Decidable (headD id gen fst) := by unfold headD; infer_instance
/-- a header may be -/
def headP (id gen fst : Int) : Bool := decide (headD id gen fst)
/-- an error, or none -/
def errI (b : Bool) (k : Int) : Int := if b then 0 else k
theorem head_pairs (id gen fst : Int) :
    (headP id gen fst = true ∧ (1 ≤ id ∧ id ≤ 999999) ∧ (1 ≤ gen ∧ gen ≤ 999999) ∧ (1 ≤ fst ∧ fst ≤ 1000000000))
    ∨ (headP id gen fst = false ∧ ¬ ((1 ≤ id ∧ id ≤ 999999)))
    ∨ (headP id gen fst = false ∧ (1 ≤ id ∧ id ≤ 999999) ∧ ¬ ((1 ≤ gen ∧ gen ≤ 999999)))
    ∨ (headP id gen fst = false ∧ (1 ≤ id ∧ id ≤ 999999) ∧ (1 ≤ gen ∧ gen ≤ 999999) ∧ ¬ ((1 ≤ fst ∧ fst ≤ 1000000000))) := by
  unfold headP
  rw [decide_eq_true_eq, decide_eq_false_iff_not]
  unfold headD
  refine (Classical.em ((1 ≤ id ∧ id ≤ 999999))).elim (fun h0 => ?_) (fun h0 => .inr (.inl ⟨fun h => h0 h.1, h0⟩))
  refine (Classical.em ((1 ≤ gen ∧ gen ≤ 999999))).elim (fun h1 => ?_) (fun h1 => .inr (.inr (.inl ⟨fun h => h1 h.2.1, h0, h1⟩)))
  refine (Classical.em ((1 ≤ fst ∧ fst ≤ 1000000000))).elim (fun h2 => ?_) (fun h2 => .inr (.inr (.inr (⟨fun h => h2 h.2.2, h0, h1, h2⟩))))
  have hall := And.intro h0 (And.intro h1 (h2))
  exact .inl ⟨hall, h0, h1, h2⟩

theorem head_firsts (id gen fst : Int) :
    (headP id gen fst = true ∧ 1 ≤ id ∧ id ≤ 999999 ∧ 1 ≤ gen ∧ gen ≤ 999999 ∧ 1 ≤ fst ∧ fst ≤ 1000000000)
    ∨ (headP id gen fst = false ∧ ¬ (1 ≤ id))
    ∨ (headP id gen fst = false ∧ 1 ≤ id ∧ ¬ (id ≤ 999999))
    ∨ (headP id gen fst = false ∧ 1 ≤ id ∧ id ≤ 999999 ∧ ¬ (1 ≤ gen))
    ∨ (headP id gen fst = false ∧ 1 ≤ id ∧ id ≤ 999999 ∧ 1 ≤ gen ∧ ¬ (gen ≤ 999999))
    ∨ (headP id gen fst = false ∧ 1 ≤ id ∧ id ≤ 999999 ∧ 1 ≤ gen ∧ gen ≤ 999999 ∧ ¬ (1 ≤ fst))
    ∨ (headP id gen fst = false ∧ 1 ≤ id ∧ id ≤ 999999 ∧ 1 ≤ gen ∧ gen ≤ 999999 ∧ 1 ≤ fst ∧ ¬ (fst ≤ 1000000000)) := by
  unfold headP
  rw [decide_eq_true_eq, decide_eq_false_iff_not]
  unfold headD
  simp only [and_assoc]
  refine (Classical.em (1 ≤ id)).elim (fun h0 => ?_) (fun h0 => .inr (.inl ⟨fun h => h0 h.1, h0⟩))
  refine (Classical.em (id ≤ 999999)).elim (fun h1 => ?_) (fun h1 => .inr (.inr (.inl ⟨fun h => h1 h.2.1, h0, h1⟩)))
  refine (Classical.em (1 ≤ gen)).elim (fun h2 => ?_) (fun h2 => .inr (.inr (.inr (.inl ⟨fun h => h2 h.2.2.1, h0, h1, h2⟩))))
  refine (Classical.em (gen ≤ 999999)).elim (fun h3 => ?_) (fun h3 => .inr (.inr (.inr (.inr (.inl ⟨fun h => h3 h.2.2.2.1, h0, h1, h2, h3⟩)))))
  refine (Classical.em (1 ≤ fst)).elim (fun h4 => ?_) (fun h4 => .inr (.inr (.inr (.inr (.inr (.inl ⟨fun h => h4 h.2.2.2.2.1, h0, h1, h2, h3, h4⟩))))))
  refine (Classical.em (fst ≤ 1000000000)).elim (fun h5 => ?_) (fun h5 => .inr (.inr (.inr (.inr (.inr (.inr (⟨fun h => h5 h.2.2.2.2.2, h0, h1, h2, h3, h4, h5⟩)))))))
  have hall := And.intro h0 (And.intro h1 (And.intro h2 (And.intro h3 (And.intro h4 (h5)))))
  exact .inl ⟨h0, h1, h2, h3, h4, h5, hall⟩

set_option maxRecDepth 20000 in
set_option maxHeartbeats 4000000 in
theorem hcheck_any (id gen fst : Int) (w : World) :
    Calls Tryz.prog 102 #[.agg #[.int .i64 id, .int .i64 gen, .int .i64 fst]] w fun e w' => e = .returned (.int .i64 (errI (headP id gen fst) 210)) ∧ Ext w w' := by
  have hcases := head_pairs id gen fst
  generalize headP id gen fst = r at *
  have b1 := Lib.hid (Blk.new w 71 #[.int .i64 id, .int .i64 gen, .int .i64 fst])
  have c0 := b1.out.cell 0
  have c1 := b1.out.cell 1
  have c2 := b1.out.cell 2
  rcases hcases with ⟨rfl, h0, h1, h2⟩ | ⟨rfl, h0⟩ | ⟨rfl, h0, h1⟩ | ⟨rfl, h0, h1, h2⟩
  · have q0 := Lib.hid (fun w => within_yes _ _ _ w h0)
    have q1 := Lib.hid (fun w => within_yes _ _ _ w h1)
    have q2 := Lib.hid (fun w => within_yes _ _ _ w h2)
    clear h0 h1 h2
    go_enter Tryz.func102, Tryz.ntmps102
    go_wp2_with fail
    refine (q0.out _).mono ?_
    rintro _ _ ⟨rfl, rfl⟩
    go_wp2_with fail
    refine (q1.out _).mono ?_
    rintro _ _ ⟨rfl, rfl⟩
    go_wp2_with fail
    refine (q2.out _).mono ?_
    rintro _ _ ⟨rfl, rfl⟩
    go_wp2_with fail
    go_ret
    exact ⟨rfl, (Ext.refl _).alloc _⟩
  · have q0 := Lib.hid (fun w => within_no _ _ _ w h0)
    clear h0
    go_enter Tryz.func102, Tryz.ntmps102
    go_wp2_with fail
    refine (q0.out _).mono ?_
    rintro _ _ ⟨rfl, rfl⟩
    go_wp2_with fail
    go_ret
    exact ⟨rfl, (Ext.refl _).alloc _⟩
  · have q0 := Lib.hid (fun w => within_yes _ _ _ w h0)
    have q1 := Lib.hid (fun w => within_no _ _ _ w h1)
    clear h0 h1
    go_enter Tryz.func102, Tryz.ntmps102
    go_wp2_with fail
    refine (q0.out _).mono ?_
    rintro _ _ ⟨rfl, rfl⟩
    go_wp2_with fail
    refine (q1.out _).mono ?_
    rintro _ _ ⟨rfl, rfl⟩
    go_wp2_with fail
    go_ret
    exact ⟨rfl, (Ext.refl _).alloc _⟩
  · have q0 := Lib.hid (fun w => within_yes _ _ _ w h0)
    have q1 := Lib.hid (fun w => within_yes _ _ _ w h1)
    have q2 := Lib.hid (fun w => within_no _ _ _ w h2)
    clear h0 h1 h2
    go_enter Tryz.func102, Tryz.ntmps102
    go_wp2_with fail
    refine (q0.out _).mono ?_
    rintro _ _ ⟨rfl, rfl⟩
    go_wp2_with fail
    refine (q1.out _).mono ?_
    rintro _ _ ⟨rfl, rfl⟩
    go_wp2_with fail
    refine (q2.out _).mono ?_
    rintro _ _ ⟨rfl, rfl⟩
    go_wp2_with fail
    go_ret
    exact ⟨rfl, (Ext.refl _).alloc _⟩

end Go.Proofs.YtmjkfgpkohfmiaaGreat
namespace Go.Proofs.YtmjkfgpkohfmiaaGreat
set_option linter.unusedVariables false
set_option linter.unusedSimpArgs false
open Go.RowKit

/-- a segment's entry -/
structure E9 where
  id : Int
  gen : Int
  fst : Int
  sld : Bool
  cnt : Int
  blk : Int
  early : Int
  late : Int
  bytes : Int
instance : Inhabited E9 := ⟨⟨0, 0, 0, false, 0, 0, 0, 0, 0⟩⟩
def entC (e : E9) : List Value := [.int .i64 e.id, .int .i64 e.gen, .int .i64 e.fst, .bool e.sld, .int .i64 e.cnt, .int .i64 e.blk, .int .i64 e.early, .int .i64 e.late, .int .i64 e.bytes]
theorem entC_length (e : E9) : (entC e).length = 9 := rfl
theorem entC_one (e : E9) : ∀ u ∈ entC e, u.oneCell' = true := by
  intro u hu
  simp only [entC, List.mem_cons, List.not_mem_nil, or_false] at hu
  rcases hu with rfl | rfl | rfl | rfl | rfl | rfl | rfl | rfl | rfl <;> rfl
theorem entC_all (e : E9) : (entC e).toArray.all (·.oneCell') = true := by simp [entC, Value.oneCell']
theorem ent_size : (Tryz.prog.info? 73).map (·.size) = some 9 := by kernel_rfl
theorem view_size : (Tryz.prog.info? 155).map (·.size) = some 9 := by kernel_rfl
theorem head_size : (Tryz.prog.info? 71).map (·.size) = some 3 := by kernel_rfl

def sealD (fst cnt blk early late bytes : Int) : Prop := 1 ≤ blk ∧ blk ≤ 1000 ∧ blk ≤ cnt ∧ cnt ≤ 1000000000 ∧ fst ≤ 1000000001 - cnt ∧ 0 ≤ early ∧ early ≤ late ∧ late ≤ 1000000000 ∧ 1 ≤ bytes ∧ bytes ≤ 1000000
instance (fst cnt blk early late bytes : Int) : Decidable (sealD fst cnt blk early late bytes) := by unfold sealD; infer_instance
def sealP (fst cnt blk early late bytes : Int) : Bool := decide (sealD fst cnt blk early late bytes)
def openD (cnt blk early late bytes : Int) : Prop := cnt = 0 ∧ blk = 0 ∧ early = 0 ∧ late = 0 ∧ bytes = 0
instance (cnt blk early late bytes : Int) : Decidable (openD cnt blk early late bytes) := by unfold openD; infer_instance
def openP (cnt blk early late bytes : Int) : Bool := decide (openD cnt blk early late bytes)
/-- an entry may be -/
def entP (e : E9) : Bool := headP e.id e.gen e.fst && (if e.sld then sealP e.fst e.cnt e.blk e.early e.late e.bytes else openP e.cnt e.blk e.early e.late e.bytes)

theorem seal_firsts (fst cnt blk early late bytes : Int) :
    (sealP fst cnt blk early late bytes = true ∧ 1 ≤ blk ∧ blk ≤ 1000 ∧ blk ≤ cnt ∧ cnt ≤ 1000000000 ∧ fst ≤ 1000000001 - cnt ∧ 0 ≤ early ∧ early ≤ late ∧ late ≤ 1000000000 ∧ 1 ≤ bytes ∧ bytes ≤ 1000000)
    ∨ (sealP fst cnt blk early late bytes = false ∧ ¬ (1 ≤ blk))
    ∨ (sealP fst cnt blk early late bytes = false ∧ 1 ≤ blk ∧ ¬ (blk ≤ 1000))
    ∨ (sealP fst cnt blk early late bytes = false ∧ 1 ≤ blk ∧ blk ≤ 1000 ∧ ¬ (blk ≤ cnt))
    ∨ (sealP fst cnt blk early late bytes = false ∧ 1 ≤ blk ∧ blk ≤ 1000 ∧ blk ≤ cnt ∧ ¬ (cnt ≤ 1000000000))
    ∨ (sealP fst cnt blk early late bytes = false ∧ 1 ≤ blk ∧ blk ≤ 1000 ∧ blk ≤ cnt ∧ cnt ≤ 1000000000 ∧ ¬ (fst ≤ 1000000001 - cnt))
    ∨ (sealP fst cnt blk early late bytes = false ∧ 1 ≤ blk ∧ blk ≤ 1000 ∧ blk ≤ cnt ∧ cnt ≤ 1000000000 ∧ fst ≤ 1000000001 - cnt ∧ ¬ (0 ≤ early))
    ∨ (sealP fst cnt blk early late bytes = false ∧ 1 ≤ blk ∧ blk ≤ 1000 ∧ blk ≤ cnt ∧ cnt ≤ 1000000000 ∧ fst ≤ 1000000001 - cnt ∧ 0 ≤ early ∧ ¬ (early ≤ late))
    ∨ (sealP fst cnt blk early late bytes = false ∧ 1 ≤ blk ∧ blk ≤ 1000 ∧ blk ≤ cnt ∧ cnt ≤ 1000000000 ∧ fst ≤ 1000000001 - cnt ∧ 0 ≤ early ∧ early ≤ late ∧ ¬ (late ≤ 1000000000))
    ∨ (sealP fst cnt blk early late bytes = false ∧ 1 ≤ blk ∧ blk ≤ 1000 ∧ blk ≤ cnt ∧ cnt ≤ 1000000000 ∧ fst ≤ 1000000001 - cnt ∧ 0 ≤ early ∧ early ≤ late ∧ late ≤ 1000000000 ∧ ¬ (1 ≤ bytes))
    ∨ (sealP fst cnt blk early late bytes = false ∧ 1 ≤ blk ∧ blk ≤ 1000 ∧ blk ≤ cnt ∧ cnt ≤ 1000000000 ∧ fst ≤ 1000000001 - cnt ∧ 0 ≤ early ∧ early ≤ late ∧ late ≤ 1000000000 ∧ 1 ≤ bytes ∧ ¬ (bytes ≤ 1000000)) := by
  unfold sealP
  rw [decide_eq_true_eq, decide_eq_false_iff_not]
  unfold sealD
  simp only [and_assoc]
  refine (Classical.em (1 ≤ blk)).elim (fun h0 => ?_) (fun h0 => .inr (.inl ⟨fun h => h0 h.1, h0⟩))
  refine (Classical.em (blk ≤ 1000)).elim (fun h1 => ?_) (fun h1 => .inr (.inr (.inl ⟨fun h => h1 h.2.1, h0, h1⟩)))
  refine (Classical.em (blk ≤ cnt)).elim (fun h2 => ?_) (fun h2 => .inr (.inr (.inr (.inl ⟨fun h => h2 h.2.2.1, h0, h1, h2⟩))))
  refine (Classical.em (cnt ≤ 1000000000)).elim (fun h3 => ?_) (fun h3 => .inr (.inr (.inr (.inr (.inl ⟨fun h => h3 h.2.2.2.1, h0, h1, h2, h3⟩)))))
  refine (Classical.em (fst ≤ 1000000001 - cnt)).elim (fun h4 => ?_) (fun h4 => .inr (.inr (.inr (.inr (.inr (.inl ⟨fun h => h4 h.2.2.2.2.1, h0, h1, h2, h3, h4⟩))))))
  refine (Classical.em (0 ≤ early)).elim (fun h5 => ?_) (fun h5 => .inr (.inr (.inr (.inr (.inr (.inr (.inl ⟨fun h => h5 h.2.2.2.2.2.1, h0, h1, h2, h3, h4, h5⟩)))))))
  refine (Classical.em (early ≤ late)).elim (fun h6 => ?_) (fun h6 => .inr (.inr (.inr (.inr (.inr (.inr (.inr (.inl ⟨fun h => h6 h.2.2.2.2.2.2.1, h0, h1, h2, h3, h4, h5, h6⟩))))))))
  refine (Classical.em (late ≤ 1000000000)).elim (fun h7 => ?_) (fun h7 => .inr (.inr (.inr (.inr (.inr (.inr (.inr (.inr (.inl ⟨fun h => h7 h.2.2.2.2.2.2.2.1, h0, h1, h2, h3, h4, h5, h6, h7⟩)))))))))
  refine (Classical.em (1 ≤ bytes)).elim (fun h8 => ?_) (fun h8 => .inr (.inr (.inr (.inr (.inr (.inr (.inr (.inr (.inr (.inl ⟨fun h => h8 h.2.2.2.2.2.2.2.2.1, h0, h1, h2, h3, h4, h5, h6, h7, h8⟩))))))))))
  refine (Classical.em (bytes ≤ 1000000)).elim (fun h9 => ?_) (fun h9 => .inr (.inr (.inr (.inr (.inr (.inr (.inr (.inr (.inr (.inr (⟨fun h => h9 h.2.2.2.2.2.2.2.2.2, h0, h1, h2, h3, h4, h5, h6, h7, h8, h9⟩)))))))))))
  have hall := And.intro h0 (And.intro h1 (And.intro h2 (And.intro h3 (And.intro h4 (And.intro h5 (And.intro h6 (And.intro h7 (And.intro h8 (h9)))))))))
  exact .inl ⟨h0, h1, h2, h3, h4, h5, h6, h7, h8, h9, hall⟩

theorem open_firsts (cnt blk early late bytes : Int) :
    (openP cnt blk early late bytes = true ∧ cnt = 0 ∧ blk = 0 ∧ early = 0 ∧ late = 0 ∧ bytes = 0)
    ∨ (openP cnt blk early late bytes = false ∧ ¬ (cnt = 0))
    ∨ (openP cnt blk early late bytes = false ∧ cnt = 0 ∧ ¬ (blk = 0))
    ∨ (openP cnt blk early late bytes = false ∧ cnt = 0 ∧ blk = 0 ∧ ¬ (early = 0))
    ∨ (openP cnt blk early late bytes = false ∧ cnt = 0 ∧ blk = 0 ∧ early = 0 ∧ ¬ (late = 0))
    ∨ (openP cnt blk early late bytes = false ∧ cnt = 0 ∧ blk = 0 ∧ early = 0 ∧ late = 0 ∧ ¬ (bytes = 0)) := by
  unfold openP
  rw [decide_eq_true_eq, decide_eq_false_iff_not]
  unfold openD
  simp only [and_assoc]
  refine (Classical.em (cnt = 0)).elim (fun h0 => ?_) (fun h0 => .inr (.inl ⟨fun h => h0 h.1, h0⟩))
  refine (Classical.em (blk = 0)).elim (fun h1 => ?_) (fun h1 => .inr (.inr (.inl ⟨fun h => h1 h.2.1, h0, h1⟩)))
  refine (Classical.em (early = 0)).elim (fun h2 => ?_) (fun h2 => .inr (.inr (.inr (.inl ⟨fun h => h2 h.2.2.1, h0, h1, h2⟩))))
  refine (Classical.em (late = 0)).elim (fun h3 => ?_) (fun h3 => .inr (.inr (.inr (.inr (.inl ⟨fun h => h3 h.2.2.2.1, h0, h1, h2, h3⟩)))))
  refine (Classical.em (bytes = 0)).elim (fun h4 => ?_) (fun h4 => .inr (.inr (.inr (.inr (.inr (⟨fun h => h4 h.2.2.2.2, h0, h1, h2, h3, h4⟩))))))
  have hall := And.intro h0 (And.intro h1 (And.intro h2 (And.intro h3 (h4))))
  exact .inl ⟨h0, h1, h2, h3, h4, hall⟩

set_option maxRecDepth 20000 in
set_option maxHeartbeats 8000000 in
theorem vsealed_any (id gen fst : Int) (s : Bool) (cnt blk early late bytes : Int) (w : World) :
    Calls Tryz.prog 103 #[.agg #[.int .i64 id, .int .i64 gen, .int .i64 fst, .bool s, .int .i64 cnt, .int .i64 blk, .int .i64 early, .int .i64 late, .int .i64 bytes]] w fun e w' => e = .returned (.bool (sealP fst cnt blk early late bytes)) ∧ Ext w w' := by
  have hcases := seal_firsts fst cnt blk early late bytes
  generalize sealP fst cnt blk early late bytes = r at *
  have b1 := Lib.hid (Blk.new w 155 #[.int .i64 id, .int .i64 gen, .int .i64 fst, .bool s, .int .i64 cnt, .int .i64 blk, .int .i64 early, .int .i64 late, .int .i64 bytes])
  have c0 := b1.out.cell 0
  have c1 := b1.out.cell 1
  have c2 := b1.out.cell 2
  have c3 := b1.out.cell 3
  have c4 := b1.out.cell 4
  have c5 := b1.out.cell 5
  have c6 := b1.out.cell 6
  have c7 := b1.out.cell 7
  have c8 := b1.out.cell 8
  rcases hcases with ⟨rfl, h0, h1, h2, h3, h4, h5, h6, h7, h8, h9⟩ | ⟨rfl, h0⟩ | ⟨rfl, h0, h1⟩ | ⟨rfl, h0, h1, h2⟩ | ⟨rfl, h0, h1, h2, h3⟩ | ⟨rfl, h0, h1, h2, h3, h4⟩ | ⟨rfl, h0, h1, h2, h3, h4, h5⟩ | ⟨rfl, h0, h1, h2, h3, h4, h5, h6⟩ | ⟨rfl, h0, h1, h2, h3, h4, h5, h6, h7⟩ | ⟨rfl, h0, h1, h2, h3, h4, h5, h6, h7, h8⟩ | ⟨rfl, h0, h1, h2, h3, h4, h5, h6, h7, h8, h9⟩
  · have e1 : IntKind.i64.wrap (1000000001 - cnt) = 1000000001 - cnt := by rw [IntKind.wrap_i64]; omega
    go_enter Tryz.func103, Tryz.ntmps103
    go_wp2
    go_ret
    exact ⟨rfl, (Ext.refl _).alloc _⟩
  · go_enter Tryz.func103, Tryz.ntmps103
    go_wp2
    go_ret
    exact ⟨rfl, (Ext.refl _).alloc _⟩
  · go_enter Tryz.func103, Tryz.ntmps103
    go_wp2
    go_ret
    exact ⟨rfl, (Ext.refl _).alloc _⟩
  · go_enter Tryz.func103, Tryz.ntmps103
    go_wp2
    go_ret
    exact ⟨rfl, (Ext.refl _).alloc _⟩
  · go_enter Tryz.func103, Tryz.ntmps103
    go_wp2
    go_ret
    exact ⟨rfl, (Ext.refl _).alloc _⟩
  · have e1 : IntKind.i64.wrap (1000000001 - cnt) = 1000000001 - cnt := by rw [IntKind.wrap_i64]; omega
    go_enter Tryz.func103, Tryz.ntmps103
    go_wp2
    go_ret
    exact ⟨rfl, (Ext.refl _).alloc _⟩
  · have e1 : IntKind.i64.wrap (1000000001 - cnt) = 1000000001 - cnt := by rw [IntKind.wrap_i64]; omega
    go_enter Tryz.func103, Tryz.ntmps103
    go_wp2
    go_ret
    exact ⟨rfl, (Ext.refl _).alloc _⟩
  · have e1 : IntKind.i64.wrap (1000000001 - cnt) = 1000000001 - cnt := by rw [IntKind.wrap_i64]; omega
    go_enter Tryz.func103, Tryz.ntmps103
    go_wp2
    go_ret
    exact ⟨rfl, (Ext.refl _).alloc _⟩
  · have e1 : IntKind.i64.wrap (1000000001 - cnt) = 1000000001 - cnt := by rw [IntKind.wrap_i64]; omega
    go_enter Tryz.func103, Tryz.ntmps103
    go_wp2
    go_ret
    exact ⟨rfl, (Ext.refl _).alloc _⟩
  · have e1 : IntKind.i64.wrap (1000000001 - cnt) = 1000000001 - cnt := by rw [IntKind.wrap_i64]; omega
    go_enter Tryz.func103, Tryz.ntmps103
    go_wp2
    go_ret
    exact ⟨rfl, (Ext.refl _).alloc _⟩
  · have e1 : IntKind.i64.wrap (1000000001 - cnt) = 1000000001 - cnt := by rw [IntKind.wrap_i64]; omega
    go_enter Tryz.func103, Tryz.ntmps103
    go_wp2
    go_ret
    exact ⟨rfl, (Ext.refl _).alloc _⟩

end Go.Proofs.YtmjkfgpkohfmiaaGreat
namespace Go.Proofs.YtmjkfgpkohfmiaaGreat
set_option linter.unusedVariables false
set_option linter.unusedSimpArgs false
open Go.RowKit

theorem view_build (id gen fst : Int) (s : Bool) (cnt blk early late bytes : Int) (w : World) : (Instr.build 155 #[(0, .agg #[.int .i64 id, .int .i64 gen, .int .i64 fst, .bool s, .int .i64 cnt, .int .i64 blk, .int .i64 early, .int .i64 late, .int .i64 bytes])]).run Tryz.prog w = .ok (.agg #[.int .i64 id, .int .i64 gen, .int .i64 fst, .bool s, .int .i64 cnt, .int .i64 blk, .int .i64 early, .int .i64 late, .int .i64 bytes]) w := by kernel_rfl
theorem ent_build (id gen fst : Int) (w : World) : (Instr.build 73 #[(0, .agg #[.int .i64 id, .int .i64 gen, .int .i64 fst])]).run Tryz.prog w = .ok (.agg #[.int .i64 id, .int .i64 gen, .int .i64 fst, .bool false, .int .i64 0, .int .i64 0, .int .i64 0, .int .i64 0, .int .i64 0]) w := by kernel_rfl
theorem ent_zero (w : World) : (zeroValue 155).run Tryz.prog w = .ok (.agg #[.int .i64 0, .int .i64 0, .int .i64 0, .bool false, .int .i64 0, .int .i64 0, .int .i64 0, .int .i64 0, .int .i64 0]) w := by kernel_rfl

theorem ent_ne (id gen fst cnt blk early late bytes : Int) (w : World) :
    (binOp .neq 73 (.agg #[.int .i64 id, .int .i64 gen, .int .i64 fst, .bool false, .int .i64 cnt, .int .i64 blk, .int .i64 early, .int .i64 late, .int .i64 bytes]) (.agg #[.int .i64 id, .int .i64 gen, .int .i64 fst, .bool false, .int .i64 0, .int .i64 0, .int .i64 0, .int .i64 0, .int .i64 0])).run Tryz.prog w = .ok (.bool (!openP cnt blk early late bytes)) w := by
  have hS : Tryz.prog.underlying 73 = some (.struct (Tryz.prog.fieldsOf 73)) := by kernel_rfl
  have hp : Tryz.prog.stoodInHeld 73 = false := by kernel_rfl
  have hS2 : Tryz.prog.underlying 71 = some (.struct (Tryz.prog.fieldsOf 71)) := by kernel_rfl
  have hp2 : Tryz.prog.stoodInHeld 71 = false := by kernel_rfl
  have u3 := Tryz.underlying3
  have a3 := Tryz.isAgg3
  have z3 := Tryz.sizeOf3
  have u4 := Tryz.underlying4
  have a4 := Tryz.isAgg4
  have z4 := Tryz.sizeOf4
  have a5 := Tryz.isAgg71
  have z5 := Tryz.sizeOf71
  have hh : ∀ d w, (Op.equalIn (d + 2) 71 (.agg #[.int .i64 id, .int .i64 gen, .int .i64 fst]) (.agg #[.int .i64 id, .int .i64 gen, .int .i64 fst])).run Tryz.prog w = .ok true w := fun d w => by
    rw [show d + 2 = (d + 1) + 1 from rfl, run_equalIn_agg w (d + 1) 71 _ _ hS2 hp2]
    simp only [Program.fieldsOf, Tryz.underlying71]
    go_simp
  rw [run_neq_struct, show (10000 : Nat) = 9999 + 1 from rfl, run_equalIn_agg w 9999 73 _ _ hS hp]
  simp only [Program.fieldsOf, Tryz.underlying73]
  have h5 := hh 9997
  rw [show (9997 : Nat) + 2 = 9999 from rfl] at h5
  go_simp
  by_cases h1 : cnt = 0 <;> by_cases h2 : blk = 0 <;> by_cases h3 : early = 0 <;> by_cases h4 : late = 0 <;> by_cases h6 : bytes = 0 <;> simp [openP, openD, h1, h2, h3, h4, h6]
section

variable {P : Program} {ops : Array Oper} {rest : List Oper} {op : Oper} {a : Act} {w : World} {Q : Exit → Act → World → Prop}

/-- a part is loaded, where the guard is met -/
theorem wpList_load_mid_g (hw : Region.wanted op (yielded ops a.tmps) = true) (ty : TypeId) (x : Operand) (ho : op.op = .load ty x)
    (b o : Nat) (hx : a.eval x = .pointer (some ⟨b, o, none⟩)) (cs : List Value) (d : TypeDesc) (hc : w.rangeAt b o cs)
    (hu : P.underlying ty = some d) (hd : d.isRow = true) (hi : (P.info? ty).map (·.size) = some cs.length)
    (h : wpList P ops Q rest (a.put op.dst (.agg cs.toArray)) w) : wpList P ops Q (op :: rest) a w :=
  wpList_step fun _ hK => by
    rw [if_pos hw]
    exact wp_load_mid ty x ho b o hx cs d hc hu hd hi (hK _ _ h)
end

theorem range_blk {w : World} {g : Nat} {t : TypeId} {cs : Array Value} (h : Blk w g t cs) (k : Nat) : w.rangeAt g 0 (cs.toList.take k) := fun j v hv => by
  rw [Nat.zero_add, h.cell j]
  rw [List.getElem?_take] at hv
  split at hv
  · rw [← hv]; simp
  · cases hv
attribute [local go_sem] view_build ent_build

set_option maxRecDepth 20000 in
set_option maxHeartbeats 8000000 in
theorem echeck_any (e : E9) (w : World) :
    Calls Tryz.prog 69 #[.agg (entC e).toArray] w fun x w' => x = .returned (.int .i64 (errI (entP e) 240)) ∧ Ext w w' := by
  obtain ⟨id, gen, fst, sld, cnt, blk, early, late, bytes⟩ := e
  show Calls Tryz.prog 69 #[.agg #[.int .i64 id, .int .i64 gen, .int .i64 fst, .bool sld, .int .i64 cnt, .int .i64 blk, .int .i64 early, .int .i64 late, .int .i64 bytes]] w _
  unfold entP
  dsimp only
  have qh := fun w => hcheck_any id gen fst w
  have B1 := Lib.hid (Blk.new w 73 #[.int .i64 id, .int .i64 gen, .int .i64 fst, .bool sld, .int .i64 cnt, .int .i64 blk, .int .i64 early, .int .i64 late, .int .i64 bytes])
  have HSZ := Lib.hid ((World.size_alloc w (.cells #[.int .i64 id, .int .i64 gen, .int .i64 fst, .bool sld, .int .i64 cnt, .int .i64 blk, .int .i64 early, .int .i64 late, .int .i64 bytes] 73)).symm)
  have b2 := Blk.new (w.alloc (.cells #[.int .i64 id, .int .i64 gen, .int .i64 fst, .bool sld, .int .i64 cnt, .int .i64 blk, .int .i64 early, .int .i64 late, .int .i64 bytes] 73)) 155 #[.int .i64 id, .int .i64 gen, .int .i64 fst, .bool sld, .int .i64 cnt, .int .i64 blk, .int .i64 early, .int .i64 late, .int .i64 bytes]
  rw [World.size_alloc] at b2
  have B2 := Lib.hid b2
  have R2 := Lib.hid (range_blk b2 3)
  have R9 := Lib.hid (range_blk b2 9)
  have H1 := Lib.hid (show (#[.int .i64 id, .int .i64 gen, .int .i64 fst, .bool sld, .int .i64 cnt, .int .i64 blk, .int .i64 early, .int .i64 late, .int .i64 bytes] : Array Value).all (·.oneCell') = true by simp [Value.oneCell'])
  have HE := Lib.hid ent_size
  have HV := Lib.hid view_size
  have HH := Lib.hid head_size
  have c3 := b2.cell 3
  have qv := Lib.hid (fun w => vsealed_any id gen fst sld cnt blk early late bytes w)
  clear b2
  cases hh : headP id gen fst with
  | false =>
    rw [hh] at qh
    have qh := Lib.hid qh
    clear hh
    simp only [Bool.false_and]
    go_enter Tryz.func69, Tryz.ntmps69
    go_wp2_with (first
      | (refine wpList_load_blk rfl 73 (.tmp 1) rfl rfl B1.out Tryz.underlying73 rfl HE.out ?_)
      | (refine wpList_store_new (cs' := #[.int .i64 id, .int .i64 gen, .int .i64 fst, .bool sld, .int .i64 cnt, .int .i64 blk, .int .i64 early, .int .i64 late, .int .i64 bytes]) rfl 155 (.tmp 3) (.tmp 5) rfl (congrArg (fun n => Value.pointer (some ⟨n, 0, none⟩)) HSZ.out) rfl rfl HV.out H1.out ?_)
      | (refine wpList_load_mid rfl 71 (.tmp 7) rfl (w.heap.size + 1) 0 rfl [.int .i64 id, .int .i64 gen, .int .i64 fst] _ R2.out Tryz.underlying71 rfl HH.out ?_))
    refine (qh.out _).mono ?_
    rintro _ w1 ⟨rfl, x1⟩
    simp only [errI, Bool.false_eq_true, if_false]
    go_wp2
    go_ret
    exact ⟨rfl, (((Ext.refl _).alloc _).alloc _).trans x1⟩
  | true =>
    rw [hh] at qh
    have qh := Lib.hid qh
    clear hh
    simp only [Bool.true_and]
    cases sld with
    | true =>
      simp only [if_true]
      cases hs : sealP fst cnt blk early late bytes with
      | false =>
        rw [hs] at qv
        clear hs
        go_enter Tryz.func69, Tryz.ntmps69
        go_wp2_with (first
          | (refine wpList_load_blk rfl 73 (.tmp 1) rfl rfl B1.out Tryz.underlying73 rfl HE.out ?_)
          | (refine wpList_store_new (cs' := #[.int .i64 id, .int .i64 gen, .int .i64 fst, .bool true, .int .i64 cnt, .int .i64 blk, .int .i64 early, .int .i64 late, .int .i64 bytes]) rfl 155 (.tmp 3) (.tmp 5) rfl (congrArg (fun n => Value.pointer (some ⟨n, 0, none⟩)) HSZ.out) rfl rfl HV.out H1.out ?_)
          | (refine wpList_load_mid rfl 71 (.tmp 7) rfl (w.heap.size + 1) 0 rfl [.int .i64 id, .int .i64 gen, .int .i64 fst] _ R2.out Tryz.underlying71 rfl HH.out ?_))
        refine (qh.out _).mono ?_
        rintro _ w1 ⟨rfl, x1⟩
        simp only [errI, if_true]
        have d3 := Go.cell_later x1 c3
        have B2' := Lib.hid (B2.out.ext x1)
        have R2' := Lib.hid (rangeAt_ext R2.out x1)
        have R9' := Lib.hid (rangeAt_ext R9.out x1)
        have X1 := Lib.hid ((((Ext.refl w).alloc _).alloc _).trans x1)
        clear c3 B1 B2 R2 R9 x1 qh
        go_wp2_with (refine wpList_load_blk_g rfl 155 (.tmp 3) rfl rfl B2'.out Tryz.underlying155 rfl HV.out ?_)
        refine (qv.out _).mono ?_
        rintro _ w2 ⟨rfl, x2⟩
        have d3' := Go.cell_later x2 d3
        go_wp2
        go_ret
        exact ⟨rfl, X1.out.trans x2⟩
      | true =>
        rw [hs] at qv
        clear hs
        go_enter Tryz.func69, Tryz.ntmps69
        go_wp2_with (first
          | (refine wpList_load_blk rfl 73 (.tmp 1) rfl rfl B1.out Tryz.underlying73 rfl HE.out ?_)
          | (refine wpList_store_new (cs' := #[.int .i64 id, .int .i64 gen, .int .i64 fst, .bool true, .int .i64 cnt, .int .i64 blk, .int .i64 early, .int .i64 late, .int .i64 bytes]) rfl 155 (.tmp 3) (.tmp 5) rfl (congrArg (fun n => Value.pointer (some ⟨n, 0, none⟩)) HSZ.out) rfl rfl HV.out H1.out ?_)
          | (refine wpList_load_mid rfl 71 (.tmp 7) rfl (w.heap.size + 1) 0 rfl [.int .i64 id, .int .i64 gen, .int .i64 fst] _ R2.out Tryz.underlying71 rfl HH.out ?_))
        refine (qh.out _).mono ?_
        rintro _ w1 ⟨rfl, x1⟩
        simp only [errI, if_true]
        have d3 := Go.cell_later x1 c3
        have B2' := Lib.hid (B2.out.ext x1)
        have R2' := Lib.hid (rangeAt_ext R2.out x1)
        have R9' := Lib.hid (rangeAt_ext R9.out x1)
        have X1 := Lib.hid ((((Ext.refl w).alloc _).alloc _).trans x1)
        clear c3 B1 B2 R2 R9 x1 qh
        go_wp2_with (refine wpList_load_blk_g rfl 155 (.tmp 3) rfl rfl B2'.out Tryz.underlying155 rfl HV.out ?_)
        refine (qv.out _).mono ?_
        rintro _ w2 ⟨rfl, x2⟩
        have d3' := Go.cell_later x2 d3
        go_wp2
        go_ret
        exact ⟨rfl, X1.out.trans x2⟩
    | false =>
      simp only [Bool.false_eq_true, if_false]
      have hne := ent_ne id gen fst cnt blk early late bytes
      generalize openP cnt blk early late bytes = r at *
      cases r
      · simp only [Bool.not_false] at hne
        go_enter Tryz.func69, Tryz.ntmps69
        go_wp2_with (first
          | (refine wpList_load_blk rfl 73 (.tmp 1) rfl rfl B1.out Tryz.underlying73 rfl HE.out ?_)
          | (refine wpList_store_new (cs' := #[.int .i64 id, .int .i64 gen, .int .i64 fst, .bool false, .int .i64 cnt, .int .i64 blk, .int .i64 early, .int .i64 late, .int .i64 bytes]) rfl 155 (.tmp 3) (.tmp 5) rfl (congrArg (fun n => Value.pointer (some ⟨n, 0, none⟩)) HSZ.out) rfl rfl HV.out H1.out ?_)
          | (refine wpList_load_mid rfl 71 (.tmp 7) rfl (w.heap.size + 1) 0 rfl [.int .i64 id, .int .i64 gen, .int .i64 fst] _ R2.out Tryz.underlying71 rfl HH.out ?_))
        refine (qh.out _).mono ?_
        rintro _ w1 ⟨rfl, x1⟩
        simp only [errI, if_true]
        have d3 := Go.cell_later x1 c3
        have B2' := Lib.hid (B2.out.ext x1)
        have R2' := Lib.hid (rangeAt_ext R2.out x1)
        have R9' := Lib.hid (rangeAt_ext R9.out x1)
        have X1 := Lib.hid ((((Ext.refl w).alloc _).alloc _).trans x1)
        clear c3 B1 B2 R2 R9 x1 qh
        go_wp2_with (first
          | (refine wpList_load_mid_g rfl 73 (.tmp 25) rfl (w.heap.size + 1) 0 rfl [.int .i64 id, .int .i64 gen, .int .i64 fst, .bool false, .int .i64 cnt, .int .i64 blk, .int .i64 early, .int .i64 late, .int .i64 bytes] _ R9'.out Tryz.underlying73 rfl HE.out ?_)
          | (refine wpList_load_mid_g rfl 71 (.tmp 28) rfl (w.heap.size + 1) 0 rfl [.int .i64 id, .int .i64 gen, .int .i64 fst] _ R2'.out Tryz.underlying71 rfl HH.out ?_))
        go_ret
        exact ⟨rfl, X1.out⟩
      · simp only [Bool.not_true] at hne
        go_enter Tryz.func69, Tryz.ntmps69
        go_wp2_with (first
          | (refine wpList_load_blk rfl 73 (.tmp 1) rfl rfl B1.out Tryz.underlying73 rfl HE.out ?_)
          | (refine wpList_store_new (cs' := #[.int .i64 id, .int .i64 gen, .int .i64 fst, .bool false, .int .i64 cnt, .int .i64 blk, .int .i64 early, .int .i64 late, .int .i64 bytes]) rfl 155 (.tmp 3) (.tmp 5) rfl (congrArg (fun n => Value.pointer (some ⟨n, 0, none⟩)) HSZ.out) rfl rfl HV.out H1.out ?_)
          | (refine wpList_load_mid rfl 71 (.tmp 7) rfl (w.heap.size + 1) 0 rfl [.int .i64 id, .int .i64 gen, .int .i64 fst] _ R2.out Tryz.underlying71 rfl HH.out ?_))
        refine (qh.out _).mono ?_
        rintro _ w1 ⟨rfl, x1⟩
        simp only [errI, if_true]
        have d3 := Go.cell_later x1 c3
        have B2' := Lib.hid (B2.out.ext x1)
        have R2' := Lib.hid (rangeAt_ext R2.out x1)
        have R9' := Lib.hid (rangeAt_ext R9.out x1)
        have X1 := Lib.hid ((((Ext.refl w).alloc _).alloc _).trans x1)
        clear c3 B1 B2 R2 R9 x1 qh
        go_wp2_with (first
          | (refine wpList_load_mid_g rfl 73 (.tmp 25) rfl (w.heap.size + 1) 0 rfl [.int .i64 id, .int .i64 gen, .int .i64 fst, .bool false, .int .i64 cnt, .int .i64 blk, .int .i64 early, .int .i64 late, .int .i64 bytes] _ R9'.out Tryz.underlying73 rfl HE.out ?_)
          | (refine wpList_load_mid_g rfl 71 (.tmp 28) rfl (w.heap.size + 1) 0 rfl [.int .i64 id, .int .i64 gen, .int .i64 fst] _ R2'.out Tryz.underlying71 rfl HH.out ?_))
        go_ret
        exact ⟨rfl, X1.out⟩
end Go.Proofs.YtmjkfgpkohfmiaaGreat
namespace Go.Proofs.YtmjkfgpkohfmiaaGreat
set_option linter.unusedVariables false
set_option linter.unusedSimpArgs false
open Go.RowKit

/-- an entry's number and its first record stand behind those of the one ahead; its times, if it is sealed -/
def behindP (a b : E9) : Bool := decide (a.id < b.id) && (decide (b.fst = a.fst + a.cnt) && (!b.sld || decide (a.late ≤ b.early)))
/-- an entry follows a sealed one -/
def efolP (a b : E9) : Bool := a.sld && behindP a b
theorem entP_sum {e : E9} (h : entP e = true) : 1 ≤ e.fst ∧ e.fst + e.cnt ≤ 1000000001 ∧ 0 ≤ e.cnt := by
  unfold entP at h
  rw [Bool.and_eq_true] at h
  obtain ⟨h1, h2⟩ := h
  have h1 : headD e.id e.gen e.fst := of_decide_eq_true h1
  obtain ⟨-, -, f1, f2⟩ := h1
  cases hs : e.sld with
  | true =>
    rw [hs, if_pos rfl] at h2
    have h2 : sealD _ _ _ _ _ _ := of_decide_eq_true h2
    obtain ⟨b1, b2, b3, b4, b5, -⟩ := h2
    omega
  | false =>
    rw [hs, if_neg (by decide)] at h2
    have h2 : openD _ _ _ _ _ := of_decide_eq_true h2
    obtain ⟨b1, -⟩ := h2
    omega
theorem behind_cases (a b : E9) :
    (behindP a b = false ∧ ¬ a.id < b.id) ∨ (behindP a b = false ∧ a.id < b.id ∧ ¬ b.fst = a.fst + a.cnt) ∨ (behindP a b = true ∧ a.id < b.id ∧ b.fst = a.fst + a.cnt ∧ b.sld = false) ∨ (behindP a b = true ∧ a.id < b.id ∧ b.fst = a.fst + a.cnt ∧ b.sld = true ∧ a.late ≤ b.early) ∨ (behindP a b = false ∧ a.id < b.id ∧ b.fst = a.fst + a.cnt ∧ b.sld = true ∧ ¬ a.late ≤ b.early) := by
  unfold behindP
  by_cases h1 : a.id < b.id
  · by_cases h2 : b.fst = a.fst + a.cnt
    · cases hs : b.sld
      · exact .inr (.inr (.inl ⟨by simp [h1, h2], h1, h2, rfl⟩))
      · by_cases h3 : a.late ≤ b.early
        · exact .inr (.inr (.inr (.inl ⟨by simp [h1, h2, h3], h1, h2, rfl, h3⟩)))
        · exact .inr (.inr (.inr (.inr ⟨by simp [h3], h1, h2, rfl, h3⟩)))
    · exact .inr (.inl ⟨by simp [h2], h1, h2⟩)
  · exact .inl ⟨by simp [h1], h1⟩

set_option maxRecDepth 20000 in
set_option maxHeartbeats 8000000 in
theorem efollows_any (a b : E9) (w : World) (h : entP a = true) :
    Calls Tryz.prog 70 #[.agg (entC a).toArray, .agg (entC b).toArray] w fun e w' => e = .returned (.bool (efolP a b)) ∧ Ext w w' := by
  have hcases := behind_cases a b
  have hsum := entP_sum h
  unfold efolP
  generalize behindP a b = r at *
  obtain ⟨aid, agen, afst, asld, acnt, ablk, aearly, alate, abytes⟩ := a
  obtain ⟨bid, bgen, bfst, bsld, bcnt, bblk, bearly, blate, bbytes⟩ := b
  show Calls Tryz.prog 70 #[.agg #[.int .i64 aid, .int .i64 agen, .int .i64 afst, .bool asld, .int .i64 acnt, .int .i64 ablk, .int .i64 aearly, .int .i64 alate, .int .i64 abytes], .agg #[.int .i64 bid, .int .i64 bgen, .int .i64 bfst, .bool bsld, .int .i64 bcnt, .int .i64 bblk, .int .i64 bearly, .int .i64 blate, .int .i64 bbytes]] w _
  dsimp only at *
  have b1 := (Blk.new w 73 #[.int .i64 aid, .int .i64 agen, .int .i64 afst, .bool asld, .int .i64 acnt, .int .i64 ablk, .int .i64 aearly, .int .i64 alate, .int .i64 abytes]).alloc (.cells #[.int .i64 bid, .int .i64 bgen, .int .i64 bfst, .bool bsld, .int .i64 bcnt, .int .i64 bblk, .int .i64 bearly, .int .i64 blate, .int .i64 bbytes] 73)
  have b2 := Blk.new (w.alloc (.cells #[.int .i64 aid, .int .i64 agen, .int .i64 afst, .bool asld, .int .i64 acnt, .int .i64 ablk, .int .i64 aearly, .int .i64 alate, .int .i64 abytes] 73)) 73 #[.int .i64 bid, .int .i64 bgen, .int .i64 bfst, .bool bsld, .int .i64 bcnt, .int .i64 bblk, .int .i64 bearly, .int .i64 blate, .int .i64 bbytes]
  rw [World.size_alloc] at b2
  have a0 := b1.cell 0
  have a2 := b1.cell 2
  have a3 := b1.cell 3
  have a4 := b1.cell 4
  have a7 := b1.cell 7
  have d0 := b2.cell 0
  have d2 := b2.cell 2
  have d3 := b2.cell 3
  have d6 := b2.cell 6
  have e1 : IntKind.i64.wrap (afst + acnt) = afst + acnt := by rw [IntKind.wrap_i64]; omega
  clear b1 b2 h hsum
  cases asld with
  | false =>
    simp only [Bool.false_and]
    clear hcases
    go_enter Tryz.func70, Tryz.ntmps70
    go_wp2
    go_ret
    exact ⟨rfl, ((Ext.refl _).alloc _).alloc _⟩
  | true =>
    simp only [Bool.true_and]
    rcases hcases with ⟨rfl, h1⟩ | ⟨rfl, h1, h2⟩ | ⟨rfl, h1, h2, rfl⟩ | ⟨rfl, h1, h2, rfl, h3⟩ | ⟨rfl, h1, h2, rfl, h3⟩
    · go_enter Tryz.func70, Tryz.ntmps70
      go_wp2
      go_ret
      exact ⟨rfl, ((Ext.refl _).alloc _).alloc _⟩
    · have g : (bfst == afst + acnt) = false := by simpa using h2
      go_enter Tryz.func70, Tryz.ntmps70
      go_wp2
      go_ret
      exact ⟨rfl, ((Ext.refl _).alloc _).alloc _⟩
    · have e1' : IntKind.i64.wrap (afst + acnt) = bfst := e1.trans h2.symm
      clear h2 e1
      go_enter Tryz.func70, Tryz.ntmps70
      go_wp2
      go_ret
      exact ⟨rfl, ((Ext.refl _).alloc _).alloc _⟩
    · have e1' : IntKind.i64.wrap (afst + acnt) = bfst := e1.trans h2.symm
      clear h2 e1
      go_enter Tryz.func70, Tryz.ntmps70
      go_wp2
      go_ret
      exact ⟨rfl, ((Ext.refl _).alloc _).alloc _⟩
    · have e1' : IntKind.i64.wrap (afst + acnt) = bfst := e1.trans h2.symm
      clear h2 e1
      have f4 : (alate ≤ bearly) = False := by simpa using h3
      go_enter Tryz.func70, Tryz.ntmps70
      go_wp2
      go_ret
      exact ⟨rfl, ((Ext.refl _).alloc _).alloc _⟩

/-- the first k entries are a row -/
def eTo (l : List E9) (k : Nat) : Bool := (List.range k).all fun i => entP (l.getD i default) && (i == 0 || efolP (l.getD (i - 1) default) (l.getD i default))
/-- entries are a row -/
def rowP (l : List E9) : Bool := decide (1 ≤ (l.length : Int) ∧ (l.length : Int) ≤ 100) && (!(l.getD (l.length - 1) default).sld && eTo l l.length)
theorem eTo_succ (l : List E9) (k : Nat) : eTo l (k + 1) = (eTo l k && (entP (l.getD k default) && (k == 0 || efolP (l.getD (k - 1) default) (l.getD k default)))) := by
  unfold eTo
  rw [List.range_succ, List.all_append]
  simp only [List.all_cons, List.all_nil, Bool.and_true]
theorem eTo_all {l : List E9} {k : Nat} (h : eTo l k = true) {i : Nat} (hi : i < k) : (entP (l.getD i default) && (i == 0 || efolP (l.getD (i - 1) default) (l.getD i default))) = true :=
  List.all_eq_true.1 h i (List.mem_range.2 hi)
theorem eTo_ent {l : List E9} {k : Nat} (h : eTo l k = true) {i : Nat} (hi : i < k) : entP (l.getD i default) = true := by
  have := eTo_all h hi
  rw [Bool.and_eq_true] at this
  exact this.1
theorem row_no {l : List E9} {k : Nat} (hk : k < l.length) (h : (entP (l.getD k default) && (k == 0 || efolP (l.getD (k - 1) default) (l.getD k default))) = false) : errI (rowP l) 240 = 240 := by
  have : eTo l l.length = false := by
    cases hn : eTo l l.length with
    | false => rfl
    | true => rw [eTo_all hn hk] at h; cases h
  unfold rowP; rw [this, Bool.and_false, Bool.and_false]; rfl
theorem row_len {l : List E9} (h : ¬ (1 ≤ (l.length : Int) ∧ (l.length : Int) ≤ 100)) : errI (rowP l) 240 = 240 := by
  unfold rowP; rw [decide_eq_false h]; rfl
theorem row_last {l : List E9} (h : (l.getD (l.length - 1) default).sld = true) : errI (rowP l) 240 = 240 := by
  unfold rowP; rw [h, Bool.not_true, Bool.false_and, Bool.and_false]; rfl
theorem row_yes {l : List E9} (h : 1 ≤ (l.length : Int) ∧ (l.length : Int) ≤ 100) (h1 : (l.getD (l.length - 1) default).sld = false) (h2 : eTo l l.length = true) : errI (rowP l) 240 = 0 := by
  unfold rowP; rw [decide_eq_true h, h1, h2]; rfl
theorem ent_at {l : List E9} {k : Nat} (hk : k < l.length) : l[k]? = some (l.getD k default) := by
  rw [List.getD_eq_getElem?_getD, List.getElem?_eq_getElem hk]; rfl
theorem ent_cell {w : World} {g p : Nat} {e : E9} (h : w.rangeAt g p (entC e)) : w.cell? ⟨g, p + 3, none⟩ = some (.bool e.sld) := h 3 _ rfl

set_option maxRecDepth 20000 in
set_option maxHeartbeats 8000000 in
theorem eRow_any (l : List E9) (v : Value) (w : World) (hr : RR entC 9 w v l) :
    Calls Tryz.prog 34 #[v] w fun e w' => e = .returned (.int .i64 (errI (rowP l) 240)) ∧ Ext w w' := by
  obtain ⟨a, c, rfl, _, _, hs⟩ := hr
  by_cases hlen : 1 ≤ (l.length : Int) ∧ (l.length : Int) ≤ 100
  · obtain ⟨hl1, hl2⟩ := hlen
    obtain ⟨g, o, rfl, hcells⟩ := hs (by omega)
    obtain ⟨m, hm⟩ : ∃ m, l.length = m + 1 := ⟨l.length - 1, by omega⟩
    have c3 := ent_cell (hcells m _ (ent_at (by omega)))
    have HC := Lib.hid hcells
    have HY := Lib.hid (fun h1 h2 => row_yes ⟨hl1, hl2⟩ h1 h2)
    have HN := Lib.hid (fun k hk h => row_no (l := l) (k := k) hk h)
    have HT := Lib.hid (fun h => row_last (l := l) h)
    rw [hm] at HY HT
    rw [show m + 1 - 1 = m from rfl] at HY HT
    have hm2 : (m : Int) < 100 := by omega
    have hm3 : IntKind.i64.wrap (m : Int) = (m : Int) := by rw [IntKind.wrap_i64]; omega
    rw [hm]
    have HMM := Lib.hid hm
    clear hs hcells hl1 hl2 hm
    cases hls : (l.getD m default).sld with
    | true =>
      rw [hls] at c3
      have hres := Lib.hid (HT.out hls)
      clear hls
      go_enter Tryz.func34, Tryz.ntmps34
      go_wp2
      go_ret
      exact ⟨by rw [hres.out]; rfl, Ext.refl _⟩
    | false =>
      rw [hls] at c3
      have HY := Lib.hid (HY.out hls)
      clear hls HT
      go_enter Tryz.func34, Tryz.ntmps34
      go_wp2
      clear c3
      go_loopw [25] (fun i wr => ∃ k : Nat, i = .int .i64 (k : Int) ∧ k ≤ m + 1 ∧ eTo l k = true ∧ Ext w wr) (fun i _ => m + 1 - (intOf i).toNat)
      case atStart => exact ⟨0, rfl, Nat.zero_le _, rfl, Ext.refl _⟩
      case round =>
        obtain ⟨k, rfl, hk, hok, hx⟩ := hrel
        have HX := Lib.hid hx
        have OK := Lib.hid hok
        by_cases hlt : k < m + 1
        · have hI : (k : Int) < (m : Int) + 1 := by omega
          have hkl : k < l.length := by have := HMM.out; omega
          have R := Lib.hid (rangeAt_ext (HC.out k _ (ent_at hkl)) hx)
          have HN := Lib.hid (fun h => HN.out k hkl h)
          have qa := Lib.hid (fun w => echeck_any (l.getD k default) w)
          have hsuc := Lib.hid (eTo_succ l k)
          clear hx hok
          cases k with
          | zero =>
            generalize hmm : l.getD 0 default = en at *
            have HL := Lib.hid (show (Tryz.prog.info? 73).map (·.size) = some (entC en).length from ent_size)
            have HZ := Lib.hid (show (Tryz.prog.info? 73).map (·.size) = some (entC en).toArray.size from ent_size)
            have HS9 := Lib.hid (show (#[.int .i64 0, .int .i64 0, .int .i64 0, .bool false, .int .i64 0, .int .i64 0, .int .i64 0, .int .i64 0, .int .i64 0] : Array Value).size = (entC en).toArray.size from rfl)
            have H1 := Lib.hid (entC_all en)
            have B4 := Lib.hid (Blk.new wr 73 (entC en).toArray)
            clear hmm hkl
            cases hal : entP en with
            | false =>
              rw [hal] at qa HN
              have hres := Lib.hid (HN.out rfl)
              clear hal hsuc HN
              generalize entC en = cs at *
              go_wp2_with (first
                | (refine wpList_load_mid rfl 73 (.tmp 28) rfl g _ rfl cs _ R.out Tryz.underlying73 rfl HL.out ?_)
                | (refine wpList_store_new rfl 73 (.tmp 4) (.tmp 29) rfl rfl rfl HS9.out HZ.out H1.out ?_)
                | (refine wpList_load_blk rfl 73 (.tmp 4) rfl rfl B4.out Tryz.underlying73 rfl HZ.out ?_))
              refine (qa.out _).mono ?_
              rintro _ w1 ⟨rfl, x1⟩
              have B5 := Lib.hid (B4.out.ext x1)
              have X5 := Lib.hid ((HX.out.alloc (.cells cs.toArray 73)).trans x1)
              simp only [errI, Bool.false_eq_true, if_false, if_true]
              go_wp2
              go_ret
              exact ⟨by rw [hres.out]; rfl, X5.out⟩
            | true =>
              rw [hal] at qa hsuc
              have hres := Lib.hid (show eTo l (0 + 1) = true by rw [hsuc.out, OK.out]; rfl)
              clear hal hsuc HN
              generalize entC en = cs at *
              go_wp2_with (first
                | (refine wpList_load_mid rfl 73 (.tmp 28) rfl g _ rfl cs _ R.out Tryz.underlying73 rfl HL.out ?_)
                | (refine wpList_store_new rfl 73 (.tmp 4) (.tmp 29) rfl rfl rfl HS9.out HZ.out H1.out ?_)
                | (refine wpList_load_blk rfl 73 (.tmp 4) rfl rfl B4.out Tryz.underlying73 rfl HZ.out ?_))
              refine (qa.out _).mono ?_
              rintro _ w1 ⟨rfl, x1⟩
              have B5 := Lib.hid (B4.out.ext x1)
              have X5 := Lib.hid ((HX.out.alloc (.cells cs.toArray 73)).trans x1)
              simp only [errI, Bool.false_eq_true, if_false, if_true]
              go_wp2_with fail
              refine wp_region_up (by kernel_rfl) (by kernel_rfl) ?_
              repeat (go_big_quiet_step (first | (go_at_call 70; (with_reducible exact up_call (qf.out _))) | fail))
              refine wpQuiet_nil ?_
              rintro _ ⟨z, rfl⟩
              go_wp2
              go_roundw
              case rel => exact ⟨0 + 1, by go_num, by omega, hres.out, X5.out.trans z.ext⟩
              case measure => simp [intOf]
          | succ j =>
            have hal0 := eTo_ent OK.out (Nat.lt_succ_self j)
            have RP := Lib.hid (rangeAt_ext (HC.out j _ (ent_at (by omega))) HX.out)
            rw [show j + 1 - 1 = j from rfl] at HN hsuc
            generalize hmm : l.getD (j + 1) default = en at *
            generalize hpp : l.getD j default = ep at *
            have qf := Lib.hid (fun w => efollows_any ep en w hal0)
            have HZP := Lib.hid (show (Tryz.prog.info? 73).map (·.size) = some (entC ep).length from ent_size)
            have j0 : (0 : Int) < (j : Int) + 1 := by omega
            have j1 : (j : Int) < (m : Int) + 1 := by omega
            have j2 : IntKind.i64.wrap (j : Int) = (j : Int) := by rw [IntKind.wrap_i64]; omega
            have hI : (j : Int) + 1 < (m : Int) + 1 := by omega
            have HL := Lib.hid (show (Tryz.prog.info? 73).map (·.size) = some (entC en).length from ent_size)
            have HZ := Lib.hid (show (Tryz.prog.info? 73).map (·.size) = some (entC en).toArray.size from ent_size)
            have HS9 := Lib.hid (show (#[.int .i64 0, .int .i64 0, .int .i64 0, .bool false, .int .i64 0, .int .i64 0, .int .i64 0, .int .i64 0, .int .i64 0] : Array Value).size = (entC en).toArray.size from rfl)
            have H1 := Lib.hid (entC_all en)
            have B4 := Lib.hid (Blk.new wr 73 (entC en).toArray)
            clear hmm hpp hkl hal0
            cases hal : entP en with
            | false =>
              rw [hal] at qa HN
              have hres := Lib.hid (HN.out rfl)
              clear hal hsuc HN qf
              generalize entC en = cs at *
              go_wp2_with (first
                | (refine wpList_load_mid rfl 73 (.tmp 28) rfl g _ rfl cs _ R.out Tryz.underlying73 rfl HL.out ?_)
                | (refine wpList_store_new rfl 73 (.tmp 4) (.tmp 29) rfl rfl rfl HS9.out HZ.out H1.out ?_)
                | (refine wpList_load_blk rfl 73 (.tmp 4) rfl rfl B4.out Tryz.underlying73 rfl HZ.out ?_))
              refine (qa.out _).mono ?_
              rintro _ w1 ⟨rfl, x1⟩
              have B5 := Lib.hid (B4.out.ext x1)
              have X5 := Lib.hid ((HX.out.alloc (.cells cs.toArray 73)).trans x1)
              simp only [errI, Bool.false_eq_true, if_false, if_true]
              go_wp2
              go_ret
              exact ⟨by rw [hres.out]; rfl, X5.out⟩
            | true =>
              rw [hal] at qa hsuc HN
              cases hfo : efolP ep en with
              | false =>
                rw [hfo] at qf HN
                have hres := Lib.hid (HN.out rfl)
                clear hal hsuc HN hfo
                generalize entC en = cs at *
                generalize entC ep = cp at *
                go_wp2_with (first
                  | (refine wpList_load_mid rfl 73 (.tmp 28) rfl g _ rfl cs _ R.out Tryz.underlying73 rfl HL.out ?_)
                  | (refine wpList_store_new rfl 73 (.tmp 4) (.tmp 29) rfl rfl rfl HS9.out HZ.out H1.out ?_)
                  | (refine wpList_load_blk rfl 73 (.tmp 4) rfl rfl B4.out Tryz.underlying73 rfl HZ.out ?_))
                refine (qa.out _).mono ?_
                rintro _ w1 ⟨rfl, x1⟩
                have B5 := Lib.hid (B4.out.ext x1)
                have X5 := Lib.hid ((HX.out.alloc (.cells cs.toArray 73)).trans x1)
                simp only [errI, Bool.false_eq_true, if_false, if_true]
                have RP := Lib.hid (rangeAt_ext RP.out (((Ext.refl wr).alloc (.cells cs.toArray 73)).trans x1))
                go_wp2_with fail
                refine wp_region_up (by kernel_rfl) (by kernel_rfl) ?_
                iterate 7 (go_big_quiet_step (first | (go_at_call 70; (with_reducible exact up_call (qf.out _))) | fail))
                refine wpQuiet_load_range (by kernel_rfl) 73 (.tmp 41) rfl rfl RP.out Tryz.underlying73 rfl HZP.out ?_
                dsimp only [Act.put]
                simp only [List.setIfInBounds_toArray, List.set_cons_succ, List.set_cons_zero]
                refine wpQuiet_load_blk (by kernel_rfl) 73 (.tmp 4) rfl rfl B5.out Tryz.underlying73 rfl HZ.out ?_
                dsimp only [Act.put]
                simp only [List.setIfInBounds_toArray, List.set_cons_succ, List.set_cons_zero]
                repeat (go_big_quiet_step (first | (go_at_call 70; (with_reducible exact up_call (qf.out _))) | fail))
                refine wpQuiet_nil ?_
                rintro _ ⟨z, rfl⟩
                go_wp2
                go_ret
                exact ⟨by rw [hres.out]; rfl, X5.out.trans z.ext⟩
              | true =>
                rw [hfo] at qf hsuc
                have hres := Lib.hid (show eTo l (j + 1 + 1) = true by rw [hsuc.out, OK.out]; rfl)
                clear hal hsuc HN hfo
                generalize entC en = cs at *
                generalize entC ep = cp at *
                go_wp2_with (first
                  | (refine wpList_load_mid rfl 73 (.tmp 28) rfl g _ rfl cs _ R.out Tryz.underlying73 rfl HL.out ?_)
                  | (refine wpList_store_new rfl 73 (.tmp 4) (.tmp 29) rfl rfl rfl HS9.out HZ.out H1.out ?_)
                  | (refine wpList_load_blk rfl 73 (.tmp 4) rfl rfl B4.out Tryz.underlying73 rfl HZ.out ?_))
                refine (qa.out _).mono ?_
                rintro _ w1 ⟨rfl, x1⟩
                have B5 := Lib.hid (B4.out.ext x1)
                have X5 := Lib.hid ((HX.out.alloc (.cells cs.toArray 73)).trans x1)
                simp only [errI, Bool.false_eq_true, if_false, if_true]
                have RP := Lib.hid (rangeAt_ext RP.out (((Ext.refl wr).alloc (.cells cs.toArray 73)).trans x1))
                go_wp2_with fail
                refine wp_region_up (by kernel_rfl) (by kernel_rfl) ?_
                iterate 7 (go_big_quiet_step (first | (go_at_call 70; (with_reducible exact up_call (qf.out _))) | fail))
                refine wpQuiet_load_range (by kernel_rfl) 73 (.tmp 41) rfl rfl RP.out Tryz.underlying73 rfl HZP.out ?_
                dsimp only [Act.put]
                simp only [List.setIfInBounds_toArray, List.set_cons_succ, List.set_cons_zero]
                refine wpQuiet_load_blk (by kernel_rfl) 73 (.tmp 4) rfl rfl B5.out Tryz.underlying73 rfl HZ.out ?_
                dsimp only [Act.put]
                simp only [List.setIfInBounds_toArray, List.set_cons_succ, List.set_cons_zero]
                repeat (go_big_quiet_step (first | (go_at_call 70; (with_reducible exact up_call (qf.out _))) | fail))
                refine wpQuiet_nil ?_
                rintro _ ⟨z, rfl⟩
                go_wp2
                go_roundw
                case rel => exact ⟨j + 1 + 1, by go_num, by omega, hres.out, X5.out.trans z.ext⟩
                case measure => simp [intOf]; omega
        · obtain rfl : k = m + 1 := by omega
          have hres := Lib.hid (HY.out OK.out)
          clear hk hx hok
          go_wp2
          go_ret
          exact ⟨by rw [hres.out]; rfl, HX.out⟩
  · have hres := Lib.hid (row_len hlen)
    by_cases h1 : 1 ≤ (l.length : Int)
    · have h2 : (100 : Int) < (l.length : Int) := by omega
      clear hs hlen
      go_enter Tryz.func34, Tryz.ntmps34
      go_wp2
      go_ret
      exact ⟨by rw [hres.out]; rfl, Ext.refl _⟩
    · have h2 : (l.length : Int) < 1 := by omega
      clear hs hlen
      go_enter Tryz.func34, Tryz.ntmps34
      go_wp2
      go_ret
      exact ⟨by rw [hres.out]; rfl, Ext.refl _⟩
end Go.Proofs.YtmjkfgpkohfmiaaGreat
