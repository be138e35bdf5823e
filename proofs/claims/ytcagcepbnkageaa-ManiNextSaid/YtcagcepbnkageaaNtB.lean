/- entry: view.sealed; varveref24: Check. (Printed by wip/tools/entry2.py.) -/
import Derived.Test.YtcagcepbnkageaaNtA
namespace Go.Proofs.Ytcagcepbnkageaa
set_option linter.unusedVariables false
set_option linter.unusedSimpArgs false
open Go.RowKit

/-- a segment's entry -/
structure E9 where
  id : Int
  gen : Int
  fst : Int
  sld : Bool
  cnt : Int
  blk : Int
  early : Int
  late : Int
  bytes : Int
instance : Inhabited E9 := ⟨⟨0, 0, 0, false, 0, 0, 0, 0, 0⟩⟩
def entC (e : E9) : List Value := [.int .i64 e.id, .int .i64 e.gen, .int .i64 e.fst, .bool e.sld, .int .i64 e.cnt, .int .i64 e.blk, .int .i64 e.early, .int .i64 e.late, .int .i64 e.bytes]
theorem entC_length (e : E9) : (entC e).length = 9 := rfl
theorem entC_one (e : E9) : ∀ u ∈ entC e, u.oneCell' = true := by
  intro u hu
  simp only [entC, List.mem_cons, List.not_mem_nil, or_false] at hu
  rcases hu with rfl | rfl | rfl | rfl | rfl | rfl | rfl | rfl | rfl <;> rfl
theorem entC_all (e : E9) : (entC e).toArray.all (·.oneCell') = true := by simp [entC, Value.oneCell']
theorem ent_size : (Try.prog.info? 49).map (·.size) = some 9 := by kernel_rfl
theorem view_size : (Try.prog.info? 105).map (·.size) = some 9 := by kernel_rfl
theorem head_size : (Try.prog.info? 26).map (·.size) = some 3 := by kernel_rfl

def sealD (fst cnt blk early late bytes : Int) : Prop := 1 ≤ blk ∧ blk ≤ 1000 ∧ blk ≤ cnt ∧ cnt ≤ 1000000000 ∧ fst ≤ 1000000001 - cnt ∧ 0 ≤ early ∧ early ≤ late ∧ late ≤ 1000000000 ∧ 1 ≤ bytes ∧ bytes ≤ 1000000
instance (fst cnt blk early late bytes : Int) : Decidable (sealD fst cnt blk early late bytes) := by unfold sealD; infer_instance
def sealP (fst cnt blk early late bytes : Int) : Bool := decide (sealD fst cnt blk early late bytes)
def openD (cnt blk early late bytes : Int) : Prop := cnt = 0 ∧ blk = 0 ∧ early = 0 ∧ late = 0 ∧ bytes = 0
instance (cnt blk early late bytes : Int) : Decidable (openD cnt blk early late bytes) := by unfold openD; infer_instance
def openP (cnt blk early late bytes : Int) : Bool := decide (openD cnt blk early late bytes)
/-- an entry may be -/
def entP (e : E9) : Bool := headP e.id e.gen e.fst && (if e.sld then sealP e.fst e.cnt e.blk e.early e.late e.bytes else openP e.cnt e.blk e.early e.late e.bytes)

theorem seal_firsts (fst cnt blk early late bytes : Int) :
    (sealP fst cnt blk early late bytes = true ∧ 1 ≤ blk ∧ blk ≤ 1000 ∧ blk ≤ cnt ∧ cnt ≤ 1000000000 ∧ fst ≤ 1000000001 - cnt ∧ 0 ≤ early ∧ early ≤ late ∧ late ≤ 1000000000 ∧ 1 ≤ bytes ∧ bytes ≤ 1000000)
    ∨ (sealP fst cnt blk early late bytes = false ∧ ¬ (1 ≤ blk))
    ∨ (sealP fst cnt blk early late bytes = false ∧ 1 ≤ blk ∧ ¬ (blk ≤ 1000))
    ∨ (sealP fst cnt blk early late bytes = false ∧ 1 ≤ blk ∧ blk ≤ 1000 ∧ ¬ (blk ≤ cnt))
    ∨ (sealP fst cnt blk early late bytes = false ∧ 1 ≤ blk ∧ blk ≤ 1000 ∧ blk ≤ cnt ∧ ¬ (cnt ≤ 1000000000))
    ∨ (sealP fst cnt blk early late bytes = false ∧ 1 ≤ blk ∧ blk ≤ 1000 ∧ blk ≤ cnt ∧ cnt ≤ 1000000000 ∧ ¬ (fst ≤ 1000000001 - cnt))
    ∨ (sealP fst cnt blk early late bytes = false ∧ 1 ≤ blk ∧ blk ≤ 1000 ∧ blk ≤ cnt ∧ cnt ≤ 1000000000 ∧ fst ≤ 1000000001 - cnt ∧ ¬ (0 ≤ early))
    ∨ (sealP fst cnt blk early late bytes = false ∧ 1 ≤ blk ∧ blk ≤ 1000 ∧ blk ≤ cnt ∧ cnt ≤ 1000000000 ∧ fst ≤ 1000000001 - cnt ∧ 0 ≤ early ∧ ¬ (early ≤ late))
    ∨ (sealP fst cnt blk early late bytes = false ∧ 1 ≤ blk ∧ blk ≤ 1000 ∧ blk ≤ cnt ∧ cnt ≤ 1000000000 ∧ fst ≤ 1000000001 - cnt ∧ 0 ≤ early ∧ early ≤ late ∧ ¬ (late ≤ 1000000000))
    ∨ (sealP fst cnt blk early late bytes = false ∧ 1 ≤ blk ∧ blk ≤ 1000 ∧ blk ≤ cnt ∧ cnt ≤ 1000000000 ∧ fst ≤ 1000000001 - cnt ∧ 0 ≤ early ∧ early ≤ late ∧ late ≤ 1000000000 ∧ ¬ (1 ≤ bytes))
    ∨ (sealP fst cnt blk early late bytes = false ∧ 1 ≤ blk ∧ blk ≤ 1000 ∧ blk ≤ cnt ∧ cnt ≤ 1000000000 ∧ fst ≤ 1000000001 - cnt ∧ 0 ≤ early ∧ early ≤ late ∧ late ≤ 1000000000 ∧ 1 ≤ bytes ∧ ¬ (bytes ≤ 1000000)) := by
  unfold sealP
  rw [decide_eq_true_eq, decide_eq_false_iff_not]
  unfold sealD
  simp only [and_assoc]
  refine (Classical.em (1 ≤ blk)).elim (fun h0 => ?_) (fun h0 => .inr (.inl ⟨fun h => h0 h.1, h0⟩))
  refine (Classical.em (blk ≤ 1000)).elim (fun h1 => ?_) (fun h1 => .inr (.inr (.inl ⟨fun h => h1 h.2.1, h0, h1⟩)))
  refine (Classical.em (blk ≤ cnt)).elim (fun h2 => ?_) (fun h2 => .inr (.inr (.inr (.inl ⟨fun h => h2 h.2.2.1, h0, h1, h2⟩))))
  refine (Classical.em (cnt ≤ 1000000000)).elim (fun h3 => ?_) (fun h3 => .inr (.inr (.inr (.inr (.inl ⟨fun h => h3 h.2.2.2.1, h0, h1, h2, h3⟩)))))
  refine (Classical.em (fst ≤ 1000000001 - cnt)).elim (fun h4 => ?_) (fun h4 => .inr (.inr (.inr (.inr (.inr (.inl ⟨fun h => h4 h.2.2.2.2.1, h0, h1, h2, h3, h4⟩))))))
  refine (Classical.em (0 ≤ early)).elim (fun h5 => ?_) (fun h5 => .inr (.inr (.inr (.inr (.inr (.inr (.inl ⟨fun h => h5 h.2.2.2.2.2.1, h0, h1, h2, h3, h4, h5⟩)))))))
  refine (Classical.em (early ≤ late)).elim (fun h6 => ?_) (fun h6 => .inr (.inr (.inr (.inr (.inr (.inr (.inr (.inl ⟨fun h => h6 h.2.2.2.2.2.2.1, h0, h1, h2, h3, h4, h5, h6⟩))))))))
  refine (Classical.em (late ≤ 1000000000)).elim (fun h7 => ?_) (fun h7 => .inr (.inr (.inr (.inr (.inr (.inr (.inr (.inr (.inl ⟨fun h => h7 h.2.2.2.2.2.2.2.1, h0, h1, h2, h3, h4, h5, h6, h7⟩)))))))))
  refine (Classical.em (1 ≤ bytes)).elim (fun h8 => ?_) (fun h8 => .inr (.inr (.inr (.inr (.inr (.inr (.inr (.inr (.inr (.inl ⟨fun h => h8 h.2.2.2.2.2.2.2.2.1, h0, h1, h2, h3, h4, h5, h6, h7, h8⟩))))))))))
  refine (Classical.em (bytes ≤ 1000000)).elim (fun h9 => ?_) (fun h9 => .inr (.inr (.inr (.inr (.inr (.inr (.inr (.inr (.inr (.inr (⟨fun h => h9 h.2.2.2.2.2.2.2.2.2, h0, h1, h2, h3, h4, h5, h6, h7, h8, h9⟩)))))))))))
  have hall := And.intro h0 (And.intro h1 (And.intro h2 (And.intro h3 (And.intro h4 (And.intro h5 (And.intro h6 (And.intro h7 (And.intro h8 (h9)))))))))
  exact .inl ⟨h0, h1, h2, h3, h4, h5, h6, h7, h8, h9, hall⟩

theorem open_firsts (cnt blk early late bytes : Int) :
    (openP cnt blk early late bytes = true ∧ cnt = 0 ∧ blk = 0 ∧ early = 0 ∧ late = 0 ∧ bytes = 0)
    ∨ (openP cnt blk early late bytes = false ∧ ¬ (cnt = 0))
    ∨ (openP cnt blk early late bytes = false ∧ cnt = 0 ∧ ¬ (blk = 0))
    ∨ (openP cnt blk early late bytes = false ∧ cnt = 0 ∧ blk = 0 ∧ ¬ (early = 0))
    ∨ (openP cnt blk early late bytes = false ∧ cnt = 0 ∧ blk = 0 ∧ early = 0 ∧ ¬ (late = 0))
    ∨ (openP cnt blk early late bytes = false ∧ cnt = 0 ∧ blk = 0 ∧ early = 0 ∧ late = 0 ∧ ¬ (bytes = 0)) := by
  unfold openP
  rw [decide_eq_true_eq, decide_eq_false_iff_not]
  unfold openD
  simp only [and_assoc]
  refine (Classical.em (cnt = 0)).elim (fun h0 => ?_) (fun h0 => .inr (.inl ⟨fun h => h0 h.1, h0⟩))
  refine (Classical.em (blk = 0)).elim (fun h1 => ?_) (fun h1 => .inr (.inr (.inl ⟨fun h => h1 h.2.1, h0, h1⟩)))
  refine (Classical.em (early = 0)).elim (fun h2 => ?_) (fun h2 => .inr (.inr (.inr (.inl ⟨fun h => h2 h.2.2.1, h0, h1, h2⟩))))
  refine (Classical.em (late = 0)).elim (fun h3 => ?_) (fun h3 => .inr (.inr (.inr (.inr (.inl ⟨fun h => h3 h.2.2.2.1, h0, h1, h2, h3⟩)))))
  refine (Classical.em (bytes = 0)).elim (fun h4 => ?_) (fun h4 => .inr (.inr (.inr (.inr (.inr (⟨fun h => h4 h.2.2.2.2, h0, h1, h2, h3, h4⟩))))))
  have hall := And.intro h0 (And.intro h1 (And.intro h2 (And.intro h3 (h4))))
  exact .inl ⟨h0, h1, h2, h3, h4, hall⟩

set_option maxRecDepth 20000 in
set_option maxHeartbeats 8000000 in
theorem vsealed_any (id gen fst : Int) (s : Bool) (cnt blk early late bytes : Int) (w : World) :
    Calls Try.prog 59 #[.agg #[.int .i64 id, .int .i64 gen, .int .i64 fst, .bool s, .int .i64 cnt, .int .i64 blk, .int .i64 early, .int .i64 late, .int .i64 bytes]] w fun e w' => e = .returned (.bool (sealP fst cnt blk early late bytes)) ∧ Ext w w' := by
  have hcases := seal_firsts fst cnt blk early late bytes
  generalize sealP fst cnt blk early late bytes = r at *
  have b1 := Lib.hid (Blk.new w 105 #[.int .i64 id, .int .i64 gen, .int .i64 fst, .bool s, .int .i64 cnt, .int .i64 blk, .int .i64 early, .int .i64 late, .int .i64 bytes])
  have c0 := b1.out.cell 0
  have c1 := b1.out.cell 1
  have c2 := b1.out.cell 2
  have c3 := b1.out.cell 3
  have c4 := b1.out.cell 4
  have c5 := b1.out.cell 5
  have c6 := b1.out.cell 6
  have c7 := b1.out.cell 7
  have c8 := b1.out.cell 8
  rcases hcases with ⟨rfl, h0, h1, h2, h3, h4, h5, h6, h7, h8, h9⟩ | ⟨rfl, h0⟩ | ⟨rfl, h0, h1⟩ | ⟨rfl, h0, h1, h2⟩ | ⟨rfl, h0, h1, h2, h3⟩ | ⟨rfl, h0, h1, h2, h3, h4⟩ | ⟨rfl, h0, h1, h2, h3, h4, h5⟩ | ⟨rfl, h0, h1, h2, h3, h4, h5, h6⟩ | ⟨rfl, h0, h1, h2, h3, h4, h5, h6, h7⟩ | ⟨rfl, h0, h1, h2, h3, h4, h5, h6, h7, h8⟩ | ⟨rfl, h0, h1, h2, h3, h4, h5, h6, h7, h8, h9⟩
  · have e1 : IntKind.i64.wrap (1000000001 - cnt) = 1000000001 - cnt := by rw [IntKind.wrap_i64]; omega
    go_enter Try.func59, Try.ntmps59
    go_wp2
    go_ret
    exact ⟨rfl, (Ext.refl _).alloc _⟩
  · go_enter Try.func59, Try.ntmps59
    go_wp2
    go_ret
    exact ⟨rfl, (Ext.refl _).alloc _⟩
  · go_enter Try.func59, Try.ntmps59
    go_wp2
    go_ret
    exact ⟨rfl, (Ext.refl _).alloc _⟩
  · go_enter Try.func59, Try.ntmps59
    go_wp2
    go_ret
    exact ⟨rfl, (Ext.refl _).alloc _⟩
  · go_enter Try.func59, Try.ntmps59
    go_wp2
    go_ret
    exact ⟨rfl, (Ext.refl _).alloc _⟩
  · have e1 : IntKind.i64.wrap (1000000001 - cnt) = 1000000001 - cnt := by rw [IntKind.wrap_i64]; omega
    go_enter Try.func59, Try.ntmps59
    go_wp2
    go_ret
    exact ⟨rfl, (Ext.refl _).alloc _⟩
  · have e1 : IntKind.i64.wrap (1000000001 - cnt) = 1000000001 - cnt := by rw [IntKind.wrap_i64]; omega
    go_enter Try.func59, Try.ntmps59
    go_wp2
    go_ret
    exact ⟨rfl, (Ext.refl _).alloc _⟩
  · have e1 : IntKind.i64.wrap (1000000001 - cnt) = 1000000001 - cnt := by rw [IntKind.wrap_i64]; omega
    go_enter Try.func59, Try.ntmps59
    go_wp2
    go_ret
    exact ⟨rfl, (Ext.refl _).alloc _⟩
  · have e1 : IntKind.i64.wrap (1000000001 - cnt) = 1000000001 - cnt := by rw [IntKind.wrap_i64]; omega
    go_enter Try.func59, Try.ntmps59
    go_wp2
    go_ret
    exact ⟨rfl, (Ext.refl _).alloc _⟩
  · have e1 : IntKind.i64.wrap (1000000001 - cnt) = 1000000001 - cnt := by rw [IntKind.wrap_i64]; omega
    go_enter Try.func59, Try.ntmps59
    go_wp2
    go_ret
    exact ⟨rfl, (Ext.refl _).alloc _⟩
  · have e1 : IntKind.i64.wrap (1000000001 - cnt) = 1000000001 - cnt := by rw [IntKind.wrap_i64]; omega
    go_enter Try.func59, Try.ntmps59
    go_wp2
    go_ret
    exact ⟨rfl, (Ext.refl _).alloc _⟩

set_option maxRecDepth 20000 in
set_option maxHeartbeats 8000000 in
theorem echeck24_any (e : E9) (w : World) :
    Calls Try.prog 56 #[.agg (entC e).toArray] w fun x w' => x = .returned (.int .i64 (errI (entP e) 240)) ∧ Ext w w' := by
  obtain ⟨id, gen, fst, sld, cnt, blk, early, late, bytes⟩ := e
  show Calls Try.prog 56 #[.agg #[.int .i64 id, .int .i64 gen, .int .i64 fst, .bool sld, .int .i64 cnt, .int .i64 blk, .int .i64 early, .int .i64 late, .int .i64 bytes]] w _
  unfold entP
  dsimp only
  have qh := fun w => rcheck_any id gen fst w
  have b1 := Lib.hid (Blk.new w 49 #[.int .i64 id, .int .i64 gen, .int .i64 fst, .bool sld, .int .i64 cnt, .int .i64 blk, .int .i64 early, .int .i64 late, .int .i64 bytes])
  have c0 := b1.out.cell 0
  have c1 := b1.out.cell 1
  have c2 := b1.out.cell 2
  have c3 := b1.out.cell 3
  have c4 := b1.out.cell 4
  have c5 := b1.out.cell 5
  have c6 := b1.out.cell 6
  have c7 := b1.out.cell 7
  have c8 := b1.out.cell 8
  have R := Lib.hid (show (w.alloc (.cells #[.int .i64 id, .int .i64 gen, .int .i64 fst, .bool sld, .int .i64 cnt, .int .i64 blk, .int .i64 early, .int .i64 late, .int .i64 bytes] 49)).rangeAt w.heap.size 0 [.int .i64 id, .int .i64 gen, .int .i64 fst] from fun j v hv => by
    match j, hv with
    | 0, hv => cases hv; exact c0
    | 1, hv => cases hv; exact c1
    | 2, hv => cases hv; exact c2)
  have HZ := Lib.hid head_size
  cases hh : headP id gen fst with
  | false =>
    rw [hh] at qh
    have qh := Lib.hid qh
    clear hh
    simp only [Bool.false_and]
    go_enter Try.func56, Try.ntmps56
    go_wp2_with (refine wpList_load_mid rfl 26 (.tmp 3) rfl w.heap.size _ rfl _ _ R.out Try.underlying26 rfl HZ.out ?_)
    refine (qh.out _).mono ?_
    rintro _ w1 ⟨rfl, x1⟩
    simp only [errI, Bool.false_eq_true, if_false]
    go_wp2
    go_ret
    exact ⟨rfl, ((Ext.refl _).alloc _).trans x1⟩
  | true =>
    have hd : headD id gen fst := by unfold headP at hh; exact of_decide_eq_true hh
    obtain ⟨-, -, hf1, hf2⟩ := hd
    rw [hh] at qh
    have qh := Lib.hid qh
    clear hh
    simp only [Bool.true_and]
    cases sld with
    | false =>
      have hcases := open_firsts cnt blk early late bytes
      simp only [Bool.false_eq_true, if_false]
      generalize openP cnt blk early late bytes = r at *
      rcases hcases with ⟨rfl, h0, h1, h2, h3, h4⟩ | ⟨rfl, h0⟩ | ⟨rfl, h0, h1⟩ | ⟨rfl, h0, h1, h2⟩ | ⟨rfl, h0, h1, h2, h3⟩ | ⟨rfl, h0, h1, h2, h3, h4⟩
      · subst h0
        subst h1
        subst h2
        subst h3
        subst h4
        go_enter Try.func56, Try.ntmps56
        go_wp2_with (refine wpList_load_mid rfl 26 (.tmp 3) rfl w.heap.size _ rfl _ _ R.out Try.underlying26 rfl HZ.out ?_)
        refine (qh.out _).mono ?_
        rintro _ w1 ⟨rfl, x1⟩
        simp only [errI]
        have d2 := Go.cell_later x1 c2
        have d3 := Go.cell_later x1 c3
        have d4 := Go.cell_later x1 c4
        have d5 := Go.cell_later x1 c5
        have d6 := Go.cell_later x1 c6
        have d7 := Go.cell_later x1 c7
        have d8 := Go.cell_later x1 c8
        clear c0 c1 c2 c3 c4 c5 c6 c7 c8
        go_wp2
        go_ret
        exact ⟨rfl, ((Ext.refl _).alloc _).trans x1⟩
      · have g : (cnt == 0) = false := by simpa using h0
        go_enter Try.func56, Try.ntmps56
        go_wp2_with (refine wpList_load_mid rfl 26 (.tmp 3) rfl w.heap.size _ rfl _ _ R.out Try.underlying26 rfl HZ.out ?_)
        refine (qh.out _).mono ?_
        rintro _ w1 ⟨rfl, x1⟩
        simp only [errI]
        have d2 := Go.cell_later x1 c2
        have d3 := Go.cell_later x1 c3
        have d4 := Go.cell_later x1 c4
        have d5 := Go.cell_later x1 c5
        have d6 := Go.cell_later x1 c6
        have d7 := Go.cell_later x1 c7
        have d8 := Go.cell_later x1 c8
        clear c0 c1 c2 c3 c4 c5 c6 c7 c8
        go_wp2
        go_ret
        exact ⟨rfl, ((Ext.refl _).alloc _).trans x1⟩
      · subst h0
        have g : (blk == 0) = false := by simpa using h1
        go_enter Try.func56, Try.ntmps56
        go_wp2_with (refine wpList_load_mid rfl 26 (.tmp 3) rfl w.heap.size _ rfl _ _ R.out Try.underlying26 rfl HZ.out ?_)
        refine (qh.out _).mono ?_
        rintro _ w1 ⟨rfl, x1⟩
        simp only [errI]
        have d2 := Go.cell_later x1 c2
        have d3 := Go.cell_later x1 c3
        have d4 := Go.cell_later x1 c4
        have d5 := Go.cell_later x1 c5
        have d6 := Go.cell_later x1 c6
        have d7 := Go.cell_later x1 c7
        have d8 := Go.cell_later x1 c8
        clear c0 c1 c2 c3 c4 c5 c6 c7 c8
        go_wp2
        go_ret
        exact ⟨rfl, ((Ext.refl _).alloc _).trans x1⟩
      · subst h0
        subst h1
        have g : (early == 0) = false := by simpa using h2
        go_enter Try.func56, Try.ntmps56
        go_wp2_with (refine wpList_load_mid rfl 26 (.tmp 3) rfl w.heap.size _ rfl _ _ R.out Try.underlying26 rfl HZ.out ?_)
        refine (qh.out _).mono ?_
        rintro _ w1 ⟨rfl, x1⟩
        simp only [errI]
        have d2 := Go.cell_later x1 c2
        have d3 := Go.cell_later x1 c3
        have d4 := Go.cell_later x1 c4
        have d5 := Go.cell_later x1 c5
        have d6 := Go.cell_later x1 c6
        have d7 := Go.cell_later x1 c7
        have d8 := Go.cell_later x1 c8
        clear c0 c1 c2 c3 c4 c5 c6 c7 c8
        go_wp2
        go_ret
        exact ⟨rfl, ((Ext.refl _).alloc _).trans x1⟩
      · subst h0
        subst h1
        subst h2
        have g : (late == 0) = false := by simpa using h3
        go_enter Try.func56, Try.ntmps56
        go_wp2_with (refine wpList_load_mid rfl 26 (.tmp 3) rfl w.heap.size _ rfl _ _ R.out Try.underlying26 rfl HZ.out ?_)
        refine (qh.out _).mono ?_
        rintro _ w1 ⟨rfl, x1⟩
        simp only [errI]
        have d2 := Go.cell_later x1 c2
        have d3 := Go.cell_later x1 c3
        have d4 := Go.cell_later x1 c4
        have d5 := Go.cell_later x1 c5
        have d6 := Go.cell_later x1 c6
        have d7 := Go.cell_later x1 c7
        have d8 := Go.cell_later x1 c8
        clear c0 c1 c2 c3 c4 c5 c6 c7 c8
        go_wp2
        go_ret
        exact ⟨rfl, ((Ext.refl _).alloc _).trans x1⟩
      · subst h0
        subst h1
        subst h2
        subst h3
        have g : (bytes == 0) = false := by simpa using h4
        go_enter Try.func56, Try.ntmps56
        go_wp2_with (refine wpList_load_mid rfl 26 (.tmp 3) rfl w.heap.size _ rfl _ _ R.out Try.underlying26 rfl HZ.out ?_)
        refine (qh.out _).mono ?_
        rintro _ w1 ⟨rfl, x1⟩
        simp only [errI]
        have d2 := Go.cell_later x1 c2
        have d3 := Go.cell_later x1 c3
        have d4 := Go.cell_later x1 c4
        have d5 := Go.cell_later x1 c5
        have d6 := Go.cell_later x1 c6
        have d7 := Go.cell_later x1 c7
        have d8 := Go.cell_later x1 c8
        clear c0 c1 c2 c3 c4 c5 c6 c7 c8
        go_wp2
        go_ret
        exact ⟨rfl, ((Ext.refl _).alloc _).trans x1⟩
    | true =>
      have hcases := seal_firsts fst cnt blk early late bytes
      simp only [if_true]
      generalize sealP fst cnt blk early late bytes = r at *
      rcases hcases with ⟨rfl, h0, h1, h2, h3, h4, h5, h6, h7, h8, h9⟩ | ⟨rfl, h0⟩ | ⟨rfl, h0, h1⟩ | ⟨rfl, h0, h1, h2⟩ | ⟨rfl, h0, h1, h2, h3⟩ | ⟨rfl, h0, h1, h2, h3, h4⟩ | ⟨rfl, h0, h1, h2, h3, h4, h5⟩ | ⟨rfl, h0, h1, h2, h3, h4, h5, h6⟩ | ⟨rfl, h0, h1, h2, h3, h4, h5, h6, h7⟩ | ⟨rfl, h0, h1, h2, h3, h4, h5, h6, h7, h8⟩ | ⟨rfl, h0, h1, h2, h3, h4, h5, h6, h7, h8, h9⟩
      · have e1 : IntKind.i64.wrap (fst + cnt) = fst + cnt := by rw [IntKind.wrap_i64]; omega
        have h4' : fst + cnt ≤ 1000000001 := by omega
        go_enter Try.func56, Try.ntmps56
        go_wp2_with (refine wpList_load_mid rfl 26 (.tmp 3) rfl w.heap.size _ rfl _ _ R.out Try.underlying26 rfl HZ.out ?_)
        refine (qh.out _).mono ?_
        rintro _ w1 ⟨rfl, x1⟩
        simp only [errI]
        have d2 := Go.cell_later x1 c2
        have d3 := Go.cell_later x1 c3
        have d4 := Go.cell_later x1 c4
        have d5 := Go.cell_later x1 c5
        have d6 := Go.cell_later x1 c6
        have d7 := Go.cell_later x1 c7
        have d8 := Go.cell_later x1 c8
        clear c0 c1 c2 c3 c4 c5 c6 c7 c8
        go_wp2
        go_ret
        exact ⟨rfl, ((Ext.refl _).alloc _).trans x1⟩
      · go_enter Try.func56, Try.ntmps56
        go_wp2_with (refine wpList_load_mid rfl 26 (.tmp 3) rfl w.heap.size _ rfl _ _ R.out Try.underlying26 rfl HZ.out ?_)
        refine (qh.out _).mono ?_
        rintro _ w1 ⟨rfl, x1⟩
        simp only [errI]
        have d2 := Go.cell_later x1 c2
        have d3 := Go.cell_later x1 c3
        have d4 := Go.cell_later x1 c4
        have d5 := Go.cell_later x1 c5
        have d6 := Go.cell_later x1 c6
        have d7 := Go.cell_later x1 c7
        have d8 := Go.cell_later x1 c8
        clear c0 c1 c2 c3 c4 c5 c6 c7 c8
        go_wp2
        go_ret
        exact ⟨rfl, ((Ext.refl _).alloc _).trans x1⟩
      · go_enter Try.func56, Try.ntmps56
        go_wp2_with (refine wpList_load_mid rfl 26 (.tmp 3) rfl w.heap.size _ rfl _ _ R.out Try.underlying26 rfl HZ.out ?_)
        refine (qh.out _).mono ?_
        rintro _ w1 ⟨rfl, x1⟩
        simp only [errI]
        have d2 := Go.cell_later x1 c2
        have d3 := Go.cell_later x1 c3
        have d4 := Go.cell_later x1 c4
        have d5 := Go.cell_later x1 c5
        have d6 := Go.cell_later x1 c6
        have d7 := Go.cell_later x1 c7
        have d8 := Go.cell_later x1 c8
        clear c0 c1 c2 c3 c4 c5 c6 c7 c8
        go_wp2
        go_ret
        exact ⟨rfl, ((Ext.refl _).alloc _).trans x1⟩
      · go_enter Try.func56, Try.ntmps56
        go_wp2_with (refine wpList_load_mid rfl 26 (.tmp 3) rfl w.heap.size _ rfl _ _ R.out Try.underlying26 rfl HZ.out ?_)
        refine (qh.out _).mono ?_
        rintro _ w1 ⟨rfl, x1⟩
        simp only [errI]
        have d2 := Go.cell_later x1 c2
        have d3 := Go.cell_later x1 c3
        have d4 := Go.cell_later x1 c4
        have d5 := Go.cell_later x1 c5
        have d6 := Go.cell_later x1 c6
        have d7 := Go.cell_later x1 c7
        have d8 := Go.cell_later x1 c8
        clear c0 c1 c2 c3 c4 c5 c6 c7 c8
        go_wp2
        go_ret
        exact ⟨rfl, ((Ext.refl _).alloc _).trans x1⟩
      · go_enter Try.func56, Try.ntmps56
        go_wp2_with (refine wpList_load_mid rfl 26 (.tmp 3) rfl w.heap.size _ rfl _ _ R.out Try.underlying26 rfl HZ.out ?_)
        refine (qh.out _).mono ?_
        rintro _ w1 ⟨rfl, x1⟩
        simp only [errI]
        have d2 := Go.cell_later x1 c2
        have d3 := Go.cell_later x1 c3
        have d4 := Go.cell_later x1 c4
        have d5 := Go.cell_later x1 c5
        have d6 := Go.cell_later x1 c6
        have d7 := Go.cell_later x1 c7
        have d8 := Go.cell_later x1 c8
        clear c0 c1 c2 c3 c4 c5 c6 c7 c8
        go_wp2
        go_ret
        exact ⟨rfl, ((Ext.refl _).alloc _).trans x1⟩
      · have e1 : IntKind.i64.wrap (fst + cnt) = fst + cnt := by rw [IntKind.wrap_i64]; omega
        have h4' : ¬ fst + cnt ≤ 1000000001 := by omega
        go_enter Try.func56, Try.ntmps56
        go_wp2_with (refine wpList_load_mid rfl 26 (.tmp 3) rfl w.heap.size _ rfl _ _ R.out Try.underlying26 rfl HZ.out ?_)
        refine (qh.out _).mono ?_
        rintro _ w1 ⟨rfl, x1⟩
        simp only [errI]
        have d2 := Go.cell_later x1 c2
        have d3 := Go.cell_later x1 c3
        have d4 := Go.cell_later x1 c4
        have d5 := Go.cell_later x1 c5
        have d6 := Go.cell_later x1 c6
        have d7 := Go.cell_later x1 c7
        have d8 := Go.cell_later x1 c8
        clear c0 c1 c2 c3 c4 c5 c6 c7 c8
        go_wp2
        go_ret
        exact ⟨rfl, ((Ext.refl _).alloc _).trans x1⟩
      · have e1 : IntKind.i64.wrap (fst + cnt) = fst + cnt := by rw [IntKind.wrap_i64]; omega
        have h4' : fst + cnt ≤ 1000000001 := by omega
        go_enter Try.func56, Try.ntmps56
        go_wp2_with (refine wpList_load_mid rfl 26 (.tmp 3) rfl w.heap.size _ rfl _ _ R.out Try.underlying26 rfl HZ.out ?_)
        refine (qh.out _).mono ?_
        rintro _ w1 ⟨rfl, x1⟩
        simp only [errI]
        have d2 := Go.cell_later x1 c2
        have d3 := Go.cell_later x1 c3
        have d4 := Go.cell_later x1 c4
        have d5 := Go.cell_later x1 c5
        have d6 := Go.cell_later x1 c6
        have d7 := Go.cell_later x1 c7
        have d8 := Go.cell_later x1 c8
        clear c0 c1 c2 c3 c4 c5 c6 c7 c8
        go_wp2
        go_ret
        exact ⟨rfl, ((Ext.refl _).alloc _).trans x1⟩
      · have e1 : IntKind.i64.wrap (fst + cnt) = fst + cnt := by rw [IntKind.wrap_i64]; omega
        have h4' : fst + cnt ≤ 1000000001 := by omega
        go_enter Try.func56, Try.ntmps56
        go_wp2_with (refine wpList_load_mid rfl 26 (.tmp 3) rfl w.heap.size _ rfl _ _ R.out Try.underlying26 rfl HZ.out ?_)
        refine (qh.out _).mono ?_
        rintro _ w1 ⟨rfl, x1⟩
        simp only [errI]
        have d2 := Go.cell_later x1 c2
        have d3 := Go.cell_later x1 c3
        have d4 := Go.cell_later x1 c4
        have d5 := Go.cell_later x1 c5
        have d6 := Go.cell_later x1 c6
        have d7 := Go.cell_later x1 c7
        have d8 := Go.cell_later x1 c8
        clear c0 c1 c2 c3 c4 c5 c6 c7 c8
        go_wp2
        go_ret
        exact ⟨rfl, ((Ext.refl _).alloc _).trans x1⟩
      · have e1 : IntKind.i64.wrap (fst + cnt) = fst + cnt := by rw [IntKind.wrap_i64]; omega
        have h4' : fst + cnt ≤ 1000000001 := by omega
        go_enter Try.func56, Try.ntmps56
        go_wp2_with (refine wpList_load_mid rfl 26 (.tmp 3) rfl w.heap.size _ rfl _ _ R.out Try.underlying26 rfl HZ.out ?_)
        refine (qh.out _).mono ?_
        rintro _ w1 ⟨rfl, x1⟩
        simp only [errI]
        have d2 := Go.cell_later x1 c2
        have d3 := Go.cell_later x1 c3
        have d4 := Go.cell_later x1 c4
        have d5 := Go.cell_later x1 c5
        have d6 := Go.cell_later x1 c6
        have d7 := Go.cell_later x1 c7
        have d8 := Go.cell_later x1 c8
        clear c0 c1 c2 c3 c4 c5 c6 c7 c8
        go_wp2
        go_ret
        exact ⟨rfl, ((Ext.refl _).alloc _).trans x1⟩
      · have e1 : IntKind.i64.wrap (fst + cnt) = fst + cnt := by rw [IntKind.wrap_i64]; omega
        have h4' : fst + cnt ≤ 1000000001 := by omega
        go_enter Try.func56, Try.ntmps56
        go_wp2_with (refine wpList_load_mid rfl 26 (.tmp 3) rfl w.heap.size _ rfl _ _ R.out Try.underlying26 rfl HZ.out ?_)
        refine (qh.out _).mono ?_
        rintro _ w1 ⟨rfl, x1⟩
        simp only [errI]
        have d2 := Go.cell_later x1 c2
        have d3 := Go.cell_later x1 c3
        have d4 := Go.cell_later x1 c4
        have d5 := Go.cell_later x1 c5
        have d6 := Go.cell_later x1 c6
        have d7 := Go.cell_later x1 c7
        have d8 := Go.cell_later x1 c8
        clear c0 c1 c2 c3 c4 c5 c6 c7 c8
        go_wp2
        go_ret
        exact ⟨rfl, ((Ext.refl _).alloc _).trans x1⟩
      · have e1 : IntKind.i64.wrap (fst + cnt) = fst + cnt := by rw [IntKind.wrap_i64]; omega
        have h4' : fst + cnt ≤ 1000000001 := by omega
        go_enter Try.func56, Try.ntmps56
        go_wp2_with (refine wpList_load_mid rfl 26 (.tmp 3) rfl w.heap.size _ rfl _ _ R.out Try.underlying26 rfl HZ.out ?_)
        refine (qh.out _).mono ?_
        rintro _ w1 ⟨rfl, x1⟩
        simp only [errI]
        have d2 := Go.cell_later x1 c2
        have d3 := Go.cell_later x1 c3
        have d4 := Go.cell_later x1 c4
        have d5 := Go.cell_later x1 c5
        have d6 := Go.cell_later x1 c6
        have d7 := Go.cell_later x1 c7
        have d8 := Go.cell_later x1 c8
        clear c0 c1 c2 c3 c4 c5 c6 c7 c8
        go_wp2
        go_ret
        exact ⟨rfl, ((Ext.refl _).alloc _).trans x1⟩
end Go.Proofs.Ytcagcepbnkageaa
