/- entry: Check. -/
import Derived.Test.YtcagcepbnkageaaNtB
import Derived.Laws.StructEq
namespace Go.Proofs.Ytcagcepbnkageaa
set_option linter.unusedVariables false
set_option linter.unusedSimpArgs false
open Go.RowKit

theorem view_build (id gen fst : Int) (s : Bool) (cnt blk early late bytes : Int) (w : World) : (Instr.build 105 #[(0, .agg #[.int .i64 id, .int .i64 gen, .int .i64 fst, .bool s, .int .i64 cnt, .int .i64 blk, .int .i64 early, .int .i64 late, .int .i64 bytes])]).run Try.prog w = .ok (.agg #[.int .i64 id, .int .i64 gen, .int .i64 fst, .bool s, .int .i64 cnt, .int .i64 blk, .int .i64 early, .int .i64 late, .int .i64 bytes]) w := by kernel_rfl
theorem ent_build (id gen fst : Int) (w : World) : (Instr.build 49 #[(0, .agg #[.int .i64 id, .int .i64 gen, .int .i64 fst])]).run Try.prog w = .ok (.agg #[.int .i64 id, .int .i64 gen, .int .i64 fst, .bool false, .int .i64 0, .int .i64 0, .int .i64 0, .int .i64 0, .int .i64 0]) w := by kernel_rfl
theorem ent_zero (w : World) : (zeroValue 105).run Try.prog w = .ok (.agg #[.int .i64 0, .int .i64 0, .int .i64 0, .bool false, .int .i64 0, .int .i64 0, .int .i64 0, .int .i64 0, .int .i64 0]) w := by kernel_rfl

theorem ent_ne (id gen fst cnt blk early late bytes : Int) (w : World) :
    (binOp .neq 49 (.agg #[.int .i64 id, .int .i64 gen, .int .i64 fst, .bool false, .int .i64 cnt, .int .i64 blk, .int .i64 early, .int .i64 late, .int .i64 bytes]) (.agg #[.int .i64 id, .int .i64 gen, .int .i64 fst, .bool false, .int .i64 0, .int .i64 0, .int .i64 0, .int .i64 0, .int .i64 0])).run Try.prog w = .ok (.bool (!openP cnt blk early late bytes)) w := by
  have hS : Try.prog.underlying 49 = some (.struct (Try.prog.fieldsOf 49)) := by kernel_rfl
  have hp : Try.prog.stoodInHeld 49 = false := by kernel_rfl
  have hS2 : Try.prog.underlying 26 = some (.struct (Try.prog.fieldsOf 26)) := by kernel_rfl
  have hp2 : Try.prog.stoodInHeld 26 = false := by kernel_rfl
  have u3 := Try.underlying3
  have a3 := Try.isAgg3
  have z3 := Try.sizeOf3
  have u4 := Try.underlying4
  have a4 := Try.isAgg4
  have z4 := Try.sizeOf4
  have a5 := Try.isAgg26
  have z5 := Try.sizeOf26
  have hh : ∀ d w, (Op.equalIn (d + 2) 26 (.agg #[.int .i64 id, .int .i64 gen, .int .i64 fst]) (.agg #[.int .i64 id, .int .i64 gen, .int .i64 fst])).run Try.prog w = .ok true w := fun d w => by
    rw [show d + 2 = (d + 1) + 1 from rfl, run_equalIn_agg w (d + 1) 26 _ _ hS2 hp2]
    simp only [Program.fieldsOf, Try.underlying26]
    go_simp
  rw [run_neq_struct, show (10000 : Nat) = 9999 + 1 from rfl, run_equalIn_agg w 9999 49 _ _ hS hp]
  simp only [Program.fieldsOf, Try.underlying49]
  have h5 := hh 9997
  rw [show (9997 : Nat) + 2 = 9999 from rfl] at h5
  go_simp
  by_cases h1 : cnt = 0 <;> by_cases h2 : blk = 0 <;> by_cases h3 : early = 0 <;> by_cases h4 : late = 0 <;> by_cases h6 : bytes = 0 <;> simp [openP, openD, h1, h2, h3, h4, h6]
section

variable {P : Program} {ops : Array Oper} {rest : List Oper} {op : Oper} {a : Act} {w : World} {Q : Exit → Act → World → Prop}

/-- a part is loaded, where the guard is met -/
theorem wpList_load_mid_g (hw : Region.wanted op (yielded ops a.tmps) = true) (ty : TypeId) (x : Operand) (ho : op.op = .load ty x)
    (b o : Nat) (hx : a.eval x = .pointer (some ⟨b, o, none⟩)) (cs : List Value) (d : TypeDesc) (hc : w.rangeAt b o cs)
    (hu : P.underlying ty = some d) (hd : d.isRow = true) (hi : (P.info? ty).map (·.size) = some cs.length)
    (h : wpList P ops Q rest (a.put op.dst (.agg cs.toArray)) w) : wpList P ops Q (op :: rest) a w :=
  wpList_step fun _ hK => by
    rw [if_pos hw]
    exact wp_load_mid ty x ho b o hx cs d hc hu hd hi (hK _ _ h)
end

theorem range_blk {w : World} {g : Nat} {t : TypeId} {cs : Array Value} (h : Blk w g t cs) (k : Nat) : w.rangeAt g 0 (cs.toList.take k) := fun j v hv => by
  rw [Nat.zero_add, h.cell j]
  rw [List.getElem?_take] at hv
  split at hv
  · rw [← hv]; simp
  · cases hv
attribute [local go_sem] view_build ent_build

set_option maxRecDepth 20000 in
set_option maxHeartbeats 8000000 in
theorem echeck_any (e : E9) (w : World) :
    Calls Try.prog 53 #[.agg (entC e).toArray] w fun x w' => x = .returned (.int .i64 (errI (entP e) 240)) ∧ Ext w w' := by
  obtain ⟨id, gen, fst, sld, cnt, blk, early, late, bytes⟩ := e
  show Calls Try.prog 53 #[.agg #[.int .i64 id, .int .i64 gen, .int .i64 fst, .bool sld, .int .i64 cnt, .int .i64 blk, .int .i64 early, .int .i64 late, .int .i64 bytes]] w _
  unfold entP
  dsimp only
  have qh := fun w => hcheck_any id gen fst w
  have B1 := Lib.hid (Blk.new w 49 #[.int .i64 id, .int .i64 gen, .int .i64 fst, .bool sld, .int .i64 cnt, .int .i64 blk, .int .i64 early, .int .i64 late, .int .i64 bytes])
  have HSZ := Lib.hid ((World.size_alloc w (.cells #[.int .i64 id, .int .i64 gen, .int .i64 fst, .bool sld, .int .i64 cnt, .int .i64 blk, .int .i64 early, .int .i64 late, .int .i64 bytes] 49)).symm)
  have b2 := Blk.new (w.alloc (.cells #[.int .i64 id, .int .i64 gen, .int .i64 fst, .bool sld, .int .i64 cnt, .int .i64 blk, .int .i64 early, .int .i64 late, .int .i64 bytes] 49)) 105 #[.int .i64 id, .int .i64 gen, .int .i64 fst, .bool sld, .int .i64 cnt, .int .i64 blk, .int .i64 early, .int .i64 late, .int .i64 bytes]
  rw [World.size_alloc] at b2
  have B2 := Lib.hid b2
  have R2 := Lib.hid (range_blk b2 3)
  have R9 := Lib.hid (range_blk b2 9)
  have H1 := Lib.hid (show (#[.int .i64 id, .int .i64 gen, .int .i64 fst, .bool sld, .int .i64 cnt, .int .i64 blk, .int .i64 early, .int .i64 late, .int .i64 bytes] : Array Value).all (·.oneCell') = true by simp [Value.oneCell'])
  have HE := Lib.hid ent_size
  have HV := Lib.hid view_size
  have HH := Lib.hid head_size
  have c3 := b2.cell 3
  have qv := Lib.hid (fun w => vsealed_any id gen fst sld cnt blk early late bytes w)
  clear b2
  cases hh : headP id gen fst with
  | false =>
    rw [hh] at qh
    have qh := Lib.hid qh
    clear hh
    simp only [Bool.false_and]
    go_enter Try.func53, Try.ntmps53
    go_wp2_with (first
      | (refine wpList_load_blk rfl 49 (.tmp 1) rfl rfl B1.out Try.underlying49 rfl HE.out ?_)
      | (refine wpList_store_new (cs' := #[.int .i64 id, .int .i64 gen, .int .i64 fst, .bool sld, .int .i64 cnt, .int .i64 blk, .int .i64 early, .int .i64 late, .int .i64 bytes]) rfl 105 (.tmp 3) (.tmp 5) rfl (congrArg (fun n => Value.pointer (some ⟨n, 0, none⟩)) HSZ.out) rfl rfl HV.out H1.out ?_)
      | (refine wpList_load_mid rfl 26 (.tmp 7) rfl (w.heap.size + 1) 0 rfl [.int .i64 id, .int .i64 gen, .int .i64 fst] _ R2.out Try.underlying26 rfl HH.out ?_))
    refine (qh.out _).mono ?_
    rintro _ w1 ⟨rfl, x1⟩
    simp only [errI, Bool.false_eq_true, if_false]
    go_wp2
    go_ret
    exact ⟨rfl, (((Ext.refl _).alloc _).alloc _).trans x1⟩
  | true =>
    rw [hh] at qh
    have qh := Lib.hid qh
    clear hh
    simp only [Bool.true_and]
    cases sld with
    | true =>
      simp only [if_true]
      cases hs : sealP fst cnt blk early late bytes with
      | false =>
        rw [hs] at qv
        clear hs
        go_enter Try.func53, Try.ntmps53
        go_wp2_with (first
          | (refine wpList_load_blk rfl 49 (.tmp 1) rfl rfl B1.out Try.underlying49 rfl HE.out ?_)
          | (refine wpList_store_new (cs' := #[.int .i64 id, .int .i64 gen, .int .i64 fst, .bool true, .int .i64 cnt, .int .i64 blk, .int .i64 early, .int .i64 late, .int .i64 bytes]) rfl 105 (.tmp 3) (.tmp 5) rfl (congrArg (fun n => Value.pointer (some ⟨n, 0, none⟩)) HSZ.out) rfl rfl HV.out H1.out ?_)
          | (refine wpList_load_mid rfl 26 (.tmp 7) rfl (w.heap.size + 1) 0 rfl [.int .i64 id, .int .i64 gen, .int .i64 fst] _ R2.out Try.underlying26 rfl HH.out ?_))
        refine (qh.out _).mono ?_
        rintro _ w1 ⟨rfl, x1⟩
        simp only [errI, if_true]
        have d3 := Go.cell_later x1 c3
        have B2' := Lib.hid (B2.out.ext x1)
        have R2' := Lib.hid (rangeAt_ext R2.out x1)
        have R9' := Lib.hid (rangeAt_ext R9.out x1)
        have X1 := Lib.hid ((((Ext.refl w).alloc _).alloc _).trans x1)
        clear c3 B1 B2 R2 R9 x1 qh
        go_wp2_with (refine wpList_load_blk_g rfl 105 (.tmp 3) rfl rfl B2'.out Try.underlying105 rfl HV.out ?_)
        refine (qv.out _).mono ?_
        rintro _ w2 ⟨rfl, x2⟩
        have d3' := Go.cell_later x2 d3
        go_wp2
        go_ret
        exact ⟨rfl, X1.out.trans x2⟩
      | true =>
        rw [hs] at qv
        clear hs
        go_enter Try.func53, Try.ntmps53
        go_wp2_with (first
          | (refine wpList_load_blk rfl 49 (.tmp 1) rfl rfl B1.out Try.underlying49 rfl HE.out ?_)
          | (refine wpList_store_new (cs' := #[.int .i64 id, .int .i64 gen, .int .i64 fst, .bool true, .int .i64 cnt, .int .i64 blk, .int .i64 early, .int .i64 late, .int .i64 bytes]) rfl 105 (.tmp 3) (.tmp 5) rfl (congrArg (fun n => Value.pointer (some ⟨n, 0, none⟩)) HSZ.out) rfl rfl HV.out H1.out ?_)
          | (refine wpList_load_mid rfl 26 (.tmp 7) rfl (w.heap.size + 1) 0 rfl [.int .i64 id, .int .i64 gen, .int .i64 fst] _ R2.out Try.underlying26 rfl HH.out ?_))
        refine (qh.out _).mono ?_
        rintro _ w1 ⟨rfl, x1⟩
        simp only [errI, if_true]
        have d3 := Go.cell_later x1 c3
        have B2' := Lib.hid (B2.out.ext x1)
        have R2' := Lib.hid (rangeAt_ext R2.out x1)
        have R9' := Lib.hid (rangeAt_ext R9.out x1)
        have X1 := Lib.hid ((((Ext.refl w).alloc _).alloc _).trans x1)
        clear c3 B1 B2 R2 R9 x1 qh
        go_wp2_with (refine wpList_load_blk_g rfl 105 (.tmp 3) rfl rfl B2'.out Try.underlying105 rfl HV.out ?_)
        refine (qv.out _).mono ?_
        rintro _ w2 ⟨rfl, x2⟩
        have d3' := Go.cell_later x2 d3
        go_wp2
        go_ret
        exact ⟨rfl, X1.out.trans x2⟩
    | false =>
      simp only [Bool.false_eq_true, if_false]
      have hne := ent_ne id gen fst cnt blk early late bytes
      generalize openP cnt blk early late bytes = r at *
      cases r
      · simp only [Bool.not_false] at hne
        go_enter Try.func53, Try.ntmps53
        go_wp2_with (first
          | (refine wpList_load_blk rfl 49 (.tmp 1) rfl rfl B1.out Try.underlying49 rfl HE.out ?_)
          | (refine wpList_store_new (cs' := #[.int .i64 id, .int .i64 gen, .int .i64 fst, .bool false, .int .i64 cnt, .int .i64 blk, .int .i64 early, .int .i64 late, .int .i64 bytes]) rfl 105 (.tmp 3) (.tmp 5) rfl (congrArg (fun n => Value.pointer (some ⟨n, 0, none⟩)) HSZ.out) rfl rfl HV.out H1.out ?_)
          | (refine wpList_load_mid rfl 26 (.tmp 7) rfl (w.heap.size + 1) 0 rfl [.int .i64 id, .int .i64 gen, .int .i64 fst] _ R2.out Try.underlying26 rfl HH.out ?_))
        refine (qh.out _).mono ?_
        rintro _ w1 ⟨rfl, x1⟩
        simp only [errI, if_true]
        have d3 := Go.cell_later x1 c3
        have B2' := Lib.hid (B2.out.ext x1)
        have R2' := Lib.hid (rangeAt_ext R2.out x1)
        have R9' := Lib.hid (rangeAt_ext R9.out x1)
        have X1 := Lib.hid ((((Ext.refl w).alloc _).alloc _).trans x1)
        clear c3 B1 B2 R2 R9 x1 qh
        go_wp2_with (first
          | (refine wpList_load_mid_g rfl 49 (.tmp 25) rfl (w.heap.size + 1) 0 rfl [.int .i64 id, .int .i64 gen, .int .i64 fst, .bool false, .int .i64 cnt, .int .i64 blk, .int .i64 early, .int .i64 late, .int .i64 bytes] _ R9'.out Try.underlying49 rfl HE.out ?_)
          | (refine wpList_load_mid_g rfl 26 (.tmp 28) rfl (w.heap.size + 1) 0 rfl [.int .i64 id, .int .i64 gen, .int .i64 fst] _ R2'.out Try.underlying26 rfl HH.out ?_))
        go_ret
        exact ⟨rfl, X1.out⟩
      · simp only [Bool.not_true] at hne
        go_enter Try.func53, Try.ntmps53
        go_wp2_with (first
          | (refine wpList_load_blk rfl 49 (.tmp 1) rfl rfl B1.out Try.underlying49 rfl HE.out ?_)
          | (refine wpList_store_new (cs' := #[.int .i64 id, .int .i64 gen, .int .i64 fst, .bool false, .int .i64 cnt, .int .i64 blk, .int .i64 early, .int .i64 late, .int .i64 bytes]) rfl 105 (.tmp 3) (.tmp 5) rfl (congrArg (fun n => Value.pointer (some ⟨n, 0, none⟩)) HSZ.out) rfl rfl HV.out H1.out ?_)
          | (refine wpList_load_mid rfl 26 (.tmp 7) rfl (w.heap.size + 1) 0 rfl [.int .i64 id, .int .i64 gen, .int .i64 fst] _ R2.out Try.underlying26 rfl HH.out ?_))
        refine (qh.out _).mono ?_
        rintro _ w1 ⟨rfl, x1⟩
        simp only [errI, if_true]
        have d3 := Go.cell_later x1 c3
        have B2' := Lib.hid (B2.out.ext x1)
        have R2' := Lib.hid (rangeAt_ext R2.out x1)
        have R9' := Lib.hid (rangeAt_ext R9.out x1)
        have X1 := Lib.hid ((((Ext.refl w).alloc _).alloc _).trans x1)
        clear c3 B1 B2 R2 R9 x1 qh
        go_wp2_with (first
          | (refine wpList_load_mid_g rfl 49 (.tmp 25) rfl (w.heap.size + 1) 0 rfl [.int .i64 id, .int .i64 gen, .int .i64 fst, .bool false, .int .i64 cnt, .int .i64 blk, .int .i64 early, .int .i64 late, .int .i64 bytes] _ R9'.out Try.underlying49 rfl HE.out ?_)
          | (refine wpList_load_mid_g rfl 26 (.tmp 28) rfl (w.heap.size + 1) 0 rfl [.int .i64 id, .int .i64 gen, .int .i64 fst] _ R2'.out Try.underlying26 rfl HH.out ?_))
        go_ret
        exact ⟨rfl, X1.out⟩
end Go.Proofs.Ytcagcepbnkageaa
