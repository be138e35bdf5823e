/- EntryTurns: the law's walk; the opening of its arguments. -/
import Derived.Test.YtplbebcckffgeaaEntS
import Derived.Test.YtplbebcckffgeaaEntJ
import Derived.Test.YtplbebcckffgeaaEntL
import Derived.Test.YtplbebcckffgeaaEntM
import Derived.Test.YtplbebcckffgeaaEntO
import Derived.Test.YtplbebcckffgeaaStructO
namespace Go.Proofs.Ytplbebcckffgeaa
set_option linter.unusedVariables false
set_option linter.unusedSimpArgs false
open Go.ChangeShapes Go.WideShapes Go.ChangeAt Go.RowKit
section
variable {H : Type} {enc : TypeId × Value → H} {w : World} {base : Nat} {spare : Nat → Bool} {held : Bool}
theorem open_entv {r : Reach} {b0 : Nat} {v : Value} {d : DataW H} {p : List MemPlace} (hv : Value.okWide Try.prog w r b0 26 v) (h : DataW.Trod enc Try.prog w base spare held 26 v d p) :
    ∃ e : E9, v = .agg (entC e).toArray := by
  obtain ⟨cs, rfl, hsz⟩ := okWide_struct Try.underlying26 hv
  obtain ⟨fuel, hf⟩ := h
  obtain ⟨e, he, _⟩ := open_ent hf
  have he : cs.toList = entC e := by simpa [Value.cells] using he
  exact ⟨e, by rw [← he]⟩
theorem open_headv {r : Reach} {b0 : Nat} {v : Value} {d : DataW H} {p : List MemPlace} (hv : Value.okWide Try.prog w r b0 24 v) (h : DataW.Trod enc Try.prog w base spare held 24 v d p) :
    ∃ x y z : Int, v = .agg #[.int .i64 x, .int .i64 y, .int .i64 z] := by
  obtain ⟨cs, rfl, hsz⟩ := okWide_struct Try.underlying24 hv
  obtain ⟨fuel, hf⟩ := h
  obtain ⟨x, y, z, he⟩ := open_head hf
  have he : cs.toList = [.int .i64 x, .int .i64 y, .int .i64 z] := by simpa [Value.cells] using he
  refine ⟨x, y, z, ?_⟩
  congr 1
  apply Array.ext'
  exact he
end
theorem putL_len (out : List E9) : ((putL out).length : Int) ≤ 100 := by
  unfold putL
  cases h : rowP out with
  | true => exact (rowP_len h).2
  | false => exact (by decide : ((0 : Nat) : Int) ≤ 100)
theorem sealL_len (l : List E9) (e : E9) (id gen fst : Int) : ((sealL l e id gen fst).length : Int) ≤ 100 := by
  unfold sealL
  cases sealOk l e with
  | true => exact putL_len _
  | false => exact (by decide : ((0 : Nat) : Int) ≤ 100)
theorem replL_len (l : List E9) (e : E9) : ((replL l e).length : Int) ≤ 100 := by
  unfold replL
  cases rowP l && entP e with
  | false => exact (by decide : ((0 : Nat) : Int) ≤ 100)
  | true =>
    cases matAt l e with
    | none => exact (by decide : ((0 : Nat) : Int) ≤ 100)
    | some i => exact putL_len _
theorem eDropL_len (l : List E9) (n : Int) : ((eDropL l n).length : Int) ≤ l.length := by
  unfold eDropL
  split
  · rw [List.length_drop]; omega
  · exact Int.natCast_nonneg _

set_option maxRecDepth 20000 in
set_option maxHeartbeats 16000000 in
theorem entryTurns_law (v : Value) (l : List E9) (e : E9) (id gen fst : Int) (w : World) (rd : RR entC 9 w v l) (b : (l.length : Int) ≤ 9223372036854775807) (R : ∀ x ∈ l, True) :
    Calls Try.prog 3 #[v, .agg (entC e).toArray, .agg #[.int .i64 id, .int .i64 gen, .int .i64 fst]] w fun x w' => x = .returned (.bool true) ∧ Ext w w' := by
  have QA := Lib.hid awake_any
  have X0 := Lib.hid (((Ext.refl w).alloc (.cells (entC e).toArray 26)).alloc (.cells #[.int .i64 id, .int .i64 gen, .int .i64 fst] 24))
  by_cases hbig : (200 : Int) < (l.length : Int)
  · obtain ⟨a, c, rfl, _, _, _⟩ := rd
    generalize entC e = ce at *
    clear b R
    go_enter Try.func3, Try.ntmps3
    go_wp2_with fail
    refine (QA.out _).mono ?_
    rintro _ w1 ⟨rfl, x1⟩
    go_wp2
    go_ret
    exact ⟨rfl, X0.out.trans x1⟩
  · have hsm : (l.length : Int) ≤ 200 := by omega
    have B1 := Lib.hid ((Blk.new w 26 (entC e).toArray).alloc (.cells #[.int .i64 id, .int .i64 gen, .int .i64 fst] 24))
    have B2 := Lib.hid (Blk.new (w.alloc (.cells (entC e).toArray 26)) 24 #[.int .i64 id, .int .i64 gen, .int .i64 fst])
    rw [World.size_alloc] at B2
    have R0 := Lib.hid (rd.ext X0.out)
    have Q1 := Lib.hid (fun w h => eSeal_any l e id gen fst v w h)
    have Q2 := Lib.hid (fun w h => rSeal_any l e id gen fst v w h)
    have Q3 := Lib.hid (fun w h => eReplace_any l e v w h)
    have Q4 := Lib.hid (fun w h => rReplace_any l e v w h)
    have Q5 := Lib.hid (fun w h => eDrop_any l gen v w h (by omega))
    have Q6 := Lib.hid (fun w h => rDrop_any l gen v w h (by omega))
    have q7 := fun va vb w ha hb => rSame_any (sealL l e id gen fst) (sealL l e id gen fst) va vb w ha hb (by have := sealL_len l e id gen fst; omega)
    have q8 := fun va vb w ha hb => rSame_any (replL l e) (replL l e) va vb w ha hb (by have := replL_len l e; omega)
    have q9 := fun va vb w ha hb => rSame_any (eDropL l gen) (eDropL l gen) va vb w ha hb (by have := eDropL_len l gen; omega)
    rw [decide_eq_true rfl] at q7 q8 q9
    have Q7 := Lib.hid q7
    have Q8 := Lib.hid q8
    have Q9 := Lib.hid q9
    have HS := Lib.hid head_size
    have ES := Lib.hid (show (Try.prog.info? 26).map (·.size) = some (entC e).toArray.size from ent_size)
    obtain ⟨a, c, rfl, _, _, _⟩ := rd
    clear q7 q8 q9 b R hbig
    generalize sealE l e id gen fst = se at *
    generalize sealL l e id gen fst = sl at *
    generalize replE l e = re at *
    generalize replL l e = rl at *
    generalize eDropE l gen = de at *
    generalize eDropL l gen = dl at *
    generalize entC e = ce at *
    go_enter Try.func3, Try.ntmps3
    go_wp2_with (first
      | (refine wpList_load_blk rfl 26 (.tmp 4) rfl rfl B1.out Try.underlying26 rfl ES.out ?_)
      | (refine wpList_load_blk rfl 24 (.tmp 5) rfl rfl B2.out Try.underlying24 rfl HS.out ?_))
    refine (Q1.out _ R0.out).mono ?_
    rintro _ w1 ⟨v1, rfl, x1, i1⟩
    have I1 := Lib.hid (WR.rr entC_length i1)
    have R0 := Lib.hid (R0.out.ext x1)
    have B1 := Lib.hid (B1.out.ext x1)
    have B2 := Lib.hid (B2.out.ext x1)
    have X1 := Lib.hid (X0.out.trans x1)
    clear x1 i1 Q1
    go_wp2_with (first
      | (refine wpList_load_blk rfl 26 (.tmp 4) rfl rfl B1.out Try.underlying26 rfl ES.out ?_)
      | (refine wpList_load_blk rfl 24 (.tmp 5) rfl rfl B2.out Try.underlying24 rfl HS.out ?_))
    refine (Q2.out _ R0.out).mono ?_
    rintro _ w2 ⟨v2, rfl, x2, i2⟩
    have I2 := Lib.hid (WR.rr entC_length i2)
    have R0 := Lib.hid (R0.out.ext x2)
    have B1 := Lib.hid (B1.out.ext x2)
    have B2 := Lib.hid (B2.out.ext x2)
    have X2 := Lib.hid (X1.out.trans x2)
    have I1 := Lib.hid (I1.out.ext x2)
    clear x2 i2 Q2
    go_wp2_with (refine wpList_load_blk rfl 26 (.tmp 4) rfl rfl B1.out Try.underlying26 rfl ES.out ?_)
    refine (Q3.out _ R0.out).mono ?_
    rintro _ w3 ⟨v3, rfl, x3, i3⟩
    have I3 := Lib.hid (WR.rr entC_length i3)
    have R0 := Lib.hid (R0.out.ext x3)
    have B1 := Lib.hid (B1.out.ext x3)
    have B2 := Lib.hid (B2.out.ext x3)
    have X3 := Lib.hid (X2.out.trans x3)
    have I1 := Lib.hid (I1.out.ext x3)
    have I2 := Lib.hid (I2.out.ext x3)
    clear x3 i3 Q3
    go_wp2_with (refine wpList_load_blk rfl 26 (.tmp 4) rfl rfl B1.out Try.underlying26 rfl ES.out ?_)
    refine (Q4.out _ R0.out).mono ?_
    rintro _ w4 ⟨v4, rfl, x4, i4⟩
    have I4 := Lib.hid (WR.rr entC_length i4)
    have R0 := Lib.hid (R0.out.ext x4)
    have B1 := Lib.hid (B1.out.ext x4)
    have B2 := Lib.hid (B2.out.ext x4)
    have X4 := Lib.hid (X3.out.trans x4)
    have I1 := Lib.hid (I1.out.ext x4)
    have I2 := Lib.hid (I2.out.ext x4)
    have I3 := Lib.hid (I3.out.ext x4)
    clear x4 i4 Q4
    have d4 : w4.cell? ⟨w.heap.size + 1, 1, none⟩ = some (.int .i64 gen) := B2.out.cell 1
    go_wp2_with fail
    clear d4
    refine (Q5.out _ R0.out).mono ?_
    rintro _ w5 ⟨v5, rfl, x5, i5⟩
    have I5 := Lib.hid (WR.rr entC_length i5)
    have R0 := Lib.hid (R0.out.ext x5)
    have B1 := Lib.hid (B1.out.ext x5)
    have B2 := Lib.hid (B2.out.ext x5)
    have X5 := Lib.hid (X4.out.trans x5)
    have I1 := Lib.hid (I1.out.ext x5)
    have I2 := Lib.hid (I2.out.ext x5)
    have I3 := Lib.hid (I3.out.ext x5)
    have I4 := Lib.hid (I4.out.ext x5)
    clear x5 i5 Q5
    have d5 : w5.cell? ⟨w.heap.size + 1, 1, none⟩ = some (.int .i64 gen) := B2.out.cell 1
    go_wp2_with fail
    clear d5
    refine (Q6.out _ R0.out).mono ?_
    rintro _ w6 ⟨v6, rfl, x6, i6⟩
    have I6 := Lib.hid (WR.rr entC_length i6)
    have R0 := Lib.hid (R0.out.ext x6)
    have B1 := Lib.hid (B1.out.ext x6)
    have B2 := Lib.hid (B2.out.ext x6)
    have X6 := Lib.hid (X5.out.trans x6)
    have I1 := Lib.hid (I1.out.ext x6)
    have I2 := Lib.hid (I2.out.ext x6)
    have I3 := Lib.hid (I3.out.ext x6)
    have I4 := Lib.hid (I4.out.ext x6)
    have I5 := Lib.hid (I5.out.ext x6)
    clear x6 i6 Q6
    go_wp2_with fail
    refine (Q7.out _ _ _ I1.out I2.out).mono ?_
    rintro _ w7 ⟨rfl, x7⟩
    have X7 := Lib.hid (X6.out.trans x7)
    have I3 := Lib.hid (I3.out.ext x7)
    have I4 := Lib.hid (I4.out.ext x7)
    have I5 := Lib.hid (I5.out.ext x7)
    have I6 := Lib.hid (I6.out.ext x7)
    clear x7
    go_wp2_with fail
    refine (Q8.out _ _ _ I3.out I4.out).mono ?_
    rintro _ w8 ⟨rfl, x8⟩
    have X8 := Lib.hid (X7.out.trans x8)
    have I5 := Lib.hid (I5.out.ext x8)
    have I6 := Lib.hid (I6.out.ext x8)
    clear x8
    go_wp2_with fail
    refine (Q9.out _ _ _ I5.out I6.out).mono ?_
    rintro _ w9 ⟨rfl, x9⟩
    have X9 := Lib.hid (X8.out.trans x9)
    clear x9
    go_wp2_with fail
    refine (QA.out _).mono ?_
    rintro _ w10 ⟨rfl, x10⟩
    have X10 := Lib.hid (X9.out.trans x10)
    clear x10
    go_wp2
    go_ret
    exact ⟨rfl, X10.out⟩
end Go.Proofs.Ytplbebcckffgeaa
