/- Several texts in one. merged: NtF NtP NtQ NtH -/
import Derived.Test.YtcagcepbnkageaaNtD
import Derived.Test.YtcagcepbnkageaaApp3G
import Derived.Laws.StructEq
import Derived.Test.YtcagcepbnkageaaAppV
import Derived.Test.YtcagcepbnkageaaAppFull
namespace Go.Proofs.Ytcagcepbnkageaa
set_option linter.unusedVariables false
set_option linter.unusedSimpArgs false
open Go.RowKit

theorem ent_info : (Try.prog.info? 49).map (fun i => (i.zero, i.size, i.bytes)) = some (some (.agg #[.int .i64 0, .int .i64 0, .int .i64 0, .bool false, .int .i64 0, .int .i64 0, .int .i64 0, .int .i64 0, .int .i64 0]), 9, 72) := by kernel_rfl
theorem run_bs0e (w : World) : (Instr.buildSlice 22 0 #[]).run Try.prog w = .ok (.slice (some ⟨w.heap.size, 0, none⟩) 0 0) (w.alloc (.cells #[] 49)) := by kernel_rfl
theorem run_bs1e (id gen fst : Int) (s : Bool) (cnt blk early late bytes : Int) (w : World) : (Instr.buildSlice 22 1 #[(0, .agg #[.int .i64 id, .int .i64 gen, .int .i64 fst, .bool s, .int .i64 cnt, .int .i64 blk, .int .i64 early, .int .i64 late, .int .i64 bytes])]).run Try.prog w = .ok (.slice (some ⟨w.heap.size, 0, none⟩) 1 1) (w.alloc (.cells (entC ⟨id, gen, fst, s, cnt, blk, early, late, bytes⟩).toArray 49)) := by kernel_rfl
/-- slices of entries that the call has made -/
abbrev EW (w : World) (B : Nat) (v : Value) (l : List E9) : Prop := WR entC 9 w B 49 v l
theorem EW.app {w : World} {B : Nat} {v : Value} {l : List E9} (h : EW w B v l) (hB : B ≤ w.heap.size) (x : E9) (hl : l.length ≤ 1000000) :
    ∃ v' w', (Builtin.append_ #[22, 22] 22 #[v, .slice (some ⟨w.heap.size, 0, none⟩) 1 1]).run Try.prog (w.alloc (.cells (entC x).toArray 49)) = .ok v' w' ∧ EW w' B v' (l ++ [x]) ∧ Below B w w' ∧ (∀ k, k < w.heap.size → some k ≠ v.ownBlock → w'.heap[k]? = w.heap[k]?) :=
  WR.app entC_length (by omega) entC_one h hB (P := Try.prog) (t := 22) Try.underlying22 ent_info rfl x (by omega) (by unfold maxLen; omega)

theorem rowP_len {l : List E9} (h : rowP l = true) : 1 ≤ (l.length : Int) ∧ (l.length : Int) ≤ 100 := by
  unfold rowP at h
  simp only [Bool.and_eq_true, decide_eq_true_eq] at h
  exact h.1
/-- what entry.Drop answers -/
def eDropE (l : List E9) (n : Int) : Int := if rowP l then (if 0 ≤ n ∧ n ≤ (l.length : Int) - 1 then 0 else 2) else 240
def eDropL (l : List E9) (n : Int) : List E9 := if eDropE l n = 0 then l.drop n.toNat else []

end Go.Proofs.Ytcagcepbnkageaa
namespace Go.Proofs.Ytcagcepbnkageaa
set_option linter.unusedVariables false
set_option linter.unusedSimpArgs false
open Go.RowKit

deriving instance DecidableEq for E9
theorem rowP_all {l : List E9} (h : rowP l = true) : 1 ≤ (l.length : Int) ∧ (l.length : Int) ≤ 100 ∧ (l.getD (l.length - 1) default).sld = false ∧ eTo l l.length = true := by
  unfold rowP at h
  rw [Bool.and_eq_true, Bool.and_eq_true, decide_eq_true_eq] at h
  exact ⟨h.1.1, h.1.2, by simpa using h.2.1, h.2.2⟩
theorem getD_drop9 (l : List E9) (n i : Nat) : (l.drop n).getD i default = l.getD (n + i) default := by
  rw [List.getD_eq_getElem?_getD, List.getElem?_drop, List.getD_eq_getElem?_getD]
theorem row_drop {l : List E9} (h : rowP l = true) (n : Nat) (hn : n + 1 ≤ l.length) : rowP (l.drop n) = true := by
  obtain ⟨h1, h2, h3, h4⟩ := rowP_all h
  unfold rowP
  rw [List.length_drop, Bool.and_eq_true, Bool.and_eq_true, decide_eq_true_eq]
  refine ⟨by omega, ?_, ?_⟩
  · rw [getD_drop9, show n + (l.length - n - 1) = l.length - 1 by omega, h3]; rfl
  · refine List.all_eq_true.2 fun i hi => ?_
    have hi := List.mem_range.1 hi
    have := eTo_all h4 (i := n + i) (by omega)
    rw [getD_drop9, getD_drop9]
    rw [Bool.and_eq_true] at this ⊢
    refine ⟨this.1, ?_⟩
    rcases Nat.eq_zero_or_pos i with h0 | h0
    · rw [h0]; rfl
    · have h5 := this.2
      rw [show (n + i == 0) = false by simp; omega, Bool.false_or] at h5
      rw [show n + (i - 1) = n + i - 1 by omega, h5, Bool.or_true]

/-- an open entry -/
def openE (id gen fst : Int) : E9 := ⟨id, gen, fst, false, 0, 0, 0, 0, 0⟩
/-- a row, or nothing; its error -/
def putL (out : List E9) : List E9 := if rowP out then out else []
def sameHead (a b : E9) : Bool := decide (a.id = b.id) && (decide (a.gen = b.gen) && decide (a.fst = b.fst))
/-- what is sealed -/
def sealOut (l : List E9) (e : E9) (id gen fst : Int) : List E9 := l.take (l.length - 1) ++ [e, openE id gen fst]
def sealOk (l : List E9) (e : E9) : Bool := rowP l && (e.sld && sameHead e (l.getD (l.length - 1) default))
def sealL (l : List E9) (e : E9) (id gen fst : Int) : List E9 := if sealOk l e then putL (sealOut l e id gen fst) else []
def sealE (l : List E9) (e : E9) (id gen fst : Int) : Int := if sealOk l e then errI (rowP (sealOut l e id gen fst)) 240 else 240
theorem row_ent {l : List E9} (h : rowP l = true) {i : Nat} (hi : i < l.length) : entP (l.getD i default) = true := eTo_ent (rowP_all h).2.2.2 hi
theorem seal_head {l : List E9} {e : E9} {id gen fst : Int} (h : rowP (sealOut l e id gen fst) = true) : headP id gen fst = true := by
  have := row_ent h (i := (l.take (l.length - 1)).length + 1) (by unfold sealOut; simp)
  unfold sealOut at this
  rw [List.getD_eq_getElem?_getD, List.getElem?_append_right (by omega), Nat.add_sub_cancel_left] at this
  unfold entP at this
  rw [Bool.and_eq_true] at this
  exact this.1

/-- is an entry to be replaced by another one? -/
def matP (o e : E9) : Bool := (o.sld && e.sld) && (decide (o.id = e.id) && decide (o.gen < e.gen)) && ((decide (o.fst = e.fst) && decide (o.cnt = e.cnt)) && (decide (o.early = e.early) && decide (o.late = e.late)))
/-- at which place -/
def matAt (l : List E9) (e : E9) : Option Nat := l.findIdx? (matP · e)
def replL (l : List E9) (e : E9) : List E9 := if rowP l && entP e then (match matAt l e with | some i => putL (l.set i e) | none => []) else []
def replE (l : List E9) (e : E9) : Int := if rowP l && entP e then (match matAt l e with | some i => errI (rowP (l.set i e)) 240 | none => 240) else 240

theorem eTo_id {l : List E9} (h : eTo l l.length = true) : ∀ (j i : Nat), i < j → j < l.length → (l.getD i default).id < (l.getD j default).id := by
  intro j
  induction j with
  | zero => intro i hi; omega
  | succ j ih =>
    intro i hi hj
    have h1 : (l.getD j default).id < (l.getD (j + 1) default).id := by
      have := eTo_all h hj
      rw [Bool.and_eq_true] at this
      have := this.2
      rw [show (j + 1 == 0) = false from rfl, Bool.false_or, Nat.add_sub_cancel] at this
      unfold efolP behindP at this
      simp only [Bool.and_eq_true, decide_eq_true_eq] at this
      exact this.2.1
    rcases Nat.lt_or_ge i j with h2 | h2
    · have := ih i h2 (by omega); omega
    · obtain rfl : i = j := by omega
      exact h1
/-- all that are to be replaced, are -/
theorem mat_map {l : List E9} (h : rowP l = true) (e : E9) : l.map (fun o => if matP o e then e else o) = (match matAt l e with | some i => l.set i e | none => l) := by
  obtain ⟨_, _, _, h4⟩ := rowP_all h
  unfold matAt
  cases hf : l.findIdx? (matP · e) with
  | none =>
    rw [List.findIdx?_eq_none_iff] at hf
    dsimp only
    refine (List.map_congr_left fun o ho => ?_).trans (List.map_id l)
    have := hf o ho
    rw [if_neg (by simpa using this)]; rfl
  | some i =>
    dsimp only
    obtain ⟨hi, h1, h2⟩ := List.findIdx?_eq_some_iff_getElem.1 hf
    apply List.ext_getElem?
    intro k
    rw [List.getElem?_map]
    rcases Nat.lt_trichotomy k i with hk | rfl | hk
    · rw [List.getElem?_set_ne (by omega), List.getElem?_eq_getElem (by omega), Option.map_some]
      have := h2 k hk
      rw [if_neg (by simpa using this)]
    · rw [List.getElem?_set_self hi, List.getElem?_eq_getElem hi, Option.map_some, if_pos h1]
    · rw [List.getElem?_set_ne (by omega)]
      rcases Nat.lt_or_ge k l.length with hkl | hkl
      · rw [List.getElem?_eq_getElem hkl, Option.map_some, if_neg]
        intro hm
        have hid := eTo_id h4 k i hk hkl
        rw [List.getD_eq_getElem?_getD, List.getD_eq_getElem?_getD, List.getElem?_eq_getElem hi, List.getElem?_eq_getElem hkl] at hid
        unfold matP at h1 hm
        simp only [Bool.and_eq_true, decide_eq_true_eq] at h1 hm
        simp only [Option.getD_some] at hid
        have a1 := h1.1.2.1
        have a2 := hm.1.2.1
        omega
      · rw [List.getElem?_eq_none (by omega)]; rfl
/-- what is set into a row where it may not be, makes none -/
theorem set_bad {l : List E9} {e : E9} {i : Nat} (hi : i < l.length) (he : entP e = false) : rowP (l.set i e) = false := by
  cases h : rowP (l.set i e) with
  | false => rfl
  | true =>
    have := row_ent h (i := i) (by rw [List.length_set]; exact hi)
    rw [List.getD_eq_getElem?_getD, List.getElem?_set_self hi, Option.getD_some, he] at this
    cases this
end Go.Proofs.Ytcagcepbnkageaa
namespace Go.Proofs.Ytcagcepbnkageaa
set_option linter.unusedVariables false
set_option linter.unusedSimpArgs false
open Go.RowKit

theorem head_in (d : Nat) (a1 a2 a3 b1 b2 b3 : Int) (w : World) : (Op.equalIn (d + 2) 26 (.agg #[.int .i64 a1, .int .i64 a2, .int .i64 a3]) (.agg #[.int .i64 b1, .int .i64 b2, .int .i64 b3])).run Try.prog w = .ok (decide (a1 = b1) && (decide (a2 = b2) && decide (a3 = b3))) w := by
  have hS2 : Try.prog.underlying 26 = some (.struct (Try.prog.fieldsOf 26)) := by kernel_rfl
  have hp2 : Try.prog.stoodInHeld 26 = false := by kernel_rfl
  have u3 := Try.underlying3
  have ag3 := Try.isAgg3
  have z3 := Try.sizeOf3
  rw [show d + 2 = (d + 1) + 1 from rfl, run_equalIn_agg w (d + 1) 26 _ _ hS2 hp2]
  simp only [Program.fieldsOf, Try.underlying26]
  go_simp
  by_cases h1 : a1 = b1 <;> by_cases h2 : a2 = b2 <;> by_cases h3 : a3 = b3 <;> simp [h1, h2, h3]
theorem head_neq (a1 a2 a3 b1 b2 b3 : Int) (w : World) :
    (binOp .neq 26 (.agg #[.int .i64 a1, .int .i64 a2, .int .i64 a3]) (.agg #[.int .i64 b1, .int .i64 b2, .int .i64 b3])).run Try.prog w = .ok (.bool (!(decide (a1 = b1) && (decide (a2 = b2) && decide (a3 = b3))))) w := by
  rw [run_neq_struct, show (10000 : Nat) = 9998 + 2 from rfl, head_in]
  rfl
theorem e9_ext (a b : E9) : (a = b) ↔ a.id = b.id ∧ a.gen = b.gen ∧ a.fst = b.fst ∧ a.sld = b.sld ∧ a.cnt = b.cnt ∧ a.blk = b.blk ∧ a.early = b.early ∧ a.late = b.late ∧ a.bytes = b.bytes := by
  cases a; cases b; simp
theorem ent_neq (a b : E9) (w : World) :
    (binOp .neq 49 (.agg (entC a).toArray) (.agg (entC b).toArray)).run Try.prog w = .ok (.bool (!decide (a = b))) w := by
  have hS : Try.prog.underlying 49 = some (.struct (Try.prog.fieldsOf 49)) := by kernel_rfl
  have hp : Try.prog.stoodInHeld 49 = false := by kernel_rfl
  have u3 := Try.underlying3
  have ag3 := Try.isAgg3
  have z3 := Try.sizeOf3
  have u4 := Try.underlying4
  have ag4 := Try.isAgg4
  have z4 := Try.sizeOf4
  have ag5 := Try.isAgg26
  have z5 := Try.sizeOf26
  have hh := head_in 9997
  rw [show (9997 : Nat) + 2 = 9999 from rfl] at hh
  have hx : (decide (a = b)) = decide (a.id = b.id ∧ a.gen = b.gen ∧ a.fst = b.fst ∧ a.sld = b.sld ∧ a.cnt = b.cnt ∧ a.blk = b.blk ∧ a.early = b.early ∧ a.late = b.late ∧ a.bytes = b.bytes) := by
    simp only [e9_ext]
  rw [hx]
  clear hx
  obtain ⟨id, gen, fst, sld, cnt, blk, early, late, bytes⟩ := a
  obtain ⟨id', gen', fst', sld', cnt', blk', early', late', bytes'⟩ := b
  simp only [entC]
  rw [run_neq_struct, show (10000 : Nat) = 9999 + 1 from rfl, run_equalIn_agg w 9999 49 _ _ hS hp]
  simp only [Program.fieldsOf, Try.underlying49]
  go_simp
  by_cases h1 : id = id'
  · by_cases h2 : gen = gen'
    · by_cases h3 : fst = fst'
      · by_cases h4 : sld = sld'
        · by_cases h5 : cnt = cnt'
          · by_cases h6 : blk = blk'
            · by_cases h7 : early = early'
              · by_cases h8 : late = late'
                · by_cases h9 : bytes = bytes' <;> simp [h1, h2, h3, h4, h5, h6, h7, h8, h9]
                · simp [h1, h2, h3, h4, h5, h6, h7, h8]
              · simp [h1, h2, h3, h4, h5, h6, h7]
            · simp [h1, h2, h3, h4, h5, h6]
          · simp [h1, h2, h3, h4, h5]
        · simp [h1, h2, h3, h4]
      · simp [h1, h2, h3]
    · simp [h1, h2]
  · simp [h1]
end Go.Proofs.Ytcagcepbnkageaa
namespace Go.Proofs.Ytcagcepbnkageaa
set_option linter.unusedVariables false
set_option linter.unusedSimpArgs false
open Go.RowKit

/-- a header's open entry, or nothing -/
def openC (b : Bool) (id gen fst : Int) : E9 := if b then openE id gen fst else ⟨0, 0, 0, false, 0, 0, 0, 0, 0⟩
theorem ent_build0 (w : World) : (Instr.build 49 #[]).run Try.prog w = .ok (.agg #[.int .i64 0, .int .i64 0, .int .i64 0, .bool false, .int .i64 0, .int .i64 0, .int .i64 0, .int .i64 0, .int .i64 0]) w := by kernel_rfl
theorem ent_zero9 (w : World) : (zeroValue 49).run Try.prog w = .ok (.agg #[.int .i64 0, .int .i64 0, .int .i64 0, .bool false, .int .i64 0, .int .i64 0, .int .i64 0, .int .i64 0, .int .i64 0]) w := by kernel_rfl
attribute [local go_sem] ent_build ent_build0 ent_zero9

set_option maxRecDepth 20000 in
set_option maxHeartbeats 4000000 in
theorem eOpen_any (id gen fst : Int) (w : World) :
    Calls Try.prog 34 #[.agg #[.int .i64 id, .int .i64 gen, .int .i64 fst]] w fun x w' => x = .returned (.tuple #[.agg (entC (openC (headP id gen fst) id gen fst)).toArray, .int .i64 (errI (headP id gen fst) 210)]) ∧ Ext w w' := by
  have q := fun w => hcheck_any id gen fst w
  generalize headP id gen fst = r at *
  have b1 := Lib.hid (Blk.new w 26 #[.int .i64 id, .int .i64 gen, .int .i64 fst])
  have b2 := Lib.hid (b1.out.alloc (.cells #[.int .i64 0, .int .i64 0, .int .i64 0, .bool false, .int .i64 0, .int .i64 0, .int .i64 0, .int .i64 0, .int .i64 0] 49))
  have b3 := Lib.hid (Blk.new (w.alloc (.cells #[.int .i64 id, .int .i64 gen, .int .i64 fst] 26)) 49 #[.int .i64 0, .int .i64 0, .int .i64 0, .bool false, .int .i64 0, .int .i64 0, .int .i64 0, .int .i64 0, .int .i64 0])
  rw [World.size_alloc] at b3
  have X0 := Lib.hid (((Ext.refl w).alloc (.cells #[.int .i64 id, .int .i64 gen, .int .i64 fst] 26)).alloc (.cells #[.int .i64 0, .int .i64 0, .int .i64 0, .bool false, .int .i64 0, .int .i64 0, .int .i64 0, .int .i64 0, .int .i64 0] 49))
  have HS := Lib.hid head_size
  have ES := Lib.hid ent_size
  cases r with
  | false =>
    have Q := Lib.hid q
    clear q
    simp only [errI, openC, entC, Bool.false_eq_true, if_false] at *
    go_enter Try.func34, Try.ntmps34
    go_wp2_with (refine wpList_load_blk rfl 26 (.tmp 1) rfl rfl b2.out Try.underlying26 rfl HS.out ?_)
    refine (Q.out _).mono ?_
    rintro _ w1 ⟨rfl, x1⟩
    have B3 := Lib.hid (b3.out.ext x1)
    have X1 := Lib.hid (X0.out.trans x1)
    clear x1
    go_wp2_with (refine wpList_store_blk rfl 49 (.tmp 2) (.tmp 9) rfl rfl rfl B3.out rfl ES.out (by kernel_rfl) ?_)
    exact bodyPost_ret (results_row_tmp rfl _ _ (w.heap.size + 1) _ _ (0, 0) _ rfl (B3.out.setRow _) Try.underlying49 rfl ES.out) rfl ⟨rfl, X1.out.setRow (by omega) _⟩
  | true =>
    have Q := Lib.hid q
    clear q
    simp only [errI, openC, openE, entC, if_true] at *
    go_enter Try.func34, Try.ntmps34
    go_wp2_with (refine wpList_load_blk rfl 26 (.tmp 1) rfl rfl b2.out Try.underlying26 rfl HS.out ?_)
    refine (Q.out _).mono ?_
    rintro _ w1 ⟨rfl, x1⟩
    have B2 := Lib.hid (b2.out.ext x1)
    have B3 := Lib.hid (b3.out.ext x1)
    have X1 := Lib.hid (X0.out.trans x1)
    clear x1
    go_wp2_with (first
      | (refine wpList_load_blk rfl 26 (.tmp 1) rfl rfl B2.out Try.underlying26 rfl HS.out ?_)
      | (refine wpList_store_blk rfl 49 (.tmp 2) (.tmp 12) rfl rfl rfl B3.out rfl ES.out (by kernel_rfl) ?_))
    exact bodyPost_ret (results_row_tmp rfl _ _ (w.heap.size + 1) _ _ (0, 0) _ rfl (B3.out.setRow #[.int .i64 id, .int .i64 gen, .int .i64 fst, .bool false, .int .i64 0, .int .i64 0, .int .i64 0, .int .i64 0, .int .i64 0]) Try.underlying49 rfl ES.out) rfl ⟨rfl, X1.out.setRow (by omega) _⟩

theorem RR.full {α : Type} {f : α → List Value} {s : Nat} {w : World} {b : Addr} {n c : Nat} {l : List α} (h : RR f s w (.slice (some b) n c) l) : RR f s w (.slice (some b) n n) l := by
  obtain ⟨a, c', h1, h0, hn, h2⟩ := h
  injection h1 with e1 e2 e3
  subst e1; subst e2
  exact ⟨_, _, rfl, Nat.le_refl _, (fun h => by cases h), h2⟩
/-- l[:i] + m + l[j:] -/
def spliceL (l : List E9) (i j : Nat) (m : List E9) : List E9 := l.take i ++ m ++ l.drop j
end Go.Proofs.Ytcagcepbnkageaa
