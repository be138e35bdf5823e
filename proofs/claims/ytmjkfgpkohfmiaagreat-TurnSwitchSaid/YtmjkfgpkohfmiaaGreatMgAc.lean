/- Several texts in one. merged: TgF TgM ToE TsC TgN ToM -/
import Derived.Test.YtmjkfgpkohfmiaaGreatReadG
import Derived.Test.YtmjkfgpkohfmiaaGreatApp3G
import Derived.Test.YtmjkfgpkohfmiaaGreatMgAb
import Derived.Laws.StructEq
import Derived.Test.YtmjkfgpkohfmiaaGreatAppV
namespace Go.Proofs.YtmjkfgpkohfmiaaGreat
set_option linter.unusedVariables false
set_option linter.unusedSimpArgs false
open Go.RowKit

section
variable {α : Type} {f : α → List Value} {s : Nat} {w : World} {B : Nat} {e : TypeId}
theorem RR.cellAt (hf : ∀ x, (f x).length = s) (hs : 0 < s) {b : Addr} {n c : Nat} {l : List α} (hr : RR f s w (.slice (some b) n c) l) (j : Nat) (u : Value) (hj : (l.flatMap f)[j]? = some u) : w.cell? (b.add j) = some u := by
  obtain ⟨a, c', h1, h0, hn, h2⟩ := hr
  injection h1 with e1 e2 e3
  have hfl := flat_length hf l
  have hjl : j < l.length * s := by
    rw [← hfl]
    rcases Nat.lt_or_ge j (l.flatMap f).length with h | h
    · exact h
    · rw [List.getElem?_eq_none h] at hj; cases hj
  have hm : 0 < l.length := by
    rcases Nat.eq_zero_or_pos l.length with h | h
    · rw [h] at hjl; omega
    · exact h
  obtain ⟨g, o, h3, h4⟩ := h2 hm
  rw [← e1] at h3
  injection h3 with h3
  subst h3
  have hk : j / s < l.length := Nat.div_lt_of_lt_mul (by rw [Nat.mul_comm]; exact hjl)
  have hjs : j % s < s := Nat.mod_lt _ hs
  have hx := List.getElem?_eq_getElem hk
  have hdm : j / s * s + j % s = j := by rw [Nat.mul_comm]; exact Nat.div_add_mod j s
  have hflat := flat_get hf l (j / s) (j % s) hjs _ hx
  rw [hdm, hj] at hflat
  have := h4 _ _ hx _ _ hflat.symm
  rw [Addr.add_lit]
  rw [show o + j / s * s + j % s = o + j by omega] at this
  exact this
theorem WR.appF (hf : ∀ x, (f x).length = s) (hs : 0 < s) {b : Addr} {l : List α} (hl : RR f s w (.slice (some b) l.length l.length) l) {u : Value} {m : List α} (hr : RR f s w u m) (h0 : 0 < m.length) (hB : B ≤ w.heap.size) {P : Program} {t : TypeId} {z : Value} {bytes : Nat} (ht : P.underlying t = some (.slice e))
    (hi : (P.info? e).map (fun i => (i.zero, i.size, i.bytes)) = some (some z, s, bytes)) (hz : z.cells.size = s) (hlb : (l.length + m.length) * bytes ≤ 140737488355328) (hl2 : l.length + m.length ≤ maxLen) :
    ∃ v' w', (Builtin.append_ #[t, t] t #[.slice (some b) l.length l.length, u]).run P w = .ok v' w' ∧ WR f s w' B e v' (l ++ m) ∧ Ext w w' := by
  obtain ⟨i, hi1, hzz⟩ := Option.map_eq_some_iff.1 hi
  simp only [Prod.mk.injEq] at hzz
  obtain ⟨z1, z2, z3⟩ := hzz
  have hcl := RR.cellAt hf hs hl
  have hfl := flat_length hf l
  have hfm := flat_length hf m
  obtain ⟨a, c, rfl, _, _, h2⟩ := hr
  obtain ⟨ga, o, rfl, _⟩ := h2 h0
  have hcm := RR.cellAt hf hs (show RR f s w (.slice (some ⟨ga, o, none⟩) m.length c) m from ⟨_, _, rfl, by assumption, by assumption, h2⟩)
  have hrun := run_append_grow (P := P) w t t e i z ht hi1 z1 b l.length l.length (l.flatMap f) (by rw [z2]; exact hfl) hcl ⟨ga, o, none⟩ m.length c (m.flatMap f) (by rw [z2]; exact hfm) hcm
    (by omega) (by unfold maxLen at hl2; omega) (growslice_fits (by omega) (by rw [z3]; exact hlb))
  refine ⟨_, _, hrun, ?_, (Ext.refl w).drew.alloc _⟩
  unfold WR
  have hge := grownCap_ge w (l.length + m.length) l.length e
  have hcm' : grownCap w (l.length + m.length) l.length e ≤ maxLen := grownCap_le_maxLen w (l.length + m.length) l.length e hl2
  have hlen : ((l ++ m).flatMap f).length = (l ++ m).length * s := flat_length hf _
  refine ⟨hlen, .inr ⟨w.heap.size, _, _, by rw [List.length_append], hB, heap_alloc_new w.drew _, by rw [List.length_append]; exact hge, hcm', ?_, ?_⟩⟩
  · simp only [Array.size_append, List.size_toArray, size_zeroCells, hz, hfl, hfm, ← Nat.add_mul]
    congr 1
    omega
  · simp only [Array.toList_append, List.append_assoc]
    rw [← List.append_assoc, ← hlen, ← List.flatMap_append]
    exact List.take_left
theorem WR.below {v : Value} {l : List α} {w' : World} (h : WR f s w B e v l) (hB : B ≤ w.heap.size) (hg : w.grownBy w' v.ownBlock) : Below B w w' := by
  refine ⟨hg.os, hg.tape, hg.output, hg.size, fun k hk => hg.block k (by omega) (fun hv => ?_)⟩
  rcases h.2 with ⟨rfl, h0⟩ | ⟨g, cap, cur, rfl, h1, _⟩
  · simp [Value.ownBlock] at hv
  · simp [Value.ownBlock] at hv
    omega
end
end Go.Proofs.YtmjkfgpkohfmiaaGreat
namespace Go.Proofs.YtmjkfgpkohfmiaaGreat
set_option linter.unusedVariables false
set_option linter.unusedSimpArgs false
open Go.RowKit

theorem ent_info : (Tryz.prog.info? 73).map (fun i => (i.zero, i.size, i.bytes)) = some (some (.agg #[.int .i64 0, .int .i64 0, .int .i64 0, .bool false, .int .i64 0, .int .i64 0, .int .i64 0, .int .i64 0, .int .i64 0]), 9, 72) := by kernel_rfl
theorem run_bs0e (w : World) : (Instr.buildSlice 37 0 #[]).run Tryz.prog w = .ok (.slice (some ⟨w.heap.size, 0, none⟩) 0 0) (w.alloc (.cells #[] 73)) := by kernel_rfl
theorem run_bs1e (id gen fst : Int) (s : Bool) (cnt blk early late bytes : Int) (w : World) : (Instr.buildSlice 37 1 #[(0, .agg #[.int .i64 id, .int .i64 gen, .int .i64 fst, .bool s, .int .i64 cnt, .int .i64 blk, .int .i64 early, .int .i64 late, .int .i64 bytes])]).run Tryz.prog w = .ok (.slice (some ⟨w.heap.size, 0, none⟩) 1 1) (w.alloc (.cells (entC ⟨id, gen, fst, s, cnt, blk, early, late, bytes⟩).toArray 73)) := by kernel_rfl
/-- slices of entries that the call has made -/
abbrev EW (w : World) (B : Nat) (v : Value) (l : List E9) : Prop := WR entC 9 w B 73 v l
theorem EW.app {w : World} {B : Nat} {v : Value} {l : List E9} (h : EW w B v l) (hB : B ≤ w.heap.size) (x : E9) (hl : l.length ≤ 1000000) :
    ∃ v' w', (Builtin.append_ #[37, 37] 37 #[v, .slice (some ⟨w.heap.size, 0, none⟩) 1 1]).run Tryz.prog (w.alloc (.cells (entC x).toArray 73)) = .ok v' w' ∧ EW w' B v' (l ++ [x]) ∧ Below B w w' ∧ (∀ k, k < w.heap.size → some k ≠ v.ownBlock → w'.heap[k]? = w.heap[k]?) :=
  WR.app entC_length (by omega) entC_one h hB (P := Tryz.prog) (t := 37) Tryz.underlying37 ent_info rfl x (by omega) (by unfold maxLen; omega)

theorem rowP_len {l : List E9} (h : rowP l = true) : 1 ≤ (l.length : Int) ∧ (l.length : Int) ≤ 100 := by
  unfold rowP at h
  simp only [Bool.and_eq_true, decide_eq_true_eq] at h
  exact h.1
/-- what entry.Drop answers -/
def eDropE (l : List E9) (n : Int) : Int := if rowP l then (if 0 ≤ n ∧ n ≤ (l.length : Int) - 1 then 0 else 2) else 240
def eDropL (l : List E9) (n : Int) : List E9 := if eDropE l n = 0 then l.drop n.toNat else []

end Go.Proofs.YtmjkfgpkohfmiaaGreat
namespace Go.Proofs.YtmjkfgpkohfmiaaGreat
set_option linter.unusedVariables false
set_option linter.unusedSimpArgs false
open Go.RowKit

deriving instance DecidableEq for E9
theorem rowP_all {l : List E9} (h : rowP l = true) : 1 ≤ (l.length : Int) ∧ (l.length : Int) ≤ 100 ∧ (l.getD (l.length - 1) default).sld = false ∧ eTo l l.length = true := by
  unfold rowP at h
  rw [Bool.and_eq_true, Bool.and_eq_true, decide_eq_true_eq] at h
  exact ⟨h.1.1, h.1.2, by simpa using h.2.1, h.2.2⟩
theorem getD_drop9 (l : List E9) (n i : Nat) : (l.drop n).getD i default = l.getD (n + i) default := by
  rw [List.getD_eq_getElem?_getD, List.getElem?_drop, List.getD_eq_getElem?_getD]
theorem row_drop {l : List E9} (h : rowP l = true) (n : Nat) (hn : n + 1 ≤ l.length) : rowP (l.drop n) = true := by
  obtain ⟨h1, h2, h3, h4⟩ := rowP_all h
  unfold rowP
  rw [List.length_drop, Bool.and_eq_true, Bool.and_eq_true, decide_eq_true_eq]
  refine ⟨by omega, ?_, ?_⟩
  · rw [getD_drop9, show n + (l.length - n - 1) = l.length - 1 by omega, h3]; rfl
  · refine List.all_eq_true.2 fun i hi => ?_
    have hi := List.mem_range.1 hi
    have := eTo_all h4 (i := n + i) (by omega)
    rw [getD_drop9, getD_drop9]
    rw [Bool.and_eq_true] at this ⊢
    refine ⟨this.1, ?_⟩
    rcases Nat.eq_zero_or_pos i with h0 | h0
    · rw [h0]; rfl
    · have h5 := this.2
      rw [show (n + i == 0) = false by simp; omega, Bool.false_or] at h5
      rw [show n + (i - 1) = n + i - 1 by omega, h5, Bool.or_true]

/-- an open entry -/
def openE (id gen fst : Int) : E9 := ⟨id, gen, fst, false, 0, 0, 0, 0, 0⟩
/-- a row, or nothing; its error -/
def putL (out : List E9) : List E9 := if rowP out then out else []
def sameHead (a b : E9) : Bool := decide (a.id = b.id) && (decide (a.gen = b.gen) && decide (a.fst = b.fst))
/-- what is sealed -/
def sealOut (l : List E9) (e : E9) (id gen fst : Int) : List E9 := l.take (l.length - 1) ++ [e, openE id gen fst]
def sealOk (l : List E9) (e : E9) : Bool := rowP l && (e.sld && sameHead e (l.getD (l.length - 1) default))
def sealL (l : List E9) (e : E9) (id gen fst : Int) : List E9 := if sealOk l e then putL (sealOut l e id gen fst) else []
def sealE (l : List E9) (e : E9) (id gen fst : Int) : Int := if sealOk l e then errI (rowP (sealOut l e id gen fst)) 240 else 240
theorem row_ent {l : List E9} (h : rowP l = true) {i : Nat} (hi : i < l.length) : entP (l.getD i default) = true := eTo_ent (rowP_all h).2.2.2 hi
theorem seal_head {l : List E9} {e : E9} {id gen fst : Int} (h : rowP (sealOut l e id gen fst) = true) : headP id gen fst = true := by
  have := row_ent h (i := (l.take (l.length - 1)).length + 1) (by unfold sealOut; simp)
  unfold sealOut at this
  rw [List.getD_eq_getElem?_getD, List.getElem?_append_right (by omega), Nat.add_sub_cancel_left] at this
  unfold entP at this
  rw [Bool.and_eq_true] at this
  exact this.1

/-- is an entry to be replaced by another one? -/
def matP (o e : E9) : Bool := (o.sld && e.sld) && (decide (o.id = e.id) && decide (o.gen < e.gen)) && ((decide (o.fst = e.fst) && decide (o.cnt = e.cnt)) && (decide (o.early = e.early) && decide (o.late = e.late)))
/-- at which place -/
def matAt (l : List E9) (e : E9) : Option Nat := l.findIdx? (matP · e)
def replL (l : List E9) (e : E9) : List E9 := if rowP l && entP e then (match matAt l e with | some i => putL (l.set i e) | none => []) else []
def replE (l : List E9) (e : E9) : Int := if rowP l && entP e then (match matAt l e with | some i => errI (rowP (l.set i e)) 240 | none => 240) else 240

theorem eTo_id {l : List E9} (h : eTo l l.length = true) : ∀ (j i : Nat), i < j → j < l.length → (l.getD i default).id < (l.getD j default).id := by
  intro j
  induction j with
  | zero => intro i hi; omega
  | succ j ih =>
    intro i hi hj
    have h1 : (l.getD j default).id < (l.getD (j + 1) default).id := by
      have := eTo_all h hj
      rw [Bool.and_eq_true] at this
      have := this.2
      rw [show (j + 1 == 0) = false from rfl, Bool.false_or, Nat.add_sub_cancel] at this
      unfold efolP behindP at this
      simp only [Bool.and_eq_true, decide_eq_true_eq] at this
      exact this.2.1
    rcases Nat.lt_or_ge i j with h2 | h2
    · have := ih i h2 (by omega); omega
    · obtain rfl : i = j := by omega
      exact h1
/-- all that are to be replaced, are -/
theorem mat_map {l : List E9} (h : rowP l = true) (e : E9) : l.map (fun o => if matP o e then e else o) = (match matAt l e with | some i => l.set i e | none => l) := by
  obtain ⟨_, _, _, h4⟩ := rowP_all h
  unfold matAt
  cases hf : l.findIdx? (matP · e) with
  | none =>
    rw [List.findIdx?_eq_none_iff] at hf
    dsimp only
    refine (List.map_congr_left fun o ho => ?_).trans (List.map_id l)
    have := hf o ho
    rw [if_neg (by simpa using this)]; rfl
  | some i =>
    dsimp only
    obtain ⟨hi, h1, h2⟩ := List.findIdx?_eq_some_iff_getElem.1 hf
    apply List.ext_getElem?
    intro k
    rw [List.getElem?_map]
    rcases Nat.lt_trichotomy k i with hk | rfl | hk
    · rw [List.getElem?_set_ne (by omega), List.getElem?_eq_getElem (by omega), Option.map_some]
      have := h2 k hk
      rw [if_neg (by simpa using this)]
    · rw [List.getElem?_set_self hi, List.getElem?_eq_getElem hi, Option.map_some, if_pos h1]
    · rw [List.getElem?_set_ne (by omega)]
      rcases Nat.lt_or_ge k l.length with hkl | hkl
      · rw [List.getElem?_eq_getElem hkl, Option.map_some, if_neg]
        intro hm
        have hid := eTo_id h4 k i hk hkl
        rw [List.getD_eq_getElem?_getD, List.getD_eq_getElem?_getD, List.getElem?_eq_getElem hi, List.getElem?_eq_getElem hkl] at hid
        unfold matP at h1 hm
        simp only [Bool.and_eq_true, decide_eq_true_eq] at h1 hm
        simp only [Option.getD_some] at hid
        have a1 := h1.1.2.1
        have a2 := hm.1.2.1
        omega
      · rw [List.getElem?_eq_none (by omega)]; rfl
/-- what is set into a row where it may not be, makes none -/
theorem set_bad {l : List E9} {e : E9} {i : Nat} (hi : i < l.length) (he : entP e = false) : rowP (l.set i e) = false := by
  cases h : rowP (l.set i e) with
  | false => rfl
  | true =>
    have := row_ent h (i := i) (by rw [List.length_set]; exact hi)
    rw [List.getD_eq_getElem?_getD, List.getElem?_set_self hi, Option.getD_some, he] at this
    cases this
end Go.Proofs.YtmjkfgpkohfmiaaGreat
namespace Go.Proofs.YtmjkfgpkohfmiaaGreat
set_option linter.unusedVariables false
set_option linter.unusedSimpArgs false
open Go.RowKit

theorem head_in (d : Nat) (a1 a2 a3 b1 b2 b3 : Int) (w : World) : (Op.equalIn (d + 2) 71 (.agg #[.int .i64 a1, .int .i64 a2, .int .i64 a3]) (.agg #[.int .i64 b1, .int .i64 b2, .int .i64 b3])).run Tryz.prog w = .ok (decide (a1 = b1) && (decide (a2 = b2) && decide (a3 = b3))) w := by
  have hS2 : Tryz.prog.underlying 71 = some (.struct (Tryz.prog.fieldsOf 71)) := by kernel_rfl
  have hp2 : Tryz.prog.stoodInHeld 71 = false := by kernel_rfl
  have u3 := Tryz.underlying3
  have ag3 := Tryz.isAgg3
  have z3 := Tryz.sizeOf3
  rw [show d + 2 = (d + 1) + 1 from rfl, run_equalIn_agg w (d + 1) 71 _ _ hS2 hp2]
  simp only [Program.fieldsOf, Tryz.underlying71]
  go_simp
  by_cases h1 : a1 = b1 <;> by_cases h2 : a2 = b2 <;> by_cases h3 : a3 = b3 <;> simp [h1, h2, h3]
theorem head_neq (a1 a2 a3 b1 b2 b3 : Int) (w : World) :
    (binOp .neq 71 (.agg #[.int .i64 a1, .int .i64 a2, .int .i64 a3]) (.agg #[.int .i64 b1, .int .i64 b2, .int .i64 b3])).run Tryz.prog w = .ok (.bool (!(decide (a1 = b1) && (decide (a2 = b2) && decide (a3 = b3))))) w := by
  rw [run_neq_struct, show (10000 : Nat) = 9998 + 2 from rfl, head_in]
  rfl
theorem e9_ext (a b : E9) : (a = b) ↔ a.id = b.id ∧ a.gen = b.gen ∧ a.fst = b.fst ∧ a.sld = b.sld ∧ a.cnt = b.cnt ∧ a.blk = b.blk ∧ a.early = b.early ∧ a.late = b.late ∧ a.bytes = b.bytes := by
  cases a; cases b; simp
theorem ent_neq (a b : E9) (w : World) :
    (binOp .neq 73 (.agg (entC a).toArray) (.agg (entC b).toArray)).run Tryz.prog w = .ok (.bool (!decide (a = b))) w := by
  have hS : Tryz.prog.underlying 73 = some (.struct (Tryz.prog.fieldsOf 73)) := by kernel_rfl
  have hp : Tryz.prog.stoodInHeld 73 = false := by kernel_rfl
  have u3 := Tryz.underlying3
  have ag3 := Tryz.isAgg3
  have z3 := Tryz.sizeOf3
  have u4 := Tryz.underlying4
  have ag4 := Tryz.isAgg4
  have z4 := Tryz.sizeOf4
  have ag5 := Tryz.isAgg71
  have z5 := Tryz.sizeOf71
  have hh := head_in 9997
  rw [show (9997 : Nat) + 2 = 9999 from rfl] at hh
  have hx : (decide (a = b)) = decide (a.id = b.id ∧ a.gen = b.gen ∧ a.fst = b.fst ∧ a.sld = b.sld ∧ a.cnt = b.cnt ∧ a.blk = b.blk ∧ a.early = b.early ∧ a.late = b.late ∧ a.bytes = b.bytes) := by
    simp only [e9_ext]
  rw [hx]
  clear hx
  obtain ⟨id, gen, fst, sld, cnt, blk, early, late, bytes⟩ := a
  obtain ⟨id', gen', fst', sld', cnt', blk', early', late', bytes'⟩ := b
  simp only [entC]
  rw [run_neq_struct, show (10000 : Nat) = 9999 + 1 from rfl, run_equalIn_agg w 9999 73 _ _ hS hp]
  simp only [Program.fieldsOf, Tryz.underlying73]
  go_simp
  by_cases h1 : id = id'
  · by_cases h2 : gen = gen'
    · by_cases h3 : fst = fst'
      · by_cases h4 : sld = sld'
        · by_cases h5 : cnt = cnt'
          · by_cases h6 : blk = blk'
            · by_cases h7 : early = early'
              · by_cases h8 : late = late'
                · by_cases h9 : bytes = bytes' <;> simp [h1, h2, h3, h4, h5, h6, h7, h8, h9]
                · simp [h1, h2, h3, h4, h5, h6, h7, h8]
              · simp [h1, h2, h3, h4, h5, h6, h7]
            · simp [h1, h2, h3, h4, h5, h6]
          · simp [h1, h2, h3, h4, h5]
        · simp [h1, h2, h3, h4]
      · simp [h1, h2, h3]
    · simp [h1, h2]
  · simp [h1]
end Go.Proofs.YtmjkfgpkohfmiaaGreat
namespace Go.Proofs.YtmjkfgpkohfmiaaGreat
set_option linter.unusedVariables false
set_option linter.unusedSimpArgs false
open Go.RowKit

/-- a header's open entry, or nothing -/
def openC (b : Bool) (id gen fst : Int) : E9 := if b then openE id gen fst else ⟨0, 0, 0, false, 0, 0, 0, 0, 0⟩
theorem ent_build0 (w : World) : (Instr.build 73 #[]).run Tryz.prog w = .ok (.agg #[.int .i64 0, .int .i64 0, .int .i64 0, .bool false, .int .i64 0, .int .i64 0, .int .i64 0, .int .i64 0, .int .i64 0]) w := by kernel_rfl
theorem ent_zero9 (w : World) : (zeroValue 73).run Tryz.prog w = .ok (.agg #[.int .i64 0, .int .i64 0, .int .i64 0, .bool false, .int .i64 0, .int .i64 0, .int .i64 0, .int .i64 0, .int .i64 0]) w := by kernel_rfl
attribute [local go_sem] ent_build ent_build0 ent_zero9

theorem RR.full {α : Type} {f : α → List Value} {s : Nat} {w : World} {b : Addr} {n c : Nat} {l : List α} (h : RR f s w (.slice (some b) n c) l) : RR f s w (.slice (some b) n n) l := by
  obtain ⟨a, c', h1, h0, hn, h2⟩ := h
  injection h1 with e1 e2 e3
  subst e1; subst e2
  exact ⟨_, _, rfl, Nat.le_refl _, (fun h => by cases h), h2⟩
/-- l[:i] + m + l[j:] -/
def spliceL (l : List E9) (i j : Nat) (m : List E9) : List E9 := l.take i ++ m ++ l.drop j
end Go.Proofs.YtmjkfgpkohfmiaaGreat
namespace Go.Proofs.YtmjkfgpkohfmiaaGreat
set_option linter.unusedVariables false
set_option linter.unusedSimpArgs false
open Go.RowKit

/-- .. as the document has it -/
def rTo (l : List E9) (k : Nat) : Bool := (List.range k).all fun i => entP (l.getD i default) && (((l.getD i default).sld != (i == l.length - 1)) && (i == 0 || behindP (l.getD (i - 1) default) (l.getD i default)))
theorem rTo_succ (l : List E9) (k : Nat) : rTo l (k + 1) = (rTo l k && (entP (l.getD k default) && (((l.getD k default).sld != (k == l.length - 1)) && (k == 0 || behindP (l.getD (k - 1) default) (l.getD k default))))) := by
  unfold rTo
  rw [List.range_succ, List.all_append]
  simp only [List.all_cons, List.all_nil, Bool.and_true]
theorem rTo_all {l : List E9} {k : Nat} (h : rTo l k = true) {i : Nat} (hi : i < k) : entP (l.getD i default) = true ∧ ((l.getD i default).sld != (i == l.length - 1)) = true ∧ (i == 0 || behindP (l.getD (i - 1) default) (l.getD i default)) = true := by
  have := List.all_eq_true.1 h i (List.mem_range.2 hi)
  rw [Bool.and_eq_true, Bool.and_eq_true] at this
  exact this
theorem rTo_mk {l : List E9} {k : Nat} (h : ∀ i, i < k → entP (l.getD i default) = true ∧ ((l.getD i default).sld != (i == l.length - 1)) = true ∧ (i == 0 || behindP (l.getD (i - 1) default) (l.getD i default)) = true) : rTo l k = true :=
  List.all_eq_true.2 fun i hi => by
    rw [Bool.and_eq_true, Bool.and_eq_true]; exact h i (List.mem_range.1 hi)
theorem row_same (l : List E9) : rowP l = (decide (1 ≤ (l.length : Int) ∧ (l.length : Int) ≤ 100) && rTo l l.length) := by
  by_cases hl : 1 ≤ (l.length : Int) ∧ (l.length : Int) ≤ 100
  · unfold rowP
    rw [decide_eq_true hl, Bool.true_and, Bool.true_and]
    rw [Bool.eq_iff_iff, Bool.and_eq_true]
    constructor
    · rintro ⟨h1, h2⟩
      refine rTo_mk fun i hi => ?_
      have h3 := eTo_all h2 hi
      rw [Bool.and_eq_true] at h3
      refine ⟨h3.1, ?_, ?_⟩
      · by_cases hi2 : i = l.length - 1
        · subst hi2
          simp at h1 ⊢
          exact h1
        · have h4 := eTo_all h2 (show i + 1 < l.length by omega)
          rw [Bool.and_eq_true, Bool.or_eq_true] at h4
          rcases h4.2 with h5 | h5
          · simp at h5
          · unfold efolP at h5
            rw [Bool.and_eq_true, show i + 1 - 1 = i from rfl] at h5
            rw [h5.1]
            simp; omega
      · rw [Bool.or_eq_true] at h3 ⊢
        rcases h3.2 with h5 | h5
        · exact .inl h5
        · unfold efolP at h5
          rw [Bool.and_eq_true] at h5
          exact .inr h5.2
    · intro h
      refine ⟨?_, List.all_eq_true.2 fun i hi => ?_⟩
      · obtain ⟨-, h2, -⟩ := rTo_all h (show l.length - 1 < l.length by omega)
        simp at h2 ⊢
        exact h2
      · have hi := List.mem_range.1 hi
        obtain ⟨h1, h2, h3⟩ := rTo_all h hi
        rw [Bool.and_eq_true, Bool.or_eq_true]
        rw [Bool.or_eq_true] at h3
        refine ⟨h1, ?_⟩
        rcases h3 with h5 | h5
        · exact .inl h5
        · by_cases hi0 : i = 0
          · subst hi0; exact .inl rfl
          · obtain ⟨-, h6, -⟩ := rTo_all h (show i - 1 < l.length by omega)
            rw [show (i - 1 == l.length - 1) = false by simp; omega] at h6
            refine .inr ?_
            unfold efolP
            rw [Bool.and_eq_true]
            exact ⟨by simpa using h6, h5⟩
  · unfold rowP
    rw [decide_eq_false hl, Bool.false_and, Bool.false_and]
theorem rrow_no {l : List E9} {k : Nat} (hk : k < l.length) (h : (entP (l.getD k default) && (((l.getD k default).sld != (k == l.length - 1)) && (k == 0 || behindP (l.getD (k - 1) default) (l.getD k default)))) = false) : errI (rowP l) 240 = 240 := by
  have : rTo l l.length = false := by
    cases hn : rTo l l.length with
    | false => rfl
    | true => obtain ⟨h1, h2, h3⟩ := rTo_all hn hk; rw [h1, h2, h3] at h; cases h
  rw [row_same, this, Bool.and_false]; rfl
theorem rrow_yes {l : List E9} (h : 1 ≤ (l.length : Int) ∧ (l.length : Int) ≤ 100) (h2 : rTo l l.length = true) : errI (rowP l) 240 = 0 := by
  rw [row_same, decide_eq_true h, h2]; rfl

end Go.Proofs.YtmjkfgpkohfmiaaGreat
namespace Go.Proofs.YtmjkfgpkohfmiaaGreat
set_option linter.unusedVariables false
set_option linter.unusedSimpArgs false
open Go.RowKit

end Go.Proofs.YtmjkfgpkohfmiaaGreat
namespace Go.Proofs.YtmjkfgpkohfmiaaGreat
set_option linter.unusedVariables false
set_option linter.unusedSimpArgs false
open Go.RowKit

structure Man where
  gen : Int
  next : Int
  now : Int
  floor : Int
  ents : List E9
/-- a manifest's cells; v: its slice -/
def manC (m : Man) (v : Value) : Array Value := #[.int .i64 m.gen, .int .i64 m.next, .int .i64 m.now, .int .i64 m.floor, v]
def lateP (l : List E9) (now : Int) : Bool := l.any fun e => decide (now < e.late)
def lastOf (l : List E9) : E9 := l.getD (l.length - 1) default
def fstOf (l : List E9) : E9 := l.getD 0 default
def m1D (m : Man) : Prop := 1 ≤ m.gen ∧ m.gen ≤ 1000000000 ∧ 0 ≤ m.now ∧ m.now ≤ 1000000000
instance (m : Man) : Decidable (m1D m) := by unfold m1D; infer_instance
def m2D (m : Man) : Prop := (lastOf m.ents).id < m.next ∧ m.next ≤ 1000000 ∧ m.floor = (fstOf m.ents).fst
instance (m : Man) : Decidable (m2D m) := by unfold m2D; infer_instance
def maniP (m : Man) : Bool := decide (m1D m) && (rowP m.ents && (decide (m2D m) && !lateP m.ents m.now))
theorem mani_cases (m : Man) : (maniP m = false ∧ m.gen < 1) ∨ (maniP m = false ∧ ¬ m.gen < 1 ∧ 1000000000 < m.gen) ∨ (maniP m = false ∧ ¬ m.gen < 1 ∧ ¬ 1000000000 < m.gen ∧ m.now < 0)
    ∨ (maniP m = false ∧ ¬ m.gen < 1 ∧ ¬ 1000000000 < m.gen ∧ ¬ m.now < 0 ∧ 1000000000 < m.now)
    ∨ (maniP m = false ∧ ¬ m.gen < 1 ∧ ¬ 1000000000 < m.gen ∧ ¬ m.now < 0 ∧ ¬ 1000000000 < m.now ∧ rowP m.ents = false)
    ∨ (maniP m = !(decide (m.next ≤ (lastOf m.ents).id) || (decide (1000000 < m.next) || ((m.floor != (fstOf m.ents).fst) || lateP m.ents m.now))) ∧ ¬ m.gen < 1 ∧ ¬ 1000000000 < m.gen ∧ ¬ m.now < 0 ∧ ¬ 1000000000 < m.now ∧ rowP m.ents = true) := by
  unfold maniP
  by_cases h1 : m.gen < 1
  · exact .inl ⟨by rw [decide_eq_false (by unfold m1D; omega)]; rfl, h1⟩
  by_cases h2 : 1000000000 < m.gen
  · exact .inr (.inl ⟨by rw [decide_eq_false (by unfold m1D; omega)]; rfl, h1, h2⟩)
  by_cases h3 : m.now < 0
  · exact .inr (.inr (.inl ⟨by rw [decide_eq_false (by unfold m1D; omega)]; rfl, h1, h2, h3⟩))
  by_cases h4 : 1000000000 < m.now
  · exact .inr (.inr (.inr (.inl ⟨by rw [decide_eq_false (by unfold m1D; omega)]; rfl, h1, h2, h3, h4⟩)))
  cases hr : rowP m.ents with
  | false => exact .inr (.inr (.inr (.inr (.inl ⟨by rw [Bool.false_and, Bool.and_false], h1, h2, h3, h4, rfl⟩))))
  | true =>
    refine .inr (.inr (.inr (.inr (.inr ⟨?_, h1, h2, h3, h4, rfl⟩))))
    rw [decide_eq_true (show m1D m by unfold m1D; omega), Bool.true_and, Bool.true_and]
    cases hl : lateP m.ents m.now
    · by_cases h : m2D m
      · have h' := h
        obtain ⟨p1, p2, p3⟩ := h'
        rw [decide_eq_true h, decide_eq_false (show ¬ m.next ≤ (lastOf m.ents).id by omega), decide_eq_false (show ¬ 1000000 < m.next by omega), p3, bne_self_eq_false]; rfl
      · rw [decide_eq_false h]
        by_cases q1 : m.next ≤ (lastOf m.ents).id
        · rw [decide_eq_true q1]; rfl
        · by_cases q2 : 1000000 < m.next
          · rw [decide_eq_false q1, decide_eq_true q2]; rfl
          · have q3 : (m.floor != (fstOf m.ents).fst) = true := bne_iff_ne.2 (fun e => h ⟨by omega, by omega, e⟩)
            rw [decide_eq_false q1, decide_eq_false q2, q3]; rfl
    · simp
theorem mani_row {m : Man} (h : maniP m = true) : m1D m ∧ rowP m.ents = true ∧ m2D m ∧ lateP m.ents m.now = false := by
  unfold maniP at h
  simpa using h

/-- where the first late entry is -/
def lateAt (l : List E9) (now : Int) : Int := match l.findIdx? (fun e => decide (now < e.late)) with | some i => (i : Int) | none => -1
theorem late_none {l : List E9} {now : Int} (h : ∀ i, i < l.length → decide (now < (l.getD i default).late) = false) : lateP l now = false := by
  unfold lateP
  rw [List.any_eq_false]
  intro e he
  obtain ⟨i, hi, rfl⟩ := List.getElem_of_mem he
  have := h i hi
  rw [List.getD_eq_getElem?_getD, List.getElem?_eq_getElem hi] at this
  simp only [Option.getD_some] at this
  rw [this]; exact Bool.false_ne_true
theorem late_some {l : List E9} {now : Int} {i : Nat} (hi : i < l.length) (h : decide (now < (l.getD i default).late) = true) : lateP l now = true := by
  unfold lateP
  rw [List.any_eq_true]
  rw [List.getD_eq_getElem?_getD, List.getElem?_eq_getElem hi] at h
  exact ⟨l[i], List.getElem_mem hi, h⟩

set_option maxRecDepth 20000 in
theorem late_any (e : E9) (g : Nat) (now : Int) (w : World) (h : w.cell? ⟨g, 2, none⟩ = some (.int .i64 now)) :
    Calls Tryz.prog 35 #[.agg (entC e).toArray, .pointer (some ⟨g, 0, none⟩)] w fun r w' => r = .returned (.bool (decide (now < e.late))) ∧ Ext w w' := by
  obtain ⟨id, gen, fst, sld, cnt, blk, early, late, bytes⟩ := e
  have b := Blk.new w 73 #[.int .i64 id, .int .i64 gen, .int .i64 fst, .bool sld, .int .i64 cnt, .int .i64 blk, .int .i64 early, .int .i64 late, .int .i64 bytes]
  have c7 := b.cell 7
  simp at c7
  have c2 := Go.cell_later ((Ext.refl w).alloc (.cells #[.int .i64 id, .int .i64 gen, .int .i64 fst, .bool sld, .int .i64 cnt, .int .i64 blk, .int .i64 early, .int .i64 late, .int .i64 bytes] 73)) h
  simp only [entC]
  clear b
  go_enter Tryz.func35, Tryz.ntmps35
  go_wp2
  go_ret
  exact ⟨rfl, (Ext.refl w).alloc _⟩

set_option maxRecDepth 20000 in
set_option maxHeartbeats 4000000 in
theorem index_any (l : List E9) (g : Nat) (now : Int) (v : Value) (w : World) (hr : RR entC 9 w v l) (hl : (l.length : Int) ≤ 1000000000) (h : w.cell? ⟨g, 2, none⟩ = some (.int .i64 now)) :
    Calls Tryz.prog 71 #[v, .func (.func 35) #[] #[.pointer (some ⟨g, 0, none⟩)]] w fun r w' => ∃ i : Int, r = .returned (.int .i64 i) ∧ decide (0 ≤ i) = lateP l now ∧ Ext w w' := by
  obtain ⟨a, c, rfl, _, _, hs⟩ := hr
  have HS := Lib.hid hs
  have H := Lib.hid h
  clear hs h
  go_enter Tryz.func71, Tryz.ntmps71
  go_wp2
  go_loopw [8] (fun i wr => ∃ k : Nat, i = .int .i64 (k : Int) ∧ k ≤ l.length ∧ (∀ j, j < k → decide (now < (l.getD j default).late) = false) ∧ Ext w wr) (fun i _ => l.length - (intOf i).toNat)
  case atStart => exact ⟨0, rfl, Nat.zero_le _, fun j hj => by omega, Ext.refl _⟩
  case round =>
    obtain ⟨k, rfl, hk, hno, hx⟩ := hrel
    have HNO := Lib.hid hno
    have HX := Lib.hid hx
    by_cases hlt : k < l.length
    · obtain ⟨ge, o, rfl, hcells⟩ := HS.out (by omega)
      have hI : (k : Int) < (l.length : Int) := by omega
      have R := Lib.hid (rangeAt_ext (hcells k _ (ent_at hlt)) hx)
      have QL := Lib.hid (fun e w' (hw : Ext wr w') => late_any e g now w' (Go.cell_later (hx.trans hw) H.out))
      have ZE := Lib.hid (show (Tryz.prog.info? 73).map (·.size) = some (entC (l.getD k default)).length from ent_size)
      have HLT := Lib.hid hlt
      have QK := QL.out (l.getD k default) wr (Ext.refl _)
      cases hb : decide (now < (l.getD k default).late) with
      | false =>
        rw [hb] at QK
        have QK := Lib.hid QK
        have HNO1 := Lib.hid (show ∀ j, j < k + 1 → decide (now < (l.getD j default).late) = false from fun j hj => by
          by_cases e : j < k
          · exact hno j e
          · obtain rfl : j = k := by omega
            exact hb)
        clear hcells hno hx hk hlt hb QL
        generalize entC (l.getD k default) = ce at *
        go_wp2_with (refine wpList_load_mid rfl 73 (.tmp 14) rfl ge _ rfl ce _ R.out Tryz.underlying73 rfl ZE.out ?_; refine Held.go ?_)
        refine ⟨?_⟩
        go_wp2_with fail
        refine QK.out.mono ?_
        rintro _ w2 ⟨rfl, x2⟩
        have X2 := Lib.hid (HX.out.trans x2)
        clear x2
        go_wp2
        go_roundw
        case rel => exact ⟨k + 1, by go_num, by have := HLT.out; omega, HNO1.out, X2.out⟩
        case measure => simp [intOf]; have := HLT.out; omega
      | true =>
        rw [hb] at QK
        have QK := Lib.hid QK
        have HT := Lib.hid (late_some hlt hb)
        clear hcells hno hx hk hlt hb QL
        generalize entC (l.getD k default) = ce at *
        go_wp2_with (refine wpList_load_mid rfl 73 (.tmp 14) rfl ge _ rfl ce _ R.out Tryz.underlying73 rfl ZE.out ?_; refine Held.go ?_)
        refine ⟨?_⟩
        go_wp2_with fail
        refine QK.out.mono ?_
        rintro _ w2 ⟨rfl, x2⟩
        have X2 := Lib.hid (HX.out.trans x2)
        clear x2
        go_wp2
        go_ret
        exact ⟨_, rfl, by rw [HT.out]; exact decide_eq_true (by omega), X2.out⟩
    · obtain rfl : k = l.length := by omega
      have HN := Lib.hid (late_none hno)
      clear hno hx hk
      go_wp2
      go_ret
      exact ⟨_, rfl, by rw [HN.out]; rfl, HX.out⟩
set_option maxRecDepth 20000 in
theorem contains_any (l : List E9) (g : Nat) (now : Int) (v : Value) (w : World) (hr : RR entC 9 w v l) (hl : (l.length : Int) ≤ 1000000000) (h : w.cell? ⟨g, 2, none⟩ = some (.int .i64 now)) :
    Calls Tryz.prog 36 #[v, .func (.func 35) #[] #[.pointer (some ⟨g, 0, none⟩)]] w fun r w' => r = .returned (.bool (lateP l now)) ∧ Ext w w' := by
  have Q := Lib.hid (fun w hr h => index_any l g now v w hr hl h)
  have HR := Lib.hid hr
  have H := Lib.hid h
  obtain ⟨a, c, rfl, _, _, hs⟩ := hr
  clear hs h
  go_enter Tryz.func36, Tryz.ntmps36
  go_wp2_with fail
  refine (Q.out _ HR.out H.out).mono ?_
  rintro _ w1 ⟨i, rfl, hi, x1⟩
  have HI := Lib.hid hi
  clear hi
  go_wp2
  go_ret
  exact ⟨by rw [← HI.out]; rfl, x1⟩
end Go.Proofs.YtmjkfgpkohfmiaaGreat
namespace Go.Proofs.YtmjkfgpkohfmiaaGreat
set_option linter.unusedVariables false
set_option linter.unusedSimpArgs false
open Go.RowKit

theorem man_size : (Tryz.prog.info? 39).map (·.size) = some 5 := by kernel_rfl

set_option maxRecDepth 20000 in
set_option maxHeartbeats 8000000 in
theorem mCheck_any (m : Man) (v : Value) (w : World) (hr : RR entC 9 w v m.ents) :
    Calls Tryz.prog 11 #[.agg (manC m v)] w fun r w' => r = .returned (.int .i64 (errI (maniP m) 250)) ∧ Ext w w' := by
  have hmf : ∀ (fn : Fn) (first cap : Array Value) (w : World), (Instr.makeFunc fn first cap).run Tryz.prog w = .ok (.func fn first cap) w := fun _ _ _ _ => rfl
  have hcases := mani_cases m
  generalize maniP m = r at *
  obtain ⟨gen, next, now, floor, ents⟩ := m
  dsimp only [manC] at *
  have QR := Lib.hid (fun w h => eRow_any ents v w h)
  have b1 := Lib.hid (Blk.new w 39 #[.int .i64 gen, .int .i64 next, .int .i64 now, .int .i64 floor, v])
  have X0 := Lib.hid ((Ext.refl w).alloc (.cells #[.int .i64 gen, .int .i64 next, .int .i64 now, .int .i64 floor, v] 39))
  have R0 := Lib.hid (hr.ext X0.out)
  rcases hcases with ⟨rfl, h1⟩ | ⟨rfl, h1, h2⟩ | ⟨rfl, h1, h2, h3⟩ | ⟨rfl, h1, h2, h3, h4⟩ | ⟨rfl, h1, h2, h3, h4, h5⟩ | ⟨hrr, h1, h2, h3, h4, h5⟩
  iterate 4
    · go_enter Tryz.func11, Tryz.ntmps11
      go_wp2
      go_ret
      exact ⟨rfl, X0.out⟩
  · rw [h5] at QR
    simp only [errI, Bool.false_eq_true, if_false] at QR
    clear h5
    obtain ⟨a, c, rfl, _, _, _⟩ := hr
    go_enter Tryz.func11, Tryz.ntmps11
    go_wp2_with fail
    refine (QR.out _ R0.out).mono ?_
    rintro _ w1 ⟨rfl, x1⟩
    go_wp2
    go_ret
    exact ⟨rfl, X0.out.trans x1⟩
  · have hlen := rowP_len h5
    rw [h5] at QR
    simp only [errI, if_true] at QR
    have HRR := Lib.hid hrr
    obtain ⟨n, hn⟩ : ∃ n : Nat, ents.length = n + 1 := ⟨ents.length - 1, by omega⟩
    have hr' := hr
    obtain ⟨a, c, rfl, hlc, hcn, hs⟩ := hr
    obtain ⟨ge, o, rfl, hcells⟩ := hs (by omega)
    have RL := Lib.hid (hcells n _ (ent_at (by omega)))
    have RF := Lib.hid (hcells 0 _ (ent_at (by omega)))
    have QC := Lib.hid (fun g w hr h => contains_any ents g now (.slice (some ⟨ge, o, none⟩) ents.length c) w hr (by omega) h)
    have HB := Lib.hid b1.out
    unfold lastOf fstOf at HRR
    rw [show ents.length - 1 = n by omega] at HRR
    have hkl : (ents.length : Int) = (n : Int) + 1 := by omega
    have HLEN := Lib.hid hlen
    have hb100 : (n : Int) + 1 ≤ 100 := by omega
    have QR := Lib.hid (QR.out _ R0.out)
    have ZE := Lib.hid (show (Tryz.prog.info? 73).map (·.size) = some (entC (ents.getD n default)).length from ent_size)
    have ZE' := Lib.hid (show (Tryz.prog.info? 73).map (·.size) = some (entC (ents.getD n default)).toArray.size from ent_size)
    have OE := Lib.hid (entC_all (ents.getD n default))
    have SE := Lib.hid (show (#[.int .i64 0, .int .i64 0, .int .i64 0, .bool false, .int .i64 0, .int .i64 0, .int .i64 0, .int .i64 0, .int .i64 0] : Array Value).size = (entC (ents.getD n default)).toArray.size from rfl)
    have HID := Lib.hid (show (entC (ents.getD n default)).toArray[0]? = some (.int .i64 (ents.getD n default).id) from rfl)
    have HF := Lib.hid (show (entC (ents.getD 0 default))[2]? = some (.int .i64 (ents.getD 0 default).fst) from rfl)
    rw [hn] at QR QC hlc
    have HR0 := Lib.hid (show ∀ w', Ext w w' → RR entC 9 w' (.slice (some ⟨ge, o, none⟩) (n + 1) c) ents from fun w' hx => by rw [← hn]; exact hr'.ext hx)
    rw [hn] at b1 HB X0 R0
    rw [hn]
    clear hcells hs hcn h5 hrr hlen hr' hkl hn
    generalize ents.getD n default = el at *
    generalize ents.getD 0 default = ef at *
    generalize (lateP ents now) = b4 at *
    go_enter Tryz.func11, Tryz.ntmps11
    go_wp2_with fail
    refine QR.out.mono ?_
    rintro _ w1 ⟨rfl, x1⟩
    have B1 := HB.out.ext x1
    have c4 : w1.cell? ⟨w.heap.size, 4, none⟩ = some (.slice (some ⟨ge, o, none⟩) (n + 1) c) := B1.cell 4
    have R1 := Lib.hid (rangeAt_ext RL.out (X0.out.trans x1))
    have y1 : Ext w (w1.alloc (.cells (entC el).toArray 73)) := (X0.out.trans x1).alloc _
    have y2 : Ext (w.alloc (.cells #[.int .i64 gen, .int .i64 next, .int .i64 now, .int .i64 floor, .slice (some ⟨ge, o, none⟩) (n + 1) c] 39)) (w1.alloc (.cells (entC el).toArray 73)) := x1.alloc _
    have B2 := HB.out.ext y2
    have e1 := B2.cell 1
    have e3 := B2.cell 3
    have e4 := B2.cell 4
    have e2 := B2.cell 2
    simp only [List.getElem?_toArray, List.getElem?_cons_succ, List.getElem?_cons_zero] at e1 e3 e4 e2
    have e0 : (w1.alloc (.cells (entC el).toArray 73)).cell? ⟨w1.heap.size, 0, none⟩ = some (.int .i64 el.id) := ((Blk.new w1 73 (entC el).toArray).cell 0).trans HID.out
    have ef := (rangeAt_ext RF.out y1) 2 _ HF.out
    simp only [Nat.zero_mul, Nat.add_zero] at ef
    have E1 := Lib.hid (up_cell e1)
    have E3 := Lib.hid (up_cell e3)
    have E4 := Lib.hid (up_cell e4)
    have E0 := Lib.hid (up_cell e0)
    have EF := Lib.hid (up_cell ef)
    have QX := Lib.hid (fun x : Up (w1.alloc (.cells (entC el).toArray 73)) => QC.out w.heap.size x.val (HR0.out _ (y1.trans x.ext)) (up_cell e2 x))
    have Y1 := Lib.hid y1
    have kn : (n : Int) < (n : Int) + 1 := by omega
    have kb : (n : Int) + 1 ≤ 100 := hb100
    clear B1 B2 e1 e2 e3 e4 e0 ef y1 y2 x1 QC HR0 HB b1
    generalize entC el = ce at *
    go_wp2_with (refine wpList_load_mid rfl 73 (.tmp 35) rfl ge _ rfl ce _ R1.out Tryz.underlying73 rfl ZE.out ?_; refine Held.go ?_)
    refine ⟨?_⟩
    go_wp2_with (refine wpList_store_new (cs' := ce.toArray) rfl 73 (.tmp 3) (.tmp 36) rfl rfl rfl SE.out ZE'.out OE.out ?_; refine Held.go ?_)
    refine ⟨?_⟩
    clear c4
    generalize w1.alloc (.cells ce.toArray 73) = w2 at *
    generalize el.id = lid at *
    generalize ef.fst = ff at *
    go_wp2
    have HRR := HRR.out
    obtain ⟨b1, hb1⟩ : ∃ b, decide (next ≤ lid) = b := ⟨_, rfl⟩
    obtain ⟨b2, hb2⟩ : ∃ b, decide (1000000 < next) = b := ⟨_, rfl⟩
    obtain ⟨b3, hb3⟩ : ∃ b, (floor != ff) = b := ⟨_, rfl⟩
    rw [hb1, hb2, hb3] at HRR
    have e1 := E1.out
    have e3 := E3.out
    have e4 := E4.out
    have e0 := E0.out
    have ef := EF.out
    have kz : (0 : Int) < (n : Int) + 1 := by omega
    clear h1 h2 h3 h4 kn kb hb100 hlc
    refine wp_region_up (by kernel_rfl) (by kernel_rfl) ?_
    cases b1 with
    | true =>
      have hr : r = false := HRR
      subst hr
      clear HRR
      repeat (go_big_quiet_step (first | (go_at_call 36; (with_reducible exact up_call (QX.out _)))))
      refine wpQuiet_nil ?_
      rintro _ ⟨z, rfl⟩
      go_wp2
      go_ret
      exact ⟨rfl, Y1.out.trans z.ext⟩
    | false =>
      cases b2 with
      | true =>
        have hr : r = false := HRR
        subst hr
        clear HRR
        repeat (go_big_quiet_step (first | (go_at_call 36; (with_reducible exact up_call (QX.out _)))))
        refine wpQuiet_nil ?_
        rintro _ ⟨z, rfl⟩
        go_wp2
        go_ret
        exact ⟨rfl, Y1.out.trans z.ext⟩
      | false =>
        cases b3 with
        | true =>
          have hr : r = false := HRR
          subst hr
          clear HRR
          repeat (go_big_quiet_step (first | (go_at_call 36; (with_reducible exact up_call (QX.out _)))))
          refine wpQuiet_nil ?_
          rintro _ ⟨z, rfl⟩
          go_wp2
          go_ret
          exact ⟨rfl, Y1.out.trans z.ext⟩
        | false =>
          cases b4 with
          | true =>
            have hr : r = false := HRR
            subst hr
            clear HRR
            repeat (go_big_quiet_step (first | (go_at_call 36; (with_reducible exact up_call (QX.out _)))))
            refine wpQuiet_nil ?_
            rintro _ ⟨z, rfl⟩
            go_wp2
            go_ret
            exact ⟨rfl, Y1.out.trans z.ext⟩
          | false =>
            have hr : r = true := HRR
            subst hr
            clear HRR
            repeat (go_big_quiet_step (first | (go_at_call 36; (with_reducible exact up_call (QX.out _)))))
            refine wpQuiet_nil ?_
            rintro _ ⟨z, rfl⟩
            go_wp2
            go_ret
            exact ⟨rfl, Y1.out.trans z.ext⟩
end Go.Proofs.YtmjkfgpkohfmiaaGreat
namespace Go.Proofs.YtmjkfgpkohfmiaaGreat
set_option linter.unusedVariables false
set_option linter.unusedSimpArgs false
open Go.RowKit

/-- the first k are the same -/
def sameTo (a b : List E9) (k : Nat) : Prop := a.take k = b.take k
theorem same_end {a b : List E9} (hl : a.length = b.length) (h : sameTo a b a.length) : decide (a = b) = true := by
  unfold sameTo at h
  rw [List.take_length, hl, List.take_length] at h
  exact decide_eq_true h
theorem same_no {a b : List E9} {k : Nat} (ha : k < a.length) (hb : k < b.length) (h : ¬ a.getD k default = b.getD k default) : decide (a = b) = false := by
  rw [decide_eq_false_iff_not]
  rintro rfl
  exact h rfl
theorem same_step {a b : List E9} {k : Nat} (ha : k < a.length) (hb : k < b.length) (h0 : sameTo a b k) (h : a.getD k default = b.getD k default) : sameTo a b (k + 1) := by
  unfold sameTo at h0 ⊢
  rw [List.take_add_one, List.take_add_one, h0, ent_at ha, ent_at hb, h]
set_option maxRecDepth 20000 in
set_option maxHeartbeats 4000000 in
theorem rSame_any (a b : List E9) (va vb : Value) (w : World) (ha : RR entC 9 w va a) (hb : RR entC 9 w vb b) (hl : (a.length : Int) ≤ 1000000000) :
    Calls Tryz.prog 47 #[va, vb] w fun e w' => e = .returned (.bool (decide (a = b))) ∧ Ext w w' := by
  obtain ⟨pa, ca, rfl, _, _, hsa⟩ := ha
  obtain ⟨pb, cb, rfl, _, _, hsb⟩ := hb
  by_cases hlen : a.length = b.length
  · have HSA := Lib.hid hsa
    have HSB := Lib.hid hsb
    have HE := Lib.hid (fun h => same_end hlen h)
    have HNO := Lib.hid (fun k h1 h2 h => same_no (a := a) (b := b) (k := k) h1 h2 h)
    have HST := Lib.hid (fun k h1 h2 h0 h => same_step (a := a) (b := b) (k := k) h1 h2 h0 h)
    generalize decide (a = b) = r at *
    have HLN := Lib.hid hlen
    rw [← hlen]
    clear hsa hsb hlen
    go_enter Tryz.func47, Tryz.ntmps47
    go_wp2
    go_loopw [5] (fun i wr => ∃ k : Nat, i = .int .i64 (k : Int) ∧ k ≤ a.length ∧ sameTo a b k ∧ Ext w wr) (fun i _ => a.length - (intOf i).toNat)
    case atStart => exact ⟨0, rfl, Nat.zero_le _, rfl, Ext.refl _⟩
    case round =>
      obtain ⟨k, rfl, hk, hsm, hx⟩ := hrel
      have HX := Lib.hid hx
      by_cases hlt : k < a.length
      · have hI : (k : Int) < (a.length : Int) := by omega
        have hltb : k < b.length := by have := HLN.out; omega
        obtain ⟨ga, oa, rfl, hca⟩ := HSA.out (by omega)
        obtain ⟨gb, ob, rfl, hcb⟩ := HSB.out (by omega)
        have RA := Lib.hid (rangeAt_ext (hca k _ (ent_at hlt)) hx)
        have RB := Lib.hid (rangeAt_ext (hcb k _ (ent_at hltb)) hx)
        have HNO := Lib.hid (fun h => HNO.out k hlt hltb h)
        have HST := Lib.hid (fun h => HST.out k hlt hltb hsm h)
        have hN := fun w => ent_neq (a.getD k default) (b.getD k default) w
        have hkm := Lib.hid hlt
        have hkw : IntKind.i64.wrap ((k : Int) + 1) = ((k + 1 : Nat) : Int) := by rw [IntKind.wrap_i64]; omega
        clear hca hcb hx hk hsm hlt hltb
        generalize a.getD k default = x at *
        generalize b.getD k default = y at *
        have ZA := Lib.hid (show (Tryz.prog.info? 73).map (·.size) = some (entC x).length from ent_size)
        have ZB := Lib.hid (show (Tryz.prog.info? 73).map (·.size) = some (entC y).length from ent_size)
        by_cases hxy : x = y
        · have hs := HST.out hxy
          rw [decide_eq_true hxy] at hN
          clear hxy HNO HST
          generalize entC x = cx at *
          generalize entC y = cy at *
          go_wp2
          refine wp_region_up (by kernel_rfl) (by kernel_rfl) ?_
          iterate 3 (go_big_quiet_step (fail))
          refine wpQuiet_load_range (by kernel_rfl) 73 (.tmp 19) rfl rfl RA.out Tryz.underlying73 rfl ZA.out ?_
          dsimp only [Act.put]
          simp only [List.setIfInBounds_toArray, List.set_cons_succ, List.set_cons_zero]
          iterate 3 (go_big_quiet_step (fail))
          refine wpQuiet_load_range (by kernel_rfl) 73 (.tmp 23) rfl rfl RB.out Tryz.underlying73 rfl ZB.out ?_
          dsimp only [Act.put]
          simp only [List.setIfInBounds_toArray, List.set_cons_succ, List.set_cons_zero]
          repeat (go_big_quiet_step (fail))
          refine wpQuiet_nil ?_
          rintro _ ⟨z, rfl⟩
          go_wp2
          go_roundw
          case rel => exact ⟨k + 1, by go_num, by have := hkm.out; omega, hs, HX.out.trans z.ext⟩
          case measure => simp [intOf]; have := hkm.out; omega
        · have hs := HNO.out hxy
          rw [decide_eq_false hxy] at hN
          clear hxy HNO HST
          subst hs
          generalize entC x = cx at *
          generalize entC y = cy at *
          go_wp2
          refine wp_region_up (by kernel_rfl) (by kernel_rfl) ?_
          iterate 3 (go_big_quiet_step (fail))
          refine wpQuiet_load_range (by kernel_rfl) 73 (.tmp 19) rfl rfl RA.out Tryz.underlying73 rfl ZA.out ?_
          dsimp only [Act.put]
          simp only [List.setIfInBounds_toArray, List.set_cons_succ, List.set_cons_zero]
          iterate 3 (go_big_quiet_step (fail))
          refine wpQuiet_load_range (by kernel_rfl) 73 (.tmp 23) rfl rfl RB.out Tryz.underlying73 rfl ZB.out ?_
          dsimp only [Act.put]
          simp only [List.setIfInBounds_toArray, List.set_cons_succ, List.set_cons_zero]
          repeat (go_big_quiet_step (fail))
          refine wpQuiet_nil ?_
          rintro _ ⟨z, rfl⟩
          go_wp2
          go_ret
          exact ⟨rfl, HX.out.trans z.ext⟩
      · obtain rfl : k = a.length := by omega
        have hres := HE.out hsm
        clear hk hx hsm
        subst hres
        go_wp2
        go_ret
        exact ⟨rfl, HX.out⟩
  · have hne : ¬ (a.length : Int) = (b.length : Int) := by omega
    have hr : decide (a = b) = false := by rw [decide_eq_false_iff_not]; rintro rfl; exact hlen rfl
    rw [hr]
    have hne' : ((a.length : Int) == (b.length : Int)) = false := by simpa using hne
    clear hsa hsb hlen hr
    go_enter Tryz.func47, Tryz.ntmps47
    go_wp2
    go_ret
    exact ⟨rfl, Ext.refl _⟩
end Go.Proofs.YtmjkfgpkohfmiaaGreat
