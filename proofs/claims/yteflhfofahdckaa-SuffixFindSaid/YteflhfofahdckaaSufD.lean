/- suffix: upto, counted. -/
import Derived.Test.YteflhfofahdckaaSufC
import Derived.Test.YteflhfofahdckaaApp3
namespace Go.Proofs.Yteflhfofahdckaa
set_option linter.unusedVariables false
set_option linter.unusedSimpArgs false
open Go.RowKit

def toI (l : List Nat) : List Int := l.map fun (n : Nat) => (n : Int)
theorem toI_length (l : List Nat) : (toI l).length = l.length := List.length_map _
theorem toI_getD (l : List Nat) (k : Nat) : (toI l).getD k 0 = ((l.getD k 0 : Nat) : Int) := by
  unfold toI
  rw [List.getD_eq_getElem?_getD, List.getElem?_map, List.getD_eq_getElem?_getD]
  cases l[k]? <;> rfl
theorem toI_set (l : List Nat) (i v : Nat) : toI (l.set i v) = (toI l).set i (v : Int) := List.map_set
theorem toI_replicate (n : Nat) : toI (List.replicate n 0) = List.replicate n 0 := List.map_replicate
theorem toI_inj {a b : List Nat} (h : toI a = toI b) : a = b := by
  apply List.ext_getElem?
  intro i
  have := congrArg (fun l => l[i]?) h
  simp only [toI, List.getElem?_map] at this
  cases ha : a[i]? <;> cases hb : b[i]? <;> rw [ha, hb] at this <;> simp at this
  rw [Int.ofNat_inj.1 this]
theorem w64_small {n : Int} (h0 : 0 ≤ n) (h1 : n < 9223372036854775808) : wrap64 n = n := by unfold wrap64; omega
/-- what a slice of the call's own holds -/
theorem IW.facts {w : World} {B g n c : Nat} {l : List Int} (h : IW w B (.slice (some ⟨g, 0, none⟩) n c) l) : l.length = n ∧ (0 < n → g < w.heap.size ∧ B ≤ g) ∧ ∀ i, i < n → w.cell? ⟨g, i, none⟩ = some (.int .i64 (l.getD i 0)) ∧ w.frozen? ⟨g, i, none⟩ = false := by
  obtain ⟨a, c', h1, h2, h3⟩ := h.shape
  injection h1 with e1 e2 e3
  subst e2
  refine ⟨rfl, fun hn => ?_, fun i hi => ?_⟩
  · obtain ⟨g', e, p1, p2, _⟩ := h3 hn
    rw [e] at e1
    injection e1 with e1
    injection e1 with e1
    subst e1
    exact ⟨p2, p1⟩
  · obtain ⟨g', e, _, _, p3, p4⟩ := h3 (by omega)
    rw [e] at e1
    injection e1 with e1
    injection e1 with e1
    subst e1
    exact ⟨p3 i hi, p4 i⟩
/-- a row of numbers, of the call's own, at block g -/
def NW (w : World) (B g n : Nat) (l : List Nat) : Prop := IW w B (.slice (some ⟨g, 0, none⟩) n n) (toI l)
section
variable {w w' : World} {B g n : Nat} {l : List Nat}
theorem NW.len (h : NW w B g n l) : l.length = n := by have := (IW.facts h).1; rwa [toI_length] at this
theorem NW.cell (h : NW w B g n l) (i : Nat) (hi : i < n) : w.cell? ⟨g, i, none⟩ = some (.int .i64 ((l.getD i 0 : Nat) : Int)) := by rw [← toI_getD]; exact ((IW.facts h).2.2 i hi).1
theorem NW.free (h : NW w B g n l) (i : Nat) (hi : i < n) : w.frozen? ⟨g, i, none⟩ = false := ((IW.facts h).2.2 i hi).2
theorem NW.lt (h : NW w B g n l) (hn : 0 < n) : g < w.heap.size := ((IW.facts h).2.1 hn).1
theorem NW.ext (h : NW w B g n l) (hx : Ext w w') : NW w' B g n l := IW.ext h hx
theorem NW.set (h : NW w B g n l) (i v : Nat) : NW (w.setCell ⟨g, i, none⟩ (.int .i64 (v : Int))) B g n (l.set i v) := by
  have hl := h.len
  subst hl
  unfold NW at *
  rw [toI_set]
  have h' : IW w B (.slice (some ⟨g, 0, none⟩) (toI l).length l.length) (toI l) := by rw [toI_length]; exact h
  have := IW.set h' i (v : Int)
  rwa [toI_length] at this
theorem NW.far (h : NW w B g n l) {p : Addr} (hne : p.block ≠ g) (u : Value) : NW (w.setCell p u) B g n l := by
  rcases h.2 with ⟨h1, h2⟩ | ⟨g', cap, cur, h1, hB, h2, h3⟩
  · cases h1
  · injection h1 with e1 e2 e3
    injection e1 with e1
    injection e1 with e1
    subst e1
    exact ⟨h.1, .inr ⟨g, cap, cur, by rw [← e3]; simp [e2], hB, (show Blk w g 3 cur from h2).far (fun e => hne e.symm) u, h3⟩⟩
theorem NW.make (w : World) (n : Nat) (hn : n ≤ 1000000000) : NW (w.alloc (.cells (madeCells #[.int .i64 0] n) 3)) w.heap.size w.heap.size n (List.replicate n 0) := by
  unfold NW; rw [toI_replicate]; exact (IW.make w n hn).2
end
theorem make_run (w : World) (n : Nat) (hn : n ≤ 1000000000) (m : Int) (hm : m = (n : Int)) : (Instr.makeSlice 33 (.int .i64 m) (.int .i64 m)).run Try.prog w = .ok (.slice (some ⟨w.heap.size, 0, none⟩) n n) (w.alloc (.cells (madeCells #[.int .i64 0] n) 3)) := by
  subst hm; exact (IW.make w n hn).1
/-- a function value that tells the keys of places -/
def KeyAt (fv : Value) (key : Nat → Nat) (ok : Nat → Prop) (w : World) : Prop :=
  ∃ (f : FuncId) (cap : Array Value), fv = .func (.func f) #[] cap ∧ (∀ (xs : Array Value) (W : World), (callFunc f xs).run Try.prog W = .ok (.enter f xs) W) ∧ ∀ W, Ext w W → ∀ p : Nat, ok p → Calls Try.prog f (#[.int .i64 (p : Int)] ++ cap) W fun e W' => e = .returned (.int .i64 (key p : Int)) ∧ W = W'
theorem KeyAt.ext {fv : Value} {key : Nat → Nat} {ok : Nat → Prop} {w w' : World} (h : KeyAt fv key ok w) (hx : Ext w w') : KeyAt fv key ok w' := by
  obtain ⟨f, cap, h1, h0, h2⟩ := h
  exact ⟨f, cap, h1, h0, fun W hW => h2 W (hx.trans hW)⟩

set_option maxRecDepth 20000 in
set_option maxHeartbeats 4000000 in
theorem upto_any (n : Nat) (w : World) (hn : n ≤ 1000000) : Calls Try.prog 40 #[.int .i64 (n : Int)] w fun e w' => ∃ g, e = .returned (.slice (some ⟨g, 0, none⟩) n n) ∧ Ext w w' ∧ NW w' w.heap.size g n (List.range n) := by
  have hmk := make_run w n (by omega) _ rfl
  have h0 := NW.make w n (by omega)
  have H0 := Lib.hid (show NW (w.alloc (.cells (madeCells #[.int .i64 0] n) 3)) w.heap.size w.heap.size n ((List.range n).map fun j => if j < 0 then j else 0) from by
    have : ((List.range n).map fun j => if j < 0 then j else 0) = List.replicate n 0 := by
      rw [List.eq_replicate_iff]
      refine ⟨by simp, fun b hb => ?_⟩
      obtain ⟨j, _, rfl⟩ := List.mem_map.1 hb
      rfl
    rw [this]; exact h0)
  clear h0
  go_enter Try.func40, Try.ntmps40
  go_wp2
  clear hmk
  go_loopw [9] (fun i wr => ∃ k : Nat, k ≤ n ∧ i = .int .i64 (k : Int) ∧ Ext w wr ∧ NW wr w.heap.size w.heap.size n ((List.range n).map fun j => if j < k then j else 0)) (fun i _ => n - (intOf i).toNat)
  case atStart => exact ⟨0, by omega, rfl, (Ext.refl _).alloc _, H0.out⟩
  case round =>
    obtain ⟨k, hk, rfl, hx, hw⟩ := hrel
    clear H0
    by_cases hlt : k < n
    · have c := hw.cell k hlt
      have f := hw.free k hlt
      have HS := Lib.hid (show NW (wr.setCell ⟨w.heap.size, k, none⟩ (.int .i64 (k : Int))) w.heap.size w.heap.size n ((List.range n).map fun j => if j < k + 1 then j else 0) from by
        have h1 := hw.set k k
        rw [mr_set] at h1
        rw [mr_congr (g := fun j => if j < k + 1 then j else 0)] at h1
        · exact h1
        · intro i hi
          by_cases e : i = k
          · subst e; simp
          · by_cases e2 : i < k
            · simp [e, e2, show i < k + 1 by omega]
            · simp [e, e2, show ¬ i < k + 1 by omega])
      have HX := Lib.hid hx
      clear hw hx hk
      generalize ((List.range n).map fun j => if j < k then j else 0).getD k 0 = old at *
      go_wp2
      go_roundw
      case rel => exact ⟨k + 1, by omega, by go_num, Ext.set HX.out (Nat.le_refl _) _, HS.out⟩
      case measure => simp [intOf]; omega
    · have e : k = n := by omega
      subst e
      go_wp2
      go_ret
      refine ⟨_, rfl, hx, ?_⟩
      rw [mr_congr (g := fun j => j)] at hw
      · rw [List.map_id'] at hw; exact hw
      · intro i hi; rw [if_pos hi]
end Go.Proofs.Yteflhfofahdckaa
