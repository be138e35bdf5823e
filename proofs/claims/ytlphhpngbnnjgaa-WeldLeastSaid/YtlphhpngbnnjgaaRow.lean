/- Slices that the call itself has made, of elements of one cell; slices of integers. -/
import Derived.Test.YtlphhpngbnnjgaaStr
import Derived.Laws.OwnMore
import Derived.Lib.SmallJoins
import Derived.Deep.OwnRows
namespace Go.Proofs.Ytlphhpngbnnjgaa
set_option linter.unusedVariables false
set_option linter.unusedSimpArgs false
open Go.RowKit

/-- the slice v is made by the call (no block of it is older than B), and holds these values -/
def RW (w : World) (B : Nat) (e : TypeId) (v : Value) (xs : List Value) : Prop := w.ownsRow B e 1 v xs.length xs

theorem Ext.grownBy {w w' : World} (h : Ext w w') (row : Option Nat) : w.grownBy w' row := ⟨h.os, h.tape, h.output, h.size, fun k hk _ => h.block k hk⟩
section
variable {w w' : World} {B : Nat} {e : TypeId} {v : Value} {xs : List Value}
theorem RW.nil (w : World) (B : Nat) (e : TypeId) : RW w B e (.slice none 0 0) [] := World.ownsRow_nil w B e 1
theorem RW.ext (h : RW w B e v xs) (hx : Ext w w') : RW w' B e v xs := World.ownsRow.kept h (hx.grownBy none) (by cases hv : v.ownBlock <;> simp)
theorem RW.mono {B' : Nat} (h : RW w B e v xs) (hB : B' ≤ B) : RW w B' e v xs := Go.Joins.ownsRow_le h hB
theorem RW.alloc (h : RW w B e v xs) (o : Obj) : RW (w.alloc o) B e v xs := h.ext ((Ext.refl w).alloc o)
theorem RW.drew (h : RW w B e v xs) : RW w.drew B e v xs := h.ext (Ext.refl w).drew
/-- what the slice is: its address, if it has elements, its cells -/
theorem RW.shape (h : RW w B e v xs) : ∃ a c, v = .slice a xs.length c ∧ xs.length ≤ c ∧ (0 < xs.length → ∃ g, a = some ⟨g, 0, none⟩ ∧ B ≤ g ∧ g < w.heap.size ∧ (∀ i, i < xs.length → w.cell? ⟨g, i, none⟩ = xs[i]?) ∧ ∀ i, w.frozen? ⟨g, i, none⟩ = false) := by
  rcases h.2 with ⟨rfl, h0⟩ | ⟨g, cap, cur, rfl, hg, hc, h1, _⟩
  · exact ⟨none, 0, by rw [h0], by omega, fun h => by omega⟩
  · exact ⟨_, cap, rfl, h1, fun _ => ⟨g, rfl, hg, (Array.getElem?_eq_some_iff.1 hc).1, fun i hi => World.ownsRow.cellAt h i (by omega), fun i => World.ownsRow.frozenAt h i⟩⟩
theorem RW.len (h : RW w B e v xs) : xs.length ≤ maxLen := by
  rcases h.2 with ⟨rfl, h0⟩ | ⟨g, cap, cur, rfl, hg, hc, h1, h2, _⟩
  · omega
  · omega
/-- an element is appended -/
theorem RW.app (h : RW w B e v xs) (hB : B ≤ w.heap.size) {P : Program} {t : TypeId} {z : Value} {bytes : Nat} (ht : P.underlying t = some (.slice e)) (hi : (P.info? e).map (fun i => (i.zero, i.size, i.bytes)) = some (some z, 1, bytes)) (hz : z.cells = #[z])
    (x : Value) (hx : x.oneCell' = true) (hl : (xs.length + 1) * bytes ≤ 140737488355328) (hl2 : xs.length + 1 ≤ maxLen) :
    ∃ v' w', (Builtin.append_ #[t, t] t #[v, .slice (some ⟨w.heap.size, 0, none⟩) 1 1]).run P (w.alloc (.cells #[x] e)) = .ok v' w' ∧ RW w' B e v' (xs ++ [x]) ∧ Below B w w' ∧ (∀ k, k < w.heap.size → some k ≠ v.ownBlock → w'.heap[k]? = w.heap[k]?) := by
  obtain ⟨i, hi1, hzz⟩ := Option.map_eq_some_iff.1 hi
  simp only [Prod.mk.injEq] at hzz
  obtain ⟨z1, z2, z3⟩ := hzz
  obtain ⟨v', w', h1, h2, h3, _⟩ := run_append_own (P := P) (w.alloc (.cells #[x] e)) B t t e i z 1 bytes ht hi1 z1 z2 z3 (by rw [hz]; rfl) (by decide) v xs.length xs (h.alloc _) ⟨w.heap.size, 0, none⟩ 1 1 [x] rfl
    (fun j u hj => by
      match j, hj with
      | 0, hj => simp at hj; subst hj; rw [show (⟨w.heap.size, 0, none⟩ : Addr).add 0 = ⟨w.heap.size, 0, none⟩ from rfl, World.cell?_alloc_new]; rfl)
    (fun u hu => by simp at hu; subst hu; exact hx) hl2 hl (by rw [World.size_alloc]; omega)
  have hk : ∀ k, k < w.heap.size → some k ≠ v.ownBlock → w'.heap[k]? = w.heap[k]? := fun k hk hne => by
    rw [h3.block k (by rw [World.size_alloc]; omega) hne]; exact Below.heap_alloc w _ k hk
  refine ⟨v', w', h1, by rw [RW, List.length_append]; exact h2, ⟨h3.os, h3.tape, h3.output, ?_, fun k hkB => hk k (by omega) ?_⟩, hk⟩
  · have := h3.size; rw [World.size_alloc] at this; omega
  · intro e'
    have := World.ownsRow.lt h k e'.symm
    omega
/-- an element is stored -/
theorem RW.set {g cap : Nat} (h : RW w B e (.slice (some ⟨g, 0, none⟩) xs.length cap) xs) (i : Nat) (u : Value) : RW (w.setCell ⟨g, i, none⟩ u) B e (.slice (some ⟨g, 0, none⟩) xs.length cap) (xs.set i u) := by
  have := (World.ownsRow.stored h i u).1
  rw [RW, List.length_set]; exact this
/-- a new slice, of zero values -/
theorem RW.make {P : Program} {t : TypeId} {z : Value} {bytes : Nat} (w : World) (ht : P.underlying t = some (.slice e)) (hi : (P.info? e).map (fun i => (i.zero, i.size, i.bytes)) = some (some z, 1, bytes)) (hz : z.cells = #[z]) (n : Nat) (hn : bytes * n ≤ 281474976710656) (hn2 : n ≤ 9223372036854775807) :
    (Instr.makeSlice t (.int .i64 (n : Int)) (.int .i64 (n : Int))).run P w = .ok (.slice (some ⟨w.heap.size, 0, none⟩) n n) (w.alloc (.cells (madeCells #[z] n) e)) ∧ RW (w.alloc (.cells (madeCells #[z] n) e)) w.heap.size e (.slice (some ⟨w.heap.size, 0, none⟩) n n) (List.replicate n z) := by
  refine ⟨run_make_row' t e z bytes ht hi hz .i64 .i64 n hn hn2 w, ?_⟩
  have := World.ownsRow_lit (base := w.heap.size) (e := e) (size := 1) w (madeCells #[z] n) n (Nat.le_refl _) (by unfold maxLen; omega) (by simp [madeCells])
  rw [toList_madeCells_one] at this
  rw [RW, List.length_replicate]; exact this
end

/-- an append whose outcome is known -/
theorem wpList_app {P : Program} {ops : Array Oper} {rest : List Oper} {o : Oper} {a : Act} {Q : Exit → Act → World → Prop} {w w' : World} {v v' u : Value} (hgd : o.guard = none) (s y : Operand) (t : TypeId)
    (ho : o.op = .call { callee := .builtin .append, args := #[s, y], argTypes := #[t, t] }) (hty : o.type = t) (hs : a.eval s = v) (hy : a.eval y = u)
    (hrun : (Builtin.append_ #[t, t] t #[v, u]).run P w = .ok v' w') (h : wpList P ops Q rest (a.put o.dst v') w') : wpList P ops Q (o :: rest) a w :=
  wpList_plain hgd fun _ hK => by
    unfold Oper.wp execOp
    simp only [ho, hty, resolve, invoke, builtin, Sem.run_bind, Sem.run_pure, Result.andThen_ok, List.map_toArray, List.map_cons, List.map_nil, hs, hy, hrun]
    exact hK _ _ h

def ints (l : List Int) : List Value := l.map (Value.int .i64)
theorem ints_length (l : List Int) : (ints l).length = l.length := List.length_map _
/-- a slice of integers -/
def IW (w : World) (B : Nat) (v : Value) (l : List Int) : Prop := RW w B 3 v (ints l)
theorem int_info : (Try.prog.info? 3).map (fun i => (i.zero, i.size, i.bytes)) = some (some (.int .i64 0), 1, 8) := by kernel_rfl
section
variable {w w' : World} {B : Nat} {v : Value} {l : List Int}
theorem IW.nil (w : World) (B : Nat) : IW w B (.slice none 0 0) [] := RW.nil w B _
theorem IW.ext (h : IW w B v l) (hx : Ext w w') : IW w' B v l := RW.ext h hx
theorem IW.mono {B' : Nat} (h : IW w B v l) (hB : B' ≤ B) : IW w B' v l := RW.mono h hB
theorem IW.alloc (h : IW w B v l) (o : Obj) : IW (w.alloc o) B v l := RW.alloc h o
theorem IW.drew (h : IW w B v l) : IW w.drew B v l := RW.drew h
theorem IW.shape (h : IW w B v l) : ∃ a c, v = .slice a l.length c ∧ l.length ≤ c ∧ (0 < l.length → ∃ g, a = some ⟨g, 0, none⟩ ∧ B ≤ g ∧ g < w.heap.size ∧ (∀ i, i < l.length → w.cell? ⟨g, i, none⟩ = some (.int .i64 (l.getD i 0))) ∧ ∀ i, w.frozen? ⟨g, i, none⟩ = false) := by
  obtain ⟨a, c, h1, h2, h3⟩ := RW.shape h
  rw [ints_length] at h1 h2
  refine ⟨a, c, h1, h2, fun hn => ?_⟩
  obtain ⟨g, p1, p2, p3, p4, p5⟩ := h3 (by rw [ints_length]; exact hn)
  refine ⟨g, p1, p2, p3, fun i hi => ?_, p5⟩
  rw [p4 i (by rw [ints_length]; exact hi)]; simp [ints, hi]
theorem IW.app (h : IW w B v l) (hB : B ≤ w.heap.size) (x : Int) (hl : l.length ≤ 1000000000) :
    ∃ v' w', (Builtin.append_ #[22, 22] 22 #[v, .slice (some ⟨w.heap.size, 0, none⟩) 1 1]).run Try.prog (w.alloc (.cells #[.int .i64 x] 3)) = .ok v' w' ∧ IW w' B v' (l ++ [x]) ∧ Below B w w' ∧ (∀ k, k < w.heap.size → some k ≠ v.ownBlock → w'.heap[k]? = w.heap[k]?) := by
  have hl1 := ints_length l
  obtain ⟨v', w', h1, h2, h3⟩ := RW.app h hB (P := Try.prog) (t := 22) Try.underlying22 int_info rfl (.int .i64 x) rfl (by rw [hl1]; omega) (by rw [hl1]; unfold maxLen; omega)
  refine ⟨v', w', h1, ?_, h3⟩
  unfold IW ints
  rw [List.map_append]; exact h2
theorem IW.make (w : World) (n : Nat) (hn : n ≤ 1000000000) :
    (Instr.makeSlice 22 (.int .i64 (n : Int)) (.int .i64 (n : Int))).run Try.prog w = .ok (.slice (some ⟨w.heap.size, 0, none⟩) n n) (w.alloc (.cells (madeCells #[.int .i64 0] n) 3)) ∧ IW (w.alloc (.cells (madeCells #[.int .i64 0] n) 3)) w.heap.size (.slice (some ⟨w.heap.size, 0, none⟩) n n) (List.replicate n 0) := by
  obtain ⟨h1, h2⟩ := RW.make (P := Try.prog) (t := 22) w Try.underlying22 int_info rfl n (by omega) (by omega)
  refine ⟨h1, ?_⟩
  unfold IW ints
  rw [List.map_replicate]; exact h2
theorem IW.lit (w : World) (l : List Int) (hl : l.length ≤ 1000000000) (n : Nat) (hn : l.length = n) (cs : Array Value) (hcs : cs.toList = ints l) : IW (w.alloc (.cells cs 3)) w.heap.size (.slice (some ⟨w.heap.size, 0, none⟩) n n) l := by
  subst hn
  have hs : cs.size = l.length := by rw [← Array.length_toList, hcs, ints_length]
  have := World.ownsRow_lit (base := w.heap.size) (e := 3) (size := 1) w cs l.length (Nat.le_refl _) (by unfold maxLen; omega) (by rw [hs, Nat.mul_one])
  rw [hcs] at this
  unfold IW RW
  rw [ints_length]; exact this
theorem IW.set {g cap : Nat} (h : IW w B (.slice (some ⟨g, 0, none⟩) l.length cap) l) (i : Nat) (u : Int) : IW (w.setCell ⟨g, i, none⟩ (.int .i64 u)) B (.slice (some ⟨g, 0, none⟩) l.length cap) (l.set i u) := by
  have hl1 := ints_length l
  unfold IW at h ⊢
  rw [show ints (l.set i u) = (ints l).set i (.int .i64 u) from List.map_set]
  rw [← hl1] at h ⊢
  exact RW.set h i _
end
end Go.Proofs.Ytlphhpngbnnjgaa
