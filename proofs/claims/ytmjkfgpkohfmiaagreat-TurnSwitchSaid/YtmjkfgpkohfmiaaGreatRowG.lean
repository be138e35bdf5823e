/- Slices that the call itself has made, of elements of one cell. -/
import Derived.Test.YtmjkfgpkohfmiaaGreatStr
import Derived.Laws.OwnMore
import Derived.Lib.SmallJoins
import Derived.Deep.OwnRows
namespace Go.Proofs.YtmjkfgpkohfmiaaGreat
set_option linter.unusedVariables false
set_option linter.unusedSimpArgs false
open Go.RowKit

/-- the slice v is made by the call (no block of it is older than B), and holds these values -/
def RW (w : World) (B : Nat) (e : TypeId) (v : Value) (xs : List Value) : Prop := w.ownsRow B e 1 v xs.length xs

theorem Ext.grownBy {w w' : World} (h : Ext w w') (row : Option Nat) : w.grownBy w' row := ⟨h.os, h.tape, h.output, h.size, fun k hk _ => h.block k hk⟩
section
variable {w w' : World} {B : Nat} {e : TypeId} {v : Value} {xs : List Value}
theorem RW.nil (w : World) (B : Nat) (e : TypeId) : RW w B e (.slice none 0 0) [] := World.ownsRow_nil w B e 1
theorem RW.ext (h : RW w B e v xs) (hx : Ext w w') : RW w' B e v xs := World.ownsRow.kept h (hx.grownBy none) (by cases hv : v.ownBlock <;> simp)
theorem RW.mono {B' : Nat} (h : RW w B e v xs) (hB : B' ≤ B) : RW w B' e v xs := Go.Joins.ownsRow_le h hB
theorem RW.alloc (h : RW w B e v xs) (o : Obj) : RW (w.alloc o) B e v xs := h.ext ((Ext.refl w).alloc o)
theorem RW.drew (h : RW w B e v xs) : RW w.drew B e v xs := h.ext (Ext.refl w).drew
/-- what the slice is: its address, if it has elements, its cells -/
theorem RW.shape (h : RW w B e v xs) : ∃ a c, v = .slice a xs.length c ∧ xs.length ≤ c ∧ (0 < xs.length → ∃ g, a = some ⟨g, 0, none⟩ ∧ B ≤ g ∧ g < w.heap.size ∧ (∀ i, i < xs.length → w.cell? ⟨g, i, none⟩ = xs[i]?) ∧ ∀ i, w.frozen? ⟨g, i, none⟩ = false) := by
  rcases h.2 with ⟨rfl, h0⟩ | ⟨g, cap, cur, rfl, hg, hc, h1, _⟩
  · exact ⟨none, 0, by rw [h0], by omega, fun h => by omega⟩
  · exact ⟨_, cap, rfl, h1, fun _ => ⟨g, rfl, hg, (Array.getElem?_eq_some_iff.1 hc).1, fun i hi => World.ownsRow.cellAt h i (by omega), fun i => World.ownsRow.frozenAt h i⟩⟩
theorem RW.len (h : RW w B e v xs) : xs.length ≤ maxLen := by
  rcases h.2 with ⟨rfl, h0⟩ | ⟨g, cap, cur, rfl, hg, hc, h1, h2, _⟩
  · omega
  · omega
/-- an element is appended -/
theorem RW.app (h : RW w B e v xs) (hB : B ≤ w.heap.size) {P : Program} {t : TypeId} {z : Value} {bytes : Nat} (ht : P.underlying t = some (.slice e)) (hi : (P.info? e).map (fun i => (i.zero, i.size, i.bytes)) = some (some z, 1, bytes)) (hz : z.cells = #[z])
    (x : Value) (hx : x.oneCell' = true) (hl : (xs.length + 1) * bytes ≤ 140737488355328) (hl2 : xs.length + 1 ≤ maxLen) :
    ∃ v' w', (Builtin.append_ #[t, t] t #[v, .slice (some ⟨w.heap.size, 0, none⟩) 1 1]).run P (w.alloc (.cells #[x] e)) = .ok v' w' ∧ RW w' B e v' (xs ++ [x]) ∧ Below B w w' ∧ (∀ k, k < w.heap.size → some k ≠ v.ownBlock → w'.heap[k]? = w.heap[k]?) := by
  obtain ⟨i, hi1, hzz⟩ := Option.map_eq_some_iff.1 hi
  simp only [Prod.mk.injEq] at hzz
  obtain ⟨z1, z2, z3⟩ := hzz
  obtain ⟨v', w', h1, h2, h3, _⟩ := run_append_own (P := P) (w.alloc (.cells #[x] e)) B t t e i z 1 bytes ht hi1 z1 z2 z3 (by rw [hz]; rfl) (by decide) v xs.length xs (h.alloc _) ⟨w.heap.size, 0, none⟩ 1 1 [x] rfl
    (fun j u hj => by
      match j, hj with
      | 0, hj => simp at hj; subst hj; rw [show (⟨w.heap.size, 0, none⟩ : Addr).add 0 = ⟨w.heap.size, 0, none⟩ from rfl, World.cell?_alloc_new]; rfl)
    (fun u hu => by simp at hu; subst hu; exact hx) hl2 hl (by rw [World.size_alloc]; omega)
  have hk : ∀ k, k < w.heap.size → some k ≠ v.ownBlock → w'.heap[k]? = w.heap[k]? := fun k hk hne => by
    rw [h3.block k (by rw [World.size_alloc]; omega) hne]; exact Below.heap_alloc w _ k hk
  refine ⟨v', w', h1, by rw [RW, List.length_append]; exact h2, ⟨h3.os, h3.tape, h3.output, ?_, fun k hkB => hk k (by omega) ?_⟩, hk⟩
  · have := h3.size; rw [World.size_alloc] at this; omega
  · intro e'
    have := World.ownsRow.lt h k e'.symm
    omega
/-- an element is stored -/
theorem RW.set {g cap : Nat} (h : RW w B e (.slice (some ⟨g, 0, none⟩) xs.length cap) xs) (i : Nat) (u : Value) : RW (w.setCell ⟨g, i, none⟩ u) B e (.slice (some ⟨g, 0, none⟩) xs.length cap) (xs.set i u) := by
  have := (World.ownsRow.stored h i u).1
  rw [RW, List.length_set]; exact this
/-- a new slice, of zero values -/
theorem RW.make {P : Program} {t : TypeId} {z : Value} {bytes : Nat} (w : World) (ht : P.underlying t = some (.slice e)) (hi : (P.info? e).map (fun i => (i.zero, i.size, i.bytes)) = some (some z, 1, bytes)) (hz : z.cells = #[z]) (n : Nat) (hn : bytes * n ≤ 281474976710656) (hn2 : n ≤ 9223372036854775807) :
    (Instr.makeSlice t (.int .i64 (n : Int)) (.int .i64 (n : Int))).run P w = .ok (.slice (some ⟨w.heap.size, 0, none⟩) n n) (w.alloc (.cells (madeCells #[z] n) e)) ∧ RW (w.alloc (.cells (madeCells #[z] n) e)) w.heap.size e (.slice (some ⟨w.heap.size, 0, none⟩) n n) (List.replicate n z) := by
  refine ⟨run_make_row' t e z bytes ht hi hz .i64 .i64 n hn hn2 w, ?_⟩
  have := World.ownsRow_lit (base := w.heap.size) (e := e) (size := 1) w (madeCells #[z] n) n (Nat.le_refl _) (by unfold maxLen; omega) (by simp [madeCells])
  rw [toList_madeCells_one] at this
  rw [RW, List.length_replicate]; exact this
end

/-- an append whose outcome is known -/
theorem wpList_app {P : Program} {ops : Array Oper} {rest : List Oper} {o : Oper} {a : Act} {Q : Exit → Act → World → Prop} {w w' : World} {v v' u : Value} (hgd : o.guard = none) (s y : Operand) (t : TypeId)
    (ho : o.op = .call { callee := .builtin .append, args := #[s, y], argTypes := #[t, t] }) (hty : o.type = t) (hs : a.eval s = v) (hy : a.eval y = u)
    (hrun : (Builtin.append_ #[t, t] t #[v, u]).run P w = .ok v' w') (h : wpList P ops Q rest (a.put o.dst v') w') : wpList P ops Q (o :: rest) a w :=
  wpList_plain hgd fun _ hK => by
    unfold Oper.wp execOp
    simp only [ho, hty, resolve, invoke, builtin, Sem.run_bind, Sem.run_pure, Result.andThen_ok, List.map_toArray, List.map_cons, List.map_nil, hs, hy, hrun]
    exact hK _ _ h
end Go.Proofs.YtmjkfgpkohfmiaaGreat
