/- Slices that the call itself has made, of elements of several cells; loads of such elements. -/
import Derived.Test.YtmjkfgpkohfmiaaGreatRowG
import Derived.Test.YtmjkfgpkohfmiaaGreatQuiet
import Derived.Deep.MidRow
namespace Go.Proofs.YtmjkfgpkohfmiaaGreat
set_option linter.unusedVariables false
set_option linter.unusedSimpArgs false
open Go.RowKit

theorem rangeAt_ext {w w' : World} {g o : Nat} {cs : List Value} (h : w.rangeAt g o cs) (hx : Ext w w') : w'.rangeAt g o cs := fun j v hv => by
  rw [hx.cell (World.block_lt_of_cell? w ⟨g, o + j, none⟩ (h j v hv))]; exact h j v hv
theorem rangeAt_drew {w : World} {g o : Nat} {cs : List Value} (h : w.rangeAt g o cs) : w.drew.rangeAt g o cs := h
section
variable {P : Program} {ops : Array Oper}
theorem wpQuiet_load_range {Q : Act → Prop} {a : Act} {o : Oper} {rest : List Oper} {W : World} (hw : Region.wanted o (yielded ops a.tmps) = true) (ty : TypeId) (x : Operand) (ho : o.op = .load ty x)
    {g k : Nat} (hx : a.eval x = .pointer (some ⟨g, k, none⟩)) {cs : List Value} {d : TypeDesc} (hg : W.rangeAt g k cs)
    (hu : P.underlying ty = some d) (hd : d.isRow = true) (hi : (P.info? ty).map (·.size) = some cs.length)
    (h : wpQuiet P ops (fun w' => ∃ x : Up W, w' = x.val) Q rest (a.put o.dst (.agg cs.toArray))) : wpQuiet P ops (fun w' => ∃ x : Up W, w' = x.val) Q (o :: rest) a := by
  unfold wpQuiet
  rw [if_pos hw]
  refine ⟨.agg cs.toArray, ?_, h⟩
  rintro w' ⟨y, rfl⟩
  unfold Oper.quietAt
  simp only [execOp, ho, hx, Instr.loadAt, Instr.sureAddr, Sem.run_bind, Sem.run_pure, Result.andThen_ok, run_loadVar_mid y.val g k ty cs d (rangeAt_ext hg y.ext) hu hd hi]
  exact ⟨rfl, rfl⟩
end

section
variable {α : Type} {f : α → List Value} {s : Nat} (hf : ∀ x, (f x).length = s)
include hf
theorem flat_length (l : List α) : (l.flatMap f).length = l.length * s := by
  induction l with
  | nil => simp
  | cons a l ih => rw [List.flatMap_cons, List.length_append, hf, ih, List.length_cons, Nat.add_mul]; omega
theorem flat_get (l : List α) (k j : Nat) (hj : j < s) (x : α) (hk : l[k]? = some x) : (l.flatMap f)[k * s + j]? = (f x)[j]? := by
  induction l generalizing k with
  | nil => simp at hk
  | cons a l ih =>
    rw [List.flatMap_cons]
    cases k with
    | zero =>
      simp at hk; subst hk
      rw [Nat.zero_mul, Nat.zero_add, List.getElem?_append_left (by rw [hf]; exact hj)]
    | succ k =>
      rw [List.getElem?_cons_succ] at hk
      rw [List.getElem?_append_right (by rw [hf, Nat.add_mul]; omega), hf, show (k + 1) * s + j - s = k * s + j by rw [Nat.add_mul]; omega]
      exact ih k hk
end

/-- the slice v is made by the call (no block of it is older than B), and holds these elements, each of s cells -/
def WR {α : Type} (f : α → List Value) (s : Nat) (w : World) (B : Nat) (e : TypeId) (v : Value) (l : List α) : Prop := w.ownsRow B e s v l.length (l.flatMap f)
section
variable {α : Type} {f : α → List Value} {s : Nat} {w w' : World} {B : Nat} {e : TypeId} {v : Value} {l : List α}
theorem WR.nil (w : World) (B : Nat) (e : TypeId) : WR f s w B e (.slice none 0 0) [] := World.ownsRow_nil w B e s
theorem WR.ext (h : WR f s w B e v l) (hx : Ext w w') : WR f s w' B e v l := World.ownsRow.kept h (hx.grownBy none) (by cases hv : v.ownBlock <;> simp)
theorem WR.mono {B' : Nat} (h : WR f s w B e v l) (hB : B' ≤ B) : WR f s w B' e v l := Go.Joins.ownsRow_le h hB
theorem WR.alloc (h : WR f s w B e v l) (o : Obj) : WR f s (w.alloc o) B e v l := h.ext ((Ext.refl w).alloc o)
theorem WR.drew (h : WR f s w B e v l) : WR f s w.drew B e v l := h.ext (Ext.refl w).drew
/-- what the slice is: its address, if it has elements, their cells -/
theorem WR.shape (hf : ∀ x, (f x).length = s) (h : WR f s w B e v l) : ∃ a c, v = .slice a l.length c ∧ l.length ≤ c ∧ (0 < l.length → ∃ g, a = some ⟨g, 0, none⟩ ∧ B ≤ g ∧ g < w.heap.size ∧ (∀ (k : Nat) (x : α), l[k]? = some x → w.rangeAt g (k * s) (f x)) ∧ ∀ i, w.frozen? ⟨g, i, none⟩ = false) := by
  rcases h.2 with ⟨rfl, h0⟩ | ⟨g, cap, cur, rfl, hg, hc, h1, _⟩
  · exact ⟨none, 0, by rw [h0], by omega, fun h => by omega⟩
  · refine ⟨_, cap, rfl, h1, fun _ => ⟨g, rfl, hg, (Array.getElem?_eq_some_iff.1 hc).1, fun k x hk j u hu => ?_, fun i => World.ownsRow.frozenAt h i⟩⟩
    have hj : j < s := by
      rw [← hf x]
      rcases Nat.lt_or_ge j (f x).length with h | h
      · exact h
      · rw [List.getElem?_eq_none h] at hu; cases hu
    have hkl : k < l.length := by
      rcases Nat.lt_or_ge k l.length with h | h
      · exact h
      · rw [List.getElem?_eq_none h] at hk; cases hk
    have hb : k * s + j < l.length * s := by
      have : (k + 1) * s ≤ l.length * s := Nat.mul_le_mul_right s hkl
      rw [Nat.add_mul] at this; omega
    rw [World.ownsRow.cellAt h (k * s + j) hb, flat_get hf l k j hj x hk]; exact hu
/-- an element is appended -/
theorem WR.app (hf : ∀ x, (f x).length = s) (hs : 0 < s) (h1 : ∀ x, ∀ u ∈ f x, u.oneCell' = true) (h : WR f s w B e v l) (hB : B ≤ w.heap.size) {P : Program} {t : TypeId} {z : Value} {bytes : Nat} (ht : P.underlying t = some (.slice e)) (hi : (P.info? e).map (fun i => (i.zero, i.size, i.bytes)) = some (some z, s, bytes)) (hz : z.cells.size = s)
    (x : α) (hl : (l.length + 1) * bytes ≤ 140737488355328) (hl2 : l.length + 1 ≤ maxLen) :
    ∃ v' w', (Builtin.append_ #[t, t] t #[v, .slice (some ⟨w.heap.size, 0, none⟩) 1 1]).run P (w.alloc (.cells (f x).toArray e)) = .ok v' w' ∧ WR f s w' B e v' (l ++ [x]) ∧ Below B w w' ∧ (∀ k, k < w.heap.size → some k ≠ v.ownBlock → w'.heap[k]? = w.heap[k]?) := by
  obtain ⟨i, hi1, hzz⟩ := Option.map_eq_some_iff.1 hi
  simp only [Prod.mk.injEq] at hzz
  obtain ⟨z1, z2, z3⟩ := hzz
  obtain ⟨v', w', h1, h2, h3, _⟩ := run_append_own (P := P) (w.alloc (.cells (f x).toArray e)) B t t e i z s bytes ht hi1 z1 z2 z3 hz hs v l.length (l.flatMap f) (WR.alloc h _) ⟨w.heap.size, 0, none⟩ 1 1 (f x) (by rw [hf, Nat.one_mul])
    (fun j u hj => by
      rw [Addr.add_mid, Nat.zero_add]
      rw [(Blk.new w e (f x).toArray).cell j]; simpa using hj)
    (h1 x) hl2 hl (by rw [World.size_alloc]; omega)
  have hk : ∀ k, k < w.heap.size → some k ≠ v.ownBlock → w'.heap[k]? = w.heap[k]? := fun k hk hne => by
    rw [h3.block k (by rw [World.size_alloc]; omega) hne]; exact Below.heap_alloc w _ k hk
  refine ⟨v', w', h1, by rw [WR, List.length_append, List.flatMap_append, List.flatMap_singleton]; exact h2, ⟨h3.os, h3.tape, h3.output, ?_, fun k hkB => hk k (by omega) ?_⟩, hk⟩
  · have := h3.size; rw [World.size_alloc] at this; omega
  · intro e'
    have := World.ownsRow.lt h k e'.symm
    omega
/-- a literal -/
theorem WR.lit (hf : ∀ x, (f x).length = s) (w : World) (e : TypeId) (l : List α) (hl : l.length ≤ 1000000000) (cs : Array Value) (hcs : cs.toList = l.flatMap f) : WR f s (w.alloc (.cells cs e)) w.heap.size e (.slice (some ⟨w.heap.size, 0, none⟩) l.length l.length) l := by
  have hsz : cs.size = l.length * s := by rw [← Array.length_toList, hcs, flat_length hf]
  have := World.ownsRow_lit (base := w.heap.size) (e := e) (size := s) w cs l.length (Nat.le_refl _) (by unfold maxLen; omega) hsz
  rw [hcs] at this
  exact this
end
end Go.Proofs.YtmjkfgpkohfmiaaGreat
