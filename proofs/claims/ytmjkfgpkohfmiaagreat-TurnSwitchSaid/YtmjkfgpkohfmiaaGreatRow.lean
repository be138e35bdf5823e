/- Slices of integers that the call itself has made. -/
import Derived.Test.YtmjkfgpkohfmiaaGreatRowG
namespace Go.Proofs.YtmjkfgpkohfmiaaGreat
set_option linter.unusedVariables false
set_option linter.unusedSimpArgs false
open Go.RowKit

def ints (l : List Int) : List Value := l.map (Value.int .i64)
theorem ints_length (l : List Int) : (ints l).length = l.length := List.length_map _
/-- a slice of integers -/
def IW (w : World) (B : Nat) (v : Value) (l : List Int) : Prop := RW w B 3 v (ints l)
theorem int_info : (Tryz.prog.info? 3).map (fun i => (i.zero, i.size, i.bytes)) = some (some (.int .i64 0), 1, 8) := by kernel_rfl
section
variable {w w' : World} {B : Nat} {v : Value} {l : List Int}
theorem IW.nil (w : World) (B : Nat) : IW w B (.slice none 0 0) [] := RW.nil w B _
theorem IW.ext (h : IW w B v l) (hx : Ext w w') : IW w' B v l := RW.ext h hx
theorem IW.mono {B' : Nat} (h : IW w B v l) (hB : B' ≤ B) : IW w B' v l := RW.mono h hB
theorem IW.alloc (h : IW w B v l) (o : Obj) : IW (w.alloc o) B v l := RW.alloc h o
theorem IW.drew (h : IW w B v l) : IW w.drew B v l := RW.drew h
theorem IW.shape (h : IW w B v l) : ∃ a c, v = .slice a l.length c ∧ l.length ≤ c ∧ (0 < l.length → ∃ g, a = some ⟨g, 0, none⟩ ∧ B ≤ g ∧ g < w.heap.size ∧ (∀ i, i < l.length → w.cell? ⟨g, i, none⟩ = some (.int .i64 (l.getD i 0))) ∧ ∀ i, w.frozen? ⟨g, i, none⟩ = false) := by
  obtain ⟨a, c, h1, h2, h3⟩ := RW.shape h
  rw [ints_length] at h1 h2
  refine ⟨a, c, h1, h2, fun hn => ?_⟩
  obtain ⟨g, p1, p2, p3, p4, p5⟩ := h3 (by rw [ints_length]; exact hn)
  refine ⟨g, p1, p2, p3, fun i hi => ?_, p5⟩
  rw [p4 i (by rw [ints_length]; exact hi)]; simp [ints, hi]
theorem IW.app (h : IW w B v l) (hB : B ≤ w.heap.size) (x : Int) (hl : l.length ≤ 1000000000) :
    ∃ v' w', (Builtin.append_ #[23, 23] 23 #[v, .slice (some ⟨w.heap.size, 0, none⟩) 1 1]).run Tryz.prog (w.alloc (.cells #[.int .i64 x] 3)) = .ok v' w' ∧ IW w' B v' (l ++ [x]) ∧ Below B w w' ∧ (∀ k, k < w.heap.size → some k ≠ v.ownBlock → w'.heap[k]? = w.heap[k]?) := by
  have hl1 := ints_length l
  obtain ⟨v', w', h1, h2, h3⟩ := RW.app h hB (P := Tryz.prog) (t := 23) Tryz.underlying23 int_info rfl (.int .i64 x) rfl (by rw [hl1]; omega) (by rw [hl1]; unfold maxLen; omega)
  refine ⟨v', w', h1, ?_, h3⟩
  unfold IW ints
  rw [List.map_append]; exact h2
theorem IW.make (w : World) (n : Nat) (hn : n ≤ 1000000000) :
    (Instr.makeSlice 23 (.int .i64 (n : Int)) (.int .i64 (n : Int))).run Tryz.prog w = .ok (.slice (some ⟨w.heap.size, 0, none⟩) n n) (w.alloc (.cells (madeCells #[.int .i64 0] n) 3)) ∧ IW (w.alloc (.cells (madeCells #[.int .i64 0] n) 3)) w.heap.size (.slice (some ⟨w.heap.size, 0, none⟩) n n) (List.replicate n 0) := by
  obtain ⟨h1, h2⟩ := RW.make (P := Tryz.prog) (t := 23) w Tryz.underlying23 int_info rfl n (by omega) (by omega)
  refine ⟨h1, ?_⟩
  unfold IW ints
  rw [List.map_replicate]; exact h2
theorem IW.lit (w : World) (l : List Int) (hl : l.length ≤ 1000000000) (n : Nat) (hn : l.length = n) (cs : Array Value) (hcs : cs.toList = ints l) : IW (w.alloc (.cells cs 3)) w.heap.size (.slice (some ⟨w.heap.size, 0, none⟩) n n) l := by
  subst hn
  have hs : cs.size = l.length := by rw [← Array.length_toList, hcs, ints_length]
  have := World.ownsRow_lit (base := w.heap.size) (e := 3) (size := 1) w cs l.length (Nat.le_refl _) (by unfold maxLen; omega) (by rw [hs, Nat.mul_one])
  rw [hcs] at this
  unfold IW RW
  rw [ints_length]; exact this
theorem IW.set {g cap : Nat} (h : IW w B (.slice (some ⟨g, 0, none⟩) l.length cap) l) (i : Nat) (u : Int) : IW (w.setCell ⟨g, i, none⟩ (.int .i64 u)) B (.slice (some ⟨g, 0, none⟩) l.length cap) (l.set i u) := by
  have hl1 := ints_length l
  unfold IW at h ⊢
  rw [show ints (l.set i u) = (ints l).set i (.int .i64 u) from List.map_set]
  rw [← hl1] at h ⊢
  exact RW.set h i _
end
end Go.Proofs.YtmjkfgpkohfmiaaGreat
