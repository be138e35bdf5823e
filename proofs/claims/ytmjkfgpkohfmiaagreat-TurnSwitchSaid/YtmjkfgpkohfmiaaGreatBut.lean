/- Nothing has turned but some blocks. -/
import Derived.Test.YtmjkfgpkohfmiaaGreatWide
namespace Go.Proofs.YtmjkfgpkohfmiaaGreat
set_option linter.unusedVariables false
set_option linter.unusedSimpArgs false
open Go.RowKit

/-- nothing has turned but the blocks of K -/
structure But (K : List Nat) (w w' : World) : Prop where
  os : w'.os = w.os
  tape : w'.tape = w.tape
  output : w'.output = w.output
  size : w.heap.size ≤ w'.heap.size
  block : ∀ k, k < w.heap.size → k ∉ K → w'.heap[k]? = w.heap[k]?
theorem But.refl (K : List Nat) (w : World) : But K w w := ⟨rfl, rfl, rfl, Nat.le_refl _, fun _ _ _ => rfl⟩
theorem But.trans {K : List Nat} {a b c : World} (h : But K a b) (k : But K b c) : But K a c :=
  ⟨k.os.trans h.os, k.tape.trans h.tape, k.output.trans h.output, Nat.le_trans h.size k.size, fun i h1 h2 => (k.block i (Nat.lt_of_lt_of_le h1 h.size) h2).trans (h.block i h1 h2)⟩
theorem But.of_ext {K : List Nat} {a b : World} (h : Ext a b) : But K a b := ⟨h.os, h.tape, h.output, h.size, fun k hk _ => h.block k hk⟩
theorem But.alloc {K : List Nat} {a b : World} (h : But K a b) (o : Obj) : But K a (b.alloc o) := h.trans (But.of_ext ((Ext.refl b).alloc o))
theorem But.drew {K : List Nat} {a b : World} (h : But K a b) : But K a b.drew := h.trans (But.of_ext (Ext.refl b).drew)
theorem But.set {K : List Nat} {a b : World} (h : But K a b) {p : Addr} (hp : p.block ∈ K) (u : Value) : But K a (b.setCell p u) :=
  h.trans ⟨rfl, rfl, rfl, by simp [World.setCell], fun k _ hk => Below.heap_setCell b p u k (fun e => hk (e ▸ hp))⟩
/-- a block that was not there -/
theorem But.set_new {K : List Nat} {a b : World} (h : But K a b) {p : Addr} (hp : a.heap.size ≤ p.block) (u : Value) : But K a (b.setCell p u) :=
  ⟨h.os, h.tape, h.output, by simpa [World.setCell] using h.size, fun k hk hn => (Below.heap_setCell b p u k (fun e => by omega)).trans (h.block k hk hn)⟩
theorem But.below {K : List Nat} {a b c : World} {B : Nat} (h : But K a b) (k : Below B b c) (hB : a.heap.size ≤ B) : But K a c :=
  ⟨k.os.trans h.os, k.tape.trans h.tape, k.output.trans h.output, Nat.le_trans h.size k.size, fun i h1 h2 => (k.block i (by omega)).trans (h.block i h1 h2)⟩
theorem Blk.but {K : List Nat} {w w' : World} {g : Nat} {t : TypeId} {cs : Array Value} (h : Blk w g t cs) (x : But K w w') (hg : g ∉ K) : Blk w' g t cs := (x.block g h.lt hg).trans h
theorem Ext.but {K : List Nat} {W w w' : World} (h : Ext W w) (x : But K w w') (hK : ∀ k ∈ K, W.heap.size ≤ k) : Ext W w' :=
  ⟨x.os.trans h.os, x.tape.trans h.tape, x.output.trans h.output, Nat.le_trans h.size x.size, fun k hk => (x.block k (Nat.lt_of_lt_of_le hk h.size) (fun hm => by have := hK k hm; omega)).trans (h.block k hk)⟩
theorem WR.but {α : Type} {f : α → List Value} {s : Nat} {K : List Nat} {w w' : World} {B : Nat} {e : TypeId} {v : Value} {l : List α} (h : WR f s w B e v l) (x : But K w w') (hK : ∀ k ∈ K, k < B) : WR f s w' B e v l := by
  refine ⟨h.1, ?_⟩
  rcases h.2 with hn | ⟨g, cap, cur, rfl, hb, hgg, rest⟩
  · exact .inl hn
  · have hlt : g < w.heap.size := by
      rcases Nat.lt_or_ge g w.heap.size with h1 | h1
      · exact h1
      · rw [Array.getElem?_eq_none h1] at hgg; cases hgg
    exact .inr ⟨g, cap, cur, rfl, hb, (x.block g hlt (fun hm => by have := hK g hm; omega)).trans hgg, rest⟩
theorem WR.farSet {α : Type} {f : α → List Value} {s : Nat} {w : World} {B : Nat} {e : TypeId} {v : Value} {l : List α} (h : WR f s w B e v l) {p : Addr} (hp : p.block < B) (u : Value) : WR f s (w.setCell p u) B e v l :=
  h.but ((But.refl [p.block] w).set (List.mem_singleton.2 rfl) u) (fun k hk => by rw [List.mem_singleton.1 hk]; exact hp)
end Go.Proofs.YtmjkfgpkohfmiaaGreat
