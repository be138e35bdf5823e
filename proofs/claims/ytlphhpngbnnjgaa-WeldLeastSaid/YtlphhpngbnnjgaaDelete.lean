/- slices.Delete at []int: the shelf's contract, laid at this program, of a slice of the call's own. -/
import Derived.Test.YtlphhpngbnnjgaaRead
import Derived.Shelf.Lay
import Derived.Shelf.Slices.Delete
import Derived.Ground.Names2Prog
namespace Go.Proofs.Ytlphhpngbnnjgaa
set_option linter.unusedVariables false
set_option linter.unusedSimpArgs false
open Go.Shelf Go.RowKit Go.Lib Go.Sort

shelf_lay Lays2.n23 Nm2 23 at Try as laysDelete

theorem putCells_size {α : Type} [Inhabited α] (enc : α → Value) (o : Nat) (d : Array α) (c : Array Value) : (putCells enc o d c).size = c.size := by simp [putCells]
theorem mapBlock_at (w : World) (g : Nat) (f : Array Value → Array Value) {c : Array Value} {e : TypeId} {fr : Nat × Nat} (h : w.heap[g]? = some (.cells c e fr)) : (mapBlock w g f).heap[g]? = some (.cells (f c) e fr) := by
  simp [mapBlock, Array.getElem?_modify, h, onCells]
theorem mapBlock_far (w : World) (g k : Nat) (f : Array Value → Array Value) (h : k ≠ g) : (mapBlock w g f).heap[k]? = w.heap[k]? := by
  simp [mapBlock, Array.getElem?_modify, Ne.symm h]

theorem delete_any (l : List Int) (i : Nat) (v : Value) (B : Nat) (w : World) (h : IW w B v l) (hB : B ≤ w.heap.size) (hi : i < l.length) :
    Calls Try.prog 28 #[v, .int .i64 (i : Int), .int .i64 ((i + 1 : Nat) : Int)] w fun e w' => ∃ v', e = .returned v' ∧ Below B w w' ∧ IW w' B v' (l.take i ++ l.drop (i + 1)) := by
  have hil := ints_length l
  rcases h.2 with ⟨rfl, h0⟩ | ⟨g, cap, cur, rfl, hg, hc, h1, h2, h3, h4⟩
  · omega
  · have h' := h
    unfold IW RW at h'
    have hcell := fun j (hj : j < l.length) => World.ownsRow.cellAt h' j (by omega)
    have hfrz := World.ownsRow.frozenAt h'
    have hH : Holds (Value.int .i64) w g 0 l.toArray := fun j hj => by
      have hj : j < l.length := by simpa using hj
      rw [Nat.zero_add, hcell j hj]
      refine ⟨?_, hfrz j⟩
      simp [ints, hj]
    have q := Any.slices_Delete_int laysDelete g 0 cap i (i + 1) l w hH (by omega) (by unfold maxLen at h2; omega) (by omega) (by omega)
    change Calls Try.prog 28 _ _ _ at q
    rw [hil]
    refine q.mono ?_
    rintro e w' ⟨rfl, q, rfl⟩
    refine ⟨_, rfl, ⟨rfl, rfl, rfl, by simp [putRow, mapBlock, Sort.ahead], fun k hk => ?_⟩, ?_⟩
    · have hne : k ≠ g := by omega
      exact mapBlock_far _ g k _ hne
    · have hlen : (l.take i ++ l.drop (i + 1)).length = l.length - (i + 1 - i) := by rw [List.length_append, List.length_take, List.length_drop]; omega
      unfold IW RW
      rw [ints_length, hlen]
      refine ⟨by rw [ints_length, hlen, Nat.mul_one], .inr ⟨g, cap, _, rfl, hg, mapBlock_at _ g _ (show (Sort.ahead w q).heap[g]? = _ from hc), by omega, h2, by rw [putCells_size]; exact h3, ?_⟩⟩
      apply List.ext_getElem?
      intro k
      rw [Nat.mul_one, List.getElem?_take]
      split
      · rename_i hk
        have hkc : k < cur.size := by omega
        rw [Array.getElem?_toList]
        simp only [putCells, Array.getElem?_mapIdx]
        rw [Array.getElem?_eq_getElem hkc, Option.map_some]
        have hs : (l.take i ++ l.drop (i + 1) ++ List.replicate (i + 1 - i) (0 : Int)).toArray.size = l.length := by
          simp; omega
        rw [if_pos ⟨Nat.zero_le _, by rw [hs]; omega⟩]
        unfold ints
        rw [List.getElem?_map, List.getElem?_eq_getElem (by rw [hlen]; omega), Option.map_some]
        congr 2
        rw [getElem!_pos _ _ (by rw [hs]; omega)]
        simp only [Nat.sub_zero, List.getElem_toArray]
        rw [List.getElem_append_left (by rw [hlen]; omega)]
      · rename_i hk
        rw [List.getElem?_eq_none (by rw [ints_length, hlen]; omega)]
end Go.Proofs.Ytlphhpngbnnjgaa
