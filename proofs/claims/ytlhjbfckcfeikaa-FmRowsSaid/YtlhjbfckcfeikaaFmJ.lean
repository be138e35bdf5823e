/- fm: slices.Sort at []int by the shelf's contract; Places. -/
import Derived.Test.YtlhjbfckcfeikaaFmI
import Derived.Test.YtlhjbfckcfeikaaClone
import Derived.Shelf.SortG.Plain
import Derived.Sort.OwnSortedInts
import Derived.Ground.SlgnProg
namespace Go.Proofs.Ytlhjbfckcfeikaa
set_option linter.unusedVariables false
set_option linter.unusedSimpArgs false
open Go.Shelf Go.RowKit Go.Lib Go.Sort

shelf_lay_g SlLaysN.n53 Slgn 53 at Try 33 as laysSort

/-- a list of integers, sorted -/
def sortZ (l : List Int) : List Int := l.mergeSort fun x y => decide (x ≤ y)
theorem sortZ_length (l : List Int) : (sortZ l).length = l.length := List.length_mergeSort l
theorem sort_own (v : Value) (l : List Int) (B : Nat) (w : World) (h : IW w B v l) (h0 : 0 < l.length) (hl : (l.length : Int) ≤ 1000000000) :
    Calls Try.prog 33 #[v] w fun e w' => e = .returned (.tuple #[]) ∧ IW w' B v (sortZ l) ∧ w.grownBy w' v.ownBlock := by
  obtain ⟨g, cap, cur, rfl, hB, hb, h1, h2, h3, h4⟩ : ∃ g cap cur, v = .slice (some ⟨g, 0, none⟩) l.length cap ∧ B ≤ g ∧ w.heap[g]? = some (.cells cur 3 (0, 0)) ∧ l.length ≤ cap ∧ cap ≤ maxLen ∧ cur.size = cap * 1 ∧ cur.toList.take l.length = l.map (Value.int .i64) := by
    rcases h.2 with ⟨e1, e2⟩ | ⟨g, cap, cur, e1, hB, hb, h1, h2, h3, h4⟩
    · rw [ints_length] at e2; omega
    · rw [ints_length] at *
      exact ⟨g, cap, cur, e1, hB, hb, h1, h2, h3, by rw [Nat.mul_one] at h4; exact h4⟩
  have q := AnyG.slices_Sort_int laysSort g 0 cap l w (holds_of_blockI hb h4) (Array.getElem?_eq_some_iff.1 hb).1 (by omega)
  change Calls Try.prog 33 _ _ _ at q
  refine q.mono ?_
  rintro e w' ⟨rfl, n, os, rfl⟩
  refine ⟨rfl, ?_, grownBy_sortedI _⟩
  have := ownsRow_sortedI (n := n) (os := os) (base := B) (ts := sortZ l) (sortZ_length l) hB hb h1 h2 h3
  unfold IW RW
  rw [ints_length, sortZ_length]
  exact this
end Go.Proofs.Ytlhjbfckcfeikaa
