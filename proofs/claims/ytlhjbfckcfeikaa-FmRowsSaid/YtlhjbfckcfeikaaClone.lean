/- slices.Clone at []int: the shelf's contract, laid at this program. -/
import Derived.Test.YtlhjbfckcfeikaaRead
import Derived.Shelf.Lay
import Derived.Shelf.Slices.Clone
import Derived.Ground.Names2Prog
namespace Go.Proofs.Ytlhjbfckcfeikaa
set_option linter.unusedVariables false
set_option linter.unusedSimpArgs false
open Go.Shelf Go.RowKit Go.Lib Go.Sort

shelf_lay Lays2.n15 Nm2 15 at Try as laysClone

theorem clone_any (v : Value) (l : List Int) (w : World) (h : RI w v l) (hl : (l.length : Int) ≤ 1000000000) :
    Calls Try.prog 32 #[v] w fun e w' => ∃ v', e = .returned v' ∧ Ext w w' ∧ IW w' w.heap.size v' l := by
  obtain ⟨a, c, rfl, hc, hn, hs⟩ := h.shape
  cases a with
  | none =>
    have h0 := hn rfl
    obtain rfl : l = [] := List.eq_nil_of_length_eq_zero (by omega)
    have q := Any.slices_Clone_int_nil laysClone 0 c w
    change Calls Try.prog 32 _ _ _ at q
    refine q.mono ?_
    rintro e w' ⟨rfl, rfl⟩
    exact ⟨_, rfl, Ext.refl _, IW.nil _ _⟩
  | some ad =>
    rcases Nat.eq_zero_or_pos l.length with h0 | h0
    · obtain rfl : l = [] := List.eq_nil_of_length_eq_zero h0
      have q := Any.slices_Clone_int_zero laysClone ad c w
      change Calls Try.prog 32 _ _ _ at q
      refine q.mono ?_
      rintro e w' ⟨v', rfl, h1, _, h2⟩
      exact ⟨v', rfl, h2, h1⟩
    · obtain ⟨g, o, ha, hcell⟩ := hs h0
      injection ha with ha
      subst ha
      have q := Any.slices_Clone_int laysClone g o l.length c l w (Nat.le_refl _) (by omega) hcell
      change Calls Try.prog 32 _ _ _ at q
      refine q.mono ?_
      rintro e w' ⟨v', rfl, h1, _, h2⟩
      refine ⟨v', rfl, h2, ?_⟩
      unfold IW RW
      rw [ints_length]
      rw [List.take_of_length_le (Nat.le_refl _)] at h1
      exact h1
end Go.Proofs.Ytlhjbfckcfeikaa
