/- FileTurns: the law. -/
import Derived.Test.YtahnjfbcklifoaaFileG
namespace Go.Proofs.Ytahnjfbcklifoaa
set_option linter.unusedVariables false
set_option linter.unusedSimpArgs false
open Go.RowKit

theorem fileTurns_law (a : ByteArray) (ha : a.size ≤ maxLen) (b : ByteArray) (hb : b.size ≤ maxLen) (s : ByteArray) (hs : s.size ≤ maxLen) (n : Int) (wn : (Lit.int .i64 n).wf = true) (w : World) :
    Calls Try.prog 8 #[.agg #[.string a, .string b], .string s, .int .i64 n] w fun e w' => e = .returned (.bool true) ∧ Below w.heap.size w w' := by
  obtain ⟨a, rfl, _⟩ := S_ex a
  obtain ⟨b, rfl, _⟩ := S_ex b
  obtain ⟨s, rfl, _⟩ := S_ex s
  by_cases h1 : (5000 : Int) < (a.length : Int)
  · exact fileTurns_out a b s n w (.inl h1)
  by_cases h2 : (5000 : Int) < (b.length : Int)
  · exact fileTurns_out a b s n w (.inr (.inl ⟨h1, h2⟩))
  by_cases h3 : (5000 : Int) < (s.length : Int)
  · exact fileTurns_out a b s n w (.inr (.inr ⟨h1, h2, h3⟩))
  exact fileTurns_in a b s n w h1 h2 h3
end Go.Proofs.Ytahnjfbcklifoaa
