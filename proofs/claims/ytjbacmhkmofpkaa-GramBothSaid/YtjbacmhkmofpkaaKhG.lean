/- kmp: each, with All's function; All, Has. -/
import Derived.Test.YtjbacmhkmofpkaaKhF
namespace Go.Proofs.Ytjbacmhkmofpkaa
set_option linter.unusedVariables false
set_option linter.unusedSimpArgs false
open Go.RowKit

attribute [local go_sem] S_size S_toList S_append S_extract S_beq S_bne S_empty S_nil u8_beq

/-- what All's variable holds: a slice of the call's own -/
def Gathered (w w1 wr : World) (B g : Nat) (l : List Int) : Prop :=
  ∃ v, Blk wr g 71 #[v] ∧ IW wr B v l ∧ (∀ j, j < B → j ≠ g → wr.heap[j]? = w1.heap[j]?) ∧ (∀ B', B' ≤ g → Below B' w wr) ∧ B ≤ wr.heap.size
theorem Gathered.cell {w w1 wr : World} {B g : Nat} {l : List Int} (h : Gathered w w1 wr B g l) {a : Addr} (ha : a.block < B) (hne : a.block ≠ g) : wr.cell? a = w1.cell? a := by
  obtain ⟨v, h1, h2, h3, h4, h5⟩ := h
  exact World.cell?_of_block (h3 _ ha hne)

theorem khas_any (s what : List UInt8) (w : World) (hs : (s.length : Int) ≤ 100000000) (hw : (what.length : Int) ≤ 100000000) :
    Calls Try.prog 27 #[.string (S s), .string (S what)] w fun e w' => e = .returned (.bool (findL s what 0).isSome) ∧ Ext w w' := by
  have q := kfind_any s what 0 w hs hw (by omega)
  rw [show (max (0 : Int) 0).toNat = 0 from rfl] at q
  cases hf : findL s what 0 with
  | none =>
    rw [hf] at q
    have q := Lib.hid q
    go_enter Try.func27, Try.ntmps27
    go_wp2_with fail
    refine q.out.mono ?_
    rintro e w' ⟨rfl, hx⟩
    simp only [placeV]
    go_wp2
    go_ret
    exact ⟨rfl, hx⟩
  | some p =>
    rw [hf] at q
    have q := Lib.hid q
    go_enter Try.func27, Try.ntmps27
    go_wp2_with fail
    refine q.out.mono ?_
    rintro e w' ⟨rfl, hx⟩
    simp only [placeV]
    go_wp2
    go_ret
    exact ⟨rfl, hx⟩
end Go.Proofs.Ytjbacmhkmofpkaa
