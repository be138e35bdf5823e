/- ref's fall; same. -/
import Derived.Test.YtahnjfbcklifoaaFileD
namespace Go.Proofs.Ytahnjfbcklifoaa
set_option linter.unusedVariables false
set_option linter.unusedSimpArgs false
open Go.RowKit
attribute [local go_sem] S_size S_toList S_append S_extract S_beq S_bne S_empty S_nil

theorem rleft_any (a b : List UInt8) (cut : Int) (mark : List UInt8) (w : World) (ha : (a.length : Int) ≤ 1000000000) (hb : (b.length : Int) ≤ 1000000000) (hm : (mark.length : Int) ≤ 1000000000) :
    Calls Try.prog 57 #[.agg #[.string (S a), .string (S b)], .int .i64 cut, .string (S mark)] w fun e w' => e = .returned (.string (S (leftL a b cut mark))) ∧ Ext w w' := by
  by_cases hlt : (b.length : Int) < (a.length : Int)
  · have hp : ¬ (b.take a.length == a) = true := by rw [take_false (by omega)]; exact Bool.false_ne_true
    refine (rleft_other a b cut mark w (Or.inl hlt) ha hb (by omega)).mono fun e w' h => ⟨?_, h.2⟩
    rw [h.1]; unfold leftL; rw [if_neg hp]
  · by_cases hp : (b.take a.length == a) = true
    · obtain ⟨k, hk⟩ : ∃ k : Nat, k = (min (max cut 0) ((b.drop a.length).length : Int)).toNat := ⟨_, rfl⟩
      obtain ⟨m, hmm⟩ : ∃ m : Nat, m = min (min mark.length 64) k := ⟨_, rfl⟩
      have hl : ((b.drop a.length).length : Int) = (b.length : Int) - a.length := by rw [List.length_drop]; omega
      refine (rleft_pre a b cut mark w k m (by omega) hp ha hb hm (by omega) (by omega)).mono fun e w' h => ⟨?_, h.2⟩
      rw [h.1]; unfold leftL; rw [if_pos hp, ← hk]
      have hlk : ((b.drop a.length).take k).length = k := by rw [List.length_take]; omega
      unfold garbledL
      rw [hlk, ← hmm]
      rw [List.append_assoc]
    · refine (rleft_other a b cut mark w (Or.inr ⟨by omega, by simpa using hp⟩) ha hb (by omega)).mono fun e w' h => ⟨?_, h.2⟩
      rw [h.1]; unfold leftL; rw [if_neg hp]

set_option maxRecDepth 20000 in
set_option maxHeartbeats 1000000 in
theorem rfall_any (a b : List UInt8) (cut : Int) (mark : List UInt8) (w : World) (ha : (a.length : Int) ≤ 1000000000) (hb : (b.length : Int) ≤ 1000000000) (hm : (mark.length : Int) ≤ 1000000000) :
    Calls Try.prog 36 #[.agg #[.string (S a), .string (S b)], .int .i64 cut, .string (S mark)] w fun e w' => e = .returned (.agg #[.string (S (leftL a b cut mark)), .string (S (leftL a b cut mark))]) ∧ Ext w w' := by
  have HC := Lib.hid (fun w => rleft_any a b cut mark w ha hb hm)
  generalize leftL a b cut mark = r at HC
  go_enter Try.func36, Try.ntmps36
  go_wp2_with (go_at_call 57; refine (HC.out _).mono ?_; rintro e w' ⟨rfl, hx⟩; have hblk : Blk _ (w.heap.size + 1) _ _ := (Blk.new (w.alloc (.cells #[.string (S a), .string (S b)] 41)) 41 #[.string (S []), .string (S [])]).ext hx |> (by simpa using ·); have f0 : w'.frozen? ⟨w.heap.size + 1, 0, none⟩ = false := hblk.frozen 0; have f1 : w'.frozen? ⟨w.heap.size + 1, 1, none⟩ = false := hblk.frozen 1; have c0 : w'.cell? ⟨w.heap.size + 1, 0, none⟩ = some (.string (S [])) := hblk.cell 0; have c1 : w'.cell? ⟨w.heap.size + 1, 1, none⟩ = some (.string (S [])) := hblk.cell 1)
  exact bodyPost_ret (v := .agg #[.string (S r), .string (S r)]) (by simp [results, Try.results36, go_sem, c0, c1]) rfl ⟨rfl, Ext.set (Ext.set ((((Ext.refl _).alloc _).alloc _).trans hx) (Nat.le_succ _) _) (Nat.le_succ _) _⟩

set_option maxRecDepth 20000 in
set_option maxHeartbeats 1000000 in
theorem same_any (a b c d : List UInt8) (w : World) :
    Calls Try.prog 32 #[.agg #[.string (S a), .string (S b)], .agg #[.string (S c), .string (S d)]] w fun e w' => e = .returned (.bool ((a == c) && (b == d))) ∧ Ext w w' := by
  by_cases h1 : (a == c) = true
  · by_cases h2 : (b == d) = true
    all_goals
      first
      | (have h3 : (b == d) = false := by simpa using h2)
      | (have h3 := h2)
      go_enter Try.func32, Try.ntmps32
      go_wp2
      go_ret
      exact ⟨by simp [h1, h3], ((Ext.refl _).alloc _).alloc _⟩
  · have h3 : (a == c) = false := by simpa using h1
    clear h1
    go_enter Try.func32, Try.ntmps32
    go_wp2
    go_ret
    exact ⟨by simp [h3], ((Ext.refl _).alloc _).alloc _⟩
end Go.Proofs.Ytahnjfbcklifoaa
