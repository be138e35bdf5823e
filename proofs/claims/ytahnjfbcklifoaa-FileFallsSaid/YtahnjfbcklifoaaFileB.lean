/- file: what is left. -/
import Derived.Test.YtahnjfbcklifoaaFileA
import Derived.RegionTactic
import Derived.Test.YtahnjfbcklifoaaBuf
namespace Go.Proofs.Ytahnjfbcklifoaa
set_option linter.unusedVariables false
set_option linter.unusedSimpArgs false
open Go.RowKit
attribute [local go_sem] S_size S_toList S_append S_extract S_beq S_bne S_empty S_nil

def garbledL (s mark : List UInt8) : List UInt8 :=
  s.take (s.length - min (min mark.length 64) s.length) ++ mark.drop (mark.length - min (min mark.length 64) s.length)

theorem min3_run (a b c : Int) (n : Nat) (h : (n : Int) = min (min a b) c) (w : World) :
    (Builtin.min_ #[3, 3, 3] 3 #[.int .i64 a, .int .i64 b, .int .i64 c]).run Try.prog w = .ok (.int .i64 (n : Int)) w := by
  rw [run_min_int3, h]
  congr 2
  split <;> split <;> omega

set_option maxRecDepth 20000 in
set_option maxHeartbeats 400000 in
theorem garbled_any (s mark : List UInt8) (w : World) (hs : (s.length : Int) ≤ 1000000000) (hm : (mark.length : Int) ≤ 9223372036854775807) :
    Calls Try.prog 64 #[.string (S s), .string (S mark)] w fun e w' => e = .returned (.string (S (garbledL s mark))) ∧ Ext w w' := by
  obtain ⟨n, hn⟩ : ∃ n : Nat, n = min (min mark.length 64) s.length := ⟨_, rfl⟩
  have hmin := min3_run mark.length 64 s.length n (by omega)
  have G := Lib.hid (show garbledL s mark = s.take (s.length - n) ++ mark.drop (mark.length - n) by rw [hn]; rfl)
  have hn0 : n = 0 → (0 : Int) = min (min (mark.length : Int) 64) (s.length : Int) := by omega
  have h1 : n ≤ s.length := by omega
  have h2 : n ≤ mark.length := by omega
  clear hn
  obtain ⟨cap, w1, hcap, hrun, hx, hB, hz⟩ := bytes_of_str w s
  have e2 : IntKind.i64.wrap ((s.length : Int) - (n : Int)) = ((s.length - n : Nat) : Int) := by rw [IntWalk.i64_in _ (by omega)]; omega
  have e3 : IntKind.i64.wrap ((mark.length : Int) - (n : Int)) = ((mark.length - n : Nat) : Int) := by rw [IntWalk.i64_in _ (by omega)]; omega
  have hcopy := fun a c (ha : 0 < n → a = some ⟨w.heap.size, s.length - n, none⟩) => copy_str w1.drew w.heap.size (s.length - n) n c s (mark.drop (mark.length - n)) hB.drew (by simp; omega) (by omega) a ha
  have hB2 := Row8.setCells (mark.drop (mark.length - n)) (s.length - n) _ _ hB.drew (by simp; omega)
  have hf : s.take (s.length - n) ++ mark.drop (mark.length - n) ++ s.drop (s.length - n + (mark.drop (mark.length - n)).length) = s.take (s.length - n) ++ mark.drop (mark.length - n) := by
    have h9 : s.drop (s.length - n + (mark.drop (mark.length - n)).length) = [] := List.drop_eq_nil_of_le (by simp; omega)
    rw [h9, List.append_nil]
  rw [hf] at hB2
  have hcv := str_of_bytes _ w.heap.size cap _ hB2 s.length (by simp; omega)
  have hx2 := Ext.setCells (a := w) (Nat.le_refl _) (b8s (mark.drop (mark.length - n))) (s.length - n) w1.drew hx.drew
  clear hf
  have HB := Lib.hid hB2
  clear hB2 hB
  have e4 : s.length - (s.length - n) = n := by omega
  by_cases h0 : n = 0
  · subst h0
    have hc := fun a c => hcopy a c (fun h => absurd h (by omega))
    clear hcopy e2 e3 e4
    have hd : mark.drop (mark.length - 0) = [] := by simp
    rw [hd] at hc hcv hx2
    clear hd
    simp only [b8s, List.map_nil, World.setCells, Nat.sub_zero, List.append_nil, List.take_length] at hc hcv hx2
    have G2 := Lib.hid (show garbledL s mark = s by rw [G.out]; simp)
    clear HB G hmin
    have hmin := min3_run mark.length 64 s.length 0 (by have := hn0 rfl; simpa using this)
    clear hn0
    by_cases h9 : cap = s.length
    · subst h9
      go_enter Try.func64, Try.ntmps64
      go_wp2
      go_region
      go_wp2
      go_ret
      exact ⟨by rw [G2.out]; rfl, hx2⟩
    · go_enter Try.func64, Try.ntmps64
      go_wp2
      go_region
      go_wp2
      go_ret
      exact ⟨by rw [G2.out]; rfl, hx2⟩
  · clear hn0
    have hne : ¬ (cap = s.length - n) := by omega
    have hc := hcopy _ (cap - (s.length - n)) (fun _ => rfl)
    clear hcopy
    go_enter Try.func64, Try.ntmps64
    go_wp2
    go_region
    go_wp2
    go_ret
    exact ⟨by rw [G.out]; rfl, hx2⟩
end Go.Proofs.Ytahnjfbcklifoaa
