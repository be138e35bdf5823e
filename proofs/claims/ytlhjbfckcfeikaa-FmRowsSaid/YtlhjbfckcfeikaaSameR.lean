/- varveref02.SameInts, of slices that may be read. -/
import Derived.Test.YtlhjbfckcfeikaaRead
import Derived.Test.YtlhjbfckcfeikaaQuiet
import Derived.LoopTactic
namespace Go.Proofs.Ytlhjbfckcfeikaa
set_option linter.unusedVariables false
set_option linter.unusedSimpArgs false
open Go.RowKit

theorem ints_split {l1 l2 : List Int} (h : l1.length = l2.length) (k : Nat) (hk : k < l1.length) (hp : l1.take k = l2.take k) (hne : l1.getD k 0 ≠ l2.getD k 0) : (l1 == l2) = false := by
  rw [beq_eq_false_iff_ne]; rintro rfl; exact hne rfl
theorem ints_step {l1 l2 : List Int} (h : l1.length = l2.length) (k : Nat) (hk : k < l1.length) (hp : l1.take k = l2.take k) (he : l1.getD k 0 = l2.getD k 0) : l1.take (k + 1) = l2.take (k + 1) := by
  have hk2 : k < l2.length := by omega
  simp only [List.getD_eq_getElem?_getD, List.getElem?_eq_getElem hk, List.getElem?_eq_getElem hk2, Option.getD_some] at he
  rw [List.take_succ_eq_append_getElem hk, List.take_succ_eq_append_getElem (by omega), hp, he]

set_option maxRecDepth 20000 in
set_option maxHeartbeats 1000000 in
theorem sameR_any (l1 l2 : List Int) (v1 v2 : Value) (w : World) (h1 : RI w v1 l1) (h2 : RI w v2 l2) (hl1 : (l1.length : Int) ≤ 1000000000) (hl2 : (l2.length : Int) ≤ 1000000000) :
    Calls Try.prog 14 #[v1, v2] w fun e w' => e = .returned (.bool (l1 == l2)) ∧ Ext w w' := by
  obtain ⟨a1, c1, rfl, _, _, s1⟩ := h1.shape
  obtain ⟨a2, c2, rfl, _, _, s2⟩ := h2.shape
  clear h1 h2
  by_cases hne : l1.length = l2.length
  · obtain ⟨n, hn⟩ : ∃ n, n = l1.length := ⟨_, rfl⟩
    have hn2 : l2.length = n := by omega
    have split_ := Lib.hid (fun k => ints_split (k := k) hne)
    have step_ := Lib.hid (fun k => ints_step (k := k) hne)
    rw [hn2]
    rw [hn2] at hl2 s2
    rw [← hn]
    rw [← hn] at hl1 s1
    clear hne
    by_cases h0 : 0 < n
    · obtain ⟨g1, o1, rfl, d1⟩ := s1 h0
      obtain ⟨g2, o2, rfl, d2⟩ := s2 (by omega)
      clear s1 s2
      have D1 := Lib.hid d1
      have D2 := Lib.hid d2
      have N1 := Lib.hid hn
      have N2 := Lib.hid hn2
      clear d1 d2 hn hn2
      go_enter Try.func14, Try.ntmps14
      go_wp2
      go_loopw [5] (fun i wr => ∃ k : Nat, k ≤ n ∧ i = .int .i64 k ∧ l1.take k = l2.take k ∧ Ext w wr) (fun i _ => n - (intOf i).toNat)
      case atStart => exact ⟨0, Nat.zero_le _, rfl, rfl, Ext.refl _⟩
      case round =>
        obtain ⟨k, hk, rfl, hp, hx⟩ := hrel
        by_cases hlt : k < n
        · have e1 : k < l1.length := by have := N1.out; omega
          have e2 : k < l2.length := by have := N2.out; omega
          have c1 := up_cell (show wr.cell? ⟨g1, o1 + k, none⟩ = some (.int .i64 (l1.getD k 0)) from Go.cell_later hx (D1.out k hlt))
          have c2 := up_cell (show wr.cell? ⟨g2, o2 + k, none⟩ = some (.int .i64 (l2.getD k 0)) from Go.cell_later hx (D2.out k hlt))
          by_cases he : l1.getD k 0 = l2.getD k 0
          · have P := Lib.hid (step_.out k e1 hp he)
            rw [he] at c1
            generalize l2.getD k 0 = x at c1 c2
            clear he hp e1 e2
            have hxx := Lib.hid hx
            go_wp2
            refine wp_region_up (by kernel_rfl) (by kernel_rfl) ?_
            repeat (go_big_quiet_step (fail))
            refine wpQuiet_nil ?_
            rintro _ ⟨z, rfl⟩
            go_wp2
            go_roundw
            case rel => exact ⟨k + 1, by omega, by go_num, P.out, hxx.out.trans z.ext⟩
            case measure => simp [intOf]; omega
          · have P := Lib.hid (split_.out k e1 hp he)
            generalize l1.getD k 0 = x at c1 he
            generalize l2.getD k 0 = y at c2 he
            clear hp e1 e2
            have hxx := Lib.hid hx
            go_wp2
            refine wp_region_up (by kernel_rfl) (by kernel_rfl) ?_
            repeat (go_big_quiet_step (fail))
            refine wpQuiet_nil ?_
            rintro _ ⟨z, rfl⟩
            go_wp2
            go_ret
            exact ⟨by rw [P.out]; rfl, hxx.out.trans z.ext⟩
        · have P : (l1 == l2) = true := by
            rw [beq_iff_eq]
            have := N1.out
            have := N2.out
            rw [List.take_of_length_le (by omega), List.take_of_length_le (by omega)] at hp
            exact hp
          have P := Lib.hid P
          clear hp
          have hxx := Lib.hid hx
          go_wp2
          go_ret
          exact ⟨by rw [P.out]; rfl, hxx.out⟩
    · obtain rfl : n = 0 := by omega
      obtain rfl : l1 = [] := List.eq_nil_of_length_eq_zero (by omega)
      obtain rfl : l2 = [] := List.eq_nil_of_length_eq_zero (by omega)
      clear s1 s2 split_ step_ hl1 hl2 h0 hn hn2
      go_enter Try.func14, Try.ntmps14
      go_wp2
      refine wp_loop_rounds 1 ?_
      rw [rounds_succ]
      go_wp2
      go_ret
      exact ⟨rfl, Ext.refl _⟩
  · have P : (l1 == l2) = false := by rw [beq_eq_false_iff_ne]; rintro rfl; exact hne rfl
    have P := Lib.hid P
    clear s1 s2
    go_enter Try.func14, Try.ntmps14
    go_wp2
    go_ret
    exact ⟨by rw [P.out]; rfl, Ext.refl _⟩
end Go.Proofs.Ytlhjbfckcfeikaa
