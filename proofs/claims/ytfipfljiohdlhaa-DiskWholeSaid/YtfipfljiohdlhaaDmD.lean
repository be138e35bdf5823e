/- disk: rows of texts; are two the same? is an act one of a name? -/
import Derived.Test.YtfipfljiohdlhaaDmC
import Derived.Test.YtfipfljiohdlhaaDmA
namespace Go.Proofs.Ytfipfljiohdlhaa
set_option linter.unusedVariables false
set_option linter.unusedSimpArgs false
open Go.RowKit
attribute [local go_sem] S_size S_toList S_append S_extract S_beq S_bne S_empty S_nil

/-- a slice of texts that no call on the disk in K turns -/
def SR (K : List Nat) (w : World) (v : Value) (l : List (List UInt8)) : Prop := RR sC 1 w v l ∧ ∀ p n c, v = .slice (some p) n c → p.block ∉ K ∧ p.block < w.heap.size
theorem SR.rr {K : List Nat} {w : World} {v : Value} {l : List (List UInt8)} (h : SR K w v l) : RR sC 1 w v l := h.1
theorem SR.stp {K K' : List Nat} {w w' : World} {v : Value} {l : List (List UInt8)} (h : SR K w v l) (x : Stp K K' w w') : SR K' w' v l := by
  obtain ⟨⟨a, c, rfl, h0, hn, h2⟩, hb⟩ := h
  refine ⟨⟨a, c, rfl, h0, hn, fun hl => ?_⟩, fun p n c' e => ?_⟩
  · obtain ⟨g, o, rfl, h4⟩ := h2 hl
    have hg := hb _ _ _ rfl
    exact ⟨g, o, rfl, fun k y hk j u hu => by rw [x.1.cell hg.2 hg.1]; exact h4 k y hk j u hu⟩
  · have hg := hb p n c' e
    exact ⟨fun hm => (x.2 _ hm).elim hg.1 (fun h => by omega), Nat.lt_of_lt_of_le hg.2 x.1.size⟩
theorem SW.sr {w : World} {B : Nat} {v : Value} {l : List (List UInt8)} (h : SW w B v l) {K : List Nat} (hK : ∀ k ∈ K, k < B) : SR K w v l := by
  obtain ⟨a, c, rfl, h1, h2⟩ := RW.shape h
  rw [List.length_map] at h1 h2 ⊢
  rcases h.2 with ⟨e, _⟩ | ⟨g, cap, cur, e, hg, hgg, _⟩
  · injection e with e1 e2 e3
    subst e1 e3
    obtain rfl : l = [] := List.eq_nil_of_length_eq_zero (by simpa using h1)
    exact ⟨RR.nil w, fun p n c e => by simp at e⟩
  · injection e with e1 e2 e3
    subst e1 e3
    have hlt : g < w.heap.size := by
      rcases Nat.lt_or_ge g w.heap.size with h | h
      · exact h
      · rw [Array.getElem?_eq_none h] at hgg; cases hgg
    refine ⟨⟨_, _, rfl, h1, fun e => (by cases e), fun hl => ?_⟩, fun p n c e => ?_⟩
    · obtain ⟨g', e', _, _, hc, _⟩ := h2 hl
      refine ⟨g', 0, e', fun k y hk j u hu => ?_⟩
      have hkl : k < l.length := (List.getElem?_eq_some_iff.1 hk).1
      have := hc k hkl
      rw [List.getElem?_map, hk] at this
      match j, hu with
      | 0, hu =>
        injection hu with hu
        subst hu
        simpa using this
    · injection e with e1 e2 e3
      injection e1 with e1
      subst e1
      exact ⟨fun hm => absurd (hK _ hm) (Nat.not_lt.2 hg), hlt⟩
theorem texts_step {l1 l2 : List (List UInt8)} (k : Nat) (h1 : k < l1.length) (h2 : k < l2.length) (hp : l1.take k = l2.take k) (he : l1[k]? = l2[k]?) : l1.take (k + 1) = l2.take (k + 1) := by
  rw [List.take_add_one, List.take_add_one, hp, he]
set_option maxRecDepth 20000 in
set_option maxHeartbeats 1000000 in
theorem sameTexts_any (l1 l2 : List (List UInt8)) (v1 v2 : Value) (w : World) (h1 : RR sC 1 w v1 l1) (h2 : RR sC 1 w v2 l2) (hl1 : (l1.length : Int) ≤ 1000000000) (hl2 : (l2.length : Int) ≤ 1000000000) :
    Calls Try.prog 20 #[v1, v2] w fun e w' => e = .returned (.bool (l1 == l2)) ∧ Ext w w' := by
  obtain ⟨a1, c1, rfl, s1⟩ := h1.one
  obtain ⟨a2, c2, rfl, s2⟩ := h2.one
  clear h1 h2
  by_cases hne : l1.length = l2.length
  · obtain ⟨n, hn⟩ : ∃ n, n = l1.length := ⟨_, rfl⟩
    have hn2 : l2.length = n := by omega
    have NO := Lib.hid (fun (k : Nat) (h : l1[k]? ≠ l2[k]?) => show (l1 == l2) = false from by rw [beq_eq_false_iff_ne]; rintro rfl; exact h rfl)
    have ST := Lib.hid (fun k h1 h2 hp he => texts_step (l1 := l1) (l2 := l2) k h1 h2 hp he)
    have AL := Lib.hid (show l1.take n = l2.take n → (l1 == l2) = true from fun h => by
      rw [beq_iff_eq]
      rw [List.take_of_length_le (by omega), List.take_of_length_le (by omega)] at h
      exact h)
    rw [hn2]
    rw [hn2] at hl2 s2
    rw [← hn]
    rw [← hn] at hl1 s1
    have N1 := Lib.hid hn
    have N2 := Lib.hid hn2
    have S1 := Lib.hid s1
    have S2 := Lib.hid s2
    clear hne hn hn2 s1 s2
    generalize (l1 == l2) = r at *
    go_enter Try.func20, Try.ntmps20
    go_wp2
    go_loopw [5] (fun i wr => ∃ k : Nat, k ≤ n ∧ i = .int .i64 k ∧ RowKit.Hid (l1.take k = l2.take k) ∧ Ext w wr) (fun i _ => n - (intOf i).toNat)
    case atStart => exact ⟨0, Nat.zero_le _, rfl, Lib.hid rfl, Ext.refl _⟩
    case round =>
      obtain ⟨k, hk, rfl, hp, hx⟩ := hrel
      by_cases hlt : k < n
      · have e1 : k < l1.length := by have := N1.out; omega
        have e2 : k < l2.length := by have := N2.out; omega
        obtain ⟨g1, o1, rfl, d1⟩ := S1.out (by omega)
        obtain ⟨g2, o2, rfl, d2⟩ := S2.out (by omega)
        obtain ⟨x, hx1⟩ : ∃ x, l1[k]? = some x := ⟨_, List.getElem?_eq_getElem e1⟩
        obtain ⟨y, hy1⟩ : ∃ y, l2[k]? = some y := ⟨_, List.getElem?_eq_getElem e2⟩
        have c1 := up_cell (show wr.cell? ⟨g1, o1 + k, none⟩ = some (.string (S x)) from Go.cell_later hx (d1 k x hx1 _ rfl))
        have c2 := up_cell (show wr.cell? ⟨g2, o2 + k, none⟩ = some (.string (S y)) from Go.cell_later hx (d2 k y hy1 _ rfl))
        have NO := Lib.hid (NO.out k)
        have ST := Lib.hid (ST.out k e1 e2 hp.out)
        rw [hx1, hy1] at NO ST
        clear d1 d2 hx1 hy1 hp e1 e2
        have hI : (k : Int) < (n : Int) := by omega
        have hxx := Lib.hid hx
        by_cases he : x = y
        · have P := Lib.hid (ST.out (by rw [he]))
          clear ST NO
          subst he
          have hxb : (x != x) = false := by simp
          go_wp2
          refine wp_region_up (by kernel_rfl) (by kernel_rfl) ?_
          repeat (go_big_quiet_step (fail))
          refine wpQuiet_nil ?_
          rintro _ ⟨z, rfl⟩
          go_wp2
          go_roundw
          case rel => exact ⟨k + 1, by omega, by go_num, P, hxx.out.trans z.ext⟩
          case measure => simp [intOf]; omega
        · have P := NO.out (by simpa using he)
          clear ST NO
          subst P
          have hxb : (x == y) = false := by simpa using he
          go_wp2
          refine wp_region_up (by kernel_rfl) (by kernel_rfl) ?_
          repeat (go_big_quiet_step (fail))
          refine wpQuiet_nil ?_
          rintro _ ⟨z, rfl⟩
          go_wp2
          go_ret
          exact ⟨rfl, hxx.out.trans z.ext⟩
      · obtain rfl : k = n := by omega
        have P := AL.out hp.out
        clear hk
        subst P
        have hxx := Lib.hid hx
        clear hx
        go_wp2
        go_ret
        exact ⟨rfl, hxx.out⟩
  · have P : (l1 == l2) = false := by rw [beq_eq_false_iff_ne]; rintro rfl; exact hne rfl
    rw [P]
    have hne1 : ¬ (l1.length : Int) = (l2.length : Int) := by omega
    clear s1 s2 P hne
    go_enter Try.func20, Try.ntmps20
    go_wp2
    go_ret
    exact ⟨rfl, Ext.refl _⟩
end Go.Proofs.Ytfipfljiohdlhaa
