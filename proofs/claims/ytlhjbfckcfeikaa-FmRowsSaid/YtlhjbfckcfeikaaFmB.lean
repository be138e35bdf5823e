/- fm: places, and what stands there; counts ahead of a row (plain). -/
import Derived.Test.YtlhjbfckcfeikaaFmA
namespace Go.Proofs.Ytlhjbfckcfeikaa
set_option linter.unusedVariables false
set_option linter.unusedSimpArgs false
open Go.RowKit

/-- where something stands -/
def plcL (s w : List UInt8) : List Nat := (List.range (s.length + 1)).filter fun p => decide (w <+: s.drop p)
theorem filter_iv {P : Nat → Bool} : ∀ {A : List Nat} {f t : Nat}, IsIv (fun i => P (A.getD i 0)) A.length f t → A.filter P = (A.take t).drop f
  | [], f, t, h => by simp
  | x :: A, f, t, h => by
    have h0 := h.2 0 (by simp)
    have h0 : P x = true ↔ f ≤ 0 ∧ 0 < t := h0
    have ht : t ≤ A.length + 1 := h.1
    have hs : IsIv (fun i => P (A.getD i 0)) A.length (f - 1) (t - 1) ∨ (t = 0) := by
      by_cases e : t = 0
      · exact .inr e
      · refine .inl ⟨by omega, fun i hi => ?_⟩
        have := h.2 (i + 1) (by simpa using hi)
        have : P (A.getD i 0) = true ↔ f ≤ i + 1 ∧ i + 1 < t := this
        show P (A.getD i 0) = true ↔ _
        rw [this]; omega
    rcases hs with hs | rfl
    · have hr := filter_iv hs
      by_cases hp : P x = true
      · obtain ⟨h1, h2⟩ := h0.1 hp
        obtain rfl : f = 0 := by omega
        rw [List.filter_cons_of_pos hp, hr]
        obtain ⟨t', rfl⟩ : ∃ t', t = t' + 1 := ⟨t - 1, by omega⟩
        rw [List.take_succ_cons]
        rfl
      · rw [List.filter_cons_of_neg hp, hr]
        cases t with
        | zero => simp
        | succ t' =>
          have : 0 < f := by
            rcases Nat.eq_zero_or_pos f with e | e
            · exact absurd (h0.2 ⟨by omega, by omega⟩) hp
            · exact e
          obtain ⟨f', rfl⟩ : ∃ f', f = f' + 1 := ⟨f - 1, by omega⟩
          rw [List.take_succ_cons, List.drop_succ_cons]
          rfl
    · rw [List.take_zero, List.drop_nil, List.filter_eq_nil_iff]
      intro y hy
      obtain ⟨i, hi, rfl⟩ := List.getElem_of_mem hy
      have := h.2 i hi
      have : P ((x :: A).getD i 0) = true ↔ f ≤ i ∧ i < 0 := this
      rw [List.getD_eq_getElem?_getD, List.getElem?_eq_getElem hi, Option.getD_some] at this
      rw [this]; omega
section
variable {l : List UInt8} {q : Nat}
theorem arr_filter (s w : List UInt8) : ((arrayL s).filter fun p => decide (w <+: s.drop p)).Perm (plcL s w) := (arrayL_is s).1.filter _
theorem rows_slice (h : okI l q = true) (hq : q < l.length + 1) {w : List UInt8} {f t : Nat} (hw : IsIv (rowsP l q w) (l.length + 1) f t) : ((arrayL (txtN l q)).take t).drop f = (arrayL (txtN l q)).filter fun p => decide (w <+: (txtN l q).drop p) := by
  refine (filter_iv (P := fun p => decide (w <+: (txtN l q).drop p)) (A := arrayL (txtN l q)) ?_).symm
  rw [(arrayL_is (txtN l q)).length, txt_length]
  exact hw
theorem rows_count (h : okI l q = true) (hq : q < l.length + 1) (w : List UInt8) : (rwR l q w).2 - (rwR l q w).1 + 1 = ((plcL (txtN l q) w).length : Int) := by
  obtain ⟨f, t, hw⟩ := rows_iv h hq w
  have h1 := rows_slice h hq hw
  have h2 := (arr_filter (txtN l q) w).length_eq
  rw [← h1, List.length_drop, List.length_take, (arrayL_is (txtN l q)).length, txt_length] at h2
  have ht := hw.1
  unfold rwR
  rw [fl_iv hw]
  unfold ivR
  split
  · show (t : Int) - 1 - (f : Int) + 1 = _; omega
  · show (0 : Int) - 1 + 1 = _; omega
theorem places_sort (h : okI l q = true) (hq : q < l.length + 1) {w : List UInt8} {lo hi : Nat} (hr : rwR l q w = ((lo : Int), (hi : Int))) (hlh : lo ≤ hi) :
    (toI (((placesN l q).take (hi + 1)).drop lo)).mergeSort (fun x y => decide (x ≤ y)) = toI (plcL (txtN l q) w) := by
  obtain ⟨f, t, hw⟩ := rows_iv h hq w
  have h1 := rows_slice h hq hw
  have hft : f = lo ∧ t = hi + 1 := by
    unfold rwR at hr
    rw [fl_iv hw] at hr
    unfold ivR at hr
    split at hr
    · have e1 : (f : Int) = lo := congrArg Prod.fst hr
      have e2 : (t : Int) - 1 = hi := congrArg Prod.snd hr
      omega
    · have e1 : (1 : Int) = lo := congrArg Prod.fst hr
      have e2 : (0 : Int) = hi := congrArg Prod.snd hr
      omega
  obtain ⟨rfl, rfl⟩ := hft
  rw [places_is h hq, h1]
  have hp : (toI ((arrayL (txtN l q)).filter fun p => decide (w <+: (txtN l q).drop p))).Perm (toI (plcL (txtN l q) w)) := (arr_filter (txtN l q) w).map _
  have hp2 := (List.mergeSort_perm (toI ((arrayL (txtN l q)).filter fun p => decide (w <+: (txtN l q).drop p))) (fun x y => decide (x ≤ y))).trans hp
  have hs : (toI (plcL (txtN l q) w)).Pairwise fun x y => x < y := by
    unfold toI plcL
    rw [List.pairwise_map]
    exact (List.pairwise_lt_range.filter _).imp fun h => by exact_mod_cast h
  refine sorted_unique (r := fun x y : Int => x < y) (fun x y h1 h2 => by omega) _ _ hp2 ?_ hs
  have hn : (toI (plcL (txtN l q) w)).Pairwise fun x y => x ≠ y := hs.imp fun h => by omega
  have hn2 := (hp2.pairwise_iff (fun h => Ne.symm h)).2 hn
  have hle := List.pairwise_mergeSort (le := fun x y : Int => decide (x ≤ y)) (fun a b c h1 h2 => by simp at *; omega) (fun a b => by simp; omega) (toI ((arrayL (txtN l q)).filter fun p => decide (w <+: (txtN l q).drop p)))
  exact (hle.and hn2).imp fun ⟨h1, h2⟩ => by have := of_decide_eq_true h1; omega

/-- how often a byte stands ahead of a row -/
theorem cnt_ahead (hq : q ≤ l.length) (b : Nat) : ∀ row, row ≤ l.length + 1 → cnt (keyN l q) (List.range row) (b + 1) = cntL (l.take (if q < row then row - 1 else row)) b
  | 0, _ => by rw [if_neg (by omega)]; rfl
  | row + 1, hr => by
    rw [cnt_row, cnt_ahead hq b row (by omega)]
    by_cases e : row = q
    · subst e
      rw [key_q, if_neg (by omega), if_neg (by omega), if_pos (by omega)]
      rfl
    · rw [key_ne e]
      unfold byteAt
      have hk : ∀ x : UInt8, (if x.toNat + 1 = b + 1 then 1 else 0) = (if x.toNat = b then 1 else 0) := fun x => by
        by_cases h : x.toNat = b
        · rw [if_pos h, if_pos (by omega)]
        · rw [if_neg h, if_neg (by omega)]
      rw [hk]
      by_cases h : q < row
      · rw [if_pos h, if_pos (show q < row + 1 by omega), show row + 1 - 1 = row - 1 + 1 by omega, cntL_snoc l (row - 1) (by omega)]
      · rw [if_neg h, if_neg (show ¬ q < row + 1 by omega), cntL_snoc l row (by omega)]
/-- how many last bytes are ahead of a row -/
def lastN (q row : Nat) : Nat := if q < row then row - 1 else row
theorem next_ahead (hq : q ≤ l.length) (b : Nat) {row : Nat} (hr : row ≤ l.length + 1) : nextN l q row b = stN l b + cntL (l.take (lastN q row)) b := by
  unfold nextN lastN
  rw [cnt_ahead hq b row hr]
theorem last_le (hq : q ≤ l.length) {row : Nat} (hr : row ≤ l.length + 1) : lastN q row ≤ l.length := by
  unfold lastN; split <;> omega

theorem st_mono : ∀ {a b : Nat}, a ≤ b → stN l a ≤ stN l b
  | a, 0, h => by obtain rfl : a = 0 := by omega
                  exact Nat.le_refl _
  | a, b + 1, h => by
    rcases Nat.lt_or_ge b a with e | e
    · obtain rfl : a = b + 1 := by omega
      exact Nat.le_refl _
    · refine Nat.le_trans (st_mono e) ?_
      show stN l b ≤ stN l b + cntL l b
      omega
/-- with which byte a row's end begins -/
theorem front_at (h : okI l q = true) (hq : q < l.length + 1) {p : Nat} (hp : p < l.length) : stN l ((txtN l q).getD p 0).toNat ≤ rowN l q p ∧ rowN l q p < stN l (((txtN l q).getD p 0).toNat + 1) := by
  obtain ⟨c1, c2, c3⟩ := row_prev h hq hp
  rw [c3]
  have hk := row_lt (l := l) (q := q) (p + 1)
  generalize rowN l q (p + 1) = k at *
  rw [c1, ← next_lf c2 (by omega)]
  have h1 := nxt_up (l := l) (q := q) (b := (byteAt l q k).toNat) (Nat.zero_le k)
  rw [next_zero] at h1
  have h2 := nxt_up (l := l) (q := q) (b := (byteAt l q k).toNat) (show k + 1 ≤ l.length + 1 by omega)
  rw [next_same c2] at h2
  have h3 : nextN l q (l.length + 1) (byteAt l q k).toNat = stN l ((byteAt l q k).toNat + 1) := by
    have h1 := cum_st (l := l) (q := q) (by omega) (byteAt l q k).toNat
    have h2 := cum_st (l := l) (q := q) (by omega) ((byteAt l q k).toNat + 1)
    rw [cum_succ] at h2
    unfold nextN
    unfold rowsN at h1 h2
    omega
  omega
end
end Go.Proofs.Ytlhjbfckcfeikaa
