/- fm: rows of a transform, and steps back (plain). -/
import Derived.Test.YtlhjbfckcfeikaaMkE
namespace Go.Proofs.Ytlhjbfckcfeikaa
set_option linter.unusedVariables false
set_option linter.unusedSimpArgs false
open Go.RowKit

/-- the first and the last of those below n that are so; {1, 0} if none is -/
def flR (P : Nat → Bool) : Nat → Int × Int
  | 0 => (1, 0)
  | n + 1 => if P n then (if (flR P n).2 < (flR P n).1 then (n : Int) else (flR P n).1, (n : Int)) else flR P n
def IsIv (P : Nat → Bool) (n f t : Nat) : Prop := t ≤ n ∧ ∀ i, i < n → (P i = true ↔ f ≤ i ∧ i < t)
def ivR (f t : Nat) : Int × Int := if f < t then ((f : Int), (t : Int) - 1) else (1, 0)
theorem fl_iv {P : Nat → Bool} : ∀ {n f t : Nat}, IsIv P n f t → flR P n = ivR f t
  | 0, f, t, h => by
    have := h.1
    unfold flR ivR
    rw [if_neg (by omega)]
  | n + 1, f, t, h => by
    have hi : IsIv P n f (min t n) := ⟨by omega, fun i hi => by have := h.2 i (by omega); rw [this]; omega⟩
    have hn := h.2 n (by omega)
    have hr := fl_iv hi
    have ht := h.1
    unfold flR
    rw [hr]
    by_cases hp : P n = true
    · rw [if_pos hp]
      obtain ⟨h1, h2⟩ := hn.1 hp
      obtain rfl : t = n + 1 := by omega
      unfold ivR
      rw [show min (n + 1) n = n by omega, if_pos (show f < n + 1 by omega)]
      by_cases hf : f < n
      · rw [if_pos hf, if_neg (by show ¬ ((n : Int) - 1 < (f : Int)); omega)]
        exact Prod.ext rfl (by show (n : Int) = ((n + 1 : Nat) : Int) - 1; omega)
      · obtain rfl : f = n := by omega
        rw [if_neg hf, if_pos (by decide)]
        exact Prod.ext rfl (by show (f : Int) = ((f + 1 : Nat) : Int) - 1; omega)
    · rw [if_neg hp]
      have hno : ¬ (f ≤ n ∧ n < t) := fun e => hp (hn.2 e)
      unfold ivR
      by_cases hf : f < t
      · have : min t n = t := by omega
        rw [this]
      · rw [if_neg hf, if_neg (by omega)]
theorem mem_iv {f t k : Nat} : ((ivR f t).1 ≤ (k : Int) ∧ (k : Int) ≤ (ivR f t).2) ↔ (f ≤ k ∧ k < t) := by
  unfold ivR
  split
  · show ((f : Int) ≤ k ∧ (k : Int) ≤ (t : Int) - 1) ↔ _; omega
  · show ((1 : Int) ≤ k ∧ (k : Int) ≤ 0) ↔ _; omega
theorem fl_congr {P Q : Nat → Bool} : ∀ {n : Nat}, (∀ i, i < n → P i = Q i) → flR P n = flR Q n
  | 0, _ => rfl
  | n + 1, h => by unfold flR; rw [fl_congr fun i hi => h i (by omega), h n (by omega)]
theorem IsIv.congr {P Q : Nat → Bool} {n f t : Nat} (h : IsIv P n f t) (e : ∀ i, i < n → P i = Q i) : IsIv Q n f t := ⟨h.1, fun i hi => by rw [← e i hi]; exact h.2 i hi⟩
theorem IsIv.none {P : Nat → Bool} {n : Nat} (h : ∀ i, i < n → P i = false) : IsIv P n 0 0 := ⟨Nat.zero_le _, fun i hi => by rw [h i hi]; simp⟩

section
variable {l : List UInt8} {q : Nat}
/-- the row of a place -/
def rowN (l : List UInt8) (q p : Nat) : Nat := itN l q (l.length - p)
/-- the place of a row -/
def plcN (l : List UInt8) (q i : Nat) : Nat := (arrayL (txtN l q)).getD i 0
theorem plc_it (h : okI l q = true) (hq : q < l.length + 1) {j : Nat} (hj : j ≤ l.length) : plcN l q (itN l q j) = l.length - j := by
  unfold plcN; rw [← places_is h hq]; exact places_get h hq hj
theorem plc_le (h : okI l q = true) (hq : q < l.length + 1) {i : Nat} (hi : i < l.length + 1) : plcN l q i ≤ l.length := by
  obtain ⟨j, hj, rfl⟩ := it_at h hq hi
  rw [plc_it h hq hj]; omega
theorem row_plc (h : okI l q = true) (hq : q < l.length + 1) {i : Nat} (hi : i < l.length + 1) : rowN l q (plcN l q i) = i := by
  obtain ⟨j, hj, rfl⟩ := it_at h hq hi
  rw [plc_it h hq hj]
  unfold rowN
  rw [show l.length - (l.length - j) = j by omega]
theorem plc_row (h : okI l q = true) (hq : q < l.length + 1) {p : Nat} (hp : p ≤ l.length) : plcN l q (rowN l q p) = p := by
  unfold rowN
  rw [plc_it h hq (by omega)]; omega
theorem row_lt (p : Nat) : rowN l q p < l.length + 1 := it_lt l q _
/-- the row behind one by a byte -/
theorem row_prev (h : okI l q = true) (hq : q < l.length + 1) {p : Nat} (hp : p < l.length) : rowN l q p = lfN l q (rowN l q (p + 1)) ∧ rowN l q (p + 1) ≠ q ∧ (txtN l q).getD p 0 = byteAt l q (rowN l q (p + 1)) := by
  unfold rowN
  have e : l.length - p = (l.length - (p + 1)) + 1 := by omega
  refine ⟨by rw [e]; rfl, (ok_parts h).2 _ (by omega), ?_⟩
  rw [txt_get l q hp, show l.length - 1 - p = l.length - (p + 1) by omega]
theorem lf_row (h : okI l q = true) (hq : q < l.length + 1) {k : Nat} (hk : k < l.length + 1) (hne : k ≠ q) : plcN l q (lfN l q k) < l.length ∧ plcN l q (lfN l q k) + 1 = plcN l q k := by
  obtain ⟨j, hj, rfl⟩ := it_at h hq hk
  have hjn : j ≠ l.length := fun e => hne (by rw [e]; exact (ok_parts h).1)
  have e : lfN l q (itN l q j) = itN l q (j + 1) := rfl
  rw [e, plc_it h hq (by omega), plc_it h hq hj]
  omega

/-- is an end one of a byte and an end of some rows? -/
def backP (l : List UInt8) (q : Nat) (lo hi : Int) (b : UInt8) (i : Nat) : Bool :=
  decide (plcN l q i < l.length ∧ (txtN l q).getD (plcN l q i) 0 = b ∧ lo ≤ (rowN l q (plcN l q i + 1) : Int) ∧ (rowN l q (plcN l q i + 1) : Int) ≤ hi)
/-- a step back -/
def bkR (l : List UInt8) (q : Nat) (lo hi : Int) (b : UInt8) : Int × Int := flR (backP l q lo hi b) (l.length + 1)
theorem nxt_up {b : Nat} : ∀ {m k : Nat}, k ≤ m → nextN l q k b ≤ nextN l q m b
  | 0, k, h => by obtain rfl : k = 0 := by omega
                  exact Nat.le_refl _
  | m + 1, k, h => by
    rcases Nat.lt_or_ge m k with e | e
    · obtain rfl : k = m + 1 := by omega
      exact Nat.le_refl _
    · refine Nat.le_trans (nxt_up e) ?_
      by_cases hq : m = q
      · subst hq; rw [next_q]; exact Nat.le_refl _
      · by_cases hb : b = (byteAt l q m).toNat
        · subst hb; rw [next_same hq]; omega
        · rw [next_other hq hb]; exact Nat.le_refl _
theorem nxt_find {b : Nat} : ∀ {m k i : Nat}, k ≤ m → nextN l q k b ≤ i → i < nextN l q m b → ∃ r, k ≤ r ∧ r < m ∧ nextN l q r b = i ∧ r ≠ q ∧ b = (byteAt l q r).toNat
  | 0, k, i, h, h1, h2 => by obtain rfl : k = 0 := by omega
                             omega
  | m + 1, k, i, h, h1, h2 => by
    rcases Nat.lt_or_ge m k with e | e
    · obtain rfl : k = m + 1 := by omega
      omega
    · by_cases hi : i < nextN l q m b
      · obtain ⟨r, r1, r2, r3⟩ := nxt_find e h1 hi
        exact ⟨r, r1, by omega, r3⟩
      · by_cases hq : m = q
        · subst hq; rw [next_q] at h2; omega
        · by_cases hb : b = (byteAt l q m).toNat
          · subst hb
            rw [next_same hq] at h2
            exact ⟨m, e, by omega, by omega, hq, rfl⟩
          · rw [next_other hq hb] at h2; omega
theorem nxt_le (hq : q < l.length + 1) {b m : Nat} (hb : b < 256) (hm : m ≤ l.length + 1) : nextN l q m b ≤ l.length + 1 := by
  refine Nat.le_trans (nxt_up hm) ?_
  have h1 := cum_st (l := l) (q := q) (by omega) b
  have h2 := cum_st (l := l) (q := q) (by omega) (b + 1)
  have h3 := st_le (l := l) (b + 1) (by omega)
  rw [cum_succ] at h2
  unfold nextN
  unfold rowsN at h1 h2
  omega
theorem back_iv (h : okI l q = true) (hq : q < l.length + 1) {lo hi : Nat} (b : UInt8) (h1 : lo ≤ hi) (h2 : hi ≤ l.length) :
    IsIv (backP l q (lo : Int) (hi : Int) b) (l.length + 1) (nextN l q lo b.toNat) (nextN l q (hi + 1) b.toNat) := by
  refine ⟨nxt_le hq b.toNat_lt (by omega), fun i hi' => ?_⟩
  unfold backP
  rw [decide_eq_true_iff]
  constructor
  · rintro ⟨a1, a2, a3, a4⟩
    obtain ⟨c1, c2, c3⟩ := row_prev h hq a1
    rw [row_plc h hq hi'] at c1
    have c4 : nextN l q (rowN l q (plcN l q i + 1)) b.toNat = i := by
      rw [← a2, c3, next_lf c2 (by omega)]; exact c1.symm
    have c5 := next_same (l := l) c2
    have c6 : byteAt l q (rowN l q (plcN l q i + 1)) = b := by rw [← c3, a2]
    rw [c6, c4] at c5
    have c7 := nxt_up (l := l) (q := q) (b := b.toNat) (show lo ≤ rowN l q (plcN l q i + 1) by omega)
    have c8 := nxt_up (l := l) (q := q) (b := b.toNat) (show rowN l q (plcN l q i + 1) + 1 ≤ hi + 1 by omega)
    omega
  · rintro ⟨a1, a2⟩
    obtain ⟨r, r1, r2, r3, r4, r5⟩ := nxt_find (by omega) a1 a2
    rw [r5, next_lf r4 (by omega)] at r3
    have hr : r < l.length + 1 := by omega
    obtain ⟨d1, d2⟩ := lf_row h hq hr r4
    rw [r3] at d1 d2
    obtain ⟨c1, c2, c3⟩ := row_prev h hq d1
    rw [d2, row_plc h hq hr] at c3 ⊢
    exact ⟨d1, by rw [c3]; exact UInt8.toNat_inj.1 r5.symm, by omega, by omega⟩
/-- a step back, by counts -/
theorem bk_eq (h : okI l q = true) (hq : q < l.length + 1) {lo hi : Nat} (b : UInt8) (h1 : lo ≤ hi) (h2 : hi ≤ l.length) : bkR l q (lo : Int) (hi : Int) b = ivR (nextN l q lo b.toNat) (nextN l q (hi + 1) b.toNat) := fl_iv (back_iv h hq b h1 h2)
theorem bk_clip (lo hi : Int) (b : UInt8) : bkR l q lo hi b = bkR l q (max lo 0) (min hi (l.length : Int)) b := by
  refine fl_congr fun i hi' => ?_
  unfold backP
  have := row_lt (l := l) (q := q) (plcN l q i + 1)
  congr 1
  apply propext
  constructor
  · rintro ⟨a1, a2, a3, a4⟩; exact ⟨a1, a2, by omega, by omega⟩
  · rintro ⟨a1, a2, a3, a4⟩; exact ⟨a1, a2, by omega, by omega⟩
theorem bk_none {lo hi : Int} (b : UInt8) (h : hi < lo) : bkR l q lo hi b = (1, 0) := by
  have : IsIv (backP l q lo hi b) (l.length + 1) 0 0 := .none fun i _ => decide_eq_false fun ⟨_, _, a3, a4⟩ => by omega
  unfold bkR
  rw [fl_iv this]
  rfl

/-- does a row's end begin so? -/
def rowsP (l : List UInt8) (q : Nat) (what : List UInt8) (i : Nat) : Bool := decide (what <+: (txtN l q).drop (plcN l q i))
def rwR (l : List UInt8) (q : Nat) (what : List UInt8) : Int × Int := flR (rowsP l q what) (l.length + 1)
theorem pre_cons {s : List UInt8} {b : UInt8} {w : List UInt8} {p : Nat} : (b :: w) <+: s.drop p ↔ p < s.length ∧ s.getD p 0 = b ∧ w <+: s.drop (p + 1) := by
  by_cases hp : p < s.length
  · rw [drop_cons' hp, List.cons_prefix_cons]
    constructor
    · rintro ⟨rfl, h⟩; exact ⟨hp, rfl, h⟩
    · rintro ⟨_, rfl, h⟩; exact ⟨rfl, h⟩
  · rw [List.drop_eq_nil_of_le (by omega)]
    constructor
    · intro h; simp at h
    · rintro ⟨h, _⟩; exact absurd h hp
theorem rows_step (h : okI l q = true) (hq : q < l.length + 1) {w : List UInt8} {f t : Nat} (hw : IsIv (rowsP l q w) (l.length + 1) f t) (b : UInt8) {i : Nat} (hi : i < l.length + 1) :
    rowsP l q (b :: w) i = backP l q (ivR f t).1 (ivR f t).2 b i := by
  unfold rowsP backP
  congr 1
  apply propext
  rw [pre_cons, txt_length, mem_iv]
  constructor
  · rintro ⟨a1, a2, a3⟩
    refine ⟨a1, a2, (hw.2 _ (row_lt _)).1 ?_⟩
    unfold rowsP
    rw [plc_row h hq (by omega)]
    exact decide_eq_true a3
  · rintro ⟨a1, a2, a3⟩
    refine ⟨a1, a2, ?_⟩
    have := (hw.2 _ (row_lt (l := l) (q := q) (plcN l q i + 1))).2 a3
    unfold rowsP at this
    rw [plc_row h hq (by omega)] at this
    exact of_decide_eq_true this
theorem rows_iv (h : okI l q = true) (hq : q < l.length + 1) : ∀ w, ∃ f t, IsIv (rowsP l q w) (l.length + 1) f t
  | [] => ⟨0, l.length + 1, Nat.le_refl _, fun i hi => by
      unfold rowsP
      rw [decide_eq_true_iff]
      exact ⟨fun _ => ⟨Nat.zero_le _, hi⟩, fun _ => List.nil_prefix⟩⟩
  | b :: w => by
    obtain ⟨f, t, hw⟩ := rows_iv h hq w
    have hs : ∀ i, i < l.length + 1 → backP l q (ivR f t).1 (ivR f t).2 b i = rowsP l q (b :: w) i := fun i hi => (rows_step h hq hw b hi).symm
    by_cases hf : f < t
    · have h1 := back_iv h hq b (show f ≤ t - 1 by omega) (by have := hw.1; omega)
      unfold ivR at hs
      rw [if_pos hf] at hs
      rw [show ((t - 1 : Nat) : Int) = (t : Int) - 1 by omega] at h1
      exact ⟨_, _, h1.congr hs⟩
    · unfold ivR at hs
      rw [if_neg hf] at hs
      exact ⟨0, 0, .none fun i hi => by
        rw [← hs i hi]
        exact decide_eq_false fun ⟨_, _, a3, a4⟩ => by
          have a3 : (1 : Int) ≤ _ := a3
          have a4 : _ ≤ (0 : Int) := a4
          omega⟩
theorem rw_nil (h : okI l q = true) (hq : q < l.length + 1) : rwR l q [] = (0, (l.length : Int)) := by
  have : IsIv (rowsP l q []) (l.length + 1) 0 (l.length + 1) := ⟨Nat.le_refl _, fun i hi => by
    unfold rowsP
    rw [decide_eq_true_iff]
    exact ⟨fun _ => ⟨Nat.zero_le _, hi⟩, fun _ => List.nil_prefix⟩⟩
  unfold rwR
  rw [fl_iv this]
  unfold ivR
  rw [if_pos (by omega)]
  exact Prod.ext rfl (by show ((l.length + 1 : Nat) : Int) - 1 = (l.length : Int); omega)
theorem rw_cons (h : okI l q = true) (hq : q < l.length + 1) (b : UInt8) (w : List UInt8) : rwR l q (b :: w) = bkR l q (rwR l q w).1 (rwR l q w).2 b := by
  obtain ⟨f, t, hw⟩ := rows_iv h hq w
  unfold rwR bkR
  rw [fl_iv hw]
  exact fl_congr fun i hi => rows_step h hq hw b hi
/-- the bounds of rows -/
theorem rw_in (h : okI l q = true) (hq : q < l.length + 1) (w : List UInt8) : rwR l q w = (1, 0) ∨ ∃ lo hi : Nat, rwR l q w = ((lo : Int), (hi : Int)) ∧ lo ≤ hi ∧ hi ≤ l.length := by
  obtain ⟨f, t, hw⟩ := rows_iv h hq w
  unfold rwR
  rw [fl_iv hw]
  have ht := hw.1
  unfold ivR
  split
  · exact .inr ⟨f, t - 1, Prod.ext rfl (by show (t : Int) - 1 = ((t - 1 : Nat) : Int); omega), by omega, by omega⟩
  · exact .inl rfl
end
end Go.Proofs.Ytlhjbfckcfeikaa
