/- Several texts in one. merged: BwA BwB BwC BwD BwE BwF BwG BwH -/
import Derived.Test.YtlhjbfckcfeikaaMkC
namespace Go.Proofs.Ytlhjbfckcfeikaa
set_option linter.unusedVariables false
set_option linter.unusedSimpArgs false
open Go.RowKit

/-- the last byte of a row that is not the primary -/
def byteAt (l : List UInt8) (q row : Nat) : UInt8 := l.getD (if q < row then row - 1 else row) 0
/-- a row's key: 0 of the primary, a byte's number and one more of another one -/
def keyN (l : List UInt8) (q row : Nat) : Nat := if row = q then 0 else (byteAt l q row).toNat + 1
def rowsN (l : List UInt8) : List Nat := List.range (l.length + 1)
/-- a row's step -/
def lfN (l : List UInt8) (q row : Nat) : Nat := cum (keyN l q) (rowsN l) (keyN l q row) + cnt (keyN l q) (List.range row) (keyN l q row)
def sortN (l : List UInt8) (q : Nat) : List Nat := csort (keyN l q) 256 (rowsN l)
section

variable {l : List UInt8} {q : Nat}

theorem key_le (row : Nat) : keyN l q row ≤ 256 := by
  unfold keyN
  have := (byteAt l q row).toNat_lt
  split <;> omega
theorem key_q : keyN l q q = 0 := if_pos rfl
theorem key_ne {row : Nat} (h : row ≠ q) : keyN l q row = (byteAt l q row).toNat + 1 := if_neg h
theorem key_zero {row : Nat} (h : keyN l q row = 0) : row = q := by
  unfold keyN at h
  split at h
  · assumption
  · omega
theorem sort_perm : (sortN l q).Perm (List.range (l.length + 1)) := csort_perm fun p _ => key_le p
theorem sort_pair {i j : Nat} (hij : i < j) (hj : j < l.length + 1) : keyN l q ((sortN l q).getD i 0) < keyN l q ((sortN l q).getD j 0) ∨ keyN l q ((sortN l q).getD i 0) = keyN l q ((sortN l q).getD j 0) ∧ (sortN l q).getD i 0 < (sortN l q).getD j 0 := by
  have h := csort_pairwise (key := keyN l q) (most := 256) (l := rowsN l) (r := fun p q => p < q) List.pairwise_lt_range
  have hl : (sortN l q).length = l.length + 1 := by rw [sort_perm.length_eq, List.length_range]
  rw [getD_lt (by omega : i < (sortN l q).length), getD_lt (by omega : j < (sortN l q).length)]
  exact List.pairwise_iff_getElem.1 h i j (by show i < (sortN l q).length; omega) (by show j < (sortN l q).length; omega) hij
theorem range_at {n k : Nat} (h : k < n) (P : Nat → Bool) (hk : P k = true) : ((List.range n).filter P).getD ((List.range k).filter P).length 0 = k ∧ ((List.range k).filter P).length < ((List.range n).filter P).length := by
  have e : List.range n = List.range k ++ k :: (List.range' (k + 1) (n - k - 1)) := by
    rw [List.range_eq_range', List.range_eq_range', show n = k + (1 + (n - k - 1)) by omega, ← List.range'_append_1, Nat.zero_add]
    congr 1
    rw [Nat.add_comm 1, List.range'_succ]
    congr 2; omega
  rw [e, List.filter_append, List.filter_cons_of_pos hk]
  constructor
  · rw [List.getD_eq_getElem?_getD, List.getElem?_append_right (Nat.le_refl _), Nat.sub_self]; rfl
  · rw [List.length_append, List.length_cons]; omega
theorem lf_at {row : Nat} (h : row < l.length + 1) : (sortN l q).getD (lfN l q row) 0 = row ∧ lfN l q row < l.length + 1 := by
  obtain ⟨h1, h2⟩ := range_at h (fun p => keyN l q p == keyN l q row) (by simp)
  constructor
  · refine (blocks_get (m := 257) (Nat.lt_succ_of_le (key_le row)) h2).trans h1
  · have h3 : cum (keyN l q) (rowsN l) (keyN l q row + 1) ≤ cum (keyN l q) (rowsN l) 257 := cum_mono (Nat.succ_le_succ (key_le row))
    have h4 : cum (keyN l q) (rowsN l) 257 = (rowsN l).length := cum_all fun p _ => key_le p
    rw [cum_succ] at h3
    rw [show (rowsN l).length = l.length + 1 from List.length_range] at h4
    unfold lfN
    have h5 : cnt (keyN l q) (List.range row) (keyN l q row) < cnt (keyN l q) (rowsN l) (keyN l q row) := h2
    omega
theorem lf_inj {r1 r2 : Nat} (h1 : r1 < l.length + 1) (h2 : r2 < l.length + 1) (h : lfN l q r1 = lfN l q r2) : r1 = r2 := by
  rw [← (lf_at (q := q) h1).1, ← (lf_at (q := q) h2).1, h]
theorem lf_of {i : Nat} (h : i < l.length + 1) : lfN l q ((sortN l q).getD i 0) = i ∧ (sortN l q).getD i 0 < l.length + 1 := by
  have h1 := perm_lt (sort_perm (l := l) (q := q)) h
  have h2 := lf_at (q := q) h1
  exact ⟨perm_inj (sort_perm (l := l) (q := q)) h2.2 h h2.1, h1⟩
theorem lf_q : lfN l q q = 0 := by
  unfold lfN
  rw [key_q, cum_zero, Nat.zero_add]
  unfold cnt
  rw [List.length_eq_zero_iff, List.filter_eq_nil_iff]
  intro p hp h
  rw [beq_iff_eq] at h
  have := key_zero h
  have := List.mem_range.1 hp
  omega
theorem lf_lt {r1 r2 : Nat} (h1 : r1 < l.length + 1) (h2 : r2 < l.length + 1) : lfN l q r1 < lfN l q r2 ↔ (keyN l q r1 < keyN l q r2 ∨ keyN l q r1 = keyN l q r2 ∧ r1 < r2) := by
  have a1 := lf_at (q := q) h1
  have a2 := lf_at (q := q) h2
  have go : ∀ {r1 r2 : Nat}, r1 < l.length + 1 → r2 < l.length + 1 → lfN l q r1 < lfN l q r2 → (keyN l q r1 < keyN l q r2 ∨ keyN l q r1 = keyN l q r2 ∧ r1 < r2) := fun {r1 r2} h1 h2 h => by
    have a1 := lf_at (q := q) h1
    have a2 := lf_at (q := q) h2
    have := sort_pair (q := q) h a2.2
    rwa [a1.1, a2.1] at this
  constructor
  · exact go h1 h2
  · intro h
    rcases Nat.lt_trichotomy (lfN l q r1) (lfN l q r2) with h3 | h3 | h3
    · exact h3
    · have := lf_inj h1 h2 h3
      subst this; omega
    · have := go h2 h1 h3; omega
theorem lf_pos {row : Nat} (h : row < l.length + 1) (hq : q < l.length + 1) (hne : row ≠ q) : 1 ≤ lfN l q row := by
  rcases Nat.eq_zero_or_pos (lfN l q row) with h0 | h0
  · exact absurd (lf_inj h hq (h0.trans lf_q.symm)) hne
  · exact h0
end

/-- row after row -/
def itN (l : List UInt8) (q : Nat) : Nat → Nat
  | 0 => 0
  | j + 1 => lfN l q (itN l q j)
/-- are these the last bytes of a text? -/
def okI (l : List UInt8) (q : Nat) : Bool := decide (itN l q l.length = q ∧ ∀ j, j < l.length → itN l q j ≠ q)
/-- the text -/
def txtN (l : List UInt8) (q : Nat) : List UInt8 := (List.range l.length).map fun i => byteAt l q (itN l q (l.length - 1 - i))
theorem txt_length (l : List UInt8) (q : Nat) : (txtN l q).length = l.length := by simp [txtN]
theorem txt_get (l : List UInt8) (q : Nat) {i : Nat} (h : i < l.length) : (txtN l q).getD i 0 = byteAt l q (itN l q (l.length - 1 - i)) := by
  unfold txtN
  rw [List.getD_eq_getElem?_getD, List.getElem?_map, List.getElem?_range h]; rfl
theorem it_lt (l : List UInt8) (q : Nat) : ∀ j, itN l q j < l.length + 1
  | 0 => Nat.succ_pos _
  | j + 1 => (lf_at (it_lt l q j)).2

/-! ### forward -/
/-- the last bytes: those ahead of the ends -/
def fwdL (s : List UInt8) : List UInt8 := ((arrayL s).filter fun p => p != 0).map fun p => s.getD (p - 1) 0
/-- the primary: where the whole text stands -/
def priN (s : List UInt8) : Nat := (arrayL s).findIdx fun p => p == 0
theorem pri_at (s : List UInt8) : priN s < s.length + 1 ∧ (arrayL s).getD (priN s) 0 = 0 ∧ ∀ i, i < s.length + 1 → ((arrayL s).getD i 0 = 0 ↔ i = priN s) := by
  have ha := arrayL_is s
  have h1 : priN s < (arrayL s).length := List.findIdx_lt_length_of_exists ⟨0, ha.mem.2 (Nat.succ_pos _), rfl⟩
  have h2 : (arrayL s).getD (priN s) 0 = 0 := by
    rw [getD_lt h1]
    exact beq_iff_eq.1 (List.findIdx_getElem (p := fun p => p == 0) (w := h1))
  rw [ha.length] at h1
  refine ⟨h1, h2, fun i hi => ⟨fun h => perm_inj ha.1 hi h1 (h.trans h2.symm), fun h => h ▸ h2⟩⟩
/-- the array, cut where the whole text stands -/
theorem filter_cut (a : List Nat) {q : Nat} (h : q < a.length) (hq : ∀ i, i < a.length → (a.getD i 0 = 0 ↔ i = q)) : (a.filter fun p => p != 0) = a.take q ++ a.drop (q + 1) := by
  have e : a = a.take q ++ a.getD q 0 :: a.drop (q + 1) := by
    rw [getD_lt h]; simp
  have h0 : a.getD q 0 = 0 := (hq q h).2 rfl
  rw [h0] at e
  conv => lhs; rw [e]
  rw [List.filter_append, List.filter_cons_of_neg (by simp)]
  congr 1
  · refine List.filter_eq_self.2 fun p hp => ?_
    obtain ⟨i, hi, rfl⟩ := List.getElem_of_mem hp
    rw [List.length_take] at hi
    rw [List.getElem_take, ← getD_lt (show i < a.length by omega), bne_iff_ne]
    intro hc
    have := (hq i (by omega)).1 hc
    omega
  · refine List.filter_eq_self.2 fun p hp => ?_
    obtain ⟨i, hi, rfl⟩ := List.getElem_of_mem hp
    rw [List.length_drop] at hi
    rw [List.getElem_drop, ← getD_lt (show q + 1 + i < a.length by omega), bne_iff_ne]
    intro hc
    have := (hq (q + 1 + i) (by omega)).1 hc
    omega
theorem fwd_cut (s : List UInt8) : fwdL s = ((arrayL s).take (priN s) ++ (arrayL s).drop (priN s + 1)).map fun p => s.getD (p - 1) 0 := by
  obtain ⟨h1, h2, h3⟩ := pri_at s
  unfold fwdL
  rw [filter_cut (arrayL s) (by rw [(arrayL_is s).length]; exact h1) (by rw [(arrayL_is s).length]; exact h3)]
theorem fwd_length (s : List UInt8) : (fwdL s).length = s.length := by
  obtain ⟨h1, _, _⟩ := pri_at s
  rw [fwd_cut, List.length_map, List.length_append, List.length_take, List.length_drop, (arrayL_is s).length]
  omega
/-- the last byte of a row of the transform -/
theorem fwd_byte (s : List UInt8) {row : Nat} (h : row < s.length + 1) (hne : row ≠ priN s) : byteAt (fwdL s) (priN s) row = s.getD ((arrayL s).getD row 0 - 1) 0 := by
  obtain ⟨h1, _, _⟩ := pri_at s
  have hl := (arrayL_is s).length
  unfold byteAt
  rw [fwd_cut, List.getD_eq_getElem?_getD, List.getElem?_map]
  by_cases hc : priN s < row
  · rw [if_pos hc, List.getElem?_append_right (by rw [List.length_take]; omega), List.length_take, List.getElem?_drop,
      show priN s + 1 + (row - 1 - min (priN s) (arrayL s).length) = row by omega, List.getElem?_eq_getElem (by omega), getD_lt (show row < (arrayL s).length by omega)]; rfl
  · rw [if_neg hc, List.getElem?_append_left (by rw [List.length_take]; omega), List.getElem?_take, if_pos (by omega), List.getElem?_eq_getElem (by omega), getD_lt (show row < (arrayL s).length by omega)]; rfl
end Go.Proofs.Ytlhjbfckcfeikaa
namespace Go.Proofs.Ytlhjbfckcfeikaa
set_option linter.unusedVariables false
set_option linter.unusedSimpArgs false
open Go.RowKit

/-- the order of ends, by the first letter and the rest -/
theorem letter_less {s : List UInt8} {p q : Nat} (hp : p ≤ s.length) (hq : q ≤ s.length) (h : letterN s p < letterN s q) : lessE s p q = true := lessL_full ((letter_lt hp hq).1 h)
theorem letter_more {s : List UInt8} {p q : Nat} (hp : p < s.length) (hq : q < s.length) (h : letterN s p = letterN s q) (h2 : lessE s (p + 1) (q + 1) = true) : lessE s p q = true := by
  unfold letterN at h
  rw [if_neg (by omega), if_neg (by omega)] at h
  have e : s.getD p 0 = s.getD q 0 := UInt8.toNat_inj.1 (by omega)
  unfold lessE at h2 ⊢
  rw [drop_cons' hp, drop_cons' hq, bl_cons]
  exact .inr ⟨e, h2⟩
theorem letter_zero {s : List UInt8} {p : Nat} (h : letterN s p = 0) : p = s.length := by
  unfold letterN at h
  split at h
  · assumption
  · omega

/-! ### a text comes back of its transform -/
section

variable (s : List UInt8)

def prevN (p : Nat) : Nat := if p = 0 then s.length else p - 1
theorem prev_le {p : Nat} (h : p ≤ s.length) : prevN s p ≤ s.length := by unfold prevN; split <;> omega
theorem key_letter {row : Nat} (h : row < s.length + 1) : keyN (fwdL s) (priN s) row = letterN s (prevN s ((arrayL s).getD row 0)) := by
  obtain ⟨h1, h2, h3⟩ := pri_at s
  have hlt := (arrayL_is s).lt h
  unfold keyN letterN prevN
  by_cases e : row = priN s
  · rw [if_pos e, e, h2, if_pos rfl, if_pos rfl]
  · have : (arrayL s).getD row 0 ≠ 0 := fun h4 => e ((h3 row h).1 h4)
    rw [if_neg e, fwd_byte s h e, if_neg this, if_neg (by omega)]
/-- the rows, sorted, are the array's, each one place ahead -/
theorem sort_prev : (sortN (fwdL s) (priN s)).map (fun r => prevN s ((arrayL s).getD r 0)) = arrayL s := by
  obtain ⟨h1, h2, h3⟩ := pri_at s
  have ha := arrayL_is s
  have hl := fwd_length s
  have hpm := sort_perm (l := fwdL s) (q := priN s)
  rw [hl] at hpm
  refine arrayL_eq ⟨?_, ?_⟩
  · refine perm_nodup _ _ ?_ List.nodup_range fun p => ?_
    · refine List.pairwise_map.2 ?_
      have hn : (sortN (fwdL s) (priN s)).Nodup := hpm.nodup_iff.2 List.nodup_range
      refine hn.imp_of_mem fun {r1 r2} m1 m2 hne e => hne ?_
      have l1 := List.mem_range.1 (hpm.mem_iff.1 m1)
      have l2 := List.mem_range.1 (hpm.mem_iff.1 m2)
      have b1 := ha.lt l1
      have b2 := ha.lt l2
      refine perm_inj ha.1 l1 l2 ?_
      unfold prevN at e
      split at e <;> split at e <;> omega
    · rw [List.mem_map, List.mem_range]
      constructor
      · rintro ⟨r, hr, rfl⟩
        have := ha.lt (List.mem_range.1 (hpm.mem_iff.1 hr))
        have := prev_le s (p := (arrayL s).getD r 0) (by omega)
        omega
      · intro hp
        obtain ⟨r, hr, e⟩ := perm_at ha.1 (p := if p = s.length then 0 else p + 1) (by split <;> omega)
        rw [ha.length] at hr
        refine ⟨r, hpm.mem_iff.2 (List.mem_range.2 hr), ?_⟩
        rw [e]
        unfold prevN
        by_cases e2 : p = s.length
        · rw [if_pos e2, if_pos rfl, e2]
        · rw [if_neg e2, if_neg (by omega)]; omega
  · refine List.pairwise_map.2 ?_
    have hs := csort_pairwise (key := keyN (fwdL s) (priN s)) (most := 256) (l := rowsN (fwdL s)) (r := fun p q => p < q) List.pairwise_lt_range
    refine List.Pairwise.imp_of_mem (fun {r1 r2} m1 m2 hr => ?_) hs
    have l1 := List.mem_range.1 (hpm.mem_iff.1 m1)
    have l2 := List.mem_range.1 (hpm.mem_iff.1 m2)
    have b1 := ha.lt l1
    have b2 := ha.lt l2
    have p1 := prev_le s (p := (arrayL s).getD r1 0) (by omega)
    have p2 := prev_le s (p := (arrayL s).getD r2 0) (by omega)
    rw [key_letter s l1, key_letter s l2] at hr
    rcases hr with hr | ⟨hr, hlt⟩
    · exact letter_less p1 p2 hr
    · have hless := ha.less hlt l2
      by_cases e1 : (arrayL s).getD r1 0 = 0
      · have hz : letterN s (prevN s ((arrayL s).getD r1 0)) = 0 := by
          unfold prevN letterN; rw [if_pos e1, if_pos rfl]
        rw [hz] at hr
        have := letter_zero hr.symm
        have e2 : (arrayL s).getD r2 0 = 0 := by
          unfold prevN at this
          split at this
          · assumption
          · omega
        have := perm_inj ha.1 l1 l2 (e1.trans e2.symm)
        omega
      · have e2 : (arrayL s).getD r2 0 ≠ 0 := fun e2 => by
          have hz : letterN s (prevN s ((arrayL s).getD r2 0)) = 0 := by
            unfold prevN letterN; rw [if_pos e2, if_pos rfl]
          rw [hz] at hr
          have := letter_zero hr
          unfold prevN at this
          rw [if_neg e1] at this
          omega
        have q1 : prevN s ((arrayL s).getD r1 0) = (arrayL s).getD r1 0 - 1 := if_neg e1
        have q2 : prevN s ((arrayL s).getD r2 0) = (arrayL s).getD r2 0 - 1 := if_neg e2
        rw [q1, q2] at hr ⊢
        refine letter_more (by omega) (by omega) hr ?_
        rw [show (arrayL s).getD r1 0 - 1 + 1 = (arrayL s).getD r1 0 by omega, show (arrayL s).getD r2 0 - 1 + 1 = (arrayL s).getD r2 0 by omega]
        exact hless
theorem lf_prev {row : Nat} (h : row < s.length + 1) : (arrayL s).getD (lfN (fwdL s) (priN s) row) 0 = prevN s ((arrayL s).getD row 0) := by
  have hl := fwd_length s
  have h1 := lf_at (l := fwdL s) (q := priN s) (row := row) (by rw [hl]; exact h)
  have hpm := sort_perm (l := fwdL s) (q := priN s)
  conv => lhs; rw [← sort_prev s]
  rw [List.getD_eq_getElem?_getD, List.getElem?_map]
  have hlen : (sortN (fwdL s) (priN s)).length = (fwdL s).length + 1 := by rw [hpm.length_eq, List.length_range]
  have e := h1.1
  rw [getD_lt (by omega)] at e
  rw [List.getElem?_eq_getElem (by omega), e]; rfl
theorem arr_zero : (arrayL s).getD 0 0 = s.length := by
  have ha := arrayL_is s
  obtain ⟨i, hi, e⟩ := perm_at ha.1 (p := s.length) (by omega)
  rw [ha.length] at hi
  rcases Nat.eq_zero_or_pos i with h0 | h0
  · rw [h0] at e; exact e
  · have := ha.less h0 hi
    rw [e] at this
    unfold lessE at this
    rw [List.drop_length, bl_nil] at this
    cases this
theorem it_back : ∀ j, j ≤ s.length → (arrayL s).getD (itN (fwdL s) (priN s) j) 0 = s.length - j
  | 0, _ => arr_zero s
  | j + 1, h => by
    have ih := it_back j (by omega)
    have hlt := it_lt (fwdL s) (priN s) j
    rw [fwd_length] at hlt
    show (arrayL s).getD (lfN (fwdL s) (priN s) (itN (fwdL s) (priN s) j)) 0 = _
    rw [lf_prev s hlt, ih]
    unfold prevN
    rw [if_neg (by omega)]; omega
theorem fwd_ok : okI (fwdL s) (priN s) = true := by
  obtain ⟨h1, h2, h3⟩ := pri_at s
  have hl := fwd_length s
  refine decide_eq_true ⟨?_, fun j hj e => ?_⟩
  · have := it_back s s.length (Nat.le_refl _)
    have hlt := it_lt (fwdL s) (priN s) s.length
    rw [hl] at hlt ⊢
    exact (h3 _ hlt).1 (by rw [this]; omega)
  · have := it_back s j (by omega)
    rw [e, h2] at this
    omega
theorem fwd_txt : txtN (fwdL s) (priN s) = s := by
  have hl := fwd_length s
  refine List.ext_getElem (by rw [txt_length, hl]) fun i h1 h2 => ?_
  have hlt := it_lt (fwdL s) (priN s) (s.length - 1 - i)
  have hb := it_back s (s.length - 1 - i) (by omega)
  obtain ⟨p1, p2, p3⟩ := pri_at s
  have h3 := txt_get (fwdL s) (priN s) (i := i) (by omega)
  have hne : itN (fwdL s) (priN s) (s.length - 1 - i) ≠ priN s := fun e => by
    rw [e, p2] at hb; omega
  rw [hl] at h3 hlt
  rw [fwd_byte s hlt hne, hb, show s.length - (s.length - 1 - i) - 1 = i by omega] at h3
  rw [List.getD_eq_getElem?_getD, List.getElem?_eq_getElem h1, List.getD_eq_getElem?_getD, List.getElem?_eq_getElem h2] at h3
  exact h3
theorem pri_pos (h : 0 < s.length) : 1 ≤ priN s := by
  obtain ⟨p1, p2, p3⟩ := pri_at s
  rcases Nat.eq_zero_or_pos (priN s) with e | e
  · have := arr_zero s
    rw [e] at p2; omega
  · exact e
end

end Go.Proofs.Ytlhjbfckcfeikaa
namespace Go.Proofs.Ytlhjbfckcfeikaa
set_option linter.unusedVariables false
set_option linter.unusedSimpArgs false
open Go.RowKit

section

variable {l : List UInt8} {q : Nat}

theorem ok_parts (h : okI l q = true) : itN l q l.length = q ∧ ∀ j, j < l.length → itN l q j ≠ q := of_decide_eq_true h
theorem it_inj (h : okI l q = true) (hq : q < l.length + 1) : ∀ i j, i < j → j ≤ l.length → itN l q i ≠ itN l q j
  | 0, 0, h1, _ => by omega
  | 0, j + 1, _, hj => fun e => by
    have h2 : lfN l q (itN l q j) = lfN l q q := by rw [lf_q]; exact e.symm
    exact (ok_parts h).2 j (by omega) (lf_inj (it_lt l q j) hq h2)
  | i + 1, 0, h1, _ => by omega
  | i + 1, j + 1, h1, hj => fun e => it_inj h hq i j (by omega) (by omega) (lf_inj (it_lt l q i) (it_lt l q j) e)
def itsN (l : List UInt8) (q : Nat) : List Nat := (List.range (l.length + 1)).map (itN l q)
theorem its_length : (itsN l q).length = l.length + 1 := by simp [itsN]
theorem its_get {j : Nat} (h : j < l.length + 1) : (itsN l q).getD j 0 = itN l q j := mr_getD _ _ _ h
theorem its_perm (h : okI l q = true) (hq : q < l.length + 1) : (itsN l q).Perm (List.range (l.length + 1)) := by
  have hn : (itsN l q).Nodup := by
    rw [List.Nodup, List.pairwise_iff_getElem]
    intro i j hi hj hij
    rw [its_length] at hi hj
    rw [← getD_lt (by rw [its_length]; exact hi), ← getD_lt (by rw [its_length]; exact hj), its_get hi, its_get hj]
    exact it_inj h hq i j hij (by omega)
  have hok : okP (toI (itsN l q)) = true := by
    refine decide_eq_true ⟨fun x hx => ?_, ?_⟩
    · obtain ⟨p, hp, rfl⟩ := List.mem_map.1 hx
      obtain ⟨j, hj, rfl⟩ := List.mem_map.1 hp
      have := it_lt l q j
      rw [toI_length, its_length]; omega
    · exact List.pairwise_map.2 (hn.imp fun {a b} h1 h2 => h1 (Int.ofNat_inj.1 h2))
  refine perm_nodup _ _ hn List.nodup_range fun p => ?_
  rw [List.mem_range]
  constructor
  · intro hp
    obtain ⟨j, hj, rfl⟩ := List.mem_map.1 hp
    exact it_lt l q j
  · intro hp
    have := okP_full hok (p := p) (by rw [toI_length, its_length]; exact hp)
    obtain ⟨y, hy, e⟩ := List.mem_map.1 this
    rw [← Int.ofNat_inj.1 e]; exact hy
/-- when is a row come to? -/
theorem it_at (h : okI l q = true) (hq : q < l.length + 1) {row : Nat} (hr : row < l.length + 1) : ∃ j, j ≤ l.length ∧ itN l q j = row := by
  obtain ⟨j, hj, e⟩ := perm_at (its_perm h hq) hr
  rw [its_length] at hj
  exact ⟨j, by omega, by rw [← its_get hj]; exact e⟩
/-- the row ahead -/
def aheadN (l : List UInt8) (q : Nat) : Nat → Nat
  | 0 => q
  | j + 1 => itN l q j
theorem ahead_lf (hq : q < l.length + 1) : ∀ j, lfN l q (aheadN l q j) = itN l q j
  | 0 => lf_q
  | _ + 1 => rfl
theorem ahead_lt (hq : q < l.length + 1) : ∀ j, aheadN l q j < l.length + 1
  | 0 => hq
  | j + 1 => it_lt l q j
theorem ahead_key (h : okI l q = true) : ∀ j, j ≤ l.length → keyN l q (aheadN l q j) = letterN (txtN l q) (l.length - j)
  | 0, _ => by
    show keyN l q q = _
    rw [key_q]
    unfold letterN
    rw [if_pos (by rw [txt_length]; omega)]
  | j + 1, hj => by
    show keyN l q (itN l q j) = _
    rw [key_ne ((ok_parts h).2 j (by omega))]
    unfold letterN
    rw [if_neg (by rw [txt_length]; omega), txt_get l q (by omega), show l.length - 1 - (l.length - (j + 1)) = j by omega]
theorem it_less (h : okI l q = true) (hq : q < l.length + 1) : ∀ i j, i ≤ l.length → j ≤ l.length → itN l q i < itN l q j → lessE (txtN l q) (l.length - i) (l.length - j) = true := by
  intro i
  induction i with
  | zero =>
    intro j hi hj hlt
    rw [← ahead_lf hq 0, ← ahead_lf hq j, lf_lt (ahead_lt hq 0) (ahead_lt hq j)] at hlt
    rcases hlt with hlt | ⟨he, hlt⟩
    · rw [ahead_key h 0 hi, ahead_key h j hj] at hlt
      exact letter_less (by rw [txt_length]; omega) (by rw [txt_length]; omega) hlt
    · have : keyN l q (aheadN l q 0) = 0 := key_q
      rw [this] at he
      have := key_zero he.symm
      rw [this] at hlt
      exact absurd hlt (Nat.lt_irrefl q)
  | succ i ih =>
    intro j hi hj hlt
    rw [← ahead_lf hq (i + 1), ← ahead_lf hq j, lf_lt (ahead_lt hq (i + 1)) (ahead_lt hq j)] at hlt
    rcases hlt with hlt | ⟨he, hlt⟩
    · rw [ahead_key h (i + 1) hi, ahead_key h j hj] at hlt
      exact letter_less (by rw [txt_length]; omega) (by rw [txt_length]; omega) hlt
    · cases j with
      | zero =>
        have : keyN l q (aheadN l q 0) = 0 := key_q
        rw [this] at he
        have := key_zero he
        rw [this] at hlt
        exact absurd hlt (Nat.lt_irrefl q)
      | succ j =>
        rw [ahead_key h (i + 1) hi, ahead_key h (j + 1) hj] at he
        refine letter_more (by rw [txt_length]; omega) (by rw [txt_length]; omega) he ?_
        rw [show l.length - (i + 1) + 1 = l.length - i by omega, show l.length - (j + 1) + 1 = l.length - j by omega]
        exact ih j (by omega) (by omega) hlt
/-- the places of the rows -/
def placesN (l : List UInt8) (q : Nat) : List Nat := (List.range (l.length + 1)).map fun row => l.length - (itsN l q).idxOf row
theorem places_get (h : okI l q = true) (hq : q < l.length + 1) {j : Nat} (hj : j ≤ l.length) : (placesN l q).getD (itN l q j) 0 = l.length - j := by
  unfold placesN
  rw [mr_getD _ _ _ (it_lt l q j)]
  have h1 : itN l q j ∈ itsN l q := by
    unfold itsN; exact List.mem_map.2 ⟨j, List.mem_range.2 (by omega), rfl⟩
  have h2 := List.idxOf_lt_length_of_mem h1
  have h3 : (itsN l q).getD ((itsN l q).idxOf (itN l q j)) 0 = itN l q j := by
    rw [getD_lt h2]; exact List.getElem_idxOf h2
  rw [its_length] at h2
  rw [its_get h2] at h3
  congr 1
  rcases Nat.lt_trichotomy ((itsN l q).idxOf (itN l q j)) j with h4 | h4 | h4
  · exact absurd h3 (it_inj h hq _ _ h4 hj)
  · exact h4
  · exact absurd h3.symm (it_inj h hq _ _ h4 (by omega))
theorem places_is (h : okI l q = true) (hq : q < l.length + 1) : placesN l q = arrayL (txtN l q) := by
  have hl : (placesN l q).length = l.length + 1 := by simp [placesN]
  refine arrayL_eq ⟨?_, ?_⟩
  · rw [txt_length]
    refine perm_nodup _ _ ?_ List.nodup_range fun p => ?_
    · rw [List.Nodup, List.pairwise_iff_getElem]
      intro r1 r2 h1 h2 hlt
      rw [hl] at h1 h2
      obtain ⟨i, hi, e1⟩ := it_at h hq h1
      obtain ⟨j, hj, e2⟩ := it_at h hq h2
      have g1 := places_get h hq hi
      have g2 := places_get h hq hj
      rw [e1] at g1
      rw [e2] at g2
      rw [← getD_lt (by rw [hl]; exact h1), ← getD_lt (by rw [hl]; exact h2), g1, g2]
      intro hc
      have : i = j := by omega
      subst this
      omega
    · rw [List.mem_range]
      constructor
      · intro hp
        obtain ⟨row, _, rfl⟩ := List.mem_map.1 hp
        omega
      · intro hp
        have g := places_get h hq (j := l.length - p) (by omega)
        have hlt := it_lt l q (l.length - p)
        rw [getD_lt (by rw [hl]; exact hlt)] at g
        have : p = l.length - (l.length - p) := by omega
        rw [this, ← g]
        exact List.getElem_mem _
  · rw [List.pairwise_iff_getElem]
    intro r1 r2 h1 h2 hlt
    rw [hl] at h1 h2
    obtain ⟨i, hi, e1⟩ := it_at h hq h1
    obtain ⟨j, hj, e2⟩ := it_at h hq h2
    have g1 := places_get h hq hi
    have g2 := places_get h hq hj
    rw [e1] at g1
    rw [e2] at g2
    rw [← getD_lt (by rw [hl]; exact h1), ← getD_lt (by rw [hl]; exact h2), g1, g2]
    exact it_less h hq i j hi hj (by omega)
theorem only_pri (h : okI l q = true) (hq : q < l.length + 1) : priN (txtN l q) = q := by
  obtain ⟨p1, p2, p3⟩ := pri_at (txtN l q)
  rw [txt_length] at p3
  have g := places_get h hq (j := l.length) (Nat.le_refl _)
  rw [(ok_parts h).1, places_is h hq] at g
  exact ((p3 q hq).1 (by omega)).symm
theorem only_fwd (h : okI l q = true) (hq : q < l.length + 1) : fwdL (txtN l q) = l := by
  have hp := only_pri h hq
  have hb : ∀ row, row < l.length + 1 → row ≠ q → byteAt (fwdL (txtN l q)) q row = byteAt l q row := fun row hr hne => by
    have h1 := fwd_byte (txtN l q) (row := row) (by rw [txt_length]; exact hr) (by rw [hp]; exact hne)
    rw [hp] at h1
    rw [h1, ← places_is h hq]
    obtain ⟨j, hj, rfl⟩ := it_at h hq hr
    have hjn : j < l.length := by
      rcases Nat.lt_or_ge j l.length with h2 | h2
      · exact h2
      · have : j = l.length := by omega
        rw [this, (ok_parts h).1] at hne
        exact absurd rfl hne
    rw [places_get h hq hj, txt_get l q (by omega), show l.length - 1 - (l.length - j - 1) = j by omega]
  have hlen : (fwdL (txtN l q)).length = l.length := by rw [fwd_length, txt_length]
  refine List.ext_getElem hlen fun i h1 h2 => ?_
  have h3 := hb (if i < q then i else i + 1) (by split <;> omega) (by split <;> omega)
  unfold byteAt at h3
  have e : (if q < (if i < q then i else i + 1) then (if i < q then i else i + 1) - 1 else (if i < q then i else i + 1)) = i := by
    by_cases h4 : i < q
    · rw [if_pos h4, if_neg (by omega)]
    · rw [if_neg h4, if_pos (by omega)]; omega
  rw [e, List.getD_eq_getElem?_getD, List.getElem?_eq_getElem h1, List.getD_eq_getElem?_getD, List.getElem?_eq_getElem h2] at h3
  exact h3
end

end Go.Proofs.Ytlhjbfckcfeikaa
namespace Go.Proofs.Ytlhjbfckcfeikaa
set_option linter.unusedVariables false
set_option linter.unusedSimpArgs false
open Go.RowKit

/-- how often a byte comes -/
def cntL (l : List UInt8) (b : Nat) : Nat := (l.filter fun x => x.toNat == b).length
/-- where the rows begin that have a byte in front -/
def stN (l : List UInt8) : Nat → Nat
  | 0 => 1
  | b + 1 => stN l b + cntL l b
section

variable {l : List UInt8} {q : Nat}

theorem keys_eq (hq : q ≤ l.length) : (rowsN l).map (keyN l q) = (l.take q).map (fun x => x.toNat + 1) ++ 0 :: (l.drop q).map (fun x => x.toNat + 1) := by
  refine List.ext_getElem (by simp [rowsN]; omega) fun i h1 h2 => ?_
  have hi : i < l.length + 1 := by simpa [rowsN] using h1
  rw [List.getElem_map]
  simp only [rowsN, List.getElem_range]
  rcases Nat.lt_trichotomy i q with h | h | h
  · rw [List.getElem_append_left (by simp; omega), key_ne (by omega)]
    unfold byteAt
    rw [if_neg (by omega), List.getElem_map, List.getElem_take, List.getD_eq_getElem?_getD, List.getElem?_eq_getElem (show i < l.length by omega)]; rfl
  · subst h
    rw [List.getElem_append_right (by simp; omega), key_q]
    simp only [List.length_map, List.length_take, show i - min i l.length = 0 by omega]; rfl
  · rw [List.getElem_append_right (by simp; omega), key_ne (by omega)]
    obtain ⟨d, rfl⟩ : ∃ d, i = q + d + 1 := ⟨i - q - 1, by omega⟩
    unfold byteAt
    simp only [List.length_map, List.length_take, show q + d + 1 - min q l.length = d + 1 by omega]
    rw [if_pos (by omega), List.getElem_cons_succ, List.getElem_map, List.getElem_drop, List.getD_eq_getElem?_getD, List.getElem?_eq_getElem (show q + d + 1 - 1 < l.length by omega)]; rfl
theorem cnt_map (key : Nat → Nat) (rows : List Nat) (k : Nat) : cnt key rows k = ((rows.map key).filter fun x => x == k).length := by
  unfold cnt; rw [List.filter_map, List.length_map]; rfl
theorem cnt_key (hq : q ≤ l.length) (b : Nat) : cnt (keyN l q) (rowsN l) (b + 1) = cntL l b := by
  rw [cnt_map, keys_eq hq, List.filter_append, List.filter_cons_of_neg (by simp), List.filter_map, List.filter_map, List.length_append, List.length_map, List.length_map]
  unfold cntL
  have e : ((fun x : Nat => x == b + 1) ∘ fun x : UInt8 => x.toNat + 1) = fun x : UInt8 => x.toNat == b := by
    funext x
    simp
  rw [e]
  conv => rhs; rw [← List.take_append_drop q l]
  rw [List.filter_append, List.length_append]
theorem cnt_key0 (hq : q ≤ l.length) : cnt (keyN l q) (rowsN l) 0 = 1 := by
  rw [cnt_map, keys_eq hq, List.filter_append, List.filter_cons_of_pos (by simp), List.length_append, List.length_cons]
  have h0 : ∀ m : List UInt8, ((m.map fun x => x.toNat + 1).filter fun x => x == 0) = [] := fun m => by
    rw [List.filter_eq_nil_iff]
    intro x hx
    obtain ⟨y, _, rfl⟩ := List.mem_map.1 hx
    simp
  rw [h0, h0]; rfl
theorem cum_st (hq : q ≤ l.length) : ∀ b, cum (keyN l q) (rowsN l) (b + 1) = stN l b
  | 0 => by rw [cum_succ, cum_zero, cnt_key0 hq]; rfl
  | b + 1 => by rw [cum_succ, cum_st hq b, cnt_key hq b]; rfl
theorem st_le (b : Nat) (hb : b ≤ 256) : stN l b ≤ l.length + 1 := by
  have h := cum_st (l := l) (q := 0) (Nat.zero_le _) b
  have h2 : cum (keyN l 0) (rowsN l) 257 = (rowsN l).length := cum_all fun p _ => key_le p
  have h3 : cum (keyN l 0) (rowsN l) (b + 1) ≤ cum (keyN l 0) (rowsN l) 257 := cum_mono (by omega)
  rw [show (rowsN l).length = l.length + 1 from List.length_range] at h2
  omega
/-- where the next row with a byte steps to, behind so many rows -/
def nextN (l : List UInt8) (q row b : Nat) : Nat := stN l b + cnt (keyN l q) (List.range row) (b + 1)
theorem next_zero (b : Nat) : nextN l q 0 b = stN l b := rfl
theorem cnt_row (key : Nat → Nat) (row k : Nat) : cnt key (List.range (row + 1)) k = cnt key (List.range row) k + if key row = k then 1 else 0 := by
  rw [List.range_succ]; exact cnt_snoc row
theorem next_q (b : Nat) : nextN l q (q + 1) b = nextN l q q b := by
  unfold nextN
  rw [cnt_row, key_q, if_neg (by omega)]; rfl
theorem next_same {row : Nat} (h : row ≠ q) : nextN l q (row + 1) (byteAt l q row).toNat = nextN l q row (byteAt l q row).toNat + 1 := by
  unfold nextN
  rw [cnt_row, key_ne h, if_pos rfl]; rfl
theorem next_other {row b : Nat} (h : row ≠ q) (hb : b ≠ (byteAt l q row).toNat) : nextN l q (row + 1) b = nextN l q row b := by
  unfold nextN
  rw [cnt_row, key_ne h, if_neg (by omega)]; rfl
theorem next_lf {row : Nat} (h : row ≠ q) (hq : q ≤ l.length) : nextN l q row (byteAt l q row).toNat = lfN l q row := by
  unfold nextN lfN
  rw [key_ne h, cum_st hq]
def nextL (l : List UInt8) (q row : Nat) : List Nat := (List.range 256).map (nextN l q row)
theorem nextL_step {row : Nat} (h : row ≠ q) : (nextL l q row).set (byteAt l q row).toNat (nextN l q row (byteAt l q row).toNat + 1) = nextL l q (row + 1) := by
  unfold nextL
  rw [mr_set]
  refine mr_congr fun i hi => ?_
  by_cases e : i = (byteAt l q row).toNat
  · rw [if_pos e, e, next_same h]
  · rw [if_neg e, next_other h e]
theorem nextL_q : nextL l q (q + 1) = nextL l q q := mr_congr fun i _ => next_q i

/-- the document's count -/
def refP (l : List UInt8) (q row k : Nat) : Bool := decide (k ≠ q ∧ ((byteAt l q k).toNat < (byteAt l q row).toNat ∨ (byteAt l q k).toNat = (byteAt l q row).toNat ∧ k < row))
theorem count_sum {P Q1 Q2 : Nat → Bool} {row : Nat} : ∀ n, (∀ i, i < n → (if P i = true then 1 else 0) + (if i = q then 1 else 0) = (if Q1 i = true then 1 else 0) + (if Q2 i = true ∧ i < row then 1 else 0)) →
    countB P n + (if q < n then 1 else 0) = countB Q1 n + countB Q2 (min n row)
  | 0, _ => by simp [countB]
  | n + 1, h => by
    have ih := count_sum n (fun i hi => h i (by omega))
    have hn := h n (by omega)
    rw [countB_succ, countB_succ]
    have e : countB Q2 (min (n + 1) row) = countB Q2 (min n row) + if Q2 n = true ∧ n < row then 1 else 0 := by
      by_cases hr : n < row
      · rw [show min (n + 1) row = n + 1 by omega, show min n row = n by omega, countB_succ]
        simp [hr]
      · rw [show min (n + 1) row = row by omega, show min n row = row by omega, if_neg (fun hc => hr hc.2)]; rfl
    rw [e]
    have e2 : (if q < n + 1 then 1 else 0) = (if q < n then 1 else 0) + if n = q then 1 else 0 := by
      split <;> split <;> split <;> omega
    rw [e2]
    omega
theorem cum_count (key : Nat → Nat) (n k : Nat) : cum key (List.range n) k = countB (fun i => decide (key i < k)) n := by
  rw [countB_filter]
  exact (blocks_perm0 (key := key) (l := List.range n) (k := k)).length_eq
theorem ref_lf {row : Nat} (h : row ≠ q) (hr : row < l.length + 1) (hq : q < l.length + 1) : countB (refP l q row) (l.length + 1) + 1 = lfN l q row := by
  have hs := count_sum (q := q) (P := refP l q row) (Q1 := fun i => decide (keyN l q i < keyN l q row)) (Q2 := fun i => keyN l q i == keyN l q row) (row := row) (l.length + 1) (fun i hi => by
    simp only [refP, decide_eq_true_eq, beq_iff_eq]
    rw [key_ne h]
    by_cases e : i = q
    · subst e
      rw [key_q, if_neg (fun hc => hc.1 rfl), if_pos rfl, if_pos (by omega), if_neg (by omega)]
    · rw [key_ne e, if_neg e]
      split <;> split <;> split <;> omega)
  rw [if_pos hq, show min (l.length + 1) row = row by omega] at hs
  rw [hs]
  unfold lfN
  rw [show rowsN l = List.range (l.length + 1) from rfl, cum_count, countB_filter (fun i => keyN l q i == keyN l q row)]
  rfl
/-- the column of the last bytes -/
def colI (l : List UInt8) (q row : Nat) : Int := if row = q then -1 else ((byteAt l q row).toNat : Int)
def colL (l : List UInt8) (q k : Nat) : List Int := (List.range k).map (colI l q)
theorem col_snoc (k : Nat) : colL l q k ++ [colI l q k] = colL l q (k + 1) := by
  unfold colL; rw [List.range_succ, List.map_append]; rfl
theorem col_get {k row : Nat} (h : row < k) : (colL l q k).getD row 0 = colI l q row := by
  unfold colL; rw [List.getD_eq_getElem?_getD, List.getElem?_map, List.getElem?_range h]; rfl
theorem col_length (k : Nat) : (colL l q k).length = k := by simp [colL]
theorem col_below {i : Nat} (h : i < q) : colI l q i = ((l.getD i 0).toNat : Int) := by
  unfold colI byteAt; rw [if_neg (by omega), if_neg (by omega)]
theorem col_above {i : Nat} (h : q ≤ i) : colI l q (i + 1) = ((l.getD i 0).toNat : Int) := by
  unfold colI byteAt; rw [if_neg (by omega), if_pos (by omega)]; rfl
theorem col_q : colI l q q = -1 := if_pos rfl
end

/-- may this be a primary? -/
def mayP (l : List UInt8) (p : Int) : Bool := if l = [] then decide (p = 0) else decide (1 ≤ p ∧ p ≤ (l.length : Int))
theorem may_some {l : List UInt8} {p : Int} (h : mayP l p = true) : ∃ q : Nat, p = (q : Int) ∧ q ≤ l.length := by
  unfold mayP at h
  split at h
  · exact ⟨0, of_decide_eq_true h, Nat.zero_le _⟩
  · have := of_decide_eq_true h
    exact ⟨p.toNat, by omega, by omega⟩
def stpL (l : List UInt8) (p : Int) : List Nat := if mayP l p = true then (List.range (l.length + 1)).map (lfN l p.toNat) else []
def stpE (l : List UInt8) (p : Int) : Int := if mayP l p = true then 0 else 130
def invL (l : List UInt8) (p : Int) : List UInt8 := if mayP l p = true then (if okI l p.toNat = true then txtN l p.toNat else []) else []
def invE (l : List UInt8) (p : Int) : Int := if mayP l p = true then (if okI l p.toNat = true then 0 else 130) else 130
end Go.Proofs.Ytlhjbfckcfeikaa
namespace Go.Proofs.Ytlhjbfckcfeikaa
set_option linter.unusedVariables false
set_option linter.unusedSimpArgs false
open Go.RowKit

attribute [local go_sem] S_size S_toList S_extract S_beq S_bne S_empty S_nil u8_beq U8_fold U8_toNat

set_option maxRecDepth 20000 in
set_option maxHeartbeats 1000000 in
theorem at_any (l : List UInt8) (q row : Nat) (w : World) (hl : (l.length : Int) ≤ 1000000) (hq : q ≤ l.length) (hr : row < l.length + 1) (hne : row ≠ q) :
    Calls Try.prog 47 #[.string (S l), .int .i64 (q : Int), .int .i64 (row : Int)] w fun e w' => e = .returned (.int .u8 (U8 (byteAt l q row))) ∧ w = w' := by
  by_cases h : q < row
  · obtain ⟨i, rfl⟩ : ∃ i, row = i + 1 := ⟨row - 1, by omega⟩
    have ib := index_S l i (by omega) _ rfl
    have hb := Lib.hid (show byteAt l q (i + 1) = l.getD i 0 by unfold byteAt; rw [if_pos h]; rfl)
    have k1 : (q : Int) < (i : Int) + 1 := by omega
    have e0 : IntKind.i64.wrap (i : Int) = (i : Int) := IntWalk.i64_in _ (by omega)
    rw [show ((i + 1 : Nat) : Int) = (i : Int) + 1 from rfl]
    generalize l.getD i 0 = b at *
    go_enter Try.func47, Try.ntmps47
    go_wp2
    go_ret
    exact ⟨by rw [hb.out]; rfl, rfl⟩
  · have ib := index_S l row (by omega) _ rfl
    have hb := Lib.hid (show byteAt l q row = l.getD row 0 by unfold byteAt; rw [if_neg h])
    have k1 : ¬ (q : Int) < (row : Int) := by omega
    generalize l.getD row 0 = b at *
    go_enter Try.func47, Try.ntmps47
    go_wp2
    go_ret
    exact ⟨by rw [hb.out]; rfl, rfl⟩

set_option maxRecDepth 20000 in
set_option maxHeartbeats 1000000 in
theorem may_any (l : List UInt8) (p : Int) (w : World) :
    Calls Try.prog 48 #[.string (S l), .int .i64 p] w fun e w' => e = .returned (.bool (mayP l p)) ∧ w = w' := by
  by_cases hn : l = []
  · have hm := Lib.hid (show mayP l p = decide (p = 0) by unfold mayP; rw [if_pos hn])
    have hb : (l == ([] : List UInt8)) = true := by simpa using hn
    clear hn
    by_cases h0 : p = 0
    · have hz : (p == 0) = true := by simpa using h0
      go_enter Try.func48, Try.ntmps48
      go_wp2
      go_ret
      exact ⟨by rw [hm.out]; simp [h0], rfl⟩
    · have hz : (p == 0) = false := by simpa using h0
      go_enter Try.func48, Try.ntmps48
      go_wp2
      go_ret
      exact ⟨by rw [hm.out]; simp [h0], rfl⟩
  · have hm := Lib.hid (show mayP l p = decide (1 ≤ p ∧ p ≤ (l.length : Int)) by unfold mayP; rw [if_neg hn])
    have hb : (l == ([] : List UInt8)) = false := by simpa using hn
    clear hn
    by_cases h1 : 1 ≤ p
    · by_cases h2 : p ≤ (l.length : Int)
      · have hr := Lib.hid (hm.out.trans (decide_eq_true ⟨h1, h2⟩))
        go_enter Try.func48, Try.ntmps48
        go_wp2
        go_ret
        exact ⟨by rw [hr.out]; simp [h2], rfl⟩
      · have hr := Lib.hid (hm.out.trans (decide_eq_false (fun h => h2 h.2)))
        go_enter Try.func48, Try.ntmps48
        go_wp2
        go_ret
        exact ⟨by rw [hr.out]; simp <;> omega, rfl⟩
    · have hr := Lib.hid (hm.out.trans (decide_eq_false (fun h => h1 h.1)))
      go_enter Try.func48, Try.ntmps48
      go_wp2
      go_ret
      exact ⟨by rw [hr.out]; rfl, rfl⟩

/-- 256 numbers, as cells -/
def numsV (l : List Nat) : Array Value := ((toI l).map (Value.int .i64)).toArray
theorem numsV_size (l : List Nat) : (numsV l).size = l.length := by simp [numsV, toI]
theorem numsV_get (l : List Nat) (k : Nat) (h : k < l.length) : (numsV l)[k]? = some (.int .i64 ((l.getD k 0 : Nat) : Int)) := by
  simp [numsV, toI, List.getD_eq_getElem?_getD, h]
theorem numsV_set (l : List Nat) (k x : Nat) : (numsV l).setIfInBounds k (.int .i64 (x : Int)) = numsV (l.set k x) := by
  simp [numsV, toI, List.map_set]
theorem numsV_one (l : List Nat) : (numsV l).all (·.oneCell') = true := by
  simp [numsV, Value.oneCell']
theorem nums_size {l : List Nat} (h : l.length = 256) : (Try.prog.info? 86).map (·.size) = some (numsV l).size := by
  rw [numsV_size, h]; kernel_rfl
theorem nextL_length (l : List UInt8) (q row : Nat) : (nextL l q row).length = 256 := by simp [nextL]
theorem nextL_get (l : List UInt8) (q row b : Nat) (hb : b < 256) : (nextL l q row).getD b 0 = nextN l q row b := mr_getD _ _ _ hb

set_option maxRecDepth 20000 in
set_option maxHeartbeats 1000000 in
theorem step_any (a : List Nat) (b : UInt8) (g : Nat) (w : World) (ha : a.length = 256) (hg : Blk w g 86 (numsV a)) (hs : ∀ i, i < 256 → a.getD i 0 ≤ 1000000) :
    Calls Try.prog 50 #[.int .u8 (U8 b), .pointer (some ⟨g, 0, none⟩)] w fun e w' => e = .returned (.int .i64 ((a.getD b.toNat 0 : Nat) : Int)) ∧ w' = w.setCell ⟨g, b.toNat, none⟩ (.int .i64 ((a.getD b.toNat 0 : Nat) + 1 : Int)) := by
  have hb := B8_lt b
  have c1 := hg.cell (B8 b)
  rw [numsV_get a _ (by rw [ha]; exact hb)] at c1
  have f1 := hg.frozen (B8 b)
  have hle := hs (B8 b) hb
  have B2 := hg.set_ (B8 b) (.int .i64 ((a.getD (B8 b) 0 : Nat) + 1 : Int))
  have c2 := B2.cell (B8 b)
  rw [Array.getElem?_setIfInBounds_self_of_lt (by rw [numsV_size, ha]; exact hb)] at c2
  have hu0 := U8_nonneg b
  have hu1 := U8_lt b
  have hbt : b.toNat = B8 b := rfl
  rw [hbt]
  have hcc := Lib.hid c2
  clear B2 hg hs c2
  generalize a.getD (B8 b) 0 = x at *
  have e2 : IntKind.i64.wrap (x : Int) = (x : Int) := IntWalk.i64_in _ (by omega)
  go_enter Try.func50, Try.ntmps50
  have c2 := hcc.out
  go_wp2
  go_ret
  exact ⟨rfl, rfl⟩
end Go.Proofs.Ytlhjbfckcfeikaa
namespace Go.Proofs.Ytlhjbfckcfeikaa
set_option linter.unusedVariables false
set_option linter.unusedSimpArgs false
open Go.RowKit

theorem z256_eq : Try.zeroCells86 = numsV (List.replicate 256 0) := by kernel_rfl
theorem z256_ne : ¬ Try.zeroCells86 = #[] := by
  intro h
  have := congrArg Array.size h
  rw [z256_eq, numsV_size, List.length_replicate] at this
  cases this
theorem z256_run (w : World) : (zeroValue 86).run Try.prog w = .ok (.agg Try.zeroCells86) w := by kernel_rfl
theorem run_index_nums (a : List Nat) (ha : a.length = 256) (k : Nat) (hk : k < 256) (w : World) : (Instr.index 86 (.agg (numsV a)) (.int .i64 (k : Int))).run Try.prog w = .ok (.int .i64 ((a.getD k 0 : Nat) : Int)) w := by
  have hn := numsV_get a k (by omega)
  have h1 : (0 : Int) ≤ (k : Int) ∧ (k : Int) < 256 := by omega
  simp [Instr.index, run_underlying Try.underlying86, asIntOf, hn, h1, go_sem]
  omega
attribute [local go_sem] S_size S_toList S_extract S_beq S_bne S_empty S_nil u8_beq U8_fold U8_toNat z256_run z256_ne

/-- how often each byte comes in the first k -/
def cntsL (l : List UInt8) (k : Nat) : List Nat := (List.range 256).map (cntL (l.take k))
theorem cnts_zero (l : List UInt8) : cntsL l 0 = List.replicate 256 0 := by
  unfold cntsL
  rw [List.eq_replicate_iff]
  refine ⟨by simp, fun b hb => ?_⟩
  obtain ⟨j, _, rfl⟩ := List.mem_map.1 hb
  rfl
theorem cntL_snoc (l : List UInt8) (k : Nat) (h : k < l.length) (b : Nat) : cntL (l.take (k + 1)) b = cntL (l.take k) b + if (l.getD k 0).toNat = b then 1 else 0 := by
  unfold cntL
  rw [List.take_succ_eq_append_getElem h, List.filter_append, List.length_append, List.getD_eq_getElem?_getD, List.getElem?_eq_getElem h]
  show _ + ([l[k]].filter _).length = _ + if (l[k]).toNat = b then 1 else 0
  by_cases e : (l[k]).toNat = b
  · rw [if_pos e, List.filter_cons_of_pos (by simpa using e)]; rfl
  · rw [if_neg e, List.filter_cons_of_neg (by simpa using e)]; rfl
theorem cnts_step (l : List UInt8) (k : Nat) (h : k < l.length) : (cntsL l k).set (l.getD k 0).toNat (cntL (l.take k) (l.getD k 0).toNat + 1) = cntsL l (k + 1) := by
  unfold cntsL
  rw [mr_set]
  refine mr_congr fun i hi => ?_
  rw [cntL_snoc l k h]
  by_cases e : i = (l.getD k 0).toNat
  · rw [if_pos e, if_pos e.symm, e]
  · rw [if_neg e, if_neg (fun h => e h.symm)]; rfl
theorem cnts_length (l : List UInt8) (k : Nat) : (cntsL l k).length = 256 := by simp [cntsL]
theorem cnts_get (l : List UInt8) (k b : Nat) (hb : b < 256) : (cntsL l k).getD b 0 = cntL (l.take k) b := mr_getD _ _ _ hb
theorem cntL_le (l : List UInt8) (b : Nat) : cntL l b ≤ l.length := List.length_filter_le _ _
/-- the first k have been turned into beginnings -/
def begL (l : List UInt8) (k : Nat) : List Nat := (List.range 256).map fun b => if b < k then stN l b else cntL l b
theorem beg_zero (l : List UInt8) : cntsL l l.length = begL l 0 := mr_congr fun i _ => by rw [List.take_length]; simp
theorem beg_step (l : List UInt8) (k : Nat) : (begL l k).set k (stN l k) = begL l (k + 1) := by
  unfold begL
  rw [mr_set]
  refine mr_congr fun i hi => ?_
  by_cases e : i = k
  · rw [if_pos e, if_pos (by omega), e]
  · rw [if_neg e]
    by_cases h : i < k
    · rw [if_pos h, if_pos (by omega)]
    · rw [if_neg h, if_neg (by omega)]
theorem beg_all (l : List UInt8) (q : Nat) : begL l 256 = nextL l q 0 := mr_congr fun i hi => by rw [if_pos hi, next_zero]
theorem beg_length (l : List UInt8) (k : Nat) : (begL l k).length = 256 := by simp [begL]

set_option maxRecDepth 20000 in
set_option maxHeartbeats 4000000 in
theorem starts_any (l : List UInt8) (w : World) (hl : (l.length : Int) ≤ 1000000) :
    Calls Try.prog 49 #[.string (S l)] w fun e w' => e = .returned (.agg (numsV (nextL l 0 0))) ∧ Ext w w' := by
  have hz : Try.zeroCells86 = numsV (cntsL l 0) := by rw [cnts_zero]; exact z256_eq
  have b2 : Blk ((w.alloc (.cells Try.zeroCells86 86)).alloc (.cells Try.zeroCells86 86)) w.heap.size 86 (numsV (cntsL l 0)) := by
    rw [hz]; exact (Blk.new w _ _).alloc _
  have b3 : Blk ((w.alloc (.cells Try.zeroCells86 86)).alloc (.cells Try.zeroCells86 86)) (w.heap.size + 1) 86 (numsV (cntsL l 0)) := by
    have h := Blk.new (w.alloc (.cells Try.zeroCells86 86)) 86 Try.zeroCells86
    rw [World.size_alloc] at h
    rw [← hz]; exact h
  have x0 := Lib.hid (((Ext.refl w).alloc (.cells Try.zeroCells86 86)).alloc (.cells Try.zeroCells86 86))
  have B2 := Lib.hid b2
  have B3 := Lib.hid b3
  clear b2 b3 hz
  go_enter Try.func49, Try.ntmps49
  go_wp2
  generalize ((w.alloc (.cells Try.zeroCells86 86)).alloc (.cells Try.zeroCells86 86)) = W0 at *
  go_loopw [4] (fun i wr => ∃ k : Nat, k ≤ l.length ∧ i = .int .i64 (k : Int) ∧ Blk wr (w.heap.size + 1) 86 (numsV (cntsL l k)) ∧ Blk wr w.heap.size 86 (numsV (cntsL l 0)) ∧ Ext w wr) (fun i _ => l.length - (intOf i).toNat)
  case atStart => exact ⟨0, by omega, rfl, B3.out, B2.out, x0.out⟩
  case round =>
    obtain ⟨k, hk, rfl, hb, hb2, hx⟩ := hrel
    clear B2 B3 x0
    by_cases hlt : k < l.length
    · have ib := index_S l k hlt _ rfl
      have HS := Lib.hid (show (cntsL l k).set (B8 (l.getD k 0)) (cntL (l.take k) (B8 (l.getD k 0)) + 1) = cntsL l (k + 1) from cnts_step l k hlt)
      have hle := cntL_le (l.take k) (B8 (l.getD k 0))
      rw [List.length_take] at hle
      have hg := cnts_get l k (B8 (l.getD k 0)) (B8_lt _)
      generalize l.getD k 0 = b at *
      have hlt8 := B8_lt b
      have hu0 := U8_nonneg b
      have hu1 := U8_lt b
      have c1 := hb.cell (B8 b)
      rw [numsV_get _ _ (by rw [cnts_length]; exact hlt8), hg] at c1
      have f1 := hb.frozen (B8 b)
      have B4 := hb.set_ (B8 b) (.int .i64 ((cntL (l.take k) (B8 b) + 1 : Nat) : Int))
      rw [numsV_set, HS.out] at B4
      have B4 := Lib.hid B4
      have B5 := Lib.hid (hb2.far (p := ⟨w.heap.size + 1, B8 b, none⟩) (by simp) (.int .i64 ((cntL (l.take k) (B8 b) + 1 : Nat) : Int)))
      have X4 := Lib.hid (Ext.set hx (p := ⟨w.heap.size + 1, B8 b, none⟩) (by simp) (.int .i64 ((cntL (l.take k) (B8 b) + 1 : Nat) : Int)))
      have hki : (k : Int) < (l.length : Int) := by omega
      clear hb hb2 hx hg HS
      generalize cntL (l.take k) (B8 b) = x at *
      rw [show ((x + 1 : Nat) : Int) = (x : Int) + 1 from rfl] at *
      go_wp2
      go_roundw
      case rel => exact ⟨k + 1, by omega, by go_num, B4.out, B5.out, X4.out⟩
      case measure => simp [intOf]; omega
    · have e : k = l.length := by omega
      subst e
      have HI := Lib.hid (fun (b : Nat) (hb : b < 256) (w : World) => run_index_nums (cntsL l l.length) (cnts_length _ _) b hb w)
      have HC := Lib.hid (fun (b : Nat) (hb : b < 256) => by
        have := cnts_get l l.length b hb
        rw [List.take_length] at this
        exact this)
      have NS := Lib.hid (nums_size (cnts_length l l.length))
      have HB := Lib.hid hb
      have HB0 := Lib.hid hb
      rw [beg_zero] at HB0
      have HB2 := Lib.hid hb2
      have HX := Lib.hid hx
      clear hb hb2 hx hlt hk
      go_wp2_with (refine wpList_load_blk rfl 86 (.tmp 3) rfl rfl HB.out Try.underlying86 rfl NS.out ?_)
      go_loopw [22, 5] (fun i n w2 => ∃ k : Nat, k ≤ 256 ∧ i = .int .i64 (k : Int) ∧ n = .int .i64 (stN l k : Int) ∧ Blk w2 (w.heap.size + 1) 86 (numsV (begL l k)) ∧ Blk w2 w.heap.size 86 (numsV (cntsL l 0)) ∧ Ext w w2) (fun i _ _ => 256 - (intOf i).toNat)
      case atStart => exact ⟨0, by omega, rfl, rfl, HB0.out, HB2.out, HX.out⟩
      case round =>
        rename World => w2
        obtain ⟨k, hk, rfl, rfl, hb, hb2, hx⟩ := hrel
        clear HB HB0 HB2
        by_cases hlt : k < 256
        · have ix := HI.out k hlt
          rw [HC.out k hlt] at ix
          have HS := Lib.hid (show stN l (k + 1) = stN l k + cntL l k from rfl)
          have h1 := st_le (l := l) k (by omega)
          have h2 := st_le (l := l) (k + 1) (by omega)
          rw [HS.out] at h2
          have f1 := hb.frozen k
          have c1 := hb.cell k
          rw [numsV_get _ _ (by rw [beg_length]; exact hlt)] at c1
          have B4 := hb.set_ k (.int .i64 (stN l k : Int))
          rw [numsV_set, beg_step] at B4
          have B4 := Lib.hid B4
          have B5 := Lib.hid (hb2.far (p := ⟨w.heap.size + 1, k, none⟩) (by simp) (.int .i64 (stN l k : Int)))
          have X4 := Lib.hid (Ext.set hx (p := ⟨w.heap.size + 1, k, none⟩) (by simp) (.int .i64 (stN l k : Int)))
          have hki : (k : Int) < 256 := by omega
          clear hb hb2 hx
          generalize cntL l k = x at *
          generalize stN l k = y at *
          generalize (begL l k).getD k 0 = old at *
          go_wp2
          go_roundw
          case rel => exact ⟨k + 1, by omega, by go_num, by rw [HS.out]; go_num, B4.out, B5.out, X4.out⟩
          case measure => simp [intOf]; omega
        · have e : k = 256 := by omega
          subst e
          rw [beg_all l 0] at hb
          have HB := Lib.hid hb
          have HB2 := Lib.hid hb2
          have HX := Lib.hid hx
          have NS := Lib.hid (nums_size (nextL_length l 0 0))
          clear hb hb2 hx hlt hk
          go_wp2_with (first
            | (refine wpList_load_blk rfl 86 (.tmp 3) rfl rfl HB.out Try.underlying86 rfl NS.out ?_)
            | (refine wpList_store_blk rfl 86 (.tmp 2) (.tmp 33) rfl rfl rfl HB2.out (by rw [numsV_size, numsV_size, cnts_length, nextL_length]) NS.out (numsV_one _) ?_))
          exact bodyPost_ret (results_cell_row rfl _ _ w.heap.size _ _ (0, 0) _ rfl (HB2.out.setRow _) Try.underlying86 rfl NS.out) rfl ⟨rfl, Ext.setRow HX.out (Nat.le_refl _) _⟩
end Go.Proofs.Ytlhjbfckcfeikaa
namespace Go.Proofs.Ytlhjbfckcfeikaa
set_option linter.unusedVariables false
set_option linter.unusedSimpArgs false
open Go.RowKit

attribute [local go_sem] S_size S_toList S_extract S_beq S_bne S_empty S_nil u8_beq U8_fold U8_toNat z256_run z256_ne

/-- the first k steps -/
def lfTo (l : List UInt8) (q k : Nat) : List Nat := (List.range (l.length + 1)).map fun j => if j < k then lfN l q j else 0
theorem lfTo_zero (l : List UInt8) (q : Nat) : lfTo l q 0 = List.replicate (l.length + 1) 0 := by
  unfold lfTo
  rw [List.eq_replicate_iff]
  refine ⟨by simp, fun b hb => ?_⟩
  obtain ⟨j, _, rfl⟩ := List.mem_map.1 hb
  rfl
theorem lfTo_step (l : List UInt8) (q k : Nat) : (lfTo l q k).set k (lfN l q k) = lfTo l q (k + 1) := by
  unfold lfTo
  rw [mr_set]
  refine mr_congr fun i hi => ?_
  by_cases e : i = k
  · rw [if_pos e, if_pos (by omega), e]
  · rw [if_neg e]
    by_cases h : i < k
    · rw [if_pos h, if_pos (by omega)]
    · rw [if_neg h, if_neg (by omega)]
theorem lfTo_q (l : List UInt8) (q : Nat) : lfTo l q q = lfTo l q (q + 1) := mr_congr fun i hi => by
  by_cases h : i < q
  · rw [if_pos h, if_pos (by omega)]
  · rw [if_neg h]
    by_cases h2 : i < q + 1
    · have : i = q := by omega
      rw [if_pos h2, this, lf_q]
    · rw [if_neg h2]
theorem lfTo_all (l : List UInt8) (q : Nat) : lfTo l q (l.length + 1) = (List.range (l.length + 1)).map (lfN l q) := mr_congr fun i hi => if_pos hi
theorem next_le (l : List UInt8) (q k b : Nat) (hb : b < 256) (hk : k ≤ l.length + 1) : nextN l q k b ≤ 2 * l.length + 2 := by
  have h1 := st_le (l := l) b (by omega)
  have h2 : cnt (keyN l q) (List.range k) (b + 1) ≤ (List.range k).length := cnt_le _ _ _
  rw [List.length_range] at h2
  unfold nextN
  omega
theorem stp_no {l : List UInt8} {p : Int} (h : mayP l p = false) : stpE l p = 130 ∧ stpL l p = [] := by
  unfold stpE stpL; rw [h]; exact ⟨rfl, rfl⟩
theorem stp_yes {l : List UInt8} {q : Nat} (h : mayP l (q : Int) = true) : stpE l q = 0 ∧ stpL l q = (List.range (l.length + 1)).map (lfN l q) := by
  unfold stpE stpL; rw [h]; exact ⟨rfl, rfl⟩

set_option maxRecDepth 20000 in
set_option maxHeartbeats 4000000 in
theorem steps_any (l : List UInt8) (p : Int) (w : World) (hl : (l.length : Int) ≤ 20000) :
    Calls Try.prog 25 #[.string (S l), .int .i64 p] w fun e w' => ∃ u, e = .returned (.tuple #[u, .int .i64 (stpE l p)]) ∧ Ext w w' ∧ RI w' u (toI (stpL l p)) := by
  have hmf : ∀ (fn : Fn) (first cap : Array Value) (w : World), (Instr.makeFunc fn first cap).run Try.prog w = .ok (.func fn first cap) w := fun _ _ _ _ => rfl
  have QM := Lib.hid (may_any l p w)
  have n1 : ¬ (20000 : Int) < (l.length : Int) := by omega
  cases hm : mayP l p with
  | false =>
    have HF := Lib.hid (stp_no hm)
    rw [hm] at QM
    clear hm
    go_enter Try.func25, Try.ntmps25
    go_wp2_with fail
    refine (QM.out).mono ?_
    rintro _ w1 ⟨rfl, rfl⟩
    go_wp2
    go_ret2
    exact ⟨_, by rw [HF.out.1]; rfl, Ext.refl _, by rw [HF.out.2]; exact RI.nil _⟩
  | true =>
    obtain ⟨q, rfl, hq⟩ := may_some hm
    have HF := Lib.hid (stp_yes hm)
    rw [hm] at QM
    clear hm
    have QS := Lib.hid (starts_any l w (by omega))
    have NS := Lib.hid (nums_size (nextL_length l 0 0))
    have NO := Lib.hid (numsV_one (nextL l 0 0))
    have ZS := Lib.hid (show Try.zeroCells86.size = (numsV (nextL l 0 0)).size by rw [z256_eq, numsV_size, numsV_size, List.length_replicate, nextL_length])
    have WW := w64_small (n := (l.length : Int) + 1) (by omega) (by omega)
    go_enter Try.func25, Try.ntmps25
    go_wp2_with fail
    refine (QM.out).mono ?_
    rintro _ w0 ⟨rfl, rfl⟩
    go_wp2_with fail
    refine (QS.out).mono ?_
    rintro _ w1 ⟨rfl, x1⟩
    have X1 := Lib.hid x1
    clear x1 QM QS
    have B6 := Lib.hid ((Blk.new w1 86 (numsV (nextL l 0 0))).alloc (.cells (madeCells #[.int .i64 0] (l.length + 1)) 3))
    have hmk := make_run (w1.alloc (.cells (numsV (nextL l 0 0)) 86)) (l.length + 1) (by omega) ((l.length : Int) + 1) (by omega)
    have H0 := NW.make (w1.alloc (.cells (numsV (nextL l 0 0)) 86)) (l.length + 1) (by omega)
    rw [World.size_alloc] at hmk H0
    rw [← lfTo_zero l q] at H0
    have H0 := Lib.hid H0
    have XA := Lib.hid (((Ext.refl w1).alloc (.cells (numsV (nextL l 0 0)) 86)).alloc (.cells (madeCells #[.int .i64 0] (l.length + 1)) 3))
    have B6q : Hid (Blk ((w1.alloc (.cells (numsV (nextL l 0 0)) 86)).alloc (.cells (madeCells #[.int .i64 0] (l.length + 1)) 3)) w1.heap.size 86 (numsV (nextL l q 0))) := B6
    go_wp2_with (refine wpList_store_new (cs' := numsV (nextL l 0 0)) rfl 86 (.tmp 6) (.tmp 18) rfl rfl rfl ZS.out NS.out NO.out ?_)
    clear hmk
    generalize ((w1.alloc (.cells (numsV (nextL l 0 0)) 86)).alloc (.cells (madeCells #[.int .i64 0] (l.length + 1)) 3)) = W0 at *
    generalize numsV (nextL l 0 0) = arr0 at *
    go_loopw [26] (fun i wr => ∃ k : Nat, k ≤ l.length + 1 ∧ i = .int .i64 (k : Int) ∧ Blk wr w1.heap.size 86 (numsV (nextL l q k)) ∧ NW wr (w1.heap.size + 1) (w1.heap.size + 1) (l.length + 1) (lfTo l q k) ∧ Ext w1 wr) (fun i _ => l.length + 1 - (intOf i).toNat)
    case atStart => exact ⟨0, by omega, rfl, B6q.out, H0.out, XA.out⟩
    case round =>
      obtain ⟨k, hk, rfl, hb, hw, hx⟩ := hrel
      clear B6 B6q H0 XA
      by_cases hlt : k < l.length + 1
      · have hki : (k : Int) < (l.length : Int) + 1 := by omega
        have HB := Lib.hid hb
        have HW := Lib.hid hw
        have HX := Lib.hid hx
        clear hb hw hx
        by_cases hkq : k = q
        · subst hkq
          have hbe : ((k : Int) != (k : Int)) = false := by simp
          have HB := Lib.hid (show Blk wr w1.heap.size 86 (numsV (nextL l k (k + 1))) from by rw [nextL_q]; exact HB.out)
          have HW := Lib.hid (show NW wr (w1.heap.size + 1) (w1.heap.size + 1) (l.length + 1) (lfTo l k (k + 1)) from by rw [← lfTo_q]; exact HW.out)
          go_wp2
          go_roundw
          case rel => exact ⟨k + 1, by omega, by go_num, HB.out, HW.out, HX.out⟩
          case measure => simp [intOf]; omega
        · have hbe : ((k : Int) != (q : Int)) = true := by simp; omega
          have QA := Lib.hid (at_any l q k wr (by omega) hq hlt hkq)
          have hlen := nextL_length l q k
          have QS := Lib.hid (step_any (nextL l q k) (byteAt l q k) w1.heap.size wr hlen HB.out (fun i hi => by rw [nextL_get _ _ _ _ hi]; have := next_le l q k i hi hk; omega))
          rw [nextL_get _ _ _ _ (byteAt l q k).toNat_lt, next_lf hkq hq] at QS
          have B4 := HB.out.set_ (byteAt l q k).toNat (.int .i64 ((lfN l q k : Nat) + 1 : Int))
          rw [show ((lfN l q k : Nat) : Int) + 1 = ((lfN l q k + 1 : Nat) : Int) from rfl, numsV_set, ← next_lf hkq hq, nextL_step hkq] at B4
          have hnl := next_lf hkq hq
          rw [hnl] at B4
          have X4 := Ext.set HX.out (p := ⟨w1.heap.size, (byteAt l q k).toNat, none⟩) (Nat.le_refl _) (.int .i64 ((lfN l q k : Nat) + 1 : Int))
          have N4 := HW.out.far (p := ⟨w1.heap.size, (byteAt l q k).toNat, none⟩) (by simp) (.int .i64 ((lfN l q k : Nat) + 1 : Int))
          rw [show ((lfN l q k + 1 : Nat) : Int) = ((lfN l q k : Nat) : Int) + 1 from rfl] at B4
          have HLS := lfTo_step l q k
          generalize byteAt l q k = b at *
          generalize lfN l q k = y at *
          have c5 := N4.cell k hlt
          have f5 := N4.free k hlt
          have N5 := N4.set k y
          rw [HLS] at N5
          have N5 := Lib.hid N5
          have B5 := Lib.hid (B4.far (p := ⟨w1.heap.size + 1, k, none⟩) (by simp) (.int .i64 (y : Int)))
          have X5 := Lib.hid (Ext.set X4 (p := ⟨w1.heap.size + 1, k, none⟩) (by simp) (.int .i64 (y : Int)))
          generalize (lfTo l q k).getD k 0 = old at *
          have C5 := Lib.hid c5
          have F5 := Lib.hid f5
          clear N4 B4 X4 c5 f5 HLS hnl HB HW HX hlen
          go_wp2_with fail
          refine (QA.out).mono ?_
          rintro _ w2 ⟨rfl, rfl⟩
          go_wp2_with fail
          refine (QS.out).mono ?_
          rintro _ w3 ⟨rfl, rfl⟩
          have c5 := C5.out
          have f5 := F5.out
          go_wp2
          go_roundw
          case rel => exact ⟨k + 1, by omega, by go_num, B5.out, N5.out, X5.out⟩
          case measure => simp [intOf]; omega
      · have e : k = l.length + 1 := by omega
        subst e
        rw [lfTo_all] at hw
        have HI := Lib.hid hw.rn.ri
        have HX := Lib.hid (X1.out.trans hx)
        clear hb hw hx hlt hk
        go_wp2
        go_ret2
        exact ⟨_, by rw [HF.out.1]; rfl, HX.out, by rw [HF.out.2]; exact HI.out⟩
end Go.Proofs.Ytlhjbfckcfeikaa
namespace Go.Proofs.Ytlhjbfckcfeikaa
set_option linter.unusedVariables false
set_option linter.unusedSimpArgs false
open Go.RowKit

attribute [local go_sem] S_size S_toList S_extract S_beq S_bne S_empty S_nil u8_beq U8_fold U8_toNat

theorem w64_u8 (b : UInt8) : IntKind.i64.wrap (U8 b) = U8 b := by
  have h0 := U8_nonneg b
  have h1 := U8_lt b
  exact IntWalk.i64_in _ (by omega)

set_option maxRecDepth 20000 in
set_option maxHeartbeats 4000000 in
theorem column_any (l : List UInt8) (q : Nat) (w : World) (hl : (l.length : Int) ≤ 20000) (hq : q ≤ l.length) :
    Calls Try.prog 52 #[.string (S l), .int .i64 (q : Int)] w fun e w' => ∃ u, e = .returned u ∧ Ext w w' ∧ RI w' u (colL l q (l.length + 1)) := by
  go_enter Try.func52, Try.ntmps52
  go_wp2
  go_loopw [5, 6] (fun v i wr => ∃ k : Nat, k ≤ l.length ∧ i = .int .i64 (k : Int) ∧ IW wr w.heap.size v (colL l q (if q < k then k + 1 else k)) ∧ Ext w wr) (fun _ i _ => l.length - (intOf i).toNat)
  case atStart => exact ⟨0, by omega, rfl, IW.nil _ _, Ext.refl _⟩
  case round =>
    obtain ⟨k, hk, rfl, hw, hx⟩ := hrel
    by_cases hlt : k < l.length
    · have ib := index_S l k hlt _ rfl
      have hki : (k : Int) < (l.length : Int) := by omega
      have wb := w64_u8 (l.getD k 0)
      have hu0 := U8_nonneg (l.getD k 0)
      have hu1 := U8_lt (l.getD k 0)
      by_cases hkq : k = q
      · subst hkq
        rw [if_neg (Nat.lt_irrefl k)] at hw
        obtain ⟨v1, w1, p1, i1, x1, _⟩ := hw.app hx.le (-1) (by rw [col_length]; omega)
        have X1 : Ext w w1 := Below.trans hx x1
        rw [← col_q (l := l) (q := k), col_snoc] at i1
        obtain ⟨v2, w2, p2, i2, x2, _⟩ := i1.app X1.le (U8 (l.getD k 0)) (by rw [col_length]; omega)
        have X2 := Lib.hid (Below.trans X1 x2 : Ext w w2)
        rw [show U8 (l.getD k 0) = colI l k (k + 1) from (col_above (Nat.le_refl k)).symm, col_snoc] at i2
        have I2 := Lib.hid (show IW w2 w.heap.size v2 (colL l k (if k < k + 1 then k + 1 + 1 else k + 1)) from by rw [if_pos (Nat.lt_succ_self k)]; exact i2)
        clear hw hx i1 x1 x2 i2 X1
        generalize l.getD k 0 = b at *
        go_wp2_with (first
          | (at_builtin; refine wpList_app rfl (.tmp 16) (.tmp 17) 31 rfl rfl rfl rfl p1 ?_)
          | (at_builtin; refine wpList_app rfl (.tmp 19) (.tmp 24) 31 rfl rfl rfl rfl p2 ?_))
        go_roundw
        case rel => exact ⟨k + 1, by omega, by go_num, I2.out, X2.out⟩
        case measure => simp [intOf]; omega
      · have hbe : ((k : Int) == (q : Int)) = false := by simp; omega
        obtain ⟨v2, w2, p2, i2, x2, _⟩ := hw.app hx.le (U8 (l.getD k 0)) (by rw [col_length]; split <;> omega)
        have X2 := Lib.hid (Below.trans hx x2 : Ext w w2)
        have I2 := Lib.hid (show IW w2 w.heap.size v2 (colL l q (if q < k + 1 then k + 1 + 1 else k + 1)) from by
          by_cases h : q < k
          · rw [if_pos h] at i2
            rw [if_pos (by omega), ← col_snoc, col_above (by omega)]; exact i2
          · rw [if_neg h] at i2
            rw [if_neg (by omega), ← col_snoc, col_below (by omega)]; exact i2)
        clear hw hx x2 i2
        generalize l.getD k 0 = b at *
        go_wp2_with (at_builtin; refine wpList_app rfl (.tmp 19) (.tmp 24) 31 rfl rfl rfl rfl p2 ?_)
        go_roundw
        case rel => exact ⟨k + 1, by omega, by go_num, I2.out, X2.out⟩
        case measure => simp [intOf]; omega
    · have e : k = l.length := by omega
      subst e
      by_cases hqn : q = l.length
      · subst hqn
        rw [if_neg (Nat.lt_irrefl l.length)] at hw
        obtain ⟨v1, w1, p1, i1, x1, _⟩ := hw.app hx.le (-1) (by rw [col_length]; omega)
        have X1 := Lib.hid (Below.trans hx x1 : Ext w w1)
        rw [← col_q (l := l) (q := l.length), col_snoc] at i1
        have I1 := Lib.hid i1.ri
        clear hw hx x1 i1
        go_wp2_with (at_builtin; refine wpList_app rfl (.tmp 30) (.tmp 31) 31 rfl rfl rfl rfl p1 ?_)
        go_ret
        exact ⟨_, rfl, X1.out, I1.out⟩
      · have hbe : ((q : Int) == (l.length : Int)) = false := by simp; omega
        rw [if_pos (by omega)] at hw
        have I1 := Lib.hid hw.ri
        have X1 := Lib.hid hx
        clear hw hx
        go_wp2
        go_ret
        exact ⟨_, rfl, X1.out, I1.out⟩
end Go.Proofs.Ytlhjbfckcfeikaa
