/- Frames: the plain laws of what was framed, and of scans. -/
import Derived.Test.YthomdpdiknnahaaFrK
namespace Go.Proofs.Ythomdpdiknnahaa
set_option linter.unusedVariables false
set_option linter.unusedSimpArgs false

theorem mid_of (p q r : List UInt8) : ((p ++ (q ++ r)).take (p.length + q.length)).drop p.length = q := by
  rw [← List.append_assoc, show p.length + q.length = (p ++ q).length by simp, List.take_left, List.drop_left]
theorem mid_of' {l : List UInt8} (p q r : List UInt8) (h : l = p ++ (q ++ r)) {i j : Nat} (hi : i = p.length) (hj : j = p.length + q.length) : (l.take j).drop i = q := by
  subst h hi hj; exact mid_of p q r
theorem fix4_len (n : Nat) : (fix4 n).length = 4 := by rw [fix4_eq]; rfl
theorem get_ok (l : List UInt8) (a : Int) : getE l a = 0 ↔ (0 ≤ a ∧ a + 9 + (bodyN l a : Int) ≤ (l.length : Int) ∧ 1 ≤ byteAt l a.toNat ∧ byteAt l a.toNat ≤ 4 ∧ bodyN l a ≤ 60000 ∧ sumOk l a = true) := by
  unfold getE
  by_cases h1 : a < 0 ∨ (l.length : Int) < a
  · rw [if_pos h1]
    refine ⟨fun h => absurd h (by decide), fun h => ?_⟩
    omega
  rw [if_neg h1]
  by_cases h2 : (l.length : Int) - a < 5
  · rw [if_pos h2]
    refine ⟨fun h => absurd h (by decide), fun h => ?_⟩
    omega
  rw [if_neg h2]
  by_cases h3 : 1 ≤ byteAt l a.toNat ∧ byteAt l a.toNat ≤ 4
  case neg =>
    rw [if_pos h3]
    refine ⟨fun h => absurd h (by decide), fun h => absurd ⟨h.2.2.1, h.2.2.2.1⟩ h3⟩
  rw [if_neg (fun h => h h3)]
  by_cases h4 : 60000 < bodyN l a
  · rw [if_pos h4]
    refine ⟨fun h => absurd h (by decide), fun h => ?_⟩
    omega
  rw [if_neg h4]
  by_cases h5 : (l.length : Int) - a - 9 < bodyN l a
  · rw [if_pos h5]
    refine ⟨fun h => absurd h (by decide), fun h => ?_⟩
    omega
  rw [if_neg h5]
  by_cases h6 : sumOk l a = true
  · rw [if_pos h6]
    exact ⟨fun _ => ⟨by omega, by omega, h3.1, h3.2, by omega, h6⟩, fun _ => rfl⟩
  · rw [if_neg h6]
    exact ⟨fun h => absurd h (by decide), fun h => absurd h.2.2.2.2.2 h6⟩
theorem getF_ok {l : List UInt8} {a : Int} (h : getE l a = 0) : getF l a = ⟨(byteAt l a.toNat : Int), (l.take (endN l a)).drop (a.toNat + 5), a, (endN l a : Int) + 4⟩ := by
  unfold getF; rw [if_pos h]

/-- what was framed is taken again -/
theorem frame_here (p : List UInt8) (k : Int) (b r : List UInt8) (hk : 1 ≤ k ∧ k ≤ 4) (hb : b.length ≤ 60000) :
    getE (p ++ (frameB k b ++ r)) (p.length : Int) = 0 ∧ getF (p ++ (frameB k b ++ r)) (p.length : Int) = ⟨k, b, p.length, (p.length : Int) + (b.length : Int) + 9⟩ := by
  generalize hl : p ++ (frameB k b ++ r) = l
  have hlen : l.length = p.length + (b.length + 9) + r.length := by rw [← hl, List.length_append, List.length_append, frameB_length]; omega
  have ta : ((p.length : Nat) : Int).toNat = p.length := by omega
  have h0 : byteAt l p.length = k.toNat := by
    unfold byteAt
    rw [← hl, List.getD_eq_getElem?_getD, List.getElem?_append_right (Nat.le_refl _), Nat.sub_self]
    show (UInt8.ofNat k.toNat).toNat = _
    rw [UInt8.toNat_ofNat']
    omega
  have h1 : bodyN l (p.length : Int) = b.length := by
    unfold bodyN
    rw [ta]
    refine ((fix4_iff (l := l) (e := p.length + 1) (by omega) (by omega)).1 (Eq.symm ?_)).symm
    refine mid_of' (p ++ [UInt8.ofNat k.toNat]) (fix4 b.length) (b ++ (fix4 (sumN (headB k b)) ++ r)) ?_ (by simp) (by simp [fix4_len])
    rw [← hl]
    unfold frameB
    generalize fix4 (sumN (headB k b)) = sm
    unfold headB
    simp
  have he : endN l (p.length : Int) = p.length + 5 + b.length := by unfold endN; rw [h1, ta]
  have h2 : (l.take (p.length + 5 + b.length)).drop p.length = headB k b := by
    refine mid_of' p (headB k b) (fix4 (sumN (headB k b)) ++ r) ?_ rfl (by rw [headB_length]; omega)
    rw [← hl]
    unfold frameB
    simp
  have h3 : un4 l (p.length + 5 + b.length) = sumN (headB k b) := by
    refine ((fix4_iff (l := l) (e := p.length + 5 + b.length) (by omega) (sumN_lt _)).1 (Eq.symm ?_)).symm
    refine mid_of' (p ++ headB k b) (fix4 (sumN (headB k b))) r ?_ (by rw [List.length_append, headB_length]; omega) (by rw [List.length_append, headB_length, fix4_len]; omega)
    rw [← hl]
    unfold frameB
    simp
  have h4 : (l.take (p.length + 5 + b.length)).drop (p.length + 5) = b := by
    refine mid_of' (p ++ (UInt8.ofNat k.toNat :: fix4 b.length)) b (fix4 (sumN (headB k b)) ++ r) ?_ (by simp [fix4_len]) (by simp [fix4_len])
    rw [← hl]
    unfold frameB
    generalize fix4 (sumN (headB k b)) = sm
    unfold headB
    simp
  have hE : getE l (p.length : Int) = 0 := by
    rw [get_ok]
    refine ⟨by omega, by rw [h1, hlen]; omega, by rw [ta, h0]; omega, by rw [ta, h0]; omega, by rw [h1]; exact hb, ?_⟩
    unfold sumOk
    rw [he, ta, h2, h3]
    exact decide_eq_true rfl
  refine ⟨hE, ?_⟩
  rw [getF_ok hE, he, ta, h0, h4]
  rw [f4_eq_iff]
  refine ⟨?_, rfl, rfl, ?_⟩
  · show ((k.toNat : Nat) : Int) = k; omega
  · show (((p.length + 5 + b.length : Nat) : Int)) + 4 = (p.length : Int) + (b.length : Int) + 9; omega

/-! ### a beginning of bytes -/
theorem byteAt_take {l : List UInt8} {c i : Nat} (h : i < c) : byteAt (l.take c) i = byteAt l i := by
  unfold byteAt
  rw [List.getD_eq_getElem?_getD, List.getElem?_take, if_pos h, ← List.getD_eq_getElem?_getD]
theorem un4_take {l : List UInt8} {c e : Nat} (h : e + 4 ≤ c) : un4 (l.take c) e = un4 l e := by
  rw [un4_eq, un4_eq, byteAt_take (by omega), byteAt_take (by omega), byteAt_take (by omega), byteAt_take (by omega)]
theorem ok_take {l : List UInt8} {c : Nat} {a : Int} (h0 : 0 ≤ a) (hb : bodyN (l.take c) a = bodyN l a) (h1 : a + 9 + (bodyN l a : Int) ≤ (c : Int)) : byteAt (l.take c) a.toNat = byteAt l a.toNat ∧ endN (l.take c) a = endN l a ∧ sumOk (l.take c) a = sumOk l a ∧ ((l.take c).take (endN l a)) = l.take (endN l a) := by
  have he : endN (l.take c) a = endN l a := by unfold endN; rw [hb]
  have hle : endN l a + 4 ≤ c := by unfold endN; omega
  have ht : ((l.take c).take (endN l a)) = l.take (endN l a) := by rw [List.take_take, Nat.min_eq_left (by omega)]
  refine ⟨byteAt_take (by omega), he, ?_, ht⟩
  unfold sumOk
  rw [he, ht, un4_take hle]
theorem get_take_yes {l : List UInt8} {c : Nat} {a : Int} (hc : c ≤ l.length) (h : getE (l.take c) a = 0) : getE l a = 0 ∧ getF (l.take c) a = getF l a := by
  have h' := h
  rw [get_ok, List.length_take, Nat.min_eq_left hc] at h
  obtain ⟨h1, h2, h3, h4, h5, h6⟩ := h
  have hb : bodyN (l.take c) a = bodyN l a := by unfold bodyN; exact un4_take (by omega)
  obtain ⟨e1, e2, e3, e4⟩ := ok_take h1 hb (by rw [← hb]; exact h2)
  have hE : getE l a = 0 := by
    rw [get_ok]
    rw [hb] at h2 h5
    rw [e1] at h3 h4
    rw [e3] at h6
    exact ⟨h1, by omega, h3, h4, h5, h6⟩
  refine ⟨hE, ?_⟩
  rw [getF_ok h', getF_ok hE, e1, e2, e4]
theorem get_take_no {l : List UInt8} {c : Nat} {a : Int} (hc : c ≤ l.length) (h : getE l a = 0) (ht : (getF l a).to ≤ (c : Int)) : getE (l.take c) a = 0 := by
  rw [getF_ok h] at ht
  replace ht : (endN l a : Int) + 4 ≤ (c : Int) := ht
  rw [get_ok] at h
  obtain ⟨h1, h2, h3, h4, h5, h6⟩ := h
  have h7 : a + 9 + (bodyN l a : Int) ≤ (c : Int) := by unfold endN at ht; omega
  have hb : bodyN (l.take c) a = bodyN l a := by unfold bodyN; exact un4_take (by omega)
  obtain ⟨e1, e2, e3, e4⟩ := ok_take h1 hb h7
  rw [get_ok, List.length_take, Nat.min_eq_left hc, hb, e1, e3]
  exact ⟨h1, h7, h3, h4, h5, h6⟩

theorem scan_take {l : List UInt8} {c : Nat} (hc : c ≤ l.length) : ∀ (n : Nat) (a : Int), l.length + 1 - a.toNat ≤ n →
    (scan l a).1 = (scan (l.take c) a).1 ++ (scan l (scan (l.take c) a).2).1 ∧ (scan l a).2 = (scan l (scan (l.take c) a).2).2 ∧
    ¬ (getE l (scan (l.take c) a).2 = 0 ∧ (getF l (scan (l.take c) a).2).to ≤ (c : Int)) := by
  intro n
  induction n with
  | zero =>
    intro a hn
    have h : ¬ getE (l.take c) a = 0 := fun h => by
      have := get_zero h
      rw [List.length_take, Nat.min_eq_left hc] at this
      omega
    rw [scan_stop h]
    refine ⟨rfl, rfl, fun hh => h (get_take_no hc hh.1 hh.2)⟩
  | succ n ih =>
    intro a hn
    by_cases h : getE (l.take c) a = 0
    · obtain ⟨hE, hF⟩ := get_take_yes hc h
      have hz := get_zero hE
      obtain ⟨i1, i2, i3⟩ := ih (getF l a).to (by omega)
      rw [scan_step h, scan_step hE, hF]
      refine ⟨?_, i2, i3⟩
      show getF l a :: (scan l (getF l a).to).1 = (getF l a :: (scan (l.take c) (getF l a).to).1) ++ _
      rw [i1]
      rfl
    · rw [scan_stop h]
      exact ⟨rfl, rfl, fun hh => h (get_take_no hc hh.1 hh.2)⟩
theorem scanN_to (l : List UInt8) : ∀ (n : Nat) (a : Int), 0 ≤ a → a ≤ (l.length : Int) → a ≤ (scanN n l a).2 ∧ (scanN n l a).2 ≤ (l.length : Int) := by
  intro n
  induction n with
  | zero => intro a h0 h1; exact ⟨Int.le_refl _, h1⟩
  | succ n ih =>
    intro a h0 h1
    unfold scanN
    split
    · rename_i h
      have hz := get_zero h
      have := ih (getF l a).to (by omega) (by omega)
      exact ⟨by omega, this.2⟩
    · exact ⟨Int.le_refl _, h1⟩
theorem scan_to (l : List UInt8) (a : Int) (h0 : 0 ≤ a) (h1 : a ≤ (l.length : Int)) : a ≤ (scan l a).2 ∧ (scan l a).2 ≤ (l.length : Int) := scanN_to l _ a h0 h1
/-- up to where frames were scanned, the same ones are -/
theorem scan_own (l : List UInt8) : scan (l.take (scan l 0).2.toNat) 0 = scan l 0 := by
  have hb := scan_to l 0 (Int.le_refl _) (by omega)
  have hc : (scan l 0).2.toNat ≤ l.length := by omega
  obtain ⟨i1, i2, i3⟩ := scan_take hc _ 0 (Nat.le_refl _)
  have hb2 := scan_to (l.take (scan l 0).2.toNat) 0 (Int.le_refl _) (by omega)
  rw [List.length_take, Nat.min_eq_left hc] at hb2
  generalize hp : scan (l.take (scan l 0).2.toNat) 0 = q at *
  have hno : ¬ getE l q.2 = 0 := fun h => by
    refine i3 ⟨h, ?_⟩
    have hz := get_zero h
    rw [scan_step h] at i2
    have := scan_to l (getF l q.2).to (by omega) (by omega)
    have i2' : (scan l 0).2 = (scan l (getF l q.2).to).2 := i2
    omega
  rw [scan_stop hno] at i1 i2
  rw [List.append_nil] at i1
  exact Prod.ext i1.symm i2.symm
/-- a frame more behind those that are scanned -/
theorem scan_more (l b : List UInt8) (hb : b.length ≤ 60000) :
    scan (l.take (scan l 0).2.toNat ++ frameB 2 b) 0 = ((scan l 0).1 ++ [⟨2, b, (scan l 0).2, (scan l 0).2 + (b.length : Int) + 9⟩], (scan l 0).2 + (b.length : Int) + 9) := by
  have hbd := scan_to l 0 (Int.le_refl _) (by omega)
  have hown := scan_own l
  generalize hc : (scan l 0).2.toNat = c at *
  have hcl : (l.take c).length = c := by rw [List.length_take]; omega
  have hcc : ((c : Nat) : Int) = (scan l 0).2 := by omega
  obtain ⟨g1, g2⟩ := frame_here (l.take c) 2 b [] (by decide) hb
  rw [List.append_nil, hcl] at g1 g2
  have hmt : (l.take c ++ frameB 2 b).take c = l.take c := by
    rw [List.take_append_of_le_length (by omega), List.take_take, Nat.min_self]
  have hml : (l.take c ++ frameB 2 b).length = c + (b.length + 9) := by rw [List.length_append, frameB_length, hcl]
  obtain ⟨i1, i2, i3⟩ := scan_take (l := l.take c ++ frameB 2 b) (c := c) (by omega) _ 0 (Nat.le_refl _)
  rw [hmt, hown, ← hcc, scan_step g1, g2] at i1 i2
  have hst : ¬ getE (l.take c ++ frameB 2 b) ((c : Int) + (b.length : Int) + 9) = 0 := fun h => by
    rw [get_ok, hml] at h
    omega
  have i1' : (scan (l.take c ++ frameB 2 b) 0).1 = (scan l 0).1 ++ (⟨2, b, c, (c : Int) + (b.length : Int) + 9⟩ :: (scan (l.take c ++ frameB 2 b) ((c : Int) + (b.length : Int) + 9)).1) := i1
  have i2' : (scan (l.take c ++ frameB 2 b) 0).2 = (scan (l.take c ++ frameB 2 b) ((c : Int) + (b.length : Int) + 9)).2 := i2
  rw [scan_stop hst] at i1' i2'
  rw [← hcc]
  exact Prod.ext i1' i2'
end Go.Proofs.Ythomdpdiknnahaa
