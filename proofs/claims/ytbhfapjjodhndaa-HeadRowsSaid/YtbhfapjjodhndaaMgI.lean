/- Several texts in one. merged: FtP FtQ FtH FtI FtJ SameM FtK -/
import Derived.Test.YtbhfapjjodhndaaMgH
import Derived.Test.YtbhfapjjodhndaaMgG
import Derived.Test.YtbhfapjjodhndaaMeta3
import Derived.Test.YtbhfapjjodhndaaMeta2
import Derived.Laws.StructEq
namespace Go.Proofs.Ytbhfapjjodhndaa
set_option linter.unusedVariables false
set_option linter.unusedSimpArgs false

theorem putF_up : ∀ (f n : Nat), n < 128 ^ (f + 1) → putF (f + 1) n = putF f n
  | 0, n, h => by
    have : n < 128 := by simpa using h
    rw [putF_small this, putF_small this]
  | f + 1, n, h => by
    by_cases hn : n < 128
    · rw [putF_small hn, putF_small hn]
    · rw [putF_more hn, putF_more hn, putF_up f (n / 128) (div128 h)]
theorem putN_8 {n : Nat} (h : n < 9223372036854775808) : putN n = putF 8 n := putF_up 8 n (by rw [show 128 ^ 9 = 9223372036854775808 by decide]; exact h)
/-- a number that stands somewhere -/
theorem takeN_put {n : Nat} (h : n < 9223372036854775808) (p r : List UInt8) : takeN (p ++ (putN n ++ r)) ((p.length : Nat) : Int) = .ok (n, (putN n).length) := by
  rw [takeN_in _ _ (by rw [List.length_append]; omega), List.drop_left, putN_8 h]
  exact get_put 8 0 n r (by rw [show 128 ^ 9 = 9223372036854775808 by decide]; exact h) (fun h => by omega)
theorem put_takeN {s : List UInt8} {a n k : Nat} (h : takeN s (a : Int) = .ok (n, k)) : putN n = (s.drop a).take k := by
  have h1 := takeN_ok h
  rw [takeN_in _ _ (by omega)] at h
  rw [putN_8 h1.2.2.1]
  exact (put_get 8 0 _ n k h).2
theorem putsL_cons (x : Int) (l : List Int) : putsL (x :: l) = putI x ++ putsL l := rfl
theorem putI_ofNat (n : Nat) : putI (n : Int) = putN n := (putI_nat n).1
/-- numbers that stand somewhere -/
theorem numsR_put : ∀ (l : List Nat) (p r : List UInt8), (∀ x ∈ l, x < 9223372036854775808) → numsR (p ++ (putsL (toI' l) ++ r)) l.length p.length = .ok (l, p.length + (putsL (toI' l)).length)
  | [], p, r, h => rfl
  | x :: l, p, r, h => by
    have hx := takeN_put (h x (List.mem_cons_self ..)) p (putsL (toI' l) ++ r)
    have e : putsL (toI' (x :: l)) = putN x ++ putsL (toI' l) := by
      show putsL ((x : Int) :: toI' l) = _
      rw [putsL_cons, putI_ofNat]
    rw [e, List.append_assoc, List.length_cons, numsR_ok hx]
    have ih := numsR_put l (p ++ putN x) r (fun y hy => h y (List.mem_cons_of_mem _ hy))
    rw [List.append_assoc, List.length_append] at ih
    rw [ih]
    show Except.ok _ = Except.ok _
    rw [List.length_append, Nat.add_assoc]; rfl
theorem take_two (s : List UInt8) (a k j : Nat) : (s.drop a).take k ++ (s.drop (a + k)).take j = (s.drop a).take (k + j) := by
  rw [List.take_add, List.drop_drop]
theorem put_numsR {s : List UInt8} : ∀ {n a t : Nat} {l : List Nat}, numsR s n a = .ok (l, t) → a ≤ t ∧ putsL (toI' l) = (s.drop a).take (t - a)
  | 0, a, t, l, h => by
    injection h with h
    injection h with h1 h2
    subst h1; subst h2
    exact ⟨Nat.le_refl _, by rw [Nat.sub_self, List.take_zero]; rfl⟩
  | n + 1, a, t, l, h => by
    cases ht : takeN s (a : Int) with
    | error e => rw [numsR_err ht] at h; cases h
    | ok q =>
      obtain ⟨x, k⟩ := q
      rw [numsR_ok ht] at h
      cases hr : numsR s n (a + k) with
      | error e => rw [hr] at h; cases h
      | ok q =>
        obtain ⟨l', t'⟩ := q
        rw [hr] at h
        injection h with h
        injection h with h2 h3
        subst h2; subst h3
        obtain ⟨i1, i2⟩ := put_numsR hr
        refine ⟨by omega, ?_⟩
        show putsL ((x : Int) :: toI' l') = _
        rw [putsL_cons, putI_ofNat, put_takeN ht, i2, take_two]
        congr 1; omega
theorem toI'_nat {l : List Int} (h : ∀ x ∈ l, 0 ≤ x) : toI' (l.map Int.toNat) = l := by
  unfold toI'
  rw [List.map_map]
  conv => rhs; rw [← List.map_id l]
  exact List.map_congr_left fun x hx => by have := h x hx; show ((x.toNat : Nat) : Int) = x; omega
theorem nat_lt {l : List Int} (h : ∀ x ∈ l, 0 ≤ x ∧ x ≤ 9223372036854775807) : ∀ x ∈ l.map Int.toNat, x < 9223372036854775808 := by
  intro x hx
  obtain ⟨y, hy, rfl⟩ := List.mem_map.1 hx
  have := h y hy; omega
/-- whole numbers that stand somewhere -/
theorem numsR_putI (l : List Int) (p r : List UInt8) (h : ∀ x ∈ l, 0 ≤ x ∧ x ≤ 9223372036854775807) : numsR (p ++ (putsL l ++ r)) l.length p.length = .ok (l.map Int.toNat, p.length + (putsL l).length) := by
  have := numsR_put (l.map Int.toNat) p r (nat_lt h)
  rw [toI'_nat (fun x hx => (h x hx).1), List.length_map] at this
  exact this

/-- a header comes back of its bytes -/
theorem getH_putH {i g f : Int} (h : headP i g f = true) : getH (putH (i, g, f)) = .ok (i, g, f) := by
  have hd : headD i g f := by simpa [headP] using h
  obtain ⟨h1, h2, h3⟩ := hd
  have e : putH (i, g, f) = putsL [i, g, f] := if_pos h
  have hn := numsR_putI [i, g, f] [] [] (by simp; omega)
  rw [List.nil_append, List.append_nil] at hn
  have hn : numsR (putsL [i, g, f]) 3 0 = .ok ([i.toNat, g.toNat, f.toNat], (putsL [i, g, f]).length) := by
    have := hn
    rw [show ([] : List UInt8).length = 0 from rfl, Nat.zero_add] at this
    exact this
  have hc : clR (putsL [i, g, f]) = .ok (((i.toNat : Nat) : Int), ((g.toNat : Nat) : Int), ((f.toNat : Nat) : Int)) := by
    unfold clR; rw [hn]; show (if _ = _ then _ else _) = _; rw [if_pos rfl]; rfl
  have e1 : ((i.toNat : Nat) : Int) = i := by omega
  have e2 : ((g.toNat : Nat) : Int) = g := by omega
  have e3 : ((f.toNat : Nat) : Int) = f := by omega
  rw [e1, e2, e3] at hc
  rw [e]; unfold getH; rw [hc]
  show (if headP i g f then _ else _) = _
  rw [if_pos h]
/-- bytes that are a header's are what it is put as -/
theorem putH_getH {s : List UInt8} {h : Int × Int × Int} (hg : getH s = .ok h) : headP h.1 h.2.1 h.2.2 = true ∧ putH h = s := by
  unfold getH at hg
  cases hc : clR s with
  | error e => rw [hc] at hg; cases hg
  | ok q =>
    rw [hc] at hg
    have hg : (if headP q.1 q.2.1 q.2.2 then Except.ok q else Except.error (210 : Int)) = Except.ok h := hg
    by_cases hp : headP q.1 q.2.1 q.2.2 = true
    · rw [if_pos hp] at hg
      injection hg with hg
      subst hg
      refine ⟨hp, ?_⟩
      unfold putH
      rw [if_pos hp]
      unfold clR at hc
      cases hn : numsR s 3 0 with
      | error e => rw [hn] at hc; cases hc
      | ok u =>
        obtain ⟨l, t⟩ := u
        rw [hn] at hc
        have hl := nums_len (Nat.zero_le _) hn
        obtain ⟨x, y, z, rfl⟩ : ∃ x y z, l = [x, y, z] := by
          match l, hl.1 with
          | [x, y, z], _ => exact ⟨x, y, z, rfl⟩
        have hc : (if t = s.length then Except.ok ((x : Int), (y : Int), (z : Int)) else Except.error (6 : Int)) = Except.ok q := hc
        by_cases ht : t = s.length
        · rw [if_pos ht] at hc
          injection hc with hc
          subst hc
          have := (put_numsR hn).2
          rw [List.drop_zero, Nat.sub_zero, ht, List.take_length] at this
          exact this
        · rw [if_neg ht] at hc; cases hc
    · rw [if_neg hp] at hg; cases hg

theorem mkM_put {m : M7} (h : aloneD m) : mkM ((m7L m).map Int.toNat) = m := by
  obtain ⟨h1, h2, h3, h4, h5, h6, h7, h8⟩ := h
  obtain ⟨a, b, c, d, e, f, g⟩ := m
  simp only at *
  have q : ∀ x : Int, 0 ≤ x → ((x.toNat : Nat) : Int) = x := fun x hx => by omega
  show M7.mk ((a.toNat : Nat) : Int) ((b.toNat : Nat) : Int) ((c.toNat : Nat) : Int) ((d.toNat : Nat) : Int) ((e.toNat : Nat) : Int) ((f.toNat : Nat) : Int) (if (((g - f).toNat : Nat) : Int) ≤ 9223372036854775807 - ((f.toNat : Nat) : Int) then ((f.toNat : Nat) : Int) + (((g - f).toNat : Nat) : Int) else 9223372036854775807) = _
  rw [q a (by omega), q b (by omega), q c (by omega), q d (by omega), q e (by omega), q f (by omega), q (g - f) (by omega), if_pos (by omega)]
  congr 1; omega
/-- blocks that stand somewhere -/
theorem blkR_put : ∀ (l : List M7) (p r : List UInt8), (∀ m ∈ l, aloneD m) → blkR (p ++ (putsL (l.flatMap m7L) ++ r)) l.length p.length = .ok (l, p.length + (putsL (l.flatMap m7L)).length)
  | [], p, r, h => rfl
  | m :: l, p, r, h => by
    have hm := h m (List.mem_cons_self ..)
    have hn := numsR_putI (m7L m) p (putsL (l.flatMap m7L) ++ r) (m7L_nn hm)
    have e : putsL ((m :: l).flatMap m7L) = putsL (m7L m) ++ putsL (l.flatMap m7L) := by
      rw [List.flatMap_cons]; exact List.flatMap_append
    rw [show (m7L m).length = 7 from rfl] at hn
    rw [e, List.append_assoc, List.length_cons, blkR_ok hn, mkM_put hm]
    have ih := blkR_put l (p ++ putsL (m7L m)) r (fun y hy => h y (List.mem_cons_of_mem _ hy))
    rw [List.append_assoc, List.length_append] at ih
    rw [ih]
    show Except.ok _ = Except.ok _
    rw [List.length_append, Nat.add_assoc]; rfl
theorem m7L_mkM {l : List Nat} (hl : l.length = 7) (hx : ∀ x ∈ l, x < 9223372036854775808) (hb : (mkM l).late ≤ 1000000000) : m7L (mkM l) = toI' l := by
  match l, hl with
  | [a, b, c, d, e, f, g], _ =>
    have hf : f < 9223372036854775808 := hx f (by simp)
    have hb : (if ((g : Nat) : Int) ≤ 9223372036854775807 - ((f : Nat) : Int) then ((f : Nat) : Int) + ((g : Nat) : Int) else 9223372036854775807) ≤ 1000000000 := hb
    by_cases hc : ((g : Nat) : Int) ≤ 9223372036854775807 - ((f : Nat) : Int)
    · show [((a : Nat) : Int), (b : Int), (c : Int), (d : Int), (e : Int), (f : Int), (if ((g : Nat) : Int) ≤ 9223372036854775807 - ((f : Nat) : Int) then ((f : Nat) : Int) + ((g : Nat) : Int) else 9223372036854775807) - (f : Int)] = [((a : Nat) : Int), (b : Int), (c : Int), (d : Int), (e : Int), (f : Int), (g : Int)]
      rw [if_pos hc]
      have : (f : Int) + (g : Int) - (f : Int) = (g : Int) := by omega
      rw [this]
    · rw [if_neg hc] at hb; omega
theorem put_blkR {s : List UInt8} : ∀ {n a t : Nat} {l : List M7}, a ≤ s.length → blkR s n a = .ok (l, t) → l.length = n ∧ a ≤ t ∧ t ≤ s.length ∧ ((∀ m ∈ l, aloneD m) → putsL (l.flatMap m7L) = (s.drop a).take (t - a))
  | 0, a, t, l, ha, h => by
    injection h with h
    injection h with h1 h2
    subst h1; subst h2
    exact ⟨rfl, Nat.le_refl _, ha, fun _ => by rw [Nat.sub_self, List.take_zero]; rfl⟩
  | n + 1, a, t, l, ha, h => by
    cases ht : numsR s 7 a with
    | error e => rw [blkR_err ht] at h; cases h
    | ok q =>
      obtain ⟨x, k⟩ := q
      rw [blkR_ok ht] at h
      have hx := nums_len ha ht
      have hq := put_numsR ht
      cases hr : blkR s n k with
      | error e => rw [hr] at h; cases h
      | ok q =>
        obtain ⟨l', t'⟩ := q
        rw [hr] at h
        injection h with h
        injection h with h2 h3
        subst h2; subst h3
        obtain ⟨i1, i2, i3, i4⟩ := put_blkR hx.2.2.1 hr
        refine ⟨by rw [List.length_append, i1, List.length_singleton]; omega, by omega, i3, fun hm => ?_⟩
        have hm1 := hm (mkM x) (by simp)
        rw [List.flatMap_append, putsL_app, i4 (fun m h => hm m (by simp [h])), List.flatMap_singleton, m7L_mkM hx.1 hx.2.2.2 hm1.2.2.2.2.2.2.2, hq.2]
        have e := take_two s a (k - a) (t' - k)
        rw [show a + (k - a) = k by omega] at e
        rw [e]
        congr 1; omega
theorem blocks_all {l : List M7} (h : blocksP l = true) : ∀ m ∈ l, aloneD m := by
  intro m hm
  obtain ⟨h1, h2⟩ := blocks_ok h
  obtain ⟨i, hi, rfl⟩ := List.getElem_of_mem hm
  have := okTo_alone h2 hi
  rw [List.getD_eq_getElem?_getD, List.getElem?_eq_getElem hi] at this
  exact this
theorem putFt_eq {l : List M7} (h : blocksP l = true) : putFt l = putN l.length ++ putsL (l.flatMap m7L) := by
  unfold putFt footL footK
  rw [if_pos h, List.take_length, putsL_cons, putI_ofNat]
/-- blocks come back of their bytes -/
theorem getFt_putFt {l : List M7} (h : blocksP l = true) : getFt (putFt l) = .ok l := by
  obtain ⟨h1, h2⟩ := blocks_ok h
  have ht := takeN_put (n := l.length) (by omega) [] (putsL (l.flatMap m7L))
  rw [List.nil_append] at ht
  have ht : takeN (putFt l) 0 = .ok (l.length, (putN l.length).length) := by rw [putFt_eq h]; exact ht
  have hb := blkR_put l (putN l.length) [] (blocks_all h)
  rw [List.append_nil, ← putFt_eq h] at hb
  have e : (putN l.length).length + (putsL (l.flatMap m7L)).length = (putFt l).length := by rw [putFt_eq h, List.length_append]
  rw [e] at hb
  unfold getFt
  rw [ftR_ok ht h1 hb rfl]
  show (if blocksP l then _ else _) = _
  rw [if_pos h]
theorem putFt_getFt {s : List UInt8} {l : List M7} (h : getFt s = .ok l) : blocksP l = true ∧ putFt l = s := by
  unfold getFt at h
  cases hf : ftR s with
  | error e => rw [hf] at h; cases h
  | ok m =>
    rw [hf] at h
    have h : (if blocksP m then Except.ok m else Except.error (211 : Int)) = Except.ok l := h
    by_cases hp : blocksP m = true
    · rw [if_pos hp] at h
      injection h with h
      subst h
      refine ⟨hp, ?_⟩
      cases ht : takeN s 0 with
      | error e => unfold ftR at hf; rw [ht] at hf; cases hf
      | ok q =>
        obtain ⟨n, a⟩ := q
        have hto := takeN_ok (a := 0) ht
        have hpt := put_takeN (a := 0) ht
        by_cases hn : (n : Int) ≤ 1000
        · cases hb : blkR s n a with
          | error e => rw [ftR_err ht hn hb] at hf; cases hf
          | ok q =>
            obtain ⟨l', b⟩ := q
            by_cases hl : b = s.length
            · rw [ftR_ok ht hn hb hl] at hf
              injection hf with hf
              subst hf
              obtain ⟨i1, i2, i3, i4⟩ := put_blkR (by omega) hb
              rw [putFt_eq hp, i4 (blocks_all hp), i1, hpt, hl, List.drop_zero]
              rw [show (s.drop a).take (s.length - a) = s.drop a from List.take_of_length_le (by simp)]
              exact List.take_append_drop a s
            · rw [ftR_rest ht hn hb hl] at hf; cases hf
        · rw [ftR_big ht hn] at hf; cases hf
    · rw [if_neg hp] at h; cases h
end Go.Proofs.Ytbhfapjjodhndaa
namespace Go.Proofs.Ytbhfapjjodhndaa
set_option linter.unusedVariables false
set_option linter.unusedSimpArgs false

def sumTo (f : M7 → Int) (l : List M7) : Nat → Int
  | 0 => 0
  | k + 1 => sumTo f l k + f (l.getD k default)
theorem okTo_iff (l : List M7) : ∀ k, okTo l k = true ↔ ∀ i, i < k → aloneD (l.getD i default) ∧ (0 < i → followsD (l.getD (i - 1) default) (l.getD i default))
  | 0 => ⟨fun _ i hi => by omega, fun _ => rfl⟩
  | k + 1 => by
    rw [okTo_succ, Bool.and_eq_true, okTo_iff l k]
    constructor
    · rintro ⟨h1, h2⟩ i hi
      by_cases e : i < k
      · exact h1 i e
      · obtain rfl : i = k := by omega
        rw [Bool.and_eq_true, aloneP_iff, Bool.or_eq_true] at h2
        refine ⟨h2.1, fun h0 => ?_⟩
        rcases h2.2 with h | h
        · have := beq_iff_eq.1 h; omega
        · exact of_decide_eq_true h
    · intro h
      refine ⟨fun i hi => h i (by omega), ?_⟩
      have := h k (by omega)
      rw [Bool.and_eq_true, aloneP_iff, Bool.or_eq_true]
      refine ⟨this.1, ?_⟩
      by_cases h0 : 0 < k
      · exact .inr (decide_eq_true (this.2 h0))
      · exact .inl (beq_iff_eq.2 (by omega))
theorem blocksP_iff (l : List M7) : blocksP l = true ↔ (l.length : Int) ≤ 1000 ∧ ∀ i, i < l.length → aloneD (l.getD i default) ∧ (0 < i → followsD (l.getD (i - 1) default) (l.getD i default)) := by
  unfold blocksP
  rw [Bool.and_eq_true, decide_eq_true_eq, okTo_iff]
theorem getD_take' (l : List M7) (c i : Nat) (h : i < c) : (l.take c).getD i default = l.getD i default := by
  rw [List.getD_eq_getElem?_getD, List.getElem?_take_of_lt h, List.getD_eq_getElem?_getD]
theorem getD_drop' (l : List M7) (c i : Nat) : (l.drop c).getD i default = l.getD (c + i) default := by
  rw [List.getD_eq_getElem?_getD, List.getElem?_drop, List.getD_eq_getElem?_getD]
theorem blocks_take {l : List M7} (h : blocksP l = true) (c : Nat) : blocksP (l.take c) = true := by
  obtain ⟨h1, h2⟩ := (blocksP_iff l).1 h
  refine (blocksP_iff _).2 ⟨by rw [List.length_take]; omega, fun i hi => ?_⟩
  rw [List.length_take] at hi
  have := h2 i (by omega)
  rw [getD_take' l c i (by omega)]
  refine ⟨this.1, fun h0 => ?_⟩
  rw [getD_take' l c (i - 1) (by omega)]
  exact this.2 h0
theorem blocks_drop {l : List M7} (h : blocksP l = true) (c : Nat) : blocksP (l.drop c) = true := by
  obtain ⟨h1, h2⟩ := (blocksP_iff l).1 h
  refine (blocksP_iff _).2 ⟨by rw [List.length_drop]; omega, fun i hi => ?_⟩
  rw [List.length_drop] at hi
  have := h2 (c + i) (by omega)
  rw [getD_drop']
  refine ⟨this.1, fun h0 => ?_⟩
  rw [getD_drop', show c + (i - 1) = c + i - 1 by omega]
  exact this.2 (by omega)
theorem blocks_sum {l : List M7} (h : blocksP l = true) : ∀ k, k < l.length → (l.getD k default).at_ = (l.getD 0 default).at_ + sumTo M7.sz l k ∧ (l.getD k default).fst = (l.getD 0 default).fst + sumTo M7.cnt l k
  | 0, _ => ⟨by simp [sumTo], by simp [sumTo]⟩
  | k + 1, hk => by
    obtain ⟨i1, i2⟩ := blocks_sum h k (by omega)
    obtain ⟨h1, h2⟩ := (blocksP_iff l).1 h
    obtain ⟨f1, f2, _⟩ := (h2 (k + 1) hk).2 (by omega)
    rw [Nat.add_sub_cancel] at f1 f2
    refine ⟨?_, ?_⟩
    · show _ = _ + (sumTo M7.sz l k + M7.sz (l.getD k default)); omega
    · show _ = _ + (sumTo M7.cnt l k + M7.cnt (l.getD k default)); omega
theorem sum_small {l : List M7} (h : blocksP l = true) : ∀ k, k ≤ l.length → 0 ≤ sumTo M7.sz l k ∧ sumTo M7.sz l k ≤ 60009 * (k : Int) ∧ 0 ≤ sumTo M7.cnt l k ∧ sumTo M7.cnt l k ≤ 20000 * (k : Int)
  | 0, _ => by simp [sumTo]
  | k + 1, hk => by
    obtain ⟨i1, i2, i3, i4⟩ := sum_small h k (by omega)
    obtain ⟨h1, h2⟩ := (blocksP_iff l).1 h
    obtain ⟨-, a2, a3, a4, -⟩ := (h2 k (by omega)).1
    show 0 ≤ sumTo M7.sz l k + M7.sz (l.getD k default) ∧ sumTo M7.sz l k + M7.sz (l.getD k default) ≤ _ ∧ 0 ≤ sumTo M7.cnt l k + M7.cnt (l.getD k default) ∧ sumTo M7.cnt l k + M7.cnt (l.getD k default) ≤ _
    omega
/-- the number behind a row, and the place behind it -/
def nextF (f : Int) (l : List M7) : Int := if lastK l then (lastM l).fst + (lastM l).cnt else f
def endV (i g f : Int) (l : List M7) : Int := if headP i g f then (if blocksP l then (if 0 < l.length then (lastM l).at_ + (lastM l).sz else ((putH (i, g, f)).length : Int) + 9) else 0) else 0
def endE (i g f : Int) (l : List M7) : Int := if headP i g f then (if blocksP l then 0 else 211) else 210
theorem lastK_len {l : List M7} (h : lastK l = true) : 0 < l.length ∧ blocksP l = true := by
  unfold lastK at h
  rw [Bool.and_eq_true, decide_eq_true_eq] at h
  exact h
theorem lastM_eq {l : List M7} (h : 0 < l.length) (hp : blocksP l = true) : lastK l = true ∧ lastM l = l.getD (l.length - 1) default := by
  have hk : lastK l = true := by unfold lastK; rw [hp, decide_eq_true h]; rfl
  exact ⟨hk, by unfold lastM; rw [hk]; rfl⟩
theorem lastM_alone {l : List M7} (h : lastK l = true) : aloneD (lastM l) := by
  obtain ⟨h1, h2⟩ := lastK_len h
  rw [(lastM_eq h1 h2).2]
  exact (((blocksP_iff l).1 h2).2 _ (by omega)).1
theorem next_sum {l : List M7} (hp : blocksP l = true) (h : 0 < l.length) (f : Int) : nextF f l = (l.getD 0 default).fst + sumTo M7.cnt l l.length := by
  obtain ⟨h1, h2⟩ := lastM_eq h hp
  unfold nextF
  rw [h1, h2, if_pos rfl, (blocks_sum hp (l.length - 1) (by omega)).2]
  obtain ⟨n, hn⟩ : ∃ n, l.length = n + 1 := ⟨l.length - 1, by omega⟩
  rw [hn, Nat.add_sub_cancel]
  show _ = _ + (sumTo M7.cnt l n + M7.cnt (l.getD n default)); omega
theorem end_sum {l : List M7} (hp : blocksP l = true) (h : 0 < l.length) {i g f : Int} (hh : headP i g f = true) : endV i g f l = (l.getD 0 default).at_ + sumTo M7.sz l l.length := by
  obtain ⟨h1, h2⟩ := lastM_eq h hp
  unfold endV
  rw [hh, hp, if_pos rfl, if_pos rfl, if_pos h, h2, (blocks_sum hp (l.length - 1) (by omega)).1]
  obtain ⟨n, hn⟩ : ∃ n, l.length = n + 1 := ⟨l.length - 1, by omega⟩
  rw [hn, Nat.add_sub_cancel]
  show _ = _ + (sumTo M7.sz l n + M7.sz (l.getD n default)); omega
end Go.Proofs.Ytbhfapjjodhndaa
namespace Go.Proofs.Ytbhfapjjodhndaa
set_option linter.unusedVariables false
set_option linter.unusedSimpArgs false
open Go.RowKit
attribute [local go_sem] S_size S_toList meta_zero

theorem fSize_any (l : List UInt8) (w : World) (hl : (l.length : Int) ≤ 1000000000) : Calls Try.prog 37 #[.string (S l)] w fun e w' => e = .returned (.int .i64 ((l.length : Int) + 9)) ∧ w = w' := by
  have e1 : IntKind.i64.wrap (5 + (l.length : Int)) = 5 + (l.length : Int) := by rw [IntKind.wrap_i64]; omega
  have e2 : IntKind.i64.wrap (5 + (l.length : Int) + 4) = (l.length : Int) + 9 := by rw [IntKind.wrap_i64]; omega
  go_enter Try.func37, Try.ntmps37
  go_wp2
  go_ret
  exact ⟨rfl, rfl⟩

set_option maxRecDepth 20000 in
set_option maxHeartbeats 4000000 in
theorem hNext_any (i g f : Int) (l : List M7) (v : Value) (w : World) (hr : RR metaC 7 w v l) :
    Calls Try.prog 23 #[.agg #[.int .i64 i, .int .i64 g, .int .i64 f], v] w fun e w' => e = .returned (.int .i64 (nextF f l)) ∧ Ext w w' := by
  have QL := Lib.hid (fun w h => hlast_any l v w h)
  have HR := Lib.hid hr
  have HL := Lib.hid (show (Try.prog.info? 55).map (·.size) = some 7 from meta_size)
  have b1 := Lib.hid (Blk.new w 23 #[.int .i64 i, .int .i64 g, .int .i64 f])
  have X0 := Lib.hid ((Ext.refl w).alloc (.cells #[.int .i64 i, .int .i64 g, .int .i64 f] 23))
  have hm := fun h => lastM_alone (l := l) h
  cases hk : lastK l with
  | false =>
    have HN := Lib.hid (show nextF f l = f by unfold nextF; rw [hk]; rfl)
    have he : lastM l = ⟨0, 0, 0, 0, 0, 0, 0⟩ := by unfold lastM; rw [hk]; rfl
    rw [hk, he] at QL
    simp only [metaC] at QL
    clear hk hm he
    obtain ⟨a, c, rfl, _, _, _⟩ := hr
    go_enter Try.func23, Try.ntmps23
    go_wp2_with fail
    refine (QL.out _ (RR.ext HR.out X0.out)).mono ?_
    rintro _ w1 ⟨rfl, x1⟩
    have B1 := (b1.out.ext x1).alloc (.cells #[.int .i64 0, .int .i64 0, .int .i64 0, .int .i64 0, .int .i64 0, .int .i64 0, .int .i64 0] 55)
    have c2 := B1.cell 2
    simp at c2
    have X1 := Lib.hid ((X0.out.trans x1).alloc (.cells #[.int .i64 0, .int .i64 0, .int .i64 0, .int .i64 0, .int .i64 0, .int .i64 0, .int .i64 0] 55))
    clear x1 B1
    go_wp2_with (refine wpList_store_new rfl 55 (.tmp 5) (.tmp 10) rfl rfl rfl rfl HL.out (by kernel_rfl) ?_)
    exact bodyPost_ret (results_tmp rfl _ _ _) rfl ⟨by rw [HN.out]; rfl, X1.out⟩
  | true =>
    have HN := Lib.hid (show nextF f l = (lastM l).fst + (lastM l).cnt by unfold nextF; rw [hk]; rfl)
    have hm := hm hk
    rw [hk] at QL
    clear hk
    generalize lastM l = m at *
    obtain ⟨ma, ms, mr, mc, mf, me, ml⟩ := m
    obtain ⟨-, -, h3, h4, h5, -⟩ := hm
    simp only at h3 h4 h5 HN
    have e1 : IntKind.i64.wrap (mf + mc) = mf + mc := by rw [IntKind.wrap_i64]; omega
    clear h3 h4 h5
    simp only [metaC] at QL
    obtain ⟨a, c, rfl, _, _, _⟩ := hr
    go_enter Try.func23, Try.ntmps23
    go_wp2_with fail
    refine (QL.out _ (RR.ext HR.out X0.out)).mono ?_
    rintro _ w1 ⟨rfl, x1⟩
    have B5 := Blk.new w1 55 #[.int .i64 ma, .int .i64 ms, .int .i64 mr, .int .i64 mc, .int .i64 mf, .int .i64 me, .int .i64 ml]
    have c3 := B5.cell 3
    have c4 := B5.cell 4
    simp at c3 c4
    have X1 := Lib.hid ((X0.out.trans x1).alloc (.cells #[.int .i64 ma, .int .i64 ms, .int .i64 mr, .int .i64 mc, .int .i64 mf, .int .i64 me, .int .i64 ml] 55))
    clear x1 B5
    go_wp2_with (refine wpList_store_new rfl 55 (.tmp 5) (.tmp 10) rfl rfl rfl rfl HL.out (by kernel_rfl) ?_)
    exact bodyPost_ret (results_tmp rfl _ _ _) rfl ⟨by rw [HN.out]; rfl, X1.out⟩

theorem endE_cases (i g f : Int) (l : List M7) : (headP i g f = false ∧ endE i g f l = 210 ∧ endV i g f l = 0) ∨ (headP i g f = true ∧ blocksP l = false ∧ endE i g f l = 211 ∧ endV i g f l = 0)
    ∨ (headP i g f = true ∧ blocksP l = true ∧ lastK l = true ∧ endE i g f l = 0 ∧ endV i g f l = (lastM l).at_ + (lastM l).sz ∧ 0 < l.length)
    ∨ (headP i g f = true ∧ blocksP l = true ∧ lastK l = false ∧ endE i g f l = 0 ∧ endV i g f l = ((putH (i, g, f)).length : Int) + 9 ∧ l.length = 0) := by
  cases h1 : headP i g f with
  | false => exact .inl ⟨rfl, by unfold endE; rw [h1]; rfl, by unfold endV; rw [h1]; rfl⟩
  | true =>
    cases h2 : blocksP l with
    | false => exact .inr (.inl ⟨rfl, rfl, by unfold endE; rw [h1, h2]; rfl, by unfold endV; rw [h1, h2]; rfl⟩)
    | true =>
      by_cases h3 : 0 < l.length
      · exact .inr (.inr (.inl ⟨rfl, rfl, (lastM_eq h3 h2).1, by unfold endE; rw [h1, h2]; rfl, by unfold endV; rw [h1, h2, if_pos rfl, if_pos rfl, if_pos h3], h3⟩))
      · exact .inr (.inr (.inr ⟨rfl, rfl, by unfold lastK; rw [decide_eq_false h3]; rfl, by unfold endE; rw [h1, h2]; rfl, by unfold endV; rw [h1, h2, if_pos rfl, if_pos rfl, if_neg h3], by omega⟩))
theorem putH_len (h : Int × Int × Int) : (putH h).length ≤ 30 := by
  unfold putH
  split
  · have := puts_len [h.1, h.2.1, h.2.2]
    simpa using this
  · simp

set_option maxRecDepth 20000 in
set_option maxHeartbeats 8000000 in
theorem hEnd_any (i g f : Int) (l : List M7) (v : Value) (w : World) (hr : RR metaC 7 w v l) :
    Calls Try.prog 18 #[.agg #[.int .i64 i, .int .i64 g, .int .i64 f], v] w fun e w' => e = .returned (.tuple #[.int .i64 (endV i g f l), .int .i64 (endE i g f l)]) ∧ Ext w w' := by
  have QP := Lib.hid (fun w => hput_any i g f w)
  have QB := Lib.hid (fun w h => hBlocks_any l v w h)
  have QL := Lib.hid (fun w h => hlast_any l v w h)
  have QS := Lib.hid (fun w => fSize_any (putH (i, g, f)) w (by have := putH_len (i, g, f); omega))
  have HR := Lib.hid hr
  have HH := Lib.hid hd_size
  have HL := Lib.hid (show (Try.prog.info? 55).map (·.size) = some 7 from meta_size)
  have b1 := Lib.hid (Blk.new w 23 #[.int .i64 i, .int .i64 g, .int .i64 f])
  have X0 := Lib.hid ((Ext.refl w).alloc (.cells #[.int .i64 i, .int .i64 g, .int .i64 f] 23))
  obtain ⟨a, c, rfl, _, _, _⟩ := hr
  rcases endE_cases i g f l with ⟨k1, e1, e2⟩ | ⟨k1, k2, e1, e2⟩ | ⟨k1, k2, k3, e1, e2, k0⟩ | ⟨k1, k2, k3, e1, e2, k0⟩
  · have E1 := Lib.hid e1
    have E2 := Lib.hid e2
    rw [k1] at QP
    simp only [errI, Bool.false_eq_true, if_false] at QP
    clear k1 e1 e2
    generalize putH (i, g, f) = p at *
    go_enter Try.func18, Try.ntmps18
    go_wp2_with (refine wpList_load_blk rfl 23 (.tmp 2) rfl rfl b1.out Try.underlying23 rfl HH.out ?_)
    refine (QP.out _).mono ?_
    rintro _ w1 ⟨rfl, x1⟩
    have X1 := Lib.hid (X0.out.trans x1)
    clear x1
    go_wp2
    exact bodyPost_ret (results_tmp2 rfl _ _ _) rfl ⟨by rw [E1.out, E2.out]; rfl, X1.out⟩
  · have E1 := Lib.hid e1
    have E2 := Lib.hid e2
    rw [k1] at QP
    rw [k2] at QB
    simp only [errI, footI, Bool.false_eq_true, if_false, if_true] at QP QB
    clear k1 k2 e1 e2
    generalize putH (i, g, f) = p at *
    go_enter Try.func18, Try.ntmps18
    go_wp2_with (refine wpList_load_blk rfl 23 (.tmp 2) rfl rfl b1.out Try.underlying23 rfl HH.out ?_)
    refine (QP.out _).mono ?_
    rintro _ w1 ⟨rfl, x1⟩
    have X1 := Lib.hid (X0.out.trans x1)
    clear x1
    go_wp2_with fail
    refine (QB.out _ (RR.ext HR.out X1.out)).mono ?_
    rintro _ w2 ⟨rfl, x2⟩
    have X2 := Lib.hid (X1.out.trans x2)
    clear x2
    go_wp2
    exact bodyPost_ret (results_tmp2 rfl _ _ _) rfl ⟨by rw [E1.out, E2.out]; rfl, X2.out⟩
  · have E1 := Lib.hid e1
    have E2 := Lib.hid e2
    rw [k1] at QP
    rw [k2] at QB
    simp only [errI, footI, Bool.false_eq_true, if_false, if_true] at QP QB
    have hm := lastM_alone k3
    rw [k3] at QL
    clear k1 k2 k3 e1 e2 k0
    generalize lastM l = m at *
    obtain ⟨ma, ms, mr, mc, mf, me, ml⟩ := m
    obtain ⟨h1, h2, -⟩ := hm
    simp only at h1 h2 E2
    have e1 : IntKind.i64.wrap (ma + ms) = ma + ms := by rw [IntKind.wrap_i64]; omega
    clear h1 h2
    simp only [metaC] at QL
    generalize putH (i, g, f) = p at *
    go_enter Try.func18, Try.ntmps18
    go_wp2_with (refine wpList_load_blk rfl 23 (.tmp 2) rfl rfl b1.out Try.underlying23 rfl HH.out ?_)
    refine (QP.out _).mono ?_
    rintro _ w1 ⟨rfl, x1⟩
    have X1 := Lib.hid (X0.out.trans x1)
    clear x1
    go_wp2_with fail
    refine (QB.out _ (RR.ext HR.out X1.out)).mono ?_
    rintro _ w2 ⟨rfl, x2⟩
    have X2 := Lib.hid (X1.out.trans x2)
    clear x2
    go_wp2_with fail
    refine (QL.out _ (RR.ext HR.out X2.out)).mono ?_
    rintro _ w3 ⟨rfl, x3⟩
    have B5 := Blk.new w3 55 #[.int .i64 ma, .int .i64 ms, .int .i64 mr, .int .i64 mc, .int .i64 mf, .int .i64 me, .int .i64 ml]
    have c0 := B5.cell 0
    have c1 := B5.cell 1
    simp at c0 c1
    have X3 := Lib.hid ((X2.out.trans x3).alloc (.cells #[.int .i64 ma, .int .i64 ms, .int .i64 mr, .int .i64 mc, .int .i64 mf, .int .i64 me, .int .i64 ml] 55))
    clear x3 B5
    go_wp2_with (refine wpList_store_new rfl 55 (.tmp 9) (.tmp 27) rfl rfl rfl rfl HL.out (by kernel_rfl) ?_)
    exact bodyPost_ret (results_tmp2 rfl _ _ _) rfl ⟨by rw [E1.out, E2.out]; rfl, X3.out⟩
  · have E1 := Lib.hid e1
    have E2 := Lib.hid e2
    rw [k1] at QP
    rw [k2] at QB
    simp only [errI, footI, Bool.false_eq_true, if_false, if_true] at QP QB
    have he : lastM l = ⟨0, 0, 0, 0, 0, 0, 0⟩ := by unfold lastM; rw [k3]; rfl
    rw [k3, he] at QL
    simp only [metaC] at QL
    clear k1 k2 k3 e1 e2 k0 he
    generalize putH (i, g, f) = p at *
    go_enter Try.func18, Try.ntmps18
    go_wp2_with (refine wpList_load_blk rfl 23 (.tmp 2) rfl rfl b1.out Try.underlying23 rfl HH.out ?_)
    refine (QP.out _).mono ?_
    rintro _ w1 ⟨rfl, x1⟩
    have X1 := Lib.hid (X0.out.trans x1)
    clear x1
    go_wp2_with fail
    refine (QB.out _ (RR.ext HR.out X1.out)).mono ?_
    rintro _ w2 ⟨rfl, x2⟩
    have X2 := Lib.hid (X1.out.trans x2)
    clear x2
    go_wp2_with fail
    refine (QL.out _ (RR.ext HR.out X2.out)).mono ?_
    rintro _ w3 ⟨rfl, x3⟩
    have X3 := Lib.hid ((X2.out.trans x3).alloc (.cells #[.int .i64 0, .int .i64 0, .int .i64 0, .int .i64 0, .int .i64 0, .int .i64 0, .int .i64 0] 55))
    clear x3
    go_wp2_with (refine wpList_store_new rfl 55 (.tmp 9) (.tmp 27) rfl rfl rfl rfl HL.out (by kernel_rfl) ?_)
    refine (QS.out _).mono ?_
    rintro _ w4 ⟨rfl, rfl⟩
    go_wp2
    exact bodyPost_ret (results_tmp2 rfl _ _ _) rfl ⟨by rw [E1.out, E2.out]; rfl, X3.out⟩
end Go.Proofs.Ytbhfapjjodhndaa
namespace Go.Proofs.Ytbhfapjjodhndaa
set_option linter.unusedVariables false
set_option linter.unusedSimpArgs false
open Go.RowKit
attribute [local go_sem] S_size S_toList meta_zero

set_option maxRecDepth 20000 in
set_option maxHeartbeats 4000000 in
theorem rNext_any (i g f : Int) (l : List M7) (v : Value) (w : World) (hr : RR metaC 7 w v l) :
    Calls Try.prog 24 #[.agg #[.int .i64 i, .int .i64 g, .int .i64 f], v] w fun e w' => e = .returned (.int .i64 (nextF f l)) ∧ Ext w w' := by
  have QB := Lib.hid (fun w h => rBlocks_any l v w h)
  have HR := Lib.hid hr
  have b1 := Lib.hid (Blk.new w 23 #[.int .i64 i, .int .i64 g, .int .i64 f])
  have X0 := Lib.hid ((Ext.refl w).alloc (.cells #[.int .i64 i, .int .i64 g, .int .i64 f] 23))
  obtain ⟨a, c, rfl, hlc, hcn, hs⟩ := hr
  by_cases h0 : 0 < l.length
  · have k0 : ((l.length : Int) == 0) = false := beq_eq_false_iff_ne.2 (by omega)
    cases hp : blocksP l with
    | false =>
      have HN := Lib.hid (show nextF f l = f by unfold nextF lastK; rw [hp, Bool.and_false]; rfl)
      rw [hp] at QB
      simp only [footI, Bool.false_eq_true, if_false] at QB
      clear hp hs hcn hlc
      go_enter Try.func24, Try.ntmps24
      go_wp2_with fail
      refine (QB.out _ (RR.ext HR.out X0.out)).mono ?_
      rintro _ w1 ⟨rfl, x1⟩
      have c2 := (b1.out.ext x1).cell 2
      simp at c2
      have X1 := Lib.hid (X0.out.trans x1)
      clear x1
      go_wp2
      exact bodyPost_ret (results_tmp rfl _ _ _) rfl ⟨by rw [HN.out]; rfl, X1.out⟩
    | true =>
      have HN := Lib.hid (show nextF f l = (lastM l).fst + (lastM l).cnt by unfold nextF; rw [(lastM_eq h0 hp).1]; rfl)
      have hm := lastM_alone (lastM_eq h0 hp).1
      rw [(lastM_eq h0 hp).2] at hm HN
      rw [hp] at QB
      simp only [footI, if_true] at QB
      have hbig := (blocks_ok hp).1
      obtain ⟨g', o, rfl, hcells⟩ := hs h0
      obtain ⟨n, hn⟩ : ∃ n : Nat, l.length = n + 1 := ⟨l.length - 1, by omega⟩
      rw [show l.length - 1 = n by omega] at HN hm
      have R0 := Lib.hid (hcells n _ (getD_at (by omega)))
      have QB := Lib.hid (QB.out _ (RR.ext HR.out X0.out))
      clear hp hcells HR hs hcn
      generalize l.getD n default = m at *
      obtain ⟨ma, ms, mr, mc, mf, me, ml⟩ := m
      obtain ⟨-, -, h3, h4, h5, -⟩ := hm
      simp only at h3 h4 h5 HN
      have e1 : IntKind.i64.wrap (mf + mc) = mf + mc := by rw [IntKind.wrap_i64]; omega
      rw [hn] at QB hbig hlc k0
      rw [hn]
      clear hn h0 h3 h4 h5
      have kn : (n : Int) < (n : Int) + 1 := by omega
      go_enter Try.func24, Try.ntmps24
      go_wp2_with fail
      refine QB.out.mono ?_
      rintro _ w1 ⟨rfl, x1⟩
      have R1 := rangeAt_ext R0.out (X0.out.trans x1)
      have d3 := up_cell (R1 3 _ rfl)
      have d4 := up_cell (R1 4 _ rfl)
      have X1 := Lib.hid (X0.out.trans x1)
      clear x1 R1
      go_wp2
      refine wp_region_up (by kernel_rfl) (by kernel_rfl) ?_
      repeat (go_big_quiet_step (fail))
      refine wpQuiet_nil ?_
      rintro _ ⟨z, rfl⟩
      go_wp2
      exact bodyPost_ret (results_tmp rfl _ _ _) rfl ⟨by rw [HN.out]; rfl, X1.out.trans z.ext⟩
  · have k0 : ((l.length : Int) == 0) = true := beq_iff_eq.2 (by omega)
    have HN := Lib.hid (show nextF f l = f by unfold nextF lastK; rw [decide_eq_false h0]; rfl)
    have c2 := b1.out.cell 2
    simp at c2
    have hl0 : l.length = 0 := by omega
    rw [hl0] at *
    go_enter Try.func24, Try.ntmps24
    go_wp2
    exact bodyPost_ret (results_tmp rfl _ _ _) rfl ⟨by rw [HN.out]; rfl, X0.out⟩

set_option maxRecDepth 20000 in
set_option maxHeartbeats 8000000 in
theorem rEnd_any (i g f : Int) (l : List M7) (v : Value) (w : World) (hr : RR metaC 7 w v l) :
    Calls Try.prog 19 #[.agg #[.int .i64 i, .int .i64 g, .int .i64 f], v] w fun e w' => e = .returned (.tuple #[.int .i64 (endV i g f l), .int .i64 (endE i g f l)]) ∧ Ext w w' := by
  have QP := Lib.hid (fun w => rput_h i g f w)
  have QB := Lib.hid (fun w h => rBlocks_any l v w h)
  have HR := Lib.hid hr
  have HH := Lib.hid hd_size
  have b1 := Lib.hid (Blk.new w 23 #[.int .i64 i, .int .i64 g, .int .i64 f])
  have X0 := Lib.hid ((Ext.refl w).alloc (.cells #[.int .i64 i, .int .i64 g, .int .i64 f] 23))
  obtain ⟨a, c, rfl, hlc, hcn, hs⟩ := hr
  have hpl := putH_len (i, g, f)
  rcases endE_cases i g f l with ⟨k1, e1, e2⟩ | ⟨k1, k2, e1, e2⟩ | ⟨k1, k2, k3, e1, e2, k0⟩ | ⟨k1, k2, k3, e1, e2, k0⟩
  · have E1 := Lib.hid e1
    have E2 := Lib.hid e2
    rw [k1] at QP
    simp only [errI, Bool.false_eq_true, if_false] at QP
    clear k1 e1 e2 hs hcn hlc
    generalize putH (i, g, f) = p at *
    go_enter Try.func19, Try.ntmps19
    go_wp2_with (refine wpList_load_blk rfl 23 (.tmp 2) rfl rfl b1.out Try.underlying23 rfl HH.out ?_)
    refine (QP.out _).mono ?_
    rintro _ w1 ⟨rfl, x1⟩
    have X1 := Lib.hid (X0.out.trans x1)
    clear x1
    go_wp2
    exact bodyPost_ret (results_tmp2 rfl _ _ _) rfl ⟨by rw [E1.out, E2.out]; rfl, X1.out⟩
  · have E1 := Lib.hid e1
    have E2 := Lib.hid e2
    rw [k1] at QP
    rw [k2] at QB
    simp only [errI, footI, Bool.false_eq_true, if_false, if_true] at QP QB
    clear k1 k2 e1 e2 hs hcn hlc
    generalize putH (i, g, f) = p at *
    go_enter Try.func19, Try.ntmps19
    go_wp2_with (refine wpList_load_blk rfl 23 (.tmp 2) rfl rfl b1.out Try.underlying23 rfl HH.out ?_)
    refine (QP.out _).mono ?_
    rintro _ w1 ⟨rfl, x1⟩
    have X1 := Lib.hid (X0.out.trans x1)
    clear x1
    go_wp2_with fail
    refine (QB.out _ (RR.ext HR.out X1.out)).mono ?_
    rintro _ w2 ⟨rfl, x2⟩
    have X2 := Lib.hid (X1.out.trans x2)
    clear x2
    go_wp2
    exact bodyPost_ret (results_tmp2 rfl _ _ _) rfl ⟨by rw [E1.out, E2.out]; rfl, X2.out⟩
  · have E1 := Lib.hid e1
    have E2 := Lib.hid e2
    have kz : ((l.length : Int) == 0) = false := beq_eq_false_iff_ne.2 (by omega)
    rw [k1] at QP
    have hbig := (blocks_ok k2).1
    rw [k2] at QB
    simp only [errI, footI, Bool.false_eq_true, if_false, if_true] at QP QB
    have hm := lastM_alone k3
    rw [(lastM_eq k0 k2).2] at hm E2
    obtain ⟨g', o, rfl, hcells⟩ := hs k0
    obtain ⟨n, hn⟩ : ∃ n : Nat, l.length = n + 1 := ⟨l.length - 1, by omega⟩
    rw [show l.length - 1 = n by omega] at hm E2
    have R0 := Lib.hid (hcells n _ (getD_at (by omega)))
    have QB := Lib.hid (fun w h => QB.out w (RR.ext HR.out h))
    clear k1 k2 k3 e1 e2 k0 hcells hs hcn HR
    generalize l.getD n default = m at *
    obtain ⟨ma, ms, mr, mc, mf, me, ml⟩ := m
    obtain ⟨h1, h2, -⟩ := hm
    simp only at h1 h2 E2
    have e1 : IntKind.i64.wrap (ma + ms) = ma + ms := by rw [IntKind.wrap_i64]; omega
    clear h1 h2
    rw [hn] at QB hbig hlc kz
    rw [hn]
    clear hn
    have kn : (n : Int) < (n : Int) + 1 := by omega
    generalize putH (i, g, f) = p at *
    go_enter Try.func19, Try.ntmps19
    go_wp2_with (refine wpList_load_blk rfl 23 (.tmp 2) rfl rfl b1.out Try.underlying23 rfl HH.out ?_)
    refine (QP.out _).mono ?_
    rintro _ w1 ⟨rfl, x1⟩
    have X1 := Lib.hid (X0.out.trans x1)
    clear x1
    go_wp2_with fail
    refine (QB.out _ X1.out).mono ?_
    rintro _ w2 ⟨rfl, x2⟩
    have R1 := rangeAt_ext R0.out (X1.out.trans x2)
    have d0 := up_cell (R1 0 _ rfl)
    have d1 := up_cell (R1 1 _ rfl)
    have X2 := Lib.hid (X1.out.trans x2)
    clear x2 R1
    simp only [Nat.add_zero] at d0
    go_wp2
    refine wp_region_up (by kernel_rfl) (by kernel_rfl) ?_
    repeat (go_big_quiet_step (fail))
    refine wpQuiet_nil ?_
    rintro _ ⟨z, rfl⟩
    go_wp2
    exact bodyPost_ret (results_tmp2 rfl _ _ _) rfl ⟨by rw [E1.out, E2.out]; rfl, X2.out.trans z.ext⟩
  · have E1 := Lib.hid e1
    have E2 := Lib.hid e2
    have kz : ((l.length : Int) == 0) = true := beq_iff_eq.2 (by omega)
    rw [k1] at QP
    rw [k2] at QB
    simp only [errI, footI, Bool.false_eq_true, if_false, if_true] at QP QB
    have hpl : ((putH (i, g, f)).length : Int) ≤ 30 := by omega
    clear k1 k2 k3 e1 e2 hs hcn hlc
    generalize putH (i, g, f) = p at *
    have e1 : IntKind.i64.wrap ((p.length : Int) + 9) = (p.length : Int) + 9 := by rw [IntKind.wrap_i64]; omega
    have QB := Lib.hid (fun w h => QB.out w (RR.ext HR.out h))
    clear HR
    rw [k0] at *
    clear k0
    go_enter Try.func19, Try.ntmps19
    go_wp2_with (refine wpList_load_blk rfl 23 (.tmp 2) rfl rfl b1.out Try.underlying23 rfl HH.out ?_)
    refine (QP.out _).mono ?_
    rintro _ w1 ⟨rfl, x1⟩
    have X1 := Lib.hid (X0.out.trans x1)
    clear x1
    go_wp2_with fail
    refine (QB.out _ X1.out).mono ?_
    rintro _ w2 ⟨rfl, x2⟩
    have X2 := Lib.hid (X1.out.trans x2)
    clear x2
    go_wp2
    exact bodyPost_ret (results_tmp2 rfl _ _ _) rfl ⟨by rw [E1.out, E2.out]; rfl, X2.out⟩

end Go.Proofs.Ytbhfapjjodhndaa
namespace Go.Proofs.Ytbhfapjjodhndaa
set_option linter.unusedVariables false
set_option linter.unusedSimpArgs false
open Go.RowKit
attribute [local go_sem] S_size S_toList meta_zero

theorem blkR_step {s : List UInt8} {n k a : Nat} {l : List M7} {r : Except Int (List M7 × Nat)} (hk : k < n) (h : r = prepM l (blkR s (n - k) a)) {x : List Nat} {t : Nat} (hx : numsR s 7 a = .ok (x, t)) : r = prepM (l ++ [mkM x]) (blkR s (n - (k + 1)) t) := by
  rw [h, show n - k = (n - (k + 1)) + 1 by omega, blkR_ok hx, prepM_two]
theorem blkR_stop {s : List UInt8} {n k a : Nat} {l : List M7} {r : Except Int (List M7 × Nat)} (hk : k < n) (h : r = prepM l (blkR s (n - k) a)) {e : Int} (hx : numsR s 7 a = .error e) : r = .error e := by
  rw [h, show n - k = (n - (k + 1)) + 1 by omega, blkR_err hx]; rfl
theorem numsR_one {s : List UInt8} {a : Nat} : numsR s 1 a = (match takeN s (a : Int) with | .ok (x, k) => .ok ([x], a + k) | .error e => .error e) := by
  cases h : takeN s (a : Int) with
  | error e => rw [numsR_err h]
  | ok p => obtain ⟨x, k⟩ := p; rw [numsR_ok h]; rfl

set_option maxRecDepth 20000 in
set_option maxHeartbeats 16000000 in
theorem rGetFoot_any (s : List UInt8) (w : World) (hs : (s.length : Int) ≤ 1000000) :
    Calls Try.prog 17 #[.string (S s)] w fun r w' => ∃ u, r = .returned (.tuple #[u, .int .i64 (ftE (getFt s))]) ∧ Ext w w' ∧ RR metaC 7 w' u (ftV (getFt s)) := by
  have HL := Lib.hid (show (Try.prog.info? 55).map (·.size) = some 7 from meta_size)
  have QG1 := Lib.hid (fun w => rgets_any s 0 1 w (by omega) hs (by omega))
  have QG := Lib.hid (fun a h w => rgets_any s a 7 w h hs (by omega))
  rw [numsR_one] at QG1
  cases ht : takeN s ((0 : Nat) : Int) with
  | error e =>
    have he := takeN_err ht
    have hne : (e != 0) = true := bne_iff_ne.2 (by omega)
    have HG := Lib.hid (show getFt s = .error e by unfold getFt ftR; rw [show takeN s 0 = _ from ht])
    rw [ht] at QG1
    clear ht he
    go_enter Try.func17, Try.ntmps17
    go_wp2_with fail
    refine (QG1.out _).mono ?_
    rintro _ w1 ⟨u, rfl, x1, _⟩
    have X1 := Lib.hid x1
    clear x1
    simp only [resT, resE]
    go_wp2
    exact bodyPost_ret (results_tmp2 rfl _ _ _) rfl ⟨_, by rw [HG.out]; rfl, X1.out, by rw [HG.out]; exact RR.nil _⟩
  | ok p =>
    obtain ⟨n, a0⟩ := p
    have hto := takeN_ok ht
    rw [ht] at QG1
    by_cases hn : (n : Int) ≤ 1000
    · have HERR := Lib.hid (fun e h => show getFt s = .error e by unfold getFt; rw [ftR_err (s := s) ht hn h])
      have HREST := Lib.hid (fun l b h1 h2 => show getFt s = .error 6 by unfold getFt; rw [ftR_rest (s := s) ht hn (l := l) (b := b) h1 h2])
      have HOK := Lib.hid (fun l b h1 h2 => show getFt s = (if blocksP l then .ok l else .error 211) by unfold getFt; rw [ftR_ok (s := s) ht hn (l := l) (b := b) h1 h2])
      have kn : ¬ (1000 : Int) < (n : Int) := by omega
      have ha0 : a0 ≤ s.length := by omega
      clear ht hto
      go_enter Try.func17, Try.ntmps17
      go_wp2_with fail
      refine (QG1.out _).mono ?_
      rintro _ w1 ⟨u, rfl, x1, ru⟩
      simp only [resT, resE, resL, toI', List.map_cons, List.map_nil] at *
      obtain ⟨A, c, rfl, hlc, _, hsh⟩ := ru.shape
      obtain ⟨g, o, rfl, hc⟩ := hsh (by simp)
      have en := hc 0 (by simp)
      simp only [List.length_cons, List.length_nil, Nat.zero_add, Nat.add_zero, List.getD_cons_zero] at *
      have EN := Lib.hid en
      have X1 := Lib.hid x1
      have hlc := Lib.hid hlc
      clear x1 ru hsh hc QG1
      go_wp2
      go_loopw [5, 7, 8] (fun p v i wr => ∃ (k b : Nat) (l : List M7), k ≤ n ∧ b ≤ s.length ∧ i = .int .i64 (k : Int) ∧ p = .int .i64 (b : Int) ∧ WR metaC 7 wr w1.heap.size 55 v l ∧ l.length = k ∧ blkR s n a0 = prepM l (blkR s (n - k) b) ∧ Ext w1 wr) (fun _ _ i _ => n - (intOf i).toNat)
      case atStart => exact ⟨0, a0, [], by omega, ha0, rfl, by simp, WR.nil _ _ _, rfl, by rw [prepM_nil]; rfl, Ext.refl _⟩
      case round =>
        obtain ⟨k, b, l, hk, hb, rfl, rfl, hw, hl, hrec, hx⟩ := hrel
        have HX := Lib.hid hx
        have HW := Lib.hid hw
        have c0 := Go.cell_later hx EN.out
        clear hx hw en
        by_cases hlt : k < n
        · have hI : (k : Int) < (n : Int) := by omega
          have QB := Lib.hid (QG.out b hb)
          cases hx7 : numsR s 7 b with
          | error e =>
            have he := numsR_e hx7
            have hne : (e != 0) = true := bne_iff_ne.2 (by omega)
            have HG := Lib.hid (HERR.out e (blkR_stop hlt hrec hx7))
            rw [hx7] at QB
            clear hrec hx7 he
            go_wp2_with fail
            refine (QB.out _).mono ?_
            rintro _ w4 ⟨u, rfl, x4, _⟩
            have X4 := Lib.hid x4
            clear x4
            simp only [resT, resE]
            go_wp2
            exact bodyPost_ret (results_tmp2 rfl _ _ _) rfl ⟨_, by rw [HG.out]; rfl, X1.out.trans (HX.out.trans X4.out), by rw [HG.out]; exact RR.nil _⟩
          | ok q =>
            obtain ⟨ls, t⟩ := q
            have hq := nums_len hb hx7
            have HREC := Lib.hid (blkR_step hlt hrec hx7)
            rw [hx7] at QB
            obtain ⟨hl7, hbt, hts, hsm⟩ := hq
            obtain ⟨x0, x1, x2, x3, x4, x5, x6, rfl⟩ : ∃ x0 x1 x2 x3 x4 x5 x6, ls = [x0, x1, x2, x3, x4, x5, x6] := by
              match ls, hl7 with
              | [x0, x1, x2, x3, x4, x5, x6], _ => exact ⟨x0, x1, x2, x3, x4, x5, x6, rfl⟩
            have s5 : x5 < 9223372036854775808 := hsm x5 (by simp)
            have s6 : x6 < 9223372036854775808 := hsm x6 (by simp)
            clear hrec hx7 hl7 hsm
            go_wp2_with fail
            refine (QB.out _).mono ?_
            rintro _ w4 ⟨u, rfl, x4', ru⟩
            have X4 := Lib.hid x4'
            simp only [resT, resE, resL, toI', List.map_cons, List.map_nil] at *
            obtain ⟨A, c', rfl, hlc', _, hsh⟩ := ru.shape
            obtain ⟨g', o', rfl, hc⟩ := hsh (by simp)
            simp only [List.length_cons, List.length_nil, Nat.zero_add, Nat.reduceAdd] at *
            have e0 := hc 0 (by simp)
            have e1 := hc 1 (by simp)
            have e2 := hc 2 (by simp)
            have e3 := hc 3 (by simp)
            have e4 := hc 4 (by simp)
            have e5 := hc 5 (by simp)
            have e6 := hc 6 (by simp)
            simp only [List.getD_cons_zero, List.getD_cons_succ, Nat.add_zero] at e0 e1 e2 e3 e4 e5 e6
            have hlc' := Lib.hid hlc'
            have h5 := Lib.hid (show wr.heap.size ≤ w4.heap.size from X4.out.le)
            have hlen := Lib.hid (show (l.length : Int) ≤ 1000 by omega)
            have HL' := Lib.hid hl
            have HLT := Lib.hid hlt
            have HTS := Lib.hid hts
            have E5 := Lib.hid e5
            have E6 := Lib.hid e6
            have d0 := up_cell (W := w4.drew) e0
            have d1 := up_cell (W := w4.drew) e1
            have d2 := up_cell (W := w4.drew) e2
            have d3 := up_cell (W := w4.drew) e3
            have d4 := up_cell (W := w4.drew) e4
            have d5 := up_cell (W := w4.drew) e5
            clear hc hsh x4' ru QB e0 e1 e2 e3 e4 e5 e6 hl hlt hts
            go_wp2
            refine wp_region_lex 21 rfl (by kernel_rfl) ?_
            iterate 19
              (refine lex_want (by kernel_rfl) (by kernel_rfl) (by kernel_rfl) (by kernel_rfl) (fun _ _ _ _ h => h) (by kernel_rfl) (fun K hK => ?_)
               go_simp
               (refine hK _ ?_; clear hK K))
            refine lex_only (by kernel_rfl) (by kernel_rfl) (fun xu K hK => ?_)
            go_simp
            refine hK.out _ _ ((Ext.refl _).alloc _) ?_
            clear hK K
            refine lex_last (by kernel_rfl) (by kernel_rfl) (by kernel_rfl) (by kernel_rfl) (by kernel_rfl) (fun xv K hK => ?_)
            have bz := (Blk.new xu.val 55 #[.int .i64 0, .int .i64 0, .int .i64 0, .int .i64 0, .int .i64 0, .int .i64 0, .int .i64 0]).ext xv.ext
            refine wp_store_blk 55 (.tmp 12) (.tmp 61) rfl rfl rfl bz rfl HL.out (by kernel_rfl) (hK _ _ (fun y => ?_))
            dsimp only [Act.put]
            have BM := Lib.hid ((bz.setRow #[.int .i64 (x0 : Int), .int .i64 (x1 : Int), .int .i64 (x2 : Int), .int .i64 (x3 : Int), .int .i64 (x4 : Int), .int .i64 (x5 : Int), .int .i64 9223372036854775807]).ext y.ext)
            have hM := Lib.hid (show w4.heap.size ≤ xu.val.heap.size from xu.ext.le)
            have y7 : Ext w4 y.val := Ext.trans (Ext.setRow (((Ext.trans (Ext.refl w4).drew xu.ext).alloc _).trans xv.ext) hM.out #[.int .i64 (x0 : Int), .int .i64 (x1 : Int), .int .i64 (x2 : Int), .int .i64 (x3 : Int), .int .i64 (x4 : Int), .int .i64 (x5 : Int), .int .i64 9223372036854775807]) y.ext
            have XMr := Lib.hid (X4.out.trans y7)
            have f5 := Lib.hid (Go.cell_later y7 E5.out)
            have f6 := Lib.hid (Go.cell_later y7 E6.out)
            clear hK bz y7 d0 d1 d2 d3 d4 d5
            generalize y.val = w7 at *
            generalize xu.val.heap.size = gm at *
            have hlc7 : (7 : Int) ≤ (c' : Int) := by have := hlc'.out; omega
            have eW : IntKind.i64.wrap (9223372036854775807 - (x5 : Int)) = 9223372036854775807 - (x5 : Int) := by rw [IntKind.wrap_i64]; omega
            have u5 := up_cell f5.out
            have u6 := up_cell f6.out
            by_cases hc : (x6 : Int) ≤ 9223372036854775807 - (x5 : Int)
            · have eA : IntKind.i64.wrap ((x5 : Int) + (x6 : Int)) = (x5 : Int) + (x6 : Int) := by rw [IntKind.wrap_i64]; omega
              have MK := Lib.hid (show mkM [x0, x1, x2, x3, x4, x5, x6] = ⟨(x0 : Int), (x1 : Int), (x2 : Int), (x3 : Int), (x4 : Int), (x5 : Int), (x5 : Int) + (x6 : Int)⟩ from by show M7.mk _ _ _ _ _ _ (if (x6 : Int) ≤ 9223372036854775807 - (x5 : Int) then (x5 : Int) + (x6 : Int) else 9223372036854775807) = _; rw [if_pos hc]; rfl)
              go_wp2
              refine wp_region_up (by kernel_rfl) (by kernel_rfl) ?_
              repeat (go_big_quiet_step (fail))
              refine wpQuiet_nil ?_
              rintro _ ⟨z, rfl⟩
              have XZ := Lib.hid (XMr.out.trans z.ext)
              have BZ := BM.out.ext z.ext
              have g5 := Go.cell_later z.ext f5.out
              have g6 := Go.cell_later z.ext f6.out
              clear u5 u6
              generalize z.val = w8 at *
              have c6 : w8.cell? ⟨gm, 6, none⟩ = some (.int .i64 9223372036854775807) := BZ.cell 6
              have fz6 := BZ.frozen 6
              have BX := Lib.hid ((BZ.set_ 6 (.int .i64 ((x5 : Int) + (x6 : Int)))).drew)
              have XX := Lib.hid (show Ext wr ((w8.setCell ⟨gm, 6, none⟩ (.int .i64 ((x5 : Int) + (x6 : Int)))).drew) from (XZ.out.set (by have := h5.out; have := hM.out; show wr.heap.size ≤ gm; omega) _).drew)
              clear BZ
              go_wp2
              go_region
              generalize (w8.setCell ⟨gm, 6, none⟩ (.int .i64 ((x5 : Int) + (x6 : Int)))).drew = wx at *
              obtain ⟨v', W', p1, p2, p3, _⟩ := WR.app metaC_length (by omega) metaC_one (WR.ext HW.out XX.out) (by have := XX.out.le; have := HX.out.le; omega) (P := Try.prog) (t := 37) Try.underlying37 meta_info rfl (⟨(x0 : Int), (x1 : Int), (x2 : Int), (x3 : Int), (x4 : Int), (x5 : Int), ((x5 : Int) + (x6 : Int))⟩ : M7) (by have := hlen.out; omega) (by have := hlen.out; unfold maxLen; omega)
              have P1 : (Builtin.append_ #[37, 37] 37 #[u7, .slice (some ⟨wx.heap.size, 0, none⟩) 1 1]).run Try.prog (wx.alloc (.cells #[.int .i64 (x0 : Int), .int .i64 (x1 : Int), .int .i64 (x2 : Int), .int .i64 (x3 : Int), .int .i64 (x4 : Int), .int .i64 (x5 : Int), .int .i64 ((x5 : Int) + (x6 : Int))] 55)) = .ok v' W' := p1
              have P2 := Lib.hid p2
              have P3 := Lib.hid p3
              clear p1 p2 p3
              go_wp2_with (refine wpList_load_blk rfl 55 (.tmp 12) rfl rfl BX.out Try.underlying55 rfl HL.out ?_; refine Held.go ?_)
              refine ⟨?_⟩
              go_wp2_with (refine wpList_bs (vs := #[(0, .agg #[.int .i64 (x0 : Int), .int .i64 (x1 : Int), .int .i64 (x2 : Int), .int .i64 (x3 : Int), .int .i64 (x4 : Int), .int .i64 (x5 : Int), .int .i64 ((x5 : Int) + (x6 : Int))])]) rfl 37 1 _ rfl rfl (run_bs1m _ _ _ _ _ _ _ _) ?_; refine Held.go ?_)
              refine ⟨?_⟩
              go_wp2_with (at_builtin; refine wpList_app rfl (.tmp 78) (.tmp 80) 37 rfl rfl rfl rfl P1 ?_; refine Held.go ?_)
              refine ⟨?_⟩
              go_wp2
              go_roundw
              case rel => exact ⟨k + 1, t, l ++ [mkM [x0, x1, x2, x3, x4, x5, x6]], by have := HLT.out; omega, HTS.out, by go_num, rfl, by rw [MK.out]; exact P2.out, by rw [List.length_append, HL'.out]; rfl, HREC.out, Below.trans (HX.out.trans XX.out) P3.out⟩
              case measure => simp [intOf]; have := HLT.out; omega
            · have MK := Lib.hid (show mkM [x0, x1, x2, x3, x4, x5, x6] = ⟨(x0 : Int), (x1 : Int), (x2 : Int), (x3 : Int), (x4 : Int), (x5 : Int), 9223372036854775807⟩ from by show M7.mk _ _ _ _ _ _ (if (x6 : Int) ≤ 9223372036854775807 - (x5 : Int) then (x5 : Int) + (x6 : Int) else 9223372036854775807) = _; rw [if_neg hc]; rfl)
              go_wp2
              refine wp_region_up (by kernel_rfl) (by kernel_rfl) ?_
              repeat (go_big_quiet_step (fail))
              refine wpQuiet_nil ?_
              rintro _ ⟨z, rfl⟩
              have XX := Lib.hid (XMr.out.trans z.ext)
              have BX := Lib.hid (BM.out.ext z.ext)
              clear u5 u6
              generalize z.val = wx at *
              obtain ⟨v', W', p1, p2, p3, _⟩ := WR.app metaC_length (by omega) metaC_one (WR.ext HW.out XX.out) (by have := XX.out.le; have := HX.out.le; omega) (P := Try.prog) (t := 37) Try.underlying37 meta_info rfl (⟨(x0 : Int), (x1 : Int), (x2 : Int), (x3 : Int), (x4 : Int), (x5 : Int), 9223372036854775807⟩ : M7) (by have := hlen.out; omega) (by have := hlen.out; unfold maxLen; omega)
              have P1 : (Builtin.append_ #[37, 37] 37 #[u7, .slice (some ⟨wx.heap.size, 0, none⟩) 1 1]).run Try.prog (wx.alloc (.cells #[.int .i64 (x0 : Int), .int .i64 (x1 : Int), .int .i64 (x2 : Int), .int .i64 (x3 : Int), .int .i64 (x4 : Int), .int .i64 (x5 : Int), .int .i64 9223372036854775807] 55)) = .ok v' W' := p1
              have P2 := Lib.hid p2
              have P3 := Lib.hid p3
              clear p1 p2 p3
              go_wp2_with (refine wpList_load_blk rfl 55 (.tmp 12) rfl rfl BX.out Try.underlying55 rfl HL.out ?_; refine Held.go ?_)
              refine ⟨?_⟩
              go_wp2_with (refine wpList_bs (vs := #[(0, .agg #[.int .i64 (x0 : Int), .int .i64 (x1 : Int), .int .i64 (x2 : Int), .int .i64 (x3 : Int), .int .i64 (x4 : Int), .int .i64 (x5 : Int), .int .i64 9223372036854775807])]) rfl 37 1 _ rfl rfl (run_bs1m _ _ _ _ _ _ _ _) ?_; refine Held.go ?_)
              refine ⟨?_⟩
              go_wp2_with (at_builtin; refine wpList_app rfl (.tmp 78) (.tmp 80) 37 rfl rfl rfl rfl P1 ?_; refine Held.go ?_)
              refine ⟨?_⟩
              go_wp2
              go_roundw
              case rel => exact ⟨k + 1, t, l ++ [mkM [x0, x1, x2, x3, x4, x5, x6]], by have := HLT.out; omega, HTS.out, by go_num, rfl, by rw [MK.out]; exact P2.out, by rw [List.length_append, HL'.out]; rfl, HREC.out, Below.trans (HX.out.trans XX.out) P3.out⟩
              case measure => simp [intOf]; have := HLT.out; omega
        · obtain rfl : k = n := by omega
          have hI : ¬ (k : Int) < (k : Int) := by omega
          rw [Nat.sub_self] at hrec
          have hrec : blkR s k a0 = .ok (l, b) := by rw [hrec]; show Except.ok (l ++ [], b) = _; rw [List.append_nil]
          have RL := Lib.hid (WR.rr metaC_length HW.out)
          by_cases hbl : b = s.length
          · have HG := Lib.hid (HOK.out l b hrec hbl)
            have kb : ¬ (b : Int) < (s.length : Int) := by omega
            have q := rBlocks_any l
            have Q := Lib.hid (fun v w h => q v w h)
            clear q hrec hbl hlt
            cases hp : blocksP l with
            | false =>
              rw [hp] at HG Q
              simp only [footI, Bool.false_eq_true, if_false] at HG Q
              clear hp
              go_wp2_with fail
              refine (Q.out _ _ RL.out).mono ?_
              rintro _ w5 ⟨rfl, x5⟩
              have X5 := Lib.hid x5
              clear x5
              go_wp2
              exact bodyPost_ret (results_tmp2 rfl _ _ _) rfl ⟨_, by rw [HG.out]; rfl, X1.out.trans (HX.out.trans X5.out), by rw [HG.out]; exact RR.nil _⟩
            | true =>
              rw [hp] at HG Q
              simp only [footI, if_true] at HG Q
              clear hp
              go_wp2_with fail
              refine (Q.out _ _ RL.out).mono ?_
              rintro _ w5 ⟨rfl, x5⟩
              have X5 := Lib.hid x5
              clear x5
              go_wp2
              exact bodyPost_ret (results_tmp2 rfl _ _ _) rfl ⟨_, by rw [HG.out]; rfl, X1.out.trans (HX.out.trans X5.out), by rw [HG.out]; exact RL.out.ext X5.out⟩
          · have HG := Lib.hid (HREST.out l b hrec hbl)
            have kb : (b : Int) < (s.length : Int) := by omega
            clear hrec hbl hlt
            go_wp2
            exact bodyPost_ret (results_tmp2 rfl _ _ _) rfl ⟨_, by rw [HG.out]; rfl, X1.out.trans HX.out, by rw [HG.out]; exact RR.nil _⟩
    · have HG := Lib.hid (show getFt s = .error 3 by unfold getFt; rw [ftR_big (s := s) ht hn])
      have kn : (1000 : Int) < (n : Int) := by omega
      clear ht hto hn
      go_enter Try.func17, Try.ntmps17
      go_wp2_with fail
      refine (QG1.out _).mono ?_
      rintro _ w1 ⟨u, rfl, x1, ru⟩
      simp only [resT, resE, resL, toI', List.map_cons, List.map_nil] at *
      obtain ⟨A, c, rfl, hlc, _, hsh⟩ := ru.shape
      obtain ⟨g, o, rfl, hc⟩ := hsh (by simp)
      have en := hc 0 (by simp)
      simp only [List.length_cons, List.length_nil, Nat.zero_add, Nat.add_zero, List.getD_cons_zero] at *
      have X1 := Lib.hid x1
      clear x1 ru hsh hc QG1
      go_wp2
      exact bodyPost_ret (results_tmp2 rfl _ _ _) rfl ⟨_, by rw [HG.out]; rfl, X1.out, by rw [HG.out]; exact RR.nil _⟩
end Go.Proofs.Ytbhfapjjodhndaa
namespace Go.Proofs.Ytbhfapjjodhndaa
set_option linter.unusedVariables false
set_option linter.unusedSimpArgs false
open Go.RowKit

theorem head_in (d : Nat) (a1 a2 a3 b1 b2 b3 : Int) (w : World) : (Op.equalIn (d + 2) 23 (.agg #[.int .i64 a1, .int .i64 a2, .int .i64 a3]) (.agg #[.int .i64 b1, .int .i64 b2, .int .i64 b3])).run Try.prog w = .ok (decide (a1 = b1) && (decide (a2 = b2) && decide (a3 = b3))) w := by
  have hS2 : Try.prog.underlying 23 = some (.struct (Try.prog.fieldsOf 23)) := by kernel_rfl
  have hp2 : Try.prog.stoodInHeld 23 = false := by kernel_rfl
  have u3 := Try.underlying3
  have ag3 := Try.isAgg3
  have z3 := Try.sizeOf3
  rw [show d + 2 = (d + 1) + 1 from rfl, run_equalIn_agg w (d + 1) 23 _ _ hS2 hp2]
  simp only [Program.fieldsOf, Try.underlying23]
  go_simp
  by_cases h1 : a1 = b1 <;> by_cases h2 : a2 = b2 <;> by_cases h3 : a3 = b3 <;> simp [h1, h2, h3]
theorem head_neq (a1 a2 a3 b1 b2 b3 : Int) (w : World) :
    (binOp .neq 23 (.agg #[.int .i64 a1, .int .i64 a2, .int .i64 a3]) (.agg #[.int .i64 b1, .int .i64 b2, .int .i64 b3])).run Try.prog w = .ok (.bool (!(decide (a1 = b1) && (decide (a2 = b2) && decide (a3 = b3))))) w := by
  rw [run_neq_struct, show (10000 : Nat) = 9998 + 2 from rfl, head_in]
  rfl
theorem head_eql (a1 a2 a3 b1 b2 b3 : Int) (w : World) :
    (binOp .eql 23 (.agg #[.int .i64 a1, .int .i64 a2, .int .i64 a3]) (.agg #[.int .i64 b1, .int .i64 b2, .int .i64 b3])).run Try.prog w = .ok (.bool (decide (a1 = b1) && (decide (a2 = b2) && decide (a3 = b3)))) w := by
  rw [run_eql_struct, show (10000 : Nat) = 9998 + 2 from rfl, head_in]
  rfl
deriving instance DecidableEq for M7
theorem m7_ext (a b : M7) : (a = b) ↔ a.at_ = b.at_ ∧ a.sz = b.sz ∧ a.raw = b.raw ∧ a.cnt = b.cnt ∧ a.fst = b.fst ∧ a.early = b.early ∧ a.late = b.late := by
  cases a; cases b; simp
theorem meta_neq (a b : M7) (w : World) :
    (binOp .neq 55 (.agg (metaC a).toArray) (.agg (metaC b).toArray)).run Try.prog w = .ok (.bool (!decide (a = b))) w := by
  have hS : Try.prog.underlying 55 = some (.struct (Try.prog.fieldsOf 55)) := by kernel_rfl
  have hp : Try.prog.stoodInHeld 55 = false := by kernel_rfl
  have u3 := Try.underlying3
  have ag3 := Try.isAgg3
  have z3 := Try.sizeOf3
  have hx : (decide (a = b)) = decide (a.at_ = b.at_ ∧ a.sz = b.sz ∧ a.raw = b.raw ∧ a.cnt = b.cnt ∧ a.fst = b.fst ∧ a.early = b.early ∧ a.late = b.late) := by
    simp only [m7_ext]
  rw [hx]
  clear hx
  obtain ⟨x1, x2, x3, x4, x5, x6, x7⟩ := a
  obtain ⟨y1, y2, y3, y4, y5, y6, y7⟩ := b
  simp only [metaC]
  rw [run_neq_struct, show (10000 : Nat) = 9999 + 1 from rfl, run_equalIn_agg w 9999 55 _ _ hS hp]
  simp only [Program.fieldsOf, Try.underlying55]
  go_simp
  by_cases h1 : x1 = y1
  · by_cases h2 : x2 = y2
    · by_cases h3 : x3 = y3
      · by_cases h4 : x4 = y4
        · by_cases h5 : x5 = y5
          · by_cases h6 : x6 = y6
            · by_cases h7 : x7 = y7 <;> simp [h1, h2, h3, h4, h5, h6, h7]
            · simp [h1, h2, h3, h4, h5, h6]
          · simp [h1, h2, h3, h4, h5]
        · simp [h1, h2, h3, h4]
      · simp [h1, h2, h3]
    · simp [h1, h2]
  · simp [h1]

/-- the first k are the same -/
def sameM (a b : List M7) (k : Nat) : Prop := a.take k = b.take k
theorem samem_end {a b : List M7} (hl : a.length = b.length) (h : sameM a b a.length) : decide (a = b) = true := by
  unfold sameM at h
  rw [List.take_length, hl, List.take_length] at h
  exact decide_eq_true h
theorem samem_no {a b : List M7} {k : Nat} (ha : k < a.length) (hb : k < b.length) (h : ¬ a.getD k default = b.getD k default) : decide (a = b) = false := by
  rw [decide_eq_false_iff_not]
  rintro rfl
  exact h rfl
theorem samem_step {a b : List M7} {k : Nat} (ha : k < a.length) (hb : k < b.length) (h0 : sameM a b k) (h : a.getD k default = b.getD k default) : sameM a b (k + 1) := by
  unfold sameM at h0 ⊢
  rw [List.take_add_one, List.take_add_one, h0, getD_at ha, getD_at hb, h]
set_option maxRecDepth 20000 in
set_option maxHeartbeats 4000000 in
theorem rSameM_any (a b : List M7) (va vb : Value) (w : World) (ha : RR metaC 7 w va a) (hb : RR metaC 7 w vb b) (hl : (a.length : Int) ≤ 1000000000) :
    Calls Try.prog 22 #[va, vb] w fun e w' => e = .returned (.bool (decide (a = b))) ∧ Ext w w' := by
  obtain ⟨pa, ca, rfl, _, _, hsa⟩ := ha
  obtain ⟨pb, cb, rfl, _, _, hsb⟩ := hb
  by_cases hlen : a.length = b.length
  · have HSA := Lib.hid hsa
    have HSB := Lib.hid hsb
    have HE := Lib.hid (fun h => samem_end hlen h)
    have HNO := Lib.hid (fun k h1 h2 h => samem_no (a := a) (b := b) (k := k) h1 h2 h)
    have HST := Lib.hid (fun k h1 h2 h0 h => samem_step (a := a) (b := b) (k := k) h1 h2 h0 h)
    generalize decide (a = b) = r at *
    have HLN := Lib.hid hlen
    rw [← hlen]
    clear hsa hsb hlen
    go_enter Try.func22, Try.ntmps22
    go_wp2
    go_loopw [5] (fun i wr => ∃ k : Nat, i = .int .i64 (k : Int) ∧ k ≤ a.length ∧ sameM a b k ∧ Ext w wr) (fun i _ => a.length - (intOf i).toNat)
    case atStart => exact ⟨0, rfl, Nat.zero_le _, rfl, Ext.refl _⟩
    case round =>
      obtain ⟨k, rfl, hk, hsm, hx⟩ := hrel
      have HX := Lib.hid hx
      by_cases hlt : k < a.length
      · have hI : (k : Int) < (a.length : Int) := by omega
        have hltb : k < b.length := by have := HLN.out; omega
        obtain ⟨ga, oa, rfl, hca⟩ := HSA.out (by omega)
        obtain ⟨gb, ob, rfl, hcb⟩ := HSB.out (by omega)
        have RA := Lib.hid (rangeAt_ext (hca k _ (getD_at hlt)) hx)
        have RB := Lib.hid (rangeAt_ext (hcb k _ (getD_at hltb)) hx)
        have HNO := Lib.hid (fun h => HNO.out k hlt hltb h)
        have HST := Lib.hid (fun h => HST.out k hlt hltb hsm h)
        have hN := fun w => meta_neq (a.getD k default) (b.getD k default) w
        have hkm := Lib.hid hlt
        have hkw : IntKind.i64.wrap ((k : Int) + 1) = ((k + 1 : Nat) : Int) := by rw [IntKind.wrap_i64]; omega
        clear hca hcb hx hk hsm hlt hltb
        generalize a.getD k default = x at *
        generalize b.getD k default = y at *
        have ZA := Lib.hid (show (Try.prog.info? 55).map (·.size) = some (metaC x).length from meta_size)
        have ZB := Lib.hid (show (Try.prog.info? 55).map (·.size) = some (metaC y).length from meta_size)
        by_cases hxy : x = y
        · have hs := HST.out hxy
          rw [decide_eq_true hxy] at hN
          clear hxy HNO HST
          generalize metaC x = cx at *
          generalize metaC y = cy at *
          go_wp2
          refine wp_region_up (by kernel_rfl) (by kernel_rfl) ?_
          iterate 3 (go_big_quiet_step (fail))
          refine wpQuiet_load_range (by kernel_rfl) 55 (.tmp 19) rfl rfl RA.out Try.underlying55 rfl ZA.out ?_
          dsimp only [Act.put]
          simp only [List.setIfInBounds_toArray, List.set_cons_succ, List.set_cons_zero]
          iterate 3 (go_big_quiet_step (fail))
          refine wpQuiet_load_range (by kernel_rfl) 55 (.tmp 23) rfl rfl RB.out Try.underlying55 rfl ZB.out ?_
          dsimp only [Act.put]
          simp only [List.setIfInBounds_toArray, List.set_cons_succ, List.set_cons_zero]
          repeat (go_big_quiet_step (fail))
          refine wpQuiet_nil ?_
          rintro _ ⟨z, rfl⟩
          go_wp2
          go_roundw
          case rel => exact ⟨k + 1, by go_num, by have := hkm.out; omega, hs, HX.out.trans z.ext⟩
          case measure => simp [intOf]; have := hkm.out; omega
        · have hs := HNO.out hxy
          rw [decide_eq_false hxy] at hN
          clear hxy HNO HST
          subst hs
          generalize metaC x = cx at *
          generalize metaC y = cy at *
          go_wp2
          refine wp_region_up (by kernel_rfl) (by kernel_rfl) ?_
          iterate 3 (go_big_quiet_step (fail))
          refine wpQuiet_load_range (by kernel_rfl) 55 (.tmp 19) rfl rfl RA.out Try.underlying55 rfl ZA.out ?_
          dsimp only [Act.put]
          simp only [List.setIfInBounds_toArray, List.set_cons_succ, List.set_cons_zero]
          iterate 3 (go_big_quiet_step (fail))
          refine wpQuiet_load_range (by kernel_rfl) 55 (.tmp 23) rfl rfl RB.out Try.underlying55 rfl ZB.out ?_
          dsimp only [Act.put]
          simp only [List.setIfInBounds_toArray, List.set_cons_succ, List.set_cons_zero]
          repeat (go_big_quiet_step (fail))
          refine wpQuiet_nil ?_
          rintro _ ⟨z, rfl⟩
          go_wp2
          go_ret
          exact ⟨rfl, HX.out.trans z.ext⟩
      · obtain rfl : k = a.length := by omega
        have hres := HE.out hsm
        clear hk hx hsm
        subst hres
        go_wp2
        go_ret
        exact ⟨rfl, HX.out⟩
  · have hne : ¬ (a.length : Int) = (b.length : Int) := by omega
    have hr : decide (a = b) = false := by rw [decide_eq_false_iff_not]; rintro rfl; exact hlen rfl
    rw [hr]
    have hne' : ((a.length : Int) == (b.length : Int)) = false := by simpa using hne
    clear hsa hsb hlen hr
    go_enter Try.func22, Try.ntmps22
    go_wp2
    go_ret
    exact ⟨rfl, Ext.refl _⟩
end Go.Proofs.Ytbhfapjjodhndaa
namespace Go.Proofs.Ytbhfapjjodhndaa
set_option linter.unusedVariables false
set_option linter.unusedSimpArgs false
open Go.RowKit

def twoL : List M7 := [⟨13, 30, 10, 2, 300, 1, 5⟩, ⟨43, 20, 5, 1, 302, 5, 5⟩]
theorem two_b1 (w : World) : (Instr.build 55 #[(0, .int .i64 13), (1, .int .i64 30), (2, .int .i64 10), (3, .int .i64 2), (4, .int .i64 300), (5, .int .i64 1), (6, .int .i64 5)]).run Try.prog w = .ok (.agg #[.int .i64 13, .int .i64 30, .int .i64 10, .int .i64 2, .int .i64 300, .int .i64 1, .int .i64 5]) w := by kernel_rfl
theorem two_b2 (w : World) : (Instr.build 55 #[(0, .int .i64 43), (1, .int .i64 20), (2, .int .i64 5), (3, .int .i64 1), (4, .int .i64 302), (5, .int .i64 5), (6, .int .i64 5)]).run Try.prog w = .ok (.agg #[.int .i64 43, .int .i64 20, .int .i64 5, .int .i64 1, .int .i64 302, .int .i64 5, .int .i64 5]) w := by kernel_rfl
theorem two_bs (w : World) : (Instr.buildSlice 37 2 #[(0, .agg #[.int .i64 13, .int .i64 30, .int .i64 10, .int .i64 2, .int .i64 300, .int .i64 1, .int .i64 5]), (1, .agg #[.int .i64 43, .int .i64 20, .int .i64 5, .int .i64 1, .int .i64 302, .int .i64 5, .int .i64 5])]).run Try.prog w = .ok (.slice (some ⟨w.heap.size, 0, none⟩) 2 2) (w.alloc (.cells #[.int .i64 13, .int .i64 30, .int .i64 10, .int .i64 2, .int .i64 300, .int .i64 1, .int .i64 5, .int .i64 43, .int .i64 20, .int .i64 5, .int .i64 1, .int .i64 302, .int .i64 5, .int .i64 5] 55)) := by kernel_rfl
theorem rr_two (w : World) : RR metaC 7 (w.alloc (.cells #[.int .i64 13, .int .i64 30, .int .i64 10, .int .i64 2, .int .i64 300, .int .i64 1, .int .i64 5, .int .i64 43, .int .i64 20, .int .i64 5, .int .i64 1, .int .i64 302, .int .i64 5, .int .i64 5] 55)) (.slice (some ⟨w.heap.size, 0, none⟩) 2 2) twoL :=
  WR.rr metaC_length (WR.lit metaC_length w 55 twoL (show 2 ≤ 1000000000 by omega) _ rfl)
attribute [local go_sem] S_size S_toList two_b1 two_b2 meta_zero
set_option maxRecDepth 20000 in
theorem two_any (w : World) : Calls Try.prog 25 #[] w fun e w' => ∃ v, e = .returned v ∧ Ext w w' ∧ RR metaC 7 w' v twoL := by
  go_enter Try.func25, Try.ntmps25
  go_wp2_with (refine wpList_bs (vs := #[(0, .agg #[.int .i64 13, .int .i64 30, .int .i64 10, .int .i64 2, .int .i64 300, .int .i64 1, .int .i64 5]), (1, .agg #[.int .i64 43, .int .i64 20, .int .i64 5, .int .i64 1, .int .i64 302, .int .i64 5, .int .i64 5])]) rfl 37 2 _ rfl rfl (two_bs _) ?_)
  go_ret
  exact ⟨_, rfl, (Ext.refl w).alloc _, rr_two w⟩

theorem two_blocks : blocksP twoL = true := by decide +kernel
theorem two_end : endV 1 1 300 twoL = 63 ∧ endE 1 1 300 twoL = 0 := by decide +kernel
theorem nil_end : endV 1 1 300 [] = 13 ∧ endE 1 1 300 [] = 0 := by decide +kernel
theorem two_next : nextF 300 twoL = 303 ∧ nextF 300 [] = 300 := by decide +kernel
theorem zero_foot : footI (blocksP [⟨0, 0, 0, 0, 0, 0, 0⟩]) = 211 := by decide +kernel
theorem zero_head : errI (headP 0 0 0) 210 = 210 := by decide +kernel
theorem h0_put : putH (1, 1, 300) = [1, 1, 172, 2] := by decide +kernel
theorem h0_head : headP 1 1 300 = true := by decide +kernel
theorem h0_get : getH [1, 1, 172, 2] = .ok (1, 1, 300) := by rw [← h0_put]; exact getH_putH h0_head
theorem putFt_len (l : List M7) : ((putFt l).length : Int) ≤ 10 * (1 + 7 * (l.length : Int)) := by
  unfold putFt
  split
  · have h := puts_len (footL l)
    unfold footL at h ⊢
    rw [footK_length l l.length (Nat.le_refl _)] at h
    omega
  · simp only [List.length_nil]; omega
theorem hd_build3 (w : World) : (Instr.build 23 #[(0, .int .i64 1), (1, .int .i64 1), (2, .int .i64 300)]).run Try.prog w = .ok (.agg #[.int .i64 1, .int .i64 1, .int .i64 300]) w := by kernel_rfl
theorem bs_zero (w : World) : (Instr.buildSlice 37 1 #[(0, .agg #[.int .i64 0, .int .i64 0, .int .i64 0, .int .i64 0, .int .i64 0, .int .i64 0, .int .i64 0])]).run Try.prog w = .ok (.slice (some ⟨w.heap.size, 0, none⟩) 1 1) (w.alloc (.cells #[.int .i64 0, .int .i64 0, .int .i64 0, .int .i64 0, .int .i64 0, .int .i64 0, .int .i64 0] 55)) := by kernel_rfl
attribute [local go_sem] hd_build3 hd_build0 meta_build0 hd_zero

set_option maxRecDepth 20000 in
set_option maxHeartbeats 16000000 in
theorem awake21_any (w : World) : Calls Try.prog 7 #[] w fun e w' => e = .returned (.bool true) ∧ Ext w w' := by
  have q1 := fun w => hput_any 1 1 300 w
  rw [h0_put, h0_head] at q1
  have Q1 := Lib.hid (show ∀ w, Calls Try.prog 8 #[.agg #[.int .i64 1, .int .i64 1, .int .i64 300]] w fun e w' => e = .returned (.tuple #[.string { data := #[1, 1, 172, 2] }, .int .i64 0]) ∧ Ext w w' from q1)
  have q2 := fun w => hget_any [1, 1, 172, 2] w (by decide)
  rw [h0_get] at q2
  have Q2 := Lib.hid (show ∀ w, Calls Try.prog 10 #[.string { data := #[1, 1, 172, 2] }] w fun e w' => e = .returned (.tuple #[.agg #[.int .i64 1, .int .i64 1, .int .i64 300], .int .i64 0]) ∧ Ext w w' from q2)
  have QT := Lib.hid two_any
  have q3 := fun v w h => hPutFoot_any twoL v w h
  have q4 := fun w => hGetFoot_any (putFt twoL) w (by have := putFt_len twoL; rw [show twoL.length = 2 from rfl] at this; omega)
  rw [getFt_putFt two_blocks] at q4
  rw [two_blocks] at q3
  have q5 := fun v w h => hEnd_any 1 1 300 twoL v w h
  rw [two_end.1, two_end.2] at q5
  have q6 := fun w => hEnd_any 1 1 300 [] (.slice none 0 0) w (RR.nil w)
  rw [nil_end.1, nil_end.2] at q6
  have q7 := fun v w h => hNext_any 1 1 300 twoL v w h
  rw [two_next.1] at q7
  have q8 := fun w => hNext_any 1 1 300 [] (.slice none 0 0) w (RR.nil w)
  rw [two_next.2] at q8
  have q9 := fun v w h => hBlocks_any [⟨0, 0, 0, 0, 0, 0, 0⟩] v w h
  rw [zero_foot] at q9
  have q10 := fun w => hcheck_any 0 0 0 w
  rw [zero_head] at q10
  have q11 := fun va vb w ha hb => rSameM_any twoL twoL va vb w ha hb (by decide)
  rw [decide_eq_true rfl] at q11
  have hl := putFt_len twoL
  rw [show twoL.length = 2 from rfl] at hl
  have HL := Lib.hid hl
  simp only [footI, if_true, ftE, ftV] at q3 q4
  clear hl q1 q2
  generalize putFt twoL = t at *
  have Q3 := Lib.hid q3
  have Q4 := Lib.hid q4
  have Q5 := Lib.hid q5
  have Q6 := Lib.hid q6
  have Q7 := Lib.hid q7
  have Q8 := Lib.hid q8
  have Q9 := Lib.hid q9
  have Q10 := Lib.hid q10
  have Q11 := Lib.hid q11
  clear q3 q4 q5 q6 q7 q8 q9 q10 q11
  have HH := Lib.hid hd_size
  have RZ := Lib.hid (fun w => rr_new1 0 0 0 0 0 0 0 w)
  have HEQ := Lib.hid (show ∀ w, (binOp .eql 23 (.agg #[.int .i64 1, .int .i64 1, .int .i64 300]) (.agg #[.int .i64 1, .int .i64 1, .int .i64 300])).run Try.prog w = .ok (.bool true) w from fun w => head_eql 1 1 300 1 1 300 w)
  generalize twoL = tl at *
  have b1 := Lib.hid (Blk.new w 23 #[.int .i64 1, .int .i64 1, .int .i64 300])
  have X0 := Lib.hid ((Ext.refl w).alloc (.cells #[.int .i64 1, .int .i64 1, .int .i64 300] 23))
  go_enter Try.func7, Try.ntmps7
  go_wp2_with (first
    | (refine wpList_store_new rfl 23 (.tmp 1) (.tmp 14) rfl rfl rfl rfl HH.out (by kernel_rfl) ?_)
    | (refine wpList_load_blk rfl 23 (.tmp 1) rfl rfl b1.out Try.underlying23 rfl HH.out ?_))
  refine (Q1.out _).mono ?_
  rintro _ w1 ⟨rfl, x1⟩
  have B1 := Lib.hid (b1.out.ext x1)
  have X1 := Lib.hid (X0.out.trans x1)
  clear x1 b1 X0
  go_wp2_with fail
  refine (Q2.out _).mono ?_
  rintro _ w2 ⟨rfl, x2⟩
  have y2 := x2.alloc (.cells #[.int .i64 1, .int .i64 1, .int .i64 300] 23)
  have B1 := Lib.hid (B1.out.ext y2)
  have X2 := Lib.hid (X1.out.trans y2)
  have B4 := Lib.hid (Blk.new w2 23 #[.int .i64 1, .int .i64 1, .int .i64 300])
  clear x2 y2 X1
  go_wp2_with (refine wpList_store_new rfl 23 (.tmp 4) (.tmp 22) rfl rfl rfl rfl HH.out (by kernel_rfl) ?_)
  refine (QT.out _).mono ?_
  rintro _ w3 ⟨v3, rfl, x3, r3⟩
  have B1 := Lib.hid (B1.out.ext x3)
  have B4 := Lib.hid (B4.out.ext x3)
  have X3 := Lib.hid (X2.out.trans x3)
  have R3 := Lib.hid r3
  clear x3 X2 r3
  go_wp2_with fail
  refine (Q3.out _ _ R3.out).mono ?_
  rintro _ w4 ⟨rfl, x4⟩
  have B1 := Lib.hid (B1.out.ext x4)
  have B4 := Lib.hid (B4.out.ext x4)
  have X4 := Lib.hid (X3.out.trans x4)
  clear x4 X3
  go_wp2_with fail
  refine (Q4.out _).mono ?_
  rintro _ w5 ⟨v5, rfl, x5, r5⟩
  have B1 := Lib.hid (B1.out.ext x5)
  have B4 := Lib.hid (B4.out.ext x5)
  have X5 := Lib.hid (X4.out.trans x5)
  have R5 := Lib.hid r5
  clear x5 X4 r5
  go_wp2_with fail
  refine wp_region_lex 8 rfl (by kernel_rfl) ?_
  refine lex_load_blk (by kernel_rfl) (by kernel_rfl) (by kernel_rfl) (by kernel_rfl) (fun _ _ _ _ h => h) (by kernel_rfl) 23 (.tmp 1) rfl rfl B1.out.drew Try.underlying23 rfl HH.out ?_
  refine lex_only (by kernel_rfl) (by kernel_rfl) (fun x K hK => ?_)
  go_simp
  refine (QT.out _).mono ?_
  rintro _ w6 ⟨v6, rfl, x6, r6⟩
  refine hK.out _ _ x6 ?_
  have y6 := Ext.trans (Ext.trans (Ext.refl w5).drew x.ext) x6
  have R6 := Lib.hid r6
  have B1 := Lib.hid (B1.out.ext y6)
  have B4 := Lib.hid (B4.out.ext y6)
  have R5 := Lib.hid (R5.out.ext y6)
  have X6 := Lib.hid (X5.out.trans y6)
  clear hK K x6 r6 y6 X5 x
  refine lex_only (by kernel_rfl) (by kernel_rfl) (fun x K hK => ?_)
  go_simp
  refine (Q5.out _ _ (R6.out.ext x.ext)).mono ?_
  rintro _ w7 ⟨rfl, x7⟩
  refine hK.out _ _ x7 ?_
  have y7 := Ext.trans x.ext x7
  have B1 := Lib.hid (B1.out.ext y7)
  have B4 := Lib.hid (B4.out.ext y7)
  have R5 := Lib.hid (R5.out.ext y7)
  have X7 := Lib.hid (X6.out.trans y7)
  clear hK K x7 y7 X6 x R6
  iterate 5
    (refine lex_want (by kernel_rfl) (by kernel_rfl) (by kernel_rfl) (by kernel_rfl) (fun _ _ _ _ h => h) (by kernel_rfl) (fun K hK => ?_)
     go_simp
     (refine hK _ ?_; clear hK K))
  refine lex_done (by kernel_rfl) (fun z => ?_)
  have B1 := Lib.hid (B1.out.ext z.ext)
  have B4 := Lib.hid (B4.out.ext z.ext)
  have R5 := Lib.hid (R5.out.ext z.ext)
  have X8 := Lib.hid (X7.out.trans z.ext)
  clear X7
  generalize z.val = w8 at *
  clear z
  go_wp2_with (refine wpList_load_blk rfl 23 (.tmp 1) rfl rfl B1.out Try.underlying23 rfl HH.out ?_; refine Held.go ?_)
  refine ⟨?_⟩
  go_wp2_with fail
  refine (Q6.out _).mono ?_
  rintro _ w9 ⟨rfl, x9⟩
  have B1 := Lib.hid (B1.out.ext x9)
  have B4 := Lib.hid (B4.out.ext x9)
  have R5 := Lib.hid (R5.out.ext x9)
  have X9 := Lib.hid (X8.out.trans x9)
  clear x9 X8
  have heq := HEQ.out
  obtain ⟨a5, c5, rfl, _, _, _⟩ := R5.out
  have XX := Lib.hid (X9.out.drew)
  have B1 := Lib.hid B1.out.drew
  have B4 := Lib.hid B4.out.drew
  have R5 := Lib.hid (R5.out.ext (Ext.refl w9).drew)
  clear X9
  go_wp2
  dsimp only [List.append]
  refine wp_region_lex 67 rfl (by kernel_rfl) ?_
  generalize w9.drew = w9 at *
  iterate 7
    (refine lex_want (by kernel_rfl) (by kernel_rfl) (by kernel_rfl) (by kernel_rfl) (fun _ _ _ _ h => h) (by kernel_rfl) (fun K hK => ?_)
     go_simp
     (refine hK _ ?_; clear hK K))
  refine lex_load_blk (by kernel_rfl) (by kernel_rfl) (by kernel_rfl) (by kernel_rfl) (fun _ _ _ _ h => h) (by kernel_rfl) 23 (.tmp 4) rfl rfl B4.out Try.underlying23 rfl HH.out ?_
  dsimp only [Act.put]
  simp only [List.setIfInBounds_toArray, List.set_cons_succ, List.set_cons_zero]
  refine lex_load_blk (by kernel_rfl) (by kernel_rfl) (by kernel_rfl) (by kernel_rfl) (fun _ _ _ _ h => h) (by kernel_rfl) 23 (.tmp 1) rfl rfl B1.out Try.underlying23 rfl HH.out ?_
  dsimp only [Act.put]
  simp only [List.setIfInBounds_toArray, List.set_cons_succ, List.set_cons_zero]
  iterate 12
    (refine lex_want (by kernel_rfl) (by kernel_rfl) (by kernel_rfl) (by kernel_rfl) (fun _ _ _ _ h => h) (by kernel_rfl) (fun K hK => ?_)
     go_simp
     (refine hK _ ?_; clear hK K))
  clear heq B4
  refine lex_only (by kernel_rfl) (by kernel_rfl) (fun x K hK => ?_)
  go_simp
  refine (QT.out _).mono ?_
  rintro _ w10 ⟨v10, rfl, x10, r10⟩
  refine hK.out _ _ x10 ?_
  have y10 := Ext.trans x.ext x10
  have B1 := Lib.hid (B1.out.ext y10)
  have R5 := Lib.hid (R5.out.ext y10)
  have XX := Lib.hid (XX.out.trans y10)
  have R10 := Lib.hid r10
  clear hK K x10 y10 r10 x
  refine lex_only (by kernel_rfl) (by kernel_rfl) (fun x K hK => ?_)
  go_simp
  refine (Q11.out _ _ _ (R5.out.ext x.ext) (R10.out.ext x.ext)).mono ?_
  rintro _ w11 ⟨rfl, x11⟩
  refine hK.out _ _ x11 ?_
  have y11 := Ext.trans x.ext x11
  have B1 := Lib.hid (B1.out.ext y11)
  have XX := Lib.hid (XX.out.trans y11)
  clear hK K x11 y11 x R5 R10
  iterate 22
    (refine lex_want (by kernel_rfl) (by kernel_rfl) (by kernel_rfl) (by kernel_rfl) (fun _ _ _ _ h => h) (by kernel_rfl) (fun K hK => ?_)
     go_simp
     (refine hK _ ?_; clear hK K))
  refine lex_load_blk (by kernel_rfl) (by kernel_rfl) (by kernel_rfl) (by kernel_rfl) (fun _ _ _ _ h => h) (by kernel_rfl) 23 (.tmp 1) rfl rfl B1.out Try.underlying23 rfl HH.out ?_
  dsimp only [Act.put]
  simp only [List.setIfInBounds_toArray, List.set_cons_succ, List.set_cons_zero]
  refine lex_only (by kernel_rfl) (by kernel_rfl) (fun x K hK => ?_)
  go_simp
  refine (QT.out _).mono ?_
  rintro _ w12 ⟨v12, rfl, x12, r12⟩
  refine hK.out _ _ x12 ?_
  have y12 := Ext.trans x.ext x12
  have B1 := Lib.hid (B1.out.ext y12)
  have XX := Lib.hid (XX.out.trans y12)
  have R12 := Lib.hid r12
  clear hK K x12 y12 r12 x
  refine lex_only (by kernel_rfl) (by kernel_rfl) (fun x K hK => ?_)
  go_simp
  refine (Q7.out _ _ (R12.out.ext x.ext)).mono ?_
  rintro _ w13 ⟨rfl, x13⟩
  refine hK.out _ _ x13 ?_
  have y13 := Ext.trans x.ext x13
  have B1 := Lib.hid (B1.out.ext y13)
  have XX := Lib.hid (XX.out.trans y13)
  clear hK K x13 y13 x R12
  iterate 3
    (refine lex_want (by kernel_rfl) (by kernel_rfl) (by kernel_rfl) (by kernel_rfl) (fun _ _ _ _ h => h) (by kernel_rfl) (fun K hK => ?_)
     go_simp
     (refine hK _ ?_; clear hK K))
  refine lex_load_blk (by kernel_rfl) (by kernel_rfl) (by kernel_rfl) (by kernel_rfl) (fun _ _ _ _ h => h) (by kernel_rfl) 23 (.tmp 1) rfl rfl B1.out Try.underlying23 rfl HH.out ?_
  dsimp only [Act.put]
  simp only [List.setIfInBounds_toArray, List.set_cons_succ, List.set_cons_zero]
  refine lex_only (by kernel_rfl) (by kernel_rfl) (fun x K hK => ?_)
  go_simp
  refine (Q8.out _).mono ?_
  rintro _ w14 ⟨rfl, x14⟩
  refine hK.out _ _ x14 ?_
  have y14 := Ext.trans x.ext x14
  have XX := Lib.hid (XX.out.trans y14)
  clear hK K x14 y14 x
  iterate 4
    (refine lex_want (by kernel_rfl) (by kernel_rfl) (by kernel_rfl) (by kernel_rfl) (fun _ _ _ _ h => h) (by kernel_rfl) (fun K hK => ?_)
     go_simp
     (refine hK _ ?_; clear hK K))
  refine lex_only (by kernel_rfl) (by kernel_rfl) (fun x K hK => ?_)
  rw [if_pos (by kernel_rfl)]
  refine wp_bs (vs := #[(0, .agg #[.int .i64 0, .int .i64 0, .int .i64 0, .int .i64 0, .int .i64 0, .int .i64 0, .int .i64 0])]) 37 1 _ rfl rfl (bs_zero _) (hK.out _ _ ((Ext.refl _).alloc _) ?_)
  have R15 := Lib.hid (RZ.out x.val)
  have XX := Lib.hid (XX.out.trans (x.ext.alloc (.cells #[.int .i64 0, .int .i64 0, .int .i64 0, .int .i64 0, .int .i64 0, .int .i64 0, .int .i64 0] 55)))
  clear hK K
  dsimp only [Act.put]
  simp only [List.setIfInBounds_toArray, List.set_cons_succ, List.set_cons_zero]
  refine lex_only (by kernel_rfl) (by kernel_rfl) (fun xz K hK => ?_)
  go_simp
  refine (Q9.out _ _ (R15.out.ext xz.ext)).mono ?_
  rintro _ w15 ⟨rfl, x15⟩
  refine hK.out _ _ x15 ?_
  have y15 := Ext.trans xz.ext x15
  have XX := Lib.hid (XX.out.trans y15)
  clear hK K x15 y15 xz R15
  iterate 4
    (refine lex_want (by kernel_rfl) (by kernel_rfl) (by kernel_rfl) (by kernel_rfl) (fun _ _ _ _ h => h) (by kernel_rfl) (fun K hK => ?_)
     go_simp
     (refine hK _ ?_; clear hK K))
  refine lex_only (by kernel_rfl) (by kernel_rfl) (fun xz K hK => ?_)
  go_simp
  refine (Q10.out _).mono ?_
  rintro _ w16 ⟨rfl, x16⟩
  refine hK.out _ _ x16 ?_
  have y16 := Ext.trans xz.ext x16
  have XX := Lib.hid (XX.out.trans y16)
  clear hK K x16 y16 xz
  iterate 3
    (refine lex_want (by kernel_rfl) (by kernel_rfl) (by kernel_rfl) (by kernel_rfl) (fun _ _ _ _ h => h) (by kernel_rfl) (fun K hK => ?_)
     go_simp
     (refine hK _ ?_; clear hK K))
  refine lex_done (by kernel_rfl) (fun z => ?_)
  have XX := Lib.hid (XX.out.trans z.ext)
  generalize z.val = wz at *
  go_wp2
  go_ret
  exact ⟨rfl, XX.out⟩
end Go.Proofs.Ytbhfapjjodhndaa
