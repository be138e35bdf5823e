/- manifests: what is put is taken again, and the other way round (plain). -/
import Derived.Test.YtcagcepbnkageaaMgL
import Derived.Test.YtcagcepbnkageaaMaD
import Derived.Test.YtcagcepbnkageaaMaM
namespace Go.Proofs.Ytcagcepbnkageaa
set_option linter.unusedVariables false
set_option linter.unusedSimpArgs false
open Go.RowKit

theorem putF_up : ∀ (f n : Nat), n < 128 ^ (f + 1) → putF (f + 1) n = putF f n
  | 0, n, h => by
    have : n < 128 := by simpa using h
    rw [putF_small this, putF_small this]
  | f + 1, n, h => by
    by_cases hn : n < 128
    · rw [putF_small hn, putF_small hn]
    · rw [putF_more hn, putF_more hn, putF_up f (n / 128) (div128 h)]
theorem putN_8 {n : Nat} (h : n < 9223372036854775808) : putN n = putF 8 n := putF_up 8 n (by rw [show 128 ^ 9 = 9223372036854775808 by decide]; exact h)
/-- a number that stands somewhere -/
theorem takeN_put {n : Nat} (h : n < 9223372036854775808) (p r : List UInt8) : takeN (p ++ (putN n ++ r)) ((p.length : Nat) : Int) = .ok (n, (putN n).length) := by
  rw [takeN_in _ _ (by rw [List.length_append]; omega), List.drop_left, putN_8 h]
  exact get_put 8 0 n r (by rw [show 128 ^ 9 = 9223372036854775808 by decide]; exact h) (fun h => by omega)
theorem put_takeN {s : List UInt8} {a n k : Nat} (h : takeN s (a : Int) = .ok (n, k)) : putN n = (s.drop a).take k := by
  have h1 := takeN_ok h
  rw [takeN_in _ _ (by omega)] at h
  rw [putN_8 h1.2.2.1]
  exact (put_get 8 0 _ n k h).2
theorem putsL_cons (x : Int) (l : List Int) : putsL (x :: l) = putI x ++ putsL l := rfl
theorem putI_ofNat (n : Nat) : putI (n : Int) = putN n := (putI_nat n).1
/-- numbers that stand somewhere -/
theorem numsR_put : ∀ (l : List Nat) (p r : List UInt8), (∀ x ∈ l, x < 9223372036854775808) → numsR (p ++ (putsL (toI' l) ++ r)) l.length p.length = .ok (l, p.length + (putsL (toI' l)).length)
  | [], p, r, h => rfl
  | x :: l, p, r, h => by
    have hx := takeN_put (h x (List.mem_cons_self ..)) p (putsL (toI' l) ++ r)
    have e : putsL (toI' (x :: l)) = putN x ++ putsL (toI' l) := by
      show putsL ((x : Int) :: toI' l) = _
      rw [putsL_cons, putI_ofNat]
    rw [e, List.append_assoc, List.length_cons, numsR_ok hx]
    have ih := numsR_put l (p ++ putN x) r (fun y hy => h y (List.mem_cons_of_mem _ hy))
    rw [List.append_assoc, List.length_append] at ih
    rw [ih]
    show Except.ok _ = Except.ok _
    rw [List.length_append, Nat.add_assoc]; rfl
theorem take_two (s : List UInt8) (a k j : Nat) : (s.drop a).take k ++ (s.drop (a + k)).take j = (s.drop a).take (k + j) := by
  rw [List.take_add, List.drop_drop]
theorem put_numsR {s : List UInt8} : ∀ {n a t : Nat} {l : List Nat}, numsR s n a = .ok (l, t) → a ≤ t ∧ putsL (toI' l) = (s.drop a).take (t - a)
  | 0, a, t, l, h => by
    injection h with h
    injection h with h1 h2
    subst h1; subst h2
    exact ⟨Nat.le_refl _, by rw [Nat.sub_self, List.take_zero]; rfl⟩
  | n + 1, a, t, l, h => by
    cases ht : takeN s (a : Int) with
    | error e => rw [numsR_err ht] at h; cases h
    | ok q =>
      obtain ⟨x, k⟩ := q
      rw [numsR_ok ht] at h
      cases hr : numsR s n (a + k) with
      | error e => rw [hr] at h; cases h
      | ok q =>
        obtain ⟨l', t'⟩ := q
        rw [hr] at h
        injection h with h
        injection h with h2 h3
        subst h2; subst h3
        obtain ⟨i1, i2⟩ := put_numsR hr
        refine ⟨by omega, ?_⟩
        show putsL ((x : Int) :: toI' l') = _
        rw [putsL_cons, putI_ofNat, put_takeN ht, i2, take_two]
        congr 1; omega
theorem toI'_nat {l : List Int} (h : ∀ x ∈ l, 0 ≤ x) : toI' (l.map Int.toNat) = l := by
  unfold toI'
  rw [List.map_map]
  conv => rhs; rw [← List.map_id l]
  exact List.map_congr_left fun x hx => by have := h x hx; show ((x.toNat : Nat) : Int) = x; omega
theorem nat_lt {l : List Int} (h : ∀ x ∈ l, 0 ≤ x ∧ x ≤ 9223372036854775807) : ∀ x ∈ l.map Int.toNat, x < 9223372036854775808 := by
  intro x hx
  obtain ⟨y, hy, rfl⟩ := List.mem_map.1 hx
  have := h y hy; omega
/-- whole numbers that stand somewhere -/
theorem numsR_putI (l : List Int) (p r : List UInt8) (h : ∀ x ∈ l, 0 ≤ x ∧ x ≤ 9223372036854775807) : numsR (p ++ (putsL l ++ r)) l.length p.length = .ok (l.map Int.toNat, p.length + (putsL l).length) := by
  have := numsR_put (l.map Int.toNat) p r (nat_lt h)
  rw [toI'_nat (fun x hx => (h x hx).1), List.length_map] at this
  exact this


/-- nine numbers are numbers, of which the fourth is a flag -/
theorem nine_nums {s : List UInt8} : ∀ {n i a t : Nat} {l : List Nat}, nineL s n i a = .ok (l, t) → numsR s n a = .ok (l, t) ∧ (∀ j, i + j = 3 → l.getD j 0 ≤ 1)
  | 0, i, a, t, l, h => by
    injection h with h
    injection h with h1 h2
    subst h1; subst h2
    exact ⟨rfl, fun j _ => by simp⟩
  | n + 1, i, a, t, l, h => by
    cases ht : takeN s (a : Int) with
    | error e => rw [nineL_err ht] at h; cases h
    | ok q =>
      obtain ⟨x, k⟩ := q
      by_cases h3 : i = 3 ∧ 1 < x
      · obtain ⟨rfl, h3⟩ := h3
        rw [nineL_bad ht h3] at h; cases h
      · rw [nineL_ok ht h3] at h
        cases hr : nineL s n (i + 1) (a + k) with
        | error e => rw [hr] at h; cases h
        | ok q =>
          obtain ⟨l', t'⟩ := q
          rw [hr] at h
          injection h with h
          injection h with h1 h2
          subst h1; subst h2
          obtain ⟨i1, i2⟩ := nine_nums hr
          refine ⟨by rw [numsR_ok ht, i1]; rfl, fun j hj => ?_⟩
          cases j with
          | zero => show x ≤ 1; omega
          | succ j => exact i2 j (by omega)
theorem nums_nine {s : List UInt8} : ∀ {n i a t : Nat} {l : List Nat}, numsR s n a = .ok (l, t) → (∀ j, i + j = 3 → l.getD j 0 ≤ 1) → nineL s n i a = .ok (l, t)
  | 0, i, a, t, l, h, h3 => h
  | n + 1, i, a, t, l, h, h3 => by
    cases ht : takeN s (a : Int) with
    | error e => rw [numsR_err ht] at h; cases h
    | ok q =>
      obtain ⟨x, k⟩ := q
      rw [numsR_ok ht] at h
      cases hr : numsR s n (a + k) with
      | error e => rw [hr] at h; cases h
      | ok q =>
        obtain ⟨l', t'⟩ := q
        rw [hr] at h
        injection h with h
        injection h with h1 h2
        subst h1; subst h2
        have hx : ¬ (i = 3 ∧ 1 < x) := fun ⟨e, hx⟩ => by
          have : x ≤ 1 := h3 0 (by omega)
          omega
        rw [nineL_ok ht hx, nums_nine hr (fun j hj => h3 (j + 1) (by omega))]
        rfl
theorem e9L_flag (e : E9) : ((e9L e).map Int.toNat).getD 3 0 ≤ 1 := by
  show (sI e.sld).toNat ≤ 1
  cases e.sld <;> decide
theorem mkE_e9 {e : E9} (h : entP e = true) : mkE ((e9L e).map Int.toNat) = e := by
  have hn := e9L_nn h
  obtain ⟨a, b, c, s, d, f, g, i, j⟩ := e
  have q : ∀ x : Int, x ∈ e9L ⟨a, b, c, s, d, f, g, i, j⟩ → ((x.toNat : Nat) : Int) = x := fun x hx => by have := hn x hx; omega
  show E9.mk ((a.toNat : Nat) : Int) ((b.toNat : Nat) : Int) ((c.toNat : Nat) : Int) (decide ((sI s).toNat = 1)) ((d.toNat : Nat) : Int) ((f.toNat : Nat) : Int) ((g.toNat : Nat) : Int) ((i.toNat : Nat) : Int) ((j.toNat : Nat) : Int) = _
  rw [q a (by simp [e9L]), q b (by simp [e9L]), q c (by simp [e9L]), q d (by simp [e9L]), q f (by simp [e9L]), q g (by simp [e9L]), q i (by simp [e9L]), q j (by simp [e9L])]
  have : decide ((sI s).toNat = 1) = s := by cases s <;> rfl
  rw [this]
theorem e9_mkE {l : List Nat} (hl : l.length = 9) (h3 : l.getD 3 0 ≤ 1) : e9L (mkE l) = toI' l := by
  match l, hl with
  | [a, b, c, d, e, f, g, i, j], _ =>
    have h3 : d ≤ 1 := h3
    show [((a : Nat) : Int), (b : Int), (c : Int), sI (decide (d = 1)), (e : Int), (f : Int), (g : Int), (i : Int), (j : Int)] = [((a : Nat) : Int), (b : Int), (c : Int), (d : Int), (e : Int), (f : Int), (g : Int), (i : Int), (j : Int)]
    have : sI (decide (d = 1)) = (d : Int) := by
      rcases (by omega : d = 0 ∨ d = 1) with rfl | rfl <;> rfl
    rw [this]
/-- entries that stand somewhere -/
theorem ents_put : ∀ (l : List E9) (p r : List UInt8), (∀ e ∈ l, entP e = true) → entsR (p ++ (putsL (l.flatMap e9L) ++ r)) l.length p.length = .ok (l, p.length + (putsL (l.flatMap e9L)).length)
  | [], p, r, h => rfl
  | m :: l, p, r, h => by
    have hm := h m (List.mem_cons_self ..)
    have hn := numsR_putI (e9L m) p (putsL (l.flatMap e9L) ++ r) (e9L_nn hm)
    have e : putsL ((m :: l).flatMap e9L) = putsL (e9L m) ++ putsL (l.flatMap e9L) := by
      rw [List.flatMap_cons]; exact List.flatMap_append
    rw [show (e9L m).length = 9 from rfl] at hn
    have hn := nums_nine (i := 0) hn (fun j hj => by
      have hj3 : j = 3 := by omega
      rw [hj3]; exact e9L_flag m)
    rw [e, List.append_assoc, List.length_cons, entsR_ok hn, mkE_e9 hm]
    have ih := ents_put l (p ++ putsL (e9L m)) r (fun y hy => h y (List.mem_cons_of_mem _ hy))
    rw [List.append_assoc, List.length_append] at ih
    rw [ih]
    show Except.ok _ = Except.ok _
    rw [List.length_append, Nat.add_assoc]; rfl
theorem put_ents {s : List UInt8} : ∀ {n a t : Nat} {l : List E9}, a ≤ s.length → entsR s n a = .ok (l, t) → l.length = n ∧ a ≤ t ∧ t ≤ s.length ∧ putsL (l.flatMap e9L) = (s.drop a).take (t - a)
  | 0, a, t, l, ha, h => by
    injection h with h
    injection h with h1 h2
    subst h1; subst h2
    exact ⟨rfl, Nat.le_refl _, ha, by rw [Nat.sub_self, List.take_zero]; rfl⟩
  | n + 1, a, t, l, ha, h => by
    cases ht : nineL s 9 0 a with
    | error e => rw [entsR_err ht] at h; cases h
    | ok q =>
      obtain ⟨x, k⟩ := q
      rw [entsR_ok ht] at h
      obtain ⟨hq1, hq2⟩ := nine_nums ht
      have hx := nums_len ha hq1
      have hq := put_numsR hq1
      cases hr : entsR s n k with
      | error e => rw [hr] at h; cases h
      | ok q =>
        obtain ⟨l', t'⟩ := q
        rw [hr] at h
        injection h with h
        injection h with h2 h3
        subst h2; subst h3
        obtain ⟨i1, i2, i3, i4⟩ := put_ents hx.2.2.1 hr
        refine ⟨by rw [List.length_append, i1, List.length_singleton]; omega, by omega, i3, ?_⟩
        rw [List.flatMap_append, putsL_app, i4, List.flatMap_singleton, e9_mkE hx.1 (hq2 3 rfl), hq.2]
        have e := take_two s a (k - a) (t' - k)
        rw [show a + (k - a) = k by omega] at e
        rw [e]
        congr 1; omega
theorem row_all {l : List E9} (h : rowP l = true) : ∀ e ∈ l, entP e = true := by
  intro e he
  obtain ⟨i, hi, rfl⟩ := List.getElem_of_mem he
  have := row_ent h hi
  rw [List.getD_eq_getElem?_getD, List.getElem?_eq_getElem hi] at this
  exact this
theorem manB_eq {m : Man} (h : maniP m = true) : manB m = putsL [m.gen, m.next, m.now, m.floor, (m.ents.length : Int)] ++ putsL (m.ents.flatMap e9L) := by
  unfold manB manK
  rw [if_pos h, List.take_length, ← putsL_app]; rfl
/-- a manifest comes back of its bytes -/
theorem decM_manB {m : Man} (h : maniP m = true) : decM (manB m) = .ok m := by
  have hmr := mani_row h
  have hl := rowP_len hmr.2.1
  have hnn := manK_nn h
  have hh : ∀ x ∈ [m.gen, m.next, m.now, m.floor, (m.ents.length : Int)], 0 ≤ x ∧ x ≤ 9223372036854775807 := fun x hx => hnn x (by
    unfold manK
    simp only [List.mem_cons, List.not_mem_nil, or_false] at hx
    rcases hx with rfl | rfl | rfl | rfl | rfl <;> simp)
  have hn := numsR_putI [m.gen, m.next, m.now, m.floor, (m.ents.length : Int)] [] (putsL (m.ents.flatMap e9L)) hh
  rw [List.nil_append, ← manB_eq h] at hn
  have hn : numsR (manB m) 5 0 = .ok ([m.gen.toNat, m.next.toNat, m.now.toNat, m.floor.toNat, m.ents.length], (putsL [m.gen, m.next, m.now, m.floor, (m.ents.length : Int)]).length) := by
    have := hn
    rw [show ([] : List UInt8).length = 0 from rfl, Nat.zero_add] at this
    exact this
  have he := ents_put m.ents (putsL [m.gen, m.next, m.now, m.floor, (m.ents.length : Int)]) [] (row_all hmr.2.1)
  rw [List.append_nil, ← manB_eq h] at he
  have hd := decR_ok hn (by show ((m.ents.length : Nat) : Int) ≤ 100; omega) he (by rw [manB_eq h, List.length_append])
  have e1 := hh m.gen (by simp)
  have e2 := hh m.next (by simp)
  have e3 := hh m.now (by simp)
  have e4 := hh m.floor (by simp)
  have hm : (⟨((m.gen.toNat : Nat) : Int), ((m.next.toNat : Nat) : Int), ((m.now.toNat : Nat) : Int), ((m.floor.toNat : Nat) : Int), m.ents⟩ : Man) = m := by
    obtain ⟨a, b, c, d, l⟩ := m
    simp only at *
    rw [show ((a.toNat : Nat) : Int) = a by omega, show ((b.toNat : Nat) : Int) = b by omega, show ((c.toNat : Nat) : Int) = c by omega, show ((d.toNat : Nat) : Int) = d by omega]
  have hd : decR (manB m) = .ok m := by rw [hd]; exact congrArg Except.ok hm
  unfold decM
  rw [hd]
  show (if maniP m then _ else _) = _
  rw [if_pos h]
/-- bytes that are a manifest's are what it is put as -/
theorem manB_decM {s : List UInt8} {m : Man} (h : decM s = .ok m) : maniP m = true ∧ manB m = s := by
  unfold decM at h
  cases hd : decR s with
  | error e => rw [hd] at h; cases h
  | ok q =>
    rw [hd] at h
    have h : (if maniP q then Except.ok q else Except.error (250 : Int)) = Except.ok m := h
    by_cases hp : maniP q = true
    · rw [if_pos hp] at h
      injection h with h
      subst h
      refine ⟨hp, ?_⟩
      cases hn : numsR s 5 0 with
      | error e => rw [decR_nums hn] at hd; cases hd
      | ok u =>
        obtain ⟨l, a⟩ := u
        by_cases hb : ((l.getD 4 0 : Nat) : Int) ≤ 100
        · cases he : entsR s (l.getD 4 0) a with
          | error e => rw [decR_err hn hb he] at hd; cases hd
          | ok u =>
            obtain ⟨es, b⟩ := u
            by_cases ht : b = s.length
            · have hnl := nums_len (Nat.zero_le _) hn
              have hpn := put_numsR hn
              have hpe := put_ents hnl.2.2.1 he
              rw [decR_ok hn hb he ht] at hd
              injection hd with hd
              subst hd
              rw [manB_eq hp]
              obtain ⟨i1, i2, i3, i4⟩ := hpe
              obtain ⟨x, y, z, u, v, rfl⟩ : ∃ x y z u v, l = [x, y, z, u, v] := by
                match l, hnl.1 with
                | [x, y, z, u, v], _ => exact ⟨x, y, z, u, v, rfl⟩
              have e5 : es.length = v := i1
              have hx : putsL [((x : Nat) : Int), (y : Int), (z : Int), (u : Int), (es.length : Int)] = s.take a := by
                rw [e5]
                have := hpn.2
                rw [List.drop_zero, Nat.sub_zero] at this
                exact this
              show putsL [((x : Nat) : Int), (y : Int), (z : Int), (u : Int), (es.length : Int)] ++ putsL (es.flatMap e9L) = s
              rw [hx, i4, ht, show (s.drop a).take (s.length - a) = s.drop a from List.take_of_length_le (by simp)]
              exact List.take_append_drop a s
            · rw [decR_rest hn hb he ht] at hd; cases hd
        · rw [decR_big hn hb] at hd; cases hd
    · rw [if_neg hp] at h; cases h

/-- what is known of the next manifest -/
theorem later_known {m : Man} {now : Int} {l : List E9} (h : laterP m now l = true) : maniP (lat m now l) = true ∧ m.now ≤ now ∧ m.floor ≤ (lat m now l).floor ∧ m.next ≤ (lat m now l).next ∧ m.gen ≤ 1000000000 ∧ (∀ i, i < l.length → (l.getD i default).id < (lat m now l).next) := by
  unfold laterP at h
  simp only [Bool.and_eq_true, Bool.not_eq_true', decide_eq_false_iff_not] at h
  obtain ⟨h1, h2, h3, h4, h5⟩ := h
  have hmr := mani_row h1
  obtain ⟨g1, g2, -, -⟩ := hmr.1
  refine ⟨h3, by omega, by show m.floor ≤ (fstOf l).fst; omega, by show m.next ≤ max m.next ((lastOf l).id + 1); omega, g2, fun i hi => ?_⟩
  show (l.getD i default).id < max m.next ((lastOf l).id + 1)
  have hle : (l.getD i default).id ≤ (lastOf l).id := by
    by_cases e : i = l.length - 1
    · subst e; exact Int.le_refl _
    · have := eTo_id (rowP_all h2).2.2.2 (l.length - 1) i (by omega) (by omega)
      exact Int.le_of_lt this
  omega
end Go.Proofs.Ytcagcepbnkageaa
