/- gram: how many bits a word of 64 bits has, as bits.OnesCount64 reckons it, in plain Lean. -/
import Derived.Test.YtjbacmhkmofpkaaGramL
namespace Go.Proofs.Ytjbacmhkmofpkaa
set_option linter.unusedVariables false

/-- bytes as a number -/
def V256 : List Nat → Nat
  | [] => 0
  | a :: l => a + 256 * V256 l
theorem and256 {a b : Nat} (ha : a < 256) (hb : b < 256) (x y : Nat) : (a + 256 * x) &&& (b + 256 * y) = (a &&& b) + 256 * (x &&& y) := by
  have hab : a &&& b < 2 ^ 8 := Nat.lt_of_le_of_lt Nat.and_le_left ha
  apply Nat.eq_of_testBit_eq
  intro j
  rw [show a + 256 * x = 2 ^ 8 * x + a by omega, show b + 256 * y = 2 ^ 8 * y + b by omega, show (a &&& b) + 256 * (x &&& y) = 2 ^ 8 * (x &&& y) + (a &&& b) by omega, Nat.testBit_and, Nat.testBit_two_pow_mul_add _ ha, Nat.testBit_two_pow_mul_add _ hb, Nat.testBit_two_pow_mul_add _ hab]
  by_cases h : j < 8 <;> simp [h, Nat.testBit_and]
def ones1 (a : Nat) : Nat := (a / 2 &&& 85) + (a &&& 85)
def ones2 (a : Nat) : Nat := (a / 4 &&& 51) + (a &&& 51)
def ones3 (a : Nat) : Nat := (a / 16 + a) % 16
theorem fact1 : ∀ a : Fin 256, ∀ p : Fin 2, (a.val / 2 + 128 * p.val) &&& 85 = a.val / 2 &&& 85 := by decide +kernel
theorem fact2 : ∀ a : Fin 256, ∀ p : Fin 4, (a.val / 4 + 64 * p.val) &&& 51 = a.val / 4 &&& 51 := by decide +kernel
theorem fact3 : ∀ a : Fin 256, a.val &&& 15 = a.val % 16 := by decide +kernel
theorem ones1_lt : ∀ a : Fin 256, ones1 a.val < 256 := by decide +kernel
theorem ones2_le : ∀ a : Fin 256, ones2 (ones1 a.val) < 256 ∧ ones2 (ones1 a.val) % 16 ≤ 4 ∧ ones2 (ones1 a.val) / 16 ≤ 4 := by decide +kernel
theorem step1 (l : List Nat) (h : ∀ a ∈ l, a < 256) : (V256 l / 2 &&& V256 (List.replicate l.length 85)) + (V256 l &&& V256 (List.replicate l.length 85)) = V256 (l.map ones1) := by
  induction l with
  | nil => rfl
  | cons a l ih =>
    have ha : a < 256 := h a (List.mem_cons_self ..)
    have ih := ih fun b hb => h b (List.mem_cons_of_mem _ hb)
    simp only [V256, List.length_cons, List.replicate_succ, List.map_cons]
    rw [and256 ha (by omega), show (a + 256 * V256 l) / 2 = (a / 2 + 128 * (V256 l % 2)) + 256 * (V256 l / 2) by omega, and256 (by omega) (by omega), show (a / 2 + 128 * (V256 l % 2)) &&& 85 = a / 2 &&& 85 from fact1 ⟨a, ha⟩ ⟨V256 l % 2, by omega⟩, ← ih]
    unfold ones1; omega
theorem step2 (l : List Nat) (h : ∀ a ∈ l, a < 256) : (V256 l / 4 &&& V256 (List.replicate l.length 51)) + (V256 l &&& V256 (List.replicate l.length 51)) = V256 (l.map ones2) := by
  induction l with
  | nil => rfl
  | cons a l ih =>
    have ha : a < 256 := h a (List.mem_cons_self ..)
    have ih := ih fun b hb => h b (List.mem_cons_of_mem _ hb)
    simp only [V256, List.length_cons, List.replicate_succ, List.map_cons]
    rw [and256 ha (by omega), show (a + 256 * V256 l) / 4 = (a / 4 + 64 * (V256 l % 4)) + 256 * (V256 l / 4) by omega, and256 (by omega) (by omega), show (a / 4 + 64 * (V256 l % 4)) &&& 51 = a / 4 &&& 51 from fact2 ⟨a, ha⟩ ⟨V256 l % 4, by omega⟩, ← ih]
    unfold ones2; omega
theorem V256_mod (l : List Nat) (h : ∀ a ∈ l, a < 256 ∧ a % 16 ≤ 4 ∧ a / 16 ≤ 4) : V256 l % 16 ≤ 4 := by
  cases l with
  | nil => decide
  | cons a l =>
    have := h a (List.mem_cons_self ..)
    simp only [V256]; omega
theorem step3 (l : List Nat) (h : ∀ a ∈ l, a < 256 ∧ a % 16 ≤ 4 ∧ a / 16 ≤ 4) : (V256 l / 16 + V256 l) &&& V256 (List.replicate l.length 15) = V256 (l.map ones3) := by
  induction l with
  | nil => rfl
  | cons a l ih =>
    obtain ⟨ha, h1, h2⟩ := h a (List.mem_cons_self ..)
    have hl := fun b hb => h b (List.mem_cons_of_mem _ hb)
    have hm := V256_mod l hl
    have ih := ih hl
    simp only [V256, List.length_cons, List.replicate_succ, List.map_cons]
    rw [show (a + 256 * V256 l) / 16 + (a + 256 * V256 l) = (a / 16 + a + 16 * (V256 l % 16)) + 256 * (V256 l / 16 + V256 l) by omega, and256 (by omega) (by omega), ih, fact3 ⟨_, by omega⟩]
    unfold ones3; simp only; omega
/-- how many of the first bits are set -/
def cntN : Nat → Nat → Nat
  | 0, _ => 0
  | n + 1, x => x % 2 + cntN n (x / 2)
theorem cntN_byte (n a y : Nat) (ha : a < 256) : cntN (n + 8) (a + 256 * y) = cntN 8 a + cntN n y := by
  simp only [cntN]
  rw [show (a + 256 * y) / 2 / 2 / 2 / 2 / 2 / 2 / 2 / 2 = y by omega]
  omega
theorem ones_byte : ∀ a : Fin 256, ones3 (ones2 (ones1 a.val)) = cntN 8 a.val := by decide +kernel
def bytesOf : Nat → Nat → List Nat
  | 0, _ => []
  | n + 1, x => (x % 256) :: bytesOf n (x / 256)
theorem bytesOf_lt (n x : Nat) : ∀ a ∈ bytesOf n x, a < 256 := by
  induction n generalizing x with
  | zero => simp [bytesOf]
  | succ n ih =>
    intro a ha
    rcases List.mem_cons.1 ha with rfl | h
    · omega
    · exact ih _ a h
theorem V256_bytesOf (n x : Nat) (h : x < 256 ^ n) : V256 (bytesOf n x) = x := by
  induction n generalizing x with
  | zero => simp [bytesOf, V256] at *; omega
  | succ n ih =>
    simp only [bytesOf, V256]
    rw [ih (x / 256) (by rw [Nat.pow_succ] at h; omega)]; omega
theorem bytesOf_length (n x : Nat) : (bytesOf n x).length = n := by
  induction n generalizing x with
  | zero => rfl
  | succ n ih => simp [bytesOf, ih]
theorem mask1 : V256 (List.replicate 8 85) = 6148914691236517205 := by decide +kernel
theorem mask2 : V256 (List.replicate 8 51) = 3689348814741910323 := by decide +kernel
theorem mask3 : V256 (List.replicate 8 15) = 1085102592571150095 := by decide +kernel
def onesA (x : Nat) : Nat := (x / 2 &&& 6148914691236517205) + (x &&& 6148914691236517205)
def onesB (x : Nat) : Nat := (x / 4 &&& 3689348814741910323) + (x &&& 3689348814741910323)
def onesC (x : Nat) : Nat := (x / 16 + x) &&& 1085102592571150095
theorem cnt_small (n x : Nat) : cntN n x ≤ n := by
  induction n generalizing x with
  | zero => simp [cntN]
  | succ n ih => have := ih (x / 2); simp only [cntN]; omega
theorem ones_C (x : Nat) (h : x < 2 ^ 64) : onesC (onesB (onesA x)) = V256 ((bytesOf 8 x).map (cntN 8)) := by
  have hl := bytesOf_lt 8 x
  have hx := V256_bytesOf 8 x h
  have hn := bytesOf_length 8 x
  generalize bytesOf 8 x = l at *
  have e1 : onesA x = V256 (l.map ones1) := by
    have := step1 l hl
    rw [hx, hn, mask1] at this
    exact this
  have e2 : onesB (onesA x) = V256 ((l.map ones1).map ones2) := by
    have := step2 (l.map ones1) (by
      intro a ha
      obtain ⟨b, hb, rfl⟩ := List.mem_map.1 ha
      exact ones1_lt ⟨b, hl b hb⟩)
    rw [← e1, List.length_map, hn, mask2] at this
    exact this
  have := step3 ((l.map ones1).map ones2) (by
    intro a ha
    obtain ⟨b, hb, rfl⟩ := List.mem_map.1 ha
    obtain ⟨c, hc, rfl⟩ := List.mem_map.1 hb
    exact ones2_le ⟨c, hl c hc⟩)
  rw [← e2, List.length_map, List.length_map, hn, mask3, List.map_map, List.map_map] at this
  refine Eq.trans this (congrArg V256 (List.map_congr_left fun a ha => ones_byte ⟨a, hl a ha⟩))
theorem cnt_bytes (n x : Nat) (h : x < 256 ^ n) : cntN (8 * n) x = ((bytesOf n x).map (cntN 8)).sum := by
  induction n generalizing x with
  | zero => rfl
  | succ n ih =>
    have hd : x / 256 < 256 ^ n := by rw [Nat.pow_succ] at h; omega
    rw [Nat.mul_succ, show x = x % 256 + 256 * (x / 256) by omega, cntN_byte _ _ _ (by omega), ih _ hd]
    simp only [bytesOf, List.map_cons, List.sum_cons]
    rw [show (x % 256 + 256 * (x / 256)) % 256 = x % 256 by omega, show (x % 256 + 256 * (x / 256)) / 256 = x / 256 by omega]
theorem div_1 (a E : Nat) (h : a < 256) : (a + 256 * E) / 256 = E := by omega
theorem mod_128 (p q : Nat) : (p + 256 * q) % 128 = p % 128 := by omega
theorem add_lt2 {a b : Nat} (h : a ≤ 8) (h' : b ≤ 8) : a + b < 256 := by omega
theorem add_1 (y z b0 b1 b2 b3 b4 b5 b6 b7 : Nat) (hz : z = b1 + 256 * (b2 + 256 * (b3 + 256 * (b4 + 256 * (b5 + 256 * (b6 + 256 * b7)))))) (hy : y = b0 + 256 * (b1 + 256 * (b2 + 256 * (b3 + 256 * (b4 + 256 * (b5 + 256 * (b6 + 256 * b7))))))) : y + z = (b0 + b1) + 256 * ((b1 + b2) + 256 * ((b2 + b3) + 256 * ((b3 + b4) + 256 * ((b4 + b5) + 256 * ((b5 + b6) + 256 * ((b6 + b7) + 256 * b7)))))) := by omega
theorem add_2 (y z b0 b1 b2 b3 b4 b5 b6 b7 : Nat) (hz : z = (b2 + b3) + 256 * ((b3 + b4) + 256 * ((b4 + b5) + 256 * ((b5 + b6) + 256 * ((b6 + b7) + 256 * b7))))) (hy : y = (b0 + b1) + 256 * ((b1 + b2) + 256 * ((b2 + b3) + 256 * ((b3 + b4) + 256 * ((b4 + b5) + 256 * ((b5 + b6) + 256 * ((b6 + b7) + 256 * b7))))))) : y + z = (b0 + b1 + b2 + b3) + 256 * ((b1 + b2 + b3 + b4) + 256 * ((b2 + b3 + b4 + b5) + 256 * ((b3 + b4 + b5 + b6) + 256 * ((b4 + b5 + b6 + b7) + 256 * ((b5 + b6 + b7) + 256 * ((b6 + b7) + 256 * b7)))))) := by omega
theorem add_4 (y z b0 b1 b2 b3 b4 b5 b6 b7 : Nat) (hz : z = (b4 + b5 + b6 + b7) + 256 * ((b5 + b6 + b7) + 256 * ((b6 + b7) + 256 * b7))) (hy : y = (b0 + b1 + b2 + b3) + 256 * ((b1 + b2 + b3 + b4) + 256 * ((b2 + b3 + b4 + b5) + 256 * ((b3 + b4 + b5 + b6) + 256 * ((b4 + b5 + b6 + b7) + 256 * ((b5 + b6 + b7) + 256 * ((b6 + b7) + 256 * b7))))))) : y + z = (b0 + b1 + b2 + b3 + b4 + b5 + b6 + b7) + 256 * ((b1 + b2 + b3 + b4 + b5 + b6 + b7) + 256 * ((b2 + b3 + b4 + b5 + b6 + b7) + 256 * ((b3 + b4 + b5 + b6 + b7) + 256 * ((b4 + b5 + b6 + b7) + 256 * ((b5 + b6 + b7) + 256 * ((b6 + b7) + 256 * b7)))))) := by omega
theorem div_2 (a b E : Nat) (h : a < 256) (h' : b < 256) : (a + 256 * (b + 256 * E)) / 65536 = E := by omega
theorem div_4 (a b c d E : Nat) (h : a < 256) (h' : b < 256) (h2 : c < 256) (h3 : d < 256) : (a + 256 * (b + 256 * (c + 256 * (d + 256 * E)))) / 4294967296 = E := by omega
theorem below_8 (a b c d e f g i : Nat) (h : a < 256) (h' : b < 256) (h2 : c < 256) (h3 : d < 256) (h4 : e < 256) (h5 : f < 256) (h6 : g < 256) (h7 : i < 256) : a + 256 * (b + 256 * (c + 256 * (d + 256 * (e + 256 * (f + 256 * (g + 256 * i)))))) < 18446744073709551616 := by omega
theorem ones_all (x : Nat) (h : x < 2 ^ 64) : ∀ y z u, y = onesC (onesB (onesA x)) → z = y + y / 256 → u = z + z / 65536 → (u + u / 4294967296) % 128 = cntN 64 x ∧ u + u / 4294967296 < 18446744073709551616 ∧ y + y / 256 < 18446744073709551616 ∧ z + z / 65536 < 18446744073709551616 := by
  rintro y z u hy rfl rfl
  rw [ones_C x h] at hy
  rw [show (64 : Nat) = 8 * 8 from rfl, cnt_bytes 8 x h]
  have hc := fun a => cnt_small 8 a
  generalize cntN 8 = f at *
  simp only [bytesOf, List.map_cons, List.map_nil, V256, List.sum_cons, List.sum_nil] at *
  have h0 := hc (x % 256)
  have h1 := hc (x / 256 % 256)
  have h2 := hc (x / 256 / 256 % 256)
  have h3 := hc (x / 256 / 256 / 256 % 256)
  have h4 := hc (x / 256 / 256 / 256 / 256 % 256)
  have h5 := hc (x / 256 / 256 / 256 / 256 / 256 % 256)
  have h6 := hc (x / 256 / 256 / 256 / 256 / 256 / 256 % 256)
  have h7 := hc (x / 256 / 256 / 256 / 256 / 256 / 256 / 256 % 256)
  generalize f (x % 256) = b0 at *
  generalize f (x / 256 % 256) = b1 at *
  generalize f (x / 256 / 256 % 256) = b2 at *
  generalize f (x / 256 / 256 / 256 % 256) = b3 at *
  generalize f (x / 256 / 256 / 256 / 256 % 256) = b4 at *
  generalize f (x / 256 / 256 / 256 / 256 / 256 % 256) = b5 at *
  generalize f (x / 256 / 256 / 256 / 256 / 256 / 256 % 256) = b6 at *
  generalize f (x / 256 / 256 / 256 / 256 / 256 / 256 / 256 % 256) = b7 at *
  clear hc h
  have d1 : y / 256 = b1 + 256 * (b2 + 256 * (b3 + 256 * (b4 + 256 * (b5 + 256 * (b6 + 256 * b7))))) := by rw [hy]; exact div_1 _ _ (Nat.lt_of_le_of_lt h0 (by decide))
  have d2 : y + y / 256 = (b0 + b1) + 256 * ((b1 + b2) + 256 * ((b2 + b3) + 256 * ((b3 + b4) + 256 * ((b4 + b5) + 256 * ((b5 + b6) + 256 * ((b6 + b7) + 256 * b7)))))) := add_1 y _ _ _ _ _ _ _ _ _ d1 hy
  clear hy d1
  generalize y + y / 256 = z at *
  have d3 : z / 65536 = (b2 + b3) + 256 * ((b3 + b4) + 256 * ((b4 + b5) + 256 * ((b5 + b6) + 256 * ((b6 + b7) + 256 * b7)))) := by rw [d2]; exact div_2 _ _ _ (add_lt2 h0 h1) (add_lt2 h1 h2)
  have d4 : z + z / 65536 = (b0 + b1 + b2 + b3) + 256 * ((b1 + b2 + b3 + b4) + 256 * ((b2 + b3 + b4 + b5) + 256 * ((b3 + b4 + b5 + b6) + 256 * ((b4 + b5 + b6 + b7) + 256 * ((b5 + b6 + b7) + 256 * ((b6 + b7) + 256 * b7)))))) := add_2 z _ _ _ _ _ _ _ _ _ d3 d2
  have d5 : z < 18446744073709551616 := by rw [d2]; clear d2 d3 d4; exact below_8 _ _ _ _ _ _ _ _ (by omega) (by omega) (by omega) (by omega) (by omega) (by omega) (by omega) (by omega)
  clear d2 d3
  generalize z + z / 65536 = u at *
  have d6 : u / 4294967296 = (b4 + b5 + b6 + b7) + 256 * ((b5 + b6 + b7) + 256 * ((b6 + b7) + 256 * b7)) := by rw [d4]; clear d4 d5; exact div_4 _ _ _ _ _ (by omega) (by omega) (by omega) (by omega)
  have d7 : u < 18446744073709551616 := by rw [d4]; clear d4 d5 d6; exact below_8 _ _ _ _ _ _ _ _ (by omega) (by omega) (by omega) (by omega) (by omega) (by omega) (by omega) (by omega)
  have d8 : u + u / 4294967296 = (b0 + b1 + b2 + b3 + b4 + b5 + b6 + b7) + 256 * ((b1 + b2 + b3 + b4 + b5 + b6 + b7) + 256 * ((b2 + b3 + b4 + b5 + b6 + b7) + 256 * ((b3 + b4 + b5 + b6 + b7) + 256 * ((b4 + b5 + b6 + b7) + 256 * ((b5 + b6 + b7) + 256 * ((b6 + b7) + 256 * b7)))))) := add_4 u _ _ _ _ _ _ _ _ _ d6 d4
  refine ⟨?_, ?_, d5, d7⟩
  · rw [d8, mod_128]
    clear d4 d5 d6 d7 d8
    omega
  · rw [d8]; clear d4 d5 d6 d7 d8; exact below_8 _ _ _ _ _ _ _ _ (by omega) (by omega) (by omega) (by omega) (by omega) (by omega) (by omega) (by omega)
theorem cnt_bits (n x : Nat) : cntN n x = ((List.range n).map x.testBit).count true := by
  induction n generalizing x with
  | zero => rfl
  | succ n ih =>
    rw [cntN, ih (x / 2), List.range_succ_eq_map, List.map_cons, List.count_cons, List.map_map]
    have e : (x.testBit ∘ Nat.succ) = (x / 2).testBit := by
      funext j
      simp [Nat.testBit_succ]
    rw [e, Nat.testBit_zero]
    rcases Nat.mod_two_eq_zero_or_one x with h | h <;> simp [h] <;> omega
end Go.Proofs.Ytjbacmhkmofpkaa
