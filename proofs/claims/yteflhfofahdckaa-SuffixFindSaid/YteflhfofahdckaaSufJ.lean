/- suffix: sorting places by keys. -/
import Derived.Test.YteflhfofahdckaaSufH
namespace Go.Proofs.Yteflhfofahdckaa
set_option linter.unusedVariables false
set_option linter.unusedSimpArgs false
open Go.RowKit

/-- the order of places by keys -/
def KL (ks : List Int) (p q : Nat) : Prop := ks.getD p 0 < ks.getD q 0 ∨ ks.getD p 0 = ks.getD q 0 ∧ p < q
def IsSrt (ks : List Int) (m : Nat) (a : List Nat) : Prop := a.Perm (List.range m) ∧ a.Pairwise (KL ks)
theorem IsSrt.length {ks : List Int} {m : Nat} {a : List Nat} (h : IsSrt ks m a) : a.length = m := by rw [h.1.length_eq, List.length_range]
theorem IsSrt.lt {ks : List Int} {m : Nat} {a : List Nat} (h : IsSrt ks m a) {i : Nat} (hi : i < m) : a.getD i 0 < m := perm_lt h.1 hi
theorem IsSrt.mono {ks : List Int} {m : Nat} {a : List Nat} (h : IsSrt ks m a) {i j : Nat} (hij : i ≤ j) (hj : j < m) : ks.getD (a.getD i 0) 0 ≤ ks.getD (a.getD j 0) 0 := by
  rcases Nat.lt_or_ge i j with hlt | hge
  · have hl := h.length
    rw [getD_lt (by omega : i < a.length), getD_lt (by omega : j < a.length)]
    rcases List.pairwise_iff_getElem.1 h.2 i j (by omega) (by omega) hlt with h1 | ⟨h1, _⟩ <;> omega
  · have : i = j := by omega
    subst this; exact Int.le_refl _
theorem IsSrt.put {ks : List Int} {m k : Nat} {a : List Nat} (h : IsSrt ks m a) (hk : k ≤ m) (h1 : ∀ j, j < k → ks.getD (a.getD j 0) 0 ≤ ks.getD m 0) (h2 : ∀ j, k ≤ j → j < m → ks.getD m 0 < ks.getD (a.getD j 0) 0) :
    IsSrt ks (m + 1) (a.take k ++ m :: a.drop k) := by
  have hl := h.length
  refine ⟨?_, ?_⟩
  · refine List.perm_middle.trans ?_
    rw [List.take_append_drop, List.range_succ]
    exact (List.Perm.cons m h.1).trans (List.perm_append_comm (l₁ := [m]) (l₂ := List.range m))
  · have hp := h.2
    rw [← List.take_append_drop k a, List.pairwise_append] at hp
    rw [List.pairwise_append, List.pairwise_cons]
    have hin : ∀ x ∈ a.take k, KL ks x m := fun x hx => by
      obtain ⟨j, hj, rfl⟩ := List.mem_iff_getElem.1 hx
      rw [List.length_take] at hj
      have := h1 j (by omega)
      have hlt := h.lt (i := j) (by omega)
      rw [getD_lt (by omega : j < a.length)] at this hlt
      rw [List.getElem_take]
      unfold KL
      omega
    have hout : ∀ x ∈ a.drop k, KL ks m x := fun x hx => by
      obtain ⟨j, hj, rfl⟩ := List.mem_iff_getElem.1 hx
      rw [List.length_drop] at hj
      have h3 := h2 (k + j) (by omega) (by omega)
      rw [getD_lt (by omega : k + j < a.length)] at h3
      rw [List.getElem_drop]
      exact .inl h3
    refine ⟨hp.1, ⟨hout, hp.2.1⟩, fun x hx y hy => ?_⟩
    rcases List.mem_cons.1 hy with rfl | hy
    · exact hin x hx
    · exact hp.2.2 x hx y hy
theorem KL.asymm {ks : List Int} {p q : Nat} (h1 : KL ks p q) (h2 : KL ks q p) : False := by unfold KL at *; omega
def okKeys (ks : List Int) (most : Int) : Bool := decide (0 ≤ most ∧ most ≤ 1000000 ∧ ∀ x ∈ ks, 0 ≤ x ∧ x ≤ most)
/-- the places of some keys, sorted -/
def srtL (ks : List Int) (most : Int) : List Nat := csort (fun p => (ks.getD p 0).toNat) most.toNat (List.range ks.length)
theorem key_in {ks : List Int} {most : Int} (h : ∀ x ∈ ks, 0 ≤ x ∧ x ≤ most) {p : Nat} (hp : p < ks.length) : 0 ≤ ks.getD p 0 ∧ ks.getD p 0 ≤ most := by
  have e : ks.getD p 0 = ks[p] := by rw [List.getD_eq_getElem?_getD, List.getElem?_eq_getElem hp]; rfl
  rw [e]; exact h _ (List.getElem_mem _)
theorem IsSrt.eq {ks : List Int} {most : Int} {a : List Nat} (h : IsSrt ks ks.length a) (hk : ∀ x ∈ ks, 0 ≤ x ∧ x ≤ most) : a = srtL ks most := by
  have hle : ∀ p ∈ List.range ks.length, (ks.getD p 0).toNat ≤ most.toNat := fun p hp => by
    have := key_in hk (List.mem_range.1 hp); omega
  have hpm : (srtL ks most).Perm (List.range ks.length) := csort_perm hle
  refine sorted_unique (r := KL ks) (fun _ _ => KL.asymm) _ _ (h.1.trans hpm.symm) h.2 ?_
  have hs := csort_pairwise (key := fun p => (ks.getD p 0).toNat) (most := most.toNat) (l := List.range ks.length) (r := fun p q => p < q) List.pairwise_lt_range
  refine List.Pairwise.imp_of_mem (fun {p q} hp hq hr => ?_) hs
  have h1 := key_in hk (List.mem_range.1 (hpm.mem_iff.1 hp))
  have h2 := key_in hk (List.mem_range.1 (hpm.mem_iff.1 hq))
  unfold KL
  rcases hr with hr | ⟨hr, h3⟩
  · left; omega
  · right; exact ⟨by omega, h3⟩

set_option maxRecDepth 20000 in
set_option maxHeartbeats 4000000 in
theorem key_any (ks : List Int) (p gb : Nat) (v : Value) (w : World) (hb : Blk w gb 33 #[v]) (hr : RI w v ks) (hp : p < ks.length) (h0 : 0 ≤ ks.getD p 0) :
    Calls Try.prog 42 #[.int .i64 (p : Int), .pointer (some ⟨gb, 0, none⟩)] w fun e w' => e = .returned (.int .i64 (((ks.getD p 0).toNat : Nat) : Int)) ∧ w = w' := by
  obtain ⟨a, c, rfl, hc, _, hs⟩ := hr.shape
  obtain ⟨g, o, rfl, hcell⟩ := hs (by omega)
  have c1 := hb.cell 0
  have d := hcell p hp
  have hpi : (p : Int) < (ks.length : Int) := by omega
  rw [show (((ks.getD p 0).toNat : Nat) : Int) = ks.getD p 0 by omega]
  clear hr hb hcell hs hc
  generalize ks.getD p 0 = x at *
  go_enter Try.func42, Try.ntmps42
  go_wp2
  go_ret
  exact ⟨rfl, rfl⟩
theorem key_key (ks : List Int) (most : Int) (gb : Nat) (v : Value) (w : World) (hb : Blk w gb 33 #[v]) (hr : RI w v ks) (hk : ∀ x ∈ ks, 0 ≤ x ∧ x ≤ most) :
    KeyAt (.func (.func 42) #[] #[.pointer (some ⟨gb, 0, none⟩)]) (fun p => (ks.getD p 0).toNat) (fun p => p < ks.length) w :=
  ⟨_, _, rfl, callF_run Try.func42 rfl rfl, fun W hW p hp => key_any ks p gb v W (hb.ext hW) (hr.ext hW) hp (key_in hk hp).1⟩
end Go.Proofs.Yteflhfofahdckaa
