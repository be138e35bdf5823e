/- append of a readable slice onto one that is full (its length is its capacity), whoever has made it. -/
import Derived.Test.YtlhjbfckcfeikaaReadG
import Derived.Test.YtlhjbfckcfeikaaApp3G
namespace Go.Proofs.Ytlhjbfckcfeikaa
set_option linter.unusedVariables false
set_option linter.unusedSimpArgs false
open Go.RowKit

section
variable {α : Type} {f : α → List Value} {s : Nat} {w : World} {B : Nat} {e : TypeId}
theorem RR.cellAt (hf : ∀ x, (f x).length = s) (hs : 0 < s) {b : Addr} {n c : Nat} {l : List α} (hr : RR f s w (.slice (some b) n c) l) (j : Nat) (u : Value) (hj : (l.flatMap f)[j]? = some u) : w.cell? (b.add j) = some u := by
  obtain ⟨a, c', h1, h0, hn, h2⟩ := hr
  injection h1 with e1 e2 e3
  have hfl := flat_length hf l
  have hjl : j < l.length * s := by
    rw [← hfl]
    rcases Nat.lt_or_ge j (l.flatMap f).length with h | h
    · exact h
    · rw [List.getElem?_eq_none h] at hj; cases hj
  have hm : 0 < l.length := by
    rcases Nat.eq_zero_or_pos l.length with h | h
    · rw [h] at hjl; omega
    · exact h
  obtain ⟨g, o, h3, h4⟩ := h2 hm
  rw [← e1] at h3
  injection h3 with h3
  subst h3
  have hk : j / s < l.length := Nat.div_lt_of_lt_mul (by rw [Nat.mul_comm]; exact hjl)
  have hjs : j % s < s := Nat.mod_lt _ hs
  have hx := List.getElem?_eq_getElem hk
  have hdm : j / s * s + j % s = j := by rw [Nat.mul_comm]; exact Nat.div_add_mod j s
  have hflat := flat_get hf l (j / s) (j % s) hjs _ hx
  rw [hdm, hj] at hflat
  have := h4 _ _ hx _ _ hflat.symm
  rw [Addr.add_lit]
  rw [show o + j / s * s + j % s = o + j by omega] at this
  exact this
theorem WR.app1 (hf : ∀ x, (f x).length = s) (hs : 0 < s) {b : Addr} {l : List α} (hl : RR f s w (.slice (some b) l.length l.length) l) {u : Value} {m : List α} (hr : RR f s w u m) (h0 : 0 < m.length) (hB : B ≤ w.heap.size) {P : Program} {t : TypeId} {z : Value} {bytes : Nat} (ht : P.underlying t = some (.slice e))
    (hi : (P.info? e).map (fun i => (i.zero, i.size, i.bytes)) = some (some z, s, bytes)) (hz : z.cells.size = s) (hlb : (l.length + m.length) * bytes ≤ 140737488355328) (hl2 : l.length + m.length ≤ maxLen) :
    ∃ v' w', (Builtin.append_ #[t, t] t #[.slice (some b) l.length l.length, u]).run P w = .ok v' w' ∧ WR f s w' B e v' (l ++ m) ∧ Ext w w' := by
  obtain ⟨i, hi1, hzz⟩ := Option.map_eq_some_iff.1 hi
  simp only [Prod.mk.injEq] at hzz
  obtain ⟨z1, z2, z3⟩ := hzz
  have hcl := RR.cellAt hf hs hl
  have hfl := flat_length hf l
  have hfm := flat_length hf m
  obtain ⟨a, c, rfl, _, _, h2⟩ := hr
  obtain ⟨ga, o, rfl, _⟩ := h2 h0
  have hcm := RR.cellAt hf hs (show RR f s w (.slice (some ⟨ga, o, none⟩) m.length c) m from ⟨_, _, rfl, by assumption, by assumption, h2⟩)
  have hrun := run_append_grow (P := P) w t t e i z ht hi1 z1 b l.length l.length (l.flatMap f) (by rw [z2]; exact hfl) hcl ⟨ga, o, none⟩ m.length c (m.flatMap f) (by rw [z2]; exact hfm) hcm
    (by omega) (by unfold maxLen at hl2; omega) (growslice_fits (by omega) (by rw [z3]; exact hlb))
  refine ⟨_, _, hrun, ?_, (Ext.refl w).drew.alloc _⟩
  unfold WR
  have hge := grownCap_ge w (l.length + m.length) l.length e
  have hcm' : grownCap w (l.length + m.length) l.length e ≤ maxLen := grownCap_le_maxLen w (l.length + m.length) l.length e hl2
  have hlen : ((l ++ m).flatMap f).length = (l ++ m).length * s := flat_length hf _
  refine ⟨hlen, .inr ⟨w.heap.size, _, _, by rw [List.length_append], hB, heap_alloc_new w.drew _, by rw [List.length_append]; exact hge, hcm', ?_, ?_⟩⟩
  · simp only [Array.size_append, List.size_toArray, size_zeroCells, hz, hfl, hfm, ← Nat.add_mul]
    congr 1
    omega
  · simp only [Array.toList_append, List.append_assoc]
    rw [← List.append_assoc, ← hlen, ← List.flatMap_append]
    exact List.take_left
theorem WR.below {v : Value} {l : List α} {w' : World} (h : WR f s w B e v l) (hB : B ≤ w.heap.size) (hg : w.grownBy w' v.ownBlock) : Below B w w' := by
  refine ⟨hg.os, hg.tape, hg.output, hg.size, fun k hk => hg.block k (by omega) (fun hv => ?_)⟩
  rcases h.2 with ⟨rfl, h0⟩ | ⟨g, cap, cur, rfl, h1, _⟩
  · simp [Value.ownBlock] at hv
  · simp [Value.ownBlock] at hv
    omega
end
end Go.Proofs.Ytlhjbfckcfeikaa
