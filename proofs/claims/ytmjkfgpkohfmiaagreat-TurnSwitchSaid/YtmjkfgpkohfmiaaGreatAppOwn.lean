/- Where the slice lies that an append hands back. -/
import Derived.Test.YtmjkfgpkohfmiaaGreatBut
import Derived.Test.YtmjkfgpkohfmiaaGreatReadG
namespace Go.Proofs.YtmjkfgpkohfmiaaGreat
set_option linter.unusedVariables false
set_option linter.unusedSimpArgs false
open Go.RowKit

theorem append_where {P : Program} {w : World} (base : Nat) (t ty e : TypeId) (i : TypeInfo) (z : Value) (size bytes : Nat) (ht : P.underlying t = some (.slice e)) (hi : P.info? e = some i) (hz : i.zero = some z)
    (hsize : i.size = size) (hby : i.bytes = bytes) (hzs : z.cells.size = size) (hsz : 0 < size)
    (v : Value) (n : Nat) (xs : List Value) (hown : w.ownsRow base e size v n xs)
    (a : Addr) (m c : Nat) (news : List Value) (hl : news.length = m * size) (hnews : ∀ j u, news[j]? = some u → w.cell? (a.add j) = some u) (h1 : ∀ u ∈ news, u.oneCell' = true)
    (h63 : n + m ≤ maxLen) (hbytes : (n + m) * bytes ≤ 140737488355328) (hbase : base ≤ w.heap.size) (hm : 0 < m) {v' : Value} {w' : World} (hrun : (Builtin.append_ #[t, t] ty #[v, .slice (some a) m c]).run P w = .ok v' w') :
    v'.ownBlock = v.ownBlock ∨ v'.ownBlock = some w.heap.size := by
  subst hsize
  subst hby
  have hsmall : n + m ≤ 9223372036854775807 := by simp only [maxLen] at h63; omega
  rcases hown.2 with ⟨rfl, rfl⟩ | ⟨g, cap, cur, rfl, hbg, hg, hnc, hcm, hcs, htake⟩
  · have hr := run_append_nil (P := P) w t ty e i z ht hi hz a m c news hl hnews (by omega) (by omega) (by have hb := hbytes; simp only [Nat.zero_add] at hb; omega)
    rw [hr] at hrun
    injection hrun with e1 _
    subst e1
    exact .inr rfl
  · by_cases hroom : n + m ≤ cap
    · have hfit : n * i.size + news.length ≤ cur.size := by rw [hl, hcs, ← Nat.add_mul]; exact Nat.mul_le_mul_right _ hroom
      have hr := run_append_room (P := P) w t ty e i ht hi g n cap cur hg a m c news hl hnews h1 hroom hfit
      rw [hr] at hrun
      injection hrun with e1 _
      subst e1
      exact .inl rfl
    · have holds : ∀ j u, xs[j]? = some u → w.cell? ((⟨g, 0, none⟩ : Addr).add j) = some u := hown.cells (g := g) rfl
      have hr := run_append_grow (P := P) w t ty e i z ht hi hz ⟨g, 0, none⟩ n cap xs hown.1 holds a m c news hl hnews (by omega) (by omega) (growslice_fits (by omega) hbytes)
      rw [hr] at hrun
      injection hrun with e1 _
      subst e1
      exact .inr rfl

section
variable {α : Type} {f : α → List Value} {s : Nat} {w w' : World} {B : Nat} {e : TypeId} {v : Value} {l : List α}
/-- a slice of one element, which lies in a block of its own, is appended onto one that the call has made -/
theorem WR.app1 (hf : ∀ x, (f x).length = s) (hs : 0 < s) (h1 : ∀ x, ∀ u ∈ f x, u.oneCell' = true) (h : WR f s w B e v l) {x : α} {k : Nat} (hk : Blk w k e (f x).toArray) (hB : B ≤ w.heap.size) {P : Program} {t : TypeId} {z : Value} {bytes : Nat} (ht : P.underlying t = some (.slice e))
    (hi : (P.info? e).map (fun i => (i.zero, i.size, i.bytes)) = some (some z, s, bytes)) (hz : z.cells.size = s) (hl : (l.length + 1) * bytes ≤ 140737488355328) (hl2 : l.length + 1 ≤ maxLen) :
    ∃ v' w', (Builtin.append_ #[t, t] t #[v, .slice (some ⟨k, 0, none⟩) 1 1]).run P w = .ok v' w' ∧ WR f s w' B e v' (l ++ [x]) ∧ w.grownBy w' v.ownBlock ∧ (v'.ownBlock = v.ownBlock ∨ v'.ownBlock = some w.heap.size) := by
  obtain ⟨i, hi1, hzz⟩ := Option.map_eq_some_iff.1 hi
  simp only [Prod.mk.injEq] at hzz
  obtain ⟨z1, z2, z3⟩ := hzz
  have hn : ∀ j u, (f x)[j]? = some u → w.cell? ((⟨k, 0, none⟩ : Addr).add j) = some u := fun j u hj => by
    rw [Addr.add_lit, Nat.zero_add, hk.cell j]; simpa using hj
  obtain ⟨v', w', p1, p2, p3, _⟩ := run_append_own (P := P) w B t t e i z s bytes ht hi1 z1 z2 z3 hz hs v l.length (l.flatMap f) h ⟨k, 0, none⟩ 1 1 (f x) (by rw [hf, Nat.one_mul]) hn (h1 x) hl2 hl hB
  refine ⟨v', w', p1, ?_, p3, append_where (P := P) B t t e i z s bytes ht hi1 z1 z2 z3 hz hs v l.length (l.flatMap f) h ⟨k, 0, none⟩ 1 1 (f x) (by rw [hf, Nat.one_mul]) hn (h1 x) hl2 hl hB (by omega) p1⟩
  unfold WR
  rw [List.length_append, List.flatMap_append, List.flatMap_singleton]; exact p2
/-- .. stays while its own block does not turn -/
theorem WR.butO {K : List Nat} (h : WR f s w B e v l) (x : But K w w') (hK : ∀ k, v.ownBlock = some k → k ∉ K) : WR f s w' B e v l := by
  refine ⟨h.1, ?_⟩
  rcases h.2 with hn | ⟨g, cap, cur, rfl, hb, hgg, rest⟩
  · exact .inl hn
  · have hlt : g < w.heap.size := by
      rcases Nat.lt_or_ge g w.heap.size with h1 | h1
      · exact h1
      · rw [Array.getElem?_eq_none h1] at hgg; cases hgg
    exact .inr ⟨g, cap, cur, rfl, hb, (x.block g hlt (hK g rfl)).trans hgg, rest⟩
theorem But.grown {K : List Nat} {row : Option Nat} (h : w.grownBy w' row) (hr : ∀ k, row = some k → k ∈ K) : But K w w' :=
  ⟨h.os, h.tape, h.output, h.size, fun k hk hn => h.block k hk (fun e => hn (hr k e.symm))⟩
theorem But.more {K K' : List Nat} (h : But K w w') (hK : ∀ k ∈ K, k ∈ K') : But K' w w' := ⟨h.os, h.tape, h.output, h.size, fun k hk hn => h.block k hk (fun hm => hn (hK k hm))⟩
end
end Go.Proofs.YtmjkfgpkohfmiaaGreat
