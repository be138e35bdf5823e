/- append of a readable slice onto an empty one that has been written out. -/
import Derived.Test.YtmjkfgpkohfmiaaGreatReadG
namespace Go.Proofs.YtmjkfgpkohfmiaaGreat
set_option linter.unusedVariables false
set_option linter.unusedSimpArgs false
open Go.RowKit

theorem run_append_zero {P : Program} {t ty e : TypeId} {i : TypeInfo} (ht : P.underlying t = some (.slice e)) (hi : P.info? e = some i) (b : Addr) (n cap : Nat) (hn : n ≤ cap) (a : Option Addr) (c : Nat) (w : World) :
    (Builtin.append_ #[t, t] ty #[.slice (some b) n cap, .slice a 0 c]).run P w = .ok (.slice (some b) n cap) w := by
  cases a <;> simp [Builtin.append_, run_underlying ht, sizeOf, typeInfo, hi, Builtin.lenOf, Builtin.firstCells, hn, storeCells, loadCells, loadCellsFrom]

section
variable {α : Type} {f : α → List Value} {s : Nat} {w : World} {B : Nat} {e : TypeId}
theorem WR.empty {g : Nat} (h : Blk w g e #[]) (hB : B ≤ g) : WR f s w B e (.slice (some ⟨g, 0, none⟩) 0 0) ([] : List α) :=
  ⟨by simp, .inr ⟨g, 0, #[], rfl, hB, h, Nat.le_refl _, by unfold maxLen; omega, by simp, by simp⟩⟩
/-- onto an empty slice that has been written out -/
theorem WR.app0 (hf : ∀ x, (f x).length = s) (hs : 0 < s) (h1 : ∀ x, ∀ u ∈ f x, u.oneCell' = true) {g : Nat} (hb : Blk w g e #[]) (hBg : B ≤ g) {u : Value} {m : List α} (hr : RR f s w u m) (hB : B ≤ w.heap.size) {P : Program} {t : TypeId} {z : Value} {bytes : Nat} (ht : P.underlying t = some (.slice e))
    (hi : (P.info? e).map (fun i => (i.zero, i.size, i.bytes)) = some (some z, s, bytes)) (hz : z.cells.size = s) (hl : m.length * bytes ≤ 140737488355328) (hl2 : m.length ≤ maxLen) :
    ∃ v' w', (Builtin.append_ #[t, t] t #[.slice (some ⟨g, 0, none⟩) 0 0, u]).run P w = .ok v' w' ∧ WR f s w' B e v' m ∧ Ext w w' := by
  obtain ⟨i, hi1, hzz⟩ := Option.map_eq_some_iff.1 hi
  simp only [Prod.mk.injEq] at hzz
  obtain ⟨z1, z2, z3⟩ := hzz
  obtain ⟨v', w', p1, p2, p3⟩ := (WR.empty (f := f) (s := s) hb hBg).appS hf hs h1 hr hB ht hi hz (by simpa using hl) (by simpa using hl2)
  rw [List.nil_append] at p2
  refine ⟨v', w', p1, p2, ?_⟩
  obtain ⟨a, c, rfl, h0, hn, h2⟩ := hr
  rcases Nat.eq_zero_or_pos m.length with hm | hm
  · rw [hm, run_append_zero ht hi1 ⟨g, 0, none⟩ 0 0 (Nat.le_refl _) a c w] at p1
    injection p1 with _ hw
    rw [← hw]; exact Ext.refl _
  · obtain ⟨ga, o, rfl, h4⟩ := h2 hm
    have hfl := flat_length hf m
    have hr := run_append_grow (P := P) w t t e i z ht hi1 z1 ⟨g, 0, none⟩ 0 0 [] (by simp) (fun j v h => by simp at h) ⟨ga, o, none⟩ m.length c (m.flatMap f) (by rw [z2]; exact hfl)
      (fun j u' hj => by
        have hjl : j < m.length * s := by
          rw [← hfl]
          rcases Nat.lt_or_ge j (m.flatMap f).length with h | h
          · exact h
          · rw [List.getElem?_eq_none h] at hj; cases hj
        have hk : j / s < m.length := Nat.div_lt_of_lt_mul (by rw [Nat.mul_comm]; exact hjl)
        have hjs : j % s < s := Nat.mod_lt _ hs
        have hx := List.getElem?_eq_getElem hk
        have hdm : j / s * s + j % s = j := by rw [Nat.mul_comm]; exact Nat.div_add_mod j s
        have hflat := flat_get hf m (j / s) (j % s) hjs _ hx
        rw [hdm, hj] at hflat
        have := h4 _ _ hx _ _ hflat.symm
        rw [Addr.add_lit]
        rw [show o + j / s * s + j % s = o + j by omega] at this
        exact this) (by omega) (by unfold maxLen at hl2; omega) (growslice_fits (by omega) (by rw [z3, Nat.zero_add]; exact hl))
    rw [p1] at hr
    injection hr with _ hw
    rw [hw]
    exact (Ext.refl w).drew.alloc _
end
/-- an append whose outcome is known -/
theorem exec_app {P : Program} {o : Oper} {a : Act} {w w' : World} {v v' u : Value} (s y : Operand) (t : TypeId)
    (ho : o.op = .call { callee := .builtin .append, args := #[s, y], argTypes := #[t, t] }) (hty : o.type = t) (hs : a.eval s = v) (hy : a.eval y = u)
    (hrun : (Builtin.append_ #[t, t] t #[v, u]).run P w = .ok v' w') : (execOp a.eval o).run P w = .ok (.value v') w' := by
  unfold execOp
  simp only [ho, hty, resolve, invoke, builtin, Sem.run_bind, Sem.run_pure, Result.andThen_ok, List.map_toArray, List.map_cons, List.map_nil, hs, hy, hrun]
end Go.Proofs.YtmjkfgpkohfmiaaGreat
