/- A whole element is stored into a slice that the call has made. -/
import Derived.Test.YtfipfljiohdlhaaGreatReadG
namespace Go.Proofs.YtfipfljiohdlhaaGreat
set_option linter.unusedVariables false
set_option linter.unusedSimpArgs false
open Go.RowKit

/-- cells are put into a row from place o on -/
def putAt (cur : Array Value) : Nat → List Value → Array Value
  | _, [] => cur
  | o, v :: r => putAt (cur.setIfInBounds o v) (o + 1) r
theorem putAt_list : ∀ (vs : List Value) (o : Nat) (cur : Array Value), o + vs.length ≤ cur.size → (putAt cur o vs).toList = cur.toList.take o ++ vs ++ cur.toList.drop (o + vs.length)
  | [], o, cur, h => by simp [putAt]
  | v :: r, o, cur, h => by
    rw [putAt, putAt_list r (o + 1) _ (by simp at h ⊢; omega), Array.toList_setIfInBounds]
    have ho : o < cur.toList.length := by simp at h ⊢; omega
    have hs : cur.toList.set o v = cur.toList.take o ++ v :: cur.toList.drop (o + 1) := by rw [List.set_eq_take_append_cons_drop, if_pos ho]
    rw [hs]
    have hA : (cur.toList.take o).length = o := by rw [List.length_take]; omega
    have hD : cur.toList.drop (o + (v :: r).length) = (cur.toList.drop (o + 1)).drop r.length := by rw [List.drop_drop, List.length_cons]; congr 1; omega
    rw [hD]
    generalize cur.toList.take o = A at *
    generalize cur.toList.drop (o + 1) = D at *
    rw [List.take_append, List.take_of_length_le (by omega), hA, Nat.add_sub_cancel_left, List.drop_append, List.drop_of_length_le (by omega), hA, show o + 1 + r.length - o = r.length + 1 by omega, List.nil_append, List.drop_succ_cons, List.take_succ_cons, List.take_zero]
    simp
theorem heap_setCells (g : Nat) (t : TypeId) : ∀ (vs : List Value) (o : Nat) (w : World) (cur : Array Value), w.heap[g]? = some (.cells cur t (0, 0)) → (w.setCells g o vs).heap[g]? = some (.cells (putAt cur o vs) t (0, 0))
  | [], _, _, _, h => h
  | v :: r, o, w, cur, h => by
    rw [World.setCells, putAt]
    exact heap_setCells g t r (o + 1) _ _ (Blk.set_ (show Blk w g t cur from h) o v)
section
variable {α : Type} {f : α → List Value} {s : Nat} {w : World} {B : Nat} {e : TypeId}
theorem flat_set (hf : ∀ x, (f x).length = s) (l : List α) (k : Nat) (hk : k < l.length) (x : α) : (l.set k x).flatMap f = (l.flatMap f).take (k * s) ++ f x ++ (l.flatMap f).drop (k * s + s) := by
  have h1 : l.flatMap f = (l.take k).flatMap f ++ (f l[k] ++ (l.drop (k + 1)).flatMap f) := by
    conv => lhs; rw [← List.take_append_drop k l, List.drop_eq_getElem_cons hk]
    rw [List.flatMap_append, List.flatMap_cons]
  have hl : ((l.take k).flatMap f).length = k * s := by rw [flat_length hf, List.length_take, Nat.min_eq_left (by omega)]
  have key : ∀ A M C X : List Value, A.length = k * s → M.length = s → A ++ (X ++ C) = (A ++ (M ++ C)).take (k * s) ++ X ++ (A ++ (M ++ C)).drop (k * s + s) := fun A M C X hA hM => by
    rw [List.take_append, List.take_of_length_le (by omega), hA, Nat.sub_self, List.take_zero, List.append_nil, List.drop_append, List.drop_of_length_le (by omega), hA, Nat.add_sub_cancel_left, List.nil_append, List.drop_append, List.drop_of_length_le (by omega), hM, Nat.sub_self, List.drop_zero, List.nil_append, List.append_assoc]
  rw [List.set_eq_take_append_cons_drop, if_pos hk, List.flatMap_append, List.flatMap_cons, h1]
  exact key _ _ _ _ hl (hf _)
/-- the cells of the k-th element are there -/
theorem WR.there {g n c : Nat} {l : List α} (h : WR f s w B e (.slice (some ⟨g, 0, none⟩) n c) l) (k : Nat) (hk : k < l.length) : w.there g (k * s) s := by
  rcases h.2 with ⟨h0, _⟩ | ⟨g', cap, cur, h1, _, h2, h3, _, h4, _⟩
  · cases h0
  · injection h1 with e1 e2 e3
    injection e1 with e1
    injection e1 with e1
    subst e1
    intro j hj
    have hb : Blk w g e cur := h2
    have hlt : k * s + j < cur.size := by
      rw [h4]
      have : (k + 1) * s ≤ cap * s := Nat.mul_le_mul_right s (by omega)
      rw [Nat.add_mul, Nat.one_mul] at this
      omega
    exact ⟨by rw [hb.cell, Array.getElem?_eq_getElem hlt]; rfl, hb.frozen _⟩
theorem WR.set (hf : ∀ x, (f x).length = s) {g n c : Nat} {l : List α} (h : WR f s w B e (.slice (some ⟨g, 0, none⟩) n c) l) (k : Nat) (hk : k < l.length) (x : α) : WR f s (w.setCells g (k * s) (f x)) B e (.slice (some ⟨g, 0, none⟩) n c) (l.set k x) := by
  rcases h.2 with ⟨h0, _⟩ | ⟨g', cap, cur, h1, hB, h2, h3, hm, h4, h5⟩
  · cases h0
  · injection h1 with e1 e2 e3
    injection e1 with e1
    injection e1 with e1
    subst e1
    subst e2
    subst e3
    have hin : k * s + (f x).length ≤ cur.size := by
      rw [h4, hf]
      have : (k + 1) * s ≤ c * s := Nat.mul_le_mul_right s (by omega)
      rw [Nat.add_mul, Nat.one_mul] at this
      omega
    refine ⟨flat_length hf _ , .inr ⟨g, c, putAt cur (k * s) (f x), by rw [List.length_set], hB, heap_setCells g e _ _ _ _ h2, by rw [List.length_set]; exact h3, hm, ?_, ?_⟩⟩
    · rw [← Array.length_toList, putAt_list _ _ _ hin, List.length_append, List.length_append, List.length_take, List.length_drop, Array.length_toList]
      omega
    · rw [putAt_list _ _ _ hin, List.length_set, flat_set hf l k hk x, ← h5, hf]
      have hks : k * s + s ≤ l.length * s := by
        have : (k + 1) * s ≤ l.length * s := Nat.mul_le_mul_right s (by omega)
        rw [Nat.add_mul, Nat.one_mul] at this
        exact this
      have hcl : l.length * s ≤ cur.toList.length := by rw [show cur.toList.length = cur.size from Array.length_toList, h4]; exact Nat.mul_le_mul_right s h3
      apply List.ext_getElem?
      intro i
      simp only [List.getElem?_append, List.getElem?_take, List.getElem?_drop, List.length_append, List.length_take, List.length_drop, hf]
      rcases Nat.lt_or_ge i (k * s) with c1 | c1
      · rw [if_pos (by omega), if_pos (by omega), if_pos (by omega), if_pos c1, if_pos (by omega), if_pos (by omega), if_pos c1, if_pos (by omega)]
      · rcases Nat.lt_or_ge i (k * s + s) with c2 | c2
        · rw [if_pos (by omega), if_pos (by omega), if_neg (by omega), if_pos (by omega), if_neg (by omega)]
          congr 1
          omega
        · rcases Nat.lt_or_ge i (l.length * s) with c3 | c3
          · rw [if_pos (by omega), if_neg (by omega), if_neg (by omega), if_pos (by omega)]
            congr 1
            omega
          · rw [if_neg (by omega), if_neg (by omega), if_neg (by omega)]
end
end Go.Proofs.YtfipfljiohdlhaaGreat
