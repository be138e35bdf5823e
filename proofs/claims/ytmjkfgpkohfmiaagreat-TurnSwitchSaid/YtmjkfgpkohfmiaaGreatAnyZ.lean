/- Regions that draw their order: a slice is written out, a call is made with it, and two variables are made, in whatever order. -/
import Derived.Test.YtmjkfgpkohfmiaaGreatAnyY
namespace Go.Proofs.YtmjkfgpkohfmiaaGreat
set_option linter.unusedVariables false
set_option linter.unusedSimpArgs false
open Go.RowKit

section
variable {P : Program} {ops : Array Oper} {Q : Exit → Act → World → Prop} {md : Region.Mode}

/-- the frame, with or without the two new variables -/
def Puts2 (a : Act) (x y : Option Tmp) (a' : Act) : Prop :=
  a' = a ∨ (∃ u, a' = a.put x u) ∨ (∃ v, a' = a.put y v) ∨ (∃ u v, a' = (a.put x u).put y v) ∨ (∃ u v, a' = (a.put y v).put x u)

theorem lex_bs_call_alloc2 {n k fuel : Nat} {a : Act} {w : World} {ob oc oi oj : Oper} {rest : List Oper} {m : Nat} {te ti tj : TypeId} {cs zi zj : Array Value} {vc : Value}
    (hr : Region.ready md ops (lst n k) = [k, k + 2, k + 3])
    (p1 : (Region.ready md ops ((lst n k).setIfInBounds k true)).contains (k + 1) = true) (f1 : Region.free md ops ((lst n k).setIfInBounds k true) (k + 1) = true)
    (q1 : Region.ready md ops (((lst n k).setIfInBounds k true).setIfInBounds (k + 1) true) = [k + 2, k + 3])
    (q1i : Region.ready md ops ((((lst n k).setIfInBounds k true).setIfInBounds (k + 1) true).setIfInBounds (k + 2) true) = [k + 3])
    (q1j : Region.ready md ops ((((lst n k).setIfInBounds k true).setIfInBounds (k + 1) true).setIfInBounds (k + 3) true) = [k + 2])
    (p2 : Region.ready md ops ((lst n k).setIfInBounds (k + 2) true) = [k, k + 3])
    (p2b : (Region.ready md ops (((lst n k).setIfInBounds (k + 2) true).setIfInBounds k true)).contains (k + 1) = true) (f2b : Region.free md ops (((lst n k).setIfInBounds (k + 2) true).setIfInBounds k true) (k + 1) = true)
    (p2j : Region.ready md ops (((lst n k).setIfInBounds (k + 2) true).setIfInBounds (k + 3) true) = [k])
    (p2jb : (Region.ready md ops ((((lst n k).setIfInBounds (k + 2) true).setIfInBounds (k + 3) true).setIfInBounds k true)).contains (k + 1) = true) (f2jb : Region.free md ops ((((lst n k).setIfInBounds (k + 2) true).setIfInBounds (k + 3) true).setIfInBounds k true) (k + 1) = true)
    (p3 : Region.ready md ops ((lst n k).setIfInBounds (k + 3) true) = [k, k + 2])
    (p3b : (Region.ready md ops (((lst n k).setIfInBounds (k + 3) true).setIfInBounds k true)).contains (k + 1) = true) (f3b : Region.free md ops (((lst n k).setIfInBounds (k + 3) true).setIfInBounds k true) (k + 1) = true)
    (hl : ((((lst n k).setIfInBounds k true).setIfInBounds (k + 1) true).setIfInBounds (k + 2) true).setIfInBounds (k + 3) true = lst n (k + 1 + 1 + 1 + 1))
    (hs : Region.noSelect ops = true) (hQ : ∀ v, ∀ c a w, Q (.panic c) (a.put oc.dst v) w → Q (.panic c) a w)
    (hgb : ob.guard = none) (hgc : oc.guard = none) (hgi : oi.guard = none) (hgj : oj.guard = none)
    (dib : ∀ d, oi.dst = some d → ob.dst ≠ some d) (dic : ∀ d, oi.dst = some d → oc.dst ≠ some d) (djb : ∀ d, oj.dst = some d → ob.dst ≠ some d) (djc : ∀ d, oj.dst = some d → oc.dst ≠ some d) (dij : ∀ d, oi.dst = some d → oj.dst ≠ some d) (dji : ∀ d, oj.dst = some d → oi.dst ≠ some d)
    (hoi : oi.op = .alloc ti) (hoj : oj.op = .alloc tj) (hzi : ∀ w, (zeroValue ti).run P w = .ok (.agg zi) w) (hzj : ∀ w, (zeroValue tj).run P w = .ok (.agg zj) w)
    (hb : ∀ a', Puts2 a oi.dst oj.dst a' → BsAt P ob a' m te cs)
    (hc : ∀ a', Puts2 a oi.dst oj.dst a' → ∀ g w', Ext w w' → w.heap.size ≤ g → Blk w' g te cs → upAt P oc (a'.put ob.dst (.slice (some ⟨g, 0, none⟩) m m)) w' vc)
    (h : ∀ gb gi gj w', Ext w w' → w.heap.size ≤ gi → w.heap.size ≤ gj → gi ≠ gj → Blk w' gi ti zi → Blk w' gj tj zj →
      LexAt P md ops Q fuel n (k + 1 + 1 + 1 + 1) rest ((((a.put ob.dst (.slice (some ⟨gb, 0, none⟩) m m)).put oc.dst vc).put oi.dst (.pointer (some ⟨gi, 0, none⟩))).put oj.dst (.pointer (some ⟨gj, 0, none⟩))) w') :
    LexAt P md ops Q (fuel + 4) n k (ob :: oc :: oi :: oj :: rest) a w := by
  intro hd0
  obtain ⟨hb', hd1⟩ := drop_cons hd0
  obtain ⟨hc', hd2⟩ := drop_cons hd1
  obtain ⟨hi', hd3⟩ := drop_cons hd2
  obtain ⟨hj', hd4⟩ := drop_cons hd3
  have eb : ops[k]? = some ob := by simpa using hb'
  have ec : ops[k + 1]? = some oc := by simpa using hc'
  have ei : ops[k + 2]? = some oi := by simpa using hi'
  have ej : ops[k + 3]? = some oj := by simpa using hj'
  have wb : ∀ f, Region.wanted ob f = true := fun f => by unfold Region.wanted; rw [hgb]
  have wc : ∀ f, Region.wanted oc f = true := fun f => by unfold Region.wanted; rw [hgc]
  have wi : ∀ f, Region.wanted oi f = true := fun f => by unfold Region.wanted; rw [hgi]
  have wj : ∀ f, Region.wanted oj f = true := fun f => by unfold Region.wanted; rw [hgj]
  generalize hL : lst n k = L at *
  -- b, then c: from any frame and any list
  have bc : ∀ (f : Nat) (L' : Array Bool) (a' : Act) (w0 : World) (R : World → Act → Prop), Ext w w0 → Puts2 a oi.dst oj.dst a' →
      (Region.ready md ops (L'.setIfInBounds k true)).contains (k + 1) = true → Region.free md ops (L'.setIfInBounds k true) (k + 1) = true →
      (∀ g w', Ext w0 w' → wpAnyX P md ops Q f ((L'.setIfInBounds k true).setIfInBounds (k + 1) true) ((a'.put ob.dst (.slice (some ⟨g, 0, none⟩) m m)).put oc.dst vc) w') →
      ∀ (x : Up w0) (K : Act → World → Prop), (∀ a'' w', Ext x.val w' → wpAnyX P md ops Q (f + 1) (L'.setIfInBounds k true) a'' w' → K a'' w') → wpOp P ops Q k K a' x.val := by
    intro f L' a' w0 _ hx hp h1 h2 hfin x K hK
    refine wpOp_wp eb (wb _) ((hb a' hp).wp (hK _ _ ((Ext.refl _).alloc _) ?_))
    have b1 := Blk.new x.val te cs
    have x1 : Ext w (x.val.alloc (.cells cs te)) := (hx.trans x.ext).alloc _
    have hg := (hx.trans x.ext).le
    exact any_want ec hs h2 h1 hQ (wc _) (fun K' hK' => ⟨vc, fun y => hc a' hp _ y.val (x1.trans y.ext) hg (b1.ext y.ext), hK' _ (hfin _ _ ((x.ext).alloc _))⟩)
  have comm : ∀ (i j : Nat) (L : Array Bool), i ≠ j → (L.setIfInBounds i true).setIfInBounds j true = (L.setIfInBounds j true).setIfInBounds i true := fun i j L hij => Array.setIfInBounds_comm _ _ hij
  refine any_all [k, k + 2, k + 3] hr (by simp) (fun j hj x K hK => ?_)
  have hj : j = k ∨ j = k + 2 ∨ j = k + 3 := by simpa using hj
  rcases hj with rfl | rfl | rfl
  · refine bc (fuel + 2) L a w (fun _ _ => True) (Ext.refl _) (.inl rfl) p1 f1 (fun g w' hx => ?_) x K hK
    refine any_alloc2 ei ej q1 q1i q1j (by omega) hoi hoj hgi hgj dij hzi hzj (fun gi gj w'' y1 y2 y3 y4 y5 y6 => ?_)
    rw [hl]
    exact h g gi gj w'' (hx.trans y1) (Nat.le_trans hx.le y2) (Nat.le_trans hx.le y3) y4 y5 y6 hd4
  · refine wpOp_wp ei (wi _) (wp_alloc_row hoi hzi (hK _ _ ((Ext.refl _).alloc _) ?_))
    have z1 := Blk.new x.val ti zi
    have x1 : Ext w (x.val.alloc (.cells zi ti)) := x.ext.alloc _
    have zl := z1.lt
    refine any_all [k, k + 3] p2 (by simp) (fun i hi y K2 hK2 => ?_)
    have hi : i = k ∨ i = k + 3 := by simpa using hi
    rcases hi with rfl | rfl
    · refine bc (fuel + 1) _ _ _ (fun _ _ => True) x1 (.inr (.inl ⟨_, rfl⟩)) p2b f2b (fun g w' hx => ?_) y K2 hK2
      have e : ((L.setIfInBounds (i + 2) true).setIfInBounds i true).setIfInBounds (i + 1) true = ((L.setIfInBounds i true).setIfInBounds (i + 1) true).setIfInBounds (i + 2) true := by
        rw [comm (i + 2) i L (by omega), comm (i + 2) (i + 1) _ (by omega)]
      rw [e]
      refine any_all [i + 3] q1i (by simp) (fun j hj v K3 hK3 => ?_)
      obtain rfl : j = i + 3 := by simpa using hj
      refine wpOp_wp ej (wj _) (wp_alloc_row hoj hzj (hK3 _ _ ((Ext.refl _).alloc _) ?_))
      rw [hl, Act.put_comm a _ _ dib, Act.put_comm _ _ _ dic]
      have z2 := (z1.ext hx).ext v.ext
      have hv := z2.lt
      exact h _ _ _ _ (((x1.trans hx).trans v.ext).alloc _) x.ext.le ((x1.trans hx).trans v.ext).le (by omega) (z2.alloc _) (Blk.new _ _ _) hd4
    · refine wpOp_wp ej (wj _) (wp_alloc_row hoj hzj (hK2 _ _ ((Ext.refl _).alloc _) ?_))
      have z2 := Blk.new y.val tj zj
      have x2 : Ext w (y.val.alloc (.cells zj tj)) := (x1.trans y.ext).alloc _
      have z1' := (z1.ext y.ext)
      have hne := z1'.lt
      have z1'' := z1'.alloc (.cells zj tj)
      have hle := (x1.trans y.ext).le
      refine any_all [k] p2j (by simp) (fun i hi v K3 hK3 => ?_)
      obtain rfl : i = k := by simpa using hi
      refine bc fuel _ _ _ (fun _ _ => True) x2 (.inr (.inr (.inr (.inl ⟨_, _, rfl⟩)))) p2jb f2jb (fun g w' hx => ?_) v K3 hK3
      have e : (((L.setIfInBounds (i + 2) true).setIfInBounds (i + 3) true).setIfInBounds i true).setIfInBounds (i + 1) true = lst n (i + 1 + 1 + 1 + 1) := by
        rw [← hl, comm (i + 3) i _ (by omega), comm (i + 2) i L (by omega), comm (i + 3) (i + 1) _ (by omega), comm (i + 2) (i + 1) _ (by omega)]
      rw [e, Act.put_comm _ _ _ djb, Act.put_comm _ _ _ djc, Act.put_comm a _ _ dib, Act.put_comm _ _ _ dic]
      exact h _ _ _ _ (x2.trans hx) x.ext.le hle (by omega) (z1''.ext hx) (z2.ext hx) hd4
  · refine wpOp_wp ej (wj _) (wp_alloc_row hoj hzj (hK _ _ ((Ext.refl _).alloc _) ?_))
    have z1 := Blk.new x.val tj zj
    have x1 : Ext w (x.val.alloc (.cells zj tj)) := x.ext.alloc _
    have zl := z1.lt
    refine any_all [k, k + 2] p3 (by simp) (fun i hi y K2 hK2 => ?_)
    have hi : i = k ∨ i = k + 2 := by simpa using hi
    rcases hi with rfl | rfl
    · refine bc (fuel + 1) _ _ _ (fun _ _ => True) x1 (.inr (.inr (.inl ⟨_, rfl⟩))) p3b f3b (fun g w' hx => ?_) y K2 hK2
      have e : ((L.setIfInBounds (i + 3) true).setIfInBounds i true).setIfInBounds (i + 1) true = ((L.setIfInBounds i true).setIfInBounds (i + 1) true).setIfInBounds (i + 3) true := by
        rw [comm (i + 3) i L (by omega), comm (i + 3) (i + 1) _ (by omega)]
      rw [e]
      refine any_all [i + 2] q1j (by simp) (fun j hj v K3 hK3 => ?_)
      obtain rfl : j = i + 2 := by simpa using hj
      refine wpOp_wp ei (wi _) (wp_alloc_row hoi hzi (hK3 _ _ ((Ext.refl _).alloc _) ?_))
      rw [comm (i + 3) (i + 2) _ (by omega), hl, Act.put_comm a _ _ djb, Act.put_comm _ _ _ djc, Act.put_comm _ _ _ dji]
      have z2 := (z1.ext hx).ext v.ext
      have hv := z2.lt
      exact h _ _ _ _ (((x1.trans hx).trans v.ext).alloc _) ((x1.trans hx).trans v.ext).le x.ext.le (by omega) (Blk.new _ _ _) (z2.alloc _) hd4
    · refine wpOp_wp ei (wi _) (wp_alloc_row hoi hzi (hK2 _ _ ((Ext.refl _).alloc _) ?_))
      have z2 := Blk.new y.val ti zi
      have x2 : Ext w (y.val.alloc (.cells zi ti)) := (x1.trans y.ext).alloc _
      have z1' := (z1.ext y.ext)
      have hne := z1'.lt
      have z1'' := z1'.alloc (.cells zi ti)
      have hle := (x1.trans y.ext).le
      refine any_all [k] (by rw [comm (k + 3) (k + 2) L (by omega)]; exact p2j) (by simp) (fun i hi v K3 hK3 => ?_)
      obtain rfl : i = k := by simpa using hi
      refine bc fuel _ _ _ (fun _ _ => True) x2 (.inr (.inr (.inr (.inr ⟨_, _, rfl⟩)))) (by rw [comm (i + 3) (i + 2) L (by omega)]; exact p2jb) (by rw [comm (i + 3) (i + 2) L (by omega)]; exact f2jb) (fun g w' hx => ?_) v K3 hK3
      have e : (((L.setIfInBounds (i + 3) true).setIfInBounds (i + 2) true).setIfInBounds i true).setIfInBounds (i + 1) true = lst n (i + 1 + 1 + 1 + 1) := by
        rw [← hl, comm (i + 2) i _ (by omega), comm (i + 3) i L (by omega), comm (i + 2) (i + 1) _ (by omega), comm (i + 3) (i + 1) _ (by omega), comm (i + 3) (i + 2) _ (by omega)]
      rw [e, Act.put_comm (a.put oj.dst _) _ _ dib, Act.put_comm _ _ _ dic, Act.put_comm a _ _ djb, Act.put_comm _ _ _ djc, Act.put_comm _ _ _ dji]
      exact h _ _ _ _ (x2.trans hx) hle x.ext.le (by omega) (z2.ext hx) (z1''.ext hx) hd4
end
end Go.Proofs.YtmjkfgpkohfmiaaGreat
