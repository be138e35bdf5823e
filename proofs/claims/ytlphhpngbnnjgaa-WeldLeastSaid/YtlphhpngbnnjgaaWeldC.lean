/- weld: welded, Step, Plan. -/
import Derived.Test.YtlphhpngbnnjgaaWeldB
import Derived.Test.YtlphhpngbnnjgaaClone
import Derived.Test.YtlphhpngbnnjgaaDelete
namespace Go.Proofs.Ytlphhpngbnnjgaa
set_option linter.unusedVariables false
set_option linter.unusedSimpArgs false
open Go.RowKit

theorem weldW_set {l : List Int} {i : Nat} (h : i + 1 < l.length) : (l.set i (l.getD i 0 + l.getD (i + 1) 0)).take (i + 1) ++ (l.set i (l.getD i 0 + l.getD (i + 1) 0)).drop (i + 1 + 1) = weldW l i := by
  unfold weldW
  generalize l.getD i 0 + l.getD (i + 1) 0 = x
  rw [List.drop_set_of_lt (by omega), List.take_succ_eq_append_getElem (by rw [List.length_set]; omega), List.take_set_of_le (Nat.le_refl _), List.getElem_set_self, List.append_assoc]; rfl

set_option maxRecDepth 20000 in
set_option maxHeartbeats 2000000 in
theorem welded_any (l : List Int) (i : Nat) (v : Value) (B : Nat) (w : World) (h : IW w B v l) (hB : B ≤ w.heap.size) (hi : i + 1 < l.length) (hl : (l.length : Int) ≤ 1000000000) (hs : -1000000 ≤ l.getD i 0 + l.getD (i + 1) 0 ∧ l.getD i 0 + l.getD (i + 1) 0 ≤ 1000000) :
    Calls Try.prog 23 #[v, .int .i64 (i : Int)] w fun e w' => ∃ v', e = .returned v' ∧ Below B w w' ∧ IW w' B v' (weldW l i) := by
  obtain ⟨a, c, rfl, hc, hsh⟩ := h.shape
  obtain ⟨g, rfl, hBg, hglt, hcell, hfrz⟩ := hsh (by omega)
  have d1 := up_cell (W := w.drew) (hcell i (by omega))
  have d2 := up_cell (W := w.drew) (hcell (i + 1) hi)
  have cf := fun x : Up w.drew => show x.val.frozen? ⟨g, i, none⟩ = false from (World.frozen?_of_block (x.ext.block _ hglt)).trans (hfrz i)
  have hsum : IntKind.i64.wrap (l.getD i 0 + l.getD (i + 1) 0) = l.getD i 0 + l.getD (i + 1) 0 := by rw [IntKind.wrap_i64]; omega
  have q : Hid (∀ (x : Up w.drew) (y : Up (x.val.setCell ⟨g, i, none⟩ (.int .i64 (l.getD i 0 + l.getD (i + 1) 0)))), Calls Try.prog 28 #[.slice (some ⟨g, 0, none⟩) l.length c, .int .i64 ((i + 1 : Nat) : Int), .int .i64 ((i + 1 + 1 : Nat) : Int)] y.val fun e w' => ∃ v', e = .returned v' ∧ Below B w w' ∧ IW w' B v' (weldW l i)) := Lib.hid (fun x y => by
    have h2 := ((h.drew.ext x.ext).set i (l.getD i 0 + l.getD (i + 1) 0)).ext y.ext
    have hb : Below B w y.val := Below.trans (Below.trans (Below.mono (Ext.refl w).drew hB) (Below.setCell (Below.mono x.ext hB) (show B ≤ g from hBg) _)) (Below.mono y.ext (by simpa using Nat.le_trans hB x.ext.le))
    have q := delete_any (l.set i (l.getD i 0 + l.getD (i + 1) 0)) (i + 1) _ B y.val h2 (Nat.le_trans hB hb.size) (by rw [List.length_set]; exact hi)
    rw [weldW_set hi] at q
    exact q.mono (fun e w' ⟨v', h1, h2, h3⟩ => show ∃ v', e = .returned v' ∧ Below B w w' ∧ IW w' B v' (weldW l i) from ⟨v', h1, Below.trans hb h2, h3⟩))
  have k1 : (i : Int) < (l.length : Int) := by omega
  have k2 : (i : Int) + 1 < (l.length : Int) := by omega
  have k3 : (0 : Int) ≤ (i : Int) + 1 := by omega
  have k4 : IntKind.i64.wrap ((i : Int) + 1) = (i : Int) + 1 := by rw [IntKind.wrap_i64]; omega
  clear hsh hcell hfrz h hs
  generalize weldW l i = wl at *
  generalize l.length = n at *
  generalize l.getD i 0 = x at *
  generalize l.getD (i + 1) 0 = y at *
  go_enter Try.func23, Try.ntmps23
  go_wp2_with fail
  refine wp_region_lex _ rfl (by kernel_rfl) ?_
  dsimp only [List.length_cons, List.length_nil]
  repeat (first
    | (refine lex_want (by kernel_rfl) (by kernel_rfl) (by kernel_rfl) (by kernel_rfl) (fun _ _ _ _ h => h) (by kernel_rfl) (fun K hK => ?_)
       go_simp
       (refine hK _ ?_; clear hK K)))
  refine lex_last (by kernel_rfl) (by kernel_rfl) (by kernel_rfl) (by kernel_rfl) (by kernel_rfl) (fun x K hK => ?_)
  have p1 := d1 x
  have p2 := cf x
  go_simp
  refine hK _ _ (fun y => ?_)
  have q := Lib.hid (q.out x y)
  clear hK p1 p2 d1 d2 cf
  go_wp2_with fail
  refine (q.out).mono ?_
  rintro e w1 ⟨v', rfl, x1, x2⟩
  obtain ⟨a, c, rfl, _, _⟩ := x2.shape
  have X1 := Lib.hid x1
  have X2 := Lib.hid x2
  clear x1 x2
  go_wp2
  go_ret
  exact ⟨_, rfl, X1.out, X2.out⟩
end Go.Proofs.Ytlphhpngbnnjgaa
