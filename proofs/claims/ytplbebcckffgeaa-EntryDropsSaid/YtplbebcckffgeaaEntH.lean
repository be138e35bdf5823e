/- entry: Open, put. -/
import Derived.Test.YtplbebcckffgeaaEntQ
import Derived.Test.YtplbebcckffgeaaEntF
import Derived.Test.YtplbebcckffgeaaAppV
import Derived.Test.YtplbebcckffgeaaAppFull
namespace Go.Proofs.Ytplbebcckffgeaa
set_option linter.unusedVariables false
set_option linter.unusedSimpArgs false
open Go.RowKit

/-- a header's open entry, or nothing -/
def openC (b : Bool) (id gen fst : Int) : E9 := if b then openE id gen fst else ⟨0, 0, 0, false, 0, 0, 0, 0, 0⟩
theorem ent_build0 (w : World) : (Instr.build 26 #[]).run Try.prog w = .ok (.agg #[.int .i64 0, .int .i64 0, .int .i64 0, .bool false, .int .i64 0, .int .i64 0, .int .i64 0, .int .i64 0, .int .i64 0]) w := by kernel_rfl
theorem ent_zero9 (w : World) : (zeroValue 26).run Try.prog w = .ok (.agg #[.int .i64 0, .int .i64 0, .int .i64 0, .bool false, .int .i64 0, .int .i64 0, .int .i64 0, .int .i64 0, .int .i64 0]) w := by kernel_rfl
attribute [local go_sem] ent_build ent_build0 ent_zero9
set_option maxRecDepth 20000 in
set_option maxHeartbeats 4000000 in
theorem eOpen_any (id gen fst : Int) (w : World) :
    Calls Try.prog 18 #[.agg #[.int .i64 id, .int .i64 gen, .int .i64 fst]] w fun x w' => x = .returned (.tuple #[.agg (entC (openC (headP id gen fst) id gen fst)).toArray, .int .i64 (errI (headP id gen fst) 210)]) ∧ Ext w w' := by
  have q := fun w => hcheck_any id gen fst w
  generalize headP id gen fst = r at *
  have b1 := Lib.hid (Blk.new w 24 #[.int .i64 id, .int .i64 gen, .int .i64 fst])
  have b2 := Lib.hid (b1.out.alloc (.cells #[.int .i64 0, .int .i64 0, .int .i64 0, .bool false, .int .i64 0, .int .i64 0, .int .i64 0, .int .i64 0, .int .i64 0] 26))
  have b3 := Lib.hid (Blk.new (w.alloc (.cells #[.int .i64 id, .int .i64 gen, .int .i64 fst] 24)) 26 #[.int .i64 0, .int .i64 0, .int .i64 0, .bool false, .int .i64 0, .int .i64 0, .int .i64 0, .int .i64 0, .int .i64 0])
  rw [World.size_alloc] at b3
  have X0 := Lib.hid (((Ext.refl w).alloc (.cells #[.int .i64 id, .int .i64 gen, .int .i64 fst] 24)).alloc (.cells #[.int .i64 0, .int .i64 0, .int .i64 0, .bool false, .int .i64 0, .int .i64 0, .int .i64 0, .int .i64 0, .int .i64 0] 26))
  have HS := Lib.hid head_size
  have ES := Lib.hid ent_size
  cases r with
  | false =>
    have Q := Lib.hid q
    clear q
    simp only [errI, openC, entC, Bool.false_eq_true, if_false] at *
    go_enter Try.func18, Try.ntmps18
    go_wp2_with (refine wpList_load_blk rfl 24 (.tmp 1) rfl rfl b2.out Try.underlying24 rfl HS.out ?_)
    refine (Q.out _).mono ?_
    rintro _ w1 ⟨rfl, x1⟩
    have B3 := Lib.hid (b3.out.ext x1)
    have X1 := Lib.hid (X0.out.trans x1)
    clear x1
    go_wp2_with (refine wpList_store_blk rfl 26 (.tmp 2) (.tmp 9) rfl rfl rfl B3.out rfl ES.out (by kernel_rfl) ?_)
    exact bodyPost_ret (results_row_tmp rfl _ _ (w.heap.size + 1) _ _ (0, 0) _ rfl (B3.out.setRow _) Try.underlying26 rfl ES.out) rfl ⟨rfl, X1.out.setRow (by omega) _⟩
  | true =>
    have Q := Lib.hid q
    clear q
    simp only [errI, openC, openE, entC, if_true] at *
    go_enter Try.func18, Try.ntmps18
    go_wp2_with (refine wpList_load_blk rfl 24 (.tmp 1) rfl rfl b2.out Try.underlying24 rfl HS.out ?_)
    refine (Q.out _).mono ?_
    rintro _ w1 ⟨rfl, x1⟩
    have B2 := Lib.hid (b2.out.ext x1)
    have B3 := Lib.hid (b3.out.ext x1)
    have X1 := Lib.hid (X0.out.trans x1)
    clear x1
    go_wp2_with (first
      | (refine wpList_load_blk rfl 24 (.tmp 1) rfl rfl B2.out Try.underlying24 rfl HS.out ?_)
      | (refine wpList_store_blk rfl 26 (.tmp 2) (.tmp 12) rfl rfl rfl B3.out rfl ES.out (by kernel_rfl) ?_))
    exact bodyPost_ret (results_row_tmp rfl _ _ (w.heap.size + 1) _ _ (0, 0) _ rfl (B3.out.setRow #[.int .i64 id, .int .i64 gen, .int .i64 fst, .bool false, .int .i64 0, .int .i64 0, .int .i64 0, .int .i64 0, .int .i64 0]) Try.underlying26 rfl ES.out) rfl ⟨rfl, X1.out.setRow (by omega) _⟩

theorem RR.full {α : Type} {f : α → List Value} {s : Nat} {w : World} {b : Addr} {n c : Nat} {l : List α} (h : RR f s w (.slice (some b) n c) l) : RR f s w (.slice (some b) n n) l := by
  obtain ⟨a, c', h1, h0, hn, h2⟩ := h
  injection h1 with e1 e2 e3
  subst e1; subst e2
  exact ⟨_, _, rfl, Nat.le_refl _, (fun h => by cases h), h2⟩
/-- l[:i] + m + l[j:] -/
def spliceL (l : List E9) (i j : Nat) (m : List E9) : List E9 := l.take i ++ m ++ l.drop j
set_option maxRecDepth 20000 in
set_option maxHeartbeats 8000000 in
theorem ePut_any (l m : List E9) (i j g o c : Nat) (u : Value) (w : World) (hr : RR entC 9 w (.slice (some ⟨g, o, none⟩) l.length c) l) (hm : RR entC 9 w u m) (hm0 : 0 < m.length) (hm2 : (m.length : Int) ≤ 2) (hi : i ≤ l.length) (hj : j ≤ l.length) (hl : (l.length : Int) ≤ 100) :
    Calls Try.prog 21 #[.slice (some ⟨g, o, none⟩) l.length c, .int .i64 i, .int .i64 j, u] w fun e w' => ∃ v', e = .returned (.tuple #[v', .int .i64 (errI (rowP (spliceL l i j m)) 240)]) ∧ Ext w w' ∧ EW w' w.heap.size v' (putL (spliceL l i j m)) := by
  obtain ⟨a, c', hz, hlc, _, _⟩ := id hr
  injection hz with e1 e2 e3
  subst e3
  clear e1 e2
  have HRI := Lib.hid (RR.take hr i hi)
  have HM := Lib.hid hm
  have hS2 := Lib.hid (fun (w' : World) (h : RR entC 9 w' (.slice (some ⟨g, o, none⟩) l.length c) l) => show RR entC 9 w' (.slice (if c = j then some ⟨g, o, none⟩ else some ⟨g, o + j * 9, none⟩) (l.length - j) (c - j)) (l.drop j) from by
    refine RR.drop h j hj _ (fun g' o' e hlt => ?_) (fun e => ?_)
    · injection e with e; injection e with e1 e2; subst e1; subst e2
      rw [if_neg (by omega)]
    · split at e <;> cases e)
  have HR2 := Lib.hid (hS2.out w hr)
  have hti : (l.take i).length = i := by rw [List.length_take]; omega
  have HT := Lib.hid hti
  have HL1 := Lib.hid (show (l.take i).length + m.length ≤ 1000 by omega)
  have HL2 := Lib.hid (show (l.take i ++ m).length + (l.drop j).length ≤ 1000 by rw [List.length_append, List.length_drop]; omega)
  have HO := Lib.hid (show spliceL l i j m = l.take i ++ m ++ l.drop j from rfl)
  have HM0 := Lib.hid hm0
  have k1 : (i : Int) ≤ (l.length : Int) := by omega
  have k2 : (l.length : Int) ≤ (c : Int) := by omega
  have k3 : (j : Int) ≤ (l.length : Int) := by omega
  have k4 : (i : Int) ≤ (c : Int) := by omega
  have k5 : (j : Int) ≤ (c : Int) := by omega
  have qr := Lib.hid (fun v w h => eRow_any (spliceL l i j m) v w h)
  generalize spliceL l i j m = out at *
  have HC := Lib.hid (show (errI (rowP out) 240 = 240 ∧ putL out = []) ∨ (errI (rowP out) 240 = 0 ∧ putL out = out) from by
    unfold putL
    cases rowP out with
    | false => exact .inl ⟨rfl, rfl⟩
    | true => exact .inr ⟨rfl, rfl⟩)
  generalize errI (rowP out) 240 = ev at *
  generalize putL out = pl at *
  clear hr hm hm0 hm2 hi hj hl hlc hti hS2
  go_enter Try.func21, Try.ntmps21
  go_wp2_with fail
  refine wp_region_v [] _ rfl (by kernel_rfl) ?_
  dsimp only [List.length_cons, List.length_nil]
  iterate 5
    (refine v_want (by kernel_rfl) (by kernel_rfl) (by kernel_rfl) (fun _ _ _ _ h => h) (by kernel_rfl) (by kernel_rfl) (fun K hK => ?_)
     go_simp
     (refine hK _ ?_; clear hK K))
  refine v_late ?_
  iterate 3
    (refine v_want (by kernel_rfl) (by kernel_rfl) (by kernel_rfl) (fun _ _ _ _ h => h) (by kernel_rfl) (by kernel_rfl) (fun K hK => ?_)
     go_simp
     (refine hK _ ?_; clear hK K))
  refine v_late ?_
  refine v_late ?_
  refine v_rest ?_
  generalize (Value.slice (if c = j then some (⟨g, o, none⟩ : Addr) else some ⟨g, o + j * 9, none⟩) (l.length - j) (c - j)) = S2 at *
  have X1 : Ext w w.drew := (Ext.refl w).drew
  refine v_app 5 17 (.tmp 15) (.tmp 16) 22 (fun v' W w' => EW w' w.heap.size v' (l.take i ++ m) ∧ Ext W w') (by kernel_rfl) rfl rfl rfl rfl rfl rfl rfl (.inr fun v' W w' _ h => h.2) (fun W x => ?_) (fun v1 W1 w1 x1 h1 => ?_)
  · have hA : RR entC 9 W (.slice (some ⟨g, o, none⟩) (l.take i).length (l.take i).length) (l.take i) := by
      have := (HRI.out.ext (X1.trans x)).full
      rw [HT.out]; exact this
    have hB : w.heap.size ≤ W.heap.size := (X1.trans x).le
    obtain ⟨v1, w1, p1, p2, p3⟩ := WR.app1 (B := w.heap.size) entC_length (by decide) hA (HM.out.ext (X1.trans x)) HM0.out hB (P := Try.prog) (t := 22) Try.underlying22 ent_info rfl (by have := HL1.out; omega) (by have := HL1.out; unfold maxLen; omega)
    rw [HT.out] at p1
    exact ⟨_, _, p1, p2, p3⟩
  have X2 : Ext w w1 := (X1.trans x1).trans h1.2
  have E1 := h1.1
  clear h1 x1 X1
  refine v_app 9 21 (.tmp 17) (.tmp 20) 22 (fun v' W w' => EW w' w.heap.size v' out ∧ Ext w w') (by kernel_rfl) rfl rfl rfl rfl rfl rfl rfl (.inl (by kernel_rfl)) (fun W x => ?_) (fun v2 W2 w2 x2 h2 => ?_)
  · have hB : w.heap.size ≤ W.heap.size := (X2.trans x).le
    obtain ⟨v1, w1, p1, p2, p3⟩ := WR.appS entC_length (by decide) entC_one (WR.ext E1 x) (HR2.out.ext (X2.trans x)) hB (P := Try.prog) (t := 22) Try.underlying22 ent_info rfl (by have := HL2.out; omega) (by have := HL2.out; unfold maxLen; omega)
    rw [← HO.out] at p2
    exact ⟨_, _, p1, p2, Below.trans (X2.trans x) (WR.below (WR.ext E1 x) hB p3)⟩
  have E2 := h2.1
  have X3 := h2.2
  clear h2 x2 E1 X2
  refine v_val 10 10 (.tmp 21) (by kernel_rfl) rfl rfl rfl rfl rfl (fun W3 x3 => ?_)
  refine v_done (by kernel_rfl) (fun y => ?_)
  have X4 := Lib.hid ((X3.trans x3).trans y.ext)
  have E3 := Lib.hid (WR.ext (WR.ext E2 x3) y.ext)
  clear X3 x3 E2
  dsimp only [Act.put]
  simp only [List.setIfInBounds_toArray, List.set_cons_succ, List.set_cons_zero]
  rcases HC.out with ⟨rfl, rfl⟩ | ⟨rfl, rfl⟩
  · clear HC
    go_wp2_with fail
    refine (qr.out _ _ (WR.rr entC_length E3.out)).mono ?_
    rintro _ w5 ⟨rfl, x5⟩
    go_wp2
    go_ret2
    exact ⟨_, rfl, X4.out.trans x5, WR.nil _ _ _⟩
  · clear HC
    go_wp2_with fail
    refine (qr.out _ _ (WR.rr entC_length E3.out)).mono ?_
    rintro _ w5 ⟨rfl, x5⟩
    go_wp2
    go_ret2
    exact ⟨_, rfl, X4.out.trans x5, WR.ext E3.out x5⟩
end Go.Proofs.Ytplbebcckffgeaa
