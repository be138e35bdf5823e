/- mani: Decode's closure. (Printed by wip/tools/mag.py.) -/
import Derived.Test.YtcagcepbnkageaaMaE
import Derived.Test.YtcagcepbnkageaaMaC
namespace Go.Proofs.Ytcagcepbnkageaa
set_option linter.unusedVariables false
set_option linter.unusedSimpArgs false
open Go.RowKit

def prepEs (p : List E9) : Except Int (List E9 × Nat) → Except Int (List E9 × Nat)
  | .ok (l, a) => .ok (p ++ l, a)
  | .error e => .error e
/-- so many entries from a place on -/
def entsR (s : List UInt8) : Nat → Nat → Except Int (List E9 × Nat)
  | 0, a => .ok ([], a)
  | n + 1, a => match nineL s 9 0 a with
    | .ok (l, b) => prepEs [mkE l] (entsR s n b)
    | .error e => .error e
theorem prepEs_nil (r : Except Int (List E9 × Nat)) : prepEs [] r = r := by rcases r with e | ⟨l, a⟩ <;> rfl
theorem prepEs_two (p q : List E9) (r : Except Int (List E9 × Nat)) : prepEs p (prepEs q r) = prepEs (p ++ q) r := by
  rcases r with e | ⟨l, a⟩
  · rfl
  · show Except.ok (p ++ (q ++ l), a) = Except.ok (p ++ q ++ l, a)
    rw [List.append_assoc]
theorem entsR_ok {s : List UInt8} {n a b : Nat} {l : List Nat} (h : nineL s 9 0 a = .ok (l, b)) : entsR s (n + 1) a = prepEs [mkE l] (entsR s n b) := by
  show (match nineL s 9 0 a with | .ok (l, b) => prepEs [mkE l] (entsR s n b) | .error e => .error e) = _
  rw [h]
theorem entsR_err {s : List UInt8} {n a : Nat} {e : Int} (h : nineL s 9 0 a = .error e) : entsR s (n + 1) a = .error e := by
  show (match nineL s 9 0 a with | .ok (l, b) => prepEs [mkE l] (entsR s n b) | .error e => .error e) = _
  rw [h]
theorem entsR_step {s : List UInt8} {n k a : Nat} {l : List E9} {r : Except Int (List E9 × Nat)} (hk : k < n) (h : r = prepEs l (entsR s (n - k) a)) {x : List Nat} {t : Nat} (hx : nineL s 9 0 a = .ok (x, t)) : r = prepEs (l ++ [mkE x]) (entsR s (n - (k + 1)) t) := by
  rw [h, show n - k = (n - (k + 1)) + 1 by omega, entsR_ok hx, prepEs_two]
theorem entsR_stop {s : List UInt8} {n k a : Nat} {l : List E9} {r : Except Int (List E9 × Nat)} (hk : k < n) (h : r = prepEs l (entsR s (n - k) a)) {e : Int} (hx : nineL s 9 0 a = .error e) : r = .error e := by
  rw [h, show n - k = (n - (k + 1)) + 1 by omega, entsR_err hx]; rfl
/-- a manifest of bytes -/
def decR (s : List UInt8) : Except Int Man :=
  match numsR s 5 0 with
  | .error e => .error e
  | .ok (l, a) => if ((l.getD 4 0 : Nat) : Int) ≤ 100 then (match entsR s (l.getD 4 0) a with
    | .error e => .error e
    | .ok (es, b) => if b = s.length then .ok ⟨(l.getD 0 0 : Nat), (l.getD 1 0 : Nat), (l.getD 2 0 : Nat), (l.getD 3 0 : Nat), es⟩ else .error 6) else .error 3
theorem decR_big {s : List UInt8} {a : Nat} {l : List Nat} (h : numsR s 5 0 = .ok (l, a)) (hn : ¬ ((l.getD 4 0 : Nat) : Int) ≤ 100) : decR s = .error 3 := by
  unfold decR; rw [h]; show (if _ then _ else _) = _; rw [if_neg hn]
theorem decR_err {s : List UInt8} {a : Nat} {l : List Nat} {e : Int} (h : numsR s 5 0 = .ok (l, a)) (hn : ((l.getD 4 0 : Nat) : Int) ≤ 100) (he : entsR s (l.getD 4 0) a = .error e) : decR s = .error e := by
  unfold decR; rw [h]; show (if _ then _ else _) = _; rw [if_pos hn, he]
theorem decR_rest {s : List UInt8} {a b : Nat} {l : List Nat} {es : List E9} (h : numsR s 5 0 = .ok (l, a)) (hn : ((l.getD 4 0 : Nat) : Int) ≤ 100) (he : entsR s (l.getD 4 0) a = .ok (es, b)) (hb : ¬ b = s.length) : decR s = .error 6 := by
  unfold decR; rw [h]; show (if _ then _ else _) = _; rw [if_pos hn, he]; show (if b = s.length then _ else _) = _; rw [if_neg hb]
theorem decR_ok {s : List UInt8} {a b : Nat} {l : List Nat} {es : List E9} (h : numsR s 5 0 = .ok (l, a)) (hn : ((l.getD 4 0 : Nat) : Int) ≤ 100) (he : entsR s (l.getD 4 0) a = .ok (es, b)) (hb : b = s.length) : decR s = .ok ⟨(l.getD 0 0 : Nat), (l.getD 1 0 : Nat), (l.getD 2 0 : Nat), (l.getD 3 0 : Nat), es⟩ := by
  unfold decR; rw [h]; show (if _ then _ else _) = _; rw [if_pos hn, he]; show (if b = s.length then _ else _) = _; rw [if_pos hb]
theorem nineL_le {s : List UInt8} : ∀ {n i a t : Nat} {l : List Nat}, a ≤ s.length → nineL s n i a = .ok (l, t) → a ≤ t ∧ t ≤ s.length ∧ l.length = n ∧ (∀ x ∈ l, x < 9223372036854775808)
  | 0, i, a, t, l, ha, h => by
    injection h with h
    injection h with h1 h2
    subst h1; subst h2
    exact ⟨Nat.le_refl _, ha, rfl, fun x hx => by cases hx⟩
  | n + 1, i, a, t, l, ha, h => by
    cases ht : takeN s (a : Int) with
    | error e => rw [nineL_err ht] at h; cases h
    | ok q =>
      obtain ⟨x, k⟩ := q
      have hto := takeN_ok ht
      by_cases h3 : i = 3 ∧ 1 < x
      · obtain ⟨rfl, h3⟩ := h3
        rw [nineL_bad ht h3] at h; cases h
      · rw [nineL_ok ht h3] at h
        cases hr : nineL s n (i + 1) (a + k) with
        | error e => rw [hr] at h; cases h
        | ok q =>
          obtain ⟨l', t'⟩ := q
          rw [hr] at h
          injection h with h
          injection h with h2 h4
          subst h2; subst h4
          have ih := nineL_le hto.1 hr
          refine ⟨by omega, ih.2.1, by simp [ih.2.2.1], fun y hy => ?_⟩
          rcases List.mem_cons.1 hy with rfl | hy
          · exact hto.2.2.1
          · exact ih.2.2.2 y hy
/-- a call told by a relation -/
theorem n_callR {P : Program} {md : Region.Mode} {ops : Array Oper} {Q : Exit → Act → World → Prop} {ρ : World → World → Prop} {fuel : Nat} {listed : Array Bool} {a : Act} {w w0 : World} (i : Nat) {oi : Oper} {f : Nat} {args : Array Value} (hr : Region.ready md ops listed = [i]) (hi : ops[i]? = some oi) (hw : Region.wanted oi (yielded ops a.tmps) = true)
    (he : (execOp a.eval oi).run P w = .ok (.enter f args) w0) {R : Ending → World → Prop} (hc : Calls P f args w0 R)
    (h : ∀ r w', R r w' → (∃ v, r = .returned v ∧ (lastB md ops i = false → ρ w w') ∧ wpAnyN P md ops Q ρ fuel (listed.setIfInBounds i true) (a.put oi.dst v) w') ∨ (∃ c, r = .panicked c ∧ Q (.panic c) a w')) :
    wpAnyN P md ops Q ρ (fuel + 1) listed a w :=
  n_one i hr hi hw fun K hK => by
    unfold Oper.wp
    rw [he]
    exact Calls.mono hc fun e w'' hR => by
      rcases h e w'' hR with ⟨v, rfl, hx, h1⟩ | ⟨c, rfl, h1⟩
      · exact hK _ _ hx h1
      · exact h1
theorem exec_store_at {P : Program} {o : Oper} {a : Act} {w : World} {t : TypeId} (x y : Operand) (ho : o.op = .store t x y) {g j : Nat} {v u : Value} {ty : TypeId} {cs : Array Value} (hx : a.eval x = .pointer (some ⟨g, j, none⟩)) (hy : a.eval y = v) (hb : Blk w g ty cs) (hj : cs[j]? = some u) (hv : v.cells = #[v]) (h1 : v.oneCell' = true)
    (hi : (P.info? t).map (·.size) = some 1) :
    (execOp a.eval o).run P w = .ok .skip (w.setCell ⟨g, j, none⟩ v) := by
  have hs : (storeCells ⟨g, j, none⟩ [v]).run P w = .ok () (w.setCell ⟨g, j, none⟩ v) := by
    have hst := run_store P w ⟨g, j, none⟩ v .plain h1
    rw [show w.cell? ⟨g, j, none⟩ = some u from (hb.cell j).trans hj] at hst
    simp only [hb.frozen j] at hst
    have e0 : (⟨g, j, none⟩ : Addr).add 0 = ⟨g, j, none⟩ := by simp [Addr.add]
    simp [storeCells, e0, hst]
  have hvr : (storeVar t ⟨g, j, none⟩ v).run P w = .ok () (w.setCell ⟨g, j, none⟩ v) := by
    cases hq : P.info? t with
    | none => simp [hq] at hi
    | some i =>
      have hs1 : i.size = 1 := by simpa [hq] using hi
      have hvl : v.cells.toList = [v] := by rw [hv]
      have hvs : v.cells.size = 1 := by rw [hv]; rfl
      simp [storeVar, sizeOf, typeInfo, hq, hvs, hvl, hs1, hs]
  unfold execOp
  simp only [ho, hx, hy, Instr.storeAt, Instr.sureAddr, Sem.run_bind, Sem.run_pure, Result.andThen_ok, hvr]
theorem exec_load_blk {P : Program} {o : Oper} {a : Act} {w : World} (ty : TypeId) (x : Operand) (ho : o.op = .load ty x) {g : Nat} (hx : a.eval x = .pointer (some ⟨g, 0, none⟩)) {t : TypeId} {cs : Array Value} {d : TypeDesc} (hg : Blk w g t cs)
    (hu : P.underlying ty = some d) (hd : (match d with | .struct _ | .array _ _ => true | _ => false) = true) (hsz : (P.info? ty).map (·.size) = some cs.size) :
    (execOp a.eval o).run P w = .ok (.value (.agg cs)) w := by
  simp only [execOp, ho, hx, Instr.loadAt, Instr.sureAddr, Sem.run_bind, Sem.run_pure, Result.andThen_ok, run_loadVar_row w g t ty cs (0, 0) d hg hu hd hsz]

theorem But.below {K : List Nat} {W a b : World} (h : But K W a) (k : Below W.heap.size a b) : But K W b :=
  ⟨k.os.trans h.os, k.tape.trans h.tape, k.output.trans h.output, Nat.le_trans h.size k.size, fun i h1 h2 => (k.block i h1).trans (h.block i h1 h2)⟩
theorem Blk.beneath {B : Nat} {w w' : World} {g : Nat} {t : TypeId} {cs : Array Value} (h : Blk w g t cs) (k : Below B w w') (hg : g < B) : Blk w' g t cs := (k.block g hg).trans h
theorem WR.but {α : Type} {f : α → List Value} {n : Nat} {w w' : World} {B : Nat} {e : TypeId} {v : Value} {l : List α} {g : Nat} (h : WR f n w B e v l) (x : But [g] w w') (hg : g < B) : WR f n w' B e v l :=
  World.ownsRow.kept h (⟨x.os, x.tape, x.output, x.size, fun k h1 h2 => x.block k h1 (by simpa using h2)⟩ : w.grownBy w' (some g)) (by
    cases hv : v.ownBlock with
    | none => exact .inl rfl
    | some k => exact .inr (by have := (World.ownsRow.lt h k hv).1; simp; omega))
theorem exec_bs1 {o : Oper} {a : Act} (op : Operand) (x : E9) (w : World) (ho : o.op = .buildSlice 22 1 #[(0, op)]) (hx : a.eval op = .agg (entC x).toArray) :
    (execOp a.eval o).run Try.prog w = .ok (.value (.slice (some ⟨w.heap.size, 0, none⟩) 1 1)) (w.alloc (.cells (entC x).toArray 49)) := by
  have hr : (Instr.buildSlice 22 1 #[(0, .agg (entC x).toArray)]).run Try.prog w = .ok (.slice (some ⟨w.heap.size, 0, none⟩) 1 1) (w.alloc (.cells (entC x).toArray 49)) := by
    cases x; exact run_bs1e _ _ _ _ _ _ _ _ _ _
  unfold execOp
  simp only [ho, List.map_toArray, List.map_cons, List.map_nil, hx, Sem.run_bind, Sem.run_pure, Result.andThen_ok, hr]
theorem run_bs1x (x : E9) (w : World) : (Instr.buildSlice 22 1 #[(0, .agg (entC x).toArray)]).run Try.prog w = .ok (.slice (some ⟨w.heap.size, 0, none⟩) 1 1) (w.alloc (.cells (entC x).toArray 49)) := by
  cases x; exact run_bs1e _ _ _ _ _ _ _ _ _ _
/-- what Decode's closure does -/
def GotD (s : List UInt8) (gm B : Nat) (r : Ending) (w' : World) : Prop :=
  match decR s with
  | .error e => ∃ a, r = faultE e a
  | .ok m => r = .returned (.tuple #[]) ∧ ∃ v, Blk w' gm 24 (manC m v) ∧ WR entC 9 w' B 49 v m.ents
theorem GotD.err {s : List UInt8} {gm B : Nat} {r : Ending} {w' : World} {e a : Int} (h : decR s = .error e) (hr : r = faultE e a) : GotD s gm B r w' := by
  unfold GotD; rw [h]; exact ⟨a, hr⟩
theorem GotD.ok {s : List UInt8} {gm B : Nat} {r : Ending} {w' : World} {m : Man} (h : decR s = .ok m) (hr : r = .returned (.tuple #[])) {v : Value} (hb : Blk w' gm 24 (manC m v)) (hw : WR entC 9 w' B 49 v m.ents) : GotD s gm B r w' := by
  unfold GotD; rw [h]; exact ⟨hr, v, hb, hw⟩
theorem decR_nums {s : List UInt8} {e : Int} (h : numsR s 5 0 = .error e) : decR s = .error e := by unfold decR; rw [h]
theorem man_build4 (a b c d : Int) (w : World) : (Instr.build 24 #[(0, .int .i64 a), (1, .int .i64 b), (2, .int .i64 c), (3, .int .i64 d)]).run Try.prog w = .ok (.agg #[.int .i64 a, .int .i64 b, .int .i64 c, .int .i64 d, .slice none 0 0]) w := by kernel_rfl

set_option maxRecDepth 20000 in
set_option maxHeartbeats 16000000 in
theorem dec1_any (s : List UInt8) (gm gt g : Nat) (w : World) (hs : (s.length : Int) ≤ 1000000000) (h0 h1 h2 h3 h4 : Value)
    (bm : Blk w gm 24 #[h0, h1, h2, h3, h4]) (bt : Blk w gt 66 #[.pointer (some ⟨g, 0, none⟩)]) (bk : TK w g s 0) (mg : gm ≠ g) (tg : gt ≠ g) (tm : gt ≠ gm) :
    Calls Try.prog 26 #[.pointer (some ⟨gt, 0, none⟩), .pointer (some ⟨gm, 0, none⟩)] w fun r w' => But [g, gm] w w' ∧ GotD s gm w.heap.size r w' := by
  have mk : g ∈ [g, gm] := List.mem_cons_self
  have mm : gm ∈ [g, gm] := List.mem_cons_of_mem _ List.mem_cons_self
  have HT := Lib.hid (show gt ∉ [g, gm] by simp; omega)
  have MS := Lib.hid man_size
  have lg := Lib.hid bk.lt
  have lm := Lib.hid bm.lt
  go_enter Try.func26, Try.ntmps26
  go_wp2
  refine wp_region_n (But [g, gm]) 14 rfl (by kernel_rfl) ?_
  have ld : ∀ w', But [g, gm] w.drew w' → w'.cell? ⟨gt, 0, none⟩ = some (.pointer (some ⟨g, 0, none⟩)) := fun w' x => (bt.drew.but x HT.out).cell 0
  refine n_want (But.pre _) (by kernel_rfl) (by kernel_rfl) (by kernel_rfl) (fun _ _ _ _ h => h) (by kernel_rfl) (.pointer (some ⟨gt, 0, none⟩)) (fun w' x => (by go_simp)) ?_
  refine n_want (But.pre _) (by kernel_rfl) (by kernel_rfl) (by kernel_rfl) (fun _ _ _ _ h => h) (by kernel_rfl) (.pointer (some ⟨g, 0, none⟩)) (fun w' x => (by have c := ld w' x; go_simp)) ?_
  refine n_late ?_
  refine n_want (But.pre _) (by kernel_rfl) (by kernel_rfl) (by kernel_rfl) (fun _ _ _ _ h => h) (by kernel_rfl) (.pointer (some ⟨gt, 0, none⟩)) (fun w' x => (by go_simp)) ?_
  refine n_want (But.pre _) (by kernel_rfl) (by kernel_rfl) (by kernel_rfl) (fun _ _ _ _ h => h) (by kernel_rfl) (.pointer (some ⟨g, 0, none⟩)) (fun w' x => (by have c := ld w' x; go_simp)) ?_
  refine n_late ?_
  refine n_want (But.pre _) (by kernel_rfl) (by kernel_rfl) (by kernel_rfl) (fun _ _ _ _ h => h) (by kernel_rfl) (.pointer (some ⟨gt, 0, none⟩)) (fun w' x => (by go_simp)) ?_
  refine n_want (But.pre _) (by kernel_rfl) (by kernel_rfl) (by kernel_rfl) (fun _ _ _ _ h => h) (by kernel_rfl) (.pointer (some ⟨g, 0, none⟩)) (fun w' x => (by have c := ld w' x; go_simp)) ?_
  refine n_late ?_
  refine n_want (But.pre _) (by kernel_rfl) (by kernel_rfl) (by kernel_rfl) (fun _ _ _ _ h => h) (by kernel_rfl) (.pointer (some ⟨gt, 0, none⟩)) (fun w' x => (by go_simp)) ?_
  refine n_want (But.pre _) (by kernel_rfl) (by kernel_rfl) (by kernel_rfl) (fun _ _ _ _ h => h) (by kernel_rfl) (.pointer (some ⟨g, 0, none⟩)) (fun w' x => (by have c := ld w' x; go_simp)) ?_
  refine n_rest ?_
  simp only [Act.put, List.getElem_toArray, List.getElem_cons_succ, List.getElem_cons_zero, List.setIfInBounds_toArray, List.set_cons_succ, List.set_cons_zero]
  have bk0 : TK w.drew g s ((0 : Nat) : Int) := bk
  have x0 : But [g, gm] w w.drew := (But.refl _ _).drew
  have b0 := bm.drew
  cases t1 : takeN s ((0 : Nat) : Int) with
  | error e =>
    refine n_panic 2 (by kernel_rfl) rfl (by kernel_rfl) (f := 27) (args := #[.pointer (some ⟨g, 0, none⟩)]) (by kernel_rfl) _ _ (num_err bk0 hs t1) ?_
    exact ⟨rfl, x0, GotD.err (decR_nums (by rw [numsR_err t1])) rfl⟩
  | ok q =>
    obtain ⟨n1, k1⟩ := q
    have bk1 := tkA_tk bk0 (0 + k1)
    have x1 := tkA_but x0 mk (0 + k1)
    have b1 := b0.tk mg (0 + k1)
    refine n_call 2 (by kernel_rfl) rfl (by kernel_rfl) (f := 27) (args := #[.pointer (some ⟨g, 0, none⟩)]) (by kernel_rfl) _ _ (num_ok bk0 hs t1) (fun _ => tkA_but (But.refl _ _) mk _) ?_
    simp only [Act.put, List.getElem_toArray, List.getElem_cons_succ, List.getElem_cons_zero, List.setIfInBounds_toArray, List.set_cons_succ, List.set_cons_zero]
    cases t2 : takeN s ((0 + k1 : Nat) : Int) with
    | error e =>
      refine n_panic 5 (by kernel_rfl) rfl (by kernel_rfl) (f := 27) (args := #[.pointer (some ⟨g, 0, none⟩)]) (by kernel_rfl) _ _ (num_err bk1 hs t2) ?_
      exact ⟨rfl, x1, GotD.err (decR_nums (by rw [numsR_ok t1, numsR_err t2]; rfl)) rfl⟩
    | ok q =>
      obtain ⟨n2, k2⟩ := q
      have bk2 := tkA_tk bk1 (0 + k1 + k2)
      have x2 := tkA_but x1 mk (0 + k1 + k2)
      have b2 := b1.tk mg (0 + k1 + k2)
      refine n_call 5 (by kernel_rfl) rfl (by kernel_rfl) (f := 27) (args := #[.pointer (some ⟨g, 0, none⟩)]) (by kernel_rfl) _ _ (num_ok bk1 hs t2) (fun _ => tkA_but (But.refl _ _) mk _) ?_
      simp only [Act.put, List.getElem_toArray, List.getElem_cons_succ, List.getElem_cons_zero, List.setIfInBounds_toArray, List.set_cons_succ, List.set_cons_zero]
      cases t3 : takeN s ((0 + k1 + k2 : Nat) : Int) with
      | error e =>
        refine n_panic 8 (by kernel_rfl) rfl (by kernel_rfl) (f := 27) (args := #[.pointer (some ⟨g, 0, none⟩)]) (by kernel_rfl) _ _ (num_err bk2 hs t3) ?_
        exact ⟨rfl, x2, GotD.err (decR_nums (by rw [numsR_ok t1, numsR_ok t2, numsR_err t3]; rfl)) rfl⟩
      | ok q =>
        obtain ⟨n3, k3⟩ := q
        have bk3 := tkA_tk bk2 (0 + k1 + k2 + k3)
        have x3 := tkA_but x2 mk (0 + k1 + k2 + k3)
        have b3 := b2.tk mg (0 + k1 + k2 + k3)
        refine n_call 8 (by kernel_rfl) rfl (by kernel_rfl) (f := 27) (args := #[.pointer (some ⟨g, 0, none⟩)]) (by kernel_rfl) _ _ (num_ok bk2 hs t3) (fun _ => tkA_but (But.refl _ _) mk _) ?_
        simp only [Act.put, List.getElem_toArray, List.getElem_cons_succ, List.getElem_cons_zero, List.setIfInBounds_toArray, List.set_cons_succ, List.set_cons_zero]
        cases t4 : takeN s ((0 + k1 + k2 + k3 : Nat) : Int) with
        | error e =>
          refine n_panic 11 (by kernel_rfl) rfl (by kernel_rfl) (f := 27) (args := #[.pointer (some ⟨g, 0, none⟩)]) (by kernel_rfl) _ _ (num_err bk3 hs t4) ?_
          exact ⟨rfl, x3, GotD.err (decR_nums (by rw [numsR_ok t1, numsR_ok t2, numsR_ok t3, numsR_err t4]; rfl)) rfl⟩
        | ok q =>
          obtain ⟨n4, k4⟩ := q
          have bk4 := tkA_tk bk3 (0 + k1 + k2 + k3 + k4)
          have x4 := tkA_but x3 mk (0 + k1 + k2 + k3 + k4)
          have b4 := b3.tk mg (0 + k1 + k2 + k3 + k4)
          refine n_call 11 (by kernel_rfl) rfl (by kernel_rfl) (f := 27) (args := #[.pointer (some ⟨g, 0, none⟩)]) (by kernel_rfl) _ _ (num_ok bk3 hs t4) (fun _ => tkA_but (But.refl _ _) mk _) ?_
          simp only [Act.put, List.getElem_toArray, List.getElem_cons_succ, List.getElem_cons_zero, List.setIfInBounds_toArray, List.set_cons_succ, List.set_cons_zero]
          generalize hW : (tkA (tkA (tkA (tkA w.drew g (0 + k1)) g (0 + k1 + k2)) g (0 + k1 + k2 + k3)) g (0 + k1 + k2 + k3 + k4)) = W4 at *
          clear hW
          refine n_val 12 (by kernel_rfl) rfl (by kernel_rfl) (.agg #[.int .i64 (n1 : Int), .int .i64 (n2 : Int), .int .i64 (n3 : Int), .int .i64 (n4 : Int), .slice none 0 0]) W4 (by kernel_rfl) (fun _ => But.refl _ _) ?_
          simp only [Act.put, List.getElem_toArray, List.getElem_cons_succ, List.getElem_cons_zero, List.setIfInBounds_toArray, List.set_cons_succ, List.set_cons_zero]
          refine n_skip 13 (by kernel_rfl) rfl (by kernel_rfl) (W4.setRow gm #[.int .i64 (n1 : Int), .int .i64 (n2 : Int), .int .i64 (n3 : Int), .int .i64 (n4 : Int), .slice none 0 0]) (exec_store_blk 24 (.tmp 1) (.tmp 16) rfl rfl rfl b4 rfl MS.out (by kernel_rfl)) (fun _ => (But.refl _ _).setRow mm _) ?_
          refine n_done (by kernel_rfl) ?_
          simp only [Act.put, List.getElem_toArray, List.getElem_cons_succ, List.getElem_cons_zero, List.setIfInBounds_toArray, List.set_cons_succ, List.set_cons_zero]
          have y5 := x4.setRow mm #[.int .i64 (n1 : Int), .int .i64 (n2 : Int), .int .i64 (n3 : Int), .int .i64 (n4 : Int), .slice none 0 0]
          have c5 := b4.setRow #[.int .i64 (n1 : Int), .int .i64 (n2 : Int), .int .i64 (n3 : Int), .int .i64 (n4 : Int), .slice none 0 0]
          have bk5 : TK (W4.setRow gm #[.int .i64 (n1 : Int), .int .i64 (n2 : Int), .int .i64 (n3 : Int), .int .i64 (n4 : Int), .slice none 0 0]) g s ((0 + k1 + k2 + k3 + k4 : Nat) : Int) := Blk.setRow_far bk4 mg.symm _
          generalize W4.setRow gm #[.int .i64 (n1 : Int), .int .i64 (n2 : Int), .int .i64 (n3 : Int), .int .i64 (n4 : Int), .slice none 0 0] = w5 at *
          have T1 := Lib.hid t1
          have T2 := Lib.hid t2
          have T3 := Lib.hid t3
          have T4 := Lib.hid t4
          generalize ha : 0 + k1 + k2 + k3 + k4 = a4 at *
          have HA := Lib.hid ha
          clear ha t1 t2 t3 t4 ld x0 x1 x2 x3 x4 b0 b1 b2 b3 b4 bk0 bk1 bk2 bk3 bk4
          have Y5 := Lib.hid y5
          have M5 := Lib.hid c5
          have K5 := Lib.hid bk5
          clear y5 c5 bk5

          go_wp2
          refine wp_region_n (But [g, gm]) 8 rfl (by kernel_rfl) ?_
          have bt5 := Lib.hid (bt.but Y5.out HT.out)
          have ld : ∀ w', But [g, gm] w5.drew w' → w'.cell? ⟨gt, 0, none⟩ = some (.pointer (some ⟨g, 0, none⟩)) := fun w' x => (bt5.out.drew.but x HT.out).cell 0
          refine n_want (But.pre _) (by kernel_rfl) (by kernel_rfl) (by kernel_rfl) (fun _ _ _ _ h => h) (by kernel_rfl) (.pointer (some ⟨gt, 0, none⟩)) (fun w' x => (by go_simp)) ?_
          refine n_want (But.pre _) (by kernel_rfl) (by kernel_rfl) (by kernel_rfl) (fun _ _ _ _ h => h) (by kernel_rfl) (.pointer (some ⟨g, 0, none⟩)) (fun w' x => (by have c := ld w' x; go_simp)) ?_
          refine n_late ?_
          refine n_want (But.pre _) (by kernel_rfl) (by kernel_rfl) (by kernel_rfl) (fun _ _ _ _ h => h) (by kernel_rfl) (.pointer (some ⟨gt, 0, none⟩)) (fun w' x => (by go_simp)) ?_
          refine n_want (But.pre _) (by kernel_rfl) (by kernel_rfl) (by kernel_rfl) (fun _ _ _ _ h => h) (by kernel_rfl) (.pointer (some ⟨g, 0, none⟩)) (fun w' x => (by have c := ld w' x; go_simp)) ?_
          refine n_rest ?_
          simp only [Act.put, List.getElem_toArray, List.getElem_cons_succ, List.getElem_cons_zero, List.setIfInBounds_toArray, List.set_cons_succ, List.set_cons_zero]
          have bk6 : TK w5.drew g s (a4 : Int) := K5.out
          have x6 : But [g, gm] w w5.drew := Y5.out.drew
          refine n_call 2 (by kernel_rfl) rfl (by kernel_rfl) (f := 28) (args := #[.pointer (some ⟨g, 0, none⟩)]) (by kernel_rfl) _ _ ((tat_any g s (a4 : Int) _ bk6).mono fun r z ⟨h1, h2⟩ => ⟨h1, h2.symm⟩) (fun _ => But.refl _ _) ?_
          simp only [Act.put, List.getElem_toArray, List.getElem_cons_succ, List.getElem_cons_zero, List.setIfInBounds_toArray, List.set_cons_succ, List.set_cons_zero]
          cases t5 : takeN s (a4 : Int) with
          | error e =>
            refine n_panic 5 (by kernel_rfl) rfl (by kernel_rfl) (f := 27) (args := #[.pointer (some ⟨g, 0, none⟩)]) (by kernel_rfl) _ _ (num_err bk6 hs t5) ?_
            exact ⟨rfl, x6, GotD.err (decR_nums (by rw [numsR_ok T1.out, numsR_ok T2.out, numsR_ok T3.out, numsR_ok T4.out, HA.out, numsR_err t5]; rfl)) rfl⟩
          | ok q =>
            obtain ⟨n5, k5⟩ := q
            have bk7 := tkA_tk bk6 (a4 + k5)
            have x7 := tkA_but x6 mk (a4 + k5)
            have b7 := M5.out.drew.tk mg (a4 + k5)
            refine n_call 5 (by kernel_rfl) rfl (by kernel_rfl) (f := 27) (args := #[.pointer (some ⟨g, 0, none⟩)]) (by kernel_rfl) _ _ (num_ok bk6 hs t5) (fun _ => tkA_but (But.refl _ _) mk _) ?_
            simp only [Act.put, List.getElem_toArray, List.getElem_cons_succ, List.getElem_cons_zero, List.setIfInBounds_toArray, List.set_cons_succ, List.set_cons_zero]
            generalize tkA w5.drew g (a4 + k5) = w7 at *
            refine n_val 6 (by kernel_rfl) rfl (by kernel_rfl) (.int .i64 (a4 : Int)) w7 (by kernel_rfl) (fun _ => But.refl _ _) ?_
            simp only [Act.put, List.getElem_toArray, List.getElem_cons_succ, List.getElem_cons_zero, List.setIfInBounds_toArray, List.set_cons_succ, List.set_cons_zero]
            refine n_val 7 (by kernel_rfl) rfl (by kernel_rfl) (.int .i64 (n5 : Int)) w7 (by kernel_rfl) (fun _ => But.refl _ _) ?_
            simp only [Act.put, List.getElem_toArray, List.getElem_cons_succ, List.getElem_cons_zero, List.setIfInBounds_toArray, List.set_cons_succ, List.set_cons_zero]
            refine n_done (by kernel_rfl) ?_
            have hto := takeN_ok t5
            generalize ha5 : a4 + k5 = a5 at *
            have HNUM := Lib.hid (show numsR s 5 0 = .ok ([n1, n2, n3, n4, n5], a5) by rw [numsR_ok T1.out, numsR_ok T2.out, numsR_ok T3.out, numsR_ok T4.out, HA.out, numsR_ok t5, ha5]; rfl)
            have K7 := Lib.hid bk7
            have X7 := Lib.hid x7
            have B7 := Lib.hid b7
            have hle : a5 ≤ s.length := by omega
            have HLE := Lib.hid hle
            clear t5 T1 T2 T3 T4 HA bk6 bk7 x6 x7 b7 ld bt5 Y5 M5 K5 hto ha5 hle
            by_cases hn : (n5 : Int) ≤ 100
            · have kn : ¬ (100 : Int) < (n5 : Int) := by omega
              have HN := Lib.hid hn
              clear hn
              go_wp2
              go_loopw [29] (fun i wr => ∃ (k b : Nat) (es : List E9) (v : Value), i = .int .i64 (k : Int) ∧ k ≤ n5 ∧ b ≤ s.length ∧ TK wr g s (b : Int) ∧ Blk wr gm 24 #[.int .i64 (n1 : Int), .int .i64 (n2 : Int), .int .i64 (n3 : Int), .int .i64 (n4 : Int), v] ∧ WR entC 9 wr w.heap.size 49 v es ∧ es.length = k ∧ entsR s n5 a5 = prepEs es (entsR s (n5 - k) b) ∧ But [g, gm] w wr) (fun i _ => n5 - (intOf i).toNat)
              case atStart => exact ⟨0, a5, [], .slice none 0 0, rfl, Nat.zero_le _, HLE.out, K7.out, B7.out, WR.nil _ _ _, rfl, by rw [prepEs_nil]; rfl, X7.out⟩
              case round =>
                obtain ⟨k, b, es, v, rfl, hk, hb, hk1, hb1, hw1, hlen, hrec, hx⟩ := hrel
                clear K7 B7 X7
                have hn100 := HN.out
                by_cases hlt : k < n5
                · have hI : (k : Int) < (n5 : Int) := by omega
                  have hgm : gm ∉ [g] := by simpa using mg
                  have hgt : gt ∉ [g] := by simpa using tg
                  have lm1 : ∀ w', But [g] wr.drew w' → w'.cell? ⟨gm, 4, none⟩ = some v := fun w' x => (hb1.drew.but x hgm).cell 4
                  have lt1 : ∀ w', But [g] wr.drew w' → Blk w' gt 66 #[.pointer (some ⟨g, 0, none⟩)] := fun w' x => ((bt.but hx HT.out).drew.but x hgt)
                  go_wp2_with fail
                  refine wp_region_n (But [g]) 8 rfl (by kernel_rfl) ?_
                  refine n_want (But.pre _) (by kernel_rfl) (by kernel_rfl) (by kernel_rfl) (fun _ _ _ _ h => h) (by kernel_rfl) (.pointer (some ⟨gm, 4, none⟩)) (fun w' x => (by go_simp)) ?_
                  refine n_want (But.pre _) (by kernel_rfl) (by kernel_rfl) (by kernel_rfl) (fun _ _ _ _ h => h) (by kernel_rfl) v (fun w' x => (by have c := lm1 w' x; go_simp)) ?_
                  refine n_want (But.pre _) (by kernel_rfl) (by kernel_rfl) (by kernel_rfl) (fun _ _ _ _ h => h) (by kernel_rfl) (.agg #[.pointer (some ⟨g, 0, none⟩)]) (fun w' x => exec_load_blk 66 (.tmp 0) rfl rfl (lt1 w' x) Try.underlying66 rfl tkr_size) ?_
                  refine n_rest ?_
                  simp only [Act.put, List.getElem_toArray, List.getElem_cons_succ, List.getElem_cons_zero, List.setIfInBounds_toArray, List.set_cons_succ, List.set_cons_zero]
                  have hk2 : TK wr.drew g s (b : Int) := hk1
                  refine n_callR 3 (by kernel_rfl) rfl (by kernel_rfl) (f := 29) (args := #[.agg #[.pointer (some ⟨g, 0, none⟩)]]) (by kernel_rfl) (entry_any s b g wr.drew hs hk2) (fun r w' hR => ?_)
                  obtain ⟨hbut, hge⟩ := hR
                  unfold GotE at hge
                  have hbut2 : But [g, gm] wr.drew w' := hbut.mono (fun i hi => by simp at hi; simp [hi])
                  have x2 : But [g, gm] w w' := (hx.drew).trans hbut2
                  cases hx9 : nineL s 9 0 b with
                  | error e =>
                    rw [hx9] at hge
                    obtain ⟨at_, rfl⟩ := hge
                    exact .inr ⟨_, rfl, rfl, x2, GotD.err (decR_err HNUM.out hn100 (entsR_stop hlt hrec hx9)) rfl⟩
                  | ok q =>
                    obtain ⟨ls, t⟩ := q
                    rw [hx9] at hge
                    obtain ⟨rfl, hk3⟩ := hge
                    refine .inl ⟨_, rfl, fun _ => hbut, ?_⟩
                    simp only [Act.put, List.getElem_toArray, List.getElem_cons_succ, List.getElem_cons_zero, List.setIfInBounds_toArray, List.set_cons_succ, List.set_cons_zero]
                    have hle := nineL_le hb hx9
                    have HREC := Lib.hid (entsR_step hlt hrec hx9)
                    have hb2 := hb1.drew.but hbut hgm
                    have hw2 := WR.but hw1.drew hbut lg.out
                    obtain ⟨v', W', p1, p2, p3, _⟩ := EW.app hw2 x2.size (mkE ls) (by omega)
                    obtain ⟨av, cv, rfl, hcv, hav⟩ := p2.shape entC_length
                    refine n_val 4 (by kernel_rfl) rfl (by kernel_rfl) (.slice (some ⟨w'.heap.size, 0, none⟩) 1 1) (w'.alloc (.cells (entC (mkE ls)).toArray 49)) (exec_bs1 _ (mkE ls) w' rfl rfl) (fun _ => But.of_ext ((Ext.refl _).alloc _)) ?_
                    simp only [Act.put, List.getElem_toArray, List.getElem_cons_succ, List.getElem_cons_zero, List.setIfInBounds_toArray, List.set_cons_succ, List.set_cons_zero]
                    refine n_val 5 (by kernel_rfl) rfl (by kernel_rfl) _ W' (exec_app (.tmp 32) (.tmp 35) 22 rfl rfl rfl rfl p1) (fun h => Bool.noConfusion (Eq.trans h.symm (by kernel_rfl : _ = true))) ?_
                    simp only [Act.put, List.getElem_toArray, List.getElem_cons_succ, List.getElem_cons_zero, List.setIfInBounds_toArray, List.set_cons_succ, List.set_cons_zero]
                    refine n_val 6 (by kernel_rfl) rfl (by kernel_rfl) (.pointer (some ⟨gm, 4, none⟩)) W' (by go_simp) (fun _ => But.refl _ _) ?_
                    simp only [Act.put, List.getElem_toArray, List.getElem_cons_succ, List.getElem_cons_zero, List.setIfInBounds_toArray, List.set_cons_succ, List.set_cons_zero]
                    have hb3 := hb2.beneath p3 lm.out
                    refine n_skip 7 (by kernel_rfl) rfl (by kernel_rfl) (W'.setCell ⟨gm, 4, none⟩ (.slice av (es ++ [mkE ls]).length cv)) (exec_store_at (.tmp 37) (.tmp 36) rfl rfl rfl hb3 rfl rfl rfl (by kernel_rfl)) (fun h => Bool.noConfusion (Eq.trans h.symm (by kernel_rfl : _ = true))) ?_
                    refine n_done (by kernel_rfl) ?_
                    simp only [Act.put, List.getElem_toArray, List.getElem_cons_succ, List.getElem_cons_zero, List.setIfInBounds_toArray, List.set_cons_succ, List.set_cons_zero]
                    have e1 := hb3.set_ 4 (.slice av (es ++ [mkE ls]).length cv)
                    have e2 : TK (W'.setCell ⟨gm, 4, none⟩ (.slice av (es ++ [mkE ls]).length cv)) g s (t : Int) := Blk.far (Blk.beneath hk3 p3 lg.out) (p := ⟨gm, 4, none⟩) mg.symm _
                    have e3 := ownsRow_setCell_below p2 (a := ⟨gm, 4, none⟩) lm.out (.slice av (es ++ [mkE ls]).length cv)
                    have e4 := (x2.below p3).set (p := ⟨gm, 4, none⟩) mm (.slice av (es ++ [mkE ls]).length cv)
                    simp only [List.setIfInBounds_toArray, List.set_cons_succ, List.set_cons_zero] at e1
                    have E1 := Lib.hid e1
                    have E2 := Lib.hid e2
                    have E3 := Lib.hid e3
                    have E4 := Lib.hid e4
                    have HT2 := Lib.hid hle.2.1
                    have HLT := Lib.hid hlt
                    have HLEN := Lib.hid hlen
                    generalize (.slice av (es ++ [mkE ls]).length cv : Value) = nv at *
                    generalize W'.setCell ⟨gm, 4, none⟩ nv = w8 at *
                    clear e1 e2 e3 e4 p1 p2 p3 hb2 hb3 hw2 hk3 x2 hbut hbut2 hle hcv hav hx9 hrec lm1 lt1 hlen hw1 hb1 hk1 hk2 hx
                    go_wp2
                    go_roundw
                    case rel => exact ⟨k + 1, t, es ++ [mkE ls], nv, by go_num, HLT.out, HT2.out, E2.out, E1.out, E3.out, by rw [List.length_append, HLEN.out]; rfl, HREC.out, E4.out⟩
                    case measure => simp [intOf]; have := HLT.out; omega
                · obtain rfl : k = n5 := by omega
                  have hI : ¬ (k : Int) < (k : Int) := by omega
                  rw [Nat.sub_self] at hrec
                  have hrec : entsR s k a5 = .ok (es, b) := by rw [hrec]; show Except.ok (es ++ [], b) = _; rw [List.append_nil]
                  have ct := (bt.but hx HT.out).cell 0
                  simp only [List.getElem?_toArray, List.getElem?_cons_zero] at ct
                  have E1 := Lib.hid hb1
                  have E3 := Lib.hid hw1
                  have E4 := Lib.hid hx
                  by_cases hend : b = s.length
                  · have QE := tend_ok g s b wr hk1 hend hs
                    have HD := Lib.hid (decR_ok HNUM.out hn100 hrec hend)
                    have QE := Lib.hid QE
                    clear hb1 hw1 hx hk1 hrec hlen hlt hend hn100
                    go_wp2_with fail
                    refine QE.out.mono ?_
                    rintro _ w9 ⟨rfl, rfl⟩
                    go_wp2
                    refine bodyPost_end (v := .tuple #[]) (by simp [results, Try.results26, go_sem]) rfl ⟨E4.out.drew, ?_⟩
                    exact GotD.ok HD.out rfl E1.out E3.out.drew
                  · have QE := tend_err g s b wr hk1 (by omega) hs
                    have HD := Lib.hid (decR_rest HNUM.out hn100 hrec hend)
                    have QE := Lib.hid QE
                    clear hb1 hw1 hx hk1 hrec hlen hlt hend hn100
                    go_wp2_with fail
                    refine QE.out.mono ?_
                    rintro _ w9 ⟨rfl, rfl⟩
                    exact ⟨rfl, E4.out.drew, GotD.err HD.out rfl⟩
            · have kn : (100 : Int) < (n5 : Int) := by omega
              have HD := Lib.hid (decR_big HNUM.out hn)
              clear hn
              go_wp2
              exact ⟨rfl, X7.out, GotD.err HD.out rfl⟩
end Go.Proofs.Ytcagcepbnkageaa
