/- HeadRows: the law's walk. -/
import Derived.Test.YtbhfapjjodhndaaMgI
import Derived.Test.YtbhfapjjodhndaaHdO
import Derived.Test.YtbhfapjjodhndaaMetaO
namespace Go.Proofs.Ytbhfapjjodhndaa
set_option linter.unusedVariables false
set_option linter.unusedSimpArgs false
open Go.RowKit
attribute [local go_sem] S_size S_toList hd_zero
theorem RR.empty {α : Type} {f : α → List Value} {s : Nat} {w : World} {a : Option Addr} {c : Nat} (h : a = none → c = 0) : RR f s w (.slice a 0 c) [] := ⟨a, c, rfl, Nat.zero_le _, h, fun h => by simp at h⟩

set_option maxRecDepth 20000 in
set_option maxHeartbeats 16000000 in
theorem headRows_out (v : Value) (l : List M7) (k i g f : Int) (w : World) (rd : RR metaC 7 w v l) (bl : (l.length : Int) ≤ 9223372036854775807) (h : (1000 : Int) < (l.length : Int) ∨ blocksP l = false ∨ k < 0 ∨ (l.length : Int) < k) :
    Calls Try.prog 6 #[v, .int .i64 k, .agg #[.int .i64 i, .int .i64 g, .int .i64 f]] w fun x w' => x = .returned (.bool true) ∧ Ext w w' := by
  have QA := Lib.hid awake21_any
  have X0 := Lib.hid ((Ext.refl w).alloc (.cells #[.int .i64 i, .int .i64 g, .int .i64 f] 23))
  have R0 := Lib.hid (rd.ext X0.out)
  have q := fun w h => hBlocks_any l v w h
  obtain ⟨a, c, rfl, _, _, _⟩ := rd
  by_cases hb : (1000 : Int) < (l.length : Int)
  · clear q h
    go_enter Try.func6, Try.ntmps6
    go_wp2_with fail
    refine (QA.out _).mono ?_
    rintro _ w1 ⟨rfl, x1⟩
    go_wp2
    go_ret
    exact ⟨rfl, X0.out.trans x1⟩
  cases hp : blocksP l with
  | false =>
    rw [hp] at q
    have Q := Lib.hid (show ∀ w, RR metaC 7 w (.slice a l.length c) l → Calls Try.prog 20 #[.slice a l.length c] w fun e w' => e = .returned (.int .i64 211) ∧ Ext w w' from q)
    clear q h hp
    go_enter Try.func6, Try.ntmps6
    go_wp2_with fail
    refine (Q.out _ R0.out).mono ?_
    rintro _ w1 ⟨rfl, x1⟩
    have X1 := Lib.hid (X0.out.trans x1)
    clear x1
    go_wp2_with fail
    refine (QA.out _).mono ?_
    rintro _ w2 ⟨rfl, x2⟩
    go_wp2
    go_ret
    exact ⟨rfl, X1.out.trans x2⟩
  | true =>
    rw [hp] at q
    have Q := Lib.hid (show ∀ w, RR metaC 7 w (.slice a l.length c) l → Calls Try.prog 20 #[.slice a l.length c] w fun e w' => e = .returned (.int .i64 0) ∧ Ext w w' from q)
    have hk : k < 0 ∨ (¬ k < 0 ∧ (l.length : Int) < k) := by
      rcases h with h | h | h | h
      · exact absurd h hb
      · rw [hp] at h; cases h
      · exact .inl h
      · exact .inr ⟨by omega, h⟩
    clear q h hp
    rcases hk with hk | ⟨hk0, hk⟩
    all_goals
      go_enter Try.func6, Try.ntmps6
      go_wp2_with fail
      refine (Q.out _ R0.out).mono ?_
      rintro _ w1 ⟨rfl, x1⟩
      have X1 := Lib.hid (X0.out.trans x1)
      clear x1
      go_wp2_with fail
      refine (QA.out _).mono ?_
      rintro _ w2 ⟨rfl, x2⟩
      go_wp2
      go_ret
      exact ⟨rfl, X1.out.trans x2⟩

set_option maxRecDepth 20000 in
set_option maxHeartbeats 16000000 in
theorem headRows_nil (a : Option Addr) (c : Nat) (i g f : Int) (w : World) (hac : a = none → c = 0) :
    Calls Try.prog 6 #[.slice a 0 c, .int .i64 0, .agg #[.int .i64 i, .int .i64 g, .int .i64 f]] w fun x w' => x = .returned (.bool true) ∧ Ext w w' := by
  have QA := Lib.hid awake21_any
  have HH := Lib.hid hd_size
  have X0 := Lib.hid ((Ext.refl w).alloc (.cells #[.int .i64 i, .int .i64 g, .int .i64 f] 23))
  have B5 := Lib.hid (Blk.new w 23 #[.int .i64 i, .int .i64 g, .int .i64 f])
  have Q := Lib.hid (show ∀ a c w, (a = none → c = 0) → Calls Try.prog 20 #[.slice a 0 c] w fun e w' => e = .returned (.int .i64 0) ∧ Ext w w' from fun a c w h => hBlocks_any [] _ w (RR.empty h))
  have Q2 := Lib.hid (show ∀ w, Calls Try.prog 23 #[.agg #[.int .i64 i, .int .i64 g, .int .i64 f], .slice a 0 c] w fun e w' => e = .returned (.int .i64 f) ∧ Ext w w' from fun w => hNext_any i g f [] _ w (RR.empty hac))
  have hsh : (a = none ∧ c = 0) ∨ (∃ p, a = some p ∧ c = 0) ∨ (∃ p n, a = some p ∧ c = n + 1) := by
    cases a with
    | none => exact .inl ⟨rfl, hac rfl⟩
    | some p =>
      cases c with
      | zero => exact .inr (.inl ⟨p, rfl, rfl⟩)
      | succ n => exact .inr (.inr ⟨p, n, rfl, rfl⟩)
  clear hac
  rcases hsh with ⟨rfl, rfl⟩ | ⟨p, rfl, rfl⟩ | ⟨p, n, rfl, rfl⟩
  all_goals
    go_enter Try.func6, Try.ntmps6
    go_wp2_with fail
    refine (Q.out _ _ _ (by simp)).mono ?_
    rintro _ w1 ⟨rfl, x1⟩
    have B5 := Lib.hid (B5.out.ext x1)
    have X1 := Lib.hid (X0.out.trans x1)
    clear x1
    go_wp2_with fail
    refine (Q.out _ _ _ (by simp)).mono ?_
    rintro _ w3 ⟨rfl, x3⟩
    have B5 := Lib.hid (B5.out.ext x3)
    have X3 := Lib.hid (X1.out.trans x3)
    clear x3
    go_wp2_with fail
    refine (Q.out _ _ _ (by simp)).mono ?_
    rintro _ w2 ⟨rfl, x2⟩
    have B5 := Lib.hid (B5.out.ext x2)
    have X2 := Lib.hid (X3.out.trans x2)
    clear x2
    have B5' := Lib.hid (B5.out : Blk w2 _ _ _)
    have d5 : w2.cell? ⟨w.heap.size, 2, none⟩ = some (.int .i64 f) := B5.out.cell 2
    have d5 := up_cell d5
    go_wp2
    go_loopw [7, 8, 9] (fun b c i wr => b = .int .i64 0 ∧ c = .int .i64 0 ∧ i = .int .i64 0 ∧ wr = w2) (fun _ _ _ _ => 0)
    case atStart => exact ⟨rfl, rfl, rfl, rfl⟩
    case round =>
      obtain ⟨rfl, rfl, rfl, rfl⟩ := hrel
      go_wp2
      refine wp_region_up (by kernel_rfl) (by kernel_rfl) ?_
      repeat (first
        | (refine wpQuiet_load_blk (by kernel_rfl) 23 (.tmp 5) rfl rfl B5.out Try.underlying23 rfl HH.out ?_
           dsimp only [Act.put]
           simp only [List.setIfInBounds_toArray, List.set_cons_succ, List.set_cons_zero])
        | (go_big_quiet_step (first
           | (go_at_call 23; (with_reducible exact up_call (Q2.out _)))
           | (go_at_call 7; (with_reducible exact up_call (QA.out _))))))
      refine wpQuiet_nil ?_
      rintro _ ⟨z, rfl⟩
      go_wp2
      go_ret
      exact ⟨rfl, X2.out.trans z.ext⟩

theorem head_pos {i g f : Int} {l : List M7} (hp : blocksP l = true) (h : 0 < l.length) (hh : headP i g f = true) : endE i g f l = 0 := by unfold endE; rw [hh, hp]; rfl
theorem head_neg {i g f : Int} {l : List M7} (hh : headP i g f = false) : endE i g f l = 210 := by unfold endE; rw [hh]; rfl
set_option maxRecDepth 20000 in
set_option maxHeartbeats 16000000 in
theorem headRows_main (a : Option Addr) (c : Nat) (l : List M7) (k : Nat) (i g f : Int) (w : World) (rd : RR metaC 7 w (.slice a l.length c) l) (hp : blocksP l = true) (hk : k ≤ l.length) (h0 : 0 < l.length) :
    Calls Try.prog 6 #[.slice a l.length c, .int .i64 (k : Int), .agg #[.int .i64 i, .int .i64 g, .int .i64 f]] w fun x w' => x = .returned (.bool true) ∧ Ext w w' := by
  have QA := Lib.hid awake21_any
  have HH := Lib.hid hd_size
  have X0 := Lib.hid ((Ext.refl w).alloc (.cells #[.int .i64 i, .int .i64 g, .int .i64 f] 23))
  have B5 := Lib.hid (Blk.new w 23 #[.int .i64 i, .int .i64 g, .int .i64 f])
  have R0 := Lib.hid (rd.ext X0.out)
  have hbig := (blocks_ok hp).1
  obtain ⟨a', c', e1, hlc, hcn, hs⟩ := rd
  injection e1 with e1 e2 e3
  subst e1; subst e3
  obtain ⟨gg, o, rfl, hcells⟩ := hs h0
  have T := Lib.hid (fun w (h : RR metaC 7 w (.slice (some ⟨gg, o, none⟩) l.length c) l) => RR.take h k hk)
  have D0 := fun w (h : RR metaC 7 w (.slice (some ⟨gg, o, none⟩) l.length c) l) b hb hb0 => RR.drop h k hk b hb hb0
  have q0 := fun v w h => hBlocks_any l v w h
  have q1 := fun v w h => hBlocks_any (l.take k) v w h
  have q2 := fun v w h => hBlocks_any (l.drop k) v w h
  rw [hp] at q0
  rw [blocks_take hp k] at q1
  rw [blocks_drop hp k] at q2
  have Q0 := Lib.hid q0
  have Q1 := Lib.hid q1
  have Q2 := Lib.hid q2
  have q3 := fun v w h => hNext_any i g f l v w h
  rw [next_sum hp h0] at q3
  have Q3 := Lib.hid q3
  have Q4 := Lib.hid (fun v w h => hEnd_any i g f l v w h)
  have HSUM := Lib.hid (fun j hj => sum_small hp j hj)
  have hal := ((blocksP_iff l).1 hp).2
  have HAL := Lib.hid hal
  have HP := Lib.hid hp
  have HE := Lib.hid (fun hh => end_sum (i := i) (g := g) (f := f) hp h0 hh)
  have HC := Lib.hid hcells
  have kc : (k : Int) ≤ (c : Int) := by omega
  have kl : ¬ (l.length : Int) < (k : Int) := by omega
  have kb : ¬ (1000 : Int) < (l.length : Int) := by omega
  have HB := Lib.hid hbig
  have H0 := Lib.hid h0
  simp only [footI, if_true] at Q0 Q1 Q2
  have HSH : (k = c ∧ (∀ w, RR metaC 7 w (.slice (some ⟨gg, o, none⟩) l.length c) l → RR metaC 7 w (.slice (some ⟨gg, o, none⟩) 0 0) (l.drop k))) ∨ (¬ c = k ∧ (∀ w, RR metaC 7 w (.slice (some ⟨gg, o, none⟩) l.length c) l → RR metaC 7 w (.slice (some ⟨gg, o + k * 7, none⟩) (l.length - k) (c - k)) (l.drop k))) := by
    by_cases h : c = k
    · refine .inl ⟨h.symm, fun w r => ?_⟩
      have := D0 w r (some ⟨gg, o, none⟩) (fun g' o' e hlt => by omega) (fun e => by cases e)
      rwa [show c - k = 0 by omega, show l.length - k = 0 by omega] at this
    · refine .inr ⟨h, fun w r => D0 w r (some ⟨gg, o + k * 7, none⟩) (fun g' o' e hlt => ?_) (fun e => by cases e)⟩
      injection e with e; injection e with e1 e2; subst e1; subst e2; rfl
  clear q0 q1 q2 q3 hal hp hcells hs hcn hk h0 hbig D0
  rcases HSH with ⟨rfl, d0⟩ | ⟨hck, d0⟩
  all_goals
    have D := Lib.hid d0
    clear d0
    go_enter Try.func6, Try.ntmps6
    go_wp2_with fail
    refine (Q0.out _ _ R0.out).mono ?_
    rintro _ w1 ⟨rfl, x1⟩
    have B5 := Lib.hid (B5.out.ext x1)
    have R0 := Lib.hid (R0.out.ext x1)
    have X1 := Lib.hid (X0.out.trans x1)
    clear x1 X0
    go_wp2_with fail
    refine (Q1.out _ _ (T.out _ R0.out)).mono ?_
    rintro _ w2 ⟨rfl, x2⟩
    have B5 := Lib.hid (B5.out.ext x2)
    have R0 := Lib.hid (R0.out.ext x2)
    have X2 := Lib.hid (X1.out.trans x2)
    clear x2 X1
    go_wp2_with fail
    refine (Q2.out _ _ (D.out _ R0.out)).mono ?_
    rintro _ w3 ⟨rfl, x3⟩
    have B5 := Lib.hid (B5.out.ext x3)
    have R0 := Lib.hid (R0.out.ext x3)
    have X3 := Lib.hid (X2.out.trans x3)
    clear x3 X2 D T Q0 Q1 Q2
    go_wp2
    go_loopw [7, 8, 9] (fun b c i wr => ∃ j : Nat, j ≤ l.length ∧ b = .int .i64 (sumTo M7.sz l j) ∧ c = .int .i64 (sumTo M7.cnt l j) ∧ i = .int .i64 (j : Int) ∧ wr = w3) (fun _ _ i _ => l.length - (intOf i).toNat)
    case atStart => exact ⟨0, Nat.zero_le _, rfl, rfl, rfl, rfl⟩
    case round =>
      obtain ⟨j, hj, rfl, rfl, rfl, rfl⟩ := hrel
      by_cases hlt : j < l.length
      · have hI : (j : Int) < (l.length : Int) := by omega
        have HX3 := X3.out
        have R := rangeAt_ext (HC.out j _ (getD_at hlt)) HX3
        have c1 := R 1 _ rfl
        have c3 := R 3 _ rfl
        have hs0 := HSUM.out j (by omega)
        have hs1 := HSUM.out (j + 1) hlt
        have hb := HB.out
        have p1 : sumTo M7.sz l (j + 1) = sumTo M7.sz l j + (l.getD j default).sz := rfl
        have p2 : sumTo M7.cnt l (j + 1) = sumTo M7.cnt l j + (l.getD j default).cnt := rfl
        rw [p1, p2] at hs1
        have P1 := Lib.hid p1
        have P2 := Lib.hid p2
        have HLT := Lib.hid hlt
        generalize (l.getD j default).sz = z1 at *
        generalize (l.getD j default).cnt = z3 at *
        generalize sumTo M7.sz l j = a1 at *
        generalize sumTo M7.cnt l j = a3 at *
        have e1 : IntKind.i64.wrap (a1 + z1) = a1 + z1 := by rw [IntKind.wrap_i64]; omega
        have e3 : IntKind.i64.wrap (a3 + z3) = a3 + z3 := by rw [IntKind.wrap_i64]; omega
        clear HX3 R hs0 hs1 hb p1 p2 hlt hj
        go_wp2
        go_roundw
        case rel => exact ⟨j + 1, HLT.out, by rw [P1.out], by rw [P2.out], by go_num, by first | rfl | trivial⟩
        case measure => simp [intOf]; have := HLT.out; omega
      · have e : j = l.length := by omega
        subst e
        have HX3 := X3.out
        have R := rangeAt_ext (HC.out 0 _ (getD_at H0.out)) HX3
        have hI : ¬ (l.length : Int) < (l.length : Int) := by omega
        have kz : ((l.length : Int) == 0) = false := beq_eq_false_iff_ne.2 (by have := H0.out; omega)
        have C0 := Lib.hid (R 0 _ rfl)
        have C4 := Lib.hid (R 4 _ rfl)
        have hs1 := HSUM.out l.length (Nat.le_refl _)
        have hb := HB.out
        obtain ⟨⟨a1, a2⟩, -, -, -, ⟨a3, a4⟩, -⟩ := (HAL.out 0 H0.out).1
        have hcnt := ((HAL.out 0 H0.out).1).2.2.2.1
        have q3 := Q3.out
        simp only [Nat.zero_mul, Nat.add_zero] at C0 C4
        have HEV := HE.out
        generalize (l.getD 0 default).at_ = z0 at *
        generalize (l.getD 0 default).fst = z4 at *
        generalize (l.getD 0 default).cnt = zc at *
        generalize sumTo M7.sz l l.length = sz at *
        generalize sumTo M7.cnt l l.length = sc at *
        have e0 : IntKind.i64.wrap (z0 + sz) = z0 + sz := by rw [IntKind.wrap_i64]; omega
        have e4 : IntKind.i64.wrap (z4 + sc) = z4 + sc := by rw [IntKind.wrap_i64]; omega
        have QN := Lib.hid q3
        have HEV := Lib.hid HEV
        have HEE := Lib.hid (fun hh => head_pos (i := i) (g := g) (f := f) HP.out H0.out hh)
        have q4 := fun v w h => Q4.out v w h
        clear HX3 R hs1 hb a1 a2 a3 a4 hlt hj HAL HE HSUM HP hcnt q3
        cases hh : headP i g f with
        | true =>
          rw [HEV.out hh, HEE.out hh] at q4
          have QE := Lib.hid q4
          clear q4 hh HEV HEE Q4 Q3
          go_wp2_with (refine wpList_load_blk rfl 23 (.tmp 5) rfl rfl B5.out Try.underlying23 rfl HH.out ?_; refine Held.go ?_)
          refine ⟨?_⟩
          go_wp2_with fail
          refine (QE.out _ _ R0.out).mono ?_
          rintro _ w4 ⟨rfl, x4⟩
          have B5 := Lib.hid (B5.out.ext x4)
          have q3 := Lib.hid (fun x : Up w4 => QN.out _ _ ((R0.out.ext x4).ext x.ext))
          have d0 := up_cell (Go.cell_later x4 C0.out)
          have d4 := up_cell (Go.cell_later x4 C4.out)
          have X4 := Lib.hid (X3.out.trans x4)
          clear x4
          have h0' := H0.out
          have h0i : (0 : Int) < (l.length : Int) := by omega
          go_wp2
          refine wp_region_up (by kernel_rfl) (by kernel_rfl) ?_
          refine wpQuiet_load_blk (by kernel_rfl) 23 (.tmp 5) rfl rfl B5.out Try.underlying23 rfl HH.out ?_
          dsimp only [Act.put]
          simp only [List.setIfInBounds_toArray, List.set_cons_succ, List.set_cons_zero]
          iterate 27
            (go_big_quiet_step (first
               | (go_at_call 23; (with_reducible exact up_call (q3.out _)))
               | (go_at_call 7; (with_reducible exact up_call (QA.out _)))))
          refine wpQuiet_nil ?_
          rintro _ ⟨z, rfl⟩
          go_wp2
          go_ret
          exact ⟨rfl, X4.out.trans z.ext⟩
        | false =>
          rw [head_neg hh] at q4
          have QE := Lib.hid q4
          clear q4 hh HEV HEE Q4 Q3
          generalize endV i g f l = ev at *
          go_wp2_with (refine wpList_load_blk rfl 23 (.tmp 5) rfl rfl B5.out Try.underlying23 rfl HH.out ?_; refine Held.go ?_)
          refine ⟨?_⟩
          go_wp2_with fail
          refine (QE.out _ _ R0.out).mono ?_
          rintro _ w4 ⟨rfl, x4⟩
          have B5 := Lib.hid (B5.out.ext x4)
          have q3 := Lib.hid (fun x : Up w4 => QN.out _ _ ((R0.out.ext x4).ext x.ext))
          have d0 := up_cell (Go.cell_later x4 C0.out)
          have d4 := up_cell (Go.cell_later x4 C4.out)
          have X4 := Lib.hid (X3.out.trans x4)
          clear x4
          have h0' := H0.out
          have h0i : (0 : Int) < (l.length : Int) := by omega
          go_wp2
          refine wp_region_up (by kernel_rfl) (by kernel_rfl) ?_
          refine wpQuiet_load_blk (by kernel_rfl) 23 (.tmp 5) rfl rfl B5.out Try.underlying23 rfl HH.out ?_
          dsimp only [Act.put]
          simp only [List.setIfInBounds_toArray, List.set_cons_succ, List.set_cons_zero]
          iterate 27
            (go_big_quiet_step (first
               | (go_at_call 23; (with_reducible exact up_call (q3.out _)))
               | (go_at_call 7; (with_reducible exact up_call (QA.out _)))))
          refine wpQuiet_nil ?_
          rintro _ ⟨z, rfl⟩
          go_wp2
          go_ret
          exact ⟨rfl, X4.out.trans z.ext⟩

set_option maxRecDepth 20000 in
theorem headRows_law (v : Value) (l : List M7) (k : Int) (wk : (Lit.int .i64 k).wf = true) (i g f : Int) (w : World) (rd : RR metaC 7 w v l) (bl : (l.length : Int) ≤ 9223372036854775807) (R : ∀ x ∈ l, True) :
    Calls Try.prog 6 #[v, .int .i64 k, .agg #[.int .i64 i, .int .i64 g, .int .i64 f]] w fun x w' => x = .returned (.bool true) ∧ Ext w w' := by
  by_cases h : (1000 : Int) < (l.length : Int) ∨ blocksP l = false ∨ k < 0 ∨ (l.length : Int) < k
  · exact headRows_out v l k i g f w rd bl h
  · have hp : blocksP l = true := by
      cases hp : blocksP l with
      | true => rfl
      | false => exact absurd (.inr (.inl hp)) h
    obtain ⟨n, rfl⟩ : ∃ n : Nat, k = (n : Int) := ⟨k.toNat, by omega⟩
    have hn : n ≤ l.length := by omega
    have rd' := rd
    obtain ⟨a, c, rfl, h1, h2, _⟩ := rd
    by_cases h0 : 0 < l.length
    · exact headRows_main a c l n i g f w rd' hp hn h0
    · have hl : l.length = 0 := by omega
      obtain rfl : n = 0 := by omega
      rw [hl]
      exact headRows_nil a c i g f w h2
end Go.Proofs.Ytbhfapjjodhndaa
