/- Several texts in one. merged: TsE TsG TgL -/
import Derived.Test.YtmjkfgpkohfmiaaGreatTgK
import Derived.Test.YtmjkfgpkohfmiaaGreatMgAc
namespace Go.Proofs.YtmjkfgpkohfmiaaGreat
set_option linter.unusedVariables false
set_option linter.unusedSimpArgs false
open Go.RowKit

/-- so many numbers of an entry, from the i-th on; the one of number 3 is a bool -/
def nineL (s : List UInt8) : Nat → Nat → Nat → Except Int (List Nat × Nat)
  | 0, _, a => .ok ([], a)
  | n + 1, i, a => match takeN s (a : Int) with
    | .ok (x, k) => if i = 3 ∧ 1 < x then .error 250 else prepR [x] (nineL s n (i + 1) (a + k))
    | .error e => .error e
theorem nineL_ok {s : List UInt8} {n i a x k : Nat} (h : takeN s (a : Int) = .ok (x, k)) (h3 : ¬ (i = 3 ∧ 1 < x)) : nineL s (n + 1) i a = prepR [x] (nineL s n (i + 1) (a + k)) := by
  show (match takeN s (a : Int) with | .ok (x, k) => (if i = 3 ∧ 1 < x then .error 250 else prepR [x] (nineL s n (i + 1) (a + k)) : Except Int (List Nat × Nat)) | .error e => .error e) = _
  rw [h]
  show (if i = 3 ∧ 1 < x then _ else _) = _
  rw [if_neg h3]
theorem nineL_bad {s : List UInt8} {n a x k : Nat} (h : takeN s (a : Int) = .ok (x, k)) (h3 : 1 < x) : nineL s (n + 1) 3 a = .error 250 := by
  show (match takeN s (a : Int) with | .ok (x, k) => (if 3 = 3 ∧ 1 < x then .error 250 else prepR [x] (nineL s n (3 + 1) (a + k)) : Except Int (List Nat × Nat)) | .error e => .error e) = _
  rw [h]
  show (if 3 = 3 ∧ 1 < x then _ else _) = _
  rw [if_pos ⟨rfl, h3⟩]
theorem nineL_err {s : List UInt8} {n i a : Nat} {e : Int} (h : takeN s (a : Int) = .error e) : nineL s (n + 1) i a = .error e := by
  show (match takeN s (a : Int) with | .ok (x, k) => (if i = 3 ∧ 1 < x then .error 250 else prepR [x] (nineL s n (i + 1) (a + k)) : Except Int (List Nat × Nat)) | .error e => .error e) = _
  rw [h]
/-- an entry out of nine numbers -/
def mkE (l : List Nat) : E9 := ⟨(l.getD 0 0 : Nat), (l.getD 1 0 : Nat), (l.getD 2 0 : Nat), decide ((l.getD 3 0) = 1), (l.getD 4 0 : Nat), (l.getD 5 0 : Nat), (l.getD 6 0 : Nat), (l.getD 7 0 : Nat), (l.getD 8 0 : Nat)⟩
theorem But.new {K : List Nat} {a b : World} (h : But K a b) {p : Addr} (hp : a.heap.size ≤ p.block) (u : Value) : But K a (b.setCell p u) :=
  have hb : Below a.heap.size b (b.setCell p u) := Below.setCell (Below.refl _ b) hp u
  ⟨hb.os.trans h.os, hb.tape.trans h.tape, hb.output.trans h.output, Nat.le_trans h.size hb.size, fun k h1 h2 => (hb.block k h1).trans (h.block k h1 h2)⟩
theorem But.newRow {K : List Nat} {a b : World} (h : But K a b) {g : Nat} (hg : a.heap.size ≤ g) (cs : Array Value) : But K a (b.setRow g cs) :=
  ⟨h.os, h.tape, h.output, by simpa using h.size, fun k h1 h2 => (setRow_other b g k cs (by omega)).trans (h.block k h1 h2)⟩
theorem tkr_size : (Tryz.prog.info? 134).map (·.size) = some 1 := by kernel_rfl
theorem Blk.tk {w : World} {g k : Nat} {t : TypeId} {cs : Array Value} (h : Blk w k t cs) (hk : k ≠ g) (a : Nat) : Blk (tkA w g a) k t cs := h.far (p := ⟨g, 1, none⟩) hk _
attribute [local go_sem] ent_build ent_zero9

/-- what flag does -/
def GotFl (s : List UInt8) (a g : Nat) (r : Ending) (w' : World) : Prop :=
  match takeN s (a : Int) with
  | .error e => ∃ a, r = faultE e a
  | .ok (x, k) => if 1 < x then ∃ a, r = faultE 250 a else r = .returned (.bool (decide (x = 1))) ∧ TK w' g s ((a + k : Nat) : Int)
set_option maxRecDepth 20000 in
set_option maxHeartbeats 4000000 in
theorem flag_any (s : List UInt8) (a g : Nat) (w : World) (hs : (s.length : Int) ≤ 1000000000) (bk : TK w g s (a : Int)) :
    Calls Tryz.prog 112 #[.agg #[.pointer (some ⟨g, 0, none⟩)]] w fun r w' => But [g] w w' ∧ GotFl s a g r w' := by
  have mk : g ∈ [g] := List.mem_cons_self
  have lk := bk.lt
  have bb := Blk.new w 134 #[.pointer (some ⟨g, 0, none⟩)]
  have x0 : But [g] w (w.alloc (.cells #[.pointer (some ⟨g, 0, none⟩)] 134)) := (But.refl _ _).alloc _
  have bk0 : TK (w.alloc (.cells #[.pointer (some ⟨g, 0, none⟩)] 134)) g s (a : Int) := bk.ext ((Ext.refl w).alloc _)
  have c0 := bb.cell 0
  simp at c0
  have QA := Lib.hid (tat_any g s (a : Int) _ bk0)
  have BB := Lib.hid bb
  have BK := Lib.hid bk0
  have X0 := Lib.hid x0
  clear bb bk0 x0
  go_enter Tryz.func112, Tryz.ntmps112
  go_wp2_with fail
  refine QA.out.mono ?_
  rintro _ w1 ⟨rfl, rfl⟩
  clear c0
  generalize w.alloc (.cells #[.pointer (some ⟨g, 0, none⟩)] 134) = w1 at *
  have c0 := BB.out.cell 0
  simp at c0
  go_wp2_with fail
  cases t1 : takeN s (a : Int) with
  | error e =>
    refine (num_err BK.out hs t1).mono ?_
    rintro _ w2 ⟨rfl, rfl⟩
    refine ⟨rfl, X0.out, ?_⟩
    unfold GotFl
    rw [t1]
    exact ⟨_, rfl⟩
  | ok q =>
    obtain ⟨x, k⟩ := q
    have bk2 := tkA_tk BK.out (a + k)
    have y2 := tkA_but X0.out mk (a + k)
    refine (num_ok BK.out hs t1).mono ?_
    rintro _ w2 ⟨rfl, rfl⟩
    have BK2 := Lib.hid bk2
    have Y2 := Lib.hid y2
    have T1 := Lib.hid t1
    clear bk2 y2 t1 c0
    generalize tkA w1 g (a + k) = w2 at *
    by_cases h : 1 < x
    · have hI : (1 : Int) < (x : Int) := by omega
      have H := Lib.hid h
      clear h
      go_wp2
      refine ⟨rfl, Y2.out, ?_⟩
      unfold GotFl
      rw [T1.out]
      show if 1 < x then _ else _
      rw [if_pos H.out]
      exact ⟨_, rfl⟩
    · have hI : ¬ (1 : Int) < (x : Int) := by omega
      have H := Lib.hid h
      have HB := Lib.hid (show ((x : Int) == 1) = decide (x = 1) by
        rw [Bool.eq_iff_iff, beq_iff_eq, decide_eq_true_eq]; omega)
      clear h
      go_wp2
      go_ret
      refine ⟨Y2.out, ?_⟩
      unfold GotFl
      rw [T1.out]
      show if 1 < x then _ else _
      rw [if_neg H.out]
      exact ⟨by rw [← HB.out]; rfl, BK2.out⟩

/-- what entry does -/
def GotE (s : List UInt8) (a g : Nat) (r : Ending) (w' : World) : Prop :=
  match nineL s 9 0 a with
  | .error e => ∃ a, r = faultE e a
  | .ok (l, t) => r = .returned (.agg (entC (mkE l)).toArray) ∧ TK w' g s (t : Int)
set_option maxRecDepth 20000 in
set_option maxHeartbeats 16000000 in
theorem entry_any (s : List UInt8) (a g : Nat) (w : World) (hs : (s.length : Int) ≤ 1000000000) (bk : TK w g s (a : Int)) :
    Calls Tryz.prog 81 #[.agg #[.pointer (some ⟨g, 0, none⟩)]] w fun r w' => But [g] w w' ∧ GotE s a g r w' := by
  have hmf : ∀ (fn : Fn) (first cap : Array Value) (w : World), (Instr.makeFunc fn first cap).run Tryz.prog w = .ok (.func fn first cap) w := fun _ _ _ _ => rfl
  have mk : g ∈ [g] := List.mem_cons_self
  have lk := bk.lt
  have TS := Lib.hid tkr_size
  have ES := Lib.hid (show (Tryz.prog.info? 73).map (·.size) = some 9 by kernel_rfl)
  have bb := (Blk.new w 134 #[.pointer (some ⟨g, 0, none⟩)]).alloc (.cells #[.int .i64 0, .int .i64 0, .int .i64 0, .bool false, .int .i64 0, .int .i64 0, .int .i64 0, .int .i64 0, .int .i64 0] 73)
  have br := Blk.new (w.alloc (.cells #[.pointer (some ⟨g, 0, none⟩)] 134)) 73 #[.int .i64 0, .int .i64 0, .int .i64 0, .bool false, .int .i64 0, .int .i64 0, .int .i64 0, .int .i64 0, .int .i64 0]
  rw [World.size_alloc] at br
  have x0 : But [g] w ((w.alloc (.cells #[.pointer (some ⟨g, 0, none⟩)] 134)).alloc (.cells #[.int .i64 0, .int .i64 0, .int .i64 0, .bool false, .int .i64 0, .int .i64 0, .int .i64 0, .int .i64 0, .int .i64 0] 73)) := ((But.refl _ _).alloc _).alloc _
  have bk0 := bk.ext (((Ext.refl w).alloc (.cells #[.pointer (some ⟨g, 0, none⟩)] 134)).alloc (.cells #[.int .i64 0, .int .i64 0, .int .i64 0, .bool false, .int .i64 0, .int .i64 0, .int .i64 0, .int .i64 0, .int .i64 0] 73))
  have c0 := bb.cell 0
  simp at c0
  have hg1 := Lib.hid (show w.heap.size ≠ g by omega)
  have hg2 := Lib.hid (show w.heap.size + 1 ≠ g by omega)
  have BB := Lib.hid bb
  have BR := Lib.hid br
  have BK := Lib.hid bk0
  have X := Lib.hid x0
  clear bb br bk0 x0 bk lk
  go_enter Tryz.func81, Tryz.ntmps81
  go_wp2_with fail
  clear c0
  generalize (w.alloc (.cells #[.pointer (some ⟨g, 0, none⟩)] 134)).alloc (.cells #[.int .i64 0, .int .i64 0, .int .i64 0, .bool false, .int .i64 0, .int .i64 0, .int .i64 0, .int .i64 0, .int .i64 0] 73) = v0 at *
  cases t1 : takeN s (a : Int) with
  | error e =>
    refine (num_err BK.out hs t1).mono ?_
    rintro _ z ⟨rfl, rfl⟩
    refine ⟨rfl, X.out, ?_⟩
    unfold GotE
    rw [nineL_err t1]
    exact ⟨_, rfl⟩
  | ok q =>
    obtain ⟨x1, k1⟩ := q
    have y := tkA_but X.out mk (a + k1)
    have b := tkA_tk BK.out (a + k1)
    have BB' := BB.out.tk hg1.out (a + k1)
    have BR' := BR.out.tk hg2.out (a + k1)
    refine (num_ok BK.out hs t1).mono ?_
    rintro _ z ⟨rfl, rfl⟩
    clear BK X BB BR
    have X := Lib.hid y
    have BK := Lib.hid b
    have BB := Lib.hid BB'
    have BR := Lib.hid BR'
    have T1 := Lib.hid t1
    clear y b t1 BB' BR'
    generalize tkA v0 g (a + k1) = v1 at *
    generalize ha1 : a + k1 = a1 at *
    have HA1 := Lib.hid ha1
    clear ha1
    go_wp2_with fail
    cases t2 : takeN s (a1 : Int) with
    | error e =>
      refine (num_err BK.out hs t2).mono ?_
      rintro _ z ⟨rfl, rfl⟩
      refine ⟨rfl, X.out, ?_⟩
      unfold GotE
      rw [nineL_ok T1.out (by omega), HA1.out, nineL_err t2]
      exact ⟨_, rfl⟩
    | ok q =>
      obtain ⟨x2, k2⟩ := q
      have y := tkA_but X.out mk (a1 + k2)
      have b := tkA_tk BK.out (a1 + k2)
      have BB' := BB.out.tk hg1.out (a1 + k2)
      have BR' := BR.out.tk hg2.out (a1 + k2)
      refine (num_ok BK.out hs t2).mono ?_
      rintro _ z ⟨rfl, rfl⟩
      clear BK X BB BR
      have X := Lib.hid y
      have BK := Lib.hid b
      have BB := Lib.hid BB'
      have BR := Lib.hid BR'
      have T2 := Lib.hid t2
      clear y b t2 BB' BR'
      generalize tkA v1 g (a1 + k2) = v2 at *
      generalize ha2 : a1 + k2 = a2 at *
      have HA2 := Lib.hid ha2
      clear ha2
      go_wp2_with fail
      cases t3 : takeN s (a2 : Int) with
      | error e =>
        refine (num_err BK.out hs t3).mono ?_
        rintro _ z ⟨rfl, rfl⟩
        refine ⟨rfl, X.out, ?_⟩
        unfold GotE
        rw [nineL_ok T1.out (by omega), HA1.out, nineL_ok T2.out (by omega), HA2.out, nineL_err t3]
        exact ⟨_, rfl⟩
      | ok q =>
        obtain ⟨x3, k3⟩ := q
        have y := tkA_but X.out mk (a2 + k3)
        have b := tkA_tk BK.out (a2 + k3)
        have BB' := BB.out.tk hg1.out (a2 + k3)
        have BR' := BR.out.tk hg2.out (a2 + k3)
        refine (num_ok BK.out hs t3).mono ?_
        rintro _ z ⟨rfl, rfl⟩
        clear BK X BB BR
        have X := Lib.hid y
        have BK := Lib.hid b
        have BB := Lib.hid BB'
        have BR := Lib.hid BR'
        have T3 := Lib.hid t3
        clear y b t3 BB' BR'
        generalize tkA v2 g (a2 + k3) = v3 at *
        generalize ha3 : a2 + k3 = a3 at *
        have HA3 := Lib.hid ha3
        clear ha3
        have b4 := Blk.new v3 73 #[.int .i64 (x1 : Int), .int .i64 (x2 : Int), .int .i64 (x3 : Int), .bool false, .int .i64 0, .int .i64 0, .int .i64 0, .int .i64 0, .int .i64 0]
        have bb := BB.out.alloc (.cells #[.int .i64 (x1 : Int), .int .i64 (x2 : Int), .int .i64 (x3 : Int), .bool false, .int .i64 0, .int .i64 0, .int .i64 0, .int .i64 0, .int .i64 0] 73)
        have br := BR.out.alloc (.cells #[.int .i64 (x1 : Int), .int .i64 (x2 : Int), .int .i64 (x3 : Int), .bool false, .int .i64 0, .int .i64 0, .int .i64 0, .int .i64 0, .int .i64 0] 73)
        have bk := BK.out.ext ((Ext.refl v3).alloc (.cells #[.int .i64 (x1 : Int), .int .i64 (x2 : Int), .int .i64 (x3 : Int), .bool false, .int .i64 0, .int .i64 0, .int .i64 0, .int .i64 0, .int .i64 0] 73))
        have y := X.out.alloc (.cells #[.int .i64 (x1 : Int), .int .i64 (x2 : Int), .int .i64 (x3 : Int), .bool false, .int .i64 0, .int .i64 0, .int .i64 0, .int .i64 0, .int .i64 0] 73)
        have lk := BK.out.lt
        have lr := BR.out.lt
        go_wp2_with (refine wpList_store_new rfl 73 (.tmp 4) (.tmp 15) rfl rfl rfl rfl ES.out (by kernel_rfl) ?_; refine Held.go ?_)
        refine ⟨?_⟩
        clear BK X BB BR
        have X := Lib.hid y
        have BK := Lib.hid bk
        have BB := Lib.hid bb
        have BR := Lib.hid br
        have B4 := Lib.hid b4
        have hg4 := Lib.hid (show v3.heap.size ≠ g by omega)
        have hr4 := Lib.hid (show v3.heap.size ≠ w.heap.size + 1 by omega)
        have hgw := Lib.hid (show w.heap.size ≤ v3.heap.size by omega)
        clear y bk bb br b4 lk lr
        generalize hz4 : v3.heap.size = g4 at *
        clear hz4
        generalize v3.alloc (.cells #[.int .i64 (x1 : Int), .int .i64 (x2 : Int), .int .i64 (x3 : Int), .bool false, .int .i64 0, .int .i64 0, .int .i64 0, .int .i64 0, .int .i64 0] 73) = v4 at *
        go_wp2_with (refine wpList_load_blk rfl 134 (.tmp 1) rfl rfl BB.out Tryz.underlying134 rfl TS.out ?_; refine Held.go ?_)
        refine ⟨?_⟩
        go_wp2_with fail
        refine (flag_any s a3 g v4 hs BK.out).mono ?_
        rintro r5 v5 ⟨y5, hf⟩
        unfold GotFl at hf
        cases t4 : takeN s (a3 : Int) with
        | error e =>
          rw [t4] at hf
          obtain ⟨at_, rfl⟩ := hf
          refine ⟨rfl, X.out.trans y5, ?_⟩
          unfold GotE
          rw [nineL_ok T1.out (by omega), HA1.out, nineL_ok T2.out (by omega), HA2.out, nineL_ok T3.out (by omega), HA3.out, nineL_err t4]
          exact ⟨_, rfl⟩
        | ok q =>
          obtain ⟨x4, k4⟩ := q
          rw [t4] at hf
          have hf : if 1 < x4 then ∃ a, r5 = faultE 250 a else r5 = .returned (.bool (decide (x4 = 1))) ∧ TK v5 g s ((a3 + k4 : Nat) : Int) := hf
          by_cases h4 : 1 < x4
          · rw [if_pos h4] at hf
            obtain ⟨at_, rfl⟩ := hf
            refine ⟨rfl, X.out.trans y5, ?_⟩
            unfold GotE
            rw [nineL_ok T1.out (by omega), HA1.out, nineL_ok T2.out (by omega), HA2.out, nineL_ok T3.out (by omega), HA3.out, nineL_bad t4 h4]
            exact ⟨_, rfl⟩
          · rw [if_neg h4] at hf
            obtain ⟨rfl, bk5⟩ := hf
            have bl : ∀ {k : Nat} {t : TypeId} {cs : Array Value}, Blk v4 k t cs → k ≠ g → Blk v5 k t cs := fun h hk => h.but y5 (by simpa using hk)
            have bb := bl BB.out hg1.out
            have br := bl BR.out hg2.out
            have b4 := bl B4.out hg4.out
            have y := X.out.trans y5
            clear BK X BB BR B4 bl y5
            have X := Lib.hid y
            have BK := Lib.hid bk5
            have BR := Lib.hid br
            have c3 := b4.cell 3
            have f3 := b4.frozen 3
            simp at c3
            have b5 := b4.set_ 3 (.bool (decide (x4 = 1)))
            simp only [List.setIfInBounds_toArray, List.set_cons_succ, List.set_cons_zero] at b5
            have B4 := Lib.hid b5
            have y6 : But [g] v5 v5 := But.refl _ _
            have T4 := Lib.hid t4
            have H4 := Lib.hid h4
            obtain ⟨sl, hsl⟩ : ∃ sl, sl = decide (x4 = 1) := ⟨_, rfl⟩
            have HSL := Lib.hid hsl
            rw [← hsl] at B4
            rw [← hsl]
            clear y bb br b4 bk5 b5 y6 t4 h4 hsl
            go_wp2_with fail
            clear c3 f3
            generalize ha4 : a3 + k4 = a4 at *
            have HA4 := Lib.hid ha4
            have y := But.new X.out (p := ⟨g4, 3, none⟩) hgw.out (.bool sl)
            have b : TK (v5.setCell ⟨g4, 3, none⟩ (.bool sl)) g s (a4 : Int) := Blk.far BK.out (p := ⟨g4, 3, none⟩) hg4.out.symm _
            have br := Blk.far BR.out (p := ⟨g4, 3, none⟩) hr4.out.symm (.bool sl)
            clear ha4 X BK BR
            have X := Lib.hid y
            have BK := Lib.hid b
            have BR := Lib.hid br
            clear y b br
            generalize v5.setCell ⟨g4, 3, none⟩ (.bool sl) = v6 at *
            cases t5 : takeN s (a4 : Int) with
            | error e =>
              refine (num_err BK.out hs t5).mono ?_
              rintro _ z ⟨rfl, rfl⟩
              refine ⟨rfl, X.out, ?_⟩
              unfold GotE
              rw [nineL_ok T1.out (by have := H4.out; omega), HA1.out, nineL_ok T2.out (by have := H4.out; omega), HA2.out, nineL_ok T3.out (by have := H4.out; omega), HA3.out, nineL_ok T4.out (by have := H4.out; omega), HA4.out, nineL_err t5]
              exact ⟨_, rfl⟩
            | ok q =>
              obtain ⟨x5, k5⟩ := q
              have y := tkA_but X.out mk (a4 + k5)
              have b := tkA_tk BK.out (a4 + k5)
              have BR' := BR.out.tk hg2.out (a4 + k5)
              have B4' := B4.out.tk hg4.out (a4 + k5)
              refine (num_ok BK.out hs t5).mono ?_
              rintro _ z ⟨rfl, rfl⟩
              clear BK X BR B4
              have X := Lib.hid y
              have BK := Lib.hid b
              have BR := Lib.hid BR'
              have B4 := Lib.hid B4'
              have T5 := Lib.hid t5
              clear y b t5 BR' B4'
              generalize tkA v6 g (a4 + k5) = v7 at *
              generalize ha5 : a4 + k5 = a5 at *
              have HA5 := Lib.hid ha5
              clear ha5
              go_wp2_with fail
              cases t6 : takeN s (a5 : Int) with
              | error e =>
                refine (num_err BK.out hs t6).mono ?_
                rintro _ z ⟨rfl, rfl⟩
                refine ⟨rfl, X.out, ?_⟩
                unfold GotE
                rw [nineL_ok T1.out (by have := H4.out; omega), HA1.out, nineL_ok T2.out (by have := H4.out; omega), HA2.out, nineL_ok T3.out (by have := H4.out; omega), HA3.out, nineL_ok T4.out (by have := H4.out; omega), HA4.out, nineL_ok T5.out (by have := H4.out; omega), HA5.out, nineL_err t6]
                exact ⟨_, rfl⟩
              | ok q =>
                obtain ⟨x6, k6⟩ := q
                have y := tkA_but X.out mk (a5 + k6)
                have b := tkA_tk BK.out (a5 + k6)
                have BR' := BR.out.tk hg2.out (a5 + k6)
                have B4' := B4.out.tk hg4.out (a5 + k6)
                refine (num_ok BK.out hs t6).mono ?_
                rintro _ z ⟨rfl, rfl⟩
                clear BK X BR B4
                have X := Lib.hid y
                have BK := Lib.hid b
                have BR := Lib.hid BR'
                have B4 := Lib.hid B4'
                have T6 := Lib.hid t6
                clear y b t6 BR' B4'
                generalize tkA v7 g (a5 + k6) = v8 at *
                generalize ha6 : a5 + k6 = a6 at *
                have HA6 := Lib.hid ha6
                clear ha6
                go_wp2_with fail
                cases t7 : takeN s (a6 : Int) with
                | error e =>
                  refine (num_err BK.out hs t7).mono ?_
                  rintro _ z ⟨rfl, rfl⟩
                  refine ⟨rfl, X.out, ?_⟩
                  unfold GotE
                  rw [nineL_ok T1.out (by have := H4.out; omega), HA1.out, nineL_ok T2.out (by have := H4.out; omega), HA2.out, nineL_ok T3.out (by have := H4.out; omega), HA3.out, nineL_ok T4.out (by have := H4.out; omega), HA4.out, nineL_ok T5.out (by have := H4.out; omega), HA5.out, nineL_ok T6.out (by have := H4.out; omega), HA6.out, nineL_err t7]
                  exact ⟨_, rfl⟩
                | ok q =>
                  obtain ⟨x7, k7⟩ := q
                  have y := tkA_but X.out mk (a6 + k7)
                  have b := tkA_tk BK.out (a6 + k7)
                  have BR' := BR.out.tk hg2.out (a6 + k7)
                  have B4' := B4.out.tk hg4.out (a6 + k7)
                  refine (num_ok BK.out hs t7).mono ?_
                  rintro _ z ⟨rfl, rfl⟩
                  clear BK X BR B4
                  have X := Lib.hid y
                  have BK := Lib.hid b
                  have BR := Lib.hid BR'
                  have B4 := Lib.hid B4'
                  have T7 := Lib.hid t7
                  clear y b t7 BR' B4'
                  generalize tkA v8 g (a6 + k7) = v9 at *
                  generalize ha7 : a6 + k7 = a7 at *
                  have HA7 := Lib.hid ha7
                  clear ha7
                  go_wp2_with fail
                  cases t8 : takeN s (a7 : Int) with
                  | error e =>
                    refine (num_err BK.out hs t8).mono ?_
                    rintro _ z ⟨rfl, rfl⟩
                    refine ⟨rfl, X.out, ?_⟩
                    unfold GotE
                    rw [nineL_ok T1.out (by have := H4.out; omega), HA1.out, nineL_ok T2.out (by have := H4.out; omega), HA2.out, nineL_ok T3.out (by have := H4.out; omega), HA3.out, nineL_ok T4.out (by have := H4.out; omega), HA4.out, nineL_ok T5.out (by have := H4.out; omega), HA5.out, nineL_ok T6.out (by have := H4.out; omega), HA6.out, nineL_ok T7.out (by have := H4.out; omega), HA7.out, nineL_err t8]
                    exact ⟨_, rfl⟩
                  | ok q =>
                    obtain ⟨x8, k8⟩ := q
                    have y := tkA_but X.out mk (a7 + k8)
                    have b := tkA_tk BK.out (a7 + k8)
                    have BR' := BR.out.tk hg2.out (a7 + k8)
                    have B4' := B4.out.tk hg4.out (a7 + k8)
                    refine (num_ok BK.out hs t8).mono ?_
                    rintro _ z ⟨rfl, rfl⟩
                    clear BK X BR B4
                    have X := Lib.hid y
                    have BK := Lib.hid b
                    have BR := Lib.hid BR'
                    have B4 := Lib.hid B4'
                    have T8 := Lib.hid t8
                    clear y b t8 BR' B4'
                    generalize tkA v9 g (a7 + k8) = v10 at *
                    generalize ha8 : a7 + k8 = a8 at *
                    have HA8 := Lib.hid ha8
                    clear ha8
                    go_wp2_with fail
                    cases t9 : takeN s (a8 : Int) with
                    | error e =>
                      refine (num_err BK.out hs t9).mono ?_
                      rintro _ z ⟨rfl, rfl⟩
                      refine ⟨rfl, X.out, ?_⟩
                      unfold GotE
                      rw [nineL_ok T1.out (by have := H4.out; omega), HA1.out, nineL_ok T2.out (by have := H4.out; omega), HA2.out, nineL_ok T3.out (by have := H4.out; omega), HA3.out, nineL_ok T4.out (by have := H4.out; omega), HA4.out, nineL_ok T5.out (by have := H4.out; omega), HA5.out, nineL_ok T6.out (by have := H4.out; omega), HA6.out, nineL_ok T7.out (by have := H4.out; omega), HA7.out, nineL_ok T8.out (by have := H4.out; omega), HA8.out, nineL_err t9]
                      exact ⟨_, rfl⟩
                    | ok q =>
                      obtain ⟨x9, k9⟩ := q
                      have y := tkA_but X.out mk (a8 + k9)
                      have b := tkA_tk BK.out (a8 + k9)
                      have BR' := BR.out.tk hg2.out (a8 + k9)
                      have B4' := B4.out.tk hg4.out (a8 + k9)
                      refine (num_ok BK.out hs t9).mono ?_
                      rintro _ z ⟨rfl, rfl⟩
                      clear BK X BR B4
                      have X := Lib.hid y
                      have BK := Lib.hid b
                      have BR := Lib.hid BR'
                      have B4 := Lib.hid B4'
                      have T9 := Lib.hid t9
                      clear y b t9 BR' B4'
                      generalize tkA v10 g (a8 + k9) = v11 at *
                      generalize ha9 : a8 + k9 = a9 at *
                      have HA9 := Lib.hid ha9
                      clear ha9
                      go_wp2_with (refine wpList_hold 29 rfl ?_)
                      refine ⟨?_⟩
                      have b4 := B4.out
                      have c4 := b4.cell 4
                      have f4 := b4.frozen 4
                      simp only [List.getElem?_toArray, List.getElem?_cons_succ, List.getElem?_cons_zero] at c4
                      have e4 := b4.set_ 4 (.int .i64 (x5 : Int))
                      simp only [List.setIfInBounds_toArray, List.set_cons_succ, List.set_cons_zero] at e4
                      have er := Blk.far BR.out (p := ⟨g4, 4, none⟩) hr4.out.symm (.int .i64 (x5 : Int))
                      have ex := But.new X.out (p := ⟨g4, 4, none⟩) hgw.out (.int .i64 (x5 : Int))
                      have ek : TK (v11.setCell ⟨g4, 4, none⟩ (.int .i64 (x5 : Int))) g s (a9 : Int) := Blk.far BK.out (p := ⟨g4, 4, none⟩) hg4.out.symm _
                      clear b4 B4 BR X BK
                      have B4 := Lib.hid e4
                      have BR := Lib.hid er
                      have X := Lib.hid ex
                      have BK := Lib.hid ek
                      clear e4 er ex ek
                      go_wp2_with (refine wpList_hold 30 rfl ?_)
                      refine ⟨?_⟩
                      clear c4 f4
                      generalize v11.setCell ⟨g4, 4, none⟩ (.int .i64 (x5 : Int)) = v12 at *
                      have b4 := B4.out
                      have c5 := b4.cell 5
                      have f5 := b4.frozen 5
                      simp only [List.getElem?_toArray, List.getElem?_cons_succ, List.getElem?_cons_zero] at c5
                      have e4 := b4.set_ 5 (.int .i64 (x6 : Int))
                      simp only [List.setIfInBounds_toArray, List.set_cons_succ, List.set_cons_zero] at e4
                      have er := Blk.far BR.out (p := ⟨g4, 5, none⟩) hr4.out.symm (.int .i64 (x6 : Int))
                      have ex := But.new X.out (p := ⟨g4, 5, none⟩) hgw.out (.int .i64 (x6 : Int))
                      have ek : TK (v12.setCell ⟨g4, 5, none⟩ (.int .i64 (x6 : Int))) g s (a9 : Int) := Blk.far BK.out (p := ⟨g4, 5, none⟩) hg4.out.symm _
                      clear b4 B4 BR X BK
                      have B4 := Lib.hid e4
                      have BR := Lib.hid er
                      have X := Lib.hid ex
                      have BK := Lib.hid ek
                      clear e4 er ex ek
                      go_wp2_with (refine wpList_hold 31 rfl ?_)
                      refine ⟨?_⟩
                      clear c5 f5
                      generalize v12.setCell ⟨g4, 5, none⟩ (.int .i64 (x6 : Int)) = v13 at *
                      have b4 := B4.out
                      have c6 := b4.cell 6
                      have f6 := b4.frozen 6
                      simp only [List.getElem?_toArray, List.getElem?_cons_succ, List.getElem?_cons_zero] at c6
                      have e4 := b4.set_ 6 (.int .i64 (x7 : Int))
                      simp only [List.setIfInBounds_toArray, List.set_cons_succ, List.set_cons_zero] at e4
                      have er := Blk.far BR.out (p := ⟨g4, 6, none⟩) hr4.out.symm (.int .i64 (x7 : Int))
                      have ex := But.new X.out (p := ⟨g4, 6, none⟩) hgw.out (.int .i64 (x7 : Int))
                      have ek : TK (v13.setCell ⟨g4, 6, none⟩ (.int .i64 (x7 : Int))) g s (a9 : Int) := Blk.far BK.out (p := ⟨g4, 6, none⟩) hg4.out.symm _
                      clear b4 B4 BR X BK
                      have B4 := Lib.hid e4
                      have BR := Lib.hid er
                      have X := Lib.hid ex
                      have BK := Lib.hid ek
                      clear e4 er ex ek
                      go_wp2_with (refine wpList_hold 32 rfl ?_)
                      refine ⟨?_⟩
                      clear c6 f6
                      generalize v13.setCell ⟨g4, 6, none⟩ (.int .i64 (x7 : Int)) = v14 at *
                      have b4 := B4.out
                      have c7 := b4.cell 7
                      have f7 := b4.frozen 7
                      simp only [List.getElem?_toArray, List.getElem?_cons_succ, List.getElem?_cons_zero] at c7
                      have e4 := b4.set_ 7 (.int .i64 (x8 : Int))
                      simp only [List.setIfInBounds_toArray, List.set_cons_succ, List.set_cons_zero] at e4
                      have er := Blk.far BR.out (p := ⟨g4, 7, none⟩) hr4.out.symm (.int .i64 (x8 : Int))
                      have ex := But.new X.out (p := ⟨g4, 7, none⟩) hgw.out (.int .i64 (x8 : Int))
                      have ek : TK (v14.setCell ⟨g4, 7, none⟩ (.int .i64 (x8 : Int))) g s (a9 : Int) := Blk.far BK.out (p := ⟨g4, 7, none⟩) hg4.out.symm _
                      clear b4 B4 BR X BK
                      have B4 := Lib.hid e4
                      have BR := Lib.hid er
                      have X := Lib.hid ex
                      have BK := Lib.hid ek
                      clear e4 er ex ek
                      go_wp2_with (refine wpList_hold 33 rfl ?_)
                      refine ⟨?_⟩
                      clear c7 f7
                      generalize v14.setCell ⟨g4, 7, none⟩ (.int .i64 (x8 : Int)) = v15 at *
                      have b4 := B4.out
                      have c8 := b4.cell 8
                      have f8 := b4.frozen 8
                      simp only [List.getElem?_toArray, List.getElem?_cons_succ, List.getElem?_cons_zero] at c8
                      have e4 := b4.set_ 8 (.int .i64 (x9 : Int))
                      simp only [List.setIfInBounds_toArray, List.set_cons_succ, List.set_cons_zero] at e4
                      have er := Blk.far BR.out (p := ⟨g4, 8, none⟩) hr4.out.symm (.int .i64 (x9 : Int))
                      have ex := But.new X.out (p := ⟨g4, 8, none⟩) hgw.out (.int .i64 (x9 : Int))
                      have ek : TK (v15.setCell ⟨g4, 8, none⟩ (.int .i64 (x9 : Int))) g s (a9 : Int) := Blk.far BK.out (p := ⟨g4, 8, none⟩) hg4.out.symm _
                      clear b4 B4 BR X BK
                      have B4 := Lib.hid e4
                      have BR := Lib.hid er
                      have X := Lib.hid ex
                      have BK := Lib.hid ek
                      clear e4 er ex ek
                      go_wp2_with (refine wpList_load_blk rfl 73 (.tmp 4) rfl rfl B4.out Tryz.underlying73 rfl ES.out ?_; refine Held.go ?_)
                      refine ⟨?_⟩
                      clear c8 f8 B4
                      generalize v15.setCell ⟨g4, 8, none⟩ (.int .i64 (x9 : Int)) = v16 at *
                      go_wp2_with (refine wpList_store_blk rfl 73 (.tmp 2) (.tmp 34) rfl rfl rfl BR.out rfl ES.out (by kernel_rfl) ?_)
                      refine bodyPost_ret (results_cell_row rfl _ _ (w.heap.size + 1) _ _ (0, 0) _ rfl (BR.out.setRow #[.int .i64 (x1 : Int), .int .i64 (x2 : Int), .int .i64 (x3 : Int), .bool sl, .int .i64 (x5 : Int), .int .i64 (x6 : Int), .int .i64 (x7 : Int), .int .i64 (x8 : Int), .int .i64 (x9 : Int)]) Tryz.underlying73 rfl ES.out) rfl ⟨But.newRow X.out (Nat.le_succ _) _, ?_⟩
                      unfold GotE
                      rw [nineL_ok T1.out (by have := H4.out; omega), HA1.out, nineL_ok T2.out (by have := H4.out; omega), HA2.out, nineL_ok T3.out (by have := H4.out; omega), HA3.out, nineL_ok T4.out (by have := H4.out; omega), HA4.out, nineL_ok T5.out (by have := H4.out; omega), HA5.out, nineL_ok T6.out (by have := H4.out; omega), HA6.out, nineL_ok T7.out (by have := H4.out; omega), HA7.out, nineL_ok T8.out (by have := H4.out; omega), HA8.out, nineL_ok T9.out (by have := H4.out; omega), HA9.out]
                      exact ⟨by rw [show sl = decide (x4 = 1) from HSL.out]; rfl, Blk.setRow_far BK.out hg2.out.symm _⟩
end Go.Proofs.YtmjkfgpkohfmiaaGreat
namespace Go.Proofs.YtmjkfgpkohfmiaaGreat
set_option linter.unusedVariables false
set_option linter.unusedSimpArgs false
open Go.RowKit

def prepEs (p : List E9) : Except Int (List E9 × Nat) → Except Int (List E9 × Nat)
  | .ok (l, a) => .ok (p ++ l, a)
  | .error e => .error e
/-- so many entries from a place on -/
def entsR (s : List UInt8) : Nat → Nat → Except Int (List E9 × Nat)
  | 0, a => .ok ([], a)
  | n + 1, a => match nineL s 9 0 a with
    | .ok (l, b) => prepEs [mkE l] (entsR s n b)
    | .error e => .error e
theorem prepEs_nil (r : Except Int (List E9 × Nat)) : prepEs [] r = r := by rcases r with e | ⟨l, a⟩ <;> rfl
theorem prepEs_two (p q : List E9) (r : Except Int (List E9 × Nat)) : prepEs p (prepEs q r) = prepEs (p ++ q) r := by
  rcases r with e | ⟨l, a⟩
  · rfl
  · show Except.ok (p ++ (q ++ l), a) = Except.ok (p ++ q ++ l, a)
    rw [List.append_assoc]
theorem entsR_ok {s : List UInt8} {n a b : Nat} {l : List Nat} (h : nineL s 9 0 a = .ok (l, b)) : entsR s (n + 1) a = prepEs [mkE l] (entsR s n b) := by
  show (match nineL s 9 0 a with | .ok (l, b) => prepEs [mkE l] (entsR s n b) | .error e => .error e) = _
  rw [h]
theorem entsR_err {s : List UInt8} {n a : Nat} {e : Int} (h : nineL s 9 0 a = .error e) : entsR s (n + 1) a = .error e := by
  show (match nineL s 9 0 a with | .ok (l, b) => prepEs [mkE l] (entsR s n b) | .error e => .error e) = _
  rw [h]
theorem entsR_step {s : List UInt8} {n k a : Nat} {l : List E9} {r : Except Int (List E9 × Nat)} (hk : k < n) (h : r = prepEs l (entsR s (n - k) a)) {x : List Nat} {t : Nat} (hx : nineL s 9 0 a = .ok (x, t)) : r = prepEs (l ++ [mkE x]) (entsR s (n - (k + 1)) t) := by
  rw [h, show n - k = (n - (k + 1)) + 1 by omega, entsR_ok hx, prepEs_two]
theorem entsR_stop {s : List UInt8} {n k a : Nat} {l : List E9} {r : Except Int (List E9 × Nat)} (hk : k < n) (h : r = prepEs l (entsR s (n - k) a)) {e : Int} (hx : nineL s 9 0 a = .error e) : r = .error e := by
  rw [h, show n - k = (n - (k + 1)) + 1 by omega, entsR_err hx]; rfl
/-- a manifest of bytes -/
def decR (s : List UInt8) : Except Int Man :=
  match numsR s 5 0 with
  | .error e => .error e
  | .ok (l, a) => if ((l.getD 4 0 : Nat) : Int) ≤ 100 then (match entsR s (l.getD 4 0) a with
    | .error e => .error e
    | .ok (es, b) => if b = s.length then .ok ⟨(l.getD 0 0 : Nat), (l.getD 1 0 : Nat), (l.getD 2 0 : Nat), (l.getD 3 0 : Nat), es⟩ else .error 6) else .error 3
theorem decR_big {s : List UInt8} {a : Nat} {l : List Nat} (h : numsR s 5 0 = .ok (l, a)) (hn : ¬ ((l.getD 4 0 : Nat) : Int) ≤ 100) : decR s = .error 3 := by
  unfold decR; rw [h]; show (if _ then _ else _) = _; rw [if_neg hn]
theorem decR_err {s : List UInt8} {a : Nat} {l : List Nat} {e : Int} (h : numsR s 5 0 = .ok (l, a)) (hn : ((l.getD 4 0 : Nat) : Int) ≤ 100) (he : entsR s (l.getD 4 0) a = .error e) : decR s = .error e := by
  unfold decR; rw [h]; show (if _ then _ else _) = _; rw [if_pos hn, he]
theorem decR_rest {s : List UInt8} {a b : Nat} {l : List Nat} {es : List E9} (h : numsR s 5 0 = .ok (l, a)) (hn : ((l.getD 4 0 : Nat) : Int) ≤ 100) (he : entsR s (l.getD 4 0) a = .ok (es, b)) (hb : ¬ b = s.length) : decR s = .error 6 := by
  unfold decR; rw [h]; show (if _ then _ else _) = _; rw [if_pos hn, he]; show (if b = s.length then _ else _) = _; rw [if_neg hb]
theorem decR_ok {s : List UInt8} {a b : Nat} {l : List Nat} {es : List E9} (h : numsR s 5 0 = .ok (l, a)) (hn : ((l.getD 4 0 : Nat) : Int) ≤ 100) (he : entsR s (l.getD 4 0) a = .ok (es, b)) (hb : b = s.length) : decR s = .ok ⟨(l.getD 0 0 : Nat), (l.getD 1 0 : Nat), (l.getD 2 0 : Nat), (l.getD 3 0 : Nat), es⟩ := by
  unfold decR; rw [h]; show (if _ then _ else _) = _; rw [if_pos hn, he]; show (if b = s.length then _ else _) = _; rw [if_pos hb]
theorem nineL_le {s : List UInt8} : ∀ {n i a t : Nat} {l : List Nat}, a ≤ s.length → nineL s n i a = .ok (l, t) → a ≤ t ∧ t ≤ s.length ∧ l.length = n ∧ (∀ x ∈ l, x < 9223372036854775808)
  | 0, i, a, t, l, ha, h => by
    injection h with h
    injection h with h1 h2
    subst h1; subst h2
    exact ⟨Nat.le_refl _, ha, rfl, fun x hx => by cases hx⟩
  | n + 1, i, a, t, l, ha, h => by
    cases ht : takeN s (a : Int) with
    | error e => rw [nineL_err ht] at h; cases h
    | ok q =>
      obtain ⟨x, k⟩ := q
      have hto := takeN_ok ht
      by_cases h3 : i = 3 ∧ 1 < x
      · obtain ⟨rfl, h3⟩ := h3
        rw [nineL_bad ht h3] at h; cases h
      · rw [nineL_ok ht h3] at h
        cases hr : nineL s n (i + 1) (a + k) with
        | error e => rw [hr] at h; cases h
        | ok q =>
          obtain ⟨l', t'⟩ := q
          rw [hr] at h
          injection h with h
          injection h with h2 h4
          subst h2; subst h4
          have ih := nineL_le hto.1 hr
          refine ⟨by omega, ih.2.1, by simp [ih.2.2.1], fun y hy => ?_⟩
          rcases List.mem_cons.1 hy with rfl | hy
          · exact hto.2.2.1
          · exact ih.2.2.2 y hy
/-- a call told by a relation -/
theorem n_callR {P : Program} {md : Region.Mode} {ops : Array Oper} {Q : Exit → Act → World → Prop} {ρ : World → World → Prop} {fuel : Nat} {listed : Array Bool} {a : Act} {w w0 : World} (i : Nat) {oi : Oper} {f : Nat} {args : Array Value} (hr : Region.ready md ops listed = [i]) (hi : ops[i]? = some oi) (hw : Region.wanted oi (yielded ops a.tmps) = true)
    (he : (execOp a.eval oi).run P w = .ok (.enter f args) w0) {R : Ending → World → Prop} (hc : Calls P f args w0 R)
    (h : ∀ r w', R r w' → (∃ v, r = .returned v ∧ (lastB md ops i = false → ρ w w') ∧ wpAnyN P md ops Q ρ fuel (listed.setIfInBounds i true) (a.put oi.dst v) w') ∨ (∃ c, r = .panicked c ∧ Q (.panic c) a w')) :
    wpAnyN P md ops Q ρ (fuel + 1) listed a w :=
  n_one i hr hi hw fun K hK => by
    unfold Oper.wp
    rw [he]
    exact Calls.mono hc fun e w'' hR => by
      rcases h e w'' hR with ⟨v, rfl, hx, h1⟩ | ⟨c, rfl, h1⟩
      · exact hK _ _ hx h1
      · exact h1
theorem exec_store_at {P : Program} {o : Oper} {a : Act} {w : World} {t : TypeId} (x y : Operand) (ho : o.op = .store t x y) {g j : Nat} {v u : Value} {ty : TypeId} {cs : Array Value} (hx : a.eval x = .pointer (some ⟨g, j, none⟩)) (hy : a.eval y = v) (hb : Blk w g ty cs) (hj : cs[j]? = some u) (hv : v.cells = #[v]) (h1 : v.oneCell' = true)
    (hi : (P.info? t).map (·.size) = some 1) :
    (execOp a.eval o).run P w = .ok .skip (w.setCell ⟨g, j, none⟩ v) := by
  have hs : (storeCells ⟨g, j, none⟩ [v]).run P w = .ok () (w.setCell ⟨g, j, none⟩ v) := by
    have hst := run_store P w ⟨g, j, none⟩ v .plain h1
    rw [show w.cell? ⟨g, j, none⟩ = some u from (hb.cell j).trans hj] at hst
    simp only [hb.frozen j] at hst
    have e0 : (⟨g, j, none⟩ : Addr).add 0 = ⟨g, j, none⟩ := by simp [Addr.add]
    simp [storeCells, e0, hst]
  have hvr : (storeVar t ⟨g, j, none⟩ v).run P w = .ok () (w.setCell ⟨g, j, none⟩ v) := by
    cases hq : P.info? t with
    | none => simp [hq] at hi
    | some i =>
      have hs1 : i.size = 1 := by simpa [hq] using hi
      have hvl : v.cells.toList = [v] := by rw [hv]
      have hvs : v.cells.size = 1 := by rw [hv]; rfl
      simp [storeVar, sizeOf, typeInfo, hq, hvs, hvl, hs1, hs]
  unfold execOp
  simp only [ho, hx, hy, Instr.storeAt, Instr.sureAddr, Sem.run_bind, Sem.run_pure, Result.andThen_ok, hvr]
theorem exec_load_blk {P : Program} {o : Oper} {a : Act} {w : World} (ty : TypeId) (x : Operand) (ho : o.op = .load ty x) {g : Nat} (hx : a.eval x = .pointer (some ⟨g, 0, none⟩)) {t : TypeId} {cs : Array Value} {d : TypeDesc} (hg : Blk w g t cs)
    (hu : P.underlying ty = some d) (hd : (match d with | .struct _ | .array _ _ => true | _ => false) = true) (hsz : (P.info? ty).map (·.size) = some cs.size) :
    (execOp a.eval o).run P w = .ok (.value (.agg cs)) w := by
  simp only [execOp, ho, hx, Instr.loadAt, Instr.sureAddr, Sem.run_bind, Sem.run_pure, Result.andThen_ok, run_loadVar_row w g t ty cs (0, 0) d hg hu hd hsz]

theorem But.beneath {K : List Nat} {W a b : World} (h : But K W a) (k : Below W.heap.size a b) : But K W b :=
  ⟨k.os.trans h.os, k.tape.trans h.tape, k.output.trans h.output, Nat.le_trans h.size k.size, fun i h1 h2 => (k.block i h1).trans (h.block i h1 h2)⟩
theorem Blk.beneath {B : Nat} {w w' : World} {g : Nat} {t : TypeId} {cs : Array Value} (h : Blk w g t cs) (k : Below B w w') (hg : g < B) : Blk w' g t cs := (k.block g hg).trans h
theorem WR.but1 {α : Type} {f : α → List Value} {n : Nat} {w w' : World} {B : Nat} {e : TypeId} {v : Value} {l : List α} {g : Nat} (h : WR f n w B e v l) (x : But [g] w w') (hg : g < B) : WR f n w' B e v l :=
  World.ownsRow.kept h (⟨x.os, x.tape, x.output, x.size, fun k h1 h2 => x.block k h1 (by simpa using h2)⟩ : w.grownBy w' (some g)) (by
    cases hv : v.ownBlock with
    | none => exact .inl rfl
    | some k => exact .inr (by have := (World.ownsRow.lt h k hv).1; simp; omega))
theorem exec_bs1 {o : Oper} {a : Act} (op : Operand) (x : E9) (w : World) (ho : o.op = .buildSlice 37 1 #[(0, op)]) (hx : a.eval op = .agg (entC x).toArray) :
    (execOp a.eval o).run Tryz.prog w = .ok (.value (.slice (some ⟨w.heap.size, 0, none⟩) 1 1)) (w.alloc (.cells (entC x).toArray 73)) := by
  have hr : (Instr.buildSlice 37 1 #[(0, .agg (entC x).toArray)]).run Tryz.prog w = .ok (.slice (some ⟨w.heap.size, 0, none⟩) 1 1) (w.alloc (.cells (entC x).toArray 73)) := by
    cases x; exact run_bs1e _ _ _ _ _ _ _ _ _ _
  unfold execOp
  simp only [ho, List.map_toArray, List.map_cons, List.map_nil, hx, Sem.run_bind, Sem.run_pure, Result.andThen_ok, hr]
theorem run_bs1x (x : E9) (w : World) : (Instr.buildSlice 37 1 #[(0, .agg (entC x).toArray)]).run Tryz.prog w = .ok (.slice (some ⟨w.heap.size, 0, none⟩) 1 1) (w.alloc (.cells (entC x).toArray 73)) := by
  cases x; exact run_bs1e _ _ _ _ _ _ _ _ _ _
/-- what Decode's closure does -/
def GotD (s : List UInt8) (gm B : Nat) (r : Ending) (w' : World) : Prop :=
  match decR s with
  | .error e => ∃ a, r = faultE e a
  | .ok m => r = .returned (.tuple #[]) ∧ ∃ v, Blk w' gm 39 (manC m v) ∧ WR entC 9 w' B 73 v m.ents
theorem GotD.err {s : List UInt8} {gm B : Nat} {r : Ending} {w' : World} {e a : Int} (h : decR s = .error e) (hr : r = faultE e a) : GotD s gm B r w' := by
  unfold GotD; rw [h]; exact ⟨a, hr⟩
theorem GotD.ok {s : List UInt8} {gm B : Nat} {r : Ending} {w' : World} {m : Man} (h : decR s = .ok m) (hr : r = .returned (.tuple #[])) {v : Value} (hb : Blk w' gm 39 (manC m v)) (hw : WR entC 9 w' B 73 v m.ents) : GotD s gm B r w' := by
  unfold GotD; rw [h]; exact ⟨hr, v, hb, hw⟩
theorem decR_nums {s : List UInt8} {e : Int} (h : numsR s 5 0 = .error e) : decR s = .error e := by unfold decR; rw [h]
theorem man_build4 (a b c d : Int) (w : World) : (Instr.build 39 #[(0, .int .i64 a), (1, .int .i64 b), (2, .int .i64 c), (3, .int .i64 d)]).run Tryz.prog w = .ok (.agg #[.int .i64 a, .int .i64 b, .int .i64 c, .int .i64 d, .slice none 0 0]) w := by kernel_rfl

set_option maxRecDepth 20000 in
set_option maxHeartbeats 16000000 in
theorem dec1_any (s : List UInt8) (gm gt g : Nat) (w : World) (hs : (s.length : Int) ≤ 1000000000) (h0 h1 h2 h3 h4 : Value)
    (bm : Blk w gm 39 #[h0, h1, h2, h3, h4]) (bt : Blk w gt 134 #[.pointer (some ⟨g, 0, none⟩)]) (bk : TK w g s 0) (mg : gm ≠ g) (tg : gt ≠ g) (tm : gt ≠ gm) :
    Calls Tryz.prog 78 #[.pointer (some ⟨gt, 0, none⟩), .pointer (some ⟨gm, 0, none⟩)] w fun r w' => But [g, gm] w w' ∧ GotD s gm w.heap.size r w' := by
  have mk : g ∈ [g, gm] := List.mem_cons_self
  have mm : gm ∈ [g, gm] := List.mem_cons_of_mem _ List.mem_cons_self
  have HT := Lib.hid (show gt ∉ [g, gm] by simp; omega)
  have MS := Lib.hid man_size
  have lg := Lib.hid bk.lt
  have lm := Lib.hid bm.lt
  go_enter Tryz.func78, Tryz.ntmps78
  go_wp2
  refine wp_region_n (But [g, gm]) 14 rfl (by kernel_rfl) ?_
  have ld : ∀ w', But [g, gm] w.drew w' → w'.cell? ⟨gt, 0, none⟩ = some (.pointer (some ⟨g, 0, none⟩)) := fun w' x => (bt.drew.but x HT.out).cell 0
  refine n_want (But.pre _) (by kernel_rfl) (by kernel_rfl) (by kernel_rfl) (fun _ _ _ _ h => h) (by kernel_rfl) (.pointer (some ⟨gt, 0, none⟩)) (fun w' x => (by go_simp)) ?_
  refine n_want (But.pre _) (by kernel_rfl) (by kernel_rfl) (by kernel_rfl) (fun _ _ _ _ h => h) (by kernel_rfl) (.pointer (some ⟨g, 0, none⟩)) (fun w' x => (by have c := ld w' x; go_simp)) ?_
  refine n_late ?_
  refine n_want (But.pre _) (by kernel_rfl) (by kernel_rfl) (by kernel_rfl) (fun _ _ _ _ h => h) (by kernel_rfl) (.pointer (some ⟨gt, 0, none⟩)) (fun w' x => (by go_simp)) ?_
  refine n_want (But.pre _) (by kernel_rfl) (by kernel_rfl) (by kernel_rfl) (fun _ _ _ _ h => h) (by kernel_rfl) (.pointer (some ⟨g, 0, none⟩)) (fun w' x => (by have c := ld w' x; go_simp)) ?_
  refine n_late ?_
  refine n_want (But.pre _) (by kernel_rfl) (by kernel_rfl) (by kernel_rfl) (fun _ _ _ _ h => h) (by kernel_rfl) (.pointer (some ⟨gt, 0, none⟩)) (fun w' x => (by go_simp)) ?_
  refine n_want (But.pre _) (by kernel_rfl) (by kernel_rfl) (by kernel_rfl) (fun _ _ _ _ h => h) (by kernel_rfl) (.pointer (some ⟨g, 0, none⟩)) (fun w' x => (by have c := ld w' x; go_simp)) ?_
  refine n_late ?_
  refine n_want (But.pre _) (by kernel_rfl) (by kernel_rfl) (by kernel_rfl) (fun _ _ _ _ h => h) (by kernel_rfl) (.pointer (some ⟨gt, 0, none⟩)) (fun w' x => (by go_simp)) ?_
  refine n_want (But.pre _) (by kernel_rfl) (by kernel_rfl) (by kernel_rfl) (fun _ _ _ _ h => h) (by kernel_rfl) (.pointer (some ⟨g, 0, none⟩)) (fun w' x => (by have c := ld w' x; go_simp)) ?_
  refine n_rest ?_
  simp only [Act.put, List.getElem_toArray, List.getElem_cons_succ, List.getElem_cons_zero, List.setIfInBounds_toArray, List.set_cons_succ, List.set_cons_zero]
  have bk0 : TK w.drew g s ((0 : Nat) : Int) := bk
  have x0 : But [g, gm] w w.drew := (But.refl _ _).drew
  have b0 := bm.drew
  cases t1 : takeN s ((0 : Nat) : Int) with
  | error e =>
    refine n_panic 2 (by kernel_rfl) rfl (by kernel_rfl) (f := 79) (args := #[.pointer (some ⟨g, 0, none⟩)]) (by kernel_rfl) _ _ (num_err bk0 hs t1) ?_
    exact ⟨rfl, x0, GotD.err (decR_nums (by rw [numsR_err t1])) rfl⟩
  | ok q =>
    obtain ⟨n1, k1⟩ := q
    have bk1 := tkA_tk bk0 (0 + k1)
    have x1 := tkA_but x0 mk (0 + k1)
    have b1 := b0.tk mg (0 + k1)
    refine n_call 2 (by kernel_rfl) rfl (by kernel_rfl) (f := 79) (args := #[.pointer (some ⟨g, 0, none⟩)]) (by kernel_rfl) _ _ (num_ok bk0 hs t1) (fun _ => tkA_but (But.refl _ _) mk _) ?_
    simp only [Act.put, List.getElem_toArray, List.getElem_cons_succ, List.getElem_cons_zero, List.setIfInBounds_toArray, List.set_cons_succ, List.set_cons_zero]
    cases t2 : takeN s ((0 + k1 : Nat) : Int) with
    | error e =>
      refine n_panic 5 (by kernel_rfl) rfl (by kernel_rfl) (f := 79) (args := #[.pointer (some ⟨g, 0, none⟩)]) (by kernel_rfl) _ _ (num_err bk1 hs t2) ?_
      exact ⟨rfl, x1, GotD.err (decR_nums (by rw [numsR_ok t1, numsR_err t2]; rfl)) rfl⟩
    | ok q =>
      obtain ⟨n2, k2⟩ := q
      have bk2 := tkA_tk bk1 (0 + k1 + k2)
      have x2 := tkA_but x1 mk (0 + k1 + k2)
      have b2 := b1.tk mg (0 + k1 + k2)
      refine n_call 5 (by kernel_rfl) rfl (by kernel_rfl) (f := 79) (args := #[.pointer (some ⟨g, 0, none⟩)]) (by kernel_rfl) _ _ (num_ok bk1 hs t2) (fun _ => tkA_but (But.refl _ _) mk _) ?_
      simp only [Act.put, List.getElem_toArray, List.getElem_cons_succ, List.getElem_cons_zero, List.setIfInBounds_toArray, List.set_cons_succ, List.set_cons_zero]
      cases t3 : takeN s ((0 + k1 + k2 : Nat) : Int) with
      | error e =>
        refine n_panic 8 (by kernel_rfl) rfl (by kernel_rfl) (f := 79) (args := #[.pointer (some ⟨g, 0, none⟩)]) (by kernel_rfl) _ _ (num_err bk2 hs t3) ?_
        exact ⟨rfl, x2, GotD.err (decR_nums (by rw [numsR_ok t1, numsR_ok t2, numsR_err t3]; rfl)) rfl⟩
      | ok q =>
        obtain ⟨n3, k3⟩ := q
        have bk3 := tkA_tk bk2 (0 + k1 + k2 + k3)
        have x3 := tkA_but x2 mk (0 + k1 + k2 + k3)
        have b3 := b2.tk mg (0 + k1 + k2 + k3)
        refine n_call 8 (by kernel_rfl) rfl (by kernel_rfl) (f := 79) (args := #[.pointer (some ⟨g, 0, none⟩)]) (by kernel_rfl) _ _ (num_ok bk2 hs t3) (fun _ => tkA_but (But.refl _ _) mk _) ?_
        simp only [Act.put, List.getElem_toArray, List.getElem_cons_succ, List.getElem_cons_zero, List.setIfInBounds_toArray, List.set_cons_succ, List.set_cons_zero]
        cases t4 : takeN s ((0 + k1 + k2 + k3 : Nat) : Int) with
        | error e =>
          refine n_panic 11 (by kernel_rfl) rfl (by kernel_rfl) (f := 79) (args := #[.pointer (some ⟨g, 0, none⟩)]) (by kernel_rfl) _ _ (num_err bk3 hs t4) ?_
          exact ⟨rfl, x3, GotD.err (decR_nums (by rw [numsR_ok t1, numsR_ok t2, numsR_ok t3, numsR_err t4]; rfl)) rfl⟩
        | ok q =>
          obtain ⟨n4, k4⟩ := q
          have bk4 := tkA_tk bk3 (0 + k1 + k2 + k3 + k4)
          have x4 := tkA_but x3 mk (0 + k1 + k2 + k3 + k4)
          have b4 := b3.tk mg (0 + k1 + k2 + k3 + k4)
          refine n_call 11 (by kernel_rfl) rfl (by kernel_rfl) (f := 79) (args := #[.pointer (some ⟨g, 0, none⟩)]) (by kernel_rfl) _ _ (num_ok bk3 hs t4) (fun _ => tkA_but (But.refl _ _) mk _) ?_
          simp only [Act.put, List.getElem_toArray, List.getElem_cons_succ, List.getElem_cons_zero, List.setIfInBounds_toArray, List.set_cons_succ, List.set_cons_zero]
          generalize hW : (tkA (tkA (tkA (tkA w.drew g (0 + k1)) g (0 + k1 + k2)) g (0 + k1 + k2 + k3)) g (0 + k1 + k2 + k3 + k4)) = W4 at *
          clear hW
          refine n_val 12 (by kernel_rfl) rfl (by kernel_rfl) (.agg #[.int .i64 (n1 : Int), .int .i64 (n2 : Int), .int .i64 (n3 : Int), .int .i64 (n4 : Int), .slice none 0 0]) W4 (by kernel_rfl) (fun _ => But.refl _ _) ?_
          simp only [Act.put, List.getElem_toArray, List.getElem_cons_succ, List.getElem_cons_zero, List.setIfInBounds_toArray, List.set_cons_succ, List.set_cons_zero]
          refine n_skip 13 (by kernel_rfl) rfl (by kernel_rfl) (W4.setRow gm #[.int .i64 (n1 : Int), .int .i64 (n2 : Int), .int .i64 (n3 : Int), .int .i64 (n4 : Int), .slice none 0 0]) (exec_store_blk 39 (.tmp 1) (.tmp 16) rfl rfl rfl b4 rfl MS.out (by kernel_rfl)) (fun _ => (But.refl _ _).setRow mm _) ?_
          refine n_done (by kernel_rfl) ?_
          simp only [Act.put, List.getElem_toArray, List.getElem_cons_succ, List.getElem_cons_zero, List.setIfInBounds_toArray, List.set_cons_succ, List.set_cons_zero]
          have y5 := x4.setRow mm #[.int .i64 (n1 : Int), .int .i64 (n2 : Int), .int .i64 (n3 : Int), .int .i64 (n4 : Int), .slice none 0 0]
          have c5 := b4.setRow #[.int .i64 (n1 : Int), .int .i64 (n2 : Int), .int .i64 (n3 : Int), .int .i64 (n4 : Int), .slice none 0 0]
          have bk5 : TK (W4.setRow gm #[.int .i64 (n1 : Int), .int .i64 (n2 : Int), .int .i64 (n3 : Int), .int .i64 (n4 : Int), .slice none 0 0]) g s ((0 + k1 + k2 + k3 + k4 : Nat) : Int) := Blk.setRow_far bk4 mg.symm _
          generalize W4.setRow gm #[.int .i64 (n1 : Int), .int .i64 (n2 : Int), .int .i64 (n3 : Int), .int .i64 (n4 : Int), .slice none 0 0] = w5 at *
          have T1 := Lib.hid t1
          have T2 := Lib.hid t2
          have T3 := Lib.hid t3
          have T4 := Lib.hid t4
          generalize ha : 0 + k1 + k2 + k3 + k4 = a4 at *
          have HA := Lib.hid ha
          clear ha t1 t2 t3 t4 ld x0 x1 x2 x3 x4 b0 b1 b2 b3 b4 bk0 bk1 bk2 bk3 bk4
          have Y5 := Lib.hid y5
          have M5 := Lib.hid c5
          have K5 := Lib.hid bk5
          clear y5 c5 bk5

          go_wp2
          refine wp_region_n (But [g, gm]) 8 rfl (by kernel_rfl) ?_
          have bt5 := Lib.hid (bt.but Y5.out HT.out)
          have ld : ∀ w', But [g, gm] w5.drew w' → w'.cell? ⟨gt, 0, none⟩ = some (.pointer (some ⟨g, 0, none⟩)) := fun w' x => (bt5.out.drew.but x HT.out).cell 0
          refine n_want (But.pre _) (by kernel_rfl) (by kernel_rfl) (by kernel_rfl) (fun _ _ _ _ h => h) (by kernel_rfl) (.pointer (some ⟨gt, 0, none⟩)) (fun w' x => (by go_simp)) ?_
          refine n_want (But.pre _) (by kernel_rfl) (by kernel_rfl) (by kernel_rfl) (fun _ _ _ _ h => h) (by kernel_rfl) (.pointer (some ⟨g, 0, none⟩)) (fun w' x => (by have c := ld w' x; go_simp)) ?_
          refine n_late ?_
          refine n_want (But.pre _) (by kernel_rfl) (by kernel_rfl) (by kernel_rfl) (fun _ _ _ _ h => h) (by kernel_rfl) (.pointer (some ⟨gt, 0, none⟩)) (fun w' x => (by go_simp)) ?_
          refine n_want (But.pre _) (by kernel_rfl) (by kernel_rfl) (by kernel_rfl) (fun _ _ _ _ h => h) (by kernel_rfl) (.pointer (some ⟨g, 0, none⟩)) (fun w' x => (by have c := ld w' x; go_simp)) ?_
          refine n_rest ?_
          simp only [Act.put, List.getElem_toArray, List.getElem_cons_succ, List.getElem_cons_zero, List.setIfInBounds_toArray, List.set_cons_succ, List.set_cons_zero]
          have bk6 : TK w5.drew g s (a4 : Int) := K5.out
          have x6 : But [g, gm] w w5.drew := Y5.out.drew
          refine n_call 2 (by kernel_rfl) rfl (by kernel_rfl) (f := 80) (args := #[.pointer (some ⟨g, 0, none⟩)]) (by kernel_rfl) _ _ ((tat_any g s (a4 : Int) _ bk6).mono fun r z ⟨h1, h2⟩ => ⟨h1, h2.symm⟩) (fun _ => But.refl _ _) ?_
          simp only [Act.put, List.getElem_toArray, List.getElem_cons_succ, List.getElem_cons_zero, List.setIfInBounds_toArray, List.set_cons_succ, List.set_cons_zero]
          cases t5 : takeN s (a4 : Int) with
          | error e =>
            refine n_panic 5 (by kernel_rfl) rfl (by kernel_rfl) (f := 79) (args := #[.pointer (some ⟨g, 0, none⟩)]) (by kernel_rfl) _ _ (num_err bk6 hs t5) ?_
            exact ⟨rfl, x6, GotD.err (decR_nums (by rw [numsR_ok T1.out, numsR_ok T2.out, numsR_ok T3.out, numsR_ok T4.out, HA.out, numsR_err t5]; rfl)) rfl⟩
          | ok q =>
            obtain ⟨n5, k5⟩ := q
            have bk7 := tkA_tk bk6 (a4 + k5)
            have x7 := tkA_but x6 mk (a4 + k5)
            have b7 := M5.out.drew.tk mg (a4 + k5)
            refine n_call 5 (by kernel_rfl) rfl (by kernel_rfl) (f := 79) (args := #[.pointer (some ⟨g, 0, none⟩)]) (by kernel_rfl) _ _ (num_ok bk6 hs t5) (fun _ => tkA_but (But.refl _ _) mk _) ?_
            simp only [Act.put, List.getElem_toArray, List.getElem_cons_succ, List.getElem_cons_zero, List.setIfInBounds_toArray, List.set_cons_succ, List.set_cons_zero]
            generalize tkA w5.drew g (a4 + k5) = w7 at *
            refine n_val 6 (by kernel_rfl) rfl (by kernel_rfl) (.int .i64 (a4 : Int)) w7 (by kernel_rfl) (fun _ => But.refl _ _) ?_
            simp only [Act.put, List.getElem_toArray, List.getElem_cons_succ, List.getElem_cons_zero, List.setIfInBounds_toArray, List.set_cons_succ, List.set_cons_zero]
            refine n_val 7 (by kernel_rfl) rfl (by kernel_rfl) (.int .i64 (n5 : Int)) w7 (by kernel_rfl) (fun _ => But.refl _ _) ?_
            simp only [Act.put, List.getElem_toArray, List.getElem_cons_succ, List.getElem_cons_zero, List.setIfInBounds_toArray, List.set_cons_succ, List.set_cons_zero]
            refine n_done (by kernel_rfl) ?_
            have hto := takeN_ok t5
            generalize ha5 : a4 + k5 = a5 at *
            have HNUM := Lib.hid (show numsR s 5 0 = .ok ([n1, n2, n3, n4, n5], a5) by rw [numsR_ok T1.out, numsR_ok T2.out, numsR_ok T3.out, numsR_ok T4.out, HA.out, numsR_ok t5, ha5]; rfl)
            have K7 := Lib.hid bk7
            have X7 := Lib.hid x7
            have B7 := Lib.hid b7
            have hle : a5 ≤ s.length := by omega
            have HLE := Lib.hid hle
            clear t5 T1 T2 T3 T4 HA bk6 bk7 x6 x7 b7 ld bt5 Y5 M5 K5 hto ha5 hle
            by_cases hn : (n5 : Int) ≤ 100
            · have kn : ¬ (100 : Int) < (n5 : Int) := by omega
              have HN := Lib.hid hn
              clear hn
              go_wp2
              go_loopw [29] (fun i wr => ∃ (k b : Nat) (es : List E9) (v : Value), i = .int .i64 (k : Int) ∧ k ≤ n5 ∧ b ≤ s.length ∧ TK wr g s (b : Int) ∧ Blk wr gm 39 #[.int .i64 (n1 : Int), .int .i64 (n2 : Int), .int .i64 (n3 : Int), .int .i64 (n4 : Int), v] ∧ WR entC 9 wr w.heap.size 73 v es ∧ es.length = k ∧ entsR s n5 a5 = prepEs es (entsR s (n5 - k) b) ∧ But [g, gm] w wr) (fun i _ => n5 - (intOf i).toNat)
              case atStart => exact ⟨0, a5, [], .slice none 0 0, rfl, Nat.zero_le _, HLE.out, K7.out, B7.out, WR.nil _ _ _, rfl, by rw [prepEs_nil]; rfl, X7.out⟩
              case round =>
                obtain ⟨k, b, es, v, rfl, hk, hb, hk1, hb1, hw1, hlen, hrec, hx⟩ := hrel
                clear K7 B7 X7
                have hn100 := HN.out
                by_cases hlt : k < n5
                · have hI : (k : Int) < (n5 : Int) := by omega
                  have hgm : gm ∉ [g] := by simpa using mg
                  have hgt : gt ∉ [g] := by simpa using tg
                  have lm1 : ∀ w', But [g] wr.drew w' → w'.cell? ⟨gm, 4, none⟩ = some v := fun w' x => (hb1.drew.but x hgm).cell 4
                  have lt1 : ∀ w', But [g] wr.drew w' → Blk w' gt 134 #[.pointer (some ⟨g, 0, none⟩)] := fun w' x => ((bt.but hx HT.out).drew.but x hgt)
                  go_wp2_with fail
                  refine wp_region_n (But [g]) 8 rfl (by kernel_rfl) ?_
                  refine n_want (But.pre _) (by kernel_rfl) (by kernel_rfl) (by kernel_rfl) (fun _ _ _ _ h => h) (by kernel_rfl) (.pointer (some ⟨gm, 4, none⟩)) (fun w' x => (by go_simp)) ?_
                  refine n_want (But.pre _) (by kernel_rfl) (by kernel_rfl) (by kernel_rfl) (fun _ _ _ _ h => h) (by kernel_rfl) v (fun w' x => (by have c := lm1 w' x; go_simp)) ?_
                  refine n_want (But.pre _) (by kernel_rfl) (by kernel_rfl) (by kernel_rfl) (fun _ _ _ _ h => h) (by kernel_rfl) (.agg #[.pointer (some ⟨g, 0, none⟩)]) (fun w' x => exec_load_blk 134 (.tmp 0) rfl rfl (lt1 w' x) Tryz.underlying134 rfl tkr_size) ?_
                  refine n_rest ?_
                  simp only [Act.put, List.getElem_toArray, List.getElem_cons_succ, List.getElem_cons_zero, List.setIfInBounds_toArray, List.set_cons_succ, List.set_cons_zero]
                  have hk2 : TK wr.drew g s (b : Int) := hk1
                  refine n_callR 3 (by kernel_rfl) rfl (by kernel_rfl) (f := 81) (args := #[.agg #[.pointer (some ⟨g, 0, none⟩)]]) (by kernel_rfl) (entry_any s b g wr.drew hs hk2) (fun r w' hR => ?_)
                  obtain ⟨hbut, hge⟩ := hR
                  unfold GotE at hge
                  have hbut2 : But [g, gm] wr.drew w' := hbut.mono (fun i hi => by simp at hi; simp [hi])
                  have x2 : But [g, gm] w w' := (hx.drew).trans hbut2
                  cases hx9 : nineL s 9 0 b with
                  | error e =>
                    rw [hx9] at hge
                    obtain ⟨at_, rfl⟩ := hge
                    exact .inr ⟨_, rfl, rfl, x2, GotD.err (decR_err HNUM.out hn100 (entsR_stop hlt hrec hx9)) rfl⟩
                  | ok q =>
                    obtain ⟨ls, t⟩ := q
                    rw [hx9] at hge
                    obtain ⟨rfl, hk3⟩ := hge
                    refine .inl ⟨_, rfl, fun _ => hbut, ?_⟩
                    simp only [Act.put, List.getElem_toArray, List.getElem_cons_succ, List.getElem_cons_zero, List.setIfInBounds_toArray, List.set_cons_succ, List.set_cons_zero]
                    have hle := nineL_le hb hx9
                    have HREC := Lib.hid (entsR_step hlt hrec hx9)
                    have hb2 := hb1.drew.but hbut hgm
                    have hw2 := WR.but1 hw1.drew hbut lg.out
                    obtain ⟨v', W', p1, p2, p3, _⟩ := EW.app hw2 x2.size (mkE ls) (by omega)
                    obtain ⟨av, cv, rfl, hcv, hav⟩ := p2.shape entC_length
                    refine n_val 4 (by kernel_rfl) rfl (by kernel_rfl) (.slice (some ⟨w'.heap.size, 0, none⟩) 1 1) (w'.alloc (.cells (entC (mkE ls)).toArray 73)) (exec_bs1 _ (mkE ls) w' rfl rfl) (fun _ => But.of_ext ((Ext.refl _).alloc _)) ?_
                    simp only [Act.put, List.getElem_toArray, List.getElem_cons_succ, List.getElem_cons_zero, List.setIfInBounds_toArray, List.set_cons_succ, List.set_cons_zero]
                    refine n_val 5 (by kernel_rfl) rfl (by kernel_rfl) _ W' (exec_app (.tmp 32) (.tmp 35) 37 rfl rfl rfl rfl p1) (fun h => Bool.noConfusion (Eq.trans h.symm (by kernel_rfl : _ = true))) ?_
                    simp only [Act.put, List.getElem_toArray, List.getElem_cons_succ, List.getElem_cons_zero, List.setIfInBounds_toArray, List.set_cons_succ, List.set_cons_zero]
                    refine n_val 6 (by kernel_rfl) rfl (by kernel_rfl) (.pointer (some ⟨gm, 4, none⟩)) W' (by go_simp) (fun _ => But.refl _ _) ?_
                    simp only [Act.put, List.getElem_toArray, List.getElem_cons_succ, List.getElem_cons_zero, List.setIfInBounds_toArray, List.set_cons_succ, List.set_cons_zero]
                    have hb3 := hb2.beneath p3 lm.out
                    refine n_skip 7 (by kernel_rfl) rfl (by kernel_rfl) (W'.setCell ⟨gm, 4, none⟩ (.slice av (es ++ [mkE ls]).length cv)) (exec_store_at (.tmp 37) (.tmp 36) rfl rfl rfl hb3 rfl rfl rfl (by kernel_rfl)) (fun h => Bool.noConfusion (Eq.trans h.symm (by kernel_rfl : _ = true))) ?_
                    refine n_done (by kernel_rfl) ?_
                    simp only [Act.put, List.getElem_toArray, List.getElem_cons_succ, List.getElem_cons_zero, List.setIfInBounds_toArray, List.set_cons_succ, List.set_cons_zero]
                    have e1 := hb3.set_ 4 (.slice av (es ++ [mkE ls]).length cv)
                    have e2 : TK (W'.setCell ⟨gm, 4, none⟩ (.slice av (es ++ [mkE ls]).length cv)) g s (t : Int) := Blk.far (Blk.beneath hk3 p3 lg.out) (p := ⟨gm, 4, none⟩) mg.symm _
                    have e3 := ownsRow_setCell_below p2 (a := ⟨gm, 4, none⟩) lm.out (.slice av (es ++ [mkE ls]).length cv)
                    have e4 := (x2.beneath p3).set (p := ⟨gm, 4, none⟩) mm (.slice av (es ++ [mkE ls]).length cv)
                    simp only [List.setIfInBounds_toArray, List.set_cons_succ, List.set_cons_zero] at e1
                    have E1 := Lib.hid e1
                    have E2 := Lib.hid e2
                    have E3 := Lib.hid e3
                    have E4 := Lib.hid e4
                    have HT2 := Lib.hid hle.2.1
                    have HLT := Lib.hid hlt
                    have HLEN := Lib.hid hlen
                    generalize (.slice av (es ++ [mkE ls]).length cv : Value) = nv at *
                    generalize W'.setCell ⟨gm, 4, none⟩ nv = w8 at *
                    clear e1 e2 e3 e4 p1 p2 p3 hb2 hb3 hw2 hk3 x2 hbut hbut2 hle hcv hav hx9 hrec lm1 lt1 hlen hw1 hb1 hk1 hk2 hx
                    go_wp2
                    go_roundw
                    case rel => exact ⟨k + 1, t, es ++ [mkE ls], nv, by go_num, HLT.out, HT2.out, E2.out, E1.out, E3.out, by rw [List.length_append, HLEN.out]; rfl, HREC.out, E4.out⟩
                    case measure => simp [intOf]; have := HLT.out; omega
                · obtain rfl : k = n5 := by omega
                  have hI : ¬ (k : Int) < (k : Int) := by omega
                  rw [Nat.sub_self] at hrec
                  have hrec : entsR s k a5 = .ok (es, b) := by rw [hrec]; show Except.ok (es ++ [], b) = _; rw [List.append_nil]
                  have ct := (bt.but hx HT.out).cell 0
                  simp only [List.getElem?_toArray, List.getElem?_cons_zero] at ct
                  have E1 := Lib.hid hb1
                  have E3 := Lib.hid hw1
                  have E4 := Lib.hid hx
                  by_cases hend : b = s.length
                  · have QE := tend_ok g s b wr hk1 hend hs
                    have HD := Lib.hid (decR_ok HNUM.out hn100 hrec hend)
                    have QE := Lib.hid QE
                    clear hb1 hw1 hx hk1 hrec hlen hlt hend hn100
                    go_wp2_with fail
                    refine QE.out.mono ?_
                    rintro _ w9 ⟨rfl, rfl⟩
                    go_wp2
                    refine bodyPost_end (v := .tuple #[]) (by simp [results, Tryz.results78, go_sem]) rfl ⟨E4.out.drew, ?_⟩
                    exact GotD.ok HD.out rfl E1.out E3.out.drew
                  · have QE := tend_err g s b wr hk1 (by omega) hs
                    have HD := Lib.hid (decR_rest HNUM.out hn100 hrec hend)
                    have QE := Lib.hid QE
                    clear hb1 hw1 hx hk1 hrec hlen hlt hend hn100
                    go_wp2_with fail
                    refine QE.out.mono ?_
                    rintro _ w9 ⟨rfl, rfl⟩
                    exact ⟨rfl, E4.out.drew, GotD.err HD.out rfl⟩
            · have kn : (100 : Int) < (n5 : Int) := by omega
              have HD := Lib.hid (decR_big HNUM.out hn)
              clear hn
              go_wp2
              exact ⟨rfl, X7.out, GotD.err HD.out rfl⟩
end Go.Proofs.YtmjkfgpkohfmiaaGreat
namespace Go.Proofs.YtmjkfgpkohfmiaaGreat
set_option linter.unusedVariables false
set_option linter.unusedSimpArgs false
open Go.RowKit

def xE {α : Type} : Except Int α → Int
  | .ok _ => 0
  | .error e => e
def zM : Man := ⟨0, 0, 0, 0, []⟩
def xM : Except Int Man → Man
  | .ok m => m
  | .error _ => zM
def decM (s : List UInt8) : Except Int Man :=
  match decR s with
  | .error e => .error e
  | .ok m => if maniP m then .ok m else .error 250
theorem nineL_e {s : List UInt8} : ∀ {n i a : Nat} {e : Int}, nineL s n i a = .error e → 0 < e
  | 0, i, a, e, h => by cases h
  | n + 1, i, a, e, h => by
    cases ht : takeN s (a : Int) with
    | error e' => rw [nineL_err ht] at h; injection h with h; have := takeN_err ht; omega
    | ok q =>
      obtain ⟨x, k⟩ := q
      by_cases h3 : i = 3 ∧ 1 < x
      · obtain ⟨rfl, h3⟩ := h3
        rw [nineL_bad ht h3] at h; injection h with h; omega
      · rw [nineL_ok ht h3] at h
        cases hr : nineL s n (i + 1) (a + k) with
        | error e' => rw [hr] at h; injection h with h; subst h; exact nineL_e hr
        | ok q => rw [hr] at h; cases h
theorem entsR_e {s : List UInt8} : ∀ {n a : Nat} {e : Int}, entsR s n a = .error e → 0 < e
  | 0, a, e, h => by cases h
  | n + 1, a, e, h => by
    cases ht : nineL s 9 0 a with
    | error e' => rw [entsR_err ht] at h; injection h with h; subst h; exact nineL_e ht
    | ok q =>
      obtain ⟨x, k⟩ := q
      rw [entsR_ok ht] at h
      cases hr : entsR s n k with
      | error e' => rw [hr] at h; injection h with h; subst h; exact entsR_e hr
      | ok q => rw [hr] at h; cases h
theorem numsR_pos' {s : List UInt8} : ∀ {n a : Nat} {e : Int}, numsR s n a = .error e → 0 < e
  | 0, a, e, h => by cases h
  | n + 1, a, e, h => by
    cases ht : takeN s (a : Int) with
    | error e' => rw [numsR_err ht] at h; injection h with h; have := takeN_err ht; omega
    | ok q =>
      obtain ⟨x, k⟩ := q
      rw [numsR_ok ht] at h
      cases hr : numsR s n (a + k) with
      | error e' => rw [hr] at h; injection h with h; subst h; exact numsR_pos' hr
      | ok q => rw [hr] at h; cases h
theorem decR_e {s : List UInt8} {e : Int} (h : decR s = .error e) : 0 < e := by
  cases hn : numsR s 5 0 with
  | error e' => rw [decR_nums hn] at h; injection h with h; subst h; exact numsR_pos' hn
  | ok q =>
    obtain ⟨l, a⟩ := q
    by_cases hb : ((l.getD 4 0 : Nat) : Int) ≤ 100
    · cases he : entsR s (l.getD 4 0) a with
      | error e' => rw [decR_err hn hb he] at h; injection h with h; subst h; exact entsR_e he
      | ok q =>
        obtain ⟨es, b⟩ := q
        by_cases hl : b = s.length
        · rw [decR_ok hn hb he hl] at h; cases h
        · rw [decR_rest hn hb he hl] at h; injection h with h; omega
    · rw [decR_big hn hb] at h; injection h with h; omega
theorem callF_dec1 (xs : Array Value) (W : World) : (callFunc 78 xs).run Tryz.prog W = .ok (.enter 78 xs) W := by kernel_rfl
theorem man_zero (w : World) : (zeroValue 39).run Tryz.prog w = .ok (.agg #[.int .i64 0, .int .i64 0, .int .i64 0, .int .i64 0, .slice none 0 0]) w := by kernel_rfl
theorem man_build0 (w : World) : (Instr.build 39 #[]).run Tryz.prog w = .ok (.agg #[.int .i64 0, .int .i64 0, .int .i64 0, .int .i64 0, .slice none 0 0]) w := by kernel_rfl
theorem tkr_zero (w : World) : (zeroValue 134).run Tryz.prog w = .ok (.agg #[.pointer none]) w := by kernel_rfl
theorem tkr_build (p : Option Addr) (w : World) : (Instr.build 134 #[(0, .pointer p)]).run Tryz.prog w = .ok (.agg #[.pointer p]) w := by kernel_rfl

/-- Decode's closure, caught -/
theorem dec_caught (s : List UInt8) (gm gt g : Nat) (W : World) (hs : (s.length : Int) ≤ 1000000000) (h0 h1 h2 h3 h4 : Value)
    (bm : Blk W gm 39 #[h0, h1, h2, h3, h4]) (bt : Blk W gt 134 #[.pointer (some ⟨g, 0, none⟩)]) (bk : TK W g s 0) (mg : gm ≠ g) (tg : gt ≠ g) (tm : gt ≠ gm) :
    Calls Tryz.prog 83 #[.func (.func 78) #[] #[.pointer (some ⟨gt, 0, none⟩), .pointer (some ⟨gm, 0, none⟩)]] W fun e w' =>
      (∃ a : Int, e = .returned (.tuple #[.int .i64 (xE (decR s)), .int .i64 a])) ∧ But [g, gm] W w' ∧ ∀ m, decR s = .ok m → ∃ v, Blk w' gm 39 (manC m v) ∧ WR entC 9 w' (W.heap.size + 1 + 1) 73 v m.ents := by
  have lk := bk.lt
  have lh := bm.lt
  have q := dec1_any s gm gt g ((W.alloc (.cells #[.int .i64 0] 33)).alloc (.cells #[.int .i64 0] 3)) hs h0 h1 h2 h3 h4 ((bm.alloc _).alloc _) ((bt.alloc _).alloc _) (Blk.alloc (Blk.alloc bk _) _) mg tg tm
  have e1 : Blk ((W.alloc (.cells #[.int .i64 0] 33)).alloc (.cells #[.int .i64 0] 3)) W.heap.size 33 #[.int .i64 0] := (Blk.new W _ _).alloc _
  have e2 := Blk.new (W.alloc (.cells #[.int .i64 0] 33)) 3 #[.int .i64 0]
  rw [World.size_alloc] at e2
  have x7 : Ext W ((W.alloc (.cells #[.int .i64 0] 33)).alloc (.cells #[.int .i64 0] 3)) := ((Ext.refl W).alloc _).alloc _
  have n1 : W.heap.size ∉ [g, gm] := by simp; omega
  have n2 : W.heap.size + 1 ∉ [g, gm] := by simp; omega
  cases hn : decR s with
  | error e =>
    refine (caught_err _ _ W (But [g, gm] W) e callF_dec1 (q.mono fun r w' ⟨hb, hg⟩ => ?_)).mono fun r w' ⟨ha, w2, hb, hl⟩ => ?_
    · unfold GotD at hg
      rw [hn] at hg
      obtain ⟨a, rfl⟩ := hg
      exact ⟨⟨a, rfl⟩, (But.of_ext x7).trans hb, e1.but hb n1, e2.but hb n2⟩
    · exact ⟨ha, hb.beneath hl, fun h hh => by cases hh⟩
  | ok m =>
    refine (caught_ok _ _ W (fun w' => But [g, gm] W w' ∧ ∃ v, Blk w' gm 39 (manC m v) ∧ WR entC 9 w' (W.heap.size + 1 + 1) 73 v m.ents) callF_dec1 (q.mono fun r w' ⟨hb, hg⟩ => ?_)).mono fun r w' ⟨he, w2, ⟨hb, v, hd, hw⟩, hl, hw'⟩ => ?_
    · unfold GotD at hg
      rw [hn] at hg
      obtain ⟨hr, v, hb2, hw2⟩ := hg
      rw [World.size_alloc, World.size_alloc] at hw2
      exact ⟨hr, ⟨(But.of_ext x7).trans hb, v, hb2, hw2⟩, e1.but hb n1, e2.but hb n2⟩
    · refine ⟨⟨_, he⟩, hb.beneath hl, fun h hh => ?_⟩
      injection hh with hh
      subst hh
      refine ⟨v, hd.beneath hl lh, ?_⟩
      rw [hw']
      have w3 : WR entC 9 ((w2.setCell ⟨W.heap.size, 0, none⟩ (.int .i64 0)).setCell ⟨W.heap.size + 1, 0, none⟩ (.int .i64 0)) (W.heap.size + 1 + 1) 73 v m.ents :=
        ownsRow_setCell_below (a := ⟨W.heap.size + 1, 0, none⟩) (ownsRow_setCell_below (a := ⟨W.heap.size, 0, none⟩) hw (show W.heap.size < W.heap.size + 1 + 1 by omega) _) (show W.heap.size + 1 < W.heap.size + 1 + 1 by omega) _
      exact w3
attribute [local go_sem] S_size S_toList man_zero man_build0 tkr_zero tkr_build

set_option maxRecDepth 20000 in
set_option maxHeartbeats 4000000 in
theorem mDecode_any (s : List UInt8) (w : World) (hs : (s.length : Int) ≤ 1000000000) :
    Calls Tryz.prog 46 #[.string (S s)] w fun r w' => ∃ u, r = .returned (.tuple #[.agg (manC (xM (decM s)) u), .int .i64 (xE (decM s))]) ∧ Ext w w' ∧ RR entC 9 w' u (xM (decM s)).ents ∧ ∀ k, u.ownBlock = some k → w.heap.size ≤ k := by
  have hmf : ∀ (fn : Fn) (first cap : Array Value) (w : World), (Instr.makeFunc fn first cap).run Tryz.prog w = .ok (.func fn first cap) w := fun _ _ _ _ => rfl
  have TN := Lib.hid (fun w => tnew_any s w)
  have TS := Lib.hid tkr_size
  have MS := Lib.hid man_size
  have bz := Lib.hid (Blk.new w 39 #[.int .i64 0, .int .i64 0, .int .i64 0, .int .i64 0, .slice none 0 0])
  have X0 := Lib.hid ((Ext.refl w).alloc (.cells #[.int .i64 0, .int .i64 0, .int .i64 0, .int .i64 0, .slice none 0 0] 39))
  go_enter Tryz.func46, Tryz.ntmps46
  go_wp2_with fail
  refine (TN.out _).mono ?_
  rintro _ w1 ⟨rfl, bk, x1⟩
  rw [World.size_alloc] at bk ⊢
  have Z1 := Lib.hid (bz.out.ext x1)
  have X1 := Lib.hid (X0.out.trans x1)
  have lk := bk.lt
  have lw := X1.out.size
  -- the taker's struct, the manifest
  have y3 : Ext w1 ((w1.alloc (.cells #[.pointer (some ⟨w.heap.size + 1, 0, none⟩)] 134)).alloc (.cells #[.int .i64 0, .int .i64 0, .int .i64 0, .int .i64 0, .slice none 0 0] 39)) := ((Ext.refl w1).alloc _).alloc _
  have bt := (Blk.new w1 134 #[.pointer (some ⟨w.heap.size + 1, 0, none⟩)]).alloc (.cells #[.int .i64 0, .int .i64 0, .int .i64 0, .int .i64 0, .slice none 0 0] 39)
  have bm := Blk.new (w1.alloc (.cells #[.pointer (some ⟨w.heap.size + 1, 0, none⟩)] 134)) 39 #[.int .i64 0, .int .i64 0, .int .i64 0, .int .i64 0, .slice none 0 0]
  rw [World.size_alloc] at bm
  have Z2 := Lib.hid (Z1.out.ext y3)
  have X2 := Lib.hid (X1.out.trans y3)
  have BM := Lib.hid bm
  have BT := Lib.hid bt
  have BK := Lib.hid (bk.ext y3)
  have LK := Lib.hid lk
  have LW := Lib.hid lw
  clear bm bt bk y3 x1 lk lw Z1 bz X0
  go_wp2_with (refine wpList_store_new rfl 134 (.tmp 4) (.tmp 12) rfl rfl rfl rfl TS.out (by kernel_rfl) ?_; refine Held.go ?_)
  refine ⟨?_⟩
  go_wp2_with fail
  generalize (w1.alloc (.cells #[.pointer (some ⟨w.heap.size + 1, 0, none⟩)] 134)).alloc (.cells #[.int .i64 0, .int .i64 0, .int .i64 0, .int .i64 0, .slice none 0 0] 39) = W at *
  have lk' := LK.out
  have lw' := LW.out
  refine (dec_caught s (w1.heap.size + 1) w1.heap.size (w.heap.size + 1) W hs _ _ _ _ _ BM.out BT.out BK.out (by omega) (by omega) (by omega)).mono ?_
  rintro _ w3 ⟨⟨at_, rfl⟩, hb, hh⟩
  have Z3 := Lib.hid (Z2.out.but hb (by simp; omega))
  have X3 := Lib.hid (Ext.but X2.out hb (by simp; omega))
  have LWW := Lib.hid (show w.heap.size ≤ W.heap.size from X2.out.le)
  clear hb BK BT BM lk' lw' LK LW
  cases hc : decR s with
  | error e =>
    have he := decR_e hc
    have hne : (e != 0) = true := bne_iff_ne.2 (by omega)
    have HG := Lib.hid (show decM s = .error e by unfold decM; rw [hc])
    clear hc hh he
    simp only [xE]
    go_wp2_with (refine wpList_store_blk rfl 39 (.tmp 2) (.tmp 21) rfl rfl rfl Z3.out rfl MS.out (by kernel_rfl) ?_)
    refine bodyPost_ret (results_row_tmp rfl _ _ w.heap.size _ _ (0, 0) _ rfl (Z3.out.setRow #[.int .i64 0, .int .i64 0, .int .i64 0, .int .i64 0, .slice none 0 0]) Tryz.underlying39 rfl MS.out) rfl ⟨.slice none 0 0, by rw [HG.out]; rfl, X3.out.setRow (Nat.le_refl _) _, by rw [HG.out]; exact RR.nil _, fun k hk => by cases hk⟩
  | ok m =>
    obtain ⟨v, bv, rv⟩ := hh m hc
    have QC := Lib.hid (mCheck_any m v w3 (WR.rr entC_length rv))
    have hsh := rv.shape entC_length
    have RV := Lib.hid rv
    have BV := Lib.hid bv
    clear hh bv rv
    have MS' := Lib.hid (show (Tryz.prog.info? 39).map (·.size) = some (manC m v).size from man_size)
    cases hp : maniP m with
    | false =>
      have HG := Lib.hid (show decM s = .error 250 by unfold decM; rw [hc]; show (if maniP m then _ else _) = _; rw [hp]; rfl)
      rw [hp] at QC
      simp only [xE, errI, Bool.false_eq_true, if_false] at QC ⊢
      clear hc hp hsh
      generalize manC m v = mc at *
      go_wp2_with (refine wpList_load_blk rfl 39 (.tmp 5) rfl rfl BV.out Tryz.underlying39 rfl MS'.out ?_; refine Held.go ?_)
      refine ⟨?_⟩
      go_wp2_with fail
      refine QC.out.mono ?_
      rintro _ w4 ⟨rfl, x4⟩
      have Z4 := Lib.hid (Z3.out.ext x4)
      have X4 := Lib.hid (X3.out.trans x4)
      clear x4
      go_wp2_with (refine wpList_store_blk rfl 39 (.tmp 2) (.tmp 27) rfl rfl rfl Z4.out rfl MS.out (by kernel_rfl) ?_)
      refine bodyPost_ret (results_row_tmp rfl _ _ w.heap.size _ _ (0, 0) _ rfl (Z4.out.setRow #[.int .i64 0, .int .i64 0, .int .i64 0, .int .i64 0, .slice none 0 0]) Tryz.underlying39 rfl MS.out) rfl ⟨.slice none 0 0, by rw [HG.out]; rfl, X4.out.setRow (Nat.le_refl _) _, by rw [HG.out]; exact RR.nil _, fun k hk => by cases hk⟩
    | true =>
      have HG := Lib.hid (show decM s = .ok m by unfold decM; rw [hc]; show (if maniP m then _ else _) = _; rw [hp]; rfl)
      rw [hp] at QC
      simp only [xE, errI, if_true] at QC ⊢
      have ON := Lib.hid (show (manC m v).all (·.oneCell') = true by obtain ⟨_, _, rfl, _, _⟩ := hsh; simp [manC, Value.oneCell'])
      have SZ := Lib.hid (show (#[.int .i64 0, .int .i64 0, .int .i64 0, .int .i64 0, .slice none 0 0] : Array Value).size = (manC m v).size from rfl)
      clear hc hp
      generalize hmc : manC m v = mc at *
      have HMC := Lib.hid hmc
      clear hmc hsh
      go_wp2_with (refine wpList_load_blk rfl 39 (.tmp 5) rfl rfl BV.out Tryz.underlying39 rfl MS'.out ?_; refine Held.go ?_)
      refine ⟨?_⟩
      go_wp2_with fail
      refine QC.out.mono ?_
      rintro _ w4 ⟨rfl, x4⟩
      have Z4 := Lib.hid (Z3.out.ext x4)
      have X4 := Lib.hid (X3.out.trans x4)
      have V4 := Lib.hid (BV.out.ext x4)
      have R4 := Lib.hid (RV.out.ext x4)
      clear x4
      go_wp2_with (refine wpList_load_blk rfl 39 (.tmp 5) rfl rfl V4.out Tryz.underlying39 rfl MS'.out ?_; refine Held.go ?_)
      refine ⟨?_⟩
      go_wp2_with (refine wpList_store_blk rfl 39 (.tmp 2) (.tmp 29) rfl rfl rfl Z4.out SZ.out MS'.out ON.out ?_)
      refine bodyPost_ret (results_row_tmp rfl _ _ w.heap.size _ _ (0, 0) _ rfl (Z4.out.setRow mc) Tryz.underlying39 rfl MS'.out) rfl ⟨v, by rw [HG.out]; show _ = Ending.returned (.tuple #[.agg (manC m v), .int .i64 0]); rw [HMC.out]; rfl, X4.out.setRow (Nat.le_refl _) _, ?_, fun k hk => by have := (World.ownsRow.lt R4.out k hk).1; have := LWW.out; omega⟩
      rw [HG.out]
      exact WR.rr entC_length (World.ownsRow.kept R4.out (grownBy_setRow _ _ _) (by
        cases hv : v.ownBlock with
        | none => exact .inl rfl
        | some k => exact .inr (by have := (World.ownsRow.lt R4.out k hv).1; have := LWW.out; simp; omega)))
end Go.Proofs.YtmjkfgpkohfmiaaGreat
namespace Go.Proofs.YtmjkfgpkohfmiaaGreat
set_option linter.unusedVariables false
set_option linter.unusedSimpArgs false
open Go.RowKit

attribute [local go_sem] S_size S_toList

end Go.Proofs.YtmjkfgpkohfmiaaGreat
namespace Go.Proofs.YtmjkfgpkohfmiaaGreat
set_option linter.unusedVariables false
set_option linter.unusedSimpArgs false
open Go.RowKit

theorem ent_zero9'' (w : World) : (zeroValue 73).run Tryz.prog w = .ok (.agg #[.int .i64 0, .int .i64 0, .int .i64 0, .bool false, .int .i64 0, .int .i64 0, .int .i64 0, .int .i64 0, .int .i64 0]) w := by kernel_rfl
theorem ent_build7 (a b c : Int) (d : Bool) (e f g h i : Int) (w : World) : (Instr.build 73 #[(0, .agg #[.int .i64 a, .int .i64 b, .int .i64 c]), (1, .bool d), (2, .int .i64 e), (3, .int .i64 f), (4, .int .i64 g), (5, .int .i64 h), (6, .int .i64 i)]).run Tryz.prog w = .ok (.agg #[.int .i64 a, .int .i64 b, .int .i64 c, .bool d, .int .i64 e, .int .i64 f, .int .i64 g, .int .i64 h, .int .i64 i]) w := by kernel_rfl
theorem hd_build3' (a b c : Int) (w : World) : (Instr.build 71 #[(0, .int .i64 a), (1, .int .i64 b), (2, .int .i64 c)]).run Tryz.prog w = .ok (.agg #[.int .i64 a, .int .i64 b, .int .i64 c]) w := by kernel_rfl
attribute [local go_sem] S_size S_toList man_zero man_build0 man_build4 ent_zero9'' ent_build7 hd_build3'

end Go.Proofs.YtmjkfgpkohfmiaaGreat
