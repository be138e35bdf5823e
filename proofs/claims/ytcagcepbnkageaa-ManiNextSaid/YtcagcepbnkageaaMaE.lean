/- mani: a taker's flag, an entry. (Printed by wip/tools/mae.py.) -/
import Derived.Test.YtcagcepbnkageaaMgK
import Derived.Test.YtcagcepbnkageaaMgM
namespace Go.Proofs.Ytcagcepbnkageaa
set_option linter.unusedVariables false
set_option linter.unusedSimpArgs false
open Go.RowKit

/-- so many numbers of an entry, from the i-th on; the one of number 3 is a bool -/
def nineL (s : List UInt8) : Nat → Nat → Nat → Except Int (List Nat × Nat)
  | 0, _, a => .ok ([], a)
  | n + 1, i, a => match takeN s (a : Int) with
    | .ok (x, k) => if i = 3 ∧ 1 < x then .error 250 else prepR [x] (nineL s n (i + 1) (a + k))
    | .error e => .error e
theorem nineL_ok {s : List UInt8} {n i a x k : Nat} (h : takeN s (a : Int) = .ok (x, k)) (h3 : ¬ (i = 3 ∧ 1 < x)) : nineL s (n + 1) i a = prepR [x] (nineL s n (i + 1) (a + k)) := by
  show (match takeN s (a : Int) with | .ok (x, k) => (if i = 3 ∧ 1 < x then .error 250 else prepR [x] (nineL s n (i + 1) (a + k)) : Except Int (List Nat × Nat)) | .error e => .error e) = _
  rw [h]
  show (if i = 3 ∧ 1 < x then _ else _) = _
  rw [if_neg h3]
theorem nineL_bad {s : List UInt8} {n a x k : Nat} (h : takeN s (a : Int) = .ok (x, k)) (h3 : 1 < x) : nineL s (n + 1) 3 a = .error 250 := by
  show (match takeN s (a : Int) with | .ok (x, k) => (if 3 = 3 ∧ 1 < x then .error 250 else prepR [x] (nineL s n (3 + 1) (a + k)) : Except Int (List Nat × Nat)) | .error e => .error e) = _
  rw [h]
  show (if 3 = 3 ∧ 1 < x then _ else _) = _
  rw [if_pos ⟨rfl, h3⟩]
theorem nineL_err {s : List UInt8} {n i a : Nat} {e : Int} (h : takeN s (a : Int) = .error e) : nineL s (n + 1) i a = .error e := by
  show (match takeN s (a : Int) with | .ok (x, k) => (if i = 3 ∧ 1 < x then .error 250 else prepR [x] (nineL s n (i + 1) (a + k)) : Except Int (List Nat × Nat)) | .error e => .error e) = _
  rw [h]
/-- an entry out of nine numbers -/
def mkE (l : List Nat) : E9 := ⟨(l.getD 0 0 : Nat), (l.getD 1 0 : Nat), (l.getD 2 0 : Nat), decide ((l.getD 3 0) = 1), (l.getD 4 0 : Nat), (l.getD 5 0 : Nat), (l.getD 6 0 : Nat), (l.getD 7 0 : Nat), (l.getD 8 0 : Nat)⟩
theorem But.new {K : List Nat} {a b : World} (h : But K a b) {p : Addr} (hp : a.heap.size ≤ p.block) (u : Value) : But K a (b.setCell p u) :=
  have hb : Below a.heap.size b (b.setCell p u) := Below.setCell (Below.refl _ b) hp u
  ⟨hb.os.trans h.os, hb.tape.trans h.tape, hb.output.trans h.output, Nat.le_trans h.size hb.size, fun k h1 h2 => (hb.block k h1).trans (h.block k h1 h2)⟩
theorem But.newRow {K : List Nat} {a b : World} (h : But K a b) {g : Nat} (hg : a.heap.size ≤ g) (cs : Array Value) : But K a (b.setRow g cs) :=
  ⟨h.os, h.tape, h.output, by simpa using h.size, fun k h1 h2 => (setRow_other b g k cs (by omega)).trans (h.block k h1 h2)⟩
theorem tkr_size : (Try.prog.info? 66).map (·.size) = some 1 := by kernel_rfl
theorem Blk.tk {w : World} {g k : Nat} {t : TypeId} {cs : Array Value} (h : Blk w k t cs) (hk : k ≠ g) (a : Nat) : Blk (tkA w g a) k t cs := h.far (p := ⟨g, 1, none⟩) hk _
attribute [local go_sem] ent_build ent_zero9

/-- what flag does -/
def GotFl (s : List UInt8) (a g : Nat) (r : Ending) (w' : World) : Prop :=
  match takeN s (a : Int) with
  | .error e => ∃ a, r = faultE e a
  | .ok (x, k) => if 1 < x then ∃ a, r = faultE 250 a else r = .returned (.bool (decide (x = 1))) ∧ TK w' g s ((a + k : Nat) : Int)
set_option maxRecDepth 20000 in
set_option maxHeartbeats 4000000 in
theorem flag_any (s : List UInt8) (a g : Nat) (w : World) (hs : (s.length : Int) ≤ 1000000000) (bk : TK w g s (a : Int)) :
    Calls Try.prog 49 #[.agg #[.pointer (some ⟨g, 0, none⟩)]] w fun r w' => But [g] w w' ∧ GotFl s a g r w' := by
  have mk : g ∈ [g] := List.mem_cons_self
  have lk := bk.lt
  have bb := Blk.new w 66 #[.pointer (some ⟨g, 0, none⟩)]
  have x0 : But [g] w (w.alloc (.cells #[.pointer (some ⟨g, 0, none⟩)] 66)) := (But.refl _ _).alloc _
  have bk0 : TK (w.alloc (.cells #[.pointer (some ⟨g, 0, none⟩)] 66)) g s (a : Int) := bk.ext ((Ext.refl w).alloc _)
  have c0 := bb.cell 0
  simp at c0
  have QA := Lib.hid (tat_any g s (a : Int) _ bk0)
  have BB := Lib.hid bb
  have BK := Lib.hid bk0
  have X0 := Lib.hid x0
  clear bb bk0 x0
  go_enter Try.func49, Try.ntmps49
  go_wp2_with fail
  refine QA.out.mono ?_
  rintro _ w1 ⟨rfl, rfl⟩
  clear c0
  generalize w.alloc (.cells #[.pointer (some ⟨g, 0, none⟩)] 66) = w1 at *
  have c0 := BB.out.cell 0
  simp at c0
  go_wp2_with fail
  cases t1 : takeN s (a : Int) with
  | error e =>
    refine (num_err BK.out hs t1).mono ?_
    rintro _ w2 ⟨rfl, rfl⟩
    refine ⟨rfl, X0.out, ?_⟩
    unfold GotFl
    rw [t1]
    exact ⟨_, rfl⟩
  | ok q =>
    obtain ⟨x, k⟩ := q
    have bk2 := tkA_tk BK.out (a + k)
    have y2 := tkA_but X0.out mk (a + k)
    refine (num_ok BK.out hs t1).mono ?_
    rintro _ w2 ⟨rfl, rfl⟩
    have BK2 := Lib.hid bk2
    have Y2 := Lib.hid y2
    have T1 := Lib.hid t1
    clear bk2 y2 t1 c0
    generalize tkA w1 g (a + k) = w2 at *
    by_cases h : 1 < x
    · have hI : (1 : Int) < (x : Int) := by omega
      have H := Lib.hid h
      clear h
      go_wp2
      refine ⟨rfl, Y2.out, ?_⟩
      unfold GotFl
      rw [T1.out]
      show if 1 < x then _ else _
      rw [if_pos H.out]
      exact ⟨_, rfl⟩
    · have hI : ¬ (1 : Int) < (x : Int) := by omega
      have H := Lib.hid h
      have HB := Lib.hid (show ((x : Int) == 1) = decide (x = 1) by
        rw [Bool.eq_iff_iff, beq_iff_eq, decide_eq_true_eq]; omega)
      clear h
      go_wp2
      go_ret
      refine ⟨Y2.out, ?_⟩
      unfold GotFl
      rw [T1.out]
      show if 1 < x then _ else _
      rw [if_neg H.out]
      exact ⟨by rw [← HB.out]; rfl, BK2.out⟩

/-- what entry does -/
def GotE (s : List UInt8) (a g : Nat) (r : Ending) (w' : World) : Prop :=
  match nineL s 9 0 a with
  | .error e => ∃ a, r = faultE e a
  | .ok (l, t) => r = .returned (.agg (entC (mkE l)).toArray) ∧ TK w' g s (t : Int)
set_option maxRecDepth 20000 in
set_option maxHeartbeats 16000000 in
theorem entry_any (s : List UInt8) (a g : Nat) (w : World) (hs : (s.length : Int) ≤ 1000000000) (bk : TK w g s (a : Int)) :
    Calls Try.prog 29 #[.agg #[.pointer (some ⟨g, 0, none⟩)]] w fun r w' => But [g] w w' ∧ GotE s a g r w' := by
  have hmf : ∀ (fn : Fn) (first cap : Array Value) (w : World), (Instr.makeFunc fn first cap).run Try.prog w = .ok (.func fn first cap) w := fun _ _ _ _ => rfl
  have mk : g ∈ [g] := List.mem_cons_self
  have lk := bk.lt
  have TS := Lib.hid tkr_size
  have ES := Lib.hid (show (Try.prog.info? 49).map (·.size) = some 9 by kernel_rfl)
  have bb := (Blk.new w 66 #[.pointer (some ⟨g, 0, none⟩)]).alloc (.cells #[.int .i64 0, .int .i64 0, .int .i64 0, .bool false, .int .i64 0, .int .i64 0, .int .i64 0, .int .i64 0, .int .i64 0] 49)
  have br := Blk.new (w.alloc (.cells #[.pointer (some ⟨g, 0, none⟩)] 66)) 49 #[.int .i64 0, .int .i64 0, .int .i64 0, .bool false, .int .i64 0, .int .i64 0, .int .i64 0, .int .i64 0, .int .i64 0]
  rw [World.size_alloc] at br
  have x0 : But [g] w ((w.alloc (.cells #[.pointer (some ⟨g, 0, none⟩)] 66)).alloc (.cells #[.int .i64 0, .int .i64 0, .int .i64 0, .bool false, .int .i64 0, .int .i64 0, .int .i64 0, .int .i64 0, .int .i64 0] 49)) := ((But.refl _ _).alloc _).alloc _
  have bk0 := bk.ext (((Ext.refl w).alloc (.cells #[.pointer (some ⟨g, 0, none⟩)] 66)).alloc (.cells #[.int .i64 0, .int .i64 0, .int .i64 0, .bool false, .int .i64 0, .int .i64 0, .int .i64 0, .int .i64 0, .int .i64 0] 49))
  have c0 := bb.cell 0
  simp at c0
  have hg1 := Lib.hid (show w.heap.size ≠ g by omega)
  have hg2 := Lib.hid (show w.heap.size + 1 ≠ g by omega)
  have BB := Lib.hid bb
  have BR := Lib.hid br
  have BK := Lib.hid bk0
  have X := Lib.hid x0
  clear bb br bk0 x0 bk lk
  go_enter Try.func29, Try.ntmps29
  go_wp2_with fail
  clear c0
  generalize (w.alloc (.cells #[.pointer (some ⟨g, 0, none⟩)] 66)).alloc (.cells #[.int .i64 0, .int .i64 0, .int .i64 0, .bool false, .int .i64 0, .int .i64 0, .int .i64 0, .int .i64 0, .int .i64 0] 49) = v0 at *
  cases t1 : takeN s (a : Int) with
  | error e =>
    refine (num_err BK.out hs t1).mono ?_
    rintro _ z ⟨rfl, rfl⟩
    refine ⟨rfl, X.out, ?_⟩
    unfold GotE
    rw [nineL_err t1]
    exact ⟨_, rfl⟩
  | ok q =>
    obtain ⟨x1, k1⟩ := q
    have y := tkA_but X.out mk (a + k1)
    have b := tkA_tk BK.out (a + k1)
    have BB' := BB.out.tk hg1.out (a + k1)
    have BR' := BR.out.tk hg2.out (a + k1)
    refine (num_ok BK.out hs t1).mono ?_
    rintro _ z ⟨rfl, rfl⟩
    clear BK X BB BR
    have X := Lib.hid y
    have BK := Lib.hid b
    have BB := Lib.hid BB'
    have BR := Lib.hid BR'
    have T1 := Lib.hid t1
    clear y b t1 BB' BR'
    generalize tkA v0 g (a + k1) = v1 at *
    generalize ha1 : a + k1 = a1 at *
    have HA1 := Lib.hid ha1
    clear ha1
    go_wp2_with fail
    cases t2 : takeN s (a1 : Int) with
    | error e =>
      refine (num_err BK.out hs t2).mono ?_
      rintro _ z ⟨rfl, rfl⟩
      refine ⟨rfl, X.out, ?_⟩
      unfold GotE
      rw [nineL_ok T1.out (by omega), HA1.out, nineL_err t2]
      exact ⟨_, rfl⟩
    | ok q =>
      obtain ⟨x2, k2⟩ := q
      have y := tkA_but X.out mk (a1 + k2)
      have b := tkA_tk BK.out (a1 + k2)
      have BB' := BB.out.tk hg1.out (a1 + k2)
      have BR' := BR.out.tk hg2.out (a1 + k2)
      refine (num_ok BK.out hs t2).mono ?_
      rintro _ z ⟨rfl, rfl⟩
      clear BK X BB BR
      have X := Lib.hid y
      have BK := Lib.hid b
      have BB := Lib.hid BB'
      have BR := Lib.hid BR'
      have T2 := Lib.hid t2
      clear y b t2 BB' BR'
      generalize tkA v1 g (a1 + k2) = v2 at *
      generalize ha2 : a1 + k2 = a2 at *
      have HA2 := Lib.hid ha2
      clear ha2
      go_wp2_with fail
      cases t3 : takeN s (a2 : Int) with
      | error e =>
        refine (num_err BK.out hs t3).mono ?_
        rintro _ z ⟨rfl, rfl⟩
        refine ⟨rfl, X.out, ?_⟩
        unfold GotE
        rw [nineL_ok T1.out (by omega), HA1.out, nineL_ok T2.out (by omega), HA2.out, nineL_err t3]
        exact ⟨_, rfl⟩
      | ok q =>
        obtain ⟨x3, k3⟩ := q
        have y := tkA_but X.out mk (a2 + k3)
        have b := tkA_tk BK.out (a2 + k3)
        have BB' := BB.out.tk hg1.out (a2 + k3)
        have BR' := BR.out.tk hg2.out (a2 + k3)
        refine (num_ok BK.out hs t3).mono ?_
        rintro _ z ⟨rfl, rfl⟩
        clear BK X BB BR
        have X := Lib.hid y
        have BK := Lib.hid b
        have BB := Lib.hid BB'
        have BR := Lib.hid BR'
        have T3 := Lib.hid t3
        clear y b t3 BB' BR'
        generalize tkA v2 g (a2 + k3) = v3 at *
        generalize ha3 : a2 + k3 = a3 at *
        have HA3 := Lib.hid ha3
        clear ha3
        have b4 := Blk.new v3 49 #[.int .i64 (x1 : Int), .int .i64 (x2 : Int), .int .i64 (x3 : Int), .bool false, .int .i64 0, .int .i64 0, .int .i64 0, .int .i64 0, .int .i64 0]
        have bb := BB.out.alloc (.cells #[.int .i64 (x1 : Int), .int .i64 (x2 : Int), .int .i64 (x3 : Int), .bool false, .int .i64 0, .int .i64 0, .int .i64 0, .int .i64 0, .int .i64 0] 49)
        have br := BR.out.alloc (.cells #[.int .i64 (x1 : Int), .int .i64 (x2 : Int), .int .i64 (x3 : Int), .bool false, .int .i64 0, .int .i64 0, .int .i64 0, .int .i64 0, .int .i64 0] 49)
        have bk := BK.out.ext ((Ext.refl v3).alloc (.cells #[.int .i64 (x1 : Int), .int .i64 (x2 : Int), .int .i64 (x3 : Int), .bool false, .int .i64 0, .int .i64 0, .int .i64 0, .int .i64 0, .int .i64 0] 49))
        have y := X.out.alloc (.cells #[.int .i64 (x1 : Int), .int .i64 (x2 : Int), .int .i64 (x3 : Int), .bool false, .int .i64 0, .int .i64 0, .int .i64 0, .int .i64 0, .int .i64 0] 49)
        have lk := BK.out.lt
        have lr := BR.out.lt
        go_wp2_with (refine wpList_store_new rfl 49 (.tmp 4) (.tmp 15) rfl rfl rfl rfl ES.out (by kernel_rfl) ?_; refine Held.go ?_)
        refine ⟨?_⟩
        clear BK X BB BR
        have X := Lib.hid y
        have BK := Lib.hid bk
        have BB := Lib.hid bb
        have BR := Lib.hid br
        have B4 := Lib.hid b4
        have hg4 := Lib.hid (show v3.heap.size ≠ g by omega)
        have hr4 := Lib.hid (show v3.heap.size ≠ w.heap.size + 1 by omega)
        have hgw := Lib.hid (show w.heap.size ≤ v3.heap.size by omega)
        clear y bk bb br b4 lk lr
        generalize hz4 : v3.heap.size = g4 at *
        clear hz4
        generalize v3.alloc (.cells #[.int .i64 (x1 : Int), .int .i64 (x2 : Int), .int .i64 (x3 : Int), .bool false, .int .i64 0, .int .i64 0, .int .i64 0, .int .i64 0, .int .i64 0] 49) = v4 at *
        go_wp2_with (refine wpList_load_blk rfl 66 (.tmp 1) rfl rfl BB.out Try.underlying66 rfl TS.out ?_; refine Held.go ?_)
        refine ⟨?_⟩
        go_wp2_with fail
        refine (flag_any s a3 g v4 hs BK.out).mono ?_
        rintro r5 v5 ⟨y5, hf⟩
        unfold GotFl at hf
        cases t4 : takeN s (a3 : Int) with
        | error e =>
          rw [t4] at hf
          obtain ⟨at_, rfl⟩ := hf
          refine ⟨rfl, X.out.trans y5, ?_⟩
          unfold GotE
          rw [nineL_ok T1.out (by omega), HA1.out, nineL_ok T2.out (by omega), HA2.out, nineL_ok T3.out (by omega), HA3.out, nineL_err t4]
          exact ⟨_, rfl⟩
        | ok q =>
          obtain ⟨x4, k4⟩ := q
          rw [t4] at hf
          have hf : if 1 < x4 then ∃ a, r5 = faultE 250 a else r5 = .returned (.bool (decide (x4 = 1))) ∧ TK v5 g s ((a3 + k4 : Nat) : Int) := hf
          by_cases h4 : 1 < x4
          · rw [if_pos h4] at hf
            obtain ⟨at_, rfl⟩ := hf
            refine ⟨rfl, X.out.trans y5, ?_⟩
            unfold GotE
            rw [nineL_ok T1.out (by omega), HA1.out, nineL_ok T2.out (by omega), HA2.out, nineL_ok T3.out (by omega), HA3.out, nineL_bad t4 h4]
            exact ⟨_, rfl⟩
          · rw [if_neg h4] at hf
            obtain ⟨rfl, bk5⟩ := hf
            have bl : ∀ {k : Nat} {t : TypeId} {cs : Array Value}, Blk v4 k t cs → k ≠ g → Blk v5 k t cs := fun h hk => h.but y5 (by simpa using hk)
            have bb := bl BB.out hg1.out
            have br := bl BR.out hg2.out
            have b4 := bl B4.out hg4.out
            have y := X.out.trans y5
            clear BK X BB BR B4 bl y5
            have X := Lib.hid y
            have BK := Lib.hid bk5
            have BR := Lib.hid br
            have c3 := b4.cell 3
            have f3 := b4.frozen 3
            simp at c3
            have b5 := b4.set_ 3 (.bool (decide (x4 = 1)))
            simp only [List.setIfInBounds_toArray, List.set_cons_succ, List.set_cons_zero] at b5
            have B4 := Lib.hid b5
            have y6 : But [g] v5 v5 := But.refl _ _
            have T4 := Lib.hid t4
            have H4 := Lib.hid h4
            obtain ⟨sl, hsl⟩ : ∃ sl, sl = decide (x4 = 1) := ⟨_, rfl⟩
            have HSL := Lib.hid hsl
            rw [← hsl] at B4
            rw [← hsl]
            clear y bb br b4 bk5 b5 y6 t4 h4 hsl
            go_wp2_with fail
            clear c3 f3
            generalize ha4 : a3 + k4 = a4 at *
            have HA4 := Lib.hid ha4
            have y := But.new X.out (p := ⟨g4, 3, none⟩) hgw.out (.bool sl)
            have b : TK (v5.setCell ⟨g4, 3, none⟩ (.bool sl)) g s (a4 : Int) := Blk.far BK.out (p := ⟨g4, 3, none⟩) hg4.out.symm _
            have br := Blk.far BR.out (p := ⟨g4, 3, none⟩) hr4.out.symm (.bool sl)
            clear ha4 X BK BR
            have X := Lib.hid y
            have BK := Lib.hid b
            have BR := Lib.hid br
            clear y b br
            generalize v5.setCell ⟨g4, 3, none⟩ (.bool sl) = v6 at *
            cases t5 : takeN s (a4 : Int) with
            | error e =>
              refine (num_err BK.out hs t5).mono ?_
              rintro _ z ⟨rfl, rfl⟩
              refine ⟨rfl, X.out, ?_⟩
              unfold GotE
              rw [nineL_ok T1.out (by have := H4.out; omega), HA1.out, nineL_ok T2.out (by have := H4.out; omega), HA2.out, nineL_ok T3.out (by have := H4.out; omega), HA3.out, nineL_ok T4.out (by have := H4.out; omega), HA4.out, nineL_err t5]
              exact ⟨_, rfl⟩
            | ok q =>
              obtain ⟨x5, k5⟩ := q
              have y := tkA_but X.out mk (a4 + k5)
              have b := tkA_tk BK.out (a4 + k5)
              have BR' := BR.out.tk hg2.out (a4 + k5)
              have B4' := B4.out.tk hg4.out (a4 + k5)
              refine (num_ok BK.out hs t5).mono ?_
              rintro _ z ⟨rfl, rfl⟩
              clear BK X BR B4
              have X := Lib.hid y
              have BK := Lib.hid b
              have BR := Lib.hid BR'
              have B4 := Lib.hid B4'
              have T5 := Lib.hid t5
              clear y b t5 BR' B4'
              generalize tkA v6 g (a4 + k5) = v7 at *
              generalize ha5 : a4 + k5 = a5 at *
              have HA5 := Lib.hid ha5
              clear ha5
              go_wp2_with fail
              cases t6 : takeN s (a5 : Int) with
              | error e =>
                refine (num_err BK.out hs t6).mono ?_
                rintro _ z ⟨rfl, rfl⟩
                refine ⟨rfl, X.out, ?_⟩
                unfold GotE
                rw [nineL_ok T1.out (by have := H4.out; omega), HA1.out, nineL_ok T2.out (by have := H4.out; omega), HA2.out, nineL_ok T3.out (by have := H4.out; omega), HA3.out, nineL_ok T4.out (by have := H4.out; omega), HA4.out, nineL_ok T5.out (by have := H4.out; omega), HA5.out, nineL_err t6]
                exact ⟨_, rfl⟩
              | ok q =>
                obtain ⟨x6, k6⟩ := q
                have y := tkA_but X.out mk (a5 + k6)
                have b := tkA_tk BK.out (a5 + k6)
                have BR' := BR.out.tk hg2.out (a5 + k6)
                have B4' := B4.out.tk hg4.out (a5 + k6)
                refine (num_ok BK.out hs t6).mono ?_
                rintro _ z ⟨rfl, rfl⟩
                clear BK X BR B4
                have X := Lib.hid y
                have BK := Lib.hid b
                have BR := Lib.hid BR'
                have B4 := Lib.hid B4'
                have T6 := Lib.hid t6
                clear y b t6 BR' B4'
                generalize tkA v7 g (a5 + k6) = v8 at *
                generalize ha6 : a5 + k6 = a6 at *
                have HA6 := Lib.hid ha6
                clear ha6
                go_wp2_with fail
                cases t7 : takeN s (a6 : Int) with
                | error e =>
                  refine (num_err BK.out hs t7).mono ?_
                  rintro _ z ⟨rfl, rfl⟩
                  refine ⟨rfl, X.out, ?_⟩
                  unfold GotE
                  rw [nineL_ok T1.out (by have := H4.out; omega), HA1.out, nineL_ok T2.out (by have := H4.out; omega), HA2.out, nineL_ok T3.out (by have := H4.out; omega), HA3.out, nineL_ok T4.out (by have := H4.out; omega), HA4.out, nineL_ok T5.out (by have := H4.out; omega), HA5.out, nineL_ok T6.out (by have := H4.out; omega), HA6.out, nineL_err t7]
                  exact ⟨_, rfl⟩
                | ok q =>
                  obtain ⟨x7, k7⟩ := q
                  have y := tkA_but X.out mk (a6 + k7)
                  have b := tkA_tk BK.out (a6 + k7)
                  have BR' := BR.out.tk hg2.out (a6 + k7)
                  have B4' := B4.out.tk hg4.out (a6 + k7)
                  refine (num_ok BK.out hs t7).mono ?_
                  rintro _ z ⟨rfl, rfl⟩
                  clear BK X BR B4
                  have X := Lib.hid y
                  have BK := Lib.hid b
                  have BR := Lib.hid BR'
                  have B4 := Lib.hid B4'
                  have T7 := Lib.hid t7
                  clear y b t7 BR' B4'
                  generalize tkA v8 g (a6 + k7) = v9 at *
                  generalize ha7 : a6 + k7 = a7 at *
                  have HA7 := Lib.hid ha7
                  clear ha7
                  go_wp2_with fail
                  cases t8 : takeN s (a7 : Int) with
                  | error e =>
                    refine (num_err BK.out hs t8).mono ?_
                    rintro _ z ⟨rfl, rfl⟩
                    refine ⟨rfl, X.out, ?_⟩
                    unfold GotE
                    rw [nineL_ok T1.out (by have := H4.out; omega), HA1.out, nineL_ok T2.out (by have := H4.out; omega), HA2.out, nineL_ok T3.out (by have := H4.out; omega), HA3.out, nineL_ok T4.out (by have := H4.out; omega), HA4.out, nineL_ok T5.out (by have := H4.out; omega), HA5.out, nineL_ok T6.out (by have := H4.out; omega), HA6.out, nineL_ok T7.out (by have := H4.out; omega), HA7.out, nineL_err t8]
                    exact ⟨_, rfl⟩
                  | ok q =>
                    obtain ⟨x8, k8⟩ := q
                    have y := tkA_but X.out mk (a7 + k8)
                    have b := tkA_tk BK.out (a7 + k8)
                    have BR' := BR.out.tk hg2.out (a7 + k8)
                    have B4' := B4.out.tk hg4.out (a7 + k8)
                    refine (num_ok BK.out hs t8).mono ?_
                    rintro _ z ⟨rfl, rfl⟩
                    clear BK X BR B4
                    have X := Lib.hid y
                    have BK := Lib.hid b
                    have BR := Lib.hid BR'
                    have B4 := Lib.hid B4'
                    have T8 := Lib.hid t8
                    clear y b t8 BR' B4'
                    generalize tkA v9 g (a7 + k8) = v10 at *
                    generalize ha8 : a7 + k8 = a8 at *
                    have HA8 := Lib.hid ha8
                    clear ha8
                    go_wp2_with fail
                    cases t9 : takeN s (a8 : Int) with
                    | error e =>
                      refine (num_err BK.out hs t9).mono ?_
                      rintro _ z ⟨rfl, rfl⟩
                      refine ⟨rfl, X.out, ?_⟩
                      unfold GotE
                      rw [nineL_ok T1.out (by have := H4.out; omega), HA1.out, nineL_ok T2.out (by have := H4.out; omega), HA2.out, nineL_ok T3.out (by have := H4.out; omega), HA3.out, nineL_ok T4.out (by have := H4.out; omega), HA4.out, nineL_ok T5.out (by have := H4.out; omega), HA5.out, nineL_ok T6.out (by have := H4.out; omega), HA6.out, nineL_ok T7.out (by have := H4.out; omega), HA7.out, nineL_ok T8.out (by have := H4.out; omega), HA8.out, nineL_err t9]
                      exact ⟨_, rfl⟩
                    | ok q =>
                      obtain ⟨x9, k9⟩ := q
                      have y := tkA_but X.out mk (a8 + k9)
                      have b := tkA_tk BK.out (a8 + k9)
                      have BR' := BR.out.tk hg2.out (a8 + k9)
                      have B4' := B4.out.tk hg4.out (a8 + k9)
                      refine (num_ok BK.out hs t9).mono ?_
                      rintro _ z ⟨rfl, rfl⟩
                      clear BK X BR B4
                      have X := Lib.hid y
                      have BK := Lib.hid b
                      have BR := Lib.hid BR'
                      have B4 := Lib.hid B4'
                      have T9 := Lib.hid t9
                      clear y b t9 BR' B4'
                      generalize tkA v10 g (a8 + k9) = v11 at *
                      generalize ha9 : a8 + k9 = a9 at *
                      have HA9 := Lib.hid ha9
                      clear ha9
                      go_wp2_with (refine wpList_hold 29 rfl ?_)
                      refine ⟨?_⟩
                      have b4 := B4.out
                      have c4 := b4.cell 4
                      have f4 := b4.frozen 4
                      simp only [List.getElem?_toArray, List.getElem?_cons_succ, List.getElem?_cons_zero] at c4
                      have e4 := b4.set_ 4 (.int .i64 (x5 : Int))
                      simp only [List.setIfInBounds_toArray, List.set_cons_succ, List.set_cons_zero] at e4
                      have er := Blk.far BR.out (p := ⟨g4, 4, none⟩) hr4.out.symm (.int .i64 (x5 : Int))
                      have ex := But.new X.out (p := ⟨g4, 4, none⟩) hgw.out (.int .i64 (x5 : Int))
                      have ek : TK (v11.setCell ⟨g4, 4, none⟩ (.int .i64 (x5 : Int))) g s (a9 : Int) := Blk.far BK.out (p := ⟨g4, 4, none⟩) hg4.out.symm _
                      clear b4 B4 BR X BK
                      have B4 := Lib.hid e4
                      have BR := Lib.hid er
                      have X := Lib.hid ex
                      have BK := Lib.hid ek
                      clear e4 er ex ek
                      go_wp2_with (refine wpList_hold 30 rfl ?_)
                      refine ⟨?_⟩
                      clear c4 f4
                      generalize v11.setCell ⟨g4, 4, none⟩ (.int .i64 (x5 : Int)) = v12 at *
                      have b4 := B4.out
                      have c5 := b4.cell 5
                      have f5 := b4.frozen 5
                      simp only [List.getElem?_toArray, List.getElem?_cons_succ, List.getElem?_cons_zero] at c5
                      have e4 := b4.set_ 5 (.int .i64 (x6 : Int))
                      simp only [List.setIfInBounds_toArray, List.set_cons_succ, List.set_cons_zero] at e4
                      have er := Blk.far BR.out (p := ⟨g4, 5, none⟩) hr4.out.symm (.int .i64 (x6 : Int))
                      have ex := But.new X.out (p := ⟨g4, 5, none⟩) hgw.out (.int .i64 (x6 : Int))
                      have ek : TK (v12.setCell ⟨g4, 5, none⟩ (.int .i64 (x6 : Int))) g s (a9 : Int) := Blk.far BK.out (p := ⟨g4, 5, none⟩) hg4.out.symm _
                      clear b4 B4 BR X BK
                      have B4 := Lib.hid e4
                      have BR := Lib.hid er
                      have X := Lib.hid ex
                      have BK := Lib.hid ek
                      clear e4 er ex ek
                      go_wp2_with (refine wpList_hold 31 rfl ?_)
                      refine ⟨?_⟩
                      clear c5 f5
                      generalize v12.setCell ⟨g4, 5, none⟩ (.int .i64 (x6 : Int)) = v13 at *
                      have b4 := B4.out
                      have c6 := b4.cell 6
                      have f6 := b4.frozen 6
                      simp only [List.getElem?_toArray, List.getElem?_cons_succ, List.getElem?_cons_zero] at c6
                      have e4 := b4.set_ 6 (.int .i64 (x7 : Int))
                      simp only [List.setIfInBounds_toArray, List.set_cons_succ, List.set_cons_zero] at e4
                      have er := Blk.far BR.out (p := ⟨g4, 6, none⟩) hr4.out.symm (.int .i64 (x7 : Int))
                      have ex := But.new X.out (p := ⟨g4, 6, none⟩) hgw.out (.int .i64 (x7 : Int))
                      have ek : TK (v13.setCell ⟨g4, 6, none⟩ (.int .i64 (x7 : Int))) g s (a9 : Int) := Blk.far BK.out (p := ⟨g4, 6, none⟩) hg4.out.symm _
                      clear b4 B4 BR X BK
                      have B4 := Lib.hid e4
                      have BR := Lib.hid er
                      have X := Lib.hid ex
                      have BK := Lib.hid ek
                      clear e4 er ex ek
                      go_wp2_with (refine wpList_hold 32 rfl ?_)
                      refine ⟨?_⟩
                      clear c6 f6
                      generalize v13.setCell ⟨g4, 6, none⟩ (.int .i64 (x7 : Int)) = v14 at *
                      have b4 := B4.out
                      have c7 := b4.cell 7
                      have f7 := b4.frozen 7
                      simp only [List.getElem?_toArray, List.getElem?_cons_succ, List.getElem?_cons_zero] at c7
                      have e4 := b4.set_ 7 (.int .i64 (x8 : Int))
                      simp only [List.setIfInBounds_toArray, List.set_cons_succ, List.set_cons_zero] at e4
                      have er := Blk.far BR.out (p := ⟨g4, 7, none⟩) hr4.out.symm (.int .i64 (x8 : Int))
                      have ex := But.new X.out (p := ⟨g4, 7, none⟩) hgw.out (.int .i64 (x8 : Int))
                      have ek : TK (v14.setCell ⟨g4, 7, none⟩ (.int .i64 (x8 : Int))) g s (a9 : Int) := Blk.far BK.out (p := ⟨g4, 7, none⟩) hg4.out.symm _
                      clear b4 B4 BR X BK
                      have B4 := Lib.hid e4
                      have BR := Lib.hid er
                      have X := Lib.hid ex
                      have BK := Lib.hid ek
                      clear e4 er ex ek
                      go_wp2_with (refine wpList_hold 33 rfl ?_)
                      refine ⟨?_⟩
                      clear c7 f7
                      generalize v14.setCell ⟨g4, 7, none⟩ (.int .i64 (x8 : Int)) = v15 at *
                      have b4 := B4.out
                      have c8 := b4.cell 8
                      have f8 := b4.frozen 8
                      simp only [List.getElem?_toArray, List.getElem?_cons_succ, List.getElem?_cons_zero] at c8
                      have e4 := b4.set_ 8 (.int .i64 (x9 : Int))
                      simp only [List.setIfInBounds_toArray, List.set_cons_succ, List.set_cons_zero] at e4
                      have er := Blk.far BR.out (p := ⟨g4, 8, none⟩) hr4.out.symm (.int .i64 (x9 : Int))
                      have ex := But.new X.out (p := ⟨g4, 8, none⟩) hgw.out (.int .i64 (x9 : Int))
                      have ek : TK (v15.setCell ⟨g4, 8, none⟩ (.int .i64 (x9 : Int))) g s (a9 : Int) := Blk.far BK.out (p := ⟨g4, 8, none⟩) hg4.out.symm _
                      clear b4 B4 BR X BK
                      have B4 := Lib.hid e4
                      have BR := Lib.hid er
                      have X := Lib.hid ex
                      have BK := Lib.hid ek
                      clear e4 er ex ek
                      go_wp2_with (refine wpList_load_blk rfl 49 (.tmp 4) rfl rfl B4.out Try.underlying49 rfl ES.out ?_; refine Held.go ?_)
                      refine ⟨?_⟩
                      clear c8 f8 B4
                      generalize v15.setCell ⟨g4, 8, none⟩ (.int .i64 (x9 : Int)) = v16 at *
                      go_wp2_with (refine wpList_store_blk rfl 49 (.tmp 2) (.tmp 34) rfl rfl rfl BR.out rfl ES.out (by kernel_rfl) ?_)
                      refine bodyPost_ret (results_cell_row rfl _ _ (w.heap.size + 1) _ _ (0, 0) _ rfl (BR.out.setRow #[.int .i64 (x1 : Int), .int .i64 (x2 : Int), .int .i64 (x3 : Int), .bool sl, .int .i64 (x5 : Int), .int .i64 (x6 : Int), .int .i64 (x7 : Int), .int .i64 (x8 : Int), .int .i64 (x9 : Int)]) Try.underlying49 rfl ES.out) rfl ⟨But.newRow X.out (Nat.le_succ _) _, ?_⟩
                      unfold GotE
                      rw [nineL_ok T1.out (by have := H4.out; omega), HA1.out, nineL_ok T2.out (by have := H4.out; omega), HA2.out, nineL_ok T3.out (by have := H4.out; omega), HA3.out, nineL_ok T4.out (by have := H4.out; omega), HA4.out, nineL_ok T5.out (by have := H4.out; omega), HA5.out, nineL_ok T6.out (by have := H4.out; omega), HA6.out, nineL_ok T7.out (by have := H4.out; omega), HA7.out, nineL_ok T8.out (by have := H4.out; omega), HA8.out, nineL_ok T9.out (by have := H4.out; omega), HA9.out]
                      exact ⟨by rw [show sl = decide (x4 = 1) from HSL.out]; rfl, Blk.setRow_far BK.out hg2.out.symm _⟩
end Go.Proofs.Ytcagcepbnkageaa
