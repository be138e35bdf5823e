/- slices.Clone of entries; mani.New, varveref25.New. -/
import Derived.Test.YtcagcepbnkageaaMgL
import Derived.Test.YtcagcepbnkageaaMgM
namespace Go.Proofs.Ytcagcepbnkageaa
set_option linter.unusedVariables false
set_option linter.unusedSimpArgs false
open Go.RowKit

theorem slice_nil (p : Addr) (n c : Nat) (w : World) : (binOp .eql 22 (.slice (some p) n c) (.slice none 0 0)).run Try.prog w = .ok (.bool false) w := by kernel_rfl
attribute [local go_sem] slice_nil
set_option maxRecDepth 20000 in
theorem clone_any (l : List E9) (v : Value) (w : World) (hr : RR entC 9 w v l) (hl : (l.length : Int) ≤ 1000000) (h0 : 0 < l.length) :
    Calls Try.prog 41 #[v] w fun e w' => ∃ v', e = .returned v' ∧ Ext w w' ∧ EW w' w.heap.size v' l := by
  have HR := Lib.hid hr
  obtain ⟨a, c, rfl, hlc, hcn, hs⟩ := hr
  obtain ⟨g, o, rfl, _⟩ := hs h0
  obtain ⟨v', w', p1, p2, p3⟩ := WR.app0 (B := w.heap.size) (w := w.alloc (.cells #[] 49)) entC_length (by decide) entC_one (Blk.new w 49 #[]) (Nat.le_refl _) (RR.ext HR.out ((Ext.refl w).alloc _)) (by rw [World.size_alloc]; omega) (P := Try.prog) (t := 22) Try.underlying22 ent_info rfl (by omega) (by unfold maxLen; omega)
  have P2 := Lib.hid p2
  have P3 := Lib.hid p3
  clear p2 p3 hs hcn hlc
  go_enter Try.func41, Try.ntmps41
  go_wp2_with (first
    | (refine wpList_bs (vs := #[]) rfl 22 0 _ rfl rfl (run_bs0e _) ?_)
    | (at_builtin; refine wpList_app rfl (.tmp 5) (.tmp 6) 22 rfl rfl rfl rfl p1 ?_))
  go_ret
  exact ⟨_, rfl, ((Ext.refl w).alloc _).trans P3.out, P2.out⟩

/-- a readable slice, where another block is laid anew -/
theorem rr_setRow {α : Type} {f : α → List Value} {s : Nat} {w : World} {v : Value} {l : List α} {k : Nat} (h : RR f s w v l) (hk : ∀ g o c, v = .slice (some ⟨g, o, none⟩) l.length c → g ≠ k) (cs : Array Value) : RR f s (w.setRow k cs) v l := by
  obtain ⟨a, c, rfl, h1, h2, h3⟩ := h
  refine ⟨a, c, rfl, h1, h2, fun h0 => ?_⟩
  obtain ⟨g, o, rfl, h4⟩ := h3 h0
  exact ⟨g, o, rfl, fun i x hx => range_far (h4 i x hx) (hk g o c rfl) cs⟩
/-- the first manifest of a header -/
def newP (i g f : Int) : Bool := headP i g f && (i != 999999)
def newM (i g f : Int) : Man := if newP i g f then ⟨1, i + 1, 0, f, [openE i g f]⟩ else zM
theorem man_build_new (a b : Int) (p : Option Addr) (w : World) : (Instr.build 24 #[(0, .int .i64 1), (1, .int .i64 a), (3, .int .i64 b), (4, .slice p 1 1)]).run Try.prog w = .ok (.agg #[.int .i64 1, .int .i64 a, .int .i64 0, .int .i64 b, .slice p 1 1]) w := by kernel_rfl
theorem man_build5 (a b c d : Int) (p : Option Addr) (n m : Nat) (w : World) : (Instr.build 24 #[(0, .int .i64 a), (1, .int .i64 b), (2, .int .i64 c), (3, .int .i64 d), (4, .slice p n m)]).run Try.prog w = .ok (.agg #[.int .i64 a, .int .i64 b, .int .i64 c, .int .i64 d, .slice p n m]) w := by kernel_rfl
theorem run_bs1o (i g f : Int) (w : World) : (Instr.buildSlice 22 1 #[(0, .agg #[.int .i64 i, .int .i64 g, .int .i64 f, .bool false, .int .i64 0, .int .i64 0, .int .i64 0, .int .i64 0, .int .i64 0])]).run Try.prog w = .ok (.slice (some ⟨w.heap.size, 0, none⟩) 1 1) (w.alloc (.cells #[.int .i64 i, .int .i64 g, .int .i64 f, .bool false, .int .i64 0, .int .i64 0, .int .i64 0, .int .i64 0, .int .i64 0] 49)) := by kernel_rfl
theorem hd_size' : (Try.prog.info? 26).map (·.size) = some 3 := by kernel_rfl
attribute [local go_sem] man_zero man_build0 man_build_new man_build5 ent_zero9 ent_build
theorem open_rr1 (i g f : Int) (w : World) : RR entC 9 (w.alloc (.cells #[.int .i64 i, .int .i64 g, .int .i64 f, .bool false, .int .i64 0, .int .i64 0, .int .i64 0, .int .i64 0, .int .i64 0] 49)) (.slice (some ⟨w.heap.size, 0, none⟩) 1 1) [openE i g f] :=
  WR.rr entC_length (WR.lit entC_length w 49 [openE i g f] (show 1 ≤ 1000000000 by omega) _ rfl)

set_option maxRecDepth 20000 in
set_option maxHeartbeats 4000000 in
theorem mNew_any (i g f : Int) (w : World) :
    Calls Try.prog 13 #[.agg #[.int .i64 i, .int .i64 g, .int .i64 f]] w fun r w' => ∃ u, r = .returned (.tuple #[.agg (manC (newM i g f) u), .int .i64 (errI (newP i g f) 210)]) ∧ Ext w w' ∧ RR entC 9 w' u (newM i g f).ents := by
  have MS := Lib.hid man_size
  have HS := Lib.hid hd_size'
  have ES := Lib.hid (show (Try.prog.info? 49).map (·.size) = some 9 from ent_size)
  have b1 := Lib.hid ((Blk.new w 26 #[.int .i64 i, .int .i64 g, .int .i64 f]).alloc (.cells #[.int .i64 0, .int .i64 0, .int .i64 0, .int .i64 0, .slice none 0 0] 24))
  have bz := Blk.new (w.alloc (.cells #[.int .i64 i, .int .i64 g, .int .i64 f] 26)) 24 #[.int .i64 0, .int .i64 0, .int .i64 0, .int .i64 0, .slice none 0 0]
  rw [World.size_alloc] at bz
  have BZ := Lib.hid bz
  have X0 := Lib.hid (((Ext.refl w).alloc (.cells #[.int .i64 i, .int .i64 g, .int .i64 f] 26)).alloc (.cells #[.int .i64 0, .int .i64 0, .int .i64 0, .int .i64 0, .slice none 0 0] 24))
  have Q := Lib.hid (fun w => eOpen_any i g f w)
  clear bz
  cases hh : headP i g f with
  | false =>
    have HN := Lib.hid (show newM i g f = zM by unfold newM newP; rw [hh]; rfl)
    have HP := Lib.hid (show newP i g f = false by unfold newP; rw [hh]; rfl)
    rw [hh] at Q
    simp only [openC, errI, Bool.false_eq_true, if_false, entC] at Q
    clear hh
    go_enter Try.func13, Try.ntmps13
    go_wp2_with (refine wpList_load_blk rfl 26 (.tmp 1) rfl rfl b1.out Try.underlying26 rfl HS.out ?_; refine Held.go ?_)
    refine ⟨?_⟩
    go_wp2_with fail
    refine (Q.out _).mono ?_
    rintro _ w1 ⟨rfl, x1⟩
    have Z1 := Lib.hid ((BZ.out.ext x1).alloc (.cells #[.int .i64 0, .int .i64 0, .int .i64 0, .bool false, .int .i64 0, .int .i64 0, .int .i64 0, .int .i64 0, .int .i64 0] 49))
    have X1 := Lib.hid ((X0.out.trans x1).alloc (.cells #[.int .i64 0, .int .i64 0, .int .i64 0, .bool false, .int .i64 0, .int .i64 0, .int .i64 0, .int .i64 0, .int .i64 0] 49))
    clear x1
    go_wp2_with (refine wpList_store_new rfl 49 (.tmp 4) (.tmp 9) rfl rfl rfl rfl ES.out (by kernel_rfl) ?_; refine Held.go ?_)
    refine ⟨?_⟩
    go_wp2_with (refine wpList_store_blk rfl 24 (.tmp 2) (.tmp 18) rfl rfl rfl Z1.out rfl MS.out (by kernel_rfl) ?_)
    exact bodyPost_ret (results_row_tmp rfl _ _ (w.heap.size + 1) _ _ (0, 0) _ rfl (Z1.out.setRow #[.int .i64 0, .int .i64 0, .int .i64 0, .int .i64 0, .slice none 0 0]) Try.underlying24 rfl MS.out) rfl ⟨.slice none 0 0, by rw [HN.out, HP.out]; rfl, X1.out.setRow (Nat.le_succ _) _, by rw [HN.out]; exact RR.nil _⟩
  | true =>
    have hd : headD i g f := by simpa [headP] using hh
    obtain ⟨h1, h2, h3⟩ := hd
    rw [hh] at Q
    simp only [openC, errI, if_true, entC, openE] at Q
    by_cases hi : i = 999999
    · have ki : (i == 999999) = true := beq_iff_eq.2 hi
      have HN := Lib.hid (show newM i g f = zM by unfold newM newP; rw [hh, hi]; rfl)
      have HP := Lib.hid (show newP i g f = false by unfold newP; rw [hh, hi]; rfl)
      clear hh hi h1 h2 h3
      go_enter Try.func13, Try.ntmps13
      go_wp2_with (refine wpList_load_blk rfl 26 (.tmp 1) rfl rfl b1.out Try.underlying26 rfl HS.out ?_; refine Held.go ?_)
      refine ⟨?_⟩
      go_wp2_with fail
      refine (Q.out _).mono ?_
      rintro _ w1 ⟨rfl, x1⟩
      have y1 := x1.alloc (.cells #[.int .i64 i, .int .i64 g, .int .i64 f, .bool false, .int .i64 0, .int .i64 0, .int .i64 0, .int .i64 0, .int .i64 0] 49)
      have Z1 := Lib.hid (BZ.out.ext y1)
      have c0 := (b1.out.ext y1).cell 0
      simp only [List.getElem?_toArray, List.getElem?_cons_zero] at c0
      have X1 := Lib.hid (X0.out.trans y1)
      clear x1 y1
      go_wp2_with (refine wpList_store_new rfl 49 (.tmp 4) (.tmp 9) rfl rfl rfl rfl ES.out (by kernel_rfl) ?_; refine Held.go ?_)
      refine ⟨?_⟩
      go_wp2_with (refine wpList_store_blk rfl 24 (.tmp 2) (.tmp 18) rfl rfl rfl Z1.out rfl MS.out (by kernel_rfl) ?_)
      exact bodyPost_ret (results_row_tmp rfl _ _ (w.heap.size + 1) _ _ (0, 0) _ rfl (Z1.out.setRow #[.int .i64 0, .int .i64 0, .int .i64 0, .int .i64 0, .slice none 0 0]) Try.underlying24 rfl MS.out) rfl ⟨.slice none 0 0, by rw [HN.out, HP.out]; rfl, X1.out.setRow (Nat.le_succ _) _, by rw [HN.out]; exact RR.nil _⟩
    · have ki : (i == 999999) = false := beq_eq_false_iff_ne.2 hi
      have hb : (i != 999999) = true := bne_iff_ne.2 hi
      have HN := Lib.hid (show newM i g f = ⟨1, i + 1, 0, f, [openE i g f]⟩ by unfold newM newP; rw [hh, hb]; rfl)
      have HP := Lib.hid (show newP i g f = true by unfold newP; rw [hh, hb]; rfl)
      have ew : IntKind.i64.wrap (i + 1) = i + 1 := by rw [IntKind.wrap_i64]; omega
      clear hh hi hb h1 h2 h3
      go_enter Try.func13, Try.ntmps13
      go_wp2_with (refine wpList_load_blk rfl 26 (.tmp 1) rfl rfl b1.out Try.underlying26 rfl HS.out ?_; refine Held.go ?_)
      refine ⟨?_⟩
      go_wp2_with fail
      refine (Q.out _).mono ?_
      rintro _ w1 ⟨rfl, x1⟩
      have y1 := x1.alloc (.cells #[.int .i64 i, .int .i64 g, .int .i64 f, .bool false, .int .i64 0, .int .i64 0, .int .i64 0, .int .i64 0, .int .i64 0] 49)
      have B4 := Lib.hid (Blk.new w1 49 #[.int .i64 i, .int .i64 g, .int .i64 f, .bool false, .int .i64 0, .int .i64 0, .int .i64 0, .int .i64 0, .int .i64 0])
      have Z1 := Lib.hid (BZ.out.ext y1)
      have c0 := (b1.out.ext y1).cell 0
      have c2 := (b1.out.ext y1).cell 2
      simp only [List.getElem?_toArray, List.getElem?_cons_zero, List.getElem?_cons_succ] at c0 c2
      have X1 := Lib.hid (X0.out.trans y1)
      clear x1 y1
      go_wp2_with (refine wpList_store_new rfl 49 (.tmp 4) (.tmp 9) rfl rfl rfl rfl ES.out (by kernel_rfl) ?_; refine Held.go ?_)
      refine ⟨?_⟩
      generalize w1.alloc (.cells #[.int .i64 i, .int .i64 g, .int .i64 f, .bool false, .int .i64 0, .int .i64 0, .int .i64 0, .int .i64 0, .int .i64 0] 49) = w2 at *
      have R5 := Lib.hid (open_rr1 i g f w2)
      have Z2 := Lib.hid (Z1.out.alloc (.cells #[.int .i64 i, .int .i64 g, .int .i64 f, .bool false, .int .i64 0, .int .i64 0, .int .i64 0, .int .i64 0, .int .i64 0] 49))
      have HG := Lib.hid (show w2.heap.size ≠ w.heap.size + 1 by have := Z1.out.lt; omega)
      go_wp2_with (refine wpList_load_blk rfl 49 (.tmp 4) rfl rfl B4.out Try.underlying49 rfl ES.out ?_; refine Held.go ?_)
      refine ⟨?_⟩
      go_wp2_with (refine wpList_bs (vs := #[(0, .agg #[.int .i64 i, .int .i64 g, .int .i64 f, .bool false, .int .i64 0, .int .i64 0, .int .i64 0, .int .i64 0, .int .i64 0])]) rfl 22 1 _ rfl rfl (run_bs1o _ _ _ _) ?_; refine Held.go ?_)
      refine ⟨?_⟩
      go_wp2_with (refine wpList_store_blk rfl 24 (.tmp 2) (.tmp 26) rfl rfl rfl Z2.out rfl MS.out (by kernel_rfl) ?_)
      refine bodyPost_ret (results_row_tmp rfl _ _ (w.heap.size + 1) _ _ (0, 0) _ rfl (Z2.out.setRow #[.int .i64 1, .int .i64 (i + 1), .int .i64 0, .int .i64 f, .slice (some ⟨w2.heap.size, 0, none⟩) 1 1]) Try.underlying24 rfl MS.out) rfl ⟨.slice (some ⟨w2.heap.size, 0, none⟩) 1 1, by rw [HN.out, HP.out]; rfl, (X1.out.alloc _).setRow (Nat.le_succ _) _, ?_⟩
      rw [HN.out]
      exact rr_setRow R5.out (fun g o c e => by injection e with e1 e2 e3; injection e1 with e4; injection e4 with e5 e6; have := HG.out; omega) _

set_option maxRecDepth 20000 in
set_option maxHeartbeats 4000000 in
theorem rMNew_any (i g f : Int) (w : World) :
    Calls Try.prog 14 #[.agg #[.int .i64 i, .int .i64 g, .int .i64 f]] w fun r w' => ∃ u, r = .returned (.tuple #[.agg (manC (newM i g f) u), .int .i64 (errI (newP i g f) 210)]) ∧ Ext w w' ∧ RR entC 9 w' u (newM i g f).ents := by
  have MS := Lib.hid man_size
  have HS := Lib.hid hd_size'
  have ES := Lib.hid (show (Try.prog.info? 49).map (·.size) = some 9 from ent_size)
  have b1 := Lib.hid ((Blk.new w 26 #[.int .i64 i, .int .i64 g, .int .i64 f]).alloc (.cells #[.int .i64 0, .int .i64 0, .int .i64 0, .int .i64 0, .slice none 0 0] 24))
  have bz := Blk.new (w.alloc (.cells #[.int .i64 i, .int .i64 g, .int .i64 f] 26)) 24 #[.int .i64 0, .int .i64 0, .int .i64 0, .int .i64 0, .slice none 0 0]
  rw [World.size_alloc] at bz
  have BZ := Lib.hid bz
  have X0 := Lib.hid (((Ext.refl w).alloc (.cells #[.int .i64 i, .int .i64 g, .int .i64 f] 26)).alloc (.cells #[.int .i64 0, .int .i64 0, .int .i64 0, .int .i64 0, .slice none 0 0] 24))
  have Q := Lib.hid (fun w => rcheck_any i g f w)
  clear bz
  cases hp : newP i g f with
  | false =>
    have HN := Lib.hid (show newM i g f = zM by unfold newM; rw [hp]; rfl)
    have HP := Lib.hid hp
    cases hh : headP i g f with
    | false =>
      rw [hh] at Q
      simp only [errI, Bool.false_eq_true, if_false] at Q
      clear hh hp
      go_enter Try.func14, Try.ntmps14
      go_wp2_with (refine wpList_load_blk rfl 26 (.tmp 1) rfl rfl b1.out Try.underlying26 rfl HS.out ?_; refine Held.go ?_)
      refine ⟨?_⟩
      go_wp2_with fail
      refine (Q.out _).mono ?_
      rintro _ w1 ⟨rfl, x1⟩
      have Z1 := Lib.hid (BZ.out.ext x1)
      have X1 := Lib.hid (X0.out.trans x1)
      clear x1
      go_wp2_with (refine wpList_store_blk rfl 24 (.tmp 2) (.tmp 12) rfl rfl rfl Z1.out rfl MS.out (by kernel_rfl) ?_)
      exact bodyPost_ret (results_row_tmp rfl _ _ (w.heap.size + 1) _ _ (0, 0) _ rfl (Z1.out.setRow #[.int .i64 0, .int .i64 0, .int .i64 0, .int .i64 0, .slice none 0 0]) Try.underlying24 rfl MS.out) rfl ⟨.slice none 0 0, by rw [HN.out]; rfl, X1.out.setRow (Nat.le_succ _) _, by rw [HN.out]; exact RR.nil _⟩
    | true =>
      have hi : i = 999999 := by
        unfold newP at hp
        rw [hh] at hp
        simpa using hp
      have ki : (i == 999999) = true := beq_iff_eq.2 hi
      rw [hh] at Q
      simp only [errI, if_true] at Q
      clear hh hp hi
      go_enter Try.func14, Try.ntmps14
      go_wp2_with (refine wpList_load_blk rfl 26 (.tmp 1) rfl rfl b1.out Try.underlying26 rfl HS.out ?_; refine Held.go ?_)
      refine ⟨?_⟩
      go_wp2_with fail
      refine (Q.out _).mono ?_
      rintro _ w1 ⟨rfl, x1⟩
      have Z1 := Lib.hid (BZ.out.ext x1)
      have c0 := (b1.out.ext x1).cell 0
      simp only [List.getElem?_toArray, List.getElem?_cons_zero] at c0
      have X1 := Lib.hid (X0.out.trans x1)
      clear x1
      go_wp2_with (refine wpList_store_blk rfl 24 (.tmp 2) (.tmp 12) rfl rfl rfl Z1.out rfl MS.out (by kernel_rfl) ?_)
      exact bodyPost_ret (results_row_tmp rfl _ _ (w.heap.size + 1) _ _ (0, 0) _ rfl (Z1.out.setRow #[.int .i64 0, .int .i64 0, .int .i64 0, .int .i64 0, .slice none 0 0]) Try.underlying24 rfl MS.out) rfl ⟨.slice none 0 0, by rw [HN.out]; rfl, X1.out.setRow (Nat.le_succ _) _, by rw [HN.out]; exact RR.nil _⟩
  | true =>
    have HN := Lib.hid (show newM i g f = ⟨1, i + 1, 0, f, [openE i g f]⟩ by unfold newM; rw [hp]; rfl)
    have HP := Lib.hid hp
    have hh : headP i g f = true ∧ i ≠ 999999 := by
      unfold newP at hp
      simpa using hp
    have ki : (i == 999999) = false := beq_eq_false_iff_ne.2 hh.2
    have hd : headD i g f := by simpa [headP] using hh.1
    obtain ⟨h1, h2, h3⟩ := hd
    have ew : IntKind.i64.wrap (i + 1) = i + 1 := by rw [IntKind.wrap_i64]; omega
    rw [hh.1] at Q
    simp only [errI, if_true] at Q
    clear hh hp h1 h2 h3
    go_enter Try.func14, Try.ntmps14
    go_wp2_with (refine wpList_load_blk rfl 26 (.tmp 1) rfl rfl b1.out Try.underlying26 rfl HS.out ?_; refine Held.go ?_)
    refine ⟨?_⟩
    go_wp2_with fail
    refine (Q.out _).mono ?_
    rintro _ w2 ⟨rfl, x1⟩
    have Z1 := Lib.hid (BZ.out.ext x1)
    have B1 := Lib.hid (b1.out.ext x1)
    have c0 := B1.out.cell 0
    have c2 := B1.out.cell 2
    simp only [List.getElem?_toArray, List.getElem?_cons_zero, List.getElem?_cons_succ] at c0 c2
    have X1 := Lib.hid (X0.out.trans x1)
    clear x1
    have R5 := Lib.hid (open_rr1 i g f w2)
    have Z2 := Lib.hid (Z1.out.alloc (.cells #[.int .i64 i, .int .i64 g, .int .i64 f, .bool false, .int .i64 0, .int .i64 0, .int .i64 0, .int .i64 0, .int .i64 0] 49))
    have HG := Lib.hid (show w2.heap.size ≠ w.heap.size + 1 by have := Z1.out.lt; omega)
    go_wp2_with (refine wpList_load_blk rfl 26 (.tmp 1) rfl rfl B1.out Try.underlying26 rfl HS.out ?_; refine Held.go ?_)
    refine ⟨?_⟩
    go_wp2_with (refine wpList_bs (vs := #[(0, .agg #[.int .i64 i, .int .i64 g, .int .i64 f, .bool false, .int .i64 0, .int .i64 0, .int .i64 0, .int .i64 0, .int .i64 0])]) rfl 22 1 _ rfl rfl (run_bs1o _ _ _ _) ?_; refine Held.go ?_)
    refine ⟨?_⟩
    go_wp2_with (refine wpList_store_blk rfl 24 (.tmp 2) (.tmp 21) rfl rfl rfl Z2.out rfl MS.out (by kernel_rfl) ?_)
    refine bodyPost_ret (results_row_tmp rfl _ _ (w.heap.size + 1) _ _ (0, 0) _ rfl (Z2.out.setRow #[.int .i64 1, .int .i64 (i + 1), .int .i64 0, .int .i64 f, .slice (some ⟨w2.heap.size, 0, none⟩) 1 1]) Try.underlying24 rfl MS.out) rfl ⟨.slice (some ⟨w2.heap.size, 0, none⟩) 1 1, by rw [HN.out]; rfl, (X1.out.alloc _).setRow (Nat.le_succ _) _, ?_⟩
    rw [HN.out]
    exact rr_setRow R5.out (fun g o c e => by injection e with e1 e2 e3; injection e1 with e4; injection e4 with e5 e6; have := HG.out; omega) _
end Go.Proofs.Ytcagcepbnkageaa
