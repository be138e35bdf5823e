/- Several texts in one. merged: MaJ MaK MaL -/
import Derived.Test.YtcagcepbnkageaaMaG
import Derived.Test.YtcagcepbnkageaaMgN
namespace Go.Proofs.Ytcagcepbnkageaa
set_option linter.unusedVariables false
set_option linter.unusedSimpArgs false
open Go.RowKit

def xE {α : Type} : Except Int α → Int
  | .ok _ => 0
  | .error e => e
def zM : Man := ⟨0, 0, 0, 0, []⟩
def xM : Except Int Man → Man
  | .ok m => m
  | .error _ => zM
def decM (s : List UInt8) : Except Int Man :=
  match decR s with
  | .error e => .error e
  | .ok m => if maniP m then .ok m else .error 250
theorem nineL_e {s : List UInt8} : ∀ {n i a : Nat} {e : Int}, nineL s n i a = .error e → 0 < e
  | 0, i, a, e, h => by cases h
  | n + 1, i, a, e, h => by
    cases ht : takeN s (a : Int) with
    | error e' => rw [nineL_err ht] at h; injection h with h; have := takeN_err ht; omega
    | ok q =>
      obtain ⟨x, k⟩ := q
      by_cases h3 : i = 3 ∧ 1 < x
      · obtain ⟨rfl, h3⟩ := h3
        rw [nineL_bad ht h3] at h; injection h with h; omega
      · rw [nineL_ok ht h3] at h
        cases hr : nineL s n (i + 1) (a + k) with
        | error e' => rw [hr] at h; injection h with h; subst h; exact nineL_e hr
        | ok q => rw [hr] at h; cases h
theorem entsR_e {s : List UInt8} : ∀ {n a : Nat} {e : Int}, entsR s n a = .error e → 0 < e
  | 0, a, e, h => by cases h
  | n + 1, a, e, h => by
    cases ht : nineL s 9 0 a with
    | error e' => rw [entsR_err ht] at h; injection h with h; subst h; exact nineL_e ht
    | ok q =>
      obtain ⟨x, k⟩ := q
      rw [entsR_ok ht] at h
      cases hr : entsR s n k with
      | error e' => rw [hr] at h; injection h with h; subst h; exact entsR_e hr
      | ok q => rw [hr] at h; cases h
theorem numsR_pos' {s : List UInt8} : ∀ {n a : Nat} {e : Int}, numsR s n a = .error e → 0 < e
  | 0, a, e, h => by cases h
  | n + 1, a, e, h => by
    cases ht : takeN s (a : Int) with
    | error e' => rw [numsR_err ht] at h; injection h with h; have := takeN_err ht; omega
    | ok q =>
      obtain ⟨x, k⟩ := q
      rw [numsR_ok ht] at h
      cases hr : numsR s n (a + k) with
      | error e' => rw [hr] at h; injection h with h; subst h; exact numsR_pos' hr
      | ok q => rw [hr] at h; cases h
theorem decR_e {s : List UInt8} {e : Int} (h : decR s = .error e) : 0 < e := by
  cases hn : numsR s 5 0 with
  | error e' => rw [decR_nums hn] at h; injection h with h; subst h; exact numsR_pos' hn
  | ok q =>
    obtain ⟨l, a⟩ := q
    by_cases hb : ((l.getD 4 0 : Nat) : Int) ≤ 100
    · cases he : entsR s (l.getD 4 0) a with
      | error e' => rw [decR_err hn hb he] at h; injection h with h; subst h; exact entsR_e he
      | ok q =>
        obtain ⟨es, b⟩ := q
        by_cases hl : b = s.length
        · rw [decR_ok hn hb he hl] at h; cases h
        · rw [decR_rest hn hb he hl] at h; injection h with h; omega
    · rw [decR_big hn hb] at h; injection h with h; omega
theorem callF_dec1 (xs : Array Value) (W : World) : (callFunc 26 xs).run Try.prog W = .ok (.enter 26 xs) W := by kernel_rfl
theorem man_zero (w : World) : (zeroValue 24).run Try.prog w = .ok (.agg #[.int .i64 0, .int .i64 0, .int .i64 0, .int .i64 0, .slice none 0 0]) w := by kernel_rfl
theorem man_build0 (w : World) : (Instr.build 24 #[]).run Try.prog w = .ok (.agg #[.int .i64 0, .int .i64 0, .int .i64 0, .int .i64 0, .slice none 0 0]) w := by kernel_rfl
theorem tkr_zero (w : World) : (zeroValue 66).run Try.prog w = .ok (.agg #[.pointer none]) w := by kernel_rfl
theorem tkr_build (p : Option Addr) (w : World) : (Instr.build 66 #[(0, .pointer p)]).run Try.prog w = .ok (.agg #[.pointer p]) w := by kernel_rfl

/-- Decode's closure, caught -/
theorem dec_caught (s : List UInt8) (gm gt g : Nat) (W : World) (hs : (s.length : Int) ≤ 1000000000) (h0 h1 h2 h3 h4 : Value)
    (bm : Blk W gm 24 #[h0, h1, h2, h3, h4]) (bt : Blk W gt 66 #[.pointer (some ⟨g, 0, none⟩)]) (bk : TK W g s 0) (mg : gm ≠ g) (tg : gt ≠ g) (tm : gt ≠ gm) :
    Calls Try.prog 31 #[.func (.func 26) #[] #[.pointer (some ⟨gt, 0, none⟩), .pointer (some ⟨gm, 0, none⟩)]] W fun e w' =>
      (∃ a : Int, e = .returned (.tuple #[.int .i64 (xE (decR s)), .int .i64 a])) ∧ But [g, gm] W w' ∧ ∀ m, decR s = .ok m → ∃ v, Blk w' gm 24 (manC m v) ∧ WR entC 9 w' (W.heap.size + 1 + 1) 49 v m.ents := by
  have lk := bk.lt
  have lh := bm.lt
  have q := dec1_any s gm gt g ((W.alloc (.cells #[.int .i64 0] 29)).alloc (.cells #[.int .i64 0] 3)) hs h0 h1 h2 h3 h4 ((bm.alloc _).alloc _) ((bt.alloc _).alloc _) (Blk.alloc (Blk.alloc bk _) _) mg tg tm
  have e1 : Blk ((W.alloc (.cells #[.int .i64 0] 29)).alloc (.cells #[.int .i64 0] 3)) W.heap.size 29 #[.int .i64 0] := (Blk.new W _ _).alloc _
  have e2 := Blk.new (W.alloc (.cells #[.int .i64 0] 29)) 3 #[.int .i64 0]
  rw [World.size_alloc] at e2
  have x7 : Ext W ((W.alloc (.cells #[.int .i64 0] 29)).alloc (.cells #[.int .i64 0] 3)) := ((Ext.refl W).alloc _).alloc _
  have n1 : W.heap.size ∉ [g, gm] := by simp; omega
  have n2 : W.heap.size + 1 ∉ [g, gm] := by simp; omega
  cases hn : decR s with
  | error e =>
    refine (caught_err _ _ W (But [g, gm] W) e callF_dec1 (q.mono fun r w' ⟨hb, hg⟩ => ?_)).mono fun r w' ⟨ha, w2, hb, hl⟩ => ?_
    · unfold GotD at hg
      rw [hn] at hg
      obtain ⟨a, rfl⟩ := hg
      exact ⟨⟨a, rfl⟩, (But.of_ext x7).trans hb, e1.but hb n1, e2.but hb n2⟩
    · exact ⟨ha, hb.below hl, fun h hh => by cases hh⟩
  | ok m =>
    refine (caught_ok _ _ W (fun w' => But [g, gm] W w' ∧ ∃ v, Blk w' gm 24 (manC m v) ∧ WR entC 9 w' (W.heap.size + 1 + 1) 49 v m.ents) callF_dec1 (q.mono fun r w' ⟨hb, hg⟩ => ?_)).mono fun r w' ⟨he, w2, ⟨hb, v, hd, hw⟩, hl, hw'⟩ => ?_
    · unfold GotD at hg
      rw [hn] at hg
      obtain ⟨hr, v, hb2, hw2⟩ := hg
      rw [World.size_alloc, World.size_alloc] at hw2
      exact ⟨hr, ⟨(But.of_ext x7).trans hb, v, hb2, hw2⟩, e1.but hb n1, e2.but hb n2⟩
    · refine ⟨⟨_, he⟩, hb.below hl, fun h hh => ?_⟩
      injection hh with hh
      subst hh
      refine ⟨v, hd.beneath hl lh, ?_⟩
      rw [hw']
      have w3 : WR entC 9 ((w2.setCell ⟨W.heap.size, 0, none⟩ (.int .i64 0)).setCell ⟨W.heap.size + 1, 0, none⟩ (.int .i64 0)) (W.heap.size + 1 + 1) 49 v m.ents :=
        ownsRow_setCell_below (a := ⟨W.heap.size + 1, 0, none⟩) (ownsRow_setCell_below (a := ⟨W.heap.size, 0, none⟩) hw (show W.heap.size < W.heap.size + 1 + 1 by omega) _) (show W.heap.size + 1 < W.heap.size + 1 + 1 by omega) _
      exact w3
attribute [local go_sem] S_size S_toList man_zero man_build0 tkr_zero tkr_build

set_option maxRecDepth 20000 in
set_option maxHeartbeats 4000000 in
theorem mDecode_any (s : List UInt8) (w : World) (hs : (s.length : Int) ≤ 1000000000) :
    Calls Try.prog 11 #[.string (S s)] w fun r w' => ∃ u, r = .returned (.tuple #[.agg (manC (xM (decM s)) u), .int .i64 (xE (decM s))]) ∧ Ext w w' ∧ RR entC 9 w' u (xM (decM s)).ents := by
  have hmf : ∀ (fn : Fn) (first cap : Array Value) (w : World), (Instr.makeFunc fn first cap).run Try.prog w = .ok (.func fn first cap) w := fun _ _ _ _ => rfl
  have TN := Lib.hid (fun w => tnew_any s w)
  have TS := Lib.hid tkr_size
  have MS := Lib.hid man_size
  have bz := Lib.hid (Blk.new w 24 #[.int .i64 0, .int .i64 0, .int .i64 0, .int .i64 0, .slice none 0 0])
  have X0 := Lib.hid ((Ext.refl w).alloc (.cells #[.int .i64 0, .int .i64 0, .int .i64 0, .int .i64 0, .slice none 0 0] 24))
  go_enter Try.func11, Try.ntmps11
  go_wp2_with fail
  refine (TN.out _).mono ?_
  rintro _ w1 ⟨rfl, bk, x1⟩
  rw [World.size_alloc] at bk ⊢
  have Z1 := Lib.hid (bz.out.ext x1)
  have X1 := Lib.hid (X0.out.trans x1)
  have lk := bk.lt
  have lw := X1.out.size
  -- the taker's struct, the manifest
  have y3 : Ext w1 ((w1.alloc (.cells #[.pointer (some ⟨w.heap.size + 1, 0, none⟩)] 66)).alloc (.cells #[.int .i64 0, .int .i64 0, .int .i64 0, .int .i64 0, .slice none 0 0] 24)) := ((Ext.refl w1).alloc _).alloc _
  have bt := (Blk.new w1 66 #[.pointer (some ⟨w.heap.size + 1, 0, none⟩)]).alloc (.cells #[.int .i64 0, .int .i64 0, .int .i64 0, .int .i64 0, .slice none 0 0] 24)
  have bm := Blk.new (w1.alloc (.cells #[.pointer (some ⟨w.heap.size + 1, 0, none⟩)] 66)) 24 #[.int .i64 0, .int .i64 0, .int .i64 0, .int .i64 0, .slice none 0 0]
  rw [World.size_alloc] at bm
  have Z2 := Lib.hid (Z1.out.ext y3)
  have X2 := Lib.hid (X1.out.trans y3)
  have BM := Lib.hid bm
  have BT := Lib.hid bt
  have BK := Lib.hid (bk.ext y3)
  have LK := Lib.hid lk
  have LW := Lib.hid lw
  clear bm bt bk y3 x1 lk lw Z1 bz X0
  go_wp2_with (refine wpList_store_new rfl 66 (.tmp 4) (.tmp 12) rfl rfl rfl rfl TS.out (by kernel_rfl) ?_; refine Held.go ?_)
  refine ⟨?_⟩
  go_wp2_with fail
  generalize (w1.alloc (.cells #[.pointer (some ⟨w.heap.size + 1, 0, none⟩)] 66)).alloc (.cells #[.int .i64 0, .int .i64 0, .int .i64 0, .int .i64 0, .slice none 0 0] 24) = W at *
  have lk' := LK.out
  have lw' := LW.out
  refine (dec_caught s (w1.heap.size + 1) w1.heap.size (w.heap.size + 1) W hs _ _ _ _ _ BM.out BT.out BK.out (by omega) (by omega) (by omega)).mono ?_
  rintro _ w3 ⟨⟨at_, rfl⟩, hb, hh⟩
  have Z3 := Lib.hid (Z2.out.but hb (by simp; omega))
  have X3 := Lib.hid (Ext.but X2.out hb (by simp; omega))
  have LWW := Lib.hid (show w.heap.size ≤ W.heap.size from X2.out.le)
  clear hb BK BT BM lk' lw' LK LW
  cases hc : decR s with
  | error e =>
    have he := decR_e hc
    have hne : (e != 0) = true := bne_iff_ne.2 (by omega)
    have HG := Lib.hid (show decM s = .error e by unfold decM; rw [hc])
    clear hc hh he
    simp only [xE]
    go_wp2_with (refine wpList_store_blk rfl 24 (.tmp 2) (.tmp 21) rfl rfl rfl Z3.out rfl MS.out (by kernel_rfl) ?_)
    refine bodyPost_ret (results_row_tmp rfl _ _ w.heap.size _ _ (0, 0) _ rfl (Z3.out.setRow #[.int .i64 0, .int .i64 0, .int .i64 0, .int .i64 0, .slice none 0 0]) Try.underlying24 rfl MS.out) rfl ⟨.slice none 0 0, by rw [HG.out]; rfl, X3.out.setRow (Nat.le_refl _) _, by rw [HG.out]; exact RR.nil _⟩
  | ok m =>
    obtain ⟨v, bv, rv⟩ := hh m hc
    have QC := Lib.hid (mCheck_any m v w3 (WR.rr entC_length rv))
    have hsh := rv.shape entC_length
    have RV := Lib.hid rv
    have BV := Lib.hid bv
    clear hh bv rv
    have MS' := Lib.hid (show (Try.prog.info? 24).map (·.size) = some (manC m v).size from man_size)
    cases hp : maniP m with
    | false =>
      have HG := Lib.hid (show decM s = .error 250 by unfold decM; rw [hc]; show (if maniP m then _ else _) = _; rw [hp]; rfl)
      rw [hp] at QC
      simp only [xE, errI, Bool.false_eq_true, if_false] at QC ⊢
      clear hc hp hsh
      generalize manC m v = mc at *
      go_wp2_with (refine wpList_load_blk rfl 24 (.tmp 5) rfl rfl BV.out Try.underlying24 rfl MS'.out ?_; refine Held.go ?_)
      refine ⟨?_⟩
      go_wp2_with fail
      refine QC.out.mono ?_
      rintro _ w4 ⟨rfl, x4⟩
      have Z4 := Lib.hid (Z3.out.ext x4)
      have X4 := Lib.hid (X3.out.trans x4)
      clear x4
      go_wp2_with (refine wpList_store_blk rfl 24 (.tmp 2) (.tmp 27) rfl rfl rfl Z4.out rfl MS.out (by kernel_rfl) ?_)
      refine bodyPost_ret (results_row_tmp rfl _ _ w.heap.size _ _ (0, 0) _ rfl (Z4.out.setRow #[.int .i64 0, .int .i64 0, .int .i64 0, .int .i64 0, .slice none 0 0]) Try.underlying24 rfl MS.out) rfl ⟨.slice none 0 0, by rw [HG.out]; rfl, X4.out.setRow (Nat.le_refl _) _, by rw [HG.out]; exact RR.nil _⟩
    | true =>
      have HG := Lib.hid (show decM s = .ok m by unfold decM; rw [hc]; show (if maniP m then _ else _) = _; rw [hp]; rfl)
      rw [hp] at QC
      simp only [xE, errI, if_true] at QC ⊢
      have ON := Lib.hid (show (manC m v).all (·.oneCell') = true by obtain ⟨_, _, rfl, _, _⟩ := hsh; simp [manC, Value.oneCell'])
      have SZ := Lib.hid (show (#[.int .i64 0, .int .i64 0, .int .i64 0, .int .i64 0, .slice none 0 0] : Array Value).size = (manC m v).size from rfl)
      clear hc hp
      generalize hmc : manC m v = mc at *
      have HMC := Lib.hid hmc
      clear hmc hsh
      go_wp2_with (refine wpList_load_blk rfl 24 (.tmp 5) rfl rfl BV.out Try.underlying24 rfl MS'.out ?_; refine Held.go ?_)
      refine ⟨?_⟩
      go_wp2_with fail
      refine QC.out.mono ?_
      rintro _ w4 ⟨rfl, x4⟩
      have Z4 := Lib.hid (Z3.out.ext x4)
      have X4 := Lib.hid (X3.out.trans x4)
      have V4 := Lib.hid (BV.out.ext x4)
      have R4 := Lib.hid (RV.out.ext x4)
      clear x4
      go_wp2_with (refine wpList_load_blk rfl 24 (.tmp 5) rfl rfl V4.out Try.underlying24 rfl MS'.out ?_; refine Held.go ?_)
      refine ⟨?_⟩
      go_wp2_with (refine wpList_store_blk rfl 24 (.tmp 2) (.tmp 29) rfl rfl rfl Z4.out SZ.out MS'.out ON.out ?_)
      refine bodyPost_ret (results_row_tmp rfl _ _ w.heap.size _ _ (0, 0) _ rfl (Z4.out.setRow mc) Try.underlying24 rfl MS'.out) rfl ⟨v, by rw [HG.out]; show _ = Ending.returned (.tuple #[.agg (manC m v), .int .i64 0]); rw [HMC.out]; rfl, X4.out.setRow (Nat.le_refl _) _, ?_⟩
      rw [HG.out]
      exact WR.rr entC_length (World.ownsRow.kept R4.out (grownBy_setRow _ _ _) (by
        cases hv : v.ownBlock with
        | none => exact .inl rfl
        | some k => exact .inr (by have := (World.ownsRow.lt R4.out k hv).1; have := LWW.out; simp; omega)))
end Go.Proofs.Ytcagcepbnkageaa
namespace Go.Proofs.Ytcagcepbnkageaa
set_option linter.unusedVariables false
set_option linter.unusedSimpArgs false
open Go.RowKit
attribute [local go_sem] S_size S_toList

set_option maxRecDepth 20000 in
set_option maxHeartbeats 4000000 in
theorem nine_any (s : List UInt8) (a : Nat) (w : World) (ha : a ≤ s.length) (hs : (s.length : Int) ≤ 1000000) :
    Calls Try.prog 33 #[.string (S s), .int .i64 (a : Int)] w fun e w' => ∃ u, e = .returned (.tuple #[u, .int .i64 (resT (nineL s 9 0 a)), .int .i64 (resE (nineL s 9 0 a))]) ∧ Ext w w' ∧ RI w' u (toI' (resL (nineL s 9 0 a))) := by
  go_enter Try.func33, Try.ntmps33
  go_wp2
  go_loopw [7, 1, 8] (fun v p i wr => ∃ (j b : Nat) (pre : List Nat), j ≤ 9 ∧ b ≤ s.length ∧ i = .int .i64 (j : Int) ∧ p = .int .i64 (b : Int) ∧ IW wr w.heap.size v (toI' pre) ∧ pre.length = j ∧ nineL s 9 0 a = prepR pre (nineL s (9 - j) j b) ∧ Ext w wr) (fun _ _ i _ => 9 - (intOf i).toNat)
  case atStart => exact ⟨0, a, [], by omega, ha, rfl, rfl, IW.nil _ _, rfl, (prepR_nil _).symm, Ext.refl _⟩
  case round =>
    obtain ⟨j, b, pre, hj, hb, rfl, rfl, hw, hpl, he, hx⟩ := hrel
    have HX := Lib.hid hx
    by_cases hlt : j < 9
    · have hji : (j : Int) < 9 := by omega
      have QG := Lib.hid (rget_any s (b : Int) wr (by omega))
      cases ht : takeN s (b : Int) with
      | error e =>
        have HE := Lib.hid (show nineL s 9 0 a = .error e by rw [he, show 9 - j = (9 - j - 1) + 1 by omega, nineL_err ht]; rfl)
        have hne := takeN_err ht
        have hnb : (e != 0) = true := bne_iff_ne.2 (by omega)
        rw [ht] at QG
        obtain ⟨gv, cv, rfl, _, _⟩ := hw.shape
        generalize (toI' pre).length = lp at *
        clear hw he ht hx hne hpl
        go_wp2_with fail
        refine (QG.out).mono ?_
        rintro _ w1 ⟨rfl, rfl⟩
        simp only [outN, outT, outE]
        go_wp2
        exact bodyPost_ret (results_tmp3 rfl _ _ _) rfl ⟨_, by rw [HE.out]; rfl, HX.out, by rw [HE.out]; exact RI.nil _⟩
      | ok p =>
        obtain ⟨x, k⟩ := p
        have h1 := takeN_ok ht
        by_cases h3 : j = 3
        · have k3 : ((j : Int) == 3) = true := beq_iff_eq.2 (by omega)
          by_cases h1x : 1 < x
          · have kx : (1 : Int) < (x : Int) := by omega
            have HE := Lib.hid (show nineL s 9 0 a = .error 250 by
              subst h3
              rw [he, show 9 - 3 = 5 + 1 by omega, nineL_bad ht h1x]; rfl)
            rw [ht] at QG
            obtain ⟨gv, cv, rfl, _, _⟩ := hw.shape
            generalize (toI' pre).length = lp at *
            clear hw he ht hx hpl h3 h1x
            go_wp2_with fail
            refine (QG.out).mono ?_
            rintro _ w1 ⟨rfl, rfl⟩
            simp only [outN, outT, outE]
            go_wp2
            exact bodyPost_ret (results_tmp3 rfl _ _ _) rfl ⟨_, by rw [HE.out]; rfl, HX.out, by rw [HE.out]; exact RI.nil _⟩
          · have kx : ¬ (1 : Int) < (x : Int) := by omega
            have h3x : ¬ (j = 3 ∧ 1 < x) := fun h => h1x h.2
            clear h3 h1x
            have HE := Lib.hid (show nineL s 9 0 a = prepR (pre ++ [x]) (nineL s (9 - (j + 1)) (j + 1) (b + k)) by rw [he, show 9 - j = (9 - (j + 1)) + 1 by omega, nineL_ok ht h3x, prepR_two])
            rw [ht] at QG
            obtain ⟨v', w', p1, p2, p3, _⟩ := hw.app hx.le (x : Int) (by rw [toI'_length]; omega)
            rw [toI'_snoc] at p2
            have HB := Lib.hid p2
            have HX2 := Lib.hid (Below.trans hx p3 : Ext w w')
            have HPL := Lib.hid (show (pre ++ [x]).length = j + 1 by rw [List.length_append, hpl]; rfl)
            obtain ⟨gv, cv, rfl, _, _⟩ := hw.shape
            obtain ⟨g2, c2, rfl, _, _⟩ := p2.shape
            generalize (toI' pre).length = lp at *
            generalize (toI' (pre ++ [x])).length = lp2 at *
            have hbk : (b : Int) + (k : Int) ≤ 1000000 := by omega
            clear hw he ht hx p2 p3 hpl h3x
            go_wp2_with fail
            refine (QG.out).mono ?_
            rintro _ w1 ⟨rfl, rfl⟩
            simp only [outN, outT, outE]
            go_wp2_with (at_builtin; refine wpList_app rfl (.tmp 32) (.tmp 34) 51 rfl rfl rfl rfl p1 ?_)
            go_roundw
            case rel => exact ⟨j + 1, b + k, _, by omega, h1.1, by go_num, by go_num, HB.out, HPL.out, HE.out, HX2.out⟩
            case measure => simp [intOf]; omega
        · have k3 : ((j : Int) == 3) = false := beq_eq_false_iff_ne.2 (by omega)
          have h3x : ¬ (j = 3 ∧ 1 < x) := fun h => h3 h.1
          clear h3
          have HE := Lib.hid (show nineL s 9 0 a = prepR (pre ++ [x]) (nineL s (9 - (j + 1)) (j + 1) (b + k)) by rw [he, show 9 - j = (9 - (j + 1)) + 1 by omega, nineL_ok ht h3x, prepR_two])
          rw [ht] at QG
          obtain ⟨v', w', p1, p2, p3, _⟩ := hw.app hx.le (x : Int) (by rw [toI'_length]; omega)
          rw [toI'_snoc] at p2
          have HB := Lib.hid p2
          have HX2 := Lib.hid (Below.trans hx p3 : Ext w w')
          have HPL := Lib.hid (show (pre ++ [x]).length = j + 1 by rw [List.length_append, hpl]; rfl)
          obtain ⟨gv, cv, rfl, _, _⟩ := hw.shape
          obtain ⟨g2, c2, rfl, _, _⟩ := p2.shape
          generalize (toI' pre).length = lp at *
          generalize (toI' (pre ++ [x])).length = lp2 at *
          have hbk : (b : Int) + (k : Int) ≤ 1000000 := by omega
          clear hw he ht hx p2 p3 hpl h3x
          go_wp2_with fail
          refine (QG.out).mono ?_
          rintro _ w1 ⟨rfl, rfl⟩
          simp only [outN, outT, outE]
          go_wp2_with (at_builtin; refine wpList_app rfl (.tmp 32) (.tmp 34) 51 rfl rfl rfl rfl p1 ?_)
          go_roundw
          case rel => exact ⟨j + 1, b + k, _, by omega, h1.1, by go_num, by go_num, HB.out, HPL.out, HE.out, HX2.out⟩
          case measure => simp [intOf]; omega
    · have e : j = 9 := by omega
      subst e
      have HE := Lib.hid (show nineL s 9 0 a = .ok (pre, b) by
        rw [he, Nat.sub_self]
        show Except.ok (pre ++ [], b) = _
        rw [List.append_nil])
      have HI := Lib.hid hw.ri
      obtain ⟨gv, cv, rfl, _, _⟩ := hw.shape
      generalize (toI' pre).length = lp at *
      clear hw he hx hpl
      go_wp2
      exact bodyPost_ret (results_tmp3 rfl _ _ _) rfl ⟨_, by rw [HE.out]; rfl, HX.out, by rw [HE.out]; exact HI.out⟩
end Go.Proofs.Ytcagcepbnkageaa
namespace Go.Proofs.Ytcagcepbnkageaa
set_option linter.unusedVariables false
set_option linter.unusedSimpArgs false
open Go.RowKit
theorem ent_zero9'' (w : World) : (zeroValue 49).run Try.prog w = .ok (.agg #[.int .i64 0, .int .i64 0, .int .i64 0, .bool false, .int .i64 0, .int .i64 0, .int .i64 0, .int .i64 0, .int .i64 0]) w := by kernel_rfl
theorem ent_build7 (a b c : Int) (d : Bool) (e f g h i : Int) (w : World) : (Instr.build 49 #[(0, .agg #[.int .i64 a, .int .i64 b, .int .i64 c]), (1, .bool d), (2, .int .i64 e), (3, .int .i64 f), (4, .int .i64 g), (5, .int .i64 h), (6, .int .i64 i)]).run Try.prog w = .ok (.agg #[.int .i64 a, .int .i64 b, .int .i64 c, .bool d, .int .i64 e, .int .i64 f, .int .i64 g, .int .i64 h, .int .i64 i]) w := by kernel_rfl
theorem hd_build3' (a b c : Int) (w : World) : (Instr.build 26 #[(0, .int .i64 a), (1, .int .i64 b), (2, .int .i64 c)]).run Try.prog w = .ok (.agg #[.int .i64 a, .int .i64 b, .int .i64 c]) w := by kernel_rfl
attribute [local go_sem] S_size S_toList man_zero man_build0 man_build4 ent_zero9'' ent_build7 hd_build3'

set_option maxRecDepth 20000 in
set_option maxHeartbeats 16000000 in
theorem rMDecode_any (s : List UInt8) (w : World) (hs : (s.length : Int) ≤ 1000000) :
    Calls Try.prog 12 #[.string (S s)] w fun r w' => ∃ u, r = .returned (.tuple #[.agg (manC (xM (decM s)) u), .int .i64 (xE (decM s))]) ∧ Ext w w' ∧ RR entC 9 w' u (xM (decM s)).ents := by
  have MS := Lib.hid man_size
  have ES := Lib.hid (show (Try.prog.info? 49).map (·.size) = some 9 from ent_size)
  have bz := Lib.hid (Blk.new w 24 #[.int .i64 0, .int .i64 0, .int .i64 0, .int .i64 0, .slice none 0 0])
  have X0 := Lib.hid ((Ext.refl w).alloc (.cells #[.int .i64 0, .int .i64 0, .int .i64 0, .int .i64 0, .slice none 0 0] 24))
  have QN := Lib.hid (fun a h w => nine_any s a w h hs)
  go_enter Try.func12, Try.ntmps12
  go_wp2
  generalize hw0 : w.alloc (.cells #[.int .i64 0, .int .i64 0, .int .i64 0, .int .i64 0, .slice none 0 0] 24) = w0 at *
  clear hw0
  go_loopw [4, 5, 6] (fun v q i wr => ∃ (j b : Nat) (pre : List Nat), j ≤ 5 ∧ b ≤ s.length ∧ i = .int .i64 (j : Int) ∧ q = .int .i64 (b : Int) ∧ IW wr w0.heap.size v (toI' pre) ∧ pre.length = j ∧ numsR s 5 0 = prepR pre (numsR s (5 - j) b) ∧ Ext w0 wr) (fun _ _ i _ => 5 - (intOf i).toNat)
  case atStart => exact ⟨0, 0, [], by omega, Nat.zero_le _, rfl, rfl, IW.nil _ _, rfl, (prepR_nil _).symm, Ext.refl _⟩
  case round =>
    obtain ⟨j, b, pre, hj, hb, rfl, rfl, hw, hpl, he, hx⟩ := hrel
    have HX := Lib.hid hx
    by_cases hlt : j < 5
    · have hji : (j : Int) < 5 := by omega
      have QG := Lib.hid (rget_any s (b : Int) wr (by omega))
      cases ht : takeN s (b : Int) with
      | error e =>
        have HE := Lib.hid (show decM s = .error e by unfold decM; rw [decR_nums (show numsR s 5 0 = .error e by rw [he, show 5 - j = (5 - j - 1) + 1 by omega, numsR_err ht]; rfl)])
        have hne := takeN_err ht
        have hnb : (e != 0) = true := bne_iff_ne.2 (by omega)
        rw [ht] at QG
        obtain ⟨gv, cv, rfl, _, _⟩ := hw.shape
        generalize (toI' pre).length = lp at *
        have Z := Lib.hid (bz.out.ext hx)
        clear hw he ht hx hne hpl
        go_wp2_with fail
        refine (QG.out).mono ?_
        rintro _ w1 ⟨rfl, rfl⟩
        simp only [outN, outT, outE]
        go_wp2_with (refine wpList_store_blk rfl 24 (.tmp 2) (.tmp 29) rfl rfl rfl Z.out rfl MS.out (by kernel_rfl) ?_)
        exact bodyPost_ret (results_row_tmp rfl _ _ w.heap.size _ _ (0, 0) _ rfl (Z.out.setRow #[.int .i64 0, .int .i64 0, .int .i64 0, .int .i64 0, .slice none 0 0]) Try.underlying24 rfl MS.out) rfl ⟨.slice none 0 0, by rw [HE.out]; rfl, (X0.out.trans HX.out).setRow (Nat.le_refl _) _, by rw [HE.out]; exact RR.nil _⟩
      | ok q =>
        obtain ⟨x, k⟩ := q
        have h1 := takeN_ok ht
        have HE := Lib.hid (show numsR s 5 0 = prepR (pre ++ [x]) (numsR s (5 - (j + 1)) (b + k)) by rw [he, show 5 - j = (5 - (j + 1)) + 1 by omega, numsR_ok ht, prepR_two])
        rw [ht] at QG
        obtain ⟨v', w', p1, p2, p3, _⟩ := hw.app hx.le (x : Int) (by rw [toI'_length]; omega)
        rw [toI'_snoc] at p2
        have HB := Lib.hid p2
        have HX2 := Lib.hid (Below.trans hx p3 : Ext w0 w')
        have HPL := Lib.hid (show (pre ++ [x]).length = j + 1 by rw [List.length_append, hpl]; rfl)
        obtain ⟨gv, cv, rfl, _, _⟩ := hw.shape
        obtain ⟨g2, c2, rfl, _, _⟩ := p2.shape
        generalize (toI' pre).length = lp at *
        generalize (toI' (pre ++ [x])).length = lp2 at *
        have hbk : (b : Int) + (k : Int) ≤ 1000000 := by omega
        clear hw he ht hx p2 p3 hpl
        go_wp2_with fail
        refine (QG.out).mono ?_
        rintro _ w1 ⟨rfl, rfl⟩
        simp only [outN, outT, outE]
        go_wp2_with (at_builtin; refine wpList_app rfl (.tmp 31) (.tmp 33) 51 rfl rfl rfl rfl p1 ?_)
        go_roundw
        case rel => exact ⟨j + 1, b + k, _, by omega, h1.1, by go_num, by go_num, HB.out, HPL.out, HE.out, HX2.out⟩
        case measure => simp [intOf]; omega
    · have e : j = 5 := by omega
      subst e
      have HNUM := Lib.hid (show numsR s 5 0 = .ok (pre, b) by
        rw [he, Nat.sub_self]
        show Except.ok (pre ++ [], b) = _
        rw [List.append_nil])
      obtain ⟨x0, x1, x2, x3, x4, rfl⟩ : ∃ x0 x1 x2 x3 x4, pre = [x0, x1, x2, x3, x4] := by
        match pre, hpl with
        | [x0, x1, x2, x3, x4], _ => exact ⟨x0, x1, x2, x3, x4, rfl⟩
      obtain ⟨A, c, rfl, hlc, hsh⟩ := hw.shape
      obtain ⟨g, rfl, _, hglt, hc, _⟩ := hsh (by simp [toI'])
      have HGL := Lib.hid hglt
      simp only [toI', List.map_cons, List.map_nil, List.length_cons, List.length_nil, Nat.zero_add, Nat.reduceAdd] at *
      have e0 := hc 0 (by simp)
      have e1 := hc 1 (by simp)
      have e2 := hc 2 (by simp)
      have e3 := hc 3 (by simp)
      have e4 := hc 4 (by simp)
      simp only [List.getD_cons_zero, List.getD_cons_succ, Nat.add_zero] at e0 e1 e2 e3 e4
      have HLC := Lib.hid hlc
      have HB := Lib.hid hb
      have E0 := Lib.hid e0
      have E1 := Lib.hid e1
      have E2 := Lib.hid e2
      have E3 := Lib.hid e3
      have E4 := Lib.hid e4
      have Z := Lib.hid (bz.out.ext hx)
      have X1 := Lib.hid (X0.out.trans hx)
      clear hw he hx hpl hc hsh hlc e0 e1 e2 e3 bz X0
      by_cases hn : (x4 : Int) ≤ 100
      · have kn : ¬ (100 : Int) < (x4 : Int) := by omega
        have HN := Lib.hid hn
        have d0 := up_cell (W := wr.drew) E0.out
        have d1 := up_cell (W := wr.drew) E1.out
        have d2 := up_cell (W := wr.drew) E2.out
        have d3 := up_cell (W := wr.drew) E3.out
        clear hn
        go_wp2
        clear e4
        refine wp_region_lex 15 rfl (by kernel_rfl) ?_
        iterate 13
          (refine lex_want (by kernel_rfl) (by kernel_rfl) (by kernel_rfl) (by kernel_rfl) (fun _ _ _ _ h => h) (by kernel_rfl) (fun K hK => ?_)
           go_simp
           (refine hK _ ?_; clear hK K))
        refine lex_only (by kernel_rfl) (by kernel_rfl) (fun xu K hK => ?_)
        go_simp
        refine hK.out _ _ ((Ext.refl _).alloc _) ?_
        clear hK K
        refine lex_last (by kernel_rfl) (by kernel_rfl) (by kernel_rfl) (by kernel_rfl) (by kernel_rfl) (fun xv K hK => ?_)
        have bz := (Blk.new xu.val 24 #[.int .i64 0, .int .i64 0, .int .i64 0, .int .i64 0, .slice none 0 0]).ext xv.ext
        refine wp_store_blk 24 (.tmp 10) (.tmp 53) rfl rfl rfl bz rfl MS.out (by kernel_rfl) (hK _ _ (fun y => ?_))
        dsimp only [Act.put]
        have BM := Lib.hid ((bz.setRow #[.int .i64 (x0 : Int), .int .i64 (x1 : Int), .int .i64 (x2 : Int), .int .i64 (x3 : Int), .slice none 0 0]).ext y.ext)
        have hM := Lib.hid (show wr.heap.size ≤ xu.val.heap.size from xu.ext.le)
        have y7 : Ext wr y.val := Ext.trans (Ext.setRow (((Ext.trans (Ext.refl wr).drew xu.ext).alloc _).trans xv.ext) hM.out _) y.ext
        have X7 := Lib.hid (X1.out.trans y7)
        have Z7 := Lib.hid (Z.out.ext y7)
        have E47 := Lib.hid (Go.cell_later y7 E4.out)
        have GM1 := Lib.hid (show w.heap.size < xu.val.heap.size by have := Z.out.lt; have := hM.out; omega)
        have GMW := Lib.hid (BM.out.lt)
        have GL7 := Lib.hid (show g < y.val.heap.size from Nat.lt_of_lt_of_le HGL.out y7.size)
        have GG := Lib.hid (show g ≠ xu.val.heap.size by
          intro e
          have := hM.out
          have := HGL.out
          omega)
        clear hK bz y7 d0 d1 d2 d3 X1 Z E0 E1 E2 E3 E4 hb
        generalize hB5 : b = B5 at *
        clear hB5
        generalize y.val = w7 at *
        generalize xu.val.heap.size = gm at *

        have HN7 := HN.out
        go_wp2
        go_loopw [5, 11] (fun q i wr => ∃ (k b : Nat) (es : List E9) (v : Value), i = .int .i64 (k : Int) ∧ q = .int .i64 (b : Int) ∧ k ≤ x4 ∧ b ≤ s.length ∧ wr.cell? ⟨g, 4, none⟩ = some (.int .i64 (x4 : Int)) ∧ Blk wr w.heap.size 24 #[.int .i64 0, .int .i64 0, .int .i64 0, .int .i64 0, .slice none 0 0] ∧ Blk wr gm 24 #[.int .i64 (x0 : Int), .int .i64 (x1 : Int), .int .i64 (x2 : Int), .int .i64 (x3 : Int), v] ∧ WR entC 9 wr w7.heap.size 49 v es ∧ es.length = k ∧ entsR s x4 B5 = prepEs es (entsR s (x4 - k) b) ∧ Ext w wr ∧ w7.heap.size ≤ wr.heap.size) (fun _ i _ => x4 - (intOf i).toNat)
        case atStart => exact ⟨0, B5, [], .slice none 0 0, rfl, rfl, Nat.zero_le _, HB.out, E47.out, Z7.out, BM.out, WR.nil _ _ _, rfl, (prepEs_nil _).symm, X7.out, Nat.le_refl _⟩
        case round =>
          obtain ⟨k, b, es, v, rfl, rfl, hk, hb, c4, hz, hm, hw, hlen, hrec, hx, hsz⟩ := hrel
          clear BM X7 Z7 E47
          by_cases hlt : k < x4
          · have hI : (k : Int) < (x4 : Int) := by omega
            have Q9 := Lib.hid (QN.out b hb)
            have C4 := Lib.hid c4
            have HZ := Lib.hid hz
            have HM := Lib.hid hm
            have HX := Lib.hid hx
            have HW := Lib.hid hw
            have HSZ := Lib.hid hsz
            cases hx9 : nineL s 9 0 b with
            | error e =>
              have he := nineL_e hx9
              have hne : (e != 0) = true := bne_iff_ne.2 (by omega)
              have HE := Lib.hid (show decM s = .error e by unfold decM; rw [decR_err HNUM.out HN.out (entsR_stop hlt hrec hx9)])
              rw [hx9] at Q9
              clear hrec hx9 he hz hm hx hw hlen
              go_wp2_with fail
              refine (Q9.out _).mono ?_
              rintro _ w8 ⟨u, rfl, y8, _⟩
              have Z8 := Lib.hid (HZ.out.ext y8)
              have X8 := Lib.hid (HX.out.trans y8)
              clear y8 c4
              simp only [resT, resE]
              go_wp2_with (refine wpList_store_blk rfl 24 (.tmp 2) (.tmp 70) rfl rfl rfl Z8.out rfl MS.out (by kernel_rfl) ?_)
              exact bodyPost_ret (results_row_tmp rfl _ _ w.heap.size _ _ (0, 0) _ rfl (Z8.out.setRow #[.int .i64 0, .int .i64 0, .int .i64 0, .int .i64 0, .slice none 0 0]) Try.underlying24 rfl MS.out) rfl ⟨.slice none 0 0, by rw [HE.out]; rfl, X8.out.setRow (Nat.le_refl _) _, by rw [HE.out]; exact RR.nil _⟩
            | ok q =>
              obtain ⟨ls, t⟩ := q
              have hle := nineL_le hb hx9
              have HREC := Lib.hid (entsR_step hlt hrec hx9)
              rw [hx9] at Q9
              obtain ⟨z0, z1, z2, z3, z4, z5, z6, z7, z8, rfl⟩ : ∃ z0 z1 z2 z3 z4 z5 z6 z7 z8, ls = [z0, z1, z2, z3, z4, z5, z6, z7, z8] := by
                match ls, hle.2.2.1 with
                | [z0, z1, z2, z3, z4, z5, z6, z7, z8], _ => exact ⟨z0, z1, z2, z3, z4, z5, z6, z7, z8, rfl⟩
              have HT2 := Lib.hid hle.2.1
              have HLT := Lib.hid hlt
              have HLEN := Lib.hid hlen
              clear hrec hx9 hz hm hx hw hlen hle
              go_wp2_with fail
              refine (Q9.out _).mono ?_
              rintro _ w8 ⟨u, rfl, y8, ru⟩
              simp only [resT, resE, resL, toI', List.map_cons, List.map_nil] at *
              obtain ⟨A, c', rfl, hlc', _, hsh⟩ := ru.shape
              obtain ⟨g', o', rfl, hc⟩ := hsh (by simp)
              simp only [List.length_cons, List.length_nil, Nat.zero_add, Nat.reduceAdd] at *
              have e0 := hc 0 (by simp)
              have e1 := hc 1 (by simp)
              have e2 := hc 2 (by simp)
              have e3 := hc 3 (by simp)
              have e4 := hc 4 (by simp)
              have e5 := hc 5 (by simp)
              have e6 := hc 6 (by simp)
              have e7 := hc 7 (by simp)
              have e8 := hc 8 (by simp)
              simp only [List.getD_cons_zero, List.getD_cons_succ, Nat.add_zero] at e0 e1 e2 e3 e4 e5 e6 e7 e8
              have d0 := up_cell (W := w8.drew) e0
              have d1 := up_cell (W := w8.drew) e1
              have d2 := up_cell (W := w8.drew) e2
              have d3 := up_cell (W := w8.drew) e3
              have d4 := up_cell (W := w8.drew) e4
              have d5 := up_cell (W := w8.drew) e5
              have d6 := up_cell (W := w8.drew) e6
              have d7 := up_cell (W := w8.drew) e7
              have d8 := up_cell (W := w8.drew) e8
              have Y8 := Lib.hid y8
              obtain ⟨sl, hsl⟩ : ∃ sl, ((z3 : Int) == 1) = sl := ⟨_, rfl⟩
              have HSL := Lib.hid hsl
              clear hc hsh y8 ru Q9 e0 e1 e2 e3 e4 e5 e6 e7 e8 hlc' c4
              go_wp2
              refine wp_region_lex 32 rfl (by kernel_rfl) ?_
              iterate 30
                (refine lex_want (by kernel_rfl) (by kernel_rfl) (by kernel_rfl) (by kernel_rfl) (fun _ _ _ _ h => h) (by kernel_rfl) (fun K hK => ?_)
                 go_simp
                 (refine hK _ ?_; clear hK K))
              refine lex_only (by kernel_rfl) (by kernel_rfl) (fun xu K hK => ?_)
              go_simp
              refine hK.out _ _ ((Ext.refl _).alloc _) ?_
              clear hK K
              refine lex_last (by kernel_rfl) (by kernel_rfl) (by kernel_rfl) (by kernel_rfl) (by kernel_rfl) (fun xv K hK => ?_)
              have be := (Blk.new xu.val 49 #[.int .i64 0, .int .i64 0, .int .i64 0, .bool false, .int .i64 0, .int .i64 0, .int .i64 0, .int .i64 0, .int .i64 0]).ext xv.ext
              refine wp_store_blk 49 (.tmp 15) (.tmp 101) rfl rfl (cs' := #[.int .i64 (z0 : Int), .int .i64 (z1 : Int), .int .i64 (z2 : Int), .bool sl, .int .i64 (z4 : Int), .int .i64 (z5 : Int), .int .i64 (z6 : Int), .int .i64 (z7 : Int), .int .i64 (z8 : Int)]) (by first | rfl | simp [hsl]) be rfl ES.out (by kernel_rfl) (hK _ _ (fun y => ?_))
              dsimp only [Act.put]
              have BE := Lib.hid ((be.setRow #[.int .i64 (z0 : Int), .int .i64 (z1 : Int), .int .i64 (z2 : Int), .bool sl, .int .i64 (z4 : Int), .int .i64 (z5 : Int), .int .i64 (z6 : Int), .int .i64 (z7 : Int), .int .i64 (z8 : Int)]).ext y.ext)
              have hE := Lib.hid (show w8.heap.size ≤ xu.val.heap.size from xu.ext.le)
              have y9 : Ext w8 y.val := Ext.trans (Ext.setRow (((Ext.trans (Ext.refl w8).drew xu.ext).alloc _).trans xv.ext) hE.out _) y.ext
              have Y9 := Lib.hid (Y8.out.trans y9)
              clear hK be y9 d0 d1 d2 d3 d4 d5 d6 d7 d8 hsl
              generalize y.val = w9 at *
              generalize xu.val.heap.size = ge at *
              have HM9 := HM.out.ext Y9.out
              have c9 : w9.cell? ⟨gm, 4, none⟩ = some v := HM9.cell 4
              obtain ⟨v', W', p1, p2, p3, _⟩ := EW.app (HW.out.ext Y9.out) (Nat.le_trans HSZ.out Y9.out.le) (⟨(z0 : Int), (z1 : Int), (z2 : Int), sl, (z4 : Int), (z5 : Int), (z6 : Int), (z7 : Int), (z8 : Int)⟩ : E9) (by have := HLEN.out; have := HN.out; have := HLT.out; omega)
              have P1 : (Builtin.append_ #[22, 22] 22 #[v, .slice (some ⟨w9.heap.size, 0, none⟩) 1 1]).run Try.prog (w9.alloc (.cells #[.int .i64 (z0 : Int), .int .i64 (z1 : Int), .int .i64 (z2 : Int), .bool sl, .int .i64 (z4 : Int), .int .i64 (z5 : Int), .int .i64 (z6 : Int), .int .i64 (z7 : Int), .int .i64 (z8 : Int)] 49)) = .ok v' W' := p1
              have MK : mkE [z0, z1, z2, z3, z4, z5, z6, z7, z8] = ⟨(z0 : Int), (z1 : Int), (z2 : Int), sl, (z4 : Int), (z5 : Int), (z6 : Int), (z7 : Int), (z8 : Int)⟩ := by
                have e : decide (z3 = 1) = sl := by rw [← HSL.out, Bool.eq_iff_iff, beq_iff_eq, decide_eq_true_eq]; omega
                show E9.mk _ _ _ (decide (z3 = 1)) _ _ _ _ _ = _
                rw [e]; rfl
              have gmlt : gm < w7.heap.size := GMW.out
              have hm3 := Blk.beneath HM9 p3 gmlt
              have cm3 : W'.cell? ⟨gm, 4, none⟩ = some v := hm3.cell 4
              have fm3 := hm3.frozen 4
              have f1 := hm3.set_ 4 v'
              simp only [List.setIfInBounds_toArray, List.set_cons_succ, List.set_cons_zero] at f1
              have f2 := ownsRow_setCell_below p2 (a := ⟨gm, 4, none⟩) gmlt v'
              have hwl := HX.out.le
              have f3 : Blk (W'.setCell ⟨gm, 4, none⟩ v') w.heap.size 24 #[.int .i64 0, .int .i64 0, .int .i64 0, .int .i64 0, .slice none 0 0] := Blk.far (Blk.beneath (HZ.out.ext Y9.out) p3 (by have := GM1.out; omega)) (p := ⟨gm, 4, none⟩) (by have := GM1.out; show w.heap.size ≠ gm; omega) _
              have hxs : w.heap.size ≤ w7.heap.size := by have := GM1.out; omega
              have f4 : Ext w (W'.setCell ⟨gm, 4, none⟩ v') := Ext.set (Below.trans (HX.out.trans Y9.out) (Below.mono p3 hxs)) (p := ⟨gm, 4, none⟩) (by have := GM1.out; show w.heap.size ≤ gm; omega) _
              have f5 : (W'.setCell ⟨gm, 4, none⟩ v').cell? ⟨g, 4, none⟩ = some (.int .i64 (x4 : Int)) := by
                rw [World.cell?_of_block (w := W') (a := ⟨g, 4, none⟩) (Below.heap_setCell W' ⟨gm, 4, none⟩ v' g GG.out), World.cell?_of_block (w := w9) (a := ⟨g, 4, none⟩) (p3.block g GL7.out)]
                exact Go.cell_later Y9.out C4.out
              have f6 : w7.heap.size ≤ (W'.setCell ⟨gm, 4, none⟩ v').heap.size := by
                rw [show (W'.setCell ⟨gm, 4, none⟩ v').heap.size = W'.heap.size by simp [World.setCell]]
                exact Nat.le_trans (Nat.le_trans HSZ.out Y9.out.le) p3.size
              rw [← MK] at f2
              obtain ⟨av, cv, rfl, _, _⟩ := (show WR entC 9 W' w7.heap.size 49 v' (es ++ [_]) from p2).shape entC_length
              have F1 := Lib.hid f1
              have F2 := Lib.hid f2
              have F3 := Lib.hid f3
              have F4 := Lib.hid f4
              have F5 := Lib.hid f5
              have F6 := Lib.hid f6
              have CM := Lib.hid cm3
              have FM := Lib.hid fm3
              generalize (es ++ [(⟨(z0 : Int), (z1 : Int), (z2 : Int), sl, (z4 : Int), (z5 : Int), (z6 : Int), (z7 : Int), (z8 : Int)⟩ : E9)]).length = nl at *
              clear f1 f2 f3 f4 f5 f6 hm3 HM9 p1 p2 p3 MK gmlt hwl hxs cm3 fm3 hI hlt
              go_wp2_with (refine wpList_load_blk rfl 49 (.tmp 15) rfl rfl BE.out Try.underlying49 rfl ES.out ?_; refine Held.go ?_)
              refine ⟨?_⟩
              go_wp2_with (refine wpList_bs (vs := #[(0, .agg #[.int .i64 (z0 : Int), .int .i64 (z1 : Int), .int .i64 (z2 : Int), .bool sl, .int .i64 (z4 : Int), .int .i64 (z5 : Int), .int .i64 (z6 : Int), .int .i64 (z7 : Int), .int .i64 (z8 : Int)])]) rfl 22 1 _ rfl rfl (run_bs1e _ _ _ _ _ _ _ _ _ _) ?_; refine Held.go ?_)
              refine ⟨?_⟩
              go_wp2_with (at_builtin; refine wpList_app rfl (.tmp 103) (.tmp 105) 22 rfl rfl rfl rfl P1 ?_; refine Held.go ?_)
              refine ⟨?_⟩
              have cm := CM.out
              have fm := FM.out
              clear P1 c9
              go_wp2
              go_roundw
              case rel => exact ⟨k + 1, t, es ++ [mkE [z0, z1, z2, z3, z4, z5, z6, z7, z8]], _, by go_num, rfl, HLT.out, HT2.out, F5.out, F3.out, F1.out, F2.out, by rw [List.length_append, HLEN.out]; rfl, HREC.out, F4.out, F6.out⟩
              case measure => simp [intOf]; have := HLT.out; omega
          · obtain rfl : k = x4 := by omega
            have hI : ¬ (k : Int) < (k : Int) := by omega
            rw [Nat.sub_self] at hrec
            have hrec : entsR s k B5 = .ok (es, b) := by rw [hrec]; show Except.ok (es ++ [], b) = _; rw [List.append_nil]
            have HZ := Lib.hid hz
            have HX := Lib.hid hx
            have HM := Lib.hid hm
            have HW := Lib.hid hw
            by_cases hbl : b = s.length
            · have hD := decR_ok HNUM.out HN.out hrec hbl
              have kb : ¬ (b : Int) < (s.length : Int) := by omega
              have hD : decR s = .ok ⟨(x0 : Int), (x1 : Int), (x2 : Int), (x3 : Int), es⟩ := hD
              have q := rMCheck_any ⟨(x0 : Int), (x1 : Int), (x2 : Int), (x3 : Int), es⟩ v wr (WR.rr entC_length hw)
              have Q := Lib.hid (show Calls Try.prog 16 #[.agg #[.int .i64 (x0 : Int), .int .i64 (x1 : Int), .int .i64 (x2 : Int), .int .i64 (x3 : Int), v]] wr fun r w' => r = .returned (.int .i64 (errI (maniP ⟨(x0 : Int), (x1 : Int), (x2 : Int), (x3 : Int), es⟩) 250)) ∧ Ext wr w' from q)
              obtain ⟨av, cv, rfl, _, _⟩ := hw.shape entC_length
              clear q hrec hbl hlt hz hx hm hw hlen
              cases hp : maniP ⟨(x0 : Int), (x1 : Int), (x2 : Int), (x3 : Int), es⟩ with
              | false =>
                have HE := Lib.hid (show decM s = .error 250 by unfold decM; rw [hD]; show (if maniP _ then _ else _) = _; rw [hp]; rfl)
                rw [hp] at Q
                simp only [errI, Bool.false_eq_true, if_false] at Q
                clear hD hp
                go_wp2_with (refine wpList_load_blk rfl 24 (.tmp 10) rfl rfl HM.out Try.underlying24 rfl MS.out ?_; refine Held.go ?_)
                refine ⟨?_⟩
                go_wp2_with fail
                refine Q.out.mono ?_
                rintro _ w8 ⟨rfl, y8⟩
                have Z8 := Lib.hid (HZ.out.ext y8)
                have X8 := Lib.hid (HX.out.trans y8)
                clear y8
                go_wp2_with (refine wpList_store_blk rfl 24 (.tmp 2) (.tmp 117) rfl rfl rfl Z8.out rfl MS.out (by kernel_rfl) ?_)
                exact bodyPost_ret (results_row_tmp rfl _ _ w.heap.size _ _ (0, 0) _ rfl (Z8.out.setRow #[.int .i64 0, .int .i64 0, .int .i64 0, .int .i64 0, .slice none 0 0]) Try.underlying24 rfl MS.out) rfl ⟨.slice none 0 0, by rw [HE.out]; rfl, X8.out.setRow (Nat.le_refl _) _, by rw [HE.out]; exact RR.nil _⟩
              | true =>
                have HE := Lib.hid (show decM s = .ok ⟨(x0 : Int), (x1 : Int), (x2 : Int), (x3 : Int), es⟩ by unfold decM; rw [hD]; show (if maniP _ then _ else _) = _; rw [hp]; rfl)
                rw [hp] at Q
                simp only [errI, if_true] at Q
                clear hD hp
                go_wp2_with (refine wpList_load_blk rfl 24 (.tmp 10) rfl rfl HM.out Try.underlying24 rfl MS.out ?_; refine Held.go ?_)
                refine ⟨?_⟩
                go_wp2_with fail
                refine Q.out.mono ?_
                rintro _ w8 ⟨rfl, y8⟩
                have Z8 := Lib.hid (HZ.out.ext y8)
                have X8 := Lib.hid (HX.out.trans y8)
                have M8 := Lib.hid (HM.out.ext y8)
                have W8 := Lib.hid (HW.out.ext y8)
                clear y8
                go_wp2_with (refine wpList_load_blk rfl 24 (.tmp 10) rfl rfl M8.out Try.underlying24 rfl MS.out ?_; refine Held.go ?_)
                refine ⟨?_⟩
                go_wp2_with (refine wpList_store_blk rfl 24 (.tmp 2) (.tmp 118) rfl rfl rfl Z8.out rfl MS.out (by kernel_rfl) ?_)
                refine bodyPost_ret (results_row_tmp rfl _ _ w.heap.size _ _ (0, 0) _ rfl (Z8.out.setRow _) Try.underlying24 rfl MS.out) rfl ⟨_, by rw [HE.out]; rfl, X8.out.setRow (Nat.le_refl _) _, ?_⟩
                rw [HE.out]
                exact WR.rr entC_length (World.ownsRow.kept W8.out (grownBy_setRow _ _ _) (by
                  cases hv : (Value.slice av es.length cv).ownBlock with
                  | none => exact .inl rfl
                  | some k => exact .inr (by have := (World.ownsRow.lt W8.out k hv).1; have := GM1.out; have := GMW.out; simp; omega)))
            · have HE := Lib.hid (show decM s = .error 6 by unfold decM; rw [decR_rest HNUM.out HN.out hrec hbl])
              have kb : (b : Int) < (s.length : Int) := by omega
              clear hrec hbl hlt hz hx hm hw hlen
              go_wp2_with (refine wpList_store_blk rfl 24 (.tmp 2) (.tmp 113) rfl rfl rfl HZ.out rfl MS.out (by kernel_rfl) ?_)
              exact bodyPost_ret (results_row_tmp rfl _ _ w.heap.size _ _ (0, 0) _ rfl (HZ.out.setRow #[.int .i64 0, .int .i64 0, .int .i64 0, .int .i64 0, .slice none 0 0]) Try.underlying24 rfl MS.out) rfl ⟨.slice none 0 0, by rw [HE.out]; rfl, HX.out.setRow (Nat.le_refl _) _, by rw [HE.out]; exact RR.nil _⟩
      · have kn : (100 : Int) < (x4 : Int) := by omega
        have HE := Lib.hid (show decM s = .error 3 by unfold decM; rw [decR_big HNUM.out hn])
        clear hn
        go_wp2_with (refine wpList_store_blk rfl 24 (.tmp 2) (.tmp 40) rfl rfl rfl Z.out rfl MS.out (by kernel_rfl) ?_)
        exact bodyPost_ret (results_row_tmp rfl _ _ w.heap.size _ _ (0, 0) _ rfl (Z.out.setRow #[.int .i64 0, .int .i64 0, .int .i64 0, .int .i64 0, .slice none 0 0]) Try.underlying24 rfl MS.out) rfl ⟨.slice none 0 0, by rw [HE.out]; rfl, X1.out.setRow (Nat.le_refl _) _, by rw [HE.out]; exact RR.nil _⟩
end Go.Proofs.Ytcagcepbnkageaa
