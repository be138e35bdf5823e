/- varveref21: Blocks. (Printed by wip/tools/meta3.py.) -/
import Derived.Test.YtbhfapjjodhndaaMeta2
namespace Go.Proofs.Ytbhfapjjodhndaa
set_option linter.unusedVariables false
set_option linter.unusedSimpArgs false
open Go.RowKit

theorem alone_firsts (m : M7) :
    (aloneP m = true ∧ 0 ≤ m.at_ ∧ m.at_ ≤ 1000000 ∧ 10 ≤ m.sz ∧ m.sz ≤ 60009 ∧ 1 ≤ m.raw ∧ m.raw ≤ 20000 ∧ 1 ≤ m.cnt ∧ m.cnt ≤ m.raw ∧ 1 ≤ m.fst ∧ m.fst ≤ 1000000001 - m.cnt ∧ 0 ≤ m.early ∧ m.early ≤ m.late ∧ m.late ≤ 1000000000)
    ∨ (aloneP m = false ∧ ¬ 0 ≤ m.at_)
    ∨ (aloneP m = false ∧ 0 ≤ m.at_ ∧ ¬ m.at_ ≤ 1000000)
    ∨ (aloneP m = false ∧ 0 ≤ m.at_ ∧ m.at_ ≤ 1000000 ∧ ¬ 10 ≤ m.sz)
    ∨ (aloneP m = false ∧ 0 ≤ m.at_ ∧ m.at_ ≤ 1000000 ∧ 10 ≤ m.sz ∧ ¬ m.sz ≤ 60009)
    ∨ (aloneP m = false ∧ 0 ≤ m.at_ ∧ m.at_ ≤ 1000000 ∧ 10 ≤ m.sz ∧ m.sz ≤ 60009 ∧ ¬ 1 ≤ m.raw)
    ∨ (aloneP m = false ∧ 0 ≤ m.at_ ∧ m.at_ ≤ 1000000 ∧ 10 ≤ m.sz ∧ m.sz ≤ 60009 ∧ 1 ≤ m.raw ∧ ¬ m.raw ≤ 20000)
    ∨ (aloneP m = false ∧ 0 ≤ m.at_ ∧ m.at_ ≤ 1000000 ∧ 10 ≤ m.sz ∧ m.sz ≤ 60009 ∧ 1 ≤ m.raw ∧ m.raw ≤ 20000 ∧ ¬ 1 ≤ m.cnt)
    ∨ (aloneP m = false ∧ 0 ≤ m.at_ ∧ m.at_ ≤ 1000000 ∧ 10 ≤ m.sz ∧ m.sz ≤ 60009 ∧ 1 ≤ m.raw ∧ m.raw ≤ 20000 ∧ 1 ≤ m.cnt ∧ ¬ m.cnt ≤ m.raw)
    ∨ (aloneP m = false ∧ 0 ≤ m.at_ ∧ m.at_ ≤ 1000000 ∧ 10 ≤ m.sz ∧ m.sz ≤ 60009 ∧ 1 ≤ m.raw ∧ m.raw ≤ 20000 ∧ 1 ≤ m.cnt ∧ m.cnt ≤ m.raw ∧ ¬ 1 ≤ m.fst)
    ∨ (aloneP m = false ∧ 0 ≤ m.at_ ∧ m.at_ ≤ 1000000 ∧ 10 ≤ m.sz ∧ m.sz ≤ 60009 ∧ 1 ≤ m.raw ∧ m.raw ≤ 20000 ∧ 1 ≤ m.cnt ∧ m.cnt ≤ m.raw ∧ 1 ≤ m.fst ∧ ¬ m.fst ≤ 1000000001 - m.cnt)
    ∨ (aloneP m = false ∧ 0 ≤ m.at_ ∧ m.at_ ≤ 1000000 ∧ 10 ≤ m.sz ∧ m.sz ≤ 60009 ∧ 1 ≤ m.raw ∧ m.raw ≤ 20000 ∧ 1 ≤ m.cnt ∧ m.cnt ≤ m.raw ∧ 1 ≤ m.fst ∧ m.fst ≤ 1000000001 - m.cnt ∧ ¬ 0 ≤ m.early)
    ∨ (aloneP m = false ∧ 0 ≤ m.at_ ∧ m.at_ ≤ 1000000 ∧ 10 ≤ m.sz ∧ m.sz ≤ 60009 ∧ 1 ≤ m.raw ∧ m.raw ≤ 20000 ∧ 1 ≤ m.cnt ∧ m.cnt ≤ m.raw ∧ 1 ≤ m.fst ∧ m.fst ≤ 1000000001 - m.cnt ∧ 0 ≤ m.early ∧ ¬ m.early ≤ m.late)
    ∨ (aloneP m = false ∧ 0 ≤ m.at_ ∧ m.at_ ≤ 1000000 ∧ 10 ≤ m.sz ∧ m.sz ≤ 60009 ∧ 1 ≤ m.raw ∧ m.raw ≤ 20000 ∧ 1 ≤ m.cnt ∧ m.cnt ≤ m.raw ∧ 1 ≤ m.fst ∧ m.fst ≤ 1000000001 - m.cnt ∧ 0 ≤ m.early ∧ m.early ≤ m.late ∧ ¬ m.late ≤ 1000000000) := by
  unfold aloneP
  rw [decide_eq_true_eq, decide_eq_false_iff_not]
  unfold aloneD
  simp only [and_assoc]
  refine (Classical.em (0 ≤ m.at_)).elim (fun h0 => ?_) (fun h0 => .inr (.inl ⟨fun h => h0 h.1, h0⟩))
  refine (Classical.em (m.at_ ≤ 1000000)).elim (fun h1 => ?_) (fun h1 => .inr (.inr (.inl ⟨fun h => h1 h.2.1, h0, h1⟩)))
  refine (Classical.em (10 ≤ m.sz)).elim (fun h2 => ?_) (fun h2 => .inr (.inr (.inr (.inl ⟨fun h => h2 h.2.2.1, h0, h1, h2⟩))))
  refine (Classical.em (m.sz ≤ 60009)).elim (fun h3 => ?_) (fun h3 => .inr (.inr (.inr (.inr (.inl ⟨fun h => h3 h.2.2.2.1, h0, h1, h2, h3⟩)))))
  refine (Classical.em (1 ≤ m.raw)).elim (fun h4 => ?_) (fun h4 => .inr (.inr (.inr (.inr (.inr (.inl ⟨fun h => h4 h.2.2.2.2.1, h0, h1, h2, h3, h4⟩))))))
  refine (Classical.em (m.raw ≤ 20000)).elim (fun h5 => ?_) (fun h5 => .inr (.inr (.inr (.inr (.inr (.inr (.inl ⟨fun h => h5 h.2.2.2.2.2.1, h0, h1, h2, h3, h4, h5⟩)))))))
  refine (Classical.em (1 ≤ m.cnt)).elim (fun h6 => ?_) (fun h6 => .inr (.inr (.inr (.inr (.inr (.inr (.inr (.inl ⟨fun h => h6 h.2.2.2.2.2.2.1, h0, h1, h2, h3, h4, h5, h6⟩))))))))
  refine (Classical.em (m.cnt ≤ m.raw)).elim (fun h7 => ?_) (fun h7 => .inr (.inr (.inr (.inr (.inr (.inr (.inr (.inr (.inl ⟨fun h => h7 h.2.2.2.2.2.2.2.1, h0, h1, h2, h3, h4, h5, h6, h7⟩)))))))))
  refine (Classical.em (1 ≤ m.fst)).elim (fun h8 => ?_) (fun h8 => .inr (.inr (.inr (.inr (.inr (.inr (.inr (.inr (.inr (.inl ⟨fun h => h8 h.2.2.2.2.2.2.2.2.1, h0, h1, h2, h3, h4, h5, h6, h7, h8⟩))))))))))
  refine (Classical.em (m.fst ≤ 1000000001 - m.cnt)).elim (fun h9 => ?_) (fun h9 => .inr (.inr (.inr (.inr (.inr (.inr (.inr (.inr (.inr (.inr (.inl ⟨fun h => h9 h.2.2.2.2.2.2.2.2.2.1, h0, h1, h2, h3, h4, h5, h6, h7, h8, h9⟩)))))))))))
  refine (Classical.em (0 ≤ m.early)).elim (fun h10 => ?_) (fun h10 => .inr (.inr (.inr (.inr (.inr (.inr (.inr (.inr (.inr (.inr (.inr (.inl ⟨fun h => h10 h.2.2.2.2.2.2.2.2.2.2.1, h0, h1, h2, h3, h4, h5, h6, h7, h8, h9, h10⟩))))))))))))
  refine (Classical.em (m.early ≤ m.late)).elim (fun h11 => ?_) (fun h11 => .inr (.inr (.inr (.inr (.inr (.inr (.inr (.inr (.inr (.inr (.inr (.inr (.inl ⟨fun h => h11 h.2.2.2.2.2.2.2.2.2.2.2.1, h0, h1, h2, h3, h4, h5, h6, h7, h8, h9, h10, h11⟩)))))))))))))
  refine (Classical.em (m.late ≤ 1000000000)).elim (fun h12 => ?_) (fun h12 => .inr (.inr (.inr (.inr (.inr (.inr (.inr (.inr (.inr (.inr (.inr (.inr (.inr (⟨fun h => h12 h.2.2.2.2.2.2.2.2.2.2.2.2, h0, h1, h2, h3, h4, h5, h6, h7, h8, h9, h10, h11, h12⟩))))))))))))))
  have hall := And.intro h0 (And.intro h1 (And.intro h2 (And.intro h3 (And.intro h4 (And.intro h5 (And.intro h6 (And.intro h7 (And.intro h8 (And.intro h9 (And.intro h10 (And.intro h11 h12)))))))))))
  exact .inl ⟨h0, h1, h2, h3, h4, h5, h6, h7, h8, h9, h10, h11, h12, hall⟩

theorem follows_firsts (a b : M7) :
    (followsP a b = true ∧ b.at_ = a.at_ + a.sz ∧ b.fst = a.fst + a.cnt ∧ a.late ≤ b.early) ∨ (followsP a b = false ∧ ¬ b.at_ = a.at_ + a.sz) ∨ (followsP a b = false ∧ b.at_ = a.at_ + a.sz ∧ ¬ b.fst = a.fst + a.cnt) ∨ (followsP a b = false ∧ b.at_ = a.at_ + a.sz ∧ b.fst = a.fst + a.cnt ∧ ¬ a.late ≤ b.early) := by
  rcases follows_cases a b with ⟨h, h1⟩ | ⟨h, h1, h2⟩ | ⟨h, h1, h2⟩
  · exact .inr (.inl ⟨h, h1⟩)
  · exact .inr (.inr (.inl ⟨h, h1, h2⟩))
  · by_cases h3 : a.late ≤ b.early
    · exact .inl ⟨by rw [h, decide_eq_true h3], h1, h2, h3⟩
    · exact .inr (.inr (.inr ⟨by rw [h, decide_eq_false h3], h1, h2, h3⟩))

set_option maxRecDepth 20000 in
set_option maxHeartbeats 16000000 in
theorem rBlocks_any (l : List M7) (v : Value) (w : World) (hr : RR metaC 7 w v l) :
    Calls Try.prog 21 #[v] w fun e w' => e = .returned (.int .i64 (footI (blocksP l))) ∧ Ext w w' := by
  obtain ⟨a, c, rfl, _, _, hs⟩ := hr
  by_cases hbig : (l.length : Int) ≤ 1000
  · have HS := Lib.hid hs
    have HY := Lib.hid (fun h => blocks_yes hbig h)
    have hn : ¬ (1000 : Int) < (l.length : Int) := by omega
    clear hs
    go_enter Try.func21, Try.ntmps21
    go_wp2
    go_loopw [3] (fun i wr => ∃ k : Nat, i = .int .i64 (k : Int) ∧ k ≤ l.length ∧ okTo l k = true ∧ Ext w wr) (fun i _ => l.length - (intOf i).toNat)
    case atStart => exact ⟨0, rfl, Nat.zero_le _, rfl, Ext.refl _⟩
    case round =>
      obtain ⟨k, rfl, hk, hok, hx⟩ := hrel
      have HX := Lib.hid hx
      have OK := Lib.hid hok
      by_cases hlt : k < l.length
      · obtain ⟨g, o, rfl, hcells⟩ := HS.out (by omega)
        have hI : (k : Int) < (l.length : Int) := by omega
        have R := Lib.hid (rangeAt_ext (hcells k _ (getD_at hlt)) hx)
        have HN := Lib.hid (fun h => blocks_no hlt h)
        have hsuc := Lib.hid (okTo_succ l k)
        have RP := Lib.hid (fun (h : 0 < k) => rangeAt_ext (hcells (k - 1) _ (getD_at (by omega))) HX.out)
        have AP := Lib.hid (fun (h : 0 < k) => okTo_alone OK.out (show k - 1 < k by omega))
        have hfirst := alone_firsts (l.getD k default)
        have hfol := Lib.hid (follows_firsts (l.getD (k - 1) default) (l.getD k default))
        clear hx hok hcells
        generalize hm : l.getD k default = m at *
        generalize hp : l.getD (k - 1) default = p at *
        have B4 := Lib.hid (Blk.new wr 55 (metaC m).toArray)
        have H1 := Lib.hid (metaC_all m)
        have HZ := Lib.hid meta_size
        clear hm hp
        generalize aloneP m = am at *
        obtain ⟨at_, sz, raw, cnt, fst, early, late⟩ := m
        have B4 := Lib.hid (show Blk (wr.alloc (.cells #[.int .i64 at_, .int .i64 sz, .int .i64 raw, .int .i64 cnt, .int .i64 fst, .int .i64 early, .int .i64 late] 55)) wr.heap.size 55 #[.int .i64 at_, .int .i64 sz, .int .i64 raw, .int .i64 cnt, .int .i64 fst, .int .i64 early, .int .i64 late] from B4.out)
        have R := Lib.hid (show wr.rangeAt g (o + k * 7) [.int .i64 at_, .int .i64 sz, .int .i64 raw, .int .i64 cnt, .int .i64 fst, .int .i64 early, .int .i64 late] from R.out)
        dsimp only at hfirst
        have c0 := B4.out.cell 0
        have c1 := B4.out.cell 1
        have c2 := B4.out.cell 2
        have c3 := B4.out.cell 3
        have c4 := B4.out.cell 4
        have c5 := B4.out.cell 5
        have c6 := B4.out.cell 6
        rcases hfirst with ⟨rfl, h0, h1, h2, h3, h4, h5, h6, h7, h8, h9, h10, h11, h12⟩ | ⟨rfl, h0⟩ | ⟨rfl, h0, h1⟩ | ⟨rfl, h0, h1, h2⟩ | ⟨rfl, h0, h1, h2, h3⟩ | ⟨rfl, h0, h1, h2, h3, h4⟩ | ⟨rfl, h0, h1, h2, h3, h4, h5⟩ | ⟨rfl, h0, h1, h2, h3, h4, h5, h6⟩ | ⟨rfl, h0, h1, h2, h3, h4, h5, h6, h7⟩ | ⟨rfl, h0, h1, h2, h3, h4, h5, h6, h7, h8⟩ | ⟨rfl, h0, h1, h2, h3, h4, h5, h6, h7, h8, h9⟩ | ⟨rfl, h0, h1, h2, h3, h4, h5, h6, h7, h8, h9, h10⟩ | ⟨rfl, h0, h1, h2, h3, h4, h5, h6, h7, h8, h9, h10, h11⟩ | ⟨rfl, h0, h1, h2, h3, h4, h5, h6, h7, h8, h9, h10, h11, h12⟩
        · have e1 : IntKind.i64.wrap (1000000001 - cnt) = 1000000001 - cnt := by rw [IntKind.wrap_i64]; omega
          cases k with
          | zero =>
            have hres := Lib.hid (show okTo l (0 + 1) = true by rw [hsuc.out, OK.out]; rfl)
            clear hsuc HN RP AP hfol
            go_wp2_with (first
              | (refine wpList_load_mid rfl 55 (.tmp 18) rfl g _ rfl [.int .i64 at_, .int .i64 sz, .int .i64 raw, .int .i64 cnt, .int .i64 fst, .int .i64 early, .int .i64 late] _ R.out Try.underlying55 rfl HZ.out ?_)
              | (refine wpList_store_new (cs' := #[.int .i64 at_, .int .i64 sz, .int .i64 raw, .int .i64 cnt, .int .i64 fst, .int .i64 early, .int .i64 late]) rfl 55 (.tmp 4) (.tmp 19) rfl rfl rfl rfl HZ.out H1.out ?_; refine Held.go ?_))
            refine ⟨?_⟩
            go_wp2
            go_roundw
            case rel => exact ⟨0 + 1, by go_num, by omega, hres.out, HX.out.alloc _⟩
            case measure => simp [intOf]; omega
          | succ j =>
            have RP := Lib.hid (RP.out (Nat.succ_pos j))
            have AP := AP.out (Nat.succ_pos j)
            rw [show j + 1 - 1 = j from rfl] at RP
            obtain ⟨k1, k2, k3, k4, k5, -⟩ := AP
            have hfol := hfol.out
            generalize followsP p _ = fo at *
            obtain ⟨pt, pz, praw, pcnt, pfst, pearly, plate⟩ := p
            dsimp only at hfol k1 k2 k3 k4 k5
            have j0 : (0 : Int) < (j : Int) + 1 := by omega
            have j1 : (j : Int) < (l.length : Int) := by omega
            have j2 : IntKind.i64.wrap (j : Int) = (j : Int) := by rw [IntKind.wrap_i64]; omega
            have hI : (j : Int) + 1 < (l.length : Int) := by omega
            have RP := Lib.hid (show (wr.alloc (.cells #[.int .i64 at_, .int .i64 sz, .int .i64 raw, .int .i64 cnt, .int .i64 fst, .int .i64 early, .int .i64 late] 55)).rangeAt g (o + j * 7) [.int .i64 pt, .int .i64 pz, .int .i64 praw, .int .i64 pcnt, .int .i64 pfst, .int .i64 pearly, .int .i64 plate] from rangeAt_ext RP.out ((Ext.refl wr).alloc _))
            have HP1 := Lib.hid (metaC_all ⟨pt, pz, praw, pcnt, pfst, pearly, plate⟩)
            have B5 := Lib.hid (B4.out.alloc (.cells #[.int .i64 pt, .int .i64 pz, .int .i64 praw, .int .i64 pcnt, .int .i64 pfst, .int .i64 pearly, .int .i64 plate] 55))
            have B6 := Lib.hid (Blk.new (wr.alloc (.cells #[.int .i64 at_, .int .i64 sz, .int .i64 raw, .int .i64 cnt, .int .i64 fst, .int .i64 early, .int .i64 late] 55)) 55 #[.int .i64 pt, .int .i64 pz, .int .i64 praw, .int .i64 pcnt, .int .i64 pfst, .int .i64 pearly, .int .i64 plate])
            have HSZ := Lib.hid ((World.size_alloc wr (.cells #[.int .i64 at_, .int .i64 sz, .int .i64 raw, .int .i64 cnt, .int .i64 fst, .int .i64 early, .int .i64 late] 55)).symm)
            rw [World.size_alloc] at B6
            have m0 := B5.out.cell 0
            have m4 := B5.out.cell 4
            have m5 := B5.out.cell 5
            have p0 := B6.out.cell 0
            have p1 := B6.out.cell 1
            have p3 := B6.out.cell 3
            have p4 := B6.out.cell 4
            have p6 := B6.out.cell 6
            have w1 : IntKind.i64.wrap (pt + pz) = pt + pz := by rw [IntKind.wrap_i64]; omega
            have w2 : IntKind.i64.wrap (pfst + pcnt) = pfst + pcnt := by rw [IntKind.wrap_i64]; omega
            clear k1 k2 k3 k4 k5
            rcases hfol with ⟨rfl, f1, f2, f3⟩ | ⟨rfl, f1⟩ | ⟨rfl, f1, f2⟩ | ⟨rfl, f1, f2, f3⟩
            · have hres := Lib.hid (show okTo l (j + 1 + 1) = true by rw [hsuc.out, OK.out]; rfl)
              have w1 : IntKind.i64.wrap (pt + pz) = at_ := w1.trans f1.symm
              have w2 : IntKind.i64.wrap (pfst + pcnt) = fst := w2.trans f2.symm
              clear hsuc HN f1 f2
              go_wp2_with (first
                | (refine wpList_load_mid rfl 55 (.tmp 18) rfl g _ rfl [.int .i64 at_, .int .i64 sz, .int .i64 raw, .int .i64 cnt, .int .i64 fst, .int .i64 early, .int .i64 late] _ R.out Try.underlying55 rfl HZ.out ?_)
                | (refine wpList_store_new (cs' := #[.int .i64 at_, .int .i64 sz, .int .i64 raw, .int .i64 cnt, .int .i64 fst, .int .i64 early, .int .i64 late]) rfl 55 (.tmp 4) (.tmp 19) rfl rfl rfl rfl HZ.out H1.out ?_; refine Held.go ?_))
              refine ⟨?_⟩
              go_wp2_with (refine wpList_hold 98 rfl ?_)
              refine ⟨?_⟩
              go_wp2_with (first
                | (refine wpList_load_mid rfl 55 (.tmp 99) rfl g _ rfl [.int .i64 pt, .int .i64 pz, .int .i64 praw, .int .i64 pcnt, .int .i64 pfst, .int .i64 pearly, .int .i64 plate] _ RP.out Try.underlying55 rfl HZ.out ?_)
                | (refine wpList_store_new (cs' := #[.int .i64 pt, .int .i64 pz, .int .i64 praw, .int .i64 pcnt, .int .i64 pfst, .int .i64 pearly, .int .i64 plate]) rfl 55 (.tmp 6) (.tmp 100) rfl (congrArg (fun n => Value.pointer (some ⟨n, 0, none⟩)) HSZ.out) rfl rfl HZ.out HP1.out ?_; refine Held.go ?_))
              refine ⟨?_⟩
              go_wp2
              go_roundw
              case rel => exact ⟨j + 1 + 1, by go_num, by omega, hres.out, (HX.out.alloc _).alloc _⟩
              case measure => simp [intOf]; omega
            · have hres := Lib.hid (HN.out rfl)
              have g1 : (at_ == pt + pz) = false := by simpa using f1
              clear hsuc HN f1
              go_wp2_with (first
                | (refine wpList_load_mid rfl 55 (.tmp 18) rfl g _ rfl [.int .i64 at_, .int .i64 sz, .int .i64 raw, .int .i64 cnt, .int .i64 fst, .int .i64 early, .int .i64 late] _ R.out Try.underlying55 rfl HZ.out ?_)
                | (refine wpList_store_new (cs' := #[.int .i64 at_, .int .i64 sz, .int .i64 raw, .int .i64 cnt, .int .i64 fst, .int .i64 early, .int .i64 late]) rfl 55 (.tmp 4) (.tmp 19) rfl rfl rfl rfl HZ.out H1.out ?_; refine Held.go ?_))
              refine ⟨?_⟩
              go_wp2_with (refine wpList_hold 98 rfl ?_)
              refine ⟨?_⟩
              go_wp2_with (first
                | (refine wpList_load_mid rfl 55 (.tmp 99) rfl g _ rfl [.int .i64 pt, .int .i64 pz, .int .i64 praw, .int .i64 pcnt, .int .i64 pfst, .int .i64 pearly, .int .i64 plate] _ RP.out Try.underlying55 rfl HZ.out ?_)
                | (refine wpList_store_new (cs' := #[.int .i64 pt, .int .i64 pz, .int .i64 praw, .int .i64 pcnt, .int .i64 pfst, .int .i64 pearly, .int .i64 plate]) rfl 55 (.tmp 6) (.tmp 100) rfl (congrArg (fun n => Value.pointer (some ⟨n, 0, none⟩)) HSZ.out) rfl rfl HZ.out HP1.out ?_; refine Held.go ?_))
              refine ⟨?_⟩
              go_wp2
              go_ret
              exact ⟨by rw [hres.out]; rfl, (HX.out.alloc _).alloc _⟩
            · have hres := Lib.hid (HN.out rfl)
              have g2 : (fst == pfst + pcnt) = false := by simpa using f2
              have w1 : IntKind.i64.wrap (pt + pz) = at_ := w1.trans f1.symm
              clear hsuc HN f1 f2
              go_wp2_with (first
                | (refine wpList_load_mid rfl 55 (.tmp 18) rfl g _ rfl [.int .i64 at_, .int .i64 sz, .int .i64 raw, .int .i64 cnt, .int .i64 fst, .int .i64 early, .int .i64 late] _ R.out Try.underlying55 rfl HZ.out ?_)
                | (refine wpList_store_new (cs' := #[.int .i64 at_, .int .i64 sz, .int .i64 raw, .int .i64 cnt, .int .i64 fst, .int .i64 early, .int .i64 late]) rfl 55 (.tmp 4) (.tmp 19) rfl rfl rfl rfl HZ.out H1.out ?_; refine Held.go ?_))
              refine ⟨?_⟩
              go_wp2_with (refine wpList_hold 98 rfl ?_)
              refine ⟨?_⟩
              go_wp2_with (first
                | (refine wpList_load_mid rfl 55 (.tmp 99) rfl g _ rfl [.int .i64 pt, .int .i64 pz, .int .i64 praw, .int .i64 pcnt, .int .i64 pfst, .int .i64 pearly, .int .i64 plate] _ RP.out Try.underlying55 rfl HZ.out ?_)
                | (refine wpList_store_new (cs' := #[.int .i64 pt, .int .i64 pz, .int .i64 praw, .int .i64 pcnt, .int .i64 pfst, .int .i64 pearly, .int .i64 plate]) rfl 55 (.tmp 6) (.tmp 100) rfl (congrArg (fun n => Value.pointer (some ⟨n, 0, none⟩)) HSZ.out) rfl rfl HZ.out HP1.out ?_; refine Held.go ?_))
              refine ⟨?_⟩
              go_wp2
              go_ret
              exact ⟨by rw [hres.out]; rfl, (HX.out.alloc _).alloc _⟩
            · have hres := Lib.hid (HN.out rfl)
              have w1 : IntKind.i64.wrap (pt + pz) = at_ := w1.trans f1.symm
              have w2 : IntKind.i64.wrap (pfst + pcnt) = fst := w2.trans f2.symm
              have f4 : (plate ≤ early) = False := by simpa using f3
              clear hsuc HN f1 f2 f3
              go_wp2_with (first
                | (refine wpList_load_mid rfl 55 (.tmp 18) rfl g _ rfl [.int .i64 at_, .int .i64 sz, .int .i64 raw, .int .i64 cnt, .int .i64 fst, .int .i64 early, .int .i64 late] _ R.out Try.underlying55 rfl HZ.out ?_)
                | (refine wpList_store_new (cs' := #[.int .i64 at_, .int .i64 sz, .int .i64 raw, .int .i64 cnt, .int .i64 fst, .int .i64 early, .int .i64 late]) rfl 55 (.tmp 4) (.tmp 19) rfl rfl rfl rfl HZ.out H1.out ?_; refine Held.go ?_))
              refine ⟨?_⟩
              go_wp2_with (refine wpList_hold 98 rfl ?_)
              refine ⟨?_⟩
              go_wp2_with (first
                | (refine wpList_load_mid rfl 55 (.tmp 99) rfl g _ rfl [.int .i64 pt, .int .i64 pz, .int .i64 praw, .int .i64 pcnt, .int .i64 pfst, .int .i64 pearly, .int .i64 plate] _ RP.out Try.underlying55 rfl HZ.out ?_)
                | (refine wpList_store_new (cs' := #[.int .i64 pt, .int .i64 pz, .int .i64 praw, .int .i64 pcnt, .int .i64 pfst, .int .i64 pearly, .int .i64 plate]) rfl 55 (.tmp 6) (.tmp 100) rfl (congrArg (fun n => Value.pointer (some ⟨n, 0, none⟩)) HSZ.out) rfl rfl HZ.out HP1.out ?_; refine Held.go ?_))
              refine ⟨?_⟩
              go_wp2
              go_ret
              exact ⟨by rw [hres.out]; rfl, (HX.out.alloc _).alloc _⟩
        · have hres := Lib.hid (HN.out rfl)
          clear hsuc HN RP AP hfol
          go_wp2_with (first
            | (refine wpList_load_mid rfl 55 (.tmp 18) rfl g _ rfl [.int .i64 at_, .int .i64 sz, .int .i64 raw, .int .i64 cnt, .int .i64 fst, .int .i64 early, .int .i64 late] _ R.out Try.underlying55 rfl HZ.out ?_)
            | (refine wpList_store_new (cs' := #[.int .i64 at_, .int .i64 sz, .int .i64 raw, .int .i64 cnt, .int .i64 fst, .int .i64 early, .int .i64 late]) rfl 55 (.tmp 4) (.tmp 19) rfl rfl rfl rfl HZ.out H1.out ?_; refine Held.go ?_))
          refine ⟨?_⟩
          go_wp2
          go_ret
          exact ⟨by rw [hres.out]; rfl, HX.out.alloc _⟩
        · have hres := Lib.hid (HN.out rfl)
          clear hsuc HN RP AP hfol
          go_wp2_with (first
            | (refine wpList_load_mid rfl 55 (.tmp 18) rfl g _ rfl [.int .i64 at_, .int .i64 sz, .int .i64 raw, .int .i64 cnt, .int .i64 fst, .int .i64 early, .int .i64 late] _ R.out Try.underlying55 rfl HZ.out ?_)
            | (refine wpList_store_new (cs' := #[.int .i64 at_, .int .i64 sz, .int .i64 raw, .int .i64 cnt, .int .i64 fst, .int .i64 early, .int .i64 late]) rfl 55 (.tmp 4) (.tmp 19) rfl rfl rfl rfl HZ.out H1.out ?_; refine Held.go ?_))
          refine ⟨?_⟩
          go_wp2
          go_ret
          exact ⟨by rw [hres.out]; rfl, HX.out.alloc _⟩
        · have hres := Lib.hid (HN.out rfl)
          clear hsuc HN RP AP hfol
          go_wp2_with (first
            | (refine wpList_load_mid rfl 55 (.tmp 18) rfl g _ rfl [.int .i64 at_, .int .i64 sz, .int .i64 raw, .int .i64 cnt, .int .i64 fst, .int .i64 early, .int .i64 late] _ R.out Try.underlying55 rfl HZ.out ?_)
            | (refine wpList_store_new (cs' := #[.int .i64 at_, .int .i64 sz, .int .i64 raw, .int .i64 cnt, .int .i64 fst, .int .i64 early, .int .i64 late]) rfl 55 (.tmp 4) (.tmp 19) rfl rfl rfl rfl HZ.out H1.out ?_; refine Held.go ?_))
          refine ⟨?_⟩
          go_wp2
          go_ret
          exact ⟨by rw [hres.out]; rfl, HX.out.alloc _⟩
        · have hres := Lib.hid (HN.out rfl)
          clear hsuc HN RP AP hfol
          go_wp2_with (first
            | (refine wpList_load_mid rfl 55 (.tmp 18) rfl g _ rfl [.int .i64 at_, .int .i64 sz, .int .i64 raw, .int .i64 cnt, .int .i64 fst, .int .i64 early, .int .i64 late] _ R.out Try.underlying55 rfl HZ.out ?_)
            | (refine wpList_store_new (cs' := #[.int .i64 at_, .int .i64 sz, .int .i64 raw, .int .i64 cnt, .int .i64 fst, .int .i64 early, .int .i64 late]) rfl 55 (.tmp 4) (.tmp 19) rfl rfl rfl rfl HZ.out H1.out ?_; refine Held.go ?_))
          refine ⟨?_⟩
          go_wp2
          go_ret
          exact ⟨by rw [hres.out]; rfl, HX.out.alloc _⟩
        · have hres := Lib.hid (HN.out rfl)
          clear hsuc HN RP AP hfol
          go_wp2_with (first
            | (refine wpList_load_mid rfl 55 (.tmp 18) rfl g _ rfl [.int .i64 at_, .int .i64 sz, .int .i64 raw, .int .i64 cnt, .int .i64 fst, .int .i64 early, .int .i64 late] _ R.out Try.underlying55 rfl HZ.out ?_)
            | (refine wpList_store_new (cs' := #[.int .i64 at_, .int .i64 sz, .int .i64 raw, .int .i64 cnt, .int .i64 fst, .int .i64 early, .int .i64 late]) rfl 55 (.tmp 4) (.tmp 19) rfl rfl rfl rfl HZ.out H1.out ?_; refine Held.go ?_))
          refine ⟨?_⟩
          go_wp2
          go_ret
          exact ⟨by rw [hres.out]; rfl, HX.out.alloc _⟩
        · have hres := Lib.hid (HN.out rfl)
          clear hsuc HN RP AP hfol
          go_wp2_with (first
            | (refine wpList_load_mid rfl 55 (.tmp 18) rfl g _ rfl [.int .i64 at_, .int .i64 sz, .int .i64 raw, .int .i64 cnt, .int .i64 fst, .int .i64 early, .int .i64 late] _ R.out Try.underlying55 rfl HZ.out ?_)
            | (refine wpList_store_new (cs' := #[.int .i64 at_, .int .i64 sz, .int .i64 raw, .int .i64 cnt, .int .i64 fst, .int .i64 early, .int .i64 late]) rfl 55 (.tmp 4) (.tmp 19) rfl rfl rfl rfl HZ.out H1.out ?_; refine Held.go ?_))
          refine ⟨?_⟩
          go_wp2
          go_ret
          exact ⟨by rw [hres.out]; rfl, HX.out.alloc _⟩
        · have hres := Lib.hid (HN.out rfl)
          clear hsuc HN RP AP hfol
          go_wp2_with (first
            | (refine wpList_load_mid rfl 55 (.tmp 18) rfl g _ rfl [.int .i64 at_, .int .i64 sz, .int .i64 raw, .int .i64 cnt, .int .i64 fst, .int .i64 early, .int .i64 late] _ R.out Try.underlying55 rfl HZ.out ?_)
            | (refine wpList_store_new (cs' := #[.int .i64 at_, .int .i64 sz, .int .i64 raw, .int .i64 cnt, .int .i64 fst, .int .i64 early, .int .i64 late]) rfl 55 (.tmp 4) (.tmp 19) rfl rfl rfl rfl HZ.out H1.out ?_; refine Held.go ?_))
          refine ⟨?_⟩
          go_wp2
          go_ret
          exact ⟨by rw [hres.out]; rfl, HX.out.alloc _⟩
        · have hres := Lib.hid (HN.out rfl)
          clear hsuc HN RP AP hfol
          go_wp2_with (first
            | (refine wpList_load_mid rfl 55 (.tmp 18) rfl g _ rfl [.int .i64 at_, .int .i64 sz, .int .i64 raw, .int .i64 cnt, .int .i64 fst, .int .i64 early, .int .i64 late] _ R.out Try.underlying55 rfl HZ.out ?_)
            | (refine wpList_store_new (cs' := #[.int .i64 at_, .int .i64 sz, .int .i64 raw, .int .i64 cnt, .int .i64 fst, .int .i64 early, .int .i64 late]) rfl 55 (.tmp 4) (.tmp 19) rfl rfl rfl rfl HZ.out H1.out ?_; refine Held.go ?_))
          refine ⟨?_⟩
          go_wp2
          go_ret
          exact ⟨by rw [hres.out]; rfl, HX.out.alloc _⟩
        · have hres := Lib.hid (HN.out rfl)
          clear hsuc HN RP AP hfol
          go_wp2_with (first
            | (refine wpList_load_mid rfl 55 (.tmp 18) rfl g _ rfl [.int .i64 at_, .int .i64 sz, .int .i64 raw, .int .i64 cnt, .int .i64 fst, .int .i64 early, .int .i64 late] _ R.out Try.underlying55 rfl HZ.out ?_)
            | (refine wpList_store_new (cs' := #[.int .i64 at_, .int .i64 sz, .int .i64 raw, .int .i64 cnt, .int .i64 fst, .int .i64 early, .int .i64 late]) rfl 55 (.tmp 4) (.tmp 19) rfl rfl rfl rfl HZ.out H1.out ?_; refine Held.go ?_))
          refine ⟨?_⟩
          go_wp2
          go_ret
          exact ⟨by rw [hres.out]; rfl, HX.out.alloc _⟩
        · have hres := Lib.hid (HN.out rfl)
          clear hsuc HN RP AP hfol
          have e1 : IntKind.i64.wrap (1000000001 - cnt) = 1000000001 - cnt := by rw [IntKind.wrap_i64]; omega
          go_wp2_with (first
            | (refine wpList_load_mid rfl 55 (.tmp 18) rfl g _ rfl [.int .i64 at_, .int .i64 sz, .int .i64 raw, .int .i64 cnt, .int .i64 fst, .int .i64 early, .int .i64 late] _ R.out Try.underlying55 rfl HZ.out ?_)
            | (refine wpList_store_new (cs' := #[.int .i64 at_, .int .i64 sz, .int .i64 raw, .int .i64 cnt, .int .i64 fst, .int .i64 early, .int .i64 late]) rfl 55 (.tmp 4) (.tmp 19) rfl rfl rfl rfl HZ.out H1.out ?_; refine Held.go ?_))
          refine ⟨?_⟩
          go_wp2
          go_ret
          exact ⟨by rw [hres.out]; rfl, HX.out.alloc _⟩
        · have hres := Lib.hid (HN.out rfl)
          clear hsuc HN RP AP hfol
          have e1 : IntKind.i64.wrap (1000000001 - cnt) = 1000000001 - cnt := by rw [IntKind.wrap_i64]; omega
          go_wp2_with (first
            | (refine wpList_load_mid rfl 55 (.tmp 18) rfl g _ rfl [.int .i64 at_, .int .i64 sz, .int .i64 raw, .int .i64 cnt, .int .i64 fst, .int .i64 early, .int .i64 late] _ R.out Try.underlying55 rfl HZ.out ?_)
            | (refine wpList_store_new (cs' := #[.int .i64 at_, .int .i64 sz, .int .i64 raw, .int .i64 cnt, .int .i64 fst, .int .i64 early, .int .i64 late]) rfl 55 (.tmp 4) (.tmp 19) rfl rfl rfl rfl HZ.out H1.out ?_; refine Held.go ?_))
          refine ⟨?_⟩
          go_wp2
          go_ret
          exact ⟨by rw [hres.out]; rfl, HX.out.alloc _⟩
        · have hres := Lib.hid (HN.out rfl)
          clear hsuc HN RP AP hfol
          have e1 : IntKind.i64.wrap (1000000001 - cnt) = 1000000001 - cnt := by rw [IntKind.wrap_i64]; omega
          go_wp2_with (first
            | (refine wpList_load_mid rfl 55 (.tmp 18) rfl g _ rfl [.int .i64 at_, .int .i64 sz, .int .i64 raw, .int .i64 cnt, .int .i64 fst, .int .i64 early, .int .i64 late] _ R.out Try.underlying55 rfl HZ.out ?_)
            | (refine wpList_store_new (cs' := #[.int .i64 at_, .int .i64 sz, .int .i64 raw, .int .i64 cnt, .int .i64 fst, .int .i64 early, .int .i64 late]) rfl 55 (.tmp 4) (.tmp 19) rfl rfl rfl rfl HZ.out H1.out ?_; refine Held.go ?_))
          refine ⟨?_⟩
          go_wp2
          go_ret
          exact ⟨by rw [hres.out]; rfl, HX.out.alloc _⟩
        · have hres := Lib.hid (HN.out rfl)
          clear hsuc HN RP AP hfol
          have e1 : IntKind.i64.wrap (1000000001 - cnt) = 1000000001 - cnt := by rw [IntKind.wrap_i64]; omega
          go_wp2_with (first
            | (refine wpList_load_mid rfl 55 (.tmp 18) rfl g _ rfl [.int .i64 at_, .int .i64 sz, .int .i64 raw, .int .i64 cnt, .int .i64 fst, .int .i64 early, .int .i64 late] _ R.out Try.underlying55 rfl HZ.out ?_)
            | (refine wpList_store_new (cs' := #[.int .i64 at_, .int .i64 sz, .int .i64 raw, .int .i64 cnt, .int .i64 fst, .int .i64 early, .int .i64 late]) rfl 55 (.tmp 4) (.tmp 19) rfl rfl rfl rfl HZ.out H1.out ?_; refine Held.go ?_))
          refine ⟨?_⟩
          go_wp2
          go_ret
          exact ⟨by rw [hres.out]; rfl, HX.out.alloc _⟩
      · obtain rfl : k = l.length := by omega
        have hres := Lib.hid (HY.out OK.out)
        clear hk hx hok
        go_wp2
        go_ret
        exact ⟨by rw [hres.out]; rfl, HX.out⟩
  · have hres := Lib.hid (blocks_long hbig)
    have hn : (1000 : Int) < (l.length : Int) := by omega
    clear hs hbig
    go_enter Try.func21, Try.ntmps21
    go_wp2
    go_ret
    exact ⟨by rw [hres.out]; rfl, Ext.refl _⟩
end Go.Proofs.Ytbhfapjjodhndaa
