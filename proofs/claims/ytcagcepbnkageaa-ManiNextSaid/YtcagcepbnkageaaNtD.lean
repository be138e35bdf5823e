/- entry: follows, Row. (Printed by wip/tools/entry4.py.) -/
import Derived.Test.YtcagcepbnkageaaNtC
namespace Go.Proofs.Ytcagcepbnkageaa
set_option linter.unusedVariables false
set_option linter.unusedSimpArgs false
open Go.RowKit

/-- an entry's number and its first record stand behind those of the one ahead; its times, if it is sealed -/
def behindP (a b : E9) : Bool := decide (a.id < b.id) && (decide (b.fst = a.fst + a.cnt) && (!b.sld || decide (a.late ≤ b.early)))
/-- an entry follows a sealed one -/
def efolP (a b : E9) : Bool := a.sld && behindP a b
theorem entP_sum {e : E9} (h : entP e = true) : 1 ≤ e.fst ∧ e.fst + e.cnt ≤ 1000000001 ∧ 0 ≤ e.cnt := by
  unfold entP at h
  rw [Bool.and_eq_true] at h
  obtain ⟨h1, h2⟩ := h
  have h1 : headD e.id e.gen e.fst := of_decide_eq_true h1
  obtain ⟨-, -, f1, f2⟩ := h1
  cases hs : e.sld with
  | true =>
    rw [hs, if_pos rfl] at h2
    have h2 : sealD _ _ _ _ _ _ := of_decide_eq_true h2
    obtain ⟨b1, b2, b3, b4, b5, -⟩ := h2
    omega
  | false =>
    rw [hs, if_neg (by decide)] at h2
    have h2 : openD _ _ _ _ _ := of_decide_eq_true h2
    obtain ⟨b1, -⟩ := h2
    omega
theorem behind_cases (a b : E9) :
    (behindP a b = false ∧ ¬ a.id < b.id) ∨ (behindP a b = false ∧ a.id < b.id ∧ ¬ b.fst = a.fst + a.cnt) ∨ (behindP a b = true ∧ a.id < b.id ∧ b.fst = a.fst + a.cnt ∧ b.sld = false) ∨ (behindP a b = true ∧ a.id < b.id ∧ b.fst = a.fst + a.cnt ∧ b.sld = true ∧ a.late ≤ b.early) ∨ (behindP a b = false ∧ a.id < b.id ∧ b.fst = a.fst + a.cnt ∧ b.sld = true ∧ ¬ a.late ≤ b.early) := by
  unfold behindP
  by_cases h1 : a.id < b.id
  · by_cases h2 : b.fst = a.fst + a.cnt
    · cases hs : b.sld
      · exact .inr (.inr (.inl ⟨by simp [h1, h2], h1, h2, rfl⟩))
      · by_cases h3 : a.late ≤ b.early
        · exact .inr (.inr (.inr (.inl ⟨by simp [h1, h2, h3], h1, h2, rfl, h3⟩)))
        · exact .inr (.inr (.inr (.inr ⟨by simp [h3], h1, h2, rfl, h3⟩)))
    · exact .inr (.inl ⟨by simp [h2], h1, h2⟩)
  · exact .inl ⟨by simp [h1], h1⟩

set_option maxRecDepth 20000 in
set_option maxHeartbeats 8000000 in
theorem efollows_any (a b : E9) (w : World) (h : entP a = true) :
    Calls Try.prog 54 #[.agg (entC a).toArray, .agg (entC b).toArray] w fun e w' => e = .returned (.bool (efolP a b)) ∧ Ext w w' := by
  have hcases := behind_cases a b
  have hsum := entP_sum h
  unfold efolP
  generalize behindP a b = r at *
  obtain ⟨aid, agen, afst, asld, acnt, ablk, aearly, alate, abytes⟩ := a
  obtain ⟨bid, bgen, bfst, bsld, bcnt, bblk, bearly, blate, bbytes⟩ := b
  show Calls Try.prog 54 #[.agg #[.int .i64 aid, .int .i64 agen, .int .i64 afst, .bool asld, .int .i64 acnt, .int .i64 ablk, .int .i64 aearly, .int .i64 alate, .int .i64 abytes], .agg #[.int .i64 bid, .int .i64 bgen, .int .i64 bfst, .bool bsld, .int .i64 bcnt, .int .i64 bblk, .int .i64 bearly, .int .i64 blate, .int .i64 bbytes]] w _
  dsimp only at *
  have b1 := (Blk.new w 49 #[.int .i64 aid, .int .i64 agen, .int .i64 afst, .bool asld, .int .i64 acnt, .int .i64 ablk, .int .i64 aearly, .int .i64 alate, .int .i64 abytes]).alloc (.cells #[.int .i64 bid, .int .i64 bgen, .int .i64 bfst, .bool bsld, .int .i64 bcnt, .int .i64 bblk, .int .i64 bearly, .int .i64 blate, .int .i64 bbytes] 49)
  have b2 := Blk.new (w.alloc (.cells #[.int .i64 aid, .int .i64 agen, .int .i64 afst, .bool asld, .int .i64 acnt, .int .i64 ablk, .int .i64 aearly, .int .i64 alate, .int .i64 abytes] 49)) 49 #[.int .i64 bid, .int .i64 bgen, .int .i64 bfst, .bool bsld, .int .i64 bcnt, .int .i64 bblk, .int .i64 bearly, .int .i64 blate, .int .i64 bbytes]
  rw [World.size_alloc] at b2
  have a0 := b1.cell 0
  have a2 := b1.cell 2
  have a3 := b1.cell 3
  have a4 := b1.cell 4
  have a7 := b1.cell 7
  have d0 := b2.cell 0
  have d2 := b2.cell 2
  have d3 := b2.cell 3
  have d6 := b2.cell 6
  have e1 : IntKind.i64.wrap (afst + acnt) = afst + acnt := by rw [IntKind.wrap_i64]; omega
  clear b1 b2 h hsum
  cases asld with
  | false =>
    simp only [Bool.false_and]
    clear hcases
    go_enter Try.func54, Try.ntmps54
    go_wp2
    go_ret
    exact ⟨rfl, ((Ext.refl _).alloc _).alloc _⟩
  | true =>
    simp only [Bool.true_and]
    rcases hcases with ⟨rfl, h1⟩ | ⟨rfl, h1, h2⟩ | ⟨rfl, h1, h2, rfl⟩ | ⟨rfl, h1, h2, rfl, h3⟩ | ⟨rfl, h1, h2, rfl, h3⟩
    · go_enter Try.func54, Try.ntmps54
      go_wp2
      go_ret
      exact ⟨rfl, ((Ext.refl _).alloc _).alloc _⟩
    · have g : (bfst == afst + acnt) = false := by simpa using h2
      go_enter Try.func54, Try.ntmps54
      go_wp2
      go_ret
      exact ⟨rfl, ((Ext.refl _).alloc _).alloc _⟩
    · have e1' : IntKind.i64.wrap (afst + acnt) = bfst := e1.trans h2.symm
      clear h2 e1
      go_enter Try.func54, Try.ntmps54
      go_wp2
      go_ret
      exact ⟨rfl, ((Ext.refl _).alloc _).alloc _⟩
    · have e1' : IntKind.i64.wrap (afst + acnt) = bfst := e1.trans h2.symm
      clear h2 e1
      go_enter Try.func54, Try.ntmps54
      go_wp2
      go_ret
      exact ⟨rfl, ((Ext.refl _).alloc _).alloc _⟩
    · have e1' : IntKind.i64.wrap (afst + acnt) = bfst := e1.trans h2.symm
      clear h2 e1
      have f4 : (alate ≤ bearly) = False := by simpa using h3
      go_enter Try.func54, Try.ntmps54
      go_wp2
      go_ret
      exact ⟨rfl, ((Ext.refl _).alloc _).alloc _⟩

/-- the first k entries are a row -/
def eTo (l : List E9) (k : Nat) : Bool := (List.range k).all fun i => entP (l.getD i default) && (i == 0 || efolP (l.getD (i - 1) default) (l.getD i default))
/-- entries are a row -/
def rowP (l : List E9) : Bool := decide (1 ≤ (l.length : Int) ∧ (l.length : Int) ≤ 100) && (!(l.getD (l.length - 1) default).sld && eTo l l.length)
theorem eTo_succ (l : List E9) (k : Nat) : eTo l (k + 1) = (eTo l k && (entP (l.getD k default) && (k == 0 || efolP (l.getD (k - 1) default) (l.getD k default)))) := by
  unfold eTo
  rw [List.range_succ, List.all_append]
  simp only [List.all_cons, List.all_nil, Bool.and_true]
theorem eTo_all {l : List E9} {k : Nat} (h : eTo l k = true) {i : Nat} (hi : i < k) : (entP (l.getD i default) && (i == 0 || efolP (l.getD (i - 1) default) (l.getD i default))) = true :=
  List.all_eq_true.1 h i (List.mem_range.2 hi)
theorem eTo_ent {l : List E9} {k : Nat} (h : eTo l k = true) {i : Nat} (hi : i < k) : entP (l.getD i default) = true := by
  have := eTo_all h hi
  rw [Bool.and_eq_true] at this
  exact this.1
theorem row_no {l : List E9} {k : Nat} (hk : k < l.length) (h : (entP (l.getD k default) && (k == 0 || efolP (l.getD (k - 1) default) (l.getD k default))) = false) : errI (rowP l) 240 = 240 := by
  have : eTo l l.length = false := by
    cases hn : eTo l l.length with
    | false => rfl
    | true => rw [eTo_all hn hk] at h; cases h
  unfold rowP; rw [this, Bool.and_false, Bool.and_false]; rfl
theorem row_len {l : List E9} (h : ¬ (1 ≤ (l.length : Int) ∧ (l.length : Int) ≤ 100)) : errI (rowP l) 240 = 240 := by
  unfold rowP; rw [decide_eq_false h]; rfl
theorem row_last {l : List E9} (h : (l.getD (l.length - 1) default).sld = true) : errI (rowP l) 240 = 240 := by
  unfold rowP; rw [h, Bool.not_true, Bool.false_and, Bool.and_false]; rfl
theorem row_yes {l : List E9} (h : 1 ≤ (l.length : Int) ∧ (l.length : Int) ≤ 100) (h1 : (l.getD (l.length - 1) default).sld = false) (h2 : eTo l l.length = true) : errI (rowP l) 240 = 0 := by
  unfold rowP; rw [decide_eq_true h, h1, h2]; rfl
theorem ent_at {l : List E9} {k : Nat} (hk : k < l.length) : l[k]? = some (l.getD k default) := by
  rw [List.getD_eq_getElem?_getD, List.getElem?_eq_getElem hk]; rfl
theorem ent_cell {w : World} {g p : Nat} {e : E9} (h : w.rangeAt g p (entC e)) : w.cell? ⟨g, p + 3, none⟩ = some (.bool e.sld) := h 3 _ rfl

set_option maxRecDepth 20000 in
set_option maxHeartbeats 8000000 in
theorem eRow_any (l : List E9) (v : Value) (w : World) (hr : RR entC 9 w v l) :
    Calls Try.prog 36 #[v] w fun e w' => e = .returned (.int .i64 (errI (rowP l) 240)) ∧ Ext w w' := by
  obtain ⟨a, c, rfl, _, _, hs⟩ := hr
  by_cases hlen : 1 ≤ (l.length : Int) ∧ (l.length : Int) ≤ 100
  · obtain ⟨hl1, hl2⟩ := hlen
    obtain ⟨g, o, rfl, hcells⟩ := hs (by omega)
    obtain ⟨m, hm⟩ : ∃ m, l.length = m + 1 := ⟨l.length - 1, by omega⟩
    have c3 := ent_cell (hcells m _ (ent_at (by omega)))
    have HC := Lib.hid hcells
    have HY := Lib.hid (fun h1 h2 => row_yes ⟨hl1, hl2⟩ h1 h2)
    have HN := Lib.hid (fun k hk h => row_no (l := l) (k := k) hk h)
    have HT := Lib.hid (fun h => row_last (l := l) h)
    rw [hm] at HY HT
    rw [show m + 1 - 1 = m from rfl] at HY HT
    have hm2 : (m : Int) < 100 := by omega
    have hm3 : IntKind.i64.wrap (m : Int) = (m : Int) := by rw [IntKind.wrap_i64]; omega
    rw [hm]
    have HMM := Lib.hid hm
    clear hs hcells hl1 hl2 hm
    cases hls : (l.getD m default).sld with
    | true =>
      rw [hls] at c3
      have hres := Lib.hid (HT.out hls)
      clear hls
      go_enter Try.func36, Try.ntmps36
      go_wp2
      go_ret
      exact ⟨by rw [hres.out]; rfl, Ext.refl _⟩
    | false =>
      rw [hls] at c3
      have HY := Lib.hid (HY.out hls)
      clear hls HT
      go_enter Try.func36, Try.ntmps36
      go_wp2
      clear c3
      go_loopw [25] (fun i wr => ∃ k : Nat, i = .int .i64 (k : Int) ∧ k ≤ m + 1 ∧ eTo l k = true ∧ Ext w wr) (fun i _ => m + 1 - (intOf i).toNat)
      case atStart => exact ⟨0, rfl, Nat.zero_le _, rfl, Ext.refl _⟩
      case round =>
        obtain ⟨k, rfl, hk, hok, hx⟩ := hrel
        have HX := Lib.hid hx
        have OK := Lib.hid hok
        by_cases hlt : k < m + 1
        · have hI : (k : Int) < (m : Int) + 1 := by omega
          have hkl : k < l.length := by have := HMM.out; omega
          have R := Lib.hid (rangeAt_ext (HC.out k _ (ent_at hkl)) hx)
          have HN := Lib.hid (fun h => HN.out k hkl h)
          have qa := Lib.hid (fun w => echeck_any (l.getD k default) w)
          have hsuc := Lib.hid (eTo_succ l k)
          clear hx hok
          cases k with
          | zero =>
            generalize hmm : l.getD 0 default = en at *
            have HL := Lib.hid (show (Try.prog.info? 49).map (·.size) = some (entC en).length from ent_size)
            have HZ := Lib.hid (show (Try.prog.info? 49).map (·.size) = some (entC en).toArray.size from ent_size)
            have HS9 := Lib.hid (show (#[.int .i64 0, .int .i64 0, .int .i64 0, .bool false, .int .i64 0, .int .i64 0, .int .i64 0, .int .i64 0, .int .i64 0] : Array Value).size = (entC en).toArray.size from rfl)
            have H1 := Lib.hid (entC_all en)
            have B4 := Lib.hid (Blk.new wr 49 (entC en).toArray)
            clear hmm hkl
            cases hal : entP en with
            | false =>
              rw [hal] at qa HN
              have hres := Lib.hid (HN.out rfl)
              clear hal hsuc HN
              generalize entC en = cs at *
              go_wp2_with (first
                | (refine wpList_load_mid rfl 49 (.tmp 28) rfl g _ rfl cs _ R.out Try.underlying49 rfl HL.out ?_)
                | (refine wpList_store_new rfl 49 (.tmp 4) (.tmp 29) rfl rfl rfl HS9.out HZ.out H1.out ?_)
                | (refine wpList_load_blk rfl 49 (.tmp 4) rfl rfl B4.out Try.underlying49 rfl HZ.out ?_))
              refine (qa.out _).mono ?_
              rintro _ w1 ⟨rfl, x1⟩
              have B5 := Lib.hid (B4.out.ext x1)
              have X5 := Lib.hid ((HX.out.alloc (.cells cs.toArray 49)).trans x1)
              simp only [errI, Bool.false_eq_true, if_false, if_true]
              go_wp2
              go_ret
              exact ⟨by rw [hres.out]; rfl, X5.out⟩
            | true =>
              rw [hal] at qa hsuc
              have hres := Lib.hid (show eTo l (0 + 1) = true by rw [hsuc.out, OK.out]; rfl)
              clear hal hsuc HN
              generalize entC en = cs at *
              go_wp2_with (first
                | (refine wpList_load_mid rfl 49 (.tmp 28) rfl g _ rfl cs _ R.out Try.underlying49 rfl HL.out ?_)
                | (refine wpList_store_new rfl 49 (.tmp 4) (.tmp 29) rfl rfl rfl HS9.out HZ.out H1.out ?_)
                | (refine wpList_load_blk rfl 49 (.tmp 4) rfl rfl B4.out Try.underlying49 rfl HZ.out ?_))
              refine (qa.out _).mono ?_
              rintro _ w1 ⟨rfl, x1⟩
              have B5 := Lib.hid (B4.out.ext x1)
              have X5 := Lib.hid ((HX.out.alloc (.cells cs.toArray 49)).trans x1)
              simp only [errI, Bool.false_eq_true, if_false, if_true]
              go_wp2_with fail
              refine wp_region_up (by kernel_rfl) (by kernel_rfl) ?_
              repeat (go_big_quiet_step (first | (go_at_call 54; (with_reducible exact up_call (qf.out _))) | fail))
              refine wpQuiet_nil ?_
              rintro _ ⟨z, rfl⟩
              go_wp2
              go_roundw
              case rel => exact ⟨0 + 1, by go_num, by omega, hres.out, X5.out.trans z.ext⟩
              case measure => simp [intOf]
          | succ j =>
            have hal0 := eTo_ent OK.out (Nat.lt_succ_self j)
            have RP := Lib.hid (rangeAt_ext (HC.out j _ (ent_at (by omega))) HX.out)
            rw [show j + 1 - 1 = j from rfl] at HN hsuc
            generalize hmm : l.getD (j + 1) default = en at *
            generalize hpp : l.getD j default = ep at *
            have qf := Lib.hid (fun w => efollows_any ep en w hal0)
            have HZP := Lib.hid (show (Try.prog.info? 49).map (·.size) = some (entC ep).length from ent_size)
            have j0 : (0 : Int) < (j : Int) + 1 := by omega
            have j1 : (j : Int) < (m : Int) + 1 := by omega
            have j2 : IntKind.i64.wrap (j : Int) = (j : Int) := by rw [IntKind.wrap_i64]; omega
            have hI : (j : Int) + 1 < (m : Int) + 1 := by omega
            have HL := Lib.hid (show (Try.prog.info? 49).map (·.size) = some (entC en).length from ent_size)
            have HZ := Lib.hid (show (Try.prog.info? 49).map (·.size) = some (entC en).toArray.size from ent_size)
            have HS9 := Lib.hid (show (#[.int .i64 0, .int .i64 0, .int .i64 0, .bool false, .int .i64 0, .int .i64 0, .int .i64 0, .int .i64 0, .int .i64 0] : Array Value).size = (entC en).toArray.size from rfl)
            have H1 := Lib.hid (entC_all en)
            have B4 := Lib.hid (Blk.new wr 49 (entC en).toArray)
            clear hmm hpp hkl hal0
            cases hal : entP en with
            | false =>
              rw [hal] at qa HN
              have hres := Lib.hid (HN.out rfl)
              clear hal hsuc HN qf
              generalize entC en = cs at *
              go_wp2_with (first
                | (refine wpList_load_mid rfl 49 (.tmp 28) rfl g _ rfl cs _ R.out Try.underlying49 rfl HL.out ?_)
                | (refine wpList_store_new rfl 49 (.tmp 4) (.tmp 29) rfl rfl rfl HS9.out HZ.out H1.out ?_)
                | (refine wpList_load_blk rfl 49 (.tmp 4) rfl rfl B4.out Try.underlying49 rfl HZ.out ?_))
              refine (qa.out _).mono ?_
              rintro _ w1 ⟨rfl, x1⟩
              have B5 := Lib.hid (B4.out.ext x1)
              have X5 := Lib.hid ((HX.out.alloc (.cells cs.toArray 49)).trans x1)
              simp only [errI, Bool.false_eq_true, if_false, if_true]
              go_wp2
              go_ret
              exact ⟨by rw [hres.out]; rfl, X5.out⟩
            | true =>
              rw [hal] at qa hsuc HN
              cases hfo : efolP ep en with
              | false =>
                rw [hfo] at qf HN
                have hres := Lib.hid (HN.out rfl)
                clear hal hsuc HN hfo
                generalize entC en = cs at *
                generalize entC ep = cp at *
                go_wp2_with (first
                  | (refine wpList_load_mid rfl 49 (.tmp 28) rfl g _ rfl cs _ R.out Try.underlying49 rfl HL.out ?_)
                  | (refine wpList_store_new rfl 49 (.tmp 4) (.tmp 29) rfl rfl rfl HS9.out HZ.out H1.out ?_)
                  | (refine wpList_load_blk rfl 49 (.tmp 4) rfl rfl B4.out Try.underlying49 rfl HZ.out ?_))
                refine (qa.out _).mono ?_
                rintro _ w1 ⟨rfl, x1⟩
                have B5 := Lib.hid (B4.out.ext x1)
                have X5 := Lib.hid ((HX.out.alloc (.cells cs.toArray 49)).trans x1)
                simp only [errI, Bool.false_eq_true, if_false, if_true]
                have RP := Lib.hid (rangeAt_ext RP.out (((Ext.refl wr).alloc (.cells cs.toArray 49)).trans x1))
                go_wp2_with fail
                refine wp_region_up (by kernel_rfl) (by kernel_rfl) ?_
                iterate 7 (go_big_quiet_step (first | (go_at_call 54; (with_reducible exact up_call (qf.out _))) | fail))
                refine wpQuiet_load_range (by kernel_rfl) 49 (.tmp 41) rfl rfl RP.out Try.underlying49 rfl HZP.out ?_
                dsimp only [Act.put]
                simp only [List.setIfInBounds_toArray, List.set_cons_succ, List.set_cons_zero]
                refine wpQuiet_load_blk (by kernel_rfl) 49 (.tmp 4) rfl rfl B5.out Try.underlying49 rfl HZ.out ?_
                dsimp only [Act.put]
                simp only [List.setIfInBounds_toArray, List.set_cons_succ, List.set_cons_zero]
                repeat (go_big_quiet_step (first | (go_at_call 54; (with_reducible exact up_call (qf.out _))) | fail))
                refine wpQuiet_nil ?_
                rintro _ ⟨z, rfl⟩
                go_wp2
                go_ret
                exact ⟨by rw [hres.out]; rfl, X5.out.trans z.ext⟩
              | true =>
                rw [hfo] at qf hsuc
                have hres := Lib.hid (show eTo l (j + 1 + 1) = true by rw [hsuc.out, OK.out]; rfl)
                clear hal hsuc HN hfo
                generalize entC en = cs at *
                generalize entC ep = cp at *
                go_wp2_with (first
                  | (refine wpList_load_mid rfl 49 (.tmp 28) rfl g _ rfl cs _ R.out Try.underlying49 rfl HL.out ?_)
                  | (refine wpList_store_new rfl 49 (.tmp 4) (.tmp 29) rfl rfl rfl HS9.out HZ.out H1.out ?_)
                  | (refine wpList_load_blk rfl 49 (.tmp 4) rfl rfl B4.out Try.underlying49 rfl HZ.out ?_))
                refine (qa.out _).mono ?_
                rintro _ w1 ⟨rfl, x1⟩
                have B5 := Lib.hid (B4.out.ext x1)
                have X5 := Lib.hid ((HX.out.alloc (.cells cs.toArray 49)).trans x1)
                simp only [errI, Bool.false_eq_true, if_false, if_true]
                have RP := Lib.hid (rangeAt_ext RP.out (((Ext.refl wr).alloc (.cells cs.toArray 49)).trans x1))
                go_wp2_with fail
                refine wp_region_up (by kernel_rfl) (by kernel_rfl) ?_
                iterate 7 (go_big_quiet_step (first | (go_at_call 54; (with_reducible exact up_call (qf.out _))) | fail))
                refine wpQuiet_load_range (by kernel_rfl) 49 (.tmp 41) rfl rfl RP.out Try.underlying49 rfl HZP.out ?_
                dsimp only [Act.put]
                simp only [List.setIfInBounds_toArray, List.set_cons_succ, List.set_cons_zero]
                refine wpQuiet_load_blk (by kernel_rfl) 49 (.tmp 4) rfl rfl B5.out Try.underlying49 rfl HZ.out ?_
                dsimp only [Act.put]
                simp only [List.setIfInBounds_toArray, List.set_cons_succ, List.set_cons_zero]
                repeat (go_big_quiet_step (first | (go_at_call 54; (with_reducible exact up_call (qf.out _))) | fail))
                refine wpQuiet_nil ?_
                rintro _ ⟨z, rfl⟩
                go_wp2
                go_roundw
                case rel => exact ⟨j + 1 + 1, by go_num, by omega, hres.out, X5.out.trans z.ext⟩
                case measure => simp [intOf]; omega
        · obtain rfl : k = m + 1 := by omega
          have hres := Lib.hid (HY.out OK.out)
          clear hk hx hok
          go_wp2
          go_ret
          exact ⟨by rw [hres.out]; rfl, HX.out⟩
  · have hres := Lib.hid (row_len hlen)
    by_cases h1 : 1 ≤ (l.length : Int)
    · have h2 : (100 : Int) < (l.length : Int) := by omega
      clear hs hlen
      go_enter Try.func36, Try.ntmps36
      go_wp2
      go_ret
      exact ⟨by rw [hres.out]; rfl, Ext.refl _⟩
    · have h2 : (l.length : Int) < 1 := by omega
      clear hs hlen
      go_enter Try.func36, Try.ntmps36
      go_wp2
      go_ret
      exact ⟨by rw [hres.out]; rfl, Ext.refl _⟩
end Go.Proofs.Ytcagcepbnkageaa
