/- head: Blocks. -/
import Derived.Test.YtbhfapjjodhndaaMeta1
namespace Go.Proofs.Ytbhfapjjodhndaa
set_option linter.unusedVariables false
set_option linter.unusedSimpArgs false
open Go.RowKit

/-- the first k blocks are a row -/
def okTo (l : List M7) (k : Nat) : Bool := (List.range k).all fun i => aloneP (l.getD i default) && (i == 0 || followsP (l.getD (i - 1) default) (l.getD i default))
def blocksP (l : List M7) : Bool := decide ((l.length : Int) ≤ 1000) && okTo l l.length
def footI (b : Bool) : Int := if b then 0 else 211
theorem okTo_zero (l : List M7) : okTo l 0 = true := rfl
theorem okTo_succ (l : List M7) (k : Nat) : okTo l (k + 1) = (okTo l k && (aloneP (l.getD k default) && (k == 0 || followsP (l.getD (k - 1) default) (l.getD k default)))) := by
  unfold okTo
  rw [List.range_succ, List.all_append]
  simp only [List.all_cons, List.all_nil, Bool.and_true]
theorem okTo_all {l : List M7} {k : Nat} (h : okTo l k = true) {i : Nat} (hi : i < k) : (aloneP (l.getD i default) && (i == 0 || followsP (l.getD (i - 1) default) (l.getD i default))) = true :=
  List.all_eq_true.1 h i (List.mem_range.2 hi)
theorem okTo_alone {l : List M7} {k : Nat} (h : okTo l k = true) {i : Nat} (hi : i < k) : aloneD (l.getD i default) := by
  have := okTo_all h hi
  rw [Bool.and_eq_true] at this
  exact aloneP_iff.1 this.1
theorem okTo_not {l : List M7} {k n : Nat} (hk : k < n) (h : (aloneP (l.getD k default) && (k == 0 || followsP (l.getD (k - 1) default) (l.getD k default))) = false) : okTo l n = false := by
  cases hn : okTo l n with
  | false => rfl
  | true => rw [okTo_all hn hk] at h; cases h
theorem blocks_no {l : List M7} {k : Nat} (hk : k < l.length) (h : (aloneP (l.getD k default) && (k == 0 || followsP (l.getD (k - 1) default) (l.getD k default))) = false) : footI (blocksP l) = 211 := by
  unfold blocksP; rw [okTo_not hk h, Bool.and_false]; rfl
theorem blocks_long {l : List M7} (h : ¬ (l.length : Int) ≤ 1000) : footI (blocksP l) = 211 := by
  unfold blocksP; rw [decide_eq_false h]; rfl
theorem blocks_yes {l : List M7} (h : (l.length : Int) ≤ 1000) (h2 : okTo l l.length = true) : footI (blocksP l) = 0 := by
  unfold blocksP; rw [decide_eq_true h, h2]; rfl
theorem getD_at {l : List M7} {k : Nat} (hk : k < l.length) : l[k]? = some (l.getD k default) := by
  rw [List.getD_eq_getElem?_getD, List.getElem?_eq_getElem hk]; rfl

set_option maxRecDepth 20000 in
set_option maxHeartbeats 4000000 in
theorem hBlocks_any (l : List M7) (v : Value) (w : World) (hr : RR metaC 7 w v l) :
    Calls Try.prog 20 #[v] w fun e w' => e = .returned (.int .i64 (footI (blocksP l))) ∧ Ext w w' := by
  obtain ⟨a, c, rfl, _, _, hs⟩ := hr
  by_cases hbig : (l.length : Int) ≤ 1000
  · have HS := Lib.hid hs
    have HY := Lib.hid (fun h => blocks_yes hbig h)
    have hn : ¬ (1000 : Int) < (l.length : Int) := by omega
    clear hs
    go_enter Try.func20, Try.ntmps20
    go_wp2
    go_loopw [10] (fun i wr => ∃ k : Nat, i = .int .i64 (k : Int) ∧ k ≤ l.length ∧ okTo l k = true ∧ Ext w wr) (fun i _ => l.length - (intOf i).toNat)
    case atStart => exact ⟨0, rfl, Nat.zero_le _, rfl, Ext.refl _⟩
    case round =>
      obtain ⟨k, rfl, hk, hok, hx⟩ := hrel
      have HX := Lib.hid hx
      have OK := Lib.hid hok
      by_cases hlt : k < l.length
      · obtain ⟨g, o, rfl, hcells⟩ := HS.out (by omega)
        have hI : (k : Int) < (l.length : Int) := by omega
        have R := Lib.hid (rangeAt_ext (hcells k _ (getD_at hlt)) hx)
        have HN := Lib.hid (fun h => blocks_no hlt h)
        have qa := Lib.hid (fun w => alone_any (l.getD k default) w)
        have HM := Lib.hid (rfl : l.getD k default = l.getD k default)
        have hsuc := Lib.hid (okTo_succ l k)
        clear hx hok
        cases k with
        | zero =>
          generalize hm : l.getD 0 default = m at *
          have qa : Hid (∀ w, Calls Try.prog 38 #[.agg (metaC m).toArray] w fun e w' => e = .returned (.bool (aloneP m)) ∧ Ext w w') := qa
          have HL := Lib.hid (show (Try.prog.info? 55).map (·.size) = some (metaC m).length from meta_size)
          have HZ := Lib.hid (show (Try.prog.info? 55).map (·.size) = some (metaC m).toArray.size from meta_size)
          have HS7 := Lib.hid (show (#[Value.int .i64 0, .int .i64 0, .int .i64 0, .int .i64 0, .int .i64 0, .int .i64 0, .int .i64 0] : Array Value).size = (metaC m).toArray.size from rfl)
          have H1 := Lib.hid (show (metaC m).toArray.all (·.oneCell') = true from metaC_all m)
          have B4 := Lib.hid (Blk.new wr 55 (metaC m).toArray)
          clear hm hcells HM
          cases hal : aloneP m with
          | false =>
            rw [hal] at qa HN
            have hres := Lib.hid (HN.out rfl)
            clear hal hsuc HN
            generalize metaC m = cs at *
            go_wp2_with (first
              | (refine wpList_load_mid rfl 55 (.tmp 13) rfl g _ rfl cs _ R.out Try.underlying55 rfl HL.out ?_)
              | (refine wpList_store_new rfl 55 (.tmp 4) (.tmp 14) rfl rfl rfl HS7.out HZ.out H1.out ?_))
            refine wp_region_up (by kernel_rfl) (by kernel_rfl) ?_
            refine wpQuiet_load_blk (by kernel_rfl) 55 (.tmp 4) rfl rfl B4.out Try.underlying55 rfl HZ.out ?_
            dsimp only [Act.put]
            simp only [List.setIfInBounds_toArray, List.set_cons_succ, List.set_cons_zero]
            repeat (go_big_quiet_step (first | (go_at_call 38; (with_reducible exact up_call (qa.out _))) | (go_at_call 39; (with_reducible exact up_call (qf.out _))) | fail))
            refine wpQuiet_nil ?_
            rintro _ ⟨z, rfl⟩
            go_wp2
            go_ret
            exact ⟨by rw [hres.out]; rfl, (HX.out.alloc _).trans z.ext⟩
          | true =>
            rw [hal] at qa hsuc
            have hres := Lib.hid (show okTo l (0 + 1) = true by rw [hsuc.out, OK.out]; rfl)
            clear hal hsuc HN
            generalize metaC m = cs at *
            go_wp2_with (first
              | (refine wpList_load_mid rfl 55 (.tmp 13) rfl g _ rfl cs _ R.out Try.underlying55 rfl HL.out ?_)
              | (refine wpList_store_new rfl 55 (.tmp 4) (.tmp 14) rfl rfl rfl HS7.out HZ.out H1.out ?_))
            refine wp_region_up (by kernel_rfl) (by kernel_rfl) ?_
            refine wpQuiet_load_blk (by kernel_rfl) 55 (.tmp 4) rfl rfl B4.out Try.underlying55 rfl HZ.out ?_
            dsimp only [Act.put]
            simp only [List.setIfInBounds_toArray, List.set_cons_succ, List.set_cons_zero]
            repeat (go_big_quiet_step (first | (go_at_call 38; (with_reducible exact up_call (qa.out _))) | (go_at_call 39; (with_reducible exact up_call (qf.out _))) | fail))
            refine wpQuiet_nil ?_
            rintro _ ⟨z, rfl⟩
            go_wp2
            go_roundw
            case rel => exact ⟨0 + 1, by go_num, by omega, hres.out, (HX.out.alloc _).trans z.ext⟩
            case measure => simp [intOf]; omega
        | succ j =>
          have hal0 := okTo_alone OK.out (Nat.lt_succ_self j)
          have RP := Lib.hid (rangeAt_ext (hcells j _ (getD_at (by omega))) HX.out)
          rw [show j + 1 - 1 = j from rfl] at HN hsuc
          generalize hm : l.getD (j + 1) default = m at *
          generalize hp : l.getD j default = p at *
          have qf := Lib.hid (fun w => follows_any p m w hal0)
          have qa : Hid (∀ w, Calls Try.prog 38 #[.agg (metaC m).toArray] w fun e w' => e = .returned (.bool (aloneP m)) ∧ Ext w w') := qa
          have qf : Hid (∀ w, Calls Try.prog 39 #[.agg (metaC p).toArray, .agg (metaC m).toArray] w fun e w' => e = .returned (.bool (followsP p m)) ∧ Ext w w') := qf
          have HZP := Lib.hid (show (Try.prog.info? 55).map (·.size) = some (metaC p).length from meta_size)
          have RP := Lib.hid (show (wr.alloc (.cells (metaC m).toArray 55)).rangeAt g (o + j * 7) (metaC p) from rangeAt_ext RP.out ((Ext.refl wr).alloc _))
          have j0 : (0 : Int) < (j : Int) + 1 := by omega
          have j1 : (j : Int) < (l.length : Int) := by omega
          have j2 : IntKind.i64.wrap (j : Int) = (j : Int) := by rw [IntKind.wrap_i64]; omega
          have hI : (j : Int) + 1 < (l.length : Int) := by omega
          have HL := Lib.hid (show (Try.prog.info? 55).map (·.size) = some (metaC m).length from meta_size)
          have HZ := Lib.hid (show (Try.prog.info? 55).map (·.size) = some (metaC m).toArray.size from meta_size)
          have HS7 := Lib.hid (show (#[Value.int .i64 0, .int .i64 0, .int .i64 0, .int .i64 0, .int .i64 0, .int .i64 0, .int .i64 0] : Array Value).size = (metaC m).toArray.size from rfl)
          have H1 := Lib.hid (show (metaC m).toArray.all (·.oneCell') = true from metaC_all m)
          have B4 := Lib.hid (Blk.new wr 55 (metaC m).toArray)
          clear hm hp hcells HM hal0
          cases hal : aloneP m with
          | false =>
            rw [hal] at qa HN
            have hres := Lib.hid (HN.out rfl)
            clear hal hsuc HN
            generalize metaC m = cs at *
            generalize metaC p = cp at *
            go_wp2_with (first
              | (refine wpList_load_mid rfl 55 (.tmp 13) rfl g _ rfl cs _ R.out Try.underlying55 rfl HL.out ?_)
              | (refine wpList_store_new rfl 55 (.tmp 4) (.tmp 14) rfl rfl rfl HS7.out HZ.out H1.out ?_))
            refine wp_region_up (by kernel_rfl) (by kernel_rfl) ?_
            refine wpQuiet_load_blk (by kernel_rfl) 55 (.tmp 4) rfl rfl B4.out Try.underlying55 rfl HZ.out ?_
            dsimp only [Act.put]
            simp only [List.setIfInBounds_toArray, List.set_cons_succ, List.set_cons_zero]
            repeat (go_big_quiet_step (first | (go_at_call 38; (with_reducible exact up_call (qa.out _))) | (go_at_call 39; (with_reducible exact up_call (qf.out _))) | fail))
            refine wpQuiet_nil ?_
            rintro _ ⟨z, rfl⟩
            go_wp2
            go_ret
            exact ⟨by rw [hres.out]; rfl, (HX.out.alloc _).trans z.ext⟩
          | true =>
            rw [hal] at qa hsuc HN
            cases hfo : followsP p m with
            | false =>
              rw [hfo] at qf HN
              have hres := Lib.hid (HN.out rfl)
              clear hal hsuc HN hfo
              generalize metaC m = cs at *
              generalize metaC p = cp at *
              go_wp2_with (first
                | (refine wpList_load_mid rfl 55 (.tmp 13) rfl g _ rfl cs _ R.out Try.underlying55 rfl HL.out ?_)
                | (refine wpList_store_new rfl 55 (.tmp 4) (.tmp 14) rfl rfl rfl HS7.out HZ.out H1.out ?_))
              refine wp_region_up (by kernel_rfl) (by kernel_rfl) ?_
              refine wpQuiet_load_blk (by kernel_rfl) 55 (.tmp 4) rfl rfl B4.out Try.underlying55 rfl HZ.out ?_
              dsimp only [Act.put]
              simp only [List.setIfInBounds_toArray, List.set_cons_succ, List.set_cons_zero]
              iterate 10 (go_big_quiet_step (first | (go_at_call 38; (with_reducible exact up_call (qa.out _))) | (go_at_call 39; (with_reducible exact up_call (qf.out _))) | fail))
              refine wpQuiet_load_range (by kernel_rfl) 55 (.tmp 25) rfl rfl RP.out Try.underlying55 rfl HZP.out ?_
              dsimp only [Act.put]
              simp only [List.setIfInBounds_toArray, List.set_cons_succ, List.set_cons_zero]
              refine wpQuiet_load_blk (by kernel_rfl) 55 (.tmp 4) rfl rfl B4.out Try.underlying55 rfl HZ.out ?_
              dsimp only [Act.put]
              simp only [List.setIfInBounds_toArray, List.set_cons_succ, List.set_cons_zero]
              repeat (go_big_quiet_step (first | (go_at_call 38; (with_reducible exact up_call (qa.out _))) | (go_at_call 39; (with_reducible exact up_call (qf.out _))) | fail))
              refine wpQuiet_nil ?_
              rintro _ ⟨z, rfl⟩
              go_wp2
              go_ret
              exact ⟨by rw [hres.out]; rfl, (HX.out.alloc _).trans z.ext⟩
            | true =>
              rw [hfo] at qf hsuc
              have hres := Lib.hid (show okTo l (j + 1 + 1) = true by rw [hsuc.out, OK.out]; rfl)
              clear hal hsuc HN hfo
              generalize metaC m = cs at *
              generalize metaC p = cp at *
              go_wp2_with (first
                | (refine wpList_load_mid rfl 55 (.tmp 13) rfl g _ rfl cs _ R.out Try.underlying55 rfl HL.out ?_)
                | (refine wpList_store_new rfl 55 (.tmp 4) (.tmp 14) rfl rfl rfl HS7.out HZ.out H1.out ?_))
              refine wp_region_up (by kernel_rfl) (by kernel_rfl) ?_
              refine wpQuiet_load_blk (by kernel_rfl) 55 (.tmp 4) rfl rfl B4.out Try.underlying55 rfl HZ.out ?_
              dsimp only [Act.put]
              simp only [List.setIfInBounds_toArray, List.set_cons_succ, List.set_cons_zero]
              iterate 10 (go_big_quiet_step (first | (go_at_call 38; (with_reducible exact up_call (qa.out _))) | (go_at_call 39; (with_reducible exact up_call (qf.out _))) | fail))
              refine wpQuiet_load_range (by kernel_rfl) 55 (.tmp 25) rfl rfl RP.out Try.underlying55 rfl HZP.out ?_
              dsimp only [Act.put]
              simp only [List.setIfInBounds_toArray, List.set_cons_succ, List.set_cons_zero]
              refine wpQuiet_load_blk (by kernel_rfl) 55 (.tmp 4) rfl rfl B4.out Try.underlying55 rfl HZ.out ?_
              dsimp only [Act.put]
              simp only [List.setIfInBounds_toArray, List.set_cons_succ, List.set_cons_zero]
              repeat (go_big_quiet_step (first | (go_at_call 38; (with_reducible exact up_call (qa.out _))) | (go_at_call 39; (with_reducible exact up_call (qf.out _))) | fail))
              refine wpQuiet_nil ?_
              rintro _ ⟨z, rfl⟩
              go_wp2
              go_roundw
              case rel => exact ⟨j + 1 + 1, by go_num, by omega, hres.out, (HX.out.alloc _).trans z.ext⟩
              case measure => simp [intOf]; omega
      · obtain rfl : k = l.length := by omega
        have hres := Lib.hid (HY.out OK.out)
        clear hk hx hok
        go_wp2
        go_ret
        exact ⟨by rw [hres.out]; rfl, HX.out⟩
  · have hres := Lib.hid (blocks_long hbig)
    have hn : (1000 : Int) < (l.length : Int) := by omega
    clear hs hbig
    go_enter Try.func20, Try.ntmps20
    go_wp2
    go_ret
    exact ⟨by rw [hres.out]; rfl, Ext.refl _⟩
end Go.Proofs.Ytbhfapjjodhndaa
