/- varveref24: Row. (Printed by wip/tools/entry5.py.) -/
import Derived.Test.YtcagcepbnkageaaNtD
namespace Go.Proofs.Ytcagcepbnkageaa
set_option linter.unusedVariables false
set_option linter.unusedSimpArgs false
open Go.RowKit

/-- .. as the document has it -/
def rTo (l : List E9) (k : Nat) : Bool := (List.range k).all fun i => entP (l.getD i default) && (((l.getD i default).sld != (i == l.length - 1)) && (i == 0 || behindP (l.getD (i - 1) default) (l.getD i default)))
theorem rTo_succ (l : List E9) (k : Nat) : rTo l (k + 1) = (rTo l k && (entP (l.getD k default) && (((l.getD k default).sld != (k == l.length - 1)) && (k == 0 || behindP (l.getD (k - 1) default) (l.getD k default))))) := by
  unfold rTo
  rw [List.range_succ, List.all_append]
  simp only [List.all_cons, List.all_nil, Bool.and_true]
theorem rTo_all {l : List E9} {k : Nat} (h : rTo l k = true) {i : Nat} (hi : i < k) : entP (l.getD i default) = true ∧ ((l.getD i default).sld != (i == l.length - 1)) = true ∧ (i == 0 || behindP (l.getD (i - 1) default) (l.getD i default)) = true := by
  have := List.all_eq_true.1 h i (List.mem_range.2 hi)
  rw [Bool.and_eq_true, Bool.and_eq_true] at this
  exact this
theorem rTo_mk {l : List E9} {k : Nat} (h : ∀ i, i < k → entP (l.getD i default) = true ∧ ((l.getD i default).sld != (i == l.length - 1)) = true ∧ (i == 0 || behindP (l.getD (i - 1) default) (l.getD i default)) = true) : rTo l k = true :=
  List.all_eq_true.2 fun i hi => by
    rw [Bool.and_eq_true, Bool.and_eq_true]; exact h i (List.mem_range.1 hi)
theorem row_same (l : List E9) : rowP l = (decide (1 ≤ (l.length : Int) ∧ (l.length : Int) ≤ 100) && rTo l l.length) := by
  by_cases hl : 1 ≤ (l.length : Int) ∧ (l.length : Int) ≤ 100
  · unfold rowP
    rw [decide_eq_true hl, Bool.true_and, Bool.true_and]
    rw [Bool.eq_iff_iff, Bool.and_eq_true]
    constructor
    · rintro ⟨h1, h2⟩
      refine rTo_mk fun i hi => ?_
      have h3 := eTo_all h2 hi
      rw [Bool.and_eq_true] at h3
      refine ⟨h3.1, ?_, ?_⟩
      · by_cases hi2 : i = l.length - 1
        · subst hi2
          simp at h1 ⊢
          exact h1
        · have h4 := eTo_all h2 (show i + 1 < l.length by omega)
          rw [Bool.and_eq_true, Bool.or_eq_true] at h4
          rcases h4.2 with h5 | h5
          · simp at h5
          · unfold efolP at h5
            rw [Bool.and_eq_true, show i + 1 - 1 = i from rfl] at h5
            rw [h5.1]
            simp; omega
      · rw [Bool.or_eq_true] at h3 ⊢
        rcases h3.2 with h5 | h5
        · exact .inl h5
        · unfold efolP at h5
          rw [Bool.and_eq_true] at h5
          exact .inr h5.2
    · intro h
      refine ⟨?_, List.all_eq_true.2 fun i hi => ?_⟩
      · obtain ⟨-, h2, -⟩ := rTo_all h (show l.length - 1 < l.length by omega)
        simp at h2 ⊢
        exact h2
      · have hi := List.mem_range.1 hi
        obtain ⟨h1, h2, h3⟩ := rTo_all h hi
        rw [Bool.and_eq_true, Bool.or_eq_true]
        rw [Bool.or_eq_true] at h3
        refine ⟨h1, ?_⟩
        rcases h3 with h5 | h5
        · exact .inl h5
        · by_cases hi0 : i = 0
          · subst hi0; exact .inl rfl
          · obtain ⟨-, h6, -⟩ := rTo_all h (show i - 1 < l.length by omega)
            rw [show (i - 1 == l.length - 1) = false by simp; omega] at h6
            refine .inr ?_
            unfold efolP
            rw [Bool.and_eq_true]
            exact ⟨by simpa using h6, h5⟩
  · unfold rowP
    rw [decide_eq_false hl, Bool.false_and, Bool.false_and]
theorem rrow_no {l : List E9} {k : Nat} (hk : k < l.length) (h : (entP (l.getD k default) && (((l.getD k default).sld != (k == l.length - 1)) && (k == 0 || behindP (l.getD (k - 1) default) (l.getD k default)))) = false) : errI (rowP l) 240 = 240 := by
  have : rTo l l.length = false := by
    cases hn : rTo l l.length with
    | false => rfl
    | true => obtain ⟨h1, h2, h3⟩ := rTo_all hn hk; rw [h1, h2, h3] at h; cases h
  rw [row_same, this, Bool.and_false]; rfl
theorem rrow_yes {l : List E9} (h : 1 ≤ (l.length : Int) ∧ (l.length : Int) ≤ 100) (h2 : rTo l l.length = true) : errI (rowP l) 240 = 0 := by
  rw [row_same, decide_eq_true h, h2]; rfl

set_option maxRecDepth 20000 in
set_option maxHeartbeats 16000000 in
theorem rRow_any (l : List E9) (v : Value) (w : World) (hr : RR entC 9 w v l) :
    Calls Try.prog 39 #[v] w fun e w' => e = .returned (.int .i64 (errI (rowP l) 240)) ∧ Ext w w' := by
  obtain ⟨a, c, rfl, _, _, hs⟩ := hr
  by_cases hlen : 1 ≤ (l.length : Int) ∧ (l.length : Int) ≤ 100
  · obtain ⟨hl1, hl2⟩ := hlen
    obtain ⟨g, o, rfl, hcells⟩ := hs (by omega)
    obtain ⟨m, hm⟩ : ∃ m, l.length = m + 1 := ⟨l.length - 1, by omega⟩
    have HC := Lib.hid hcells
    have HY := Lib.hid (fun h2 => rrow_yes ⟨hl1, hl2⟩ h2)
    have HN := Lib.hid (fun k hk h => rrow_no (l := l) (k := k) hk h)
    have HSU := Lib.hid (rTo_succ l)
    rw [hm] at HY HN HSU
    rw [show m + 1 - 1 = m from rfl] at HN HSU
    have hm2 : (m : Int) < 100 := by omega
    have hm3 : IntKind.i64.wrap (m : Int) = (m : Int) := by rw [IntKind.wrap_i64]; omega
    have hm4 : ((m : Int) + 1 == 0) = false := by simp; omega
    rw [hm]
    have HMM := Lib.hid hm
    clear hs hcells hl1 hl2 hm
    go_enter Try.func39, Try.ntmps39
    go_wp2
    go_loopw [3] (fun i wr => ∃ k : Nat, i = .int .i64 (k : Int) ∧ k ≤ m + 1 ∧ rTo l k = true ∧ Ext w wr) (fun i _ => m + 1 - (intOf i).toNat)
    case atStart => exact ⟨0, rfl, Nat.zero_le _, rfl, Ext.refl _⟩
    case round =>
      obtain ⟨k, rfl, hk, hok, hx⟩ := hrel
      have HX := Lib.hid hx
      have OK := Lib.hid hok
      by_cases hlt : k < m + 1
      · have hI : (k : Int) < (m : Int) + 1 := by omega
        have hkl : k < l.length := by have := HMM.out; omega
        have R := Lib.hid (rangeAt_ext (HC.out k _ (ent_at hkl)) hx)
        have HN := Lib.hid (fun h => HN.out k hlt h)
        have qa := Lib.hid (fun w => echeck24_any (l.getD k default) w)
        have hsuc := Lib.hid (HSU.out k)
        have HP := Lib.hid (fun (h : 0 < k) => (rTo_all OK.out (show k - 1 < k by omega)).1)
        have RP := Lib.hid (fun (h : 0 < k) => rangeAt_ext (HC.out (k - 1) _ (ent_at (show k - 1 < l.length by omega))) hx)
        generalize hmm : l.getD k default = en at *
        generalize hpp : l.getD (k - 1) default = ep at *
        have HL := Lib.hid (show (Try.prog.info? 49).map (·.size) = some (entC en).length from ent_size)
        clear hmm hpp hkl hx hok
        cases hal : entP en with
        | false =>
          rw [hal] at qa HN
          have hres := Lib.hid (HN.out rfl)
          clear hal hsuc HN HP RP
          generalize entC en = cs at *
          go_wp2_with (refine wpList_load_mid rfl 49 (.tmp 21) rfl g _ rfl cs _ R.out Try.underlying49 rfl HL.out ?_)
          refine (qa.out _).mono ?_
          rintro _ w1 ⟨rfl, x1⟩
          have X5 := Lib.hid (HX.out.trans x1)
          simp only [errI, Bool.false_eq_true, if_false, if_true]
          go_wp2
          go_ret
          exact ⟨by rw [hres.out]; rfl, X5.out⟩
        | true =>
          rw [hal] at qa HN hsuc
          have hbeh := behind_cases ep en
          have R3 := ent_cell R.out
          simp only [Bool.true_and] at HN hsuc
          clear hal
          obtain ⟨eid, egen, efst, esld, ecnt, eblk, eearly, elate, ebytes⟩ := en
          have R := Lib.hid (show wr.rangeAt g (o + k * 9) [.int .i64 eid, .int .i64 egen, .int .i64 efst, .bool esld, .int .i64 ecnt, .int .i64 eblk, .int .i64 eearly, .int .i64 elate, .int .i64 ebytes] from R.out)
          have qa : Hid (∀ w, Calls Try.prog 56 #[.agg #[.int .i64 eid, .int .i64 egen, .int .i64 efst, .bool esld, .int .i64 ecnt, .int .i64 eblk, .int .i64 eearly, .int .i64 elate, .int .i64 ebytes]] w fun x w' => x = .returned (.int .i64 (errI true 240)) ∧ Ext w w') := qa
          have HL := Lib.hid (show (Try.prog.info? 49).map (·.size) = some ([.int .i64 eid, .int .i64 egen, .int .i64 efst, .bool esld, .int .i64 ecnt, .int .i64 eblk, .int .i64 eearly, .int .i64 elate, .int .i64 ebytes] : List Value).length from ent_size)
          dsimp only at hbeh R3 HN hsuc
          generalize behindP ep _ = bh at *
          by_cases hkm : k = m
          · have hkb : (k == m) = true := by simpa using hkm
            have hkw : IntKind.i64.wrap (m : Int) = (k : Int) := by rw [hkm]; exact hm3
            rw [hkb] at HN hsuc
            clear hm3 hkm hkb
            cases esld with
            | true =>
              have hres := Lib.hid (HN.out rfl)
              clear hsuc HN HP RP hbeh
              go_wp2_with (refine wpList_load_mid rfl 49 (.tmp 21) rfl g _ rfl [.int .i64 eid, .int .i64 egen, .int .i64 efst, .bool true, .int .i64 ecnt, .int .i64 eblk, .int .i64 eearly, .int .i64 elate, .int .i64 ebytes] _ R.out Try.underlying49 rfl HL.out ?_)
              refine (qa.out _).mono ?_
              rintro _ w1 ⟨rfl, x1⟩
              have X5 := Lib.hid (HX.out.trans x1)
              simp only [errI, Bool.false_eq_true, if_false, if_true]
              have R3' := Go.cell_later x1 R3
              go_wp2
              go_ret
              exact ⟨by rw [hres.out]; rfl, X5.out⟩
            | false =>
              have hsuc := Lib.hid (show rTo l (k + 1) = (k == 0 || bh) by rw [hsuc.out, OK.out]; rfl)
              have HN := Lib.hid (fun (h : (k == 0 || bh) = false) => HN.out (by rw [h]; rfl))
              cases k with
              | zero =>
                have hkw : IntKind.i64.wrap (m : Int) = 0 := hkw
                have hres := Lib.hid (show rTo l (0 + 1) = true by rw [hsuc.out]; rfl)
                clear hsuc HN HP RP hbeh
                go_wp2_with (refine wpList_load_mid rfl 49 (.tmp 21) rfl g _ rfl [.int .i64 eid, .int .i64 egen, .int .i64 efst, .bool false, .int .i64 ecnt, .int .i64 eblk, .int .i64 eearly, .int .i64 elate, .int .i64 ebytes] _ R.out Try.underlying49 rfl HL.out ?_)
                refine (qa.out _).mono ?_
                rintro _ w1 ⟨rfl, x1⟩
                have X5 := Lib.hid (HX.out.trans x1)
                simp only [errI, Bool.false_eq_true, if_false, if_true]
                have R3' := Go.cell_later x1 R3
                go_wp2
                go_roundw
                case rel => exact ⟨0 + 1, by go_num, by omega, hres.out, X5.out⟩
                case measure => simp [intOf]
              | succ j =>
                have RP := Lib.hid (RP.out (Nat.succ_pos j))
                have hsm := entP_sum (HP.out (Nat.succ_pos j))
                rw [show j + 1 - 1 = j from rfl] at RP
                have HPL := Lib.hid (show (Try.prog.info? 49).map (·.size) = some (entC ep).length from ent_size)
                obtain ⟨pid, pgen, pfst, psld, pcnt, pblk, pearly, plate, pbytes⟩ := ep
                dsimp only at hbeh hsm
                have e1 : IntKind.i64.wrap (pfst + pcnt) = pfst + pcnt := by rw [IntKind.wrap_i64]; omega
                have H1 := Lib.hid (show (#[.int .i64 pid, .int .i64 pgen, .int .i64 pfst, .bool psld, .int .i64 pcnt, .int .i64 pblk, .int .i64 pearly, .int .i64 plate, .int .i64 pbytes] : Array Value).all (·.oneCell') = true by simp [Value.oneCell'])
                have HPZ := Lib.hid ent_size
                have j1 : (j : Int) < (m : Int) + 1 := by omega
                have j2 : IntKind.i64.wrap (j : Int) = (j : Int) := by rw [IntKind.wrap_i64]; omega
                have hI : (j : Int) + 1 < (m : Int) + 1 := by omega
                have jz : ((j : Int) + 1 == 0) = false := by simp; omega
                have hkw : IntKind.i64.wrap (m : Int) = (j : Int) + 1 := hkw
                clear hsm HP
                rcases hbeh with ⟨rfl, h1⟩ | ⟨rfl, h1, h2⟩ | ⟨rfl, h1, h2, hs⟩ | ⟨rfl, h1, h2, hs, h3⟩ | ⟨rfl, h1, h2, hs, h3⟩
                · have hres := Lib.hid (HN.out (by simp))
                  clear hsuc HN
                  go_wp2_with (refine wpList_load_mid rfl 49 (.tmp 21) rfl g _ rfl [.int .i64 eid, .int .i64 egen, .int .i64 efst, .bool false, .int .i64 ecnt, .int .i64 eblk, .int .i64 eearly, .int .i64 elate, .int .i64 ebytes] _ R.out Try.underlying49 rfl HL.out ?_)
                  refine (qa.out _).mono ?_
                  rintro _ w1 ⟨rfl, x1⟩
                  have X5 := Lib.hid (HX.out.trans x1)
                  simp only [errI, Bool.false_eq_true, if_false, if_true]
                  have R3' := Go.cell_later x1 R3
                  have R' := rangeAt_ext R.out x1
                  have RP' := Lib.hid (show w1.rangeAt g (o + j * 9) [.int .i64 pid, .int .i64 pgen, .int .i64 pfst, .bool psld, .int .i64 pcnt, .int .i64 pblk, .int .i64 pearly, .int .i64 plate, .int .i64 pbytes] from rangeAt_ext RP.out x1)
                  have B6 := Blk.new w1 49 #[.int .i64 pid, .int .i64 pgen, .int .i64 pfst, .bool psld, .int .i64 pcnt, .int .i64 pblk, .int .i64 pearly, .int .i64 plate, .int .i64 pbytes]
                  have hXX : Ext w1 (w1.alloc (.cells #[.int .i64 pid, .int .i64 pgen, .int .i64 pfst, .bool psld, .int .i64 pcnt, .int .i64 pblk, .int .i64 pearly, .int .i64 plate, .int .i64 pbytes] 49)) := (Ext.refl w1).alloc _
                  have u0 := up_cell (show (w1.alloc (.cells #[.int .i64 pid, .int .i64 pgen, .int .i64 pfst, .bool psld, .int .i64 pcnt, .int .i64 pblk, .int .i64 pearly, .int .i64 plate, .int .i64 pbytes] 49)).cell? ⟨g, o + (j + 1) * 9, none⟩ = some (.int .i64 eid) from Go.cell_later hXX (R' 0 _ rfl))
                  have u2 := up_cell (show (w1.alloc (.cells #[.int .i64 pid, .int .i64 pgen, .int .i64 pfst, .bool psld, .int .i64 pcnt, .int .i64 pblk, .int .i64 pearly, .int .i64 plate, .int .i64 pbytes] 49)).cell? ⟨g, o + (j + 1) * 9 + 2, none⟩ = some (.int .i64 efst) from Go.cell_later hXX (R' 2 _ rfl))
                  have u3 := up_cell (show (w1.alloc (.cells #[.int .i64 pid, .int .i64 pgen, .int .i64 pfst, .bool psld, .int .i64 pcnt, .int .i64 pblk, .int .i64 pearly, .int .i64 plate, .int .i64 pbytes] 49)).cell? ⟨g, o + (j + 1) * 9 + 3, none⟩ = some (.bool false) from Go.cell_later hXX (R' 3 _ rfl))
                  have u6 := up_cell (show (w1.alloc (.cells #[.int .i64 pid, .int .i64 pgen, .int .i64 pfst, .bool psld, .int .i64 pcnt, .int .i64 pblk, .int .i64 pearly, .int .i64 plate, .int .i64 pbytes] 49)).cell? ⟨g, o + (j + 1) * 9 + 6, none⟩ = some (.int .i64 eearly) from Go.cell_later hXX (R' 6 _ rfl))
                  have v0 := up_cell (B6.cell 0)
                  have v2 := up_cell (B6.cell 2)
                  have v4 := up_cell (B6.cell 4)
                  have v7 := up_cell (B6.cell 7)
                  clear R' B6 hXX
                  go_wp2_with (first
                    | (refine wpList_load_mid rfl 49 (.tmp 43) rfl g _ rfl [.int .i64 pid, .int .i64 pgen, .int .i64 pfst, .bool psld, .int .i64 pcnt, .int .i64 pblk, .int .i64 pearly, .int .i64 plate, .int .i64 pbytes] _ RP'.out Try.underlying49 rfl HPZ.out ?_)
                    | (refine wpList_store_new (cs' := #[.int .i64 pid, .int .i64 pgen, .int .i64 pfst, .bool psld, .int .i64 pcnt, .int .i64 pblk, .int .i64 pearly, .int .i64 plate, .int .i64 pbytes]) rfl 49 (.tmp 4) (.tmp 44) rfl rfl rfl rfl HPZ.out H1.out ?_))
                  have n1 : eid ≤ pid := by omega
                  dsimp only [Act.put]
                  refine wp_region_up (by kernel_rfl) (by kernel_rfl) ?_
                  repeat (go_big_quiet_step (fail))
                  refine wpQuiet_nil ?_
                  rintro _ ⟨z, rfl⟩
                  go_wp2
                  go_ret
                  exact ⟨by rw [hres.out]; rfl, (X5.out.alloc _).trans z.ext⟩
                · have hres := Lib.hid (HN.out (by simp))
                  clear hsuc HN
                  have G1 := Lib.hid (show (efst == pfst + pcnt) = false by simpa using h2)
                  clear h2
                  go_wp2_with (refine wpList_load_mid rfl 49 (.tmp 21) rfl g _ rfl [.int .i64 eid, .int .i64 egen, .int .i64 efst, .bool false, .int .i64 ecnt, .int .i64 eblk, .int .i64 eearly, .int .i64 elate, .int .i64 ebytes] _ R.out Try.underlying49 rfl HL.out ?_)
                  refine (qa.out _).mono ?_
                  rintro _ w1 ⟨rfl, x1⟩
                  have X5 := Lib.hid (HX.out.trans x1)
                  simp only [errI, Bool.false_eq_true, if_false, if_true]
                  have R3' := Go.cell_later x1 R3
                  have R' := rangeAt_ext R.out x1
                  have RP' := Lib.hid (show w1.rangeAt g (o + j * 9) [.int .i64 pid, .int .i64 pgen, .int .i64 pfst, .bool psld, .int .i64 pcnt, .int .i64 pblk, .int .i64 pearly, .int .i64 plate, .int .i64 pbytes] from rangeAt_ext RP.out x1)
                  have B6 := Blk.new w1 49 #[.int .i64 pid, .int .i64 pgen, .int .i64 pfst, .bool psld, .int .i64 pcnt, .int .i64 pblk, .int .i64 pearly, .int .i64 plate, .int .i64 pbytes]
                  have hXX : Ext w1 (w1.alloc (.cells #[.int .i64 pid, .int .i64 pgen, .int .i64 pfst, .bool psld, .int .i64 pcnt, .int .i64 pblk, .int .i64 pearly, .int .i64 plate, .int .i64 pbytes] 49)) := (Ext.refl w1).alloc _
                  have u0 := up_cell (show (w1.alloc (.cells #[.int .i64 pid, .int .i64 pgen, .int .i64 pfst, .bool psld, .int .i64 pcnt, .int .i64 pblk, .int .i64 pearly, .int .i64 plate, .int .i64 pbytes] 49)).cell? ⟨g, o + (j + 1) * 9, none⟩ = some (.int .i64 eid) from Go.cell_later hXX (R' 0 _ rfl))
                  have u2 := up_cell (show (w1.alloc (.cells #[.int .i64 pid, .int .i64 pgen, .int .i64 pfst, .bool psld, .int .i64 pcnt, .int .i64 pblk, .int .i64 pearly, .int .i64 plate, .int .i64 pbytes] 49)).cell? ⟨g, o + (j + 1) * 9 + 2, none⟩ = some (.int .i64 efst) from Go.cell_later hXX (R' 2 _ rfl))
                  have u3 := up_cell (show (w1.alloc (.cells #[.int .i64 pid, .int .i64 pgen, .int .i64 pfst, .bool psld, .int .i64 pcnt, .int .i64 pblk, .int .i64 pearly, .int .i64 plate, .int .i64 pbytes] 49)).cell? ⟨g, o + (j + 1) * 9 + 3, none⟩ = some (.bool false) from Go.cell_later hXX (R' 3 _ rfl))
                  have u6 := up_cell (show (w1.alloc (.cells #[.int .i64 pid, .int .i64 pgen, .int .i64 pfst, .bool psld, .int .i64 pcnt, .int .i64 pblk, .int .i64 pearly, .int .i64 plate, .int .i64 pbytes] 49)).cell? ⟨g, o + (j + 1) * 9 + 6, none⟩ = some (.int .i64 eearly) from Go.cell_later hXX (R' 6 _ rfl))
                  have v0 := up_cell (B6.cell 0)
                  have v2 := up_cell (B6.cell 2)
                  have v4 := up_cell (B6.cell 4)
                  have v7 := up_cell (B6.cell 7)
                  clear R' B6 hXX
                  go_wp2_with (first
                    | (refine wpList_load_mid rfl 49 (.tmp 43) rfl g _ rfl [.int .i64 pid, .int .i64 pgen, .int .i64 pfst, .bool psld, .int .i64 pcnt, .int .i64 pblk, .int .i64 pearly, .int .i64 plate, .int .i64 pbytes] _ RP'.out Try.underlying49 rfl HPZ.out ?_)
                    | (refine wpList_store_new (cs' := #[.int .i64 pid, .int .i64 pgen, .int .i64 pfst, .bool psld, .int .i64 pcnt, .int .i64 pblk, .int .i64 pearly, .int .i64 plate, .int .i64 pbytes]) rfl 49 (.tmp 4) (.tmp 44) rfl rfl rfl rfl HPZ.out H1.out ?_))
                  have n1 : ¬ eid ≤ pid := by omega
                  have g1 := G1.out
                  have g2 : (efst != pfst + pcnt) = true := by rw [bne, G1.out]; rfl
                  dsimp only [Act.put]
                  refine wp_region_up (by kernel_rfl) (by kernel_rfl) ?_
                  repeat (go_big_quiet_step (fail))
                  refine wpQuiet_nil ?_
                  rintro _ ⟨z, rfl⟩
                  go_wp2
                  go_ret
                  exact ⟨by rw [hres.out]; rfl, (X5.out.alloc _).trans z.ext⟩
                · have hres := Lib.hid (show rTo l (j + 1 + 1) = true by rw [hsuc.out]; simp)
                  clear hsuc HN
                  have e1' : IntKind.i64.wrap (pfst + pcnt) = efst := e1.trans h2.symm
                  clear h2 e1
                  go_wp2_with (refine wpList_load_mid rfl 49 (.tmp 21) rfl g _ rfl [.int .i64 eid, .int .i64 egen, .int .i64 efst, .bool false, .int .i64 ecnt, .int .i64 eblk, .int .i64 eearly, .int .i64 elate, .int .i64 ebytes] _ R.out Try.underlying49 rfl HL.out ?_)
                  refine (qa.out _).mono ?_
                  rintro _ w1 ⟨rfl, x1⟩
                  have X5 := Lib.hid (HX.out.trans x1)
                  simp only [errI, Bool.false_eq_true, if_false, if_true]
                  have R3' := Go.cell_later x1 R3
                  have R' := rangeAt_ext R.out x1
                  have RP' := Lib.hid (show w1.rangeAt g (o + j * 9) [.int .i64 pid, .int .i64 pgen, .int .i64 pfst, .bool psld, .int .i64 pcnt, .int .i64 pblk, .int .i64 pearly, .int .i64 plate, .int .i64 pbytes] from rangeAt_ext RP.out x1)
                  have B6 := Blk.new w1 49 #[.int .i64 pid, .int .i64 pgen, .int .i64 pfst, .bool psld, .int .i64 pcnt, .int .i64 pblk, .int .i64 pearly, .int .i64 plate, .int .i64 pbytes]
                  have hXX : Ext w1 (w1.alloc (.cells #[.int .i64 pid, .int .i64 pgen, .int .i64 pfst, .bool psld, .int .i64 pcnt, .int .i64 pblk, .int .i64 pearly, .int .i64 plate, .int .i64 pbytes] 49)) := (Ext.refl w1).alloc _
                  have u0 := up_cell (show (w1.alloc (.cells #[.int .i64 pid, .int .i64 pgen, .int .i64 pfst, .bool psld, .int .i64 pcnt, .int .i64 pblk, .int .i64 pearly, .int .i64 plate, .int .i64 pbytes] 49)).cell? ⟨g, o + (j + 1) * 9, none⟩ = some (.int .i64 eid) from Go.cell_later hXX (R' 0 _ rfl))
                  have u2 := up_cell (show (w1.alloc (.cells #[.int .i64 pid, .int .i64 pgen, .int .i64 pfst, .bool psld, .int .i64 pcnt, .int .i64 pblk, .int .i64 pearly, .int .i64 plate, .int .i64 pbytes] 49)).cell? ⟨g, o + (j + 1) * 9 + 2, none⟩ = some (.int .i64 efst) from Go.cell_later hXX (R' 2 _ rfl))
                  have u3 := up_cell (show (w1.alloc (.cells #[.int .i64 pid, .int .i64 pgen, .int .i64 pfst, .bool psld, .int .i64 pcnt, .int .i64 pblk, .int .i64 pearly, .int .i64 plate, .int .i64 pbytes] 49)).cell? ⟨g, o + (j + 1) * 9 + 3, none⟩ = some (.bool false) from Go.cell_later hXX (R' 3 _ rfl))
                  have u6 := up_cell (show (w1.alloc (.cells #[.int .i64 pid, .int .i64 pgen, .int .i64 pfst, .bool psld, .int .i64 pcnt, .int .i64 pblk, .int .i64 pearly, .int .i64 plate, .int .i64 pbytes] 49)).cell? ⟨g, o + (j + 1) * 9 + 6, none⟩ = some (.int .i64 eearly) from Go.cell_later hXX (R' 6 _ rfl))
                  have v0 := up_cell (B6.cell 0)
                  have v2 := up_cell (B6.cell 2)
                  have v4 := up_cell (B6.cell 4)
                  have v7 := up_cell (B6.cell 7)
                  clear R' B6 hXX
                  go_wp2_with (first
                    | (refine wpList_load_mid rfl 49 (.tmp 43) rfl g _ rfl [.int .i64 pid, .int .i64 pgen, .int .i64 pfst, .bool psld, .int .i64 pcnt, .int .i64 pblk, .int .i64 pearly, .int .i64 plate, .int .i64 pbytes] _ RP'.out Try.underlying49 rfl HPZ.out ?_)
                    | (refine wpList_store_new (cs' := #[.int .i64 pid, .int .i64 pgen, .int .i64 pfst, .bool psld, .int .i64 pcnt, .int .i64 pblk, .int .i64 pearly, .int .i64 plate, .int .i64 pbytes]) rfl 49 (.tmp 4) (.tmp 44) rfl rfl rfl rfl HPZ.out H1.out ?_))
                  have n1 : ¬ eid ≤ pid := by omega
                  dsimp only [Act.put]
                  refine wp_region_up (by kernel_rfl) (by kernel_rfl) ?_
                  repeat (go_big_quiet_step (fail))
                  refine wpQuiet_nil ?_
                  rintro _ ⟨z, rfl⟩
                  go_wp2
                  go_roundw
                  case rel => exact ⟨j + 1 + 1, by go_num, by omega, hres.out, (X5.out.alloc _).trans z.ext⟩
                  case measure => simp [intOf]; omega
                · cases hs
                · cases hs
          · have hkk : ((k : Int) == (m : Int)) = false := by simp; omega
            have hkn : (k == m) = false := by simpa using hkm
            rw [hkn] at HN hsuc
            have hkm := Lib.hid hkm
            clear hkn
            cases esld with
            | false =>
              have hres := Lib.hid (HN.out rfl)
              clear hsuc HN HP RP hbeh
              go_wp2_with (refine wpList_load_mid rfl 49 (.tmp 21) rfl g _ rfl [.int .i64 eid, .int .i64 egen, .int .i64 efst, .bool false, .int .i64 ecnt, .int .i64 eblk, .int .i64 eearly, .int .i64 elate, .int .i64 ebytes] _ R.out Try.underlying49 rfl HL.out ?_)
              refine (qa.out _).mono ?_
              rintro _ w1 ⟨rfl, x1⟩
              have X5 := Lib.hid (HX.out.trans x1)
              simp only [errI, Bool.false_eq_true, if_false, if_true]
              have R3' := Go.cell_later x1 R3
              go_wp2
              go_ret
              exact ⟨by rw [hres.out]; rfl, X5.out⟩
            | true =>
              have hsuc := Lib.hid (show rTo l (k + 1) = (k == 0 || bh) by rw [hsuc.out, OK.out]; rfl)
              have HN := Lib.hid (fun (h : (k == 0 || bh) = false) => HN.out (by rw [h]; rfl))
              cases k with
              | zero =>
                have hkk : ((0 : Int) == (m : Int)) = false := hkk
                have hres := Lib.hid (show rTo l (0 + 1) = true by rw [hsuc.out]; rfl)
                clear hsuc HN HP RP hbeh
                go_wp2_with (refine wpList_load_mid rfl 49 (.tmp 21) rfl g _ rfl [.int .i64 eid, .int .i64 egen, .int .i64 efst, .bool true, .int .i64 ecnt, .int .i64 eblk, .int .i64 eearly, .int .i64 elate, .int .i64 ebytes] _ R.out Try.underlying49 rfl HL.out ?_)
                refine (qa.out _).mono ?_
                rintro _ w1 ⟨rfl, x1⟩
                have X5 := Lib.hid (HX.out.trans x1)
                simp only [errI, Bool.false_eq_true, if_false, if_true]
                have R3' := Go.cell_later x1 R3
                go_wp2
                go_roundw
                case rel => exact ⟨0 + 1, by go_num, by omega, hres.out, X5.out⟩
                case measure => simp [intOf]
              | succ j =>
                have RP := Lib.hid (RP.out (Nat.succ_pos j))
                have hsm := entP_sum (HP.out (Nat.succ_pos j))
                rw [show j + 1 - 1 = j from rfl] at RP
                have HPL := Lib.hid (show (Try.prog.info? 49).map (·.size) = some (entC ep).length from ent_size)
                obtain ⟨pid, pgen, pfst, psld, pcnt, pblk, pearly, plate, pbytes⟩ := ep
                dsimp only at hbeh hsm
                have e1 : IntKind.i64.wrap (pfst + pcnt) = pfst + pcnt := by rw [IntKind.wrap_i64]; omega
                have H1 := Lib.hid (show (#[.int .i64 pid, .int .i64 pgen, .int .i64 pfst, .bool psld, .int .i64 pcnt, .int .i64 pblk, .int .i64 pearly, .int .i64 plate, .int .i64 pbytes] : Array Value).all (·.oneCell') = true by simp [Value.oneCell'])
                have HPZ := Lib.hid ent_size
                have j1 : (j : Int) < (m : Int) + 1 := by omega
                have j2 : IntKind.i64.wrap (j : Int) = (j : Int) := by rw [IntKind.wrap_i64]; omega
                have hI : (j : Int) + 1 < (m : Int) + 1 := by omega
                have jz : ((j : Int) + 1 == 0) = false := by simp; omega
                have hkk : ((j : Int) + 1 == (m : Int)) = false := hkk
                clear hsm HP
                rcases hbeh with ⟨rfl, h1⟩ | ⟨rfl, h1, h2⟩ | ⟨rfl, h1, h2, hs⟩ | ⟨rfl, h1, h2, hs, h3⟩ | ⟨rfl, h1, h2, hs, h3⟩
                · have hres := Lib.hid (HN.out (by simp))
                  clear hsuc HN
                  go_wp2_with (refine wpList_load_mid rfl 49 (.tmp 21) rfl g _ rfl [.int .i64 eid, .int .i64 egen, .int .i64 efst, .bool true, .int .i64 ecnt, .int .i64 eblk, .int .i64 eearly, .int .i64 elate, .int .i64 ebytes] _ R.out Try.underlying49 rfl HL.out ?_)
                  refine (qa.out _).mono ?_
                  rintro _ w1 ⟨rfl, x1⟩
                  have X5 := Lib.hid (HX.out.trans x1)
                  simp only [errI, Bool.false_eq_true, if_false, if_true]
                  have R3' := Go.cell_later x1 R3
                  have R' := rangeAt_ext R.out x1
                  have RP' := Lib.hid (show w1.rangeAt g (o + j * 9) [.int .i64 pid, .int .i64 pgen, .int .i64 pfst, .bool psld, .int .i64 pcnt, .int .i64 pblk, .int .i64 pearly, .int .i64 plate, .int .i64 pbytes] from rangeAt_ext RP.out x1)
                  have B6 := Blk.new w1 49 #[.int .i64 pid, .int .i64 pgen, .int .i64 pfst, .bool psld, .int .i64 pcnt, .int .i64 pblk, .int .i64 pearly, .int .i64 plate, .int .i64 pbytes]
                  have hXX : Ext w1 (w1.alloc (.cells #[.int .i64 pid, .int .i64 pgen, .int .i64 pfst, .bool psld, .int .i64 pcnt, .int .i64 pblk, .int .i64 pearly, .int .i64 plate, .int .i64 pbytes] 49)) := (Ext.refl w1).alloc _
                  have u0 := up_cell (show (w1.alloc (.cells #[.int .i64 pid, .int .i64 pgen, .int .i64 pfst, .bool psld, .int .i64 pcnt, .int .i64 pblk, .int .i64 pearly, .int .i64 plate, .int .i64 pbytes] 49)).cell? ⟨g, o + (j + 1) * 9, none⟩ = some (.int .i64 eid) from Go.cell_later hXX (R' 0 _ rfl))
                  have u2 := up_cell (show (w1.alloc (.cells #[.int .i64 pid, .int .i64 pgen, .int .i64 pfst, .bool psld, .int .i64 pcnt, .int .i64 pblk, .int .i64 pearly, .int .i64 plate, .int .i64 pbytes] 49)).cell? ⟨g, o + (j + 1) * 9 + 2, none⟩ = some (.int .i64 efst) from Go.cell_later hXX (R' 2 _ rfl))
                  have u3 := up_cell (show (w1.alloc (.cells #[.int .i64 pid, .int .i64 pgen, .int .i64 pfst, .bool psld, .int .i64 pcnt, .int .i64 pblk, .int .i64 pearly, .int .i64 plate, .int .i64 pbytes] 49)).cell? ⟨g, o + (j + 1) * 9 + 3, none⟩ = some (.bool true) from Go.cell_later hXX (R' 3 _ rfl))
                  have u6 := up_cell (show (w1.alloc (.cells #[.int .i64 pid, .int .i64 pgen, .int .i64 pfst, .bool psld, .int .i64 pcnt, .int .i64 pblk, .int .i64 pearly, .int .i64 plate, .int .i64 pbytes] 49)).cell? ⟨g, o + (j + 1) * 9 + 6, none⟩ = some (.int .i64 eearly) from Go.cell_later hXX (R' 6 _ rfl))
                  have v0 := up_cell (B6.cell 0)
                  have v2 := up_cell (B6.cell 2)
                  have v4 := up_cell (B6.cell 4)
                  have v7 := up_cell (B6.cell 7)
                  clear R' B6 hXX
                  go_wp2_with (first
                    | (refine wpList_load_mid rfl 49 (.tmp 43) rfl g _ rfl [.int .i64 pid, .int .i64 pgen, .int .i64 pfst, .bool psld, .int .i64 pcnt, .int .i64 pblk, .int .i64 pearly, .int .i64 plate, .int .i64 pbytes] _ RP'.out Try.underlying49 rfl HPZ.out ?_)
                    | (refine wpList_store_new (cs' := #[.int .i64 pid, .int .i64 pgen, .int .i64 pfst, .bool psld, .int .i64 pcnt, .int .i64 pblk, .int .i64 pearly, .int .i64 plate, .int .i64 pbytes]) rfl 49 (.tmp 4) (.tmp 44) rfl rfl rfl rfl HPZ.out H1.out ?_))
                  have n1 : eid ≤ pid := by omega
                  dsimp only [Act.put]
                  refine wp_region_up (by kernel_rfl) (by kernel_rfl) ?_
                  repeat (go_big_quiet_step (fail))
                  refine wpQuiet_nil ?_
                  rintro _ ⟨z, rfl⟩
                  go_wp2
                  go_ret
                  exact ⟨by rw [hres.out]; rfl, (X5.out.alloc _).trans z.ext⟩
                · have hres := Lib.hid (HN.out (by simp))
                  clear hsuc HN
                  have G1 := Lib.hid (show (efst == pfst + pcnt) = false by simpa using h2)
                  clear h2
                  go_wp2_with (refine wpList_load_mid rfl 49 (.tmp 21) rfl g _ rfl [.int .i64 eid, .int .i64 egen, .int .i64 efst, .bool true, .int .i64 ecnt, .int .i64 eblk, .int .i64 eearly, .int .i64 elate, .int .i64 ebytes] _ R.out Try.underlying49 rfl HL.out ?_)
                  refine (qa.out _).mono ?_
                  rintro _ w1 ⟨rfl, x1⟩
                  have X5 := Lib.hid (HX.out.trans x1)
                  simp only [errI, Bool.false_eq_true, if_false, if_true]
                  have R3' := Go.cell_later x1 R3
                  have R' := rangeAt_ext R.out x1
                  have RP' := Lib.hid (show w1.rangeAt g (o + j * 9) [.int .i64 pid, .int .i64 pgen, .int .i64 pfst, .bool psld, .int .i64 pcnt, .int .i64 pblk, .int .i64 pearly, .int .i64 plate, .int .i64 pbytes] from rangeAt_ext RP.out x1)
                  have B6 := Blk.new w1 49 #[.int .i64 pid, .int .i64 pgen, .int .i64 pfst, .bool psld, .int .i64 pcnt, .int .i64 pblk, .int .i64 pearly, .int .i64 plate, .int .i64 pbytes]
                  have hXX : Ext w1 (w1.alloc (.cells #[.int .i64 pid, .int .i64 pgen, .int .i64 pfst, .bool psld, .int .i64 pcnt, .int .i64 pblk, .int .i64 pearly, .int .i64 plate, .int .i64 pbytes] 49)) := (Ext.refl w1).alloc _
                  have u0 := up_cell (show (w1.alloc (.cells #[.int .i64 pid, .int .i64 pgen, .int .i64 pfst, .bool psld, .int .i64 pcnt, .int .i64 pblk, .int .i64 pearly, .int .i64 plate, .int .i64 pbytes] 49)).cell? ⟨g, o + (j + 1) * 9, none⟩ = some (.int .i64 eid) from Go.cell_later hXX (R' 0 _ rfl))
                  have u2 := up_cell (show (w1.alloc (.cells #[.int .i64 pid, .int .i64 pgen, .int .i64 pfst, .bool psld, .int .i64 pcnt, .int .i64 pblk, .int .i64 pearly, .int .i64 plate, .int .i64 pbytes] 49)).cell? ⟨g, o + (j + 1) * 9 + 2, none⟩ = some (.int .i64 efst) from Go.cell_later hXX (R' 2 _ rfl))
                  have u3 := up_cell (show (w1.alloc (.cells #[.int .i64 pid, .int .i64 pgen, .int .i64 pfst, .bool psld, .int .i64 pcnt, .int .i64 pblk, .int .i64 pearly, .int .i64 plate, .int .i64 pbytes] 49)).cell? ⟨g, o + (j + 1) * 9 + 3, none⟩ = some (.bool true) from Go.cell_later hXX (R' 3 _ rfl))
                  have u6 := up_cell (show (w1.alloc (.cells #[.int .i64 pid, .int .i64 pgen, .int .i64 pfst, .bool psld, .int .i64 pcnt, .int .i64 pblk, .int .i64 pearly, .int .i64 plate, .int .i64 pbytes] 49)).cell? ⟨g, o + (j + 1) * 9 + 6, none⟩ = some (.int .i64 eearly) from Go.cell_later hXX (R' 6 _ rfl))
                  have v0 := up_cell (B6.cell 0)
                  have v2 := up_cell (B6.cell 2)
                  have v4 := up_cell (B6.cell 4)
                  have v7 := up_cell (B6.cell 7)
                  clear R' B6 hXX
                  go_wp2_with (first
                    | (refine wpList_load_mid rfl 49 (.tmp 43) rfl g _ rfl [.int .i64 pid, .int .i64 pgen, .int .i64 pfst, .bool psld, .int .i64 pcnt, .int .i64 pblk, .int .i64 pearly, .int .i64 plate, .int .i64 pbytes] _ RP'.out Try.underlying49 rfl HPZ.out ?_)
                    | (refine wpList_store_new (cs' := #[.int .i64 pid, .int .i64 pgen, .int .i64 pfst, .bool psld, .int .i64 pcnt, .int .i64 pblk, .int .i64 pearly, .int .i64 plate, .int .i64 pbytes]) rfl 49 (.tmp 4) (.tmp 44) rfl rfl rfl rfl HPZ.out H1.out ?_))
                  have n1 : ¬ eid ≤ pid := by omega
                  have g1 := G1.out
                  have g2 : (efst != pfst + pcnt) = true := by rw [bne, G1.out]; rfl
                  dsimp only [Act.put]
                  refine wp_region_up (by kernel_rfl) (by kernel_rfl) ?_
                  repeat (go_big_quiet_step (fail))
                  refine wpQuiet_nil ?_
                  rintro _ ⟨z, rfl⟩
                  go_wp2
                  go_ret
                  exact ⟨by rw [hres.out]; rfl, (X5.out.alloc _).trans z.ext⟩
                · cases hs
                · have hres := Lib.hid (show rTo l (j + 1 + 1) = true by rw [hsuc.out]; simp)
                  clear hsuc HN
                  have e1' : IntKind.i64.wrap (pfst + pcnt) = efst := e1.trans h2.symm
                  clear h2 e1
                  go_wp2_with (refine wpList_load_mid rfl 49 (.tmp 21) rfl g _ rfl [.int .i64 eid, .int .i64 egen, .int .i64 efst, .bool true, .int .i64 ecnt, .int .i64 eblk, .int .i64 eearly, .int .i64 elate, .int .i64 ebytes] _ R.out Try.underlying49 rfl HL.out ?_)
                  refine (qa.out _).mono ?_
                  rintro _ w1 ⟨rfl, x1⟩
                  have X5 := Lib.hid (HX.out.trans x1)
                  simp only [errI, Bool.false_eq_true, if_false, if_true]
                  have R3' := Go.cell_later x1 R3
                  have R' := rangeAt_ext R.out x1
                  have RP' := Lib.hid (show w1.rangeAt g (o + j * 9) [.int .i64 pid, .int .i64 pgen, .int .i64 pfst, .bool psld, .int .i64 pcnt, .int .i64 pblk, .int .i64 pearly, .int .i64 plate, .int .i64 pbytes] from rangeAt_ext RP.out x1)
                  have B6 := Blk.new w1 49 #[.int .i64 pid, .int .i64 pgen, .int .i64 pfst, .bool psld, .int .i64 pcnt, .int .i64 pblk, .int .i64 pearly, .int .i64 plate, .int .i64 pbytes]
                  have hXX : Ext w1 (w1.alloc (.cells #[.int .i64 pid, .int .i64 pgen, .int .i64 pfst, .bool psld, .int .i64 pcnt, .int .i64 pblk, .int .i64 pearly, .int .i64 plate, .int .i64 pbytes] 49)) := (Ext.refl w1).alloc _
                  have u0 := up_cell (show (w1.alloc (.cells #[.int .i64 pid, .int .i64 pgen, .int .i64 pfst, .bool psld, .int .i64 pcnt, .int .i64 pblk, .int .i64 pearly, .int .i64 plate, .int .i64 pbytes] 49)).cell? ⟨g, o + (j + 1) * 9, none⟩ = some (.int .i64 eid) from Go.cell_later hXX (R' 0 _ rfl))
                  have u2 := up_cell (show (w1.alloc (.cells #[.int .i64 pid, .int .i64 pgen, .int .i64 pfst, .bool psld, .int .i64 pcnt, .int .i64 pblk, .int .i64 pearly, .int .i64 plate, .int .i64 pbytes] 49)).cell? ⟨g, o + (j + 1) * 9 + 2, none⟩ = some (.int .i64 efst) from Go.cell_later hXX (R' 2 _ rfl))
                  have u3 := up_cell (show (w1.alloc (.cells #[.int .i64 pid, .int .i64 pgen, .int .i64 pfst, .bool psld, .int .i64 pcnt, .int .i64 pblk, .int .i64 pearly, .int .i64 plate, .int .i64 pbytes] 49)).cell? ⟨g, o + (j + 1) * 9 + 3, none⟩ = some (.bool true) from Go.cell_later hXX (R' 3 _ rfl))
                  have u6 := up_cell (show (w1.alloc (.cells #[.int .i64 pid, .int .i64 pgen, .int .i64 pfst, .bool psld, .int .i64 pcnt, .int .i64 pblk, .int .i64 pearly, .int .i64 plate, .int .i64 pbytes] 49)).cell? ⟨g, o + (j + 1) * 9 + 6, none⟩ = some (.int .i64 eearly) from Go.cell_later hXX (R' 6 _ rfl))
                  have v0 := up_cell (B6.cell 0)
                  have v2 := up_cell (B6.cell 2)
                  have v4 := up_cell (B6.cell 4)
                  have v7 := up_cell (B6.cell 7)
                  clear R' B6 hXX
                  go_wp2_with (first
                    | (refine wpList_load_mid rfl 49 (.tmp 43) rfl g _ rfl [.int .i64 pid, .int .i64 pgen, .int .i64 pfst, .bool psld, .int .i64 pcnt, .int .i64 pblk, .int .i64 pearly, .int .i64 plate, .int .i64 pbytes] _ RP'.out Try.underlying49 rfl HPZ.out ?_)
                    | (refine wpList_store_new (cs' := #[.int .i64 pid, .int .i64 pgen, .int .i64 pfst, .bool psld, .int .i64 pcnt, .int .i64 pblk, .int .i64 pearly, .int .i64 plate, .int .i64 pbytes]) rfl 49 (.tmp 4) (.tmp 44) rfl rfl rfl rfl HPZ.out H1.out ?_))
                  have n1 : ¬ eid ≤ pid := by omega
                  have n2 : ¬ eearly < plate := by omega
                  dsimp only [Act.put]
                  refine wp_region_up (by kernel_rfl) (by kernel_rfl) ?_
                  repeat (go_big_quiet_step (fail))
                  refine wpQuiet_nil ?_
                  rintro _ ⟨z, rfl⟩
                  go_wp2
                  go_roundw
                  case rel => exact ⟨j + 1 + 1, by go_num, by omega, hres.out, (X5.out.alloc _).trans z.ext⟩
                  case measure => simp [intOf]; omega
                · have hres := Lib.hid (HN.out (by simp))
                  clear hsuc HN
                  have e1' : IntKind.i64.wrap (pfst + pcnt) = efst := e1.trans h2.symm
                  clear h2 e1
                  go_wp2_with (refine wpList_load_mid rfl 49 (.tmp 21) rfl g _ rfl [.int .i64 eid, .int .i64 egen, .int .i64 efst, .bool true, .int .i64 ecnt, .int .i64 eblk, .int .i64 eearly, .int .i64 elate, .int .i64 ebytes] _ R.out Try.underlying49 rfl HL.out ?_)
                  refine (qa.out _).mono ?_
                  rintro _ w1 ⟨rfl, x1⟩
                  have X5 := Lib.hid (HX.out.trans x1)
                  simp only [errI, Bool.false_eq_true, if_false, if_true]
                  have R3' := Go.cell_later x1 R3
                  have R' := rangeAt_ext R.out x1
                  have RP' := Lib.hid (show w1.rangeAt g (o + j * 9) [.int .i64 pid, .int .i64 pgen, .int .i64 pfst, .bool psld, .int .i64 pcnt, .int .i64 pblk, .int .i64 pearly, .int .i64 plate, .int .i64 pbytes] from rangeAt_ext RP.out x1)
                  have B6 := Blk.new w1 49 #[.int .i64 pid, .int .i64 pgen, .int .i64 pfst, .bool psld, .int .i64 pcnt, .int .i64 pblk, .int .i64 pearly, .int .i64 plate, .int .i64 pbytes]
                  have hXX : Ext w1 (w1.alloc (.cells #[.int .i64 pid, .int .i64 pgen, .int .i64 pfst, .bool psld, .int .i64 pcnt, .int .i64 pblk, .int .i64 pearly, .int .i64 plate, .int .i64 pbytes] 49)) := (Ext.refl w1).alloc _
                  have u0 := up_cell (show (w1.alloc (.cells #[.int .i64 pid, .int .i64 pgen, .int .i64 pfst, .bool psld, .int .i64 pcnt, .int .i64 pblk, .int .i64 pearly, .int .i64 plate, .int .i64 pbytes] 49)).cell? ⟨g, o + (j + 1) * 9, none⟩ = some (.int .i64 eid) from Go.cell_later hXX (R' 0 _ rfl))
                  have u2 := up_cell (show (w1.alloc (.cells #[.int .i64 pid, .int .i64 pgen, .int .i64 pfst, .bool psld, .int .i64 pcnt, .int .i64 pblk, .int .i64 pearly, .int .i64 plate, .int .i64 pbytes] 49)).cell? ⟨g, o + (j + 1) * 9 + 2, none⟩ = some (.int .i64 efst) from Go.cell_later hXX (R' 2 _ rfl))
                  have u3 := up_cell (show (w1.alloc (.cells #[.int .i64 pid, .int .i64 pgen, .int .i64 pfst, .bool psld, .int .i64 pcnt, .int .i64 pblk, .int .i64 pearly, .int .i64 plate, .int .i64 pbytes] 49)).cell? ⟨g, o + (j + 1) * 9 + 3, none⟩ = some (.bool true) from Go.cell_later hXX (R' 3 _ rfl))
                  have u6 := up_cell (show (w1.alloc (.cells #[.int .i64 pid, .int .i64 pgen, .int .i64 pfst, .bool psld, .int .i64 pcnt, .int .i64 pblk, .int .i64 pearly, .int .i64 plate, .int .i64 pbytes] 49)).cell? ⟨g, o + (j + 1) * 9 + 6, none⟩ = some (.int .i64 eearly) from Go.cell_later hXX (R' 6 _ rfl))
                  have v0 := up_cell (B6.cell 0)
                  have v2 := up_cell (B6.cell 2)
                  have v4 := up_cell (B6.cell 4)
                  have v7 := up_cell (B6.cell 7)
                  clear R' B6 hXX
                  go_wp2_with (first
                    | (refine wpList_load_mid rfl 49 (.tmp 43) rfl g _ rfl [.int .i64 pid, .int .i64 pgen, .int .i64 pfst, .bool psld, .int .i64 pcnt, .int .i64 pblk, .int .i64 pearly, .int .i64 plate, .int .i64 pbytes] _ RP'.out Try.underlying49 rfl HPZ.out ?_)
                    | (refine wpList_store_new (cs' := #[.int .i64 pid, .int .i64 pgen, .int .i64 pfst, .bool psld, .int .i64 pcnt, .int .i64 pblk, .int .i64 pearly, .int .i64 plate, .int .i64 pbytes]) rfl 49 (.tmp 4) (.tmp 44) rfl rfl rfl rfl HPZ.out H1.out ?_))
                  have n1 : ¬ eid ≤ pid := by omega
                  have n2 : eearly < plate := by omega
                  dsimp only [Act.put]
                  refine wp_region_up (by kernel_rfl) (by kernel_rfl) ?_
                  repeat (go_big_quiet_step (fail))
                  refine wpQuiet_nil ?_
                  rintro _ ⟨z, rfl⟩
                  go_wp2
                  go_ret
                  exact ⟨by rw [hres.out]; rfl, (X5.out.alloc _).trans z.ext⟩
      · obtain rfl : k = m + 1 := by omega
        have hres := Lib.hid (HY.out OK.out)
        clear hk hx hok
        go_wp2
        go_ret
        exact ⟨by rw [hres.out]; rfl, HX.out⟩
  · have hres := Lib.hid (row_len hlen)
    by_cases h1 : 1 ≤ (l.length : Int)
    · have h2 : (100 : Int) < (l.length : Int) := by omega
      have h3 : ((l.length : Int) == 0) = false := by rw [beq_eq_false_iff_ne]; omega
      clear hs hlen
      go_enter Try.func39, Try.ntmps39
      go_wp2
      go_ret
      exact ⟨by rw [hres.out]; rfl, Ext.refl _⟩
    · obtain rfl : l = [] := List.eq_nil_of_length_eq_zero (by omega)
      clear hs hlen
      go_enter Try.func39, Try.ntmps39
      go_wp2
      go_ret
      exact ⟨by rw [hres.out]; rfl, Ext.refl _⟩
end Go.Proofs.Ytcagcepbnkageaa
