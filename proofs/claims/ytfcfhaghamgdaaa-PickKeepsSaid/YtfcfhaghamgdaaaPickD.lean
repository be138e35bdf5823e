/- varveref27: Enough. -/
import Derived.Test.YtfcfhaghamgdaaaPickC
import Derived.Test.YtfcfhaghamgdaaaPickB
namespace Go.Proofs.Ytfcfhaghamgdaaa
set_option linter.unusedVariables false
set_option linter.unusedSimpArgs false
open Go.RowKit

/-- is an entry too old? -/
def oldP (old now : Int) (e : E9) : Bool := decide (0 < old) && decide (old < clampI now - e.late)
/-- are sealed entries enough kept? -/
def enoughP (keep byt old now : Int) (l : List E9) : Bool := l.all (fun e => !oldP old now e) && ((decide (keep = 0) || decide ((l.length : Int) ≤ keep)) && (decide (byt = 0) || decide (bytesL l ≤ byt)))
theorem all_drop {p : E9 → Bool} {l : List E9} {k : Nat} (hk : k < l.length) : (l.drop k).all p = (p (l.getD k default) && (l.drop (k + 1)).all p) := by
  rw [List.drop_eq_getElem_cons hk, List.all_cons, List.getD_eq_getElem?_getD, List.getElem?_eq_getElem hk]; rfl
theorem conf_cell {w w' : World} {blk tgt seg age keep byt old : Int} (hx : Ext (w.alloc (.cells #[.int .i64 blk, .int .i64 tgt, .int .i64 seg, .int .i64 age, .int .i64 keep, .int .i64 byt, .int .i64 old] 23)) w') :
    w'.cell? ⟨w.heap.size, 4, none⟩ = some (.int .i64 keep) ∧ w'.cell? ⟨w.heap.size, 5, none⟩ = some (.int .i64 byt) ∧ w'.cell? ⟨w.heap.size, 6, none⟩ = some (.int .i64 old) := by
  have b := (Blk.new w 23 #[.int .i64 blk, .int .i64 tgt, .int .i64 seg, .int .i64 age, .int .i64 keep, .int .i64 byt, .int .i64 old]).ext hx
  exact ⟨b.cell 4, b.cell 5, b.cell 6⟩

set_option maxRecDepth 20000 in
set_option maxHeartbeats 8000000 in
theorem enough_any (blk tgt seg age keep byt old now : Int) (l : List E9) (v : Value) (w : World) (hr : RR entC 9 w v l) (ht : tame l) (hl : (l.length : Int) ≤ 1000) (hk0 : 0 ≤ keep) (hb0 : 0 ≤ byt) (ho0 : 0 ≤ old ∧ old ≤ 1000000000) :
    Calls Try.prog 19 #[.agg #[.int .i64 blk, .int .i64 tgt, .int .i64 seg, .int .i64 age, .int .i64 keep, .int .i64 byt, .int .i64 old], v, .int .i64 now] w fun e w' => e = .returned (.bool (enoughP keep byt old now l)) ∧ Ext w w' := by
  have HT := Lib.hid (fun k => bytesL_le (tame_take ht k))
  have HL := Lib.hid (fun e (he : e ∈ l) => (ht e he).2.2)
  have qn := Lib.hid (fun w => rclamp_any now w)
  have hcl := clampI_le now
  obtain ⟨p, hp⟩ : ∃ p : E9 → Bool, p = fun e => !oldP old now e := ⟨_, rfl⟩
  have HPP := Lib.hid (fun e => show p e = !(decide (0 < old) && decide (old < clampI now - e.late)) by rw [hp]; rfl)
  have HR := Lib.hid (show enoughP keep byt old now l = (l.all p && ((decide (keep = 0) || decide ((l.length : Int) ≤ keep)) && (decide (byt = 0) || decide (bytesL l ≤ byt)))) by rw [hp]; rfl)
  clear hp
  generalize enoughP keep byt old now l = r at *
  generalize clampI now = cn at *
  obtain ⟨a, c, rfl, hc, _, hs⟩ := hr
  have HS := Lib.hid hs
  have HKC := Lib.hid (fun w' hx => conf_cell (w := w) (w' := w') (blk := blk) (tgt := tgt) (seg := seg) (age := age) (keep := keep) (byt := byt) (old := old) hx)
  have XB := Lib.hid ((Ext.refl w).alloc (.cells #[.int .i64 blk, .int .i64 tgt, .int .i64 seg, .int .i64 age, .int .i64 keep, .int .i64 byt, .int .i64 old] 23))
  clear hs ht
  go_enter Try.func19, Try.ntmps19
  go_wp2
  go_loopw [8, 7] (fun i n wr => ∃ k : Nat, i = .int .i64 (k : Int) ∧ k ≤ l.length ∧ n = .int .i64 (bytesL (l.take k)) ∧ l.all p = (l.drop k).all p ∧ Ext (w.alloc (.cells #[.int .i64 blk, .int .i64 tgt, .int .i64 seg, .int .i64 age, .int .i64 keep, .int .i64 byt, .int .i64 old] 23)) wr) (fun i _ _ => l.length - (intOf i).toNat)
  case atStart => exact ⟨0, rfl, Nat.zero_le _, rfl, rfl, Ext.refl _⟩
  case round =>
    obtain ⟨k, rfl, hk, rfl, hall, hx⟩ := hrel
    have HX := Lib.hid hx
    have HA := Lib.hid hall
    obtain ⟨c4, c5, c6⟩ := HKC.out wr hx
    clear hall
    by_cases hlt : k < l.length
    · have hI : (k : Int) < (l.length : Int) := by omega
      obtain ⟨g, o, rfl, hcs⟩ := HS.out (by omega)
      have R := rangeAt_ext (hcs k _ (ent_at hlt)) (XB.out.trans hx)
      have hst := bytesL_step hlt
      have hb1 := HT.out k
      have hb2 := HT.out (k + 1)
      have hlate := HL.out _ (List.mem_of_getElem? (ent_at hlt))
      have HD := Lib.hid (all_drop (p := p) hlt)
      have HE := Lib.hid (HPP.out (l.getD k default))
      rw [List.length_take] at hb1 hb2
      generalize hen : l.getD k default = en at *
      clear hen
      have c8 : wr.cell? ⟨g, o + k * 9 + 8, none⟩ = some (.int .i64 en.bytes) := R 8 _ rfl
      have c7 := up_cell (show wr.cell? ⟨g, o + k * 9 + 7, none⟩ = some (.int .i64 en.late) from R 7 _ rfl)
      have u6 := up_cell c6
      have hw : IntKind.i64.wrap (bytesL (l.take k) + en.bytes) = bytesL (l.take (k + 1)) := by rw [← hst, IntKind.wrap_i64]; omega
      have HD := Lib.hid (HD.out.trans (by rw [HE.out]))
      clear HE
      generalize en.bytes = ebytes at *
      generalize en.late = elate at *
      generalize bytesL (l.take k) = u at *
      obtain ⟨u2, hu2⟩ : ∃ u2, u2 = bytesL (l.take (k + 1)) := ⟨_, rfl⟩
      rw [← hu2] at hw
      have HU := Lib.hid hu2
      have e1 : IntKind.i64.wrap (cn - elate) = cn - elate := by rw [IntKind.wrap_i64]; omega
      clear hu2 hb1 hb2 hst R hx hcs
      by_cases h1 : 0 < old
      · by_cases h2 : old < cn - elate
        · have hres := Lib.hid (show r = false by rw [HR.out, HA.out, HD.out, decide_eq_true h1, decide_eq_true h2]; rfl)
          clear HA HD
          go_wp2_with fail
          refine wp_region_up (by kernel_rfl) (by kernel_rfl) ?_
          repeat (go_big_quiet_step (first | (go_at_call 30; (with_reducible exact up_same (qn.out _))) | fail))
          refine wpQuiet_nil ?_
          rintro _ ⟨z, rfl⟩
          go_wp2
          go_ret
          exact ⟨by rw [hres.out]; rfl, (XB.out.trans HX.out).trans z.ext⟩
        · have hres := Lib.hid (show l.all p = (l.drop (k + 1)).all p by rw [HA.out, HD.out, decide_eq_true h1, decide_eq_false h2]; rfl)
          clear HA HD
          go_wp2_with fail
          have h2' : (old < cn - elate) = False := by simp; omega
          refine wp_region_up (by kernel_rfl) (by kernel_rfl) ?_
          repeat (go_big_quiet_step (first | (go_at_call 30; (with_reducible exact up_same (qn.out _))) | fail))
          refine wpQuiet_nil ?_
          rintro _ ⟨z, rfl⟩
          go_wp2
          go_roundw
          case rel => exact ⟨k + 1, by go_num, by omega, by rw [← HU.out], hres.out, HX.out.trans z.ext⟩
          case measure => simp [intOf]; omega
      · have hres := Lib.hid (show l.all p = (l.drop (k + 1)).all p by rw [HA.out, HD.out, decide_eq_false h1]; rfl)
        clear HA HD
        go_wp2_with fail
        have h1' : ¬ 0 < old := by omega
        refine wp_region_up (by kernel_rfl) (by kernel_rfl) ?_
        repeat (go_big_quiet_step (fail))
        refine wpQuiet_nil ?_
        rintro _ ⟨z, rfl⟩
        go_wp2
        go_roundw
        case rel => exact ⟨k + 1, by go_num, by omega, by rw [← HU.out], hres.out, HX.out.trans z.ext⟩
        case measure => simp [intOf]; omega
    · obtain rfl : k = l.length := by omega
      have hres := Lib.hid (show r = (true && ((decide (keep = 0) || decide ((l.length : Int) ≤ keep)) && (decide (byt = 0) || decide (bytesL l ≤ byt)))) by rw [HR.out, HA.out, List.drop_eq_nil_of_le (Nat.le_refl _)]; rfl)
      rw [List.take_of_length_le (Nat.le_refl _)]
      clear hx hk HA HR
      generalize bytesL l = bl at *
      have XF := Lib.hid (XB.out.trans HX.out)
      by_cases k0 : keep = 0
      · by_cases y0 : byt = 0
        · have hd := Lib.hid (show r = true by rw [hres.out]; simp [k0, y0])
          subst k0; subst y0
          go_wp2
          go_ret
          exact ⟨by rw [hd.out]; rfl, XF.out⟩
        · have hd := Lib.hid (show r = decide (bl ≤ byt) by rw [hres.out]; simp [k0, y0])
          have y1 : (byt == 0) = false := by simpa using y0
          subst k0
          go_wp2
          go_ret
          exact ⟨by rw [hd.out]; rfl, XF.out⟩
      · have k1 : (keep == 0) = false := by simpa using k0
        by_cases k2 : (l.length : Int) ≤ keep
        · by_cases y0 : byt = 0
          · have hd := Lib.hid (show r = true by rw [hres.out]; simp [k2, y0])
            subst y0
            go_wp2
            go_ret
            exact ⟨by rw [hd.out]; rfl, XF.out⟩
          · have hd := Lib.hid (show r = decide (bl ≤ byt) by rw [hres.out]; simp [k2, y0])
            have y1 : (byt == 0) = false := by simpa using y0
            go_wp2
            go_ret
            exact ⟨by rw [hd.out]; rfl, XF.out⟩
        · have hd := Lib.hid (show r = false by rw [hres.out]; simp [k0, k2])
          go_wp2
          go_ret
          exact ⟨by rw [hd.out]; rfl, XF.out⟩
end Go.Proofs.Ytfcfhaghamgdaaa
