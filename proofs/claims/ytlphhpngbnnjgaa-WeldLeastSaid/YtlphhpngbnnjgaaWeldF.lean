/- weld: Raws, Done; ref: Raws, Done. -/
import Derived.Test.YtlphhpngbnnjgaaMeta3
import Derived.Test.YtlphhpngbnnjgaaWeldE
namespace Go.Proofs.Ytlphhpngbnnjgaa
set_option linter.unusedVariables false
set_option linter.unusedSimpArgs false
open Go.RowKit

def rawsL (l : List M7) : List Int := if blocksP l then l.map (·.raw) else []
theorem blocksP_len {l : List M7} (h : blocksP l = true) : (l.length : Int) ≤ 1000 := by
  unfold blocksP at h
  rw [Bool.and_eq_true, decide_eq_true_eq] at h
  exact h.1
theorem raws_step (l : List M7) (k : Nat) (hk : k < l.length) : (l.map (·.raw)).take (k + 1) = (l.map (·.raw)).take k ++ [(l.getD k default).raw] := by
  rw [List.take_succ_eq_append_getElem (by rw [List.length_map]; exact hk), List.getElem_map, List.getD_eq_getElem?_getD, List.getElem?_eq_getElem hk]; rfl

set_option maxRecDepth 20000 in
set_option maxHeartbeats 4000000 in
theorem wRaws_any (l : List M7) (v : Value) (w : World) (hr : RR metaC 7 w v l) :
    Calls Try.prog 15 #[v] w fun e w' => ∃ v', e = .returned (.tuple #[v', .int .i64 (footI (blocksP l))]) ∧ Ext w w' ∧ IW w' w.heap.size v' (rawsL l) := by
  have q := hBlocks_any l v w hr
  have HR := Lib.hid hr
  obtain ⟨a, c, rfl, _, _, _⟩ := hr
  cases hb : blocksP l with
  | false =>
    rw [hb] at q
    have q := Lib.hid q
    have HL := Lib.hid (show rawsL l = [] by unfold rawsL; rw [hb]; rfl)
    clear hb
    go_enter Try.func15, Try.ntmps15
    go_wp2_with fail
    refine (q.out).mono ?_
    rintro e w1 ⟨rfl, x1⟩
    simp only [footI]
    go_wp2
    go_ret2
    exact ⟨_, rfl, x1, by rw [HL.out]; exact IW.nil _ _⟩
  | true =>
    rw [hb] at q
    have q := Lib.hid q
    have HL := Lib.hid (show (l.map (·.raw)).take l.length = rawsL l by unfold rawsL; rw [hb, List.take_of_length_le (by rw [List.length_map]; exact Nat.le_refl _)]; rfl)
    have hlen := blocksP_len hb
    clear hb
    go_enter Try.func15, Try.ntmps15
    go_wp2_with fail
    refine (q.out).mono ?_
    rintro e w1 ⟨rfl, x1⟩
    have X1 := Lib.hid x1
    simp only [footI]
    clear x1
    go_wp2
    go_loopw [15, 5] (fun i o wr => ∃ k : Nat, i = .int .i64 (k : Int) ∧ k ≤ l.length ∧ Ext w wr ∧ IW wr w.heap.size o ((l.map (·.raw)).take k)) (fun i _ _ => l.length - (intOf i).toNat)
    case atStart => exact ⟨0, rfl, Nat.zero_le _, X1.out, IW.nil _ _⟩
    case round =>
      obtain ⟨k, rfl, hk, hx, hiw⟩ := hrel
      have HX := Lib.hid hx
      by_cases hlt : k < l.length
      · obtain ⟨a', c', e1, _, _, hs⟩ := HR.out
        injection e1 with e1 e2 e3
        subst e1; subst e3
        obtain ⟨g, o, rfl, hcells⟩ := hs (by omega)
        have hI : (k : Int) < (l.length : Int) := by omega
        have R := Lib.hid (rangeAt_ext (hcells k _ (getD_at hlt)) hx)
        have HS := Lib.hid (raws_step l k hlt)
        generalize l.getD k default = m at *
        have H1 := Lib.hid (metaC_all m)
        have HZ := Lib.hid meta_size
        obtain ⟨at_, sz, raw, cnt, fst, early, late⟩ := m
        have R := Lib.hid (show wr.rangeAt g (o + k * 7) [.int .i64 at_, .int .i64 sz, .int .i64 raw, .int .i64 cnt, .int .i64 fst, .int .i64 early, .int .i64 late] from R.out)
        have B4 := Blk.new wr 41 #[.int .i64 at_, .int .i64 sz, .int .i64 raw, .int .i64 cnt, .int .i64 fst, .int .i64 early, .int .i64 late]
        have c2 := B4.cell 2
        have hB : w.heap.size ≤ (wr.alloc (.cells #[.int .i64 at_, .int .i64 sz, .int .i64 raw, .int .i64 cnt, .int .i64 fst, .int .i64 early, .int .i64 late] 41)).heap.size := by rw [World.size_alloc]; have := hx.le; omega
        obtain ⟨v', w', hrun, hiw', hbel, _⟩ := (hiw.alloc _).app hB raw (by rw [List.length_take, List.length_map]; omega)
        have hlk : ((l.map (·.raw)).take k).length = k := by rw [List.length_take, List.length_map]; omega
        have HBL := Lib.hid hbel
        obtain ⟨aa, cc, rfl, _, _⟩ := hiw'.shape
        obtain ⟨a5, c5, rfl, _, _⟩ := hiw.shape
        rw [List.length_append, hlk, List.length_singleton] at hiw' hrun
        rw [World.size_alloc] at hrun
        have HW := Lib.hid hiw'
        clear hs hcells hx hiw hiw' hbel B4 hB
        go_wp2_with (first
          | (refine wpList_load_mid rfl 41 (.tmp 17) rfl g _ rfl [.int .i64 at_, .int .i64 sz, .int .i64 raw, .int .i64 cnt, .int .i64 fst, .int .i64 early, .int .i64 late] _ R.out Try.underlying41 rfl HZ.out ?_)
          | (refine wpList_store_new (cs' := #[.int .i64 at_, .int .i64 sz, .int .i64 raw, .int .i64 cnt, .int .i64 fst, .int .i64 early, .int .i64 late]) rfl 41 (.tmp 7) (.tmp 18) rfl rfl rfl rfl HZ.out H1.out ?_)
          | (at_builtin; refine wpList_app rfl (.tmp 19) (.tmp 22) 22 rfl rfl rfl rfl hrun ?_))
        go_roundw
        case rel => exact ⟨k + 1, by go_num, by omega, Below.trans (HX.out.alloc _) HBL.out, by rw [HS.out]; exact HW.out⟩
        case measure => simp [intOf]; omega
      · obtain rfl : k = l.length := by omega
        rw [HL.out] at hiw
        obtain ⟨a5, c5, rfl, _, _⟩ := hiw.shape
        have HI := Lib.hid hiw
        clear hiw hx hk
        go_wp2
        go_ret2
        exact ⟨_, rfl, HX.out, HI.out⟩

set_option maxRecDepth 20000 in
set_option maxHeartbeats 4000000 in
theorem rRaws_any (l : List M7) (v : Value) (w : World) (hr : RR metaC 7 w v l) :
    Calls Try.prog 16 #[v] w fun e w' => ∃ v', e = .returned (.tuple #[v', .int .i64 (footI (blocksP l))]) ∧ Ext w w' ∧ IW w' w.heap.size v' (rawsL l) := by
  have q := rBlocks_any l v w hr
  have HR := Lib.hid hr
  obtain ⟨a, c, rfl, _, _, _⟩ := hr
  cases hb : blocksP l with
  | false =>
    rw [hb] at q
    have q := Lib.hid q
    have HL := Lib.hid (show rawsL l = [] by unfold rawsL; rw [hb]; rfl)
    clear hb
    go_enter Try.func16, Try.ntmps16
    go_wp2_with fail
    refine (q.out).mono ?_
    rintro e w1 ⟨rfl, x1⟩
    simp only [footI]
    go_wp2
    go_ret2
    exact ⟨_, rfl, x1, by rw [HL.out]; exact IW.nil _ _⟩
  | true =>
    rw [hb] at q
    have q := Lib.hid q
    have HL := Lib.hid (show (l.map (·.raw)).take l.length = rawsL l by unfold rawsL; rw [hb, List.take_of_length_le (by rw [List.length_map]; exact Nat.le_refl _)]; rfl)
    have hlen := blocksP_len hb
    clear hb
    go_enter Try.func16, Try.ntmps16
    go_wp2_with fail
    refine (q.out).mono ?_
    rintro e w1 ⟨rfl, x1⟩
    have X1 := Lib.hid x1
    simp only [footI]
    clear x1
    go_wp2
    go_loopw [6, 5] (fun i o wr => ∃ k : Nat, i = .int .i64 (k : Int) ∧ k ≤ l.length ∧ Ext w wr ∧ IW wr w.heap.size o ((l.map (·.raw)).take k)) (fun i _ _ => l.length - (intOf i).toNat)
    case atStart => exact ⟨0, rfl, Nat.zero_le _, X1.out, IW.nil _ _⟩
    case round =>
      obtain ⟨k, rfl, hk, hx, hiw⟩ := hrel
      have HX := Lib.hid hx
      by_cases hlt : k < l.length
      · obtain ⟨a', c', e1, _, _, hs⟩ := HR.out
        injection e1 with e1 e2 e3
        subst e1; subst e3
        obtain ⟨g, o, rfl, hcells⟩ := hs (by omega)
        have hI : (k : Int) < (l.length : Int) := by omega
        have R := rangeAt_ext (hcells k _ (getD_at hlt)) hx
        have HS := Lib.hid (raws_step l k hlt)
        generalize l.getD k default = m at *
        obtain ⟨at_, sz, raw, cnt, fst, early, late⟩ := m
        have c2 : wr.cell? ⟨g, o + k * 7 + 2, none⟩ = some (.int .i64 raw) := R 2 _ rfl
        obtain ⟨v', w', hrun, hiw', hbel, _⟩ := hiw.app hx.le raw (by rw [List.length_take, List.length_map]; omega)
        have hlk : ((l.map (·.raw)).take k).length = k := by rw [List.length_take, List.length_map]; omega
        have HBL := Lib.hid hbel
        obtain ⟨aa, cc, rfl, _, _⟩ := hiw'.shape
        obtain ⟨a5, c5, rfl, _, _⟩ := hiw.shape
        rw [List.length_append, hlk, List.length_singleton] at hiw' hrun
        have HW := Lib.hid hiw'
        clear hs hcells hx hiw hiw' hbel R
        go_wp2_with (at_builtin; refine wpList_hold 25 rfl ?_)
        refine ⟨?_⟩
        refine wpList_app rfl (.tmp 18) (.tmp 24) 22 rfl rfl rfl rfl hrun ?_
        go_wp2
        go_roundw
        case rel => exact ⟨k + 1, by go_num, by omega, Below.trans HX.out HBL.out, by rw [HS.out]; exact HW.out⟩
        case measure => simp [intOf]; omega
      · obtain rfl : k = l.length := by omega
        rw [HL.out] at hiw
        obtain ⟨a5, c5, rfl, _, _⟩ := hiw.shape
        have HI := Lib.hid hiw
        clear hiw hx hk
        go_wp2
        go_ret2
        exact ⟨_, rfl, HX.out, HI.out⟩

def doneP (l : List M7) (t : Int) : Bool := blocksP l && (pf (rawsL l) t 0).isNone
theorem rawsL_len (l : List M7) : ((rawsL l).length : Int) ≤ 1000 := by
  unfold rawsL
  cases h : blocksP l with
  | false => simp
  | true => rw [if_pos rfl, List.length_map]; exact blocksP_len h
set_option maxRecDepth 20000 in
theorem wDone_any (l : List M7) (t : Int) (v : Value) (w : World) (hr : RR metaC 7 w v l) :
    Calls Try.prog 17 #[v, .int .i64 t] w fun e w' => e = .returned (.bool (doneP l t)) ∧ Ext w w' := by
  have q := wRaws_any l v w hr
  have hlen := Lib.hid (rawsL_len l)
  obtain ⟨a, c, rfl, _, _, _⟩ := hr
  cases hb : blocksP l with
  | false =>
    rw [hb] at q
    have q := Lib.hid q
    have HD := Lib.hid (show doneP l t = false by unfold doneP; rw [hb]; rfl)
    clear hb
    go_enter Try.func17, Try.ntmps17
    go_wp2_with fail
    refine (q.out).mono ?_
    rintro e w1 ⟨v1, rfl, x1, i1⟩
    simp only [footI]
    obtain ⟨a1, c1, rfl, _, _⟩ := i1.shape
    clear i1
    go_wp2
    go_ret
    exact ⟨by rw [HD.out]; rfl, x1⟩
  | true =>
    rw [hb] at q
    have q := Lib.hid q
    have HD := Lib.hid (show doneP l t = (pf (rawsL l) t 0).isNone by unfold doneP; rw [hb]; rfl)
    clear hb
    go_enter Try.func17, Try.ntmps17
    go_wp2_with fail
    refine (q.out).mono ?_
    rintro e w1 ⟨v1, rfl, x1, i1⟩
    simp only [footI]
    have X1 := Lib.hid x1
    have q2 := wPair_any (rawsL l) t v1 w1 i1.ri (by have := hlen.out; omega)
    obtain ⟨a1, c1, rfl, _, _⟩ := i1.shape
    clear i1 x1
    cases hp : pf (rawsL l) t 0 with
    | none =>
      rw [hp] at q2
      have q2 := Lib.hid q2
      have hd := HD.out
      rw [hp] at hd
      have HD := Lib.hid hd
      clear hp hd
      go_wp2_with fail
      refine (q2.out).mono ?_
      rintro e w2 ⟨rfl, x2⟩
      simp only [placeV]
      go_wp2
      go_ret
      exact ⟨by rw [HD.out]; rfl, X1.out.trans x2⟩
    | some i =>
      rw [hp] at q2
      have q2 := Lib.hid q2
      have hd := HD.out
      rw [hp] at hd
      have HD := Lib.hid hd
      clear hp hd
      go_wp2_with fail
      refine (q2.out).mono ?_
      rintro e w2 ⟨rfl, x2⟩
      simp only [placeV]
      go_wp2
      go_ret
      exact ⟨by rw [HD.out]; rfl, X1.out.trans x2⟩

set_option maxRecDepth 20000 in
theorem rDone_any (l : List M7) (t : Int) (v : Value) (w : World) (hr : RR metaC 7 w v l) :
    Calls Try.prog 18 #[v, .int .i64 t] w fun e w' => e = .returned (.bool (doneP l t)) ∧ Ext w w' := by
  have q := rRaws_any l v w hr
  have hlen := Lib.hid (rawsL_len l)
  have q3 := Lib.hid (fun v1 w1 (i1 : RI w1 v1 (rawsL l)) => rPair_any (rawsL l) t v1 w1 i1 (by have := hlen.out; omega))
  obtain ⟨a, c, rfl, _, _, _⟩ := hr
  cases hb : blocksP l with
  | false =>
    rw [hb] at q
    have q := Lib.hid q
    have HD := Lib.hid (show doneP l t = false by unfold doneP; rw [hb]; rfl)
    clear hb
    go_enter Try.func18, Try.ntmps18
    go_wp2_with fail
    refine (q.out).mono ?_
    rintro e w1 ⟨v1, rfl, x1, i1⟩
    simp only [footI]
    have X1 := Lib.hid x1
    have q2 := q3.out v1 w1 i1.ri
    obtain ⟨a1, c1, rfl, _, _⟩ := i1.shape
    clear i1 x1
    cases hp : pf (rawsL l) t 0 with
    | none =>
      rw [hp] at q2
      have q2 := Lib.hid q2
      clear hp
      go_wp2_with fail
      refine (q2.out).mono ?_
      rintro e w2 ⟨rfl, x2⟩
      simp only [placeV]
      go_wp2
      go_ret
      exact ⟨by rw [HD.out]; rfl, X1.out.trans x2⟩
    | some i =>
      rw [hp] at q2
      have q2 := Lib.hid q2
      clear hp
      go_wp2_with fail
      refine (q2.out).mono ?_
      rintro e w2 ⟨rfl, x2⟩
      simp only [placeV]
      go_wp2
      go_ret
      exact ⟨by rw [HD.out]; rfl, X1.out.trans x2⟩
  | true =>
    rw [hb] at q
    have q := Lib.hid q
    have HD := Lib.hid (show doneP l t = (pf (rawsL l) t 0).isNone by unfold doneP; rw [hb]; rfl)
    clear hb
    go_enter Try.func18, Try.ntmps18
    go_wp2_with fail
    refine (q.out).mono ?_
    rintro e w1 ⟨v1, rfl, x1, i1⟩
    simp only [footI]
    have X1 := Lib.hid x1
    have q2 := q3.out v1 w1 i1.ri
    obtain ⟨a1, c1, rfl, _, _⟩ := i1.shape
    clear i1 x1
    cases hp : pf (rawsL l) t 0 with
    | none =>
      rw [hp] at q2
      have q2 := Lib.hid q2
      have hd := HD.out
      rw [hp] at hd
      have HD := Lib.hid hd
      clear hp hd
      go_wp2_with fail
      refine (q2.out).mono ?_
      rintro e w2 ⟨rfl, x2⟩
      simp only [placeV]
      go_wp2
      go_ret
      exact ⟨by rw [HD.out]; rfl, X1.out.trans x2⟩
    | some i =>
      rw [hp] at q2
      have q2 := Lib.hid q2
      have hd := HD.out
      rw [hp] at hd
      have HD := Lib.hid hd
      clear hp hd
      go_wp2_with fail
      refine (q2.out).mono ?_
      rintro e w2 ⟨rfl, x2⟩
      simp only [placeV]
      go_wp2
      go_ret
      exact ⟨by rw [HD.out]; rfl, X1.out.trans x2⟩
end Go.Proofs.Ytlphhpngbnnjgaa
