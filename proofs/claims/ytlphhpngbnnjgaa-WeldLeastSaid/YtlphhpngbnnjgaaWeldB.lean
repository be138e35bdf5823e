/- weld: pair, Pair; ref: Pair. -/
import Derived.Test.YtlphhpngbnnjgaaWeldA
import Derived.Test.YtlphhpngbnnjgaaMinMax
import Derived.LoopTactic
namespace Go.Proofs.Ytlphhpngbnnjgaa
set_option linter.unusedVariables false
set_option linter.unusedSimpArgs false
open Go.RowKit

def placeV : Option Nat → Value
  | none => .tuple #[.int .i64 0, .bool false]
  | some i => .tuple #[.int .i64 (i : Int), .bool true]

set_option maxRecDepth 20000 in
set_option maxHeartbeats 2000000 in
theorem wpair_any (l : List Int) (t f : Int) (v : Value) (w : World) (hr : RI w v l) (hl : (l.length : Int) ≤ 1000000000) (hf : -1000000000 ≤ f) (hf2 : f ≤ 1000000000) :
    Calls Try.prog 21 #[v, .int .i64 f, .int .i64 t] w fun e w' => e = .returned (placeV (pf l t f.toNat)) ∧ Ext w w' := by
  have B1 := (Blk.new w 22 #[v]).alloc (.cells #[.int .i64 t] 3)
  have B2 := Blk.new (w.alloc (.cells #[v] 22)) 3 #[.int .i64 t]
  rw [World.size_alloc] at B2
  have hx0 : Ext w ((w.alloc (.cells #[v] 22)).alloc (.cells #[.int .i64 t] 3)) := ((Ext.refl w).alloc _).alloc _
  have hr1 := hr.ext hx0
  obtain ⟨a, c, rfl, _, _, _⟩ := hr.shape
  have q := Lib.hid (fun (wr : World) (hx : Ext ((w.alloc (.cells #[.slice a l.length c] 22)).alloc (.cells #[.int .i64 t] 3)) wr) (k : Nat) (hk : k + 1 < l.length) => pair1_any l t k _ _ _ wr (B1.ext hx) (B2.ext hx) (hr1.ext hx) hk hl)
  have HB := Lib.hid B1
  have HX := Lib.hid hx0
  have hmax := max2_run f 0 (f.toNat : Int) (by omega)
  have hf0 : (f.toNat : Int) ≤ 1000000000 := by omega
  clear hr hr1 B1 B2 hx0
  generalize f.toNat = f0 at *
  go_enter Try.func21, Try.ntmps21
  go_wp2
  go_loopw [9] (fun i wr => ∃ k : Nat, i = .int .i64 (k : Int) ∧ (k : Int) ≤ 2000000000 ∧ pf l t f0 = pf l t k ∧ Ext ((w.alloc (.cells #[.slice a l.length c] 22)).alloc (.cells #[.int .i64 t] 3)) wr) (fun i _ => l.length - (intOf i).toNat)
  case atStart => exact ⟨f0, rfl, by omega, rfl, Ext.refl _⟩
  case round =>
    obtain ⟨k, rfl, hk, hp, hx⟩ := hrel
    have hxx := Lib.hid hx
    have c1 := (HB.out.ext hx).cell 0
    have P := Lib.hid hp
    clear hp hx
    by_cases hlt : k + 1 < l.length
    · have q1 := Lib.hid (q.out wr hxx.out k hlt)
      have hI : (k : Int) + 1 < (l.length : Int) := by omega
      by_cases hok : okP t (l.getD k 0) (l.getD (k + 1) 0) = true
      · have P1 := Lib.hid (P.out.trans (pf_hit hlt hok))
        rw [hok] at q1
        clear hok
        go_wp2_with fail
        refine (q1.out).mono ?_
        rintro e w1 ⟨rfl, x1⟩
        have X1 := Lib.hid x1
        clear x1
        go_wp2
        go_ret2
        exact ⟨by rw [P1.out]; rfl, (HX.out.trans hxx.out).trans X1.out⟩
      · have hok : okP t (l.getD k 0) (l.getD (k + 1) 0) = false := by simpa using hok
        have P1 := Lib.hid (P.out.trans (pf_miss hlt hok))
        rw [hok] at q1
        clear hok
        go_wp2_with fail
        refine (q1.out).mono ?_
        rintro e w1 ⟨rfl, x1⟩
        have X1 := Lib.hid x1
        clear x1
        go_wp2
        go_roundw
        case rel => exact ⟨k + 1, by go_num, by omega, P1.out, hxx.out.trans X1.out⟩
        case measure => simp [intOf]; omega
    · have P1 := Lib.hid (P.out.trans (pf_end hlt))
      have hI : ¬ ((k : Int) + 1 < (l.length : Int)) := by omega
      go_wp2
      go_ret2
      exact ⟨by rw [P1.out]; rfl, HX.out.trans hxx.out⟩

theorem wPair_any (l : List Int) (t : Int) (v : Value) (w : World) (hr : RI w v l) (hl : (l.length : Int) ≤ 1000000000) :
    Calls Try.prog 8 #[v, .int .i64 t] w fun e w' => e = .returned (placeV (pf l t 0)) ∧ Ext w w' := by
  have q := wpair_any l t 0 v w hr hl (by decide) (by decide)
  rw [show (0 : Int).toNat = 0 from rfl] at q
  obtain ⟨a, c, rfl, _, _, _⟩ := hr.shape
  clear hr
  cases hp : pf l t 0 with
  | none =>
    rw [hp] at q
    have q := Lib.hid q
    clear hp
    go_enter Try.func8, Try.ntmps8
    go_wp2_with fail
    refine (q.out).mono ?_
    rintro e w1 ⟨rfl, x1⟩
    simp only [placeV]
    go_wp2
    go_ret2
    exact ⟨rfl, x1⟩
  | some p =>
    rw [hp] at q
    have q := Lib.hid q
    clear hp
    go_enter Try.func8, Try.ntmps8
    go_wp2_with fail
    refine (q.out).mono ?_
    rintro e w1 ⟨rfl, x1⟩
    simp only [placeV]
    go_wp2
    go_ret2
    exact ⟨rfl, x1⟩

set_option maxRecDepth 20000 in
set_option maxHeartbeats 2000000 in
theorem rPair_any (l : List Int) (t : Int) (v : Value) (w : World) (hr : RI w v l) (hl : (l.length : Int) ≤ 1000000000) :
    Calls Try.prog 9 #[v, .int .i64 t] w fun e w' => e = .returned (placeV (pf l t 0)) ∧ Ext w w' := by
  obtain ⟨a, c, rfl, _, _, hs⟩ := hr.shape
  have HS := Lib.hid hs
  clear hr hs
  go_enter Try.func9, Try.ntmps9
  go_wp2
  go_loopw [6] (fun i wr => ∃ k : Nat, i = .int .i64 (k : Int) ∧ k ≤ l.length ∧ pf l t 0 = pf l t k ∧ Ext w wr) (fun i _ => l.length - (intOf i).toNat)
  case atStart => exact ⟨0, rfl, Nat.zero_le _, rfl, Ext.refl _⟩
  case round =>
    obtain ⟨k, rfl, hk, hp, hx⟩ := hrel
    have hxx := Lib.hid hx
    have P := Lib.hid hp
    clear hp
    by_cases hlt : k + 1 < l.length
    · have hI : (k : Int) + 1 < (l.length : Int) := by omega
      have hI2 : (k : Int) < (l.length : Int) := by omega
      obtain ⟨g, o, rfl, hc⟩ := HS.out (by omega)
      have d1 := up_cell (show wr.cell? ⟨g, o + k, none⟩ = some (.int .i64 (l.getD k 0)) from Go.cell_later hx (hc k (by omega)))
      have d2 := up_cell (show wr.cell? ⟨g, o + (k + 1), none⟩ = some (.int .i64 (l.getD (k + 1) 0)) from Go.cell_later hx (hc (k + 1) hlt))
      have H1 := Lib.hid (fun h => P.out.trans (pf_hit hlt h))
      have H2 := Lib.hid (fun h => P.out.trans (pf_miss hlt h))
      clear hx hc
      generalize l.getD k 0 = x at *
      generalize l.getD (k + 1) 0 = y at *
      by_cases hok : okP t x y = true
      · obtain ⟨p1, p2, p3, p4, p5⟩ := okP_iff.1 hok
        have P1 := Lib.hid (H1.out hok)
        have hsum : IntKind.i64.wrap (x + y) = x + y := by rw [IntKind.wrap_i64]; omega
        clear hok
        go_wp2
        refine wp_region_up (by kernel_rfl) (by kernel_rfl) ?_
        repeat (go_big_quiet_step (fail))
        refine wpQuiet_nil ?_
        rintro _ ⟨z, rfl⟩
        go_wp2
        go_ret2
        exact ⟨by rw [P1.out]; rfl, hxx.out.trans z.ext⟩
      · have P1 := Lib.hid (H2.out (by simpa using hok))
        have hno : ¬ (0 ≤ x ∧ 0 ≤ y ∧ x ≤ 20000 ∧ y ≤ 20000 ∧ x + y < t) := fun h => hok (okP_iff.2 ⟨h.1, h.2.2.1, h.2.1, h.2.2.2.1, h.2.2.2.2⟩)
        have hsum := Lib.hid (show 0 ≤ x → 0 ≤ y → x ≤ 20000 → y ≤ 20000 → IntKind.i64.wrap (x + y) = x + y from fun _ _ _ _ => by rw [IntKind.wrap_i64]; omega)
        have HN := Lib.hid hno
        clear hok hno
        by_cases b1 : 0 ≤ x
        · by_cases b2 : 0 ≤ y
          · by_cases b3 : x ≤ 20000
            · by_cases b4 : y ≤ 20000
              · have hsum := hsum.out b1 b2 b3 b4
                have b5 : ¬ (x + y < t) := fun h => HN.out ⟨b1, b2, b3, b4, h⟩
                go_wp2
                refine wp_region_up (by kernel_rfl) (by kernel_rfl) ?_
                repeat (go_big_quiet_step (fail))
                refine wpQuiet_nil ?_
                rintro _ ⟨z, rfl⟩
                go_wp2
                go_roundw
                case rel => exact ⟨k + 1, by go_num, by omega, P1.out, hxx.out.trans z.ext⟩
                case measure => simp [intOf]; omega
              · go_wp2
                refine wp_region_up (by kernel_rfl) (by kernel_rfl) ?_
                repeat (go_big_quiet_step (fail))
                refine wpQuiet_nil ?_
                rintro _ ⟨z, rfl⟩
                go_wp2
                go_roundw
                case rel => exact ⟨k + 1, by go_num, by omega, P1.out, hxx.out.trans z.ext⟩
                case measure => simp [intOf]; omega
            · go_wp2
              refine wp_region_up (by kernel_rfl) (by kernel_rfl) ?_
              repeat (go_big_quiet_step (fail))
              refine wpQuiet_nil ?_
              rintro _ ⟨z, rfl⟩
              go_wp2
              go_roundw
              case rel => exact ⟨k + 1, by go_num, by omega, P1.out, hxx.out.trans z.ext⟩
              case measure => simp [intOf]; omega
          · go_wp2
            refine wp_region_up (by kernel_rfl) (by kernel_rfl) ?_
            repeat (go_big_quiet_step (fail))
            refine wpQuiet_nil ?_
            rintro _ ⟨z, rfl⟩
            go_wp2
            go_roundw
            case rel => exact ⟨k + 1, by go_num, by omega, P1.out, hxx.out.trans z.ext⟩
            case measure => simp [intOf]; omega
        · go_wp2
          refine wp_region_up (by kernel_rfl) (by kernel_rfl) ?_
          repeat (go_big_quiet_step (fail))
          refine wpQuiet_nil ?_
          rintro _ ⟨z, rfl⟩
          go_wp2
          go_roundw
          case rel => exact ⟨k + 1, by go_num, by omega, P1.out, hxx.out.trans z.ext⟩
          case measure => simp [intOf]; omega
    · have P1 := Lib.hid (P.out.trans (pf_end hlt))
      have hI : ¬ ((k : Int) + 1 < (l.length : Int)) := by omega
      go_wp2
      go_ret2
      exact ⟨by rw [P1.out]; rfl, hxx.out⟩
end Go.Proofs.Ytlphhpngbnnjgaa
