/- kmp: each, with Find's function. -/
import Derived.Test.YtjbacmhkmofpkaaKhE
namespace Go.Proofs.Ytjbacmhkmofpkaa
set_option linter.unusedVariables false
set_option linter.unusedSimpArgs false
open Go.RowKit

attribute [local go_sem] S_size S_toList S_append S_extract S_beq S_bne S_empty S_nil u8_beq

/-- what Find's variables hold behind the walk -/
def Found (w' : World) (g1 g2 : Nat) : Option Nat → Prop
  | some p => Blk w' g1 3 #[.int .i64 p] ∧ Blk w' g2 4 #[.bool true]
  | none => Blk w' g1 3 #[.int .i64 0] ∧ Blk w' g2 4 #[.bool false]

set_option maxRecDepth 20000 in
set_option maxHeartbeats 4000000 in
theorem eachFind_any (s what : List UInt8) (f : Nat) (g1 g2 : Nat) (w : World) (hs : (s.length : Int) ≤ 100000000) (hw : (what.length : Int) ≤ 100000000) (hf9 : (f : Int) ≤ 9223372036854775807)
    (h1 : Blk w g1 3 #[.int .i64 0]) (h2 : Blk w g2 4 #[.bool false]) :
    Calls Try.prog 34 #[.string (S s), .string (S what), .int .i64 f, .func (Fn.func 35) #[] #[.pointer (some ⟨g1, 0, none⟩), .pointer (some ⟨g2, 0, none⟩)]] w
      fun e w' => e = .returned (.tuple #[]) ∧ Found w' g1 g2 (findL s what f) ∧ (∀ B, B ≤ g1 → B ≤ g2 → Below B w w') := by
  by_cases hfs : (s.length : Int) < (f : Int)
  · have H := Lib.hid (show Found w g1 g2 (findL s what f) by rw [findL_end (by omega)]; exact ⟨h1, h2⟩)
    clear h1 h2
    go_enter Try.func34, Try.ntmps34
    go_wp2
    exact bodyPost_ret (v := .tuple #[]) (by simp [results, Try.results34, go_sem]) rfl ⟨rfl, H.out, fun B _ _ => Below.refl _ _⟩
  · have q := Lib.hid (fail_any what w (by omega))
    have hle1 := Lib.hid h1.lt
    have hle2 := Lib.hid h2.lt
    have hb1 := Lib.hid h1
    have hb2 := Lib.hid h2
    clear h1 h2
    by_cases hw0 : what = []
    · subst hw0
      have hfd := Lib.hid (findL_hit (s := s) (what := []) (i := f) (by omega) (atL_empty s f (by omega)))
      go_enter Try.func34, Try.ntmps34
      go_wp2_with fail
      refine q.out.mono ?_
      rintro e w1 ⟨v, rfl, hx, hiw⟩
      have d1 := hb1.out.ext hx
      have d2 := hb2.out.ext hx
      have q2 := Lib.hid (find1_any (f : Int) g1 g2 _ _ w1 d1 d2)
      have hX := Lib.hid hx
      clear d1 d2 hx hiw
      go_wp2_with fail
      refine q2.out.mono ?_
      rintro e w2 ⟨rfl, e1, e2, e3⟩
      have E1 := Lib.hid e1
      have E2 := Lib.hid e2
      have E3 := Lib.hid e3
      clear e1 e2 e3
      go_wp2
      exact bodyPost_ret (v := .tuple #[]) (by simp [results, Try.results34, go_sem]) rfl ⟨rfl, by rw [hfd.out]; exact ⟨E1.out, E2.out⟩, fun B hB1 hB2 => Below.trans (Below.mono hX.out (by have := hle1.out; omega)) (E3.out B hB1 hB2)⟩
    · have hwpos : 0 < what.length := List.length_pos_iff.2 hw0
      have hwb : (what == []) = false := by simpa using hw0
      have hN0 : what.length ≠ 0 := by omega
      clear hw0
      go_enter Try.func34, Try.ntmps34
      go_wp2_with fail
      refine q.out.mono ?_
      rintro e w1 ⟨v, rfl, hx, hiw⟩
      have d1 := hb1.out.ext hx
      have d2 := hb2.out.ext hx
      obtain ⟨a, c, rfl, _, hsh⟩ := hiw.shape
      rw [failsL_length] at hsh ⊢
      obtain ⟨gf, rfl, _, _, hcl, _⟩ := hsh hwpos
      have hstep := Lib.hid (fun (st : Nat) (b : UInt8) (hst : st ≤ what.length) => step_any what what.length (some ⟨gf, 0, none⟩) c st b w1 hst (by omega) (fun _ => ⟨gf, rfl, fun i hi => by rw [hcl i (by omega), failsL_get what i (by omega)]⟩) hst)
      have D1 := Lib.hid d1
      have D2 := Lib.hid d2
      have hX := Lib.hid hx
      clear d1 d2 hx hiw hcl hsh q
      go_wp2
      go_loop [9, 10] (fun st i => ∃ k : Nat, i = .int .i64 k ∧ f ≤ k ∧ k ≤ s.length ∧ st = .int .i64 (ov what ((s.take k).drop f)) ∧ findL s what f = findL s what (max f (k + 1 - what.length))) (fun _ i => s.length - (intOf i).toNat)
      case atStart => exact ⟨f, rfl, Nat.le_refl _, by omega, by rw [List.drop_eq_nil_of_le (by rw [List.length_take]; omega), ov_nil]; rfl, by congr 1; omega⟩
      case round =>
        obtain ⟨k, rfl, hfk, hks, rfl, hp⟩ := hrel
        by_cases hlt : k < s.length
        · have hidx := index_S s k hlt _ rfl
          have hst := ov_le what ((s.take k).drop f)
          have hnext := each_step s what f k hfk hlt
          have q3 := hstep.out _ (s.getD k 0) hst
          rw [hnext] at q3
          have hnl := ov_le what ((s.take (k + 1)).drop f)
          have HH := Lib.hid (each_hit s what f k hfk hlt)
          have HM := Lib.hid (each_miss s what f k hfk hlt)
          have Q3 := Lib.hid q3
          have HP := Lib.hid hp
          clear q3 hnext hp
          generalize hst' : ov what ((s.take k).drop f) = st at *
          generalize hst2 : ov what ((s.take (k + 1)).drop f) = st2 at *
          generalize s.getD k 0 = b at *
          clear hst' 
          have hk2 : (k : Int) < (s.length : Int) := by omega
          by_cases hfull : st2 = what.length
          · obtain ⟨u1, u2, u3⟩ := HH.out hfull
            obtain ⟨p, hp⟩ : ∃ p, p = k + 1 - what.length := ⟨_, rfl⟩
            have hres := HP.out.trans (show findL s what (max f (k + 1 - what.length)) = some p by rw [Nat.max_eq_right u2, hp]; exact findL_hit (by omega) u3)
            have q4 := Lib.hid (find1_any (p : Int) g1 g2 _ _ w1 D1.out D2.out)
            have hp2 : (k : Int) + 1 - (what.length : Int) = (p : Int) := by omega
            have HR := Lib.hid hres
            have HS2 := Lib.hid hst2
            subst hfull
            clear hp u1 u2 u3 hres hst2
            clear hnl HH HM hst hfk
            go_wp2_with fail
            refine Q3.out.mono ?_
            rintro e w2 ⟨rfl, rfl⟩
            go_wp2_with fail
            refine q4.out.mono ?_
            rintro e w2 ⟨rfl, e1, e2, e3⟩
            have E1 := Lib.hid e1
            have E2 := Lib.hid e2
            have E3 := Lib.hid e3
            clear e1 e2 e3
            go_wp2
            exact bodyPost_ret (v := .tuple #[]) (by simp [results, Try.results34, go_sem]) rfl ⟨rfl, by rw [HR.out]; exact ⟨E1.out, E2.out⟩, fun B hB1 hB2 => Below.trans (Below.mono hX.out (by have := hle1.out; omega)) (E3.out B hB1 hB2)⟩
          · have hres := Lib.hid (HP.out.trans (HM.out hfull))
            have HS2 := Lib.hid hst2
            have HF := Lib.hid hfk
            clear hst2 HH HM hfk
            go_wp2_with fail
            refine Q3.out.mono ?_
            rintro e w2 ⟨rfl, rfl⟩
            go_wp2
            go_round
            case rel => exact ⟨k + 1, by go_num, by have := HF.out; omega, by omega, by rw [HS2.out], hres.out⟩
            case measure => simp [intOf]; omega
        · obtain rfl : k = s.length := by omega
          have hnone : findL s what f = none := by rw [hp, findL_late (by omega)]
          have HN := Lib.hid hnone
          clear hp hnone hfk hks
          go_wp2
          exact bodyPost_end (v := .tuple #[]) (by simp [results, Try.results34, go_sem]) rfl ⟨rfl, by rw [HN.out]; exact ⟨D1.out, D2.out⟩, fun B hB1 hB2 => Below.mono hX.out (by have := hle1.out; omega)⟩

set_option maxRecDepth 20000 in
set_option maxHeartbeats 2000000 in
theorem kfind_any (s what : List UInt8) (n : Int) (w : World) (hs : (s.length : Int) ≤ 100000000) (hw : (what.length : Int) ≤ 100000000) (hn9 : n ≤ 9223372036854775807) :
    Calls Try.prog 33 #[.string (S s), .string (S what), .int .i64 n] w fun e w' => e = .returned (placeV (findL s what (max n 0).toNat)) ∧ Ext w w' := by
  obtain ⟨f, hf⟩ : ∃ f : Nat, f = (max n 0).toNat := ⟨_, rfl⟩
  rw [← hf]
  have hmx := max2_run n 0 (f : Int) (by omega)
  have hB1 : Blk ((w.alloc (.cells #[.int .i64 0] 3)).alloc (.cells #[.bool false] 4)) w.heap.size 3 #[.int .i64 0] := (Blk.new w _ _).alloc _
  have hB2 : Blk ((w.alloc (.cells #[.int .i64 0] 3)).alloc (.cells #[.bool false] 4)) (w.heap.size + 1) 4 #[.bool false] := by
    have := Blk.new (w.alloc (.cells #[.int .i64 0] 3)) 4 #[.bool false]
    rw [World.size_alloc] at this; exact this
  have q := Lib.hid (eachFind_any s what f _ _ _ hs hw (by omega) hB1 hB2)
  clear hf hB1 hB2
  go_enter Try.func33, Try.ntmps33
  go_wp2_with fail
  refine q.out.mono ?_
  rintro e w1 ⟨rfl, h1, h2⟩
  have hX : Ext w w1 := Below.trans (((Ext.refl w).alloc _).alloc _) (h2 _ (Nat.le_refl _) (Nat.le_succ _))
  have HX := Lib.hid hX
  cases hr : findL s what f with
  | none =>
    rw [hr] at h1
    have HR := Lib.hid hr
    have c1 := up_cell (h1.1.cell 0)
    have c2 := up_cell (h1.2.cell 0)
    clear h1 h2 hX hr q
    go_wp2_with fail
    refine wp_region_up (by kernel_rfl) (by kernel_rfl) ?_
    repeat (go_big_quiet_step (fail))
    refine wpQuiet_nil ?_
    rintro _ ⟨z, rfl⟩
    go_wp2
    go_ret2
    exact ⟨by rw [HR.out]; rfl, HX.out.trans z.ext⟩
  | some p =>
    rw [hr] at h1
    have HR := Lib.hid hr
    have c1 := up_cell (h1.1.cell 0)
    have c2 := up_cell (h1.2.cell 0)
    clear h1 h2 hX hr q
    go_wp2_with fail
    refine wp_region_up (by kernel_rfl) (by kernel_rfl) ?_
    repeat (go_big_quiet_step (fail))
    refine wpQuiet_nil ?_
    rintro _ ⟨z, rfl⟩
    go_wp2
    go_ret2
    exact ⟨by rw [HR.out]; rfl, HX.out.trans z.ext⟩
end Go.Proofs.Ytjbacmhkmofpkaa
