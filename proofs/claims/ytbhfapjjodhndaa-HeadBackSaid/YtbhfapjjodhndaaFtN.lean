/- HeadBack: the law's walk. -/
import Derived.Test.YtbhfapjjodhndaaMgI
import Derived.Test.YtbhfapjjodhndaaHdO
import Derived.Test.YtbhfapjjodhndaaMetaO
import Derived.Deep.DeepCutAuto
namespace Go.Proofs.Ytbhfapjjodhndaa
set_option linter.unusedVariables false
set_option linter.unusedSimpArgs false
open Go.RowKit
attribute [local go_sem] S_size S_toList S_beq S_bne hd_zero

set_option maxRecDepth 20000 in
set_option maxHeartbeats 16000000 in
theorem headBack_main (v : Value) (l : List M7) (s : List UInt8) (i g f : Int) (w : World) (rd : RR metaC 7 w v l) (hl : ¬ (1200 : Int) < (l.length : Int)) (hs : ¬ (5000 : Int) < (s.length : Int)) :
    Calls Try.prog 5 #[.agg #[.int .i64 i, .int .i64 g, .int .i64 f], v, .string (S s)] w fun x w' => x = .returned (.bool true) ∧ Ext w w' := by
  have QA := Lib.hid awake21_any
  have X0 := Lib.hid ((Ext.refl w).alloc (.cells #[.int .i64 i, .int .i64 g, .int .i64 f] 23))
  have HH := Lib.hid hd_size
  have B3 := Lib.hid (Blk.new w 23 #[.int .i64 i, .int .i64 g, .int .i64 f])
  have R0 := Lib.hid (rd.ext X0.out)
  have q1 := fun w => hput_any i g f w
  obtain ⟨p, hp0⟩ : ∃ p, p = putH (i, g, f) := ⟨_, rfl⟩
  obtain ⟨pe, hpe⟩ : ∃ pe, pe = errI (headP i g f) 210 := ⟨_, rfl⟩
  rw [← hp0, ← hpe] at q1
  have Q1 := Lib.hid q1
  have HP0 := Lib.hid hp0
  have HPE := Lib.hid hpe
  clear q1 hp0 hpe
  obtain ⟨a, c, rfl, _, _, _⟩ := rd
  go_enter Try.func5, Try.ntmps5
  go_wp2_with (refine wpList_load_blk rfl 23 (.tmp 3) rfl rfl B3.out Try.underlying23 rfl HH.out ?_)
  refine (Q1.out _).mono ?_
  rintro _ w1 ⟨rfl, x1⟩
  have B3 := Lib.hid (B3.out.ext x1)
  have R0 := Lib.hid (R0.out.ext x1)
  have X1 := Lib.hid (X0.out.trans x1)
  clear x1 X0
  go_upto_if 38 with fail
  go_cut [9, 10] (fun s9 s10 wx => Ext w1 wx)
  case first =>
    cases hp : headP i g f with
    | false =>
      have ke : (pe == (0 : Int)) = false := by rw [HPE.out, hp]; rfl
      go_wp2_with fail
      go_meet
      exact Ext.refl _
    | true =>
      have q := fun w => hget_any (putH (i, g, f)) w (by have := putH_len (i, g, f); omega)
      rw [getH_putH hp, ← HP0.out] at q
      have Q := Lib.hid (show ∀ w, Calls Try.prog 10 #[.string (S p)] w fun r w' => r = .returned (.tuple #[.agg #[.int .i64 i, .int .i64 g, .int .i64 f], .int .i64 0]) ∧ Ext w w' from q)
      have HNE := Lib.hid (show ∀ w, (binOp .neq 23 (.agg #[.int .i64 i, .int .i64 g, .int .i64 f]) (.agg #[.int .i64 i, .int .i64 g, .int .i64 f])).run Try.prog w = .ok (.bool false) w from fun w => by
        rw [head_neq, decide_eq_true rfl, decide_eq_true rfl, decide_eq_true rfl]; rfl)
      have ke : (pe == (0 : Int)) = true := by rw [HPE.out, hp]; rfl
      clear q hp
      go_wp2_with fail
      refine (Q.out _).mono ?_
      rintro _ w2 ⟨rfl, x2⟩
      have y2 := x2.alloc (.cells #[.int .i64 i, .int .i64 g, .int .i64 f] 23)
      have B3 := Lib.hid (B3.out.ext y2)
      have B9 := Lib.hid (Blk.new w2 23 #[.int .i64 i, .int .i64 g, .int .i64 f])
      have Y2 := Lib.hid y2
      clear x2 y2
      go_wp2_with (refine wpList_store_new rfl 23 (.tmp 9) (.tmp 42) rfl rfl rfl rfl HH.out (by kernel_rfl) ?_; refine Held.go ?_)
      refine ⟨?_⟩
      have hne := HNE.out
      go_wp2_with (first
        | (refine wpList_load_blk rfl 23 (.tmp 9) rfl rfl B9.out Try.underlying23 rfl HH.out ?_)
        | (refine wpList_load_blk rfl 23 (.tmp 3) rfl rfl B3.out Try.underlying23 rfl HH.out ?_))
      go_meet
      exact Y2.out
  case rest =>
    have B3 := Lib.hid (B3.out.ext hcut)
    have R0 := Lib.hid (R0.out.ext hcut)
    have X2 := Lib.hid (X1.out.trans hcut)
    clear hcut X1 Q1
    have q3 := fun v w h => hPutFoot_any l v w h
    obtain ⟨p2, hp2⟩ : ∃ p, p = putFt l := ⟨_, rfl⟩
    obtain ⟨fe, hfe⟩ : ∃ fe, fe = footI (blocksP l) := ⟨_, rfl⟩
    rw [← hp2, ← hfe] at q3
    have Q3 := Lib.hid q3
    have HP2 := Lib.hid hp2
    have HFE := Lib.hid hfe
    clear q3 hp2 hfe
    go_wp2_with fail
    refine (Q3.out _ _ R0.out).mono ?_
    rintro _ w3 ⟨rfl, x3⟩
    have R0 := Lib.hid (R0.out.ext x3)
    have X3 := Lib.hid (X2.out.trans x3)
    clear x3 X2 Q3 B3
    go_upto_if 57 with fail
    go_cut [13, 14] (fun s13 s14 wx => Ext w3 wx)
    case first =>
      cases hp : blocksP l with
      | false =>
        have ke : (fe == (0 : Int)) = false := by rw [HFE.out, hp]; rfl
        go_wp2_with fail
        go_meet
        exact Ext.refl _
      | true =>
        have q := fun w => hGetFoot_any (putFt l) w (by have := putFt_len l; omega)
        rw [getFt_putFt hp, ← HP2.out] at q
        have Q := Lib.hid (show ∀ w, Calls Try.prog 16 #[.string (S p2)] w fun r w' => ∃ u, r = .returned (.tuple #[u, .int .i64 0]) ∧ Ext w w' ∧ RR metaC 7 w' u l from q)
        have qs := fun va vb w ha hb => rSameM_any l l va vb w ha hb (by omega)
        rw [decide_eq_true rfl] at qs
        have QS := Lib.hid qs
        have ke : (fe == (0 : Int)) = true := by rw [HFE.out, hp]; rfl
        clear q hp qs
        go_wp2_with fail
        refine (Q.out _).mono ?_
        rintro _ w4 ⟨u4, rfl, x4, r4⟩
        have R4 := Lib.hid r4
        have R0 := Lib.hid (R0.out.ext x4)
        have Y4 := Lib.hid x4
        clear x4 r4
        go_wp2_with fail
        refine (QS.out _ _ _ R4.out R0.out).mono ?_
        rintro _ w5 ⟨rfl, x5⟩
        have Y5 := Lib.hid (Y4.out.trans x5)
        clear x5
        go_wp2_with fail
        go_meet
        exact Y5.out
    case rest =>
      have X4 := Lib.hid (X3.out.trans hcut)
      clear hcut X3 R0
      have q5 := fun w => hget_any s w (by omega)
      obtain ⟨hv, hhv⟩ : ∃ hv, hv = getHv (getH s) := ⟨_, rfl⟩
      obtain ⟨ge, hge⟩ : ∃ ge, ge = getHe (getH s) := ⟨_, rfl⟩
      rw [← hhv, ← hge] at q5
      obtain ⟨v1, v2, v3⟩ := hv
      have HV := Lib.hid hhv
      have HGE := Lib.hid hge
      simp only [hdC] at q5
      have Q5 := Lib.hid q5
      clear hhv hge q5
      go_wp2_with fail
      refine (Q5.out _).mono ?_
      rintro _ w5 ⟨rfl, x5⟩
      have y5 := x5.alloc (.cells #[.int .i64 v1, .int .i64 v2, .int .i64 v3] 23)
      have B15 := Lib.hid (Blk.new w5 23 #[.int .i64 v1, .int .i64 v2, .int .i64 v3])
      have X5 := Lib.hid (X4.out.trans y5)
      clear x5 y5 X4 Q5
      go_wp2_with (refine wpList_store_new rfl 23 (.tmp 15) (.tmp 74) rfl rfl rfl rfl HH.out (by kernel_rfl) ?_; refine Held.go ?_)
      refine ⟨?_⟩
      generalize w5.alloc (.cells #[.int .i64 v1, .int .i64 v2, .int .i64 v3] 23) = w6 at *
      go_upto_if 77 with fail
      go_cut [17, 18] (fun s17 s18 wx => Ext w6 wx)
      case first =>
        cases hg : getH s with
        | error e =>
          have he : 0 < e := by
            unfold getH at hg
            cases hc : clR s with
            | error e' =>
              rw [hc] at hg
              injection hg with hg
              subst hg
              unfold clR at hc
              cases hn : numsR s 3 0 with
              | error e2 => rw [hn] at hc; injection hc with hc; subst hc; exact (numsR_pos hn).1
              | ok u =>
                rw [hn] at hc
                obtain ⟨l', t⟩ := u
                have hc : (if t = s.length then Except.ok _ else Except.error (6 : Int)) = Except.error e' := hc
                split at hc
                · cases hc
                · injection hc with hc; omega
            | ok q =>
              rw [hc] at hg
              have hg : (if headP q.1 q.2.1 q.2.2 then Except.ok q else Except.error (210 : Int)) = Except.error e := hg
              split at hg
              · cases hg
              · injection hg with hg; omega
          have ke : (ge == (0 : Int)) = false := by rw [HGE.out, hg]; exact beq_eq_false_iff_ne.2 (by show ¬ e = 0; omega)
          clear hg he HV
          go_wp2_with fail
          go_meet
          exact Ext.refl _
        | ok h =>
          obtain ⟨hh, hpt⟩ := putH_getH hg
          have hv := HV.out
          rw [hg] at hv
          have hv : (v1, v2, v3) = h := hv
          subst hv
          have q := fun w => hput_any v1 v2 v3 w
          rw [hpt, show headP v1 v2 v3 = true from hh] at q
          have Q := Lib.hid (show ∀ w, Calls Try.prog 8 #[.agg #[.int .i64 v1, .int .i64 v2, .int .i64 v3]] w fun r w' => r = .returned (.tuple #[.string (S s), .int .i64 0]) ∧ Ext w w' from q)
          have ke : (ge == (0 : Int)) = true := by rw [HGE.out, hg]; rfl
          clear q hg hh hpt HV
          go_wp2_with (refine wpList_load_blk rfl 23 (.tmp 15) rfl rfl B15.out Try.underlying23 rfl HH.out ?_; refine Held.go ?_)
          refine ⟨?_⟩
          go_wp2_with fail
          refine (Q.out _).mono ?_
          rintro _ w7 ⟨rfl, x7⟩
          have Y7 := Lib.hid x7
          clear x7
          go_wp2_with fail
          go_meet
          exact Y7.out
      case rest =>
        have X6 := Lib.hid (X5.out.trans hcut)
        clear hcut X5 B15 HV
        have q7 := fun w => hGetFoot_any s w (by omega)
        obtain ⟨gf, hgf⟩ : ∃ gf, gf = ftE (getFt s) := ⟨_, rfl⟩
        rw [← hgf] at q7
        have Q7 := Lib.hid q7
        have HGF := Lib.hid hgf
        clear q7 hgf
        go_wp2_with fail
        refine (Q7.out _).mono ?_
        rintro _ w7 ⟨u7, rfl, x7, r7⟩
        have R7 := Lib.hid r7
        have X7 := Lib.hid (X6.out.trans x7)
        clear x7 X6 r7 Q7
        go_upto_if 96 with fail
        go_cut [21, 22] (fun s21 s22 wx => Ext w7 wx)
        case first =>
          cases hg : getFt s with
          | error e =>
            have he : 0 < e := by
              unfold getFt at hg
              cases hf : ftR s with
              | error e' => rw [hf] at hg; injection hg with hg; subst hg; exact (ftR_e hf).1
              | ok m =>
                rw [hf] at hg
                have hg : (if blocksP m then Except.ok m else Except.error (211 : Int)) = Except.error e := hg
                split at hg
                · cases hg
                · injection hg with hg; omega
            have ke : (gf == (0 : Int)) = false := by rw [HGF.out, hg]; exact beq_eq_false_iff_ne.2 (by show ¬ e = 0; omega)
            clear hg he R7
            go_wp2_with fail
            go_meet
            exact Ext.refl _
          | ok m =>
            obtain ⟨hh, hpt⟩ := putFt_getFt hg
            have R7 := R7.out
            rw [hg] at R7
            have R8 := Lib.hid (show RR metaC 7 w7 u7 m from R7)
            have q := fun w h => hPutFoot_any m u7 w h
            rw [hpt, hh] at q
            have Q := Lib.hid (show ∀ w, RR metaC 7 w u7 m → Calls Try.prog 14 #[u7] w fun r w' => r = .returned (.tuple #[.string (S s), .int .i64 0]) ∧ Ext w w' from q)
            have ke : (gf == (0 : Int)) = true := by rw [HGF.out, hg]; rfl
            clear q hg hh hpt R7
            go_wp2_with fail
            refine (Q.out _ R8.out).mono ?_
            rintro _ w8 ⟨rfl, x8⟩
            have Y8 := Lib.hid x8
            clear x8
            go_wp2_with fail
            go_meet
            exact Y8.out
        case rest =>
          have X8 := Lib.hid (X7.out.trans hcut)
          clear hcut X7 R7
          go_wp2_with fail
          refine (QA.out _).mono ?_
          rintro _ w9 ⟨rfl, x9⟩
          have X9 := Lib.hid (X8.out.trans x9)
          clear x9
          go_wp2
          go_ret
          exact ⟨rfl, X9.out⟩

set_option maxRecDepth 20000 in
set_option maxHeartbeats 16000000 in
theorem headBack_law (i g f : Int) (v : Value) (l : List M7) (b : ByteArray) (hb : b.size ≤ maxLen) (w : World) (rd : RR metaC 7 w v l) (bl : (l.length : Int) ≤ 9223372036854775807) (R : ∀ x ∈ l, True) :
    Calls Try.prog 5 #[.agg #[.int .i64 i, .int .i64 g, .int .i64 f], v, .string b] w fun x w' => x = .returned (.bool true) ∧ Ext w w' := by
  obtain ⟨s, rfl, hsz⟩ := S_ex b
  rw [← hsz] at hb
  have hb : (s.length : Int) ≤ 9223372036854775807 := by unfold maxLen at hb; omega
  clear hsz R
  have QA := Lib.hid awake21_any
  have X0 := Lib.hid ((Ext.refl w).alloc (.cells #[.int .i64 i, .int .i64 g, .int .i64 f] 23))
  by_cases hl : (1200 : Int) < (l.length : Int)
  · obtain ⟨a, c, rfl, _, _, _⟩ := rd
    go_enter Try.func5, Try.ntmps5
    go_wp2_with fail
    refine (QA.out _).mono ?_
    rintro _ w1 ⟨rfl, x1⟩
    go_wp2
    go_ret
    exact ⟨rfl, X0.out.trans x1⟩
  by_cases hs : (5000 : Int) < (s.length : Int)
  · obtain ⟨a, c, rfl, _, _, _⟩ := rd
    go_enter Try.func5, Try.ntmps5
    go_wp2_with fail
    refine (QA.out _).mono ?_
    rintro _ w1 ⟨rfl, x1⟩
    go_wp2
    go_ret
    exact ⟨rfl, X0.out.trans x1⟩
  exact headBack_main v l s i g f w rd hl hs
end Go.Proofs.Ytbhfapjjodhndaa
