/- ManiBack: the law's walk. -/
import Derived.Test.YtcagcepbnkageaaMaS
import Derived.Deep.DeepCutAuto
namespace Go.Proofs.Ytcagcepbnkageaa
set_option linter.unusedVariables false
set_option linter.unusedSimpArgs false
open Go.RowKit
attribute [local go_sem] S_size S_toList S_beq S_bne

theorem manB_len (m : Man) : ((manB m).length : Int) ≤ 1000000000 := by
  unfold manB
  split
  · rename_i hp
    have h1 := puts_len (manK m m.ents.length)
    have h2 := (rowP_all (mani_row hp).2.1).2.1
    have h3 : (manK m m.ents.length).length = 5 + 9 * m.ents.length := by
      unfold manK
      rw [List.take_length]
      simp only [List.length_cons, e9L_length]
      omega
    rw [h3] at h1
    omega
  · exact (by decide)
theorem decM_err {s : List UInt8} {e : Int} (h : decM s = .error e) : 0 < e := by
  unfold decM at h
  cases hr : decR s with
  | error e' => rw [hr] at h; injection h with h; subst h; exact decR_e hr
  | ok m =>
    rw [hr] at h
    have h : (if maniP m then Except.ok m else Except.error (250 : Int)) = Except.error e := h
    split at h
    · cases h
    · injection h with h; omega

set_option maxRecDepth 20000 in
set_option maxHeartbeats 16000000 in
theorem maniBack_law (m : Man) (u : Value) (b : ByteArray) (hb : b.size ≤ maxLen) (w : World) (rm : RR entC 9 w u m.ents) :
    Calls Try.prog 5 #[.agg (manC m u), .string b] w fun x w' => x = .returned (.bool true) ∧ Ext w w' := by
  obtain ⟨s, rfl, hsz⟩ := S_ex b
  rw [← hsz] at hb
  have hb : (s.length : Int) ≤ 9223372036854775807 := by unfold maxLen at hb; omega
  clear hsz
  have QA := Lib.hid awake25_any
  have SM := Lib.hid (show (Try.prog.info? 24).map (·.size) = some (manC m u).size from man_size)
  have X0 := Lib.hid ((Ext.refl w).alloc (.cells (manC m u) 24))
  have B2 := Lib.hid (Blk.new w 24 (manC m u))
  have R0 := Lib.hid (rm.ext X0.out)
  have QF := Lib.hid (fun w h => few_any m u w h)
  clear rm
  by_cases hm : ¬ (m.ents.length : Int) ≤ 200
  · rw [decide_eq_false hm] at QF
    generalize manC m u = mc at *
    go_enter Try.func5, Try.ntmps5
    go_wp2_with (refine wpList_load_blk rfl 24 (.tmp 2) rfl rfl B2.out Try.underlying24 rfl SM.out ?_; refine Held.go ?_)
    refine ⟨?_⟩
    go_wp2_with fail
    refine (QF.out _ R0.out).mono ?_
    rintro _ w1 ⟨rfl, x1⟩
    have X1 := Lib.hid (X0.out.trans x1)
    clear x1
    go_wp2_with fail
    refine (QA.out _).mono ?_
    rintro _ w2 ⟨rfl, x2⟩
    go_wp2
    go_ret
    exact ⟨rfl, X1.out.trans x2⟩
  have hm := Decidable.not_not.1 hm
  rw [decide_eq_true hm] at QF
  by_cases hbig : (3000 : Int) < (s.length : Int)
  · generalize manC m u = mc at *
    go_enter Try.func5, Try.ntmps5
    go_wp2_with (refine wpList_load_blk rfl 24 (.tmp 2) rfl rfl B2.out Try.underlying24 rfl SM.out ?_; refine Held.go ?_)
    refine ⟨?_⟩
    go_wp2_with fail
    refine (QF.out _ R0.out).mono ?_
    rintro _ w1 ⟨rfl, x1⟩
    have X1 := Lib.hid (X0.out.trans x1)
    clear x1
    go_wp2_with fail
    refine (QA.out _).mono ?_
    rintro _ w2 ⟨rfl, x2⟩
    go_wp2
    go_ret
    exact ⟨rfl, X1.out.trans x2⟩
  have hML : ∀ x : Man, maniP x = true → (x.ents.length : Int) ≤ 1000000000 := fun x h => rows_len (mani_row h).2.1
  have q1 := fun w h => mEncode_any m u w h
  have q2 := fun w h => mCheck_any m u w h
  have MC := Lib.hid (show ∀ (x : Man) (v : Value), (Try.prog.info? 24).map (·.size) = some (manC x v).size from fun _ _ => man_size)
  have HML := Lib.hid hML
  have hpl := manB_len m
  obtain ⟨p, hp0⟩ : ∃ p, p = manB m := ⟨_, rfl⟩
  obtain ⟨pe, hpe⟩ : ∃ pe, pe = errI (maniP m) 250 := ⟨_, rfl⟩
  rw [← hp0, ← hpe] at q1
  rw [← hpe] at q2
  rw [← hp0] at hpl
  have Q1 := Lib.hid q1
  have Q2 := Lib.hid q2
  have HPL := Lib.hid hpl
  have HP0 := Lib.hid hp0
  have HPE := Lib.hid hpe
  clear q1 q2 hp0 hpe hML hpl
  obtain ⟨mc, hmc⟩ : ∃ c, c = manC m u := ⟨_, rfl⟩
  rw [← hmc] at B2 X0 R0 SM QF Q1 Q2 ⊢
  have EM := Lib.hid hmc
  clear hmc
  have HB := Lib.hid hb
  clear hb
  go_enter Try.func5, Try.ntmps5
  go_wp2_with (refine wpList_load_blk rfl 24 (.tmp 2) rfl rfl B2.out Try.underlying24 rfl SM.out ?_; refine Held.go ?_)
  refine ⟨?_⟩
  go_wp2_with fail
  refine (QF.out _ R0.out).mono ?_
  rintro _ w1 ⟨rfl, x1⟩
  have B2 := Lib.hid (B2.out.ext x1)
  have R0 := Lib.hid (R0.out.ext x1)
  have X1 := Lib.hid (X0.out.trans x1)
  clear x1 X0
  go_wp2_with (refine wpList_load_blk rfl 24 (.tmp 2) rfl rfl B2.out Try.underlying24 rfl SM.out ?_; refine Held.go ?_)
  refine ⟨?_⟩
  go_wp2_with fail
  refine (Q1.out _ R0.out).mono ?_
  rintro _ w2 ⟨rfl, x2⟩
  have B2 := Lib.hid (B2.out.ext x2)
  have R0 := Lib.hid (R0.out.ext x2)
  have X2 := Lib.hid (X1.out.trans x2)
  clear x2 X1 QF
  go_upto_if 28 with fail
  go_cut [7, 8] (fun s7 s8 wx => Ext w2 wx)
  case first =>
    cases hp : maniP m with
    | false =>
      have ke : (pe == (0 : Int)) = false := by rw [HPE.out, hp]; rfl
      go_wp2_with fail
      go_meet
      exact Ext.refl _
    | true =>
      have q := fun w => mDecode_any p w HPL.out
      rw [HP0.out, decM_manB hp, ← HP0.out] at q
      have Q := Lib.hid (show ∀ w, Calls Try.prog 11 #[.string (S p)] w fun r w' => ∃ x, r = .returned (.tuple #[.agg (manC m x), .int .i64 0]) ∧ Ext w w' ∧ RR entC 9 w' x m.ents from q)
      have qs := fun va vb w ha hb => rSameMan_any m m va vb w ha hb (HML.out m hp)
      rw [sameMan_self] at qs
      have QS := Lib.hid qs
      have ke : (pe == (0 : Int)) = true := by rw [HPE.out, hp]; rfl
      have ke2 : (pe != (0 : Int)) = false := by rw [HPE.out, hp]; rfl
      clear q qs hp
      go_wp2_with fail
      refine (Q.out _).mono ?_
      rintro _ w4 ⟨u4, rfl, x4, r4⟩
      have y4 := x4.alloc (.cells (manC m u4) 24)
      have B2 := Lib.hid (B2.out.ext y4)
      have R0 := Lib.hid (R0.out.ext y4)
      have B7 := Lib.hid (Blk.new w4 24 (manC m u4))
      have RX7 := Lib.hid r4
      have R7 := Lib.hid (r4.ext ((Ext.refl w4).alloc (.cells (manC m u4) 24)))
      have S7 := Lib.hid (MC.out m u4)
      have Z7 := Lib.hid (show (5 : Nat) = (manC m u4).size from rfl)
      have O7 := Lib.hid (man_one m RX7.out)
      have qs := fun w ha hb => QS.out u u4 w ha hb
      rw [← EM.out] at qs
      have Y4 := Lib.hid y4
      clear x4 y4 r4
      generalize manC m u4 = c7 at *
      have QS := Lib.hid qs
      clear qs
      go_wp2_with (refine wpList_store_new rfl 24 (.tmp 7) (.tmp 32) rfl rfl rfl Z7.out S7.out O7.out ?_; refine Held.go ?_)
      refine ⟨?_⟩
      generalize w4.alloc (.cells c7 24) = w5 at *
      go_wp2_with (refine wpList_load_blk_g (by kernel_rfl) 24 (.tmp 2) rfl rfl B2.out Try.underlying24 rfl SM.out ?_; refine Held.go ?_)
      refine ⟨?_⟩
      go_wp2_with (refine wpList_load_blk_g (by kernel_rfl) 24 (.tmp 7) rfl rfl B7.out Try.underlying24 rfl S7.out ?_; refine Held.go ?_)
      refine ⟨?_⟩
      go_wp2_with fail
      refine (QS.out _ R0.out R7.out).mono ?_
      rintro _ w6 ⟨rfl, x6⟩
      have B2 := Lib.hid (B2.out.ext x6)
      have R0 := Lib.hid (R0.out.ext x6)
      have Y6 := Lib.hid (Y4.out.trans x6)
      clear x6
      go_wp2_with (refine wpList_load_blk_g (by kernel_rfl) 24 (.tmp 2) rfl rfl B2.out Try.underlying24 rfl SM.out ?_; refine Held.go ?_)
      refine ⟨?_⟩
      go_wp2_with fail
      refine (Q2.out _ R0.out).mono ?_
      rintro _ w7 ⟨rfl, x7⟩
      have Y7 := Lib.hid (Y6.out.trans x7)
      clear x7
      go_wp2_with fail
      go_meet
      exact Y7.out
  case rest =>
    have X3 := Lib.hid (X2.out.trans hcut)
    clear hcut X2 Q1 Q2 B2 R0 SM EM HP0 HPE HPL
    have q5 := fun w => mDecode_any s w (by omega)
    cases hg : decM s with
    | error e =>
      rw [hg] at q5
      have he : 0 < e := decM_err hg
      have Q5 := Lib.hid (show ∀ w, Calls Try.prog 11 #[.string (S s)] w fun r w' => ∃ x, r = .returned (.tuple #[.agg #[.int .i64 0, .int .i64 0, .int .i64 0, .int .i64 0, x], .int .i64 e]) ∧ Ext w w' ∧ RR entC 9 w' x [] from q5)
      have ke : (e != (0 : Int)) = true := by simp; omega
      clear q5 hg he
      go_wp2_with fail
      refine (Q5.out _).mono ?_
      rintro _ w5 ⟨u5, rfl, x5, r5⟩
      obtain ⟨a5, k5, rfl, _, _, _⟩ := r5
      have y5 := x5.alloc (.cells #[.int .i64 0, .int .i64 0, .int .i64 0, .int .i64 0, .slice a5 0 k5] 24)
      have B9 := Lib.hid (Blk.new w5 24 #[.int .i64 0, .int .i64 0, .int .i64 0, .int .i64 0, .slice a5 0 k5])
      have S9 := Lib.hid (MC.out ⟨0, 0, 0, 0, []⟩ (.slice a5 0 k5))
      have X5 := Lib.hid (X3.out.trans y5)
      clear x5 y5 X3
      go_wp2_with (refine wpList_store_new rfl 24 (.tmp 9) (.tmp 50) rfl rfl rfl rfl S9.out (by kernel_rfl) ?_; refine Held.go ?_)
      refine ⟨?_⟩
      generalize w5.alloc (.cells #[.int .i64 0, .int .i64 0, .int .i64 0, .int .i64 0, .slice a5 0 k5] 24) = w6 at *
      have c9 := B9.out.cell 4
      simp only [List.getElem?_toArray, List.getElem?_cons_zero, List.getElem?_cons_succ] at c9
      go_wp2_with fail
      refine (QA.out _).mono ?_
      rintro _ w7 ⟨rfl, x7⟩
      go_wp2
      go_ret
      exact ⟨rfl, X5.out.trans x7⟩
    | ok n =>
      rw [hg] at q5
      obtain ⟨hh, hpt⟩ := manB_decM hg
      have Q5 := Lib.hid (show ∀ w, Calls Try.prog 11 #[.string (S s)] w fun r w' => ∃ x, r = .returned (.tuple #[.agg (manC n x), .int .i64 0]) ∧ Ext w w' ∧ RR entC 9 w' x n.ents from q5)
      have q6 := fun x w h => mEncode_any n x w h
      rw [hpt, hh] at q6
      have Q6 := Lib.hid (show ∀ x w, RR entC 9 w x n.ents → Calls Try.prog 9 #[.agg (manC n x)] w fun e w' => e = .returned (.tuple #[.string (S s), .int .i64 0]) ∧ Ext w w' from q6)
      have q7 := fun x w h => mCheck_any n x w h
      rw [hh] at q7
      have Q7 := Lib.hid (show ∀ x w, RR entC 9 w x n.ents → Calls Try.prog 15 #[.agg (manC n x)] w fun e w' => e = .returned (.int .i64 0) ∧ Ext w w' from q7)
      clear q5 q6 q7 hh hpt hg
      go_wp2_with fail
      refine (Q5.out _).mono ?_
      rintro _ w5 ⟨u5, rfl, x5, r5⟩
      have y5 := x5.alloc (.cells (manC n u5) 24)
      have B9 := Lib.hid (Blk.new w5 24 (manC n u5))
      have RX9 := Lib.hid r5
      have R9 := Lib.hid (r5.ext ((Ext.refl w5).alloc (.cells (manC n u5) 24)))
      have S9 := Lib.hid (MC.out n u5)
      have Z9 := Lib.hid (show (5 : Nat) = (manC n u5).size from rfl)
      have O9 := Lib.hid (man_one n RX9.out)
      have q6 := Lib.hid (Q6.out u5)
      have q7 := Lib.hid (Q7.out u5)
      have X5 := Lib.hid (X3.out.trans y5)
      clear x5 y5 X3 Q5 Q6 Q7 r5
      generalize manC n u5 = c9 at *
      go_wp2_with (refine wpList_store_new rfl 24 (.tmp 9) (.tmp 50) rfl rfl rfl Z9.out S9.out O9.out ?_; refine Held.go ?_)
      refine ⟨?_⟩
      generalize w5.alloc (.cells c9 24) = w6 at *
      go_wp2_with (refine wpList_load_blk_g (by kernel_rfl) 24 (.tmp 9) rfl rfl B9.out Try.underlying24 rfl S9.out ?_; refine Held.go ?_)
      refine ⟨?_⟩
      go_wp2_with fail
      refine (q6.out _ R9.out).mono ?_
      rintro _ w7 ⟨rfl, x7⟩
      have B9 := Lib.hid (B9.out.ext x7)
      have R9 := Lib.hid (R9.out.ext x7)
      have X7 := Lib.hid (X5.out.trans x7)
      clear x7
      go_wp2_with (refine wpList_load_blk_g (by kernel_rfl) 24 (.tmp 9) rfl rfl B9.out Try.underlying24 rfl S9.out ?_; refine Held.go ?_)
      refine ⟨?_⟩
      go_wp2_with fail
      refine (q7.out _ R9.out).mono ?_
      rintro _ w8 ⟨rfl, x8⟩
      have X8 := Lib.hid (X7.out.trans x8)
      clear x8
      go_wp2_with fail
      refine (QA.out _).mono ?_
      rintro _ w9 ⟨rfl, x9⟩
      go_wp2
      go_ret
      exact ⟨rfl, X8.out.trans x9⟩
end Go.Proofs.Ytcagcepbnkageaa
