/- FramePrefix: the law's walk. -/
import Derived.Test.YthomdpdiknnahaaFrM
namespace Go.Proofs.Ythomdpdiknnahaa
set_option linter.unusedVariables false
set_option linter.unusedSimpArgs false
open Go.RowKit
attribute [local go_sem] S_size S_toList S_append S_extract S_beq S_bne S_empty S_nil frame_zero frame_build aw_bnil

set_option maxRecDepth 20000 in
set_option maxHeartbeats 8000000 in
theorem framePrefix_out (l b : List UInt8) (c : Int) (w : World) (h : (20000 : Int) < (l.length : Int) ∨ (¬ (20000 : Int) < (l.length : Int) ∧ c < 0) ∨ (¬ (20000 : Int) < (l.length : Int) ∧ ¬ c < 0 ∧ (l.length : Int) < c) ∨ (¬ (20000 : Int) < (l.length : Int) ∧ ¬ c < 0 ∧ ¬ (l.length : Int) < c ∧ (2000 : Int) < (b.length : Int))) :
    Calls Try.prog 6 #[.string (S l), .int .i64 c, .string (S b)] w fun e w' => e = .returned (.bool true) ∧ Ext w w' := by
  rcases h with h | ⟨h1, h2⟩ | ⟨h1, h2, h3⟩ | ⟨h1, h2, h3, h4⟩
  all_goals
    go_enter Try.func6, Try.ntmps6
    go_wp2_with fail
    refine (awake16 _).mono ?_
    rintro e w' ⟨rfl, hx⟩
    go_wp2
    go_ret
    exact ⟨rfl, hx⟩

/-- what scanning a beginning of bytes says -/
theorem prefix_told (l : List UInt8) (c : Nat) (hc : c ≤ l.length) :
    (scan (l.take c) 0).1.length ≤ (scan l 0).1.length ∧ (scan l 0).1.take (scan (l.take c) 0).1.length = (scan (l.take c) 0).1 ∧
    ((scan (l.take c) 0).1.length < (scan l 0).1.length → (c : Int) < ((scan l 0).1.getD (scan (l.take c) 0).1.length default).to) := by
  obtain ⟨i1, i2, i3⟩ := scan_take hc _ 0 (Nat.le_refl _)
  generalize scan (l.take c) 0 = q at *
  rw [i1]
  refine ⟨by simp, List.take_left, fun h => ?_⟩
  by_cases hg : getE l q.2 = 0
  · rw [List.getD_eq_getElem?_getD, List.getElem?_append_right (Nat.le_refl _), Nat.sub_self, scan_step hg]
    show (c : Int) < (getF l q.2).to
    exact Int.not_le.1 fun hh => i3 ⟨hg, hh⟩
  · rw [scan_stop hg] at h
    simp at h
set_option maxRecDepth 20000 in
set_option maxHeartbeats 8000000 in
theorem framePrefix_in (l b : List UInt8) (c : Nat) (w : World) (h1 : ¬ (20000 : Int) < (l.length : Int)) (h2 : c ≤ l.length) (h3 : ¬ (2000 : Int) < (b.length : Int)) :
    Calls Try.prog 6 #[.string (S l), .int .i64 (c : Int), .string (S b)] w fun e w' => e = .returned (.bool true) ∧ Ext w w' := by
  have hcl : (l.take c).length = c := by rw [List.length_take]; omega
  have q1 := fun w => fScan_any l 0 w (by omega)
  have q2 := fun w => fScan_any (l.take c) 0 w (by rw [hcl]; omega)
  have hE : putE 2 b.length = 0 := by unfold putE; rw [if_pos (by decide), if_pos (by omega)]
  have q3 := fun w => fPut_any 2 b w (by omega)
  unfold putB at q3
  rw [if_pos hE, hE] at q3
  have hfl := frameB_length 2 b
  have ht := scan_to l 0 (Int.le_refl _) (by omega)
  have hm := scan_more l b (by omega)
  have q4 := fun w => fScan_any (l.take (scan l 0).2.toNat ++ frameB 2 b) 0 w (by rw [List.length_append, List.length_take, hfl]; omega)
  rw [hm] at q4
  have hb := scan_to (l.take c) 0 (Int.le_refl _) (by omega)
  rw [hcl] at hb
  obtain ⟨p1, p2, p3⟩ := prefix_told l c h2
  have hsl := scan_len l 0
  obtain ⟨t, htt⟩ : ∃ t : Nat, (scan l 0).2 = (t : Int) := ⟨(scan l 0).2.toNat, by omega⟩
  obtain ⟨u, huu⟩ : ∃ u : Nat, (scan (l.take c) 0).2 = (u : Int) := ⟨(scan (l.take c) 0).2.toNat, by omega⟩
  rw [htt, show ((t : Nat) : Int).toNat = t by omega, show (t : Int) + (b.length : Int) + 9 = (t : Int) + ((frameB 2 b).length : Int) by omega] at q4
  rw [htt] at ht q1
  rw [huu] at hb q2
  clear hm htt huu hcl hE
  generalize (scan l 0).1 = al at *
  generalize (scan (l.take c) 0).1 = so at *
  have hml : ((al ++ [(⟨2, b, (t : Int), (t : Int) + ((frameB 2 b).length : Int)⟩ : F4)]).length : Nat) = al.length + 1 := by simp
  have hmt : (al ++ [(⟨2, b, (t : Int), (t : Int) + ((frameB 2 b).length : Int)⟩ : F4)]).take al.length = al := List.take_left
  have hmg : (al ++ [(⟨2, b, (t : Int), (t : Int) + ((frameB 2 b).length : Int)⟩ : F4)])[al.length]? = some ⟨2, b, (t : Int), (t : Int) + ((frameB 2 b).length : Int)⟩ := by simp
  generalize (al ++ [(⟨2, b, (t : Int), (t : Int) + ((frameB 2 b).length : Int)⟩ : F4)]) = mo at *
  have hfb : (frameB 2 b).length ≤ 2009 := by omega
  clear hfl
  generalize frameB 2 b = fb at *
  have W1 := w64_small (n := (al.length : Int) + 1) (by omega) (by omega)
  have W2 := w64_small (n := (t : Int) + (fb.length : Int)) (by omega) (by omega)
  have Q1 := Lib.hid q1
  have Q2 := Lib.hid q2
  have Q3 := Lib.hid q3
  have Q4 := Lib.hid q4
  have HP2 := Lib.hid p2
  have HP3 := Lib.hid p3
  have HML := Lib.hid hml
  have HMT := Lib.hid hmt
  have HMG := Lib.hid hmg
  have HSL := Lib.hid hsl
  have HT := ht.2
  have HB := hb.2
  have HL := p1
  clear q1 q2 q3 q4 p1 p2 p3 hml hmt hmg hsl ht hb
  go_enter Try.func6, Try.ntmps6
  go_wp2_with fail
  refine (Q1.out _).mono ?_
  rintro _ w1 ⟨v1, rfl, x1, i1⟩
  have R1 := WR.rr f4C_length i1
  go_wp2_with fail
  refine (Q2.out _).mono ?_
  rintro _ w2 ⟨v2, rfl, x2, i2⟩
  have R1 := R1.ext x2
  have R2 := WR.rr f4C_length i2
  have X2 := Lib.hid (x1.trans x2)
  obtain ⟨a1, c1, rfl, k1, n1, z1⟩ := id R1
  obtain ⟨a2, c2, rfl, k2, n2, z2⟩ := id R2
  have R3 := R1.take so.length HL
  rw [HP2.out] at R3
  have R1 := Lib.hid R1
  have R2 := Lib.hid R2
  have R3 := Lib.hid R3
  clear i1 i2 x1 x2 z1 z2 n1 n2
  go_wp2_with fail
  refine (fSame_any so so _ _ _ R2.out R3.out (by have := HSL.out; omega)).mono ?_
  rw [decide_eq_true rfl]
  rintro _ w3 ⟨rfl, x3⟩
  have R1 := Lib.hid (R1.out.ext x3)
  have X3 := Lib.hid (X2.out.trans x3)
  clear x3 X2 R2 R3
  by_cases hlt : so.length < al.length
  · obtain ⟨a1', c1', e1, _, _, zz⟩ := id R1.out
    injection e1 with e1 e2 e3
    obtain ⟨g, o, ha, zy⟩ := zz (by omega)
    rw [← e1] at ha
    subst ha
    have c3 := f4_mid3 (zy so.length _ (f4_at hlt))
    have hgt := HP3.out hlt
    generalize (al.getD so.length default).to = xt at *
    clear zz zy e1 e2 e3
    go_wp2_with fail
    refine (Q3.out _).mono ?_
    rintro _ w4 ⟨rfl, x4⟩
    have R1 := Lib.hid (R1.out.ext x4)
    have X4 := Lib.hid (X3.out.trans x4)
    clear x4 X3
    go_wp2_with fail
    refine (Q4.out _).mono ?_
    rintro _ w5 ⟨v5, rfl, x5, i5⟩
    have R5 := WR.rr f4C_length i5
    have R1 := Lib.hid (R1.out.ext x5)
    have X5 := Lib.hid (X4.out.trans x5)
    have hml := HML.out
    obtain ⟨a5, c5, rfl, k5, n5, z5⟩ := id R5
    obtain ⟨g5, o5, ha5, y5⟩ := z5 (by omega)
    subst ha5
    have R6 := R5.take al.length (by omega)
    rw [HMT.out] at R6
    have R6 := Lib.hid R6
    have hbe : ((mo.length : Int) == (al.length : Int) + 1) = true := by simp only [beq_iff_eq]; omega
    have Z5 := Lib.hid (y5 _ _ HMG.out)
    clear z5 y5 i5 x5 X4 R5 n5
    go_wp2_with fail
    refine (fSame_any al al _ _ _ R6.out R1.out (by have := HSL.out; omega)).mono ?_
    rw [decide_eq_true rfl]
    rintro _ w6 ⟨rfl, x6⟩
    have c1 := f4_mid1 (rangeAt_ext Z5.out x6)
    have X6 := Lib.hid (X5.out.trans x6)
    clear x6 X5 R6
    go_wp2_with fail
    refine (awake16 _).mono ?_
    rintro e w7 ⟨rfl, x7⟩
    go_wp2
    go_ret
    exact ⟨rfl, X6.out.trans x7⟩
  · go_wp2_with fail
    refine (Q3.out _).mono ?_
    rintro _ w4 ⟨rfl, x4⟩
    have R1 := Lib.hid (R1.out.ext x4)
    have X4 := Lib.hid (X3.out.trans x4)
    clear x4 X3
    go_wp2_with fail
    refine (Q4.out _).mono ?_
    rintro _ w5 ⟨v5, rfl, x5, i5⟩
    have R5 := WR.rr f4C_length i5
    have R1 := Lib.hid (R1.out.ext x5)
    have X5 := Lib.hid (X4.out.trans x5)
    have hml := HML.out
    obtain ⟨a5, c5, rfl, k5, n5, z5⟩ := id R5
    obtain ⟨g5, o5, ha5, y5⟩ := z5 (by omega)
    subst ha5
    have R6 := R5.take al.length (by omega)
    rw [HMT.out] at R6
    have R6 := Lib.hid R6
    have hbe : ((mo.length : Int) == (al.length : Int) + 1) = true := by simp only [beq_iff_eq]; omega
    have Z5 := Lib.hid (y5 _ _ HMG.out)
    clear z5 y5 i5 x5 X4 R5 n5
    go_wp2_with fail
    refine (fSame_any al al _ _ _ R6.out R1.out (by have := HSL.out; omega)).mono ?_
    rw [decide_eq_true rfl]
    rintro _ w6 ⟨rfl, x6⟩
    have c1 := f4_mid1 (rangeAt_ext Z5.out x6)
    have X6 := Lib.hid (X5.out.trans x6)
    clear x6 X5 R6
    go_wp2_with fail
    refine (awake16 _).mono ?_
    rintro e w7 ⟨rfl, x7⟩
    go_wp2
    go_ret
    exact ⟨rfl, X6.out.trans x7⟩
theorem framePrefix_law (a : ByteArray) (ha : a.size ≤ maxLen) (c : Int) (hc : (Lit.int .i64 c).wf = true) (b : ByteArray) (hb : b.size ≤ maxLen) (w : World) :
    Calls Try.prog 6 #[.string a, .int .i64 c, .string b] w fun e w' => e = .returned (.bool true) ∧ Ext w w' := by
  obtain ⟨l, rfl, _⟩ := S_ex a
  obtain ⟨r, rfl, _⟩ := S_ex b
  by_cases h1 : (20000 : Int) < (l.length : Int)
  · exact framePrefix_out l r c w (.inl h1)
  by_cases h2 : c < 0
  · exact framePrefix_out l r c w (.inr (.inl ⟨h1, h2⟩))
  by_cases h3 : (l.length : Int) < c
  · exact framePrefix_out l r c w (.inr (.inr (.inl ⟨h1, h2, h3⟩)))
  by_cases h4 : (2000 : Int) < (r.length : Int)
  · exact framePrefix_out l r c w (.inr (.inr (.inr ⟨h1, h2, h3, h4⟩)))
  obtain ⟨n, rfl⟩ : ∃ n : Nat, c = (n : Int) := ⟨c.toNat, by omega⟩
  exact framePrefix_in l r n w h1 (by omega) h4
end Go.Proofs.Ythomdpdiknnahaa
