/- turn: awake. -/
import Derived.Test.YtmjkfgpkohfmiaaGreatMgAi
import Derived.Test.YtmjkfgpkohfmiaaGreatTxG
import Derived.Test.YtmjkfgpkohfmiaaGreatTxH
namespace Go.Proofs.YtmjkfgpkohfmiaaGreat
set_option linter.unusedVariables false
set_option linter.unusedSimpArgs false
open Go.RowKit

attribute [local go_sem] S_size S_toList S_append S_extract S_beq S_bne S_empty S_nil

theorem has_ops {w : World} {b : Nat} {K : List Nat} {d : Dsk} (h : Has w b K d) : Calls Tryz.prog 21 #[.pointer (some ⟨b, 0, none⟩)] w fun e w' => e = .returned (.int .i64 d.ops) ∧ w = w' := by
  obtain ⟨ok, fb, mn, ms, cv, m, rfl⟩ := h
  exact ops_any m
/-- a slice of entries that no call on the disk in K turns -/
def ER (K : List Nat) (w : World) (v : Value) (l : List E9) : Prop := RR entC 9 w v l ∧ ∀ k, v.ownBlock = some k → k ∉ K ∧ k < w.heap.size
theorem ER.stp {K K' : List Nat} {w w' : World} {v : Value} {l : List E9} (h : ER K w v l) (x : Stp K K' w w') : ER K' w' v l :=
  ⟨h.1.but entC_length (by omega) x.1 (fun k hk => (h.2 k hk).1), fun k hk => ⟨fun hm => (x.2 k hm).elim (h.2 k hk).1 (fun h2 => by have := (h.2 k hk).2; omega), Nat.lt_of_lt_of_le (h.2 k hk).2 x.1.size⟩⟩
theorem RR.ltB {w : World} {v : Value} {l : List E9} (h : RR entC 9 w v l) (h0 : 0 < l.length) {k : Nat} (hk : v.ownBlock = some k) : k < w.heap.size := by
  obtain ⟨a, c, rfl, _, _, h2⟩ := h
  obtain ⟨g, o, rfl, h4⟩ := h2 h0
  injection hk with hk
  subst hk
  obtain ⟨x, hx⟩ : ∃ x, l[0]? = some x := ⟨_, List.getElem?_eq_getElem h0⟩
  have hc := h4 0 x hx 0 _ (List.getElem?_eq_getElem (by rw [entC_length]; omega))
  rcases Nat.lt_or_ge g w.heap.size with h | h
  · exact h
  · unfold World.cell? at hc; simp [h] at hc
set_option maxRecDepth 20000 in
set_option maxHeartbeats 4000000 in
theorem save_bad (p : Option Addr) (m : Man) (v : Value) (w : World) (hr : RR entC 9 w v m.ents) (hp : maniP m = false) :
    Calls Tryz.prog 8 #[.pointer p, .agg (manC m v)] w fun e w' => e = .returned (.int .i64 250) ∧ Ext w w' := by
  have X0 := Lib.hid ((Ext.refl w).alloc (.cells (manC m v) 39))
  have QE := Lib.hid (mEncode_any m v _ (hr.ext X0.out))
  have B1 := Lib.hid (Blk.new w 39 (manC m v))
  have MS := Lib.hid (show (Tryz.prog.info? 39).map (·.size) = some (manC m v).size from man_size)
  rw [hp] at QE
  simp only [errI, Bool.false_eq_true, if_false] at QE
  clear hp hr
  generalize manC m v = mc at *
  generalize manB m = mb at *
  go_enter Tryz.func8, Tryz.ntmps8
  go_wp2_with (refine wpList_load_blk rfl 39 (.tmp 3) rfl rfl B1.out Tryz.underlying39 rfl MS.out ?_; refine Held.go ?_)
  refine ⟨?_⟩
  go_wp2_with fail
  refine Calls.mono QE.out ?_
  rintro _ w1 ⟨rfl, x1⟩
  have X1 := Lib.hid x1
  clear x1
  go_wp2
  go_ret
  exact ⟨rfl, X0.out.trans X1.out⟩
theorem seg_const : ({ data := #[115, 101, 103, 45, 48, 48, 48, 48, 48, 49, 45, 48, 48, 48, 48, 48, 49, 46, 108, 111, 103] } : ByteArray) = S [115, 101, 103, 45, 48, 48, 48, 48, 48, 49, 45, 48, 48, 48, 48, 48, 49, 46, 108, 111, 103] := rfl
def firstT : List UInt8 := manT first26
def segN : List UInt8 := [115, 101, 103, 45, 48, 48, 48, 48, 48, 49, 45, 48, 48, 48, 48, 48, 49, 46, 108, 111, 103]
def ja (t : List UInt8) : Dsk := ⟨[(t, t)], [(maniN, 0)], [(maniN, 0)], [], 1000, 5, 0, false⟩
def jb (t : List UInt8) : Dsk := ⟨[(t, t), ([], [])], [(maniN, 0), ([120], 1)], [(maniN, 0)], [([120], [], some 1)], 1000, 6, 0, false⟩
def jc (t : List UInt8) : Dsk := ⟨[(t, t), ([], [])], [(maniN, 0)], [(maniN, 0)], [], 1000, 8, 0, false⟩
theorem first_len : (firstT.length : Int) ≤ 149 := by
  have h := puts_len (manK first26 first26.ents.length)
  rw [manK_length first26 _ (Nat.le_refl _)] at h
  have e : (manB first26).length ≤ 140 := by
    unfold manB
    rw [if_pos first_may]
    exact h
  unfold firstT manT
  rw [frameB_length]; omega
theorem jw0 : (Dsk.new 1000).loadM = (zM, 201) := by rfl
theorem jw1 : (Dsk.new 1000).saveM first26 = (ja firstT, 0) := by
  have := first_len
  unfold Dsk.saveM
  rw [if_pos first_may]
  exact save_new 1000 firstT (by omega) (by omega)
theorem jw2 : (ja firstT).loadM = (first26, 0) := load_of first_may rfl
theorem jw3 (t : List UInt8) : (ja t).create [120] = (jb t, 0) := by rfl
theorem jw4 : sortS (namesL first26.ents) = [maniN, segN] := by
  rw [show namesL first26.ents = [maniN, segN] by decide +kernel]
  refine List.mergeSort_of_pairwise ?_
  refine List.Pairwise.cons (fun y hy => ?_) (List.pairwise_singleton _ _)
  rw [List.mem_singleton] at hy
  subst hy
  decide +kernel
theorem jw5 (t : List UInt8) : (jb t).clean [maniN, segN] = (jc t, 1, 0) := by rfl
theorem jw6 (t : List UInt8) : (jc t).saveM zM = (jc t, 250) := by rfl
theorem jw7 (t : List UInt8) : (jc t).list = [maniN] := by rfl
attribute [local go_sem] seg_const man_build0
set_option maxRecDepth 20000 in
set_option maxHeartbeats 4000000 in
theorem awake_any (w : World) : Calls Tryz.prog 6 #[] w fun e w' => e = .returned (.bool true) ∧ Ext w w' := by
  have MS := Lib.hid (show (Tryz.prog.info? 39).map (·.size) = some 5 from man_size)
  go_enter Tryz.func6, Tryz.ntmps6
  go_wp2_with fail
  refine (has_new 1000 _ (by decide) (by decide)).mono ?_
  rintro _ w1 ⟨b, rfl, K0, h0, st0⟩
  have QL := Lib.hid (load_any h0 (by decide))
  rw [jw0] at QL
  have H := Lib.hid h0
  have X1 := Lib.hid st0.ext
  have S0 := Lib.hid st0
  clear h0 st0
  go_wp2_with fail
  refine Calls.mono QL.out ?_
  rintro _ w2 ⟨u, rfl, x2, r2, _⟩
  obtain ⟨a2, c2, rfl, _, _, _⟩ := r2
  have H2 := Lib.hid (H.out.ext x2)
  have S2 := Lib.hid (S0.out.then x2)
  clear x2 H S0 X1 QL
  dsimp only [manC, zM]
  go_wp2_with (refine wpList_store_new rfl 39 (.tmp 3) (.tmp 25) rfl rfl rfl rfl MS.out (by kernel_rfl) ?_; refine Held.go ?_)
  refine ⟨?_⟩
  go_wp2_with fail
  have H3 := Lib.hid (H2.out.ext ((Ext.refl w2).alloc (.cells #[.int .i64 0, .int .i64 0, .int .i64 0, .int .i64 0, .slice a2 0 c2] 39)))
  have S3 := Lib.hid (S2.out.then ((Ext.refl w2).alloc (.cells #[.int .i64 0, .int .i64 0, .int .i64 0, .int .i64 0, .slice a2 0 c2] 39)))
  clear H2 S2
  refine (first_any _).mono ?_
  rintro _ w3 ⟨u3, rfl, r3, x3⟩
  have QS := Lib.hid (save_any (H3.out.ext x3) (by decide) first26 u3 r3)
  rw [jw1] at QS
  have S4 := Lib.hid (S3.out.then x3)
  clear x3 r3 S3 H3
  go_wp2_with fail
  refine Calls.mono QS.out ?_
  rintro _ w4 ⟨rfl, K4, h4, st4⟩
  have H4 := Lib.hid h4
  have S5 := Lib.hid (S4.out.trans st4)
  clear h4 st4 S4 QS
  have QO := Lib.hid (has_ops H4.out)
  rw [show (ja firstT).ops = 5 from rfl] at QO
  have QL := Lib.hid (load_any H4.out (by show (5 : Int) ≤ _; decide))
  rw [jw2] at QL
  go_wp2_with fail
  refine Calls.mono QO.out ?_
  rintro _ w5 ⟨rfl, rfl⟩
  go_wp2_with fail
  refine Calls.mono QL.out ?_
  rintro _ w6 ⟨u6, rfl, x6, r6, f6⟩
  obtain ⟨a6, c6, rfl, l6, n6, d6⟩ := r6
  have R6 := Lib.hid (show ER K4 w6 (.slice a6 1 c6) first26.ents from by
    have hr : RR entC 9 w6 (.slice a6 1 c6) first26.ents := ⟨a6, c6, rfl, l6, n6, d6⟩
    exact ⟨hr, fun k hk => ⟨fun hm => by have := H4.out.lt k hm; have := f6 k hk; omega, hr.ltB (by decide) hk⟩⟩)
  clear f6
  have H6 := Lib.hid (H4.out.ext x6)
  have S6 := Lib.hid (S5.out.then x6)
  clear x6 H4 S5 QL QO l6 n6 d6
  dsimp only [manC, first26]
  rw [show ([⟨1, 1, 1, false, 0, 0, 0, 0, 0⟩] : List E9).length = 1 from rfl]
  go_wp2_with (refine wpList_store_new rfl 39 (.tmp 7) (.tmp 35) rfl rfl rfl rfl MS.out (by kernel_rfl) ?_; refine Held.go ?_)
  refine ⟨?_⟩
  have x7 : Ext w6 (w6.alloc (.cells #[.int .i64 1, .int .i64 2, .int .i64 0, .int .i64 1, .slice a6 1 c6] 39)) := (Ext.refl w6).alloc _
  have B7 := Lib.hid (Blk.new w6 39 #[.int .i64 1, .int .i64 2, .int .i64 0, .int .i64 1, .slice a6 1 c6])
  have H7 := Lib.hid (H6.out.ext x7)
  have S7 := Lib.hid (S6.out.then x7)
  have R7 := Lib.hid (R6.out.stp (Stp.of_ext x7))
  have N7 := Lib.hid (show w6.heap.size ∉ K4 from fun hm => by have := H6.out.lt _ hm; omega)
  clear x7 H6 S6 R6
  generalize w6.alloc (.cells #[.int .i64 1, .int .i64 2, .int .i64 0, .int .i64 1, .slice a6 1 c6] 39) = w7 at *
  generalize w6.heap.size = g7 at *
  have QC := Lib.hid (has_create H7.out (by show (5 : Int) ≤ _; decide) [120] (by show 1 ≤ maxLen; unfold maxLen; omega))
  rw [jw3] at QC
  go_wp2_with fail
  refine Calls.mono QC.out ?_
  rintro _ w8 ⟨rfl, K8, h8, st8⟩
  have H8 := Lib.hid h8
  have S8 := Lib.hid (S7.out.trans st8)
  have R8 := Lib.hid (R7.out.stp st8)
  have B8 := Lib.hid (B7.out.but st8.1 N7.out)
  have N8 := Lib.hid (show g7 ∉ K8 from fun hm => (st8.2 _ hm).elim N7.out (fun h2 => by have := B7.out.lt; omega))
  clear h8 st8 H7 S7 R7 B7 N7 QC
  have QN := Lib.hid (names_of first26 (.slice a6 1 c6) w8 R8.out.1 (by decide))
  rw [jw4] at QN
  go_wp2_with (refine wpList_load_blk rfl 39 (.tmp 7) rfl rfl B8.out Tryz.underlying39 rfl MS.out ?_; refine Held.go ?_)
  refine ⟨?_⟩
  go_wp2_with fail
  refine Calls.mono QN.out ?_
  rintro _ w9 ⟨v9, rfl, sw9, x9⟩
  have H9 := Lib.hid (H8.out.ext x9)
  have S9 := Lib.hid (S8.out.then x9)
  have R9 := Lib.hid (R8.out.stp (Stp.of_ext x9))
  have B9 := Lib.hid (B8.out.ext x9)
  have V9 := Lib.hid (sw9.sr H8.out.lt)
  clear sw9 x9 H8 S8 R8 B8 QN
  have QC := Lib.hid (clean_any H9.out (by show (6 : Int) ≤ _; decide) [maniN, segN] v9 V9.out.kr (by decide))
  rw [jw5] at QC
  go_wp2_with fail
  refine Calls.mono QC.out ?_
  rintro _ w10 ⟨rfl, K10, h10, st10⟩
  have H10 := Lib.hid h10
  have S10 := Lib.hid (S9.out.trans st10)
  have R10 := Lib.hid (R9.out.stp st10)
  have B10 := Lib.hid (B9.out.but st10.1 N8.out)
  clear h10 st10 H9 S9 R9 B9 N8 QC V9
  have QN := Lib.hid (names_of first26 (.slice a6 1 c6) w10 R10.out.1 (by decide))
  rw [jw4] at QN
  go_wp2_with (refine wpList_load_blk rfl 39 (.tmp 7) rfl rfl B10.out Tryz.underlying39 rfl MS.out ?_; refine Held.go ?_)
  refine ⟨?_⟩
  go_wp2_with fail
  refine Calls.mono QN.out ?_
  rintro _ w11 ⟨v11, rfl, sw11, x11⟩
  obtain ⟨a11, c11, rfl⟩ := (sw11.sr (K := []) (by simp)).shape
  have V11 := Lib.hid (sw11.sr H10.out.lt)
  have H11 := Lib.hid (H10.out.ext x11)
  have S11 := Lib.hid (S10.out.then x11)
  have R11 := Lib.hid (R10.out.stp (Stp.of_ext x11))
  have B11 := Lib.hid (B10.out.ext x11)
  clear sw11 x11 H10 S10 R10 B10 QN
  rw [show ([maniN, segN] : List (List UInt8)).length = 2 from rfl] at V11 ⊢
  go_wp2_with fail
  have QF := Lib.hid (fun w => first_any w)
  have QM := Lib.hid (fun (w : World) (u v : Value) (h1 : RR entC 9 w u first26.ents) (h2 : RR entC 9 w v first26.ents) => mSame_any first26 first26 u v w h1 h2 (by decide))
  rw [show sameMan first26 first26 = true by decide +kernel] at QM
  refine wp_region_lex 51 rfl (by kernel_rfl) ?_
  have B12 := Lib.hid B11.out.drew
  have R12 := Lib.hid (R11.out.stp (Stp.of_ext (Ext.refl w11).drew))
  have S12 := Lib.hid (S11.out.then (Ext.refl w11).drew)
  have H12 := Lib.hid (H11.out.ext (Ext.refl w11).drew)
  have V12 := Lib.hid (V11.out.stp (Stp.of_ext (Ext.refl w11).drew))
  clear B11 R11 S11 H11 V11
  generalize w11.drew = w12 at *
  iterate 11
    (refine lex_want (by kernel_rfl) (by kernel_rfl) (by kernel_rfl) (by kernel_rfl) (fun _ _ _ _ h => h) (by kernel_rfl) (fun K hK => ?_)
     go_simp
     (refine hK _ ?_; clear hK K))
  refine lex_load_blk (by kernel_rfl) (by kernel_rfl) (by kernel_rfl) (by kernel_rfl) (fun _ _ _ _ h => h) (by kernel_rfl) 39 (.tmp 7) rfl rfl B12.out Tryz.underlying39 rfl MS.out ?_
  dsimp only [Act.put]
  simp only [List.setIfInBounds_toArray, List.set_cons_succ, List.set_cons_zero]
  refine lex_only (by kernel_rfl) (by kernel_rfl) (fun x K hK => ?_)
  go_simp
  refine (QF.out _).mono ?_
  rintro _ w13 ⟨u13, rfl, r13, x13⟩
  refine hK.out _ _ x13 ?_
  have y13 := x.ext.trans x13
  have R13 := Lib.hid (R12.out.stp (Stp.of_ext y13))
  have S13 := Lib.hid (S12.out.then y13)
  have H13 := Lib.hid (H12.out.ext y13)
  have V13 := Lib.hid (V12.out.stp (Stp.of_ext y13))
  have U13 := Lib.hid r13
  clear hK K x13 y13 r13 x B12 R12 S12 H12 V12
  refine lex_only (by kernel_rfl) (by kernel_rfl) (fun x K hK => ?_)
  go_simp
  refine (QM.out _ _ _ (R13.out.1.ext x.ext) (U13.out.ext x.ext)).mono ?_
  rintro _ w14 ⟨rfl, x14⟩
  refine hK.out _ _ x14 ?_
  have y14 := x.ext.trans x14
  have S14 := Lib.hid (S13.out.then y14)
  have H14 := Lib.hid (H13.out.ext y14)
  have V14 := Lib.hid (V13.out.stp (Stp.of_ext y14))
  clear hK K x14 y14 x R13 S13 H13 V13 U13
  iterate 15
    (refine lex_want (by kernel_rfl) (by kernel_rfl) (by kernel_rfl) (by kernel_rfl) (fun _ _ _ _ h => h) (by kernel_rfl) (fun K hK => ?_)
     go_simp
     (refine hK _ ?_; clear hK K))
  have QI := Lib.hid (fun (x : Up w14) => has_list (H14.out.ext x.ext) (by show (8 : Int) ≤ _; decide))
  rw [jw7] at QI
  refine lex_only (by kernel_rfl) (by kernel_rfl) (fun x K hK => ?_)
  go_simp
  refine (QI.out x).mono ?_
  rintro _ w15 ⟨v15, rfl, sw15, x15⟩
  obtain ⟨a15, c15, rfl⟩ := (sw15.sr (K := []) (by simp)).shape
  rw [show ([maniN] : List (List UInt8)).length = 1 from rfl]
  refine hK.out _ _ x15 ?_
  have y15 := x.ext.trans x15
  have S15 := Lib.hid (S14.out.then y15)
  have H15 := Lib.hid (H14.out.ext y15)
  have V15 := V14.out.stp (Stp.of_ext y15)
  obtain ⟨g11, o11, rfl, cl⟩ := V15.cell (k := 1) (s := segN) rfl
  have cl := up_cell cl
  have QB := Lib.hid (fun (x : Up w15) => save_bad (some ⟨b, 0, none⟩) zM (.slice none 0 0) x.val (RR.nil _) (by decide +kernel))
  clear hK K x15 y15 x S14 H14 V14 sw15 QI V15
  iterate 11
    (refine lex_want (by kernel_rfl) (by kernel_rfl) (by kernel_rfl) (by kernel_rfl) (fun _ _ _ _ h => h) (by kernel_rfl) (fun K hK => ?_)
     go_simp
     (refine hK _ ?_; clear hK K))
  iterate 6
    (refine lex_want (by kernel_rfl) (by kernel_rfl) (by kernel_rfl) (by kernel_rfl) (fun _ _ _ _ h => h) (by kernel_rfl) (fun K hK => ?_)
     go_simp
     (refine hK _ ?_; clear hK K))
  refine lex_only (by kernel_rfl) (by kernel_rfl) (fun x K hK => ?_)
  go_simp
  refine (QB.out x).mono ?_
  rintro _ w16 ⟨rfl, x16⟩
  refine hK.out _ _ x16 ?_
  have y16 := x.ext.trans x16
  have S16 := Lib.hid (S15.out.then y16)
  clear hK K x16 y16 x S15 H15 cl QB
  iterate 3
    (refine lex_want (by kernel_rfl) (by kernel_rfl) (by kernel_rfl) (by kernel_rfl) (fun _ _ _ _ h => h) (by kernel_rfl) (fun K hK => ?_)
     go_simp
     (refine hK _ ?_; clear hK K))
  refine lex_done (by kernel_rfl) (fun z => ?_)
  have S17 := Lib.hid (S16.out.then z.ext)
  clear S16
  generalize z.val = w17 at *
  clear z
  go_wp2
  go_ret
  exact ⟨rfl, S17.out.ext⟩
end Go.Proofs.YtmjkfgpkohfmiaaGreat
