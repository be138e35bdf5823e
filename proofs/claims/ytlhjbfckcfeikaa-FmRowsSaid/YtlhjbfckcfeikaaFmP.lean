/- fm's reference: Places, Text. -/
import Derived.Test.YtlhjbfckcfeikaaFmO
namespace Go.Proofs.Ytlhjbfckcfeikaa
set_option linter.unusedVariables false
set_option linter.unusedSimpArgs false
open Go.RowKit
attribute [local go_sem] S_size S_toList S_extract S_beq S_bne S_empty S_nil u8_beq U8_fold U8_toNat

def plcTo (s w : List UInt8) (k : Nat) : List Nat := (List.range k).filter fun p => decide (w <+: s.drop p)
theorem plcTo_step (s w : List UInt8) (k : Nat) : plcTo s w (k + 1) = if decide (w <+: s.drop k) then plcTo s w k ++ [k] else plcTo s w k := by
  unfold plcTo
  rw [List.range_succ, List.filter_append]
  cases h : decide (w <+: s.drop k) with
  | true =>
    rw [if_pos rfl, List.filter_cons_of_pos (p := fun p => decide (w <+: s.drop p)) h]; rfl
  | false =>
    rw [if_neg (by decide), List.filter_cons_of_neg (p := fun p => decide (w <+: s.drop p)) (by rw [h]; decide)]
    exact List.append_nil _
theorem plcTo_le (s w : List UInt8) (k : Nat) : (plcTo s w k).length ≤ k := by
  have := List.length_filter_le (fun p => decide (w <+: s.drop p)) (List.range k)
  rwa [List.length_range] at this
theorem toI_snoc (l : List Nat) (k : Nat) : toI (l ++ [k]) = toI l ++ [(k : Int)] := by unfold toI; rw [List.map_append]; rfl

set_option maxRecDepth 20000 in
set_option maxHeartbeats 8000000 in
theorem rplaces_any (s what : List UInt8) (av : Value) (w : World) (hl : (s.length : Int) ≤ 20000) (hwl : (what.length : Int) ≤ 1000000) (hav : ∃ a n c, av = .slice a n c) :
    Calls Try.prog 13 #[.agg #[.string (S s), av], .string (S what)] w fun e w' => ∃ u, e = .returned u ∧ Ext w w' ∧ RI w' u (toI (plcL s what)) := by
  obtain ⟨aa, an, ac, rfl⟩ := hav
  have B2 := Lib.hid (Blk.new w 33 #[.string (S s), .slice aa an ac])
  have X0 := Lib.hid ((Ext.refl w).alloc (.cells #[.string (S s), .slice aa an ac] 33))
  go_enter Try.func13, Try.ntmps13
  go_wp2
  generalize w.alloc (.cells #[.string (S s), .slice aa an ac] 33) = W0 at *
  go_loopw [5, 6] (fun v i wr => ∃ k : Nat, k ≤ s.length + 1 ∧ i = .int .i64 (k : Int) ∧ IW wr (w.heap.size + 1) v (toI (plcTo s what k)) ∧ Ext w wr ∧ Blk wr w.heap.size 33 #[.string (S s), .slice aa an ac]) (fun _ i _ => s.length + 1 - (intOf i).toNat)
  case atStart => exact ⟨0, by omega, rfl, IW.nil _ _, X0.out, B2.out⟩
  case round =>
    obtain ⟨k, hk, rfl, hv, hx, hb2⟩ := hrel
    clear B2 X0
    have c0 := hb2.cell 0
    simp only [List.getElem?_toArray, List.getElem?_cons_zero, List.getElem?_cons_succ] at c0
    by_cases hlt : k < s.length + 1
    · have hki : (k : Int) ≤ (s.length : Int) := by omega
      have Q := Lib.hid (begins_any (s.drop k) what wr (by rw [List.length_drop]; omega) hwl)
      have hle := plcTo_le s what k
      have HST := Lib.hid (plcTo_step s what k)
      obtain ⟨gv, cv, rfl, _, _⟩ := hv.shape
      have HV := Lib.hid hv
      have HX := Lib.hid hx
      have HLT := Lib.hid hlt
      have HB2 := Lib.hid hb2
      have HLE := Lib.hid hle
      clear hv hx hlt hk hb2 hle
      generalize (toI (plcTo s what k)).length = nv at *
      cases hb : decide (what <+: s.drop k) with
      | false =>
        rw [hb] at Q HST
        clear hb
        go_wp2_with fail
        refine Q.out.mono ?_
        rintro _ w1 ⟨rfl, rfl⟩
        go_wp2
        go_roundw
        case rel => exact ⟨k + 1, by have := HLT.out; omega, by go_num, by rw [HST.out]; exact HV.out, HX.out, HB2.out⟩
        case measure => simp [intOf]; have := HLT.out; omega
      | true =>
        rw [hb] at Q HST
        clear hb
        obtain ⟨v', w', p1, p2, p3⟩ := IW.app HV.out HB2.out.lt (k : Int) (by have := HLE.out; rw [toI_length]; omega)
        rw [← toI_snoc] at p2
        obtain ⟨g2, c2, rfl, _, _⟩ := p2.shape
        have HX4 := Lib.hid (Below.trans HX.out (Below.mono p3.1 (Nat.le_succ _)) : Ext w w')
        have HB4 := Lib.hid (HB2.out.below p3.1 (Nat.lt_succ_self _))
        have HV4 := Lib.hid p2
        generalize (toI (plcTo s what k ++ [k])).length = nf at *
        clear p2 p3
        go_wp2_with fail
        refine Q.out.mono ?_
        rintro _ w1 ⟨rfl, rfl⟩
        go_wp2_with (at_builtin; refine wpList_app rfl (.tmp 20) (.tmp 22) 31 rfl rfl rfl rfl p1 ?_)
        go_roundw
        case rel => exact ⟨k + 1, by have := HLT.out; omega, by go_num, by rw [HST.out]; exact HV4.out, HX4.out, HB4.out⟩
        case measure => simp [intOf]; have := HLT.out; omega
    · have hki : ¬ (k : Int) ≤ (s.length : Int) := by omega
      have hv := (show k = s.length + 1 by omega) ▸ hv
      obtain ⟨gv, cv, rfl, _, _⟩ := hv.shape
      have R1 := Lib.hid (show RI wr _ (toI (plcL s what)) from hv.ri)
      have X1 := Lib.hid hx
      clear hv hx hb2 hk hlt
      generalize (toI (plcTo s what (s.length + 1))).length = nv at *
      go_wp2
      go_ret
      exact ⟨_, rfl, X1.out, R1.out⟩

/-- what is taken of a text, up to a place -/
def partTo (s : List UInt8) (a m k : Nat) : List UInt8 := ((s.take k).drop a).take m
theorem partTo_step {s : List UInt8} {a m k : Nat} (hk : k < s.length) : (a ≤ k ∧ (partTo s a m k).length < m ∧ partTo s a m (k + 1) = partTo s a m k ++ [s.getD k 0]) ∨ (a ≤ k ∧ ¬ (partTo s a m k).length < m ∧ partTo s a m (k + 1) = partTo s a m k) ∨ (¬ a ≤ k ∧ partTo s a m (k + 1) = partTo s a m k) := by
  have e0 : s.take (k + 1) = s.take k ++ [s.getD k 0] := by
    rw [List.take_succ_eq_append_getElem hk, List.getD_eq_getElem?_getD, List.getElem?_eq_getElem hk]; rfl
  have hlk : (s.take k).length = k := by rw [List.length_take]; omega
  by_cases ha : a ≤ k
  · have e1 : (s.take (k + 1)).drop a = (s.take k).drop a ++ [s.getD k 0] := by rw [e0, List.drop_append_of_le_length (by omega)]
    have hl : ((s.take k).drop a).length = k - a := by rw [List.length_drop, hlk]
    unfold partTo
    rw [e1]
    by_cases hm : (((s.take k).drop a).take m).length < m
    · refine .inl ⟨ha, hm, ?_⟩
      rw [List.length_take, hl] at hm
      rw [List.take_of_length_le (l := (s.take k).drop a ++ [s.getD k 0]) (by rw [List.length_append, hl, List.length_singleton]; omega), List.take_of_length_le (l := (s.take k).drop a) (by rw [hl]; omega)]
    · refine .inr (.inl ⟨ha, hm, ?_⟩)
      rw [List.length_take, hl] at hm
      rw [List.take_append_of_le_length (by rw [hl]; omega)]
  · refine .inr (.inr ⟨ha, ?_⟩)
    unfold partTo
    rw [List.drop_eq_nil_of_le (by rw [List.length_take]; omega), List.drop_eq_nil_of_le (by omega)]
theorem partTo_le (s : List UInt8) (a m k : Nat) : (partTo s a m k).length ≤ k := by
  unfold partTo; rw [List.length_take, List.length_drop, List.length_take]; omega
theorem partTo_all (s : List UInt8) (at_ n : Int) : partTo s at_.toNat n.toNat s.length = partL s at_ n := by
  unfold partTo partL; rw [List.take_of_length_le (Nat.le_refl _)]
theorem one_take {s : List UInt8} {k : Nat} (hk : k < s.length) : (s.take (k + 1)).drop k = [s.getD k 0] := by
  rw [List.take_succ_eq_append_getElem hk, List.drop_append_of_le_length (by rw [List.length_take]; omega), List.drop_eq_nil_of_le (by rw [List.length_take]; omega), List.getD_eq_getElem?_getD, List.getElem?_eq_getElem hk]; rfl

set_option maxRecDepth 20000 in
set_option maxHeartbeats 8000000 in
theorem rtext_any (s : List UInt8) (av : Value) (at_ n : Int) (w : World) (hl : (s.length : Int) ≤ 20000) (hav : ∃ a n c, av = .slice a n c) :
    Calls Try.prog 17 #[.agg #[.string (S s), av], .int .i64 at_, .int .i64 n] w fun e w' => e = .returned (.string (S (partL s at_ n))) ∧ Ext w w' := by
  obtain ⟨aa, an, ac, rfl⟩ := hav
  rw [← partTo_all]
  have B3 := Lib.hid (Blk.new w 33 #[.string (S s), .slice aa an ac])
  have X0 := Lib.hid ((Ext.refl w).alloc (.cells #[.string (S s), .slice aa an ac] 33))
  go_enter Try.func17, Try.ntmps17
  go_wp2
  generalize w.alloc (.cells #[.string (S s), .slice aa an ac] 33) = W0 at *
  go_loopw [7, 8] (fun v i wr => ∃ k : Nat, k ≤ s.length ∧ i = .int .i64 (k : Int) ∧ v = .string (S (partTo s at_.toNat n.toNat k)) ∧ Ext w wr ∧ Blk wr w.heap.size 33 #[.string (S s), .slice aa an ac]) (fun _ i _ => s.length - (intOf i).toNat)
  case atStart => exact ⟨0, Nat.zero_le _, rfl, by simp [partTo]; rfl, X0.out, B3.out⟩
  case round =>
    obtain ⟨k, hk, rfl, rfl, hx, hb3⟩ := hrel
    clear B3 X0
    have c0 := hb3.cell 0
    simp only [List.getElem?_toArray, List.getElem?_cons_zero, List.getElem?_cons_succ] at c0
    have HX := Lib.hid hx
    have HB3 := Lib.hid hb3
    by_cases hlt : k < s.length
    · have hki : (k : Int) < (s.length : Int) := by omega
      have hle := partTo_le s at_.toNat n.toNat k
      have h1t := one_take hlt
      have hs := partTo_step (a := at_.toNat) (m := n.toNat) hlt
      have HLT := Lib.hid hlt
      clear hx hb3 hlt hk
      generalize hp : partTo s at_.toNat n.toNat (k + 1) = p1 at *
      have HP := Lib.hid hp
      clear hp
      generalize partTo s at_.toNat n.toNat k = p0 at *
      rcases hs with ⟨e1, e2, rfl⟩ | ⟨e1, e2, rfl⟩ | ⟨e1, rfl⟩
      · have e3 : at_ ≤ (k : Int) := by omega
        have e4 : (p0.length : Int) < n := by omega
        have hcat := run_cat (P := Try.prog) p0 [s.getD k 0] (by simp only [List.length_singleton]; omega)
        rw [← h1t] at hcat
        have H1T := Lib.hid h1t
        clear e1 e2 h1t
        go_wp2
        refine ⟨⟨k + 1, by have := HLT.out; omega, by go_num, by rw [H1T.out, HP.out], HX.out, HB3.out⟩, ?_⟩
        simp [intOf]; have := HLT.out; omega
      · have e3 : at_ ≤ (k : Int) := by omega
        have e4 : ¬ (p1.length : Int) < n := by omega
        clear e1 e2 h1t
        go_wp2
        go_roundw
        case rel => exact ⟨k + 1, by have := HLT.out; omega, by go_num, by rw [HP.out], HX.out, HB3.out⟩
        case measure => simp [intOf]; have := HLT.out; omega
      · have e3 : ¬ at_ ≤ (k : Int) := by omega
        clear e1 h1t
        go_wp2
        go_roundw
        case rel => exact ⟨k + 1, by have := HLT.out; omega, by go_num, by rw [HP.out], HX.out, HB3.out⟩
        case measure => simp [intOf]; have := HLT.out; omega
    · obtain rfl : k = s.length := by omega
      have hki : ¬ (s.length : Int) < (s.length : Int) := by omega
      go_wp2
      go_ret
      exact ⟨rfl, HX.out⟩
end Go.Proofs.Ytlhjbfckcfeikaa
