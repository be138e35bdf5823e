/- pick: Drop. -/
import Derived.Test.YtfcfhaghamgdaaaPickE
namespace Go.Proofs.Ytfcfhaghamgdaaa
set_option linter.unusedVariables false
set_option linter.unusedSimpArgs false
open Go.RowKit

def lenE : Value → Nat
  | .slice _ n _ => n
  | _ => 0
/-- what Drop answers: how many, and an error -/
def dropI (blk tgt seg age keep byt old now : Int) (l : List E9) : Int := if confP blk tgt seg age keep byt old && rowP l then (dropL keep byt old now (l.take (l.length - 1)) : Int) else 0
def dropE (blk tgt seg age keep byt old : Int) (l : List E9) : Int := if confP blk tgt seg age keep byt old then errI (rowP l) 240 else 270

set_option maxRecDepth 20000 in
set_option maxHeartbeats 8000000 in
theorem wDrop_any (blk tgt seg age keep byt old now : Int) (l : List E9) (v : Value) (w : World) (hr : RR entC 9 w v l) :
    Calls Try.prog 7 #[.agg #[.int .i64 blk, .int .i64 tgt, .int .i64 seg, .int .i64 age, .int .i64 keep, .int .i64 byt, .int .i64 old], v, .int .i64 now] w fun e w' => e = .returned (.tuple #[.int .i64 (dropI blk tgt seg age keep byt old now l), .int .i64 (dropE blk tgt seg age keep byt old l)]) ∧ Ext w w' := by
  have qc := fun w => wconf_any blk tgt seg age keep byt old w
  have qr := fun w (h : RR entC 9 w v l) => eRow_any l v w h
  have HR := Lib.hid hr
  have b1 := (Blk.new w 23 #[.int .i64 blk, .int .i64 tgt, .int .i64 seg, .int .i64 age, .int .i64 keep, .int .i64 byt, .int .i64 old]).alloc (.cells #[.int .i64 now] 3)
  have b3 := Blk.new (w.alloc (.cells #[.int .i64 blk, .int .i64 tgt, .int .i64 seg, .int .i64 age, .int .i64 keep, .int .i64 byt, .int .i64 old] 23)) 3 #[.int .i64 now]
  rw [World.size_alloc] at b3
  have B1 := Lib.hid b1
  have B3 := Lib.hid b3
  have XA := Lib.hid (((Ext.refl w).alloc (.cells #[.int .i64 blk, .int .i64 tgt, .int .i64 seg, .int .i64 age, .int .i64 keep, .int .i64 byt, .int .i64 old] 23)).alloc (.cells #[.int .i64 now] 3))
  have HZ := Lib.hid conf_size
  unfold dropI dropE
  obtain ⟨a, c, rfl, hlc, _, _⟩ := hr
  clear b1 b3
  cases hb : confP blk tgt seg age keep byt old with
  | false =>
    rw [hb] at qc
    simp only [errC, Bool.false_eq_true, if_false] at qc
    have qc := Lib.hid qc
    clear hb
    simp only [Bool.false_and, Bool.false_eq_true, if_false]
    go_enter Try.func7, Try.ntmps7
    go_wp2_with (refine wpList_load_blk rfl 23 (.tmp 3) rfl rfl B1.out Try.underlying23 rfl HZ.out ?_)
    refine (qc.out _).mono ?_
    rintro _ w1 ⟨rfl, x1⟩
    go_wp2
    go_ret2
    exact ⟨rfl, XA.out.trans x1⟩
  | true =>
    have hseg := confP_seg hb
    rw [hb] at qc
    simp only [errC, if_true] at qc
    have qc := Lib.hid qc
    clear hb
    simp only [Bool.true_and, if_true]
    cases hrow : rowP l with
    | false =>
      rw [hrow] at qr
      simp only [errI, Bool.false_eq_true, if_false] at qr
      have qr := Lib.hid qr
      clear hrow
      simp only [errI, Bool.false_eq_true, if_false]
      go_enter Try.func7, Try.ntmps7
      go_wp2_with (refine wpList_load_blk rfl 23 (.tmp 3) rfl rfl B1.out Try.underlying23 rfl HZ.out ?_)
      refine (qc.out _).mono ?_
      rintro _ w1 ⟨rfl, x1⟩
      have X1 := Lib.hid (XA.out.trans x1)
      go_wp2_with fail
      refine (qr.out _ (HR.out.ext X1.out)).mono ?_
      rintro _ w2 ⟨rfl, x2⟩
      go_wp2
      go_ret2
      exact ⟨rfl, X1.out.trans x2⟩
    | true =>
      rw [hrow] at qr
      simp only [errI, if_true] at qr
      have qr := Lib.hid qr
      simp only [errI, if_true]
      obtain ⟨h1, h2, _, _⟩ := rowP_parts hrow
      obtain ⟨m, hm⟩ : ∃ m, l.length = m + 1 := ⟨l.length - 1, by omega⟩
      have HRI := row_rising hrow
      have HTA := rowP_tame hrow
      rw [hm] at HRI hlc
      rw [show m + 1 - 1 = m from rfl] at HRI
      have hml : (l.take m).length = m := by rw [List.length_take]; omega
      have hrr : RR entC 9 w (.slice a m c) (l.take m) := RR.take HR.out m (by omega)
      have htk := tame_take HTA m
      have hm1 : (m : Int) ≤ 1000 := by omega
      rw [hm, show m + 1 - 1 = m from rfl]
      rw [hm] at HR qr
      generalize hrl : l.take m = r at *
      have HRR := Lib.hid hrr
      have HRI := Lib.hid HRI
      have HTK := Lib.hid htk
      have HML := Lib.hid hml
      have qs := Lib.hid (fun w => sealed_any a m c w hlc hm1)
      have qb := Lib.hid (fun w (h : RR entC 9 w (.slice a m c) r) => bytes_any r _ w h htk (by rw [hml]; exact hm1))
      clear hrow h1 h2 hm HTA hml hrr htk hrl
      go_enter Try.func7, Try.ntmps7
      go_wp2_with (refine wpList_load_blk rfl 23 (.tmp 3) rfl rfl B1.out Try.underlying23 rfl HZ.out ?_)
      refine (qc.out _).mono ?_
      rintro _ w1 ⟨rfl, x1⟩
      have X1 := Lib.hid (XA.out.trans x1)
      have B1 := Lib.hid (B1.out.ext x1)
      have B3 := Lib.hid (B3.out.ext x1)
      clear x1
      go_wp2_with fail
      refine (qr.out _ (HR.out.ext X1.out)).mono ?_
      rintro _ w2 ⟨rfl, x2⟩
      have X2 := Lib.hid (X1.out.trans x2)
      have B1 := Lib.hid (B1.out.ext x2)
      have B3 := Lib.hid (B3.out.ext x2)
      clear x2 X1
      go_wp2_with fail
      refine (qs.out _).mono ?_
      rintro _ _ ⟨rfl, rfl⟩
      go_wp2_with fail
      refine (qb.out _ (HRR.out.ext X2.out)).mono ?_
      rintro _ w3 ⟨rfl, x3⟩
      have X3 := Lib.hid (X2.out.trans x3)
      have H2 := Lib.hid (show w.heap.size + 2 ≤ w3.heap.size by have := (B3.out.ext x3).lt; omega)
      have B1 := Lib.hid (B1.out.ext x3)
      have B3 := Lib.hid (B3.out.ext x3)
      clear x3 X2 qc qr qs qb
      have B2 := Lib.hid (Blk.new w3 3 #[.int .i64 (bytesL r)])
      have B1 := Lib.hid (B1.out.alloc (.cells #[.int .i64 (bytesL r)] 3))
      have B3 := Lib.hid (B3.out.alloc (.cells #[.int .i64 (bytesL r)] 3))
      have X4 := Lib.hid (X3.out.alloc (.cells #[.int .i64 (bytesL r)] 3))
      obtain ⟨g2, hg2⟩ : ∃ g2, g2 = w3.heap.size := ⟨_, rfl⟩
      have HG := Lib.hid (show w.heap.size + 2 ≤ g2 by rw [hg2]; exact H2.out)
      rw [← hg2] at B2
      go_wp2_with fail
      rw [← hg2]
      clear hg2
      go_loopw [10, 13] (fun v n wr => ∃ (rest : List E9) (k : Nat), n = .int .i64 (k : Int) ∧ rest = r.drop k ∧ k ≤ m ∧ RR entC 9 w v rest ∧ Blk wr w.heap.size 23 #[.int .i64 blk, .int .i64 tgt, .int .i64 seg, .int .i64 age, .int .i64 keep, .int .i64 byt, .int .i64 old] ∧ Blk wr g2 3 #[.int .i64 (bytesL rest)] ∧ Blk wr (w.heap.size + 1) 3 #[.int .i64 now] ∧ dropL keep byt old now r = k + dropL keep byt old now rest ∧ Ext w wr) (fun v _ _ => lenE v)
      case atStart => exact ⟨r, 0, rfl, rfl, Nat.zero_le _, HRR.out, B1.out, B2.out, B3.out, by rw [Nat.zero_add], X4.out⟩
      case round =>
        clear B1 B2 B3 X3 X4
        obtain ⟨rest, k, rfl, hrest, hkm, hrr, p1, p2, p3, hdl, hx⟩ := hrel
        have HX := Lib.hid hx
        have P1 := Lib.hid p1
        have P2 := Lib.hid p2
        have P3 := Lib.hid p3
        have HDL := Lib.hid hdl
        have HRS := Lib.hid hrest
        have hlr : rest.length = m - k := by rw [hrest, List.length_drop, HML.out]
        have hris : rising rest := by rw [hrest]; exact HRI.out k
        have htam : tame rest := by rw [hrest]; exact tame_drop HTK.out k
        have HRO := Lib.hid hrr
        obtain ⟨a', c', rfl, hrc, _, hs⟩ := hrr
        have HLR := Lib.hid hlr
        have hrb : (rest.length : Int) ≤ 1000 := by omega
        clear hdl hrest hx p1 p2 p3 hlr
        by_cases h0 : 0 < rest.length
        · have hI : (0 : Int) < (rest.length : Int) := by omega
          have qt := too_any blk tgt seg age keep byt old now (bytesL rest) _ _ _ rest _ wr (HRO.out.ext HX.out) h0 hrb P1.out P2.out P3.out (htam _ (by
            rw [List.getD_eq_getElem?_getD, List.getElem?_eq_getElem h0]; exact List.getElem_mem h0)).2.2
          have hne : rest ≠ [] := fun h => by rw [h] at h0; simp at h0
          cases htoo : tooP keep byt old now (bytesL rest) rest with
          | false =>
            have hres := Lib.hid (show dropL keep byt old now r = k by rw [HDL.out, dropL_stop htoo]; rfl)
            rw [htoo] at qt
            have qt := Lib.hid qt
            clear htoo hs hris htam hne
            go_wp2_with fail
            refine (qt.out).mono ?_
            rintro _ w5 ⟨rfl, x5⟩
            go_wp2
            go_ret2
            exact ⟨by rw [hres.out]; rfl, HX.out.trans x5⟩
          | true =>
            have hres := Lib.hid (show dropL keep byt old now r = (k + 1) + dropL keep byt old now (rest.drop 1) by rw [HDL.out, dropL_go hne htoo]; omega)
            rw [htoo] at qt
            have qt := Lib.hid qt
            obtain ⟨g, o, rfl, hcs⟩ := hs h0
            have R := hcs 0 _ (ent_at h0)
            have c8 : w.cell? ⟨g, o + 8, none⟩ = some (.int .i64 (rest.getD 0 default).bytes) := by have := R 8 _ rfl; rw [Nat.zero_mul] at this; exact this
            have hst := bytesL_step (l := rest) (k := 0) h0
            have hbe : bytesL rest = (rest.getD 0 default).bytes + bytesL (rest.drop 1) := by
              cases rest with
              | nil => exact absurd rfl hne
              | cons e t => rfl
            have hb1 := bytesL_le htam
            have hb2 := bytesL_le (tame_drop htam 1)
            rw [List.length_drop] at hb2
            have e1 : IntKind.i64.wrap (bytesL rest - (rest.getD 0 default).bytes) = bytesL (rest.drop 1) := by rw [IntKind.wrap_i64]; omega
            have hS : RR entC 9 w (.slice (if c' = 1 then some ⟨g, o, none⟩ else some ⟨g, o + 9, none⟩) (rest.length - 1) (c' - 1)) (rest.drop 1) := by
              refine RR.drop HRO.out 1 h0 _ (fun g' o' e hlt => ?_) (fun e => ?_)
              · injection e with e; injection e with e1 e2; subst e1; subst e2
                rw [if_neg (by omega), Nat.one_mul]
              · split at e <;> cases e
            have HS1 := Lib.hid hS
            have HC8 := Lib.hid c8
            clear htoo hs hris htam hne hcs R c8 hst hbe hb1 hb2 hS
            generalize (rest.getD 0 default).bytes = eb at *
            generalize hbr : bytesL rest = br at *
            generalize hbr1 : bytesL (rest.drop 1) = br1 at *
            have HBR1 := Lib.hid hbr1
            clear hbr hbr1
            go_wp2_with fail
            refine (qt.out).mono ?_
            rintro _ w5 ⟨rfl, x5⟩
            have X5 := Lib.hid (HX.out.trans x5)
            have P1 := Lib.hid (P1.out.ext x5)
            have P2 := Lib.hid (P2.out.ext x5)
            have P3 := Lib.hid (P3.out.ext x5)
            have kl := up_cell (W := w5.drew) (P2.out.cell 0)
            have k8 := up_cell (W := w5.drew) (show w5.cell? ⟨g, o + 8, none⟩ = some (.int .i64 eb) from Go.cell_later X5.out HC8.out)
            have kf := fun x : Up w5.drew => show x.val.frozen? ⟨g2, 0, none⟩ = false from ((P2.out.drew.ext x.ext).frozen 0)
            clear x5 qt
            go_wp2_with fail
            refine wp_region_lex _ rfl (by kernel_rfl) ?_
            dsimp only [List.length_cons, List.length_nil]
            repeat (first
              | (refine lex_want (by kernel_rfl) (by kernel_rfl) (by kernel_rfl) (by kernel_rfl) (fun _ _ _ _ h => h) (by kernel_rfl) (fun K hK => ?_)
                 go_simp
                 (refine hK _ ?_; clear hK K)))
            refine lex_last (by kernel_rfl) (by kernel_rfl) (by kernel_rfl) (by kernel_rfl) (by kernel_rfl) (fun x K hK => ?_)
            have q1 := kl x
            have q2 := kf x
            go_simp
            refine hK _ _ (fun y => ?_)
            have y2 := Lib.hid (((P2.out.drew.ext x.ext).set_ 0 (.int .i64 br1)).ext y.ext)
            have y1 := Lib.hid (((P1.out.drew.ext x.ext).far (p := ⟨g2, 0, none⟩) (by show w.heap.size ≠ g2; have := HG.out; omega) (.int .i64 br1)).ext y.ext)
            have y3 := Lib.hid (((P3.out.drew.ext x.ext).far (p := ⟨g2, 0, none⟩) (by show w.heap.size + 1 ≠ g2; have := HG.out; omega) (.int .i64 br1)).ext y.ext)
            have yx := Lib.hid ((Ext.set (X5.out.drew.trans x.ext) (p := ⟨g2, 0, none⟩) (by show w.heap.size ≤ g2; have := HG.out; omega) (.int .i64 br1)).trans y.ext)
            clear hK q1 q2 kl k8 kf
            go_wp2
            go_roundw
            case rel => exact ⟨rest.drop 1, k + 1, by go_num, by rw [HRS.out, List.drop_drop], by have := HLR.out; omega, HS1.out, y1.out, by rw [HBR1.out]; exact y2.out, y3.out, hres.out, yx.out⟩
            case measure => simp [lenE]; omega
        · have hI : ¬ (0 : Int) < (rest.length : Int) := by omega
          obtain rfl : rest = [] := List.eq_nil_of_length_eq_zero (by omega)
          clear HLR
          have hres := Lib.hid (show dropL keep byt old now r = k by rw [HDL.out]; rfl)
          clear hs hris htam
          go_wp2
          go_ret2
          exact ⟨by rw [hres.out]; rfl, HX.out⟩
end Go.Proofs.Ytfcfhaghamgdaaa
