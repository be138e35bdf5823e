/- kmp: each, with All's function; All, Has. -/
import Derived.Test.YtojebaplpfebdaaKmpF
namespace Go.Proofs.Ytojebaplpfebdaa
set_option linter.unusedVariables false
set_option linter.unusedSimpArgs false
open Go.RowKit
attribute [local go_sem] S_size S_toList S_append S_extract S_beq S_bne S_empty S_nil u8_beq

/-- what All's variable holds: a slice of the call's own -/
def Gathered (w w1 wr : World) (B g : Nat) (l : List Int) : Prop :=
  ∃ v, Blk wr g 26 #[v] ∧ IW wr B v l ∧ (∀ j, j < B → j ≠ g → wr.heap[j]? = w1.heap[j]?) ∧ (∀ B', B' ≤ g → Below B' w wr) ∧ B ≤ wr.heap.size
theorem Gathered.add {w w1 wr : World} {B g : Nat} {l : List Int} (hg : g < B) (hl : l.length ≤ 1000000000) (h : Gathered w w1 wr B g l) (i : Int) :
    Calls Try.prog 23 #[.int .i64 i, .pointer (some ⟨g, 0, none⟩)] wr fun e w' => e = .returned (.bool true) ∧ Gathered w w1 w' B g (l ++ [i]) := by
  obtain ⟨v, h1, h2, h3, h4, h5⟩ := h
  refine (all1_any i g B v l wr h1 h2 h5 hg hl).mono ?_
  rintro e w' ⟨rfl, v', p1, p2, p3, p4, p5⟩
  exact ⟨rfl, v', p1, p2, fun j hj hne => (p4 j hj hne).trans (h3 j hj hne), fun B' hB' => Below.trans (h4 B' hB') (p3 B' hB'), by omega⟩
theorem Gathered.cell {w w1 wr : World} {B g : Nat} {l : List Int} (h : Gathered w w1 wr B g l) {a : Addr} (ha : a.block < B) (hne : a.block ≠ g) : wr.cell? a = w1.cell? a := by
  obtain ⟨v, h1, h2, h3, h4, h5⟩ := h
  exact World.cell?_of_block (h3 _ ha hne)

set_option maxRecDepth 20000 in
set_option maxHeartbeats 4000000 in
theorem eachAll_any (s what : List UInt8) (g : Nat) (w : World) (hs : (s.length : Int) ≤ 100000000) (hw : (what.length : Int) ≤ 100000000) (h1 : Blk w g 26 #[.slice none 0 0]) :
    Calls Try.prog 20 #[.string (S s), .string (S what), .int .i64 0, .func (Fn.func 23) #[] #[.pointer (some ⟨g, 0, none⟩)]] w
      fun e w' => e = .returned (.tuple #[]) ∧ ∃ v, Blk w' g 26 #[v] ∧ IW w' w.heap.size v (placesL s what) ∧ (∀ B', B' ≤ g → Below B' w w') := by
  have q := Lib.hid (fail_any what w (by omega))
  have hlt := h1.lt
  have HL := Lib.hid hlt
  have hb1 := Lib.hid h1
  clear h1 hlt
  by_cases hw0 : what = []
  · have hwb : (what == []) = true := by simpa using hw0
    have hp1 : placesTo s what (0 + 1 - what.length) = [] ++ [0] := by
      subst hw0
      rw [show 0 + 1 - ([] : List UInt8).length = 0 + 1 from rfl, placesTo_hit (atL_empty s 0 (Nat.zero_le _))]; rfl
    have HP1 := Lib.hid hp1
    clear hp1 hw0
    go_enter Try.func20, Try.ntmps20
    go_wp2_with fail
    refine q.out.mono ?_
    rintro e w1 ⟨v, rfl, hx, hiw⟩
    obtain ⟨B, hB⟩ : ∃ B, B = w1.heap.size := ⟨_, rfl⟩
    have G0 : Gathered w w1 w1 B g [] := ⟨_, hb1.out.ext hx, IW.nil _ _, fun _ _ _ => rfl, fun B' hB' => Below.mono hx (by have := HL.out; omega), by omega⟩
    have hgB : g < B := by have := HL.out; have := hx.le; omega
    have hwB := Lib.hid (show w.heap.size ≤ B by have := hx.le; omega)
    have hGB := Lib.hid hgB
    obtain ⟨a, c, rfl, _, hsh⟩ := hiw.shape
    rw [failsL_length] at hsh ⊢
    have hstep := Lib.hid (fun (wr : World) (l : List Int) (G : Gathered w w1 wr B g l) (st : Nat) (b : UInt8) (hst : st ≤ what.length) => step_any what what.length a c st b wr hst (by omega) (fun h0 => by
      obtain ⟨gf, ha, hg1, hg2, hcl, _⟩ := hsh (by omega)
      exact ⟨gf, ha, fun i hi => by rw [G.cell (by show gf < B; omega) (by show gf ≠ g; have := HL.out; omega), hcl i (by omega), failsL_get what i (by omega)]⟩) hst)
    have q2 := Lib.hid (G0.add hgB (by simp) 0)
    clear hx hiw G0 hsh hB q hgB
    go_wp2_with fail
    refine q2.out.mono ?_
    rintro e w2 ⟨rfl, G1⟩
    have GI := Lib.hid (show Gathered w w1 w2 B g (placesTo s what (0 + 1 - what.length)) by rw [HP1.out]; exact G1)
    clear G1 q2
    go_wp2
    go_loopw [9, 10] (fun st i wr => ∃ k : Nat, i = .int .i64 k ∧ k ≤ s.length ∧ st = .int .i64 (ov what (s.take k)) ∧ Gathered w w1 wr B g (placesTo s what (k + 1 - what.length))) (fun _ i _ => s.length - (intOf i).toNat)
    case atStart => exact ⟨0, rfl, Nat.zero_le _, rfl, GI.out⟩
    case round =>
      obtain ⟨k, rfl, hks, rfl, G⟩ := hrel
      have HG := Lib.hid G
      clear G
      by_cases hlt : k < s.length
      · have hidx := index_S s k hlt _ rfl
        have hst := ov_le what (s.take k)
        have hnext := each_step s what 0 k (Nat.zero_le _) hlt
        rw [List.drop_zero, List.drop_zero] at hnext
        have q3 := hstep.out _ _ HG.out _ (s.getD k 0) hst
        rw [hnext] at q3
        have HH := Lib.hid (places_hit s what k hlt)
        have HM := Lib.hid (places_miss s what k hlt)
        have Q3 := Lib.hid q3
        clear q3 hnext
        generalize hst' : ov what (s.take k) = st at *
        generalize hst2 : ov what (s.take (k + 1)) = st2 at *
        generalize s.getD k 0 = b at *
        clear hst'
        have hk2 : (k : Int) < (s.length : Int) := by omega
        by_cases hfull : st2 = what.length
        · obtain ⟨u1, u2⟩ := HH.out hfull
          obtain ⟨p, hp⟩ : ∃ p, p = k + 1 - what.length := ⟨_, rfl⟩
          have q4 := Lib.hid (HG.out.add hGB.out (by have := placesTo_length s what (k + 1 - what.length); omega) (p : Int))
          have hp2 : (k : Int) + 1 - (what.length : Int) = (p : Int) := by omega
          rw [← hp] at u2
          have HU := Lib.hid u2
          have HS2 := Lib.hid hst2
          have HP := Lib.hid hp
          subst hfull
          clear hp u1 u2 hst2 hst HH HM
          go_wp2_with fail
          refine Q3.out.mono ?_
          rintro e w2 ⟨rfl, rfl⟩
          go_wp2_with fail
          refine q4.out.mono ?_
          rintro e w2 ⟨rfl, G2⟩
          have HG2 := Lib.hid G2
          clear G2
          go_wp2
          go_roundw
          case rel => exact ⟨k + 1, by go_num, by omega, by rw [HS2.out], by rw [show k + 1 + 1 - what.length = k + 2 - what.length from rfl, HU.out, HP.out]; have := HG2.out; rw [HP.out] at this; exact this⟩
          case measure => simp [intOf]; omega
        · have hm := Lib.hid (HM.out hfull)
          have HS2 := Lib.hid hst2
          clear hst2 HH HM hst
          go_wp2_with fail
          refine Q3.out.mono ?_
          rintro e w2 ⟨rfl, rfl⟩
          go_wp2
          go_roundw
          case rel => exact ⟨k + 1, by go_num, by omega, by rw [HS2.out], by rw [show k + 1 + 1 - what.length = k + 2 - what.length from rfl, hm.out]; exact HG.out⟩
          case measure => simp [intOf]; omega
      · obtain rfl : k = s.length := by omega
        have HE := Lib.hid (show placesTo s what (s.length + 1 - what.length) = placesL s what by
          rcases Nat.eq_zero_or_pos what.length with h0 | h0
          · rw [h0]; rfl
          · exact (placesTo_late s what h0 (s.length + 1) (by omega)).symm)
        clear hks
        go_wp2
        obtain ⟨v, p1, p2, p3, p4, p5⟩ := HG.out
        rw [HE.out] at p2
        exact bodyPost_end (v := .tuple #[]) (by simp [results, Try.results20, go_sem]) rfl ⟨rfl, v, p1, p2.mono hwB.out, p4⟩
  · have hwb : (what == []) = false := by simpa using hw0
    have hp1 : placesTo s what (0 + 1 - what.length) = [] := by
      have := List.length_pos_iff.2 hw0
      rw [show 0 + 1 - what.length = 0 by omega]; rfl
    have HP1 := Lib.hid hp1
    clear hp1 hw0
    go_enter Try.func20, Try.ntmps20
    go_wp2_with fail
    refine q.out.mono ?_
    rintro e w1 ⟨v, rfl, hx, hiw⟩
    obtain ⟨B, hB⟩ : ∃ B, B = w1.heap.size := ⟨_, rfl⟩
    have G0 : Gathered w w1 w1 B g [] := ⟨_, hb1.out.ext hx, IW.nil _ _, fun _ _ _ => rfl, fun B' hB' => Below.mono hx (by have := HL.out; omega), by omega⟩
    have hgB : g < B := by have := HL.out; have := hx.le; omega
    have hwB := Lib.hid (show w.heap.size ≤ B by have := hx.le; omega)
    have hGB := Lib.hid hgB
    obtain ⟨a, c, rfl, _, hsh⟩ := hiw.shape
    rw [failsL_length] at hsh ⊢
    have hstep := Lib.hid (fun (wr : World) (l : List Int) (G : Gathered w w1 wr B g l) (st : Nat) (b : UInt8) (hst : st ≤ what.length) => step_any what what.length a c st b wr hst (by omega) (fun h0 => by
      obtain ⟨gf, ha, hg1, hg2, hcl, _⟩ := hsh (by omega)
      exact ⟨gf, ha, fun i hi => by rw [G.cell (by show gf < B; omega) (by show gf ≠ g; have := HL.out; omega), hcl i (by omega), failsL_get what i (by omega)]⟩) hst)
    have GI := Lib.hid (show Gathered w w1 w1 B g (placesTo s what (0 + 1 - what.length)) by rw [HP1.out]; exact G0)
    clear hx hiw G0 hsh hB q hgB
    go_wp2
    go_loopw [9, 10] (fun st i wr => ∃ k : Nat, i = .int .i64 k ∧ k ≤ s.length ∧ st = .int .i64 (ov what (s.take k)) ∧ Gathered w w1 wr B g (placesTo s what (k + 1 - what.length))) (fun _ i _ => s.length - (intOf i).toNat)
    case atStart => exact ⟨0, rfl, Nat.zero_le _, rfl, GI.out⟩
    case round =>
      obtain ⟨k, rfl, hks, rfl, G⟩ := hrel
      have HG := Lib.hid G
      clear G
      by_cases hlt : k < s.length
      · have hidx := index_S s k hlt _ rfl
        have hst := ov_le what (s.take k)
        have hnext := each_step s what 0 k (Nat.zero_le _) hlt
        rw [List.drop_zero, List.drop_zero] at hnext
        have q3 := hstep.out _ _ HG.out _ (s.getD k 0) hst
        rw [hnext] at q3
        have HH := Lib.hid (places_hit s what k hlt)
        have HM := Lib.hid (places_miss s what k hlt)
        have Q3 := Lib.hid q3
        clear q3 hnext
        generalize hst' : ov what (s.take k) = st at *
        generalize hst2 : ov what (s.take (k + 1)) = st2 at *
        generalize s.getD k 0 = b at *
        clear hst'
        have hk2 : (k : Int) < (s.length : Int) := by omega
        by_cases hfull : st2 = what.length
        · obtain ⟨u1, u2⟩ := HH.out hfull
          obtain ⟨p, hp⟩ : ∃ p, p = k + 1 - what.length := ⟨_, rfl⟩
          have q4 := Lib.hid (HG.out.add hGB.out (by have := placesTo_length s what (k + 1 - what.length); omega) (p : Int))
          have hp2 : (k : Int) + 1 - (what.length : Int) = (p : Int) := by omega
          rw [← hp] at u2
          have HU := Lib.hid u2
          have HS2 := Lib.hid hst2
          have HP := Lib.hid hp
          subst hfull
          clear hp u1 u2 hst2 hst HH HM
          go_wp2_with fail
          refine Q3.out.mono ?_
          rintro e w2 ⟨rfl, rfl⟩
          go_wp2_with fail
          refine q4.out.mono ?_
          rintro e w2 ⟨rfl, G2⟩
          have HG2 := Lib.hid G2
          clear G2
          go_wp2
          go_roundw
          case rel => exact ⟨k + 1, by go_num, by omega, by rw [HS2.out], by rw [show k + 1 + 1 - what.length = k + 2 - what.length from rfl, HU.out, HP.out]; have := HG2.out; rw [HP.out] at this; exact this⟩
          case measure => simp [intOf]; omega
        · have hm := Lib.hid (HM.out hfull)
          have HS2 := Lib.hid hst2
          clear hst2 HH HM hst
          go_wp2_with fail
          refine Q3.out.mono ?_
          rintro e w2 ⟨rfl, rfl⟩
          go_wp2
          go_roundw
          case rel => exact ⟨k + 1, by go_num, by omega, by rw [HS2.out], by rw [show k + 1 + 1 - what.length = k + 2 - what.length from rfl, hm.out]; exact HG.out⟩
          case measure => simp [intOf]; omega
      · obtain rfl : k = s.length := by omega
        have HE := Lib.hid (show placesTo s what (s.length + 1 - what.length) = placesL s what by
          rcases Nat.eq_zero_or_pos what.length with h0 | h0
          · rw [h0]; rfl
          · exact (placesTo_late s what h0 (s.length + 1) (by omega)).symm)
        clear hks
        go_wp2
        obtain ⟨v, p1, p2, p3, p4, p5⟩ := HG.out
        rw [HE.out] at p2
        exact bodyPost_end (v := .tuple #[]) (by simp [results, Try.results20, go_sem]) rfl ⟨rfl, v, p1, p2.mono hwB.out, p4⟩

set_option maxRecDepth 20000 in
set_option maxHeartbeats 2000000 in
theorem kall_any (s what : List UInt8) (w : World) (hs : (s.length : Int) ≤ 100000000) (hw : (what.length : Int) ≤ 100000000) :
    Calls Try.prog 12 #[.string (S s), .string (S what)] w fun e w' => ∃ v, e = .returned v ∧ Ext w w' ∧ IW w' w.heap.size v (placesL s what) := by
  have q := Lib.hid (eachAll_any s what w.heap.size _ hs hw (Blk.new w 26 #[.slice none 0 0]))
  go_enter Try.func12, Try.ntmps12
  go_wp2_with fail
  refine q.out.mono ?_
  rintro e w1 ⟨rfl, v, h1, h2, h3⟩
  have c0 := h1.cell 0
  have H2 := Lib.hid h2
  have HX := Lib.hid (Below.trans ((Ext.refl w).alloc _) (h3 w.heap.size (Nat.le_refl _)))
  obtain ⟨a, c, rfl, _, _⟩ := H2.out.shape
  clear h1 h2 h3
  go_wp2
  go_ret
  exact ⟨_, rfl, HX.out, H2.out.mono (by simp)⟩

theorem khas_any (s what : List UInt8) (w : World) (hs : (s.length : Int) ≤ 100000000) (hw : (what.length : Int) ≤ 100000000) :
    Calls Try.prog 14 #[.string (S s), .string (S what)] w fun e w' => e = .returned (.bool (findL s what 0).isSome) ∧ Ext w w' := by
  have q := kfind_any s what 0 w hs hw (by omega)
  rw [show (max (0 : Int) 0).toNat = 0 from rfl] at q
  cases hf : findL s what 0 with
  | none =>
    rw [hf] at q
    have q := Lib.hid q
    go_enter Try.func14, Try.ntmps14
    go_wp2_with fail
    refine q.out.mono ?_
    rintro e w' ⟨rfl, hx⟩
    simp only [placeV]
    go_wp2
    go_ret
    exact ⟨rfl, hx⟩
  | some p =>
    rw [hf] at q
    have q := Lib.hid q
    go_enter Try.func14, Try.ntmps14
    go_wp2_with fail
    refine q.out.mono ?_
    rintro e w' ⟨rfl, hx⟩
    simp only [placeV]
    go_wp2
    go_ret
    exact ⟨rfl, hx⟩
end Go.Proofs.Ytojebaplpfebdaa
