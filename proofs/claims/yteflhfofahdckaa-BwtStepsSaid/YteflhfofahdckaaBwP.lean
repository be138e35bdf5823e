/- bwt: the walk of BwtSteps. -/
import Derived.Test.YteflhfofahdckaaBwO
namespace Go.Proofs.Yteflhfofahdckaa
set_option linter.unusedVariables false
set_option linter.unusedSimpArgs false
open Go.RowKit
attribute [local go_sem] S_size S_toList S_append S_extract S_beq S_bne S_empty S_nil u8_beq U8_fold U8_toNat z256_run z256_ne

/-- the last step of the rows with a byte, or nought -/
def topN (l : List UInt8) (q : Nat) : Nat → Nat → Nat
  | 0, _ => 0
  | row + 1, b => if row ≠ q ∧ (byteAt l q row).toNat = b then lfN l q row else topN l q row b
def topL (l : List UInt8) (q row : Nat) : List Nat := (List.range 256).map (topN l q row)
theorem topL_zero (l : List UInt8) (q : Nat) : topL l q 0 = List.replicate 256 0 := by
  unfold topL
  rw [List.eq_replicate_iff]
  refine ⟨by simp, fun b hb => ?_⟩
  obtain ⟨j, _, rfl⟩ := List.mem_map.1 hb
  rfl
theorem topL_q (l : List UInt8) (q : Nat) : topL l q (q + 1) = topL l q q := mr_congr fun i _ => if_neg fun h => h.1 rfl
theorem topL_step {l : List UInt8} {q row : Nat} (h : row ≠ q) : (topL l q row).set (byteAt l q row).toNat (lfN l q row) = topL l q (row + 1) := by
  unfold topL
  rw [mr_set]
  refine mr_congr fun i hi => ?_
  by_cases e : i = (byteAt l q row).toNat
  · rw [if_pos e]
    show _ = if _ then _ else _
    rw [if_pos ⟨h, e.symm⟩]
  · rw [if_neg e]
    show _ = if _ then _ else _
    rw [if_neg (fun hc => e hc.2.symm)]
theorem topL_length (l : List UInt8) (q row : Nat) : (topL l q row).length = 256 := by simp [topL]
theorem topL_get (l : List UInt8) (q row b : Nat) (hb : b < 256) : (topL l q row).getD b 0 = topN l q row b := mr_getD _ _ _ hb
theorem top_some {l : List UInt8} {q b : Nat} : ∀ row, topN l q row b = 0 ∨ ∃ r, r < row ∧ r ≠ q ∧ (byteAt l q r).toNat = b ∧ topN l q row b = lfN l q r
  | 0 => .inl rfl
  | row + 1 => by
    have ih := top_some (l := l) (q := q) (b := b) row
    by_cases h : row ≠ q ∧ (byteAt l q row).toNat = b
    · exact .inr ⟨row, by omega, h.1, h.2, if_pos h⟩
    · have e : topN l q (row + 1) b = topN l q row b := if_neg h
      rw [e]
      rcases ih with ih | ⟨r, h1, h2, h3, h4⟩
      · exact .inl ih
      · exact .inr ⟨r, by omega, h2, h3, h4⟩
theorem top_less {l : List UInt8} {q row : Nat} (hne : row ≠ q) (hr : row < l.length + 1) (hq : q < l.length + 1) : topN l q row (byteAt l q row).toNat < lfN l q row := by
  have hp := lf_pos hr hq hne
  rcases top_some (l := l) (q := q) (b := (byteAt l q row).toNat) row with h | ⟨r, h1, h2, h3, h4⟩
  · omega
  · rw [h4]
    refine (lf_lt (by omega) hr).2 (.inr ⟨?_, h1⟩)
    rw [key_ne h2, key_ne hne, h3]
/-- who has been stepped to -/
def SeenR (l : List UInt8) (q : Nat) (t : List Bool) (row : Nat) : Prop := t.length = l.length + 1 ∧ ∀ v, v < l.length + 1 → (t.getD v false = true ↔ ∃ r, r < row ∧ r ≠ q ∧ lfN l q r = v)
theorem SeenR.start {l : List UInt8} {q : Nat} : SeenR l q (List.replicate (l.length + 1) false) 0 := by
  refine ⟨by simp, fun v hv => ?_⟩
  rw [List.getD_eq_getElem?_getD, List.getElem?_replicate, if_pos hv]
  constructor
  · intro h; cases h
  · rintro ⟨j, hj, _⟩; omega
theorem SeenR.skip {l : List UInt8} {q : Nat} {t : List Bool} (h : SeenR l q t q) : SeenR l q t (q + 1) := by
  refine ⟨h.1, fun v hv => ?_⟩
  rw [h.2 v hv]
  constructor
  · rintro ⟨r, h1, h2⟩; exact ⟨r, by omega, h2⟩
  · rintro ⟨r, h1, h2, h3⟩; exact ⟨r, by omega, h2, h3⟩
theorem SeenR.new {l : List UInt8} {q row : Nat} {t : List Bool} (h : SeenR l q t row) (hr : row < l.length + 1) : t.getD (lfN l q row) false = false := by
  refine Bool.eq_false_iff.2 fun hc => ?_
  obtain ⟨r, h1, h2, h3⟩ := (h.2 _ (lf_at hr).2).1 hc
  have := lf_inj (by omega) hr h3
  omega
theorem SeenR.step {l : List UInt8} {q row : Nat} {t : List Bool} (h : SeenR l q t row) (hr : row < l.length + 1) (hne : row ≠ q) : SeenR l q (t.set (lfN l q row) true) (row + 1) := by
  have hlt : lfN l q row < t.length := by rw [h.1]; exact (lf_at hr).2
  refine ⟨by rw [List.length_set, h.1], fun v hv => ?_⟩
  rw [getD_setB hlt]
  by_cases e : v = lfN l q row
  · rw [if_pos e]
    exact ⟨fun _ => ⟨row, by omega, hne, e.symm⟩, fun _ => rfl⟩
  · rw [if_neg e, h.2 v hv]
    constructor
    · rintro ⟨r, h1, h2⟩; exact ⟨r, by omega, h2⟩
    · rintro ⟨r, h1, h2, h3⟩
      rcases Nat.lt_or_ge r row with h4 | h4
      · exact ⟨r, h4, h2, h3⟩
      · have : r = row := by omega
        subst this
        exact absurd h3.symm e

set_option maxRecDepth 20000 in
set_option maxHeartbeats 4000000 in
theorem bwtSteps_no (l : List UInt8) (p : Int) (W : World) (h1 : ¬ (2000 : Int) < (l.length : Int)) (hm : mayP l p = false) :
    Calls Try.prog 7 #[.string (S l), .int .i64 p] W fun e w' => e = .returned (.bool true) ∧ Ext W w' := by
  have q1 := Lib.hid (fun w => steps_any l p w (by omega))
  rw [(stp_no hm).1, (stp_no hm).2] at q1
  clear hm
  go_enter Try.func7, Try.ntmps7
  go_wp2_with fail
  refine (q1.out _).mono ?_
  rintro _ w1 ⟨u, rfl, x1, r1⟩
  have X1 := Lib.hid x1
  obtain ⟨a1, c1, rfl, _, _, _⟩ := r1.shape
  rw [show (toI []).length = 0 from rfl]
  clear x1 r1
  go_wp2_with fail
  refine (awake13_any w1).mono ?_
  rintro _ w2 ⟨rfl, x2⟩
  go_wp2
  go_ret
  exact ⟨rfl, X1.out.trans x2⟩

set_option maxRecDepth 20000 in
set_option maxHeartbeats 8000000 in
theorem bwtSteps_yes (l : List UInt8) (q : Nat) (W : World) (h1 : ¬ (2000 : Int) < (l.length : Int)) (hm : mayP l (q : Int) = true) (hq : q ≤ l.length) :
    Calls Try.prog 7 #[.string (S l), .int .i64 (q : Int)] W fun e w' => e = .returned (.bool true) ∧ Ext W w' := by
  have q1 := Lib.hid (fun w => steps_any l q w (by omega))
  rw [(stp_yes hm).1, (stp_yes hm).2] at q1
  clear hm
  have hcl : (toI ((List.range (l.length + 1)).map (lfN l q))).length = l.length + 1 := by rw [toI_length]; simp
  have hbb : ((l.length : Int) + 1 != (l.length : Int) + 1) = false := by simp
  have WW := w64_small (n := (l.length : Int) + 1) (by omega) (by omega)
  go_enter Try.func7, Try.ntmps7
  go_wp2_with fail
  refine (q1.out _).mono ?_
  rintro _ w1 ⟨u, rfl, x1, r1⟩
  have X1 := Lib.hid x1
  obtain ⟨a1, c1, rfl, hlc, _, hsh⟩ := r1.shape
  rw [hcl] at hlc hsh ⊢
  obtain ⟨g, o, rfl, hcell⟩ := hsh (by omega)
  have HC := Lib.hid (fun k (hk : k < l.length + 1) => by
    have := hcell k hk
    rw [toI_getD, mr_getD _ _ _ hk] at this
    exact this)
  have hmk := (TN.make w1 (l.length + 1) (by omega)).1 ((l.length : Int) + 1) (by omega)
  have T0 := (TN.make w1 (l.length + 1) (by omega)).2
  have b0 : Blk ((w1.alloc (.cells (madeCells #[.bool false] (l.length + 1)) 4)).alloc (.cells zeros256 40)) (w1.heap.size + 1) 40 (numsV (topL l q 0)) := by
    have h := Blk.new (w1.alloc (.cells (madeCells #[.bool false] (l.length + 1)) 4)) 40 zeros256
    rw [World.size_alloc] at h
    rw [topL_zero]; exact h
  have B0 := Lib.hid b0
  have T0 := Lib.hid (T0.ext ((Ext.refl _).alloc (.cells zeros256 40)))
  have X0 := Lib.hid (((Ext.refl w1).alloc (.cells (madeCells #[.bool false] (l.length + 1)) 4)).alloc (.cells zeros256 40))
  have hcc : (l.length : Int) + 1 ≤ (c1 : Int) := by omega
  clear x1 r1 hsh hcell hcl b0 q1
  go_wp2
  clear hmk
  generalize ((w1.alloc (.cells (madeCells #[.bool false] (l.length + 1)) 4)).alloc (.cells zeros256 40)) = W0 at *
  go_loopw [9] (fun i wr => ∃ (k : Nat) (t : List Bool), k ≤ l.length + 1 ∧ i = .int .i64 (k : Int) ∧ TN wr w1.heap.size w1.heap.size (l.length + 1) t ∧ SeenR l q t k ∧ Blk wr (w1.heap.size + 1) 40 (numsV (topL l q k)) ∧ Ext w1 wr) (fun i _ => l.length + 1 - (intOf i).toNat)
  case atStart => exact ⟨0, _, by omega, rfl, T0.out, SeenR.start, B0.out, X0.out⟩
  case round =>
    obtain ⟨k, t, hk, rfl, ht, hse, hb, hx⟩ := hrel
    clear T0 B0 X0
    by_cases hlt : k < l.length + 1
    · have hki : (k : Int) < (l.length : Int) + 1 := by omega
      by_cases hkq : k = q
      · subst hkq
        have HT := Lib.hid ht
        have HS := Lib.hid hse.skip
        have HB := Lib.hid (show Blk wr (w1.heap.size + 1) 40 (numsV (topL l k (k + 1))) from by rw [topL_q]; exact hb)
        have HX := Lib.hid hx
        have hbe : ((k : Int) == (k : Int)) = true := by simp
        clear ht hse hb hx
        go_wp2
        go_roundw
        case rel => exact ⟨k + 1, _, by omega, by go_num, HT.out, HS.out, HB.out, HX.out⟩
        case measure => simp [intOf]; omega
      · have hbe : ((k : Int) == (q : Int)) = false := beq_eq_false_iff_ne.2 (by omega)
        have hp := lf_pos (l := l) hlt (by omega) hkq
        have hlf := (lf_at (l := l) (q := q) hlt).2
        have htl := top_less (l := l) hkq hlt (by omega)
        have hnew := hse.new hlt
        have HS := Lib.hid (hse.step hlt hkq)
        have HTP := topL_step (l := l) hkq
        have cs := Lib.hid (Go.cell_later hx (HC.out k hlt))
        have ct := ht.cell (lfN l q k) hlf
        rw [hnew] at ct
        have ft := ht.free (lfN l q k) hlf
        have cb := hb.cell (B8 (byteAt l q k))
        rw [numsV_get _ _ (by rw [topL_length]; exact B8_lt _), topL_get _ _ _ _ (B8_lt _)] at cb
        have hne2 : w1.heap.size ≠ w1.heap.size + 1 := by omega
        have HT2 := Lib.hid ((ht.set (lfN l q k) true).far (p := ⟨w1.heap.size + 1, B8 (byteAt l q k), none⟩) (fun e => hne2 e.symm) (.int .i64 (lfN l q k : Int)))
        have hb2 := hb.far (p := ⟨w1.heap.size, lfN l q k, none⟩) (fun e => hne2 e.symm) (.bool true)
        have cb2 := hb2.cell (B8 (byteAt l q k))
        rw [numsV_get _ _ (by rw [topL_length]; exact B8_lt _), topL_get _ _ _ _ (B8_lt _)] at cb2
        have cb2 := Lib.hid cb2
        have fb2 := Lib.hid (hb2.frozen (B8 (byteAt l q k)))
        have HB3 := hb2.set_ (B8 (byteAt l q k)) (.int .i64 (lfN l q k : Int))
        rw [numsV_set, show (topL l q k).set (B8 (byteAt l q k)) (lfN l q k) = topL l q (k + 1) from HTP] at HB3
        have HB3 := Lib.hid HB3
        have HX2 := Lib.hid (Ext.set (Ext.set hx (p := ⟨w1.heap.size, lfN l q k, none⟩) (Nat.le_refl _) (.bool true)) (p := ⟨w1.heap.size + 1, B8 (byteAt l q k), none⟩) (by simp) (.int .i64 (lfN l q k : Int)))
        rw [show (byteAt l q k).toNat = B8 (byteAt l q k) from rfl] at htl
        have hb8 := B8_lt (byteAt l q k)
        have hu0 := U8_nonneg (byteAt l q k)
        have hu1 := U8_lt (byteAt l q k)
        have HIX := Lib.hid (show ∃ i : Nat, i < l.length ∧ ((q < k ∧ k = i + 1) ∨ (¬ q < k ∧ k = i)) ∧ l.getD i 0 = byteAt l q k from by
          unfold byteAt
          by_cases h : q < k
          · rw [if_pos h]; exact ⟨k - 1, by omega, .inl ⟨h, by omega⟩, rfl⟩
          · rw [if_neg h]; exact ⟨k, by omega, .inr ⟨h, rfl⟩, rfl⟩)
        clear ht hse hb hx hnew HTP hb2
        generalize topN l q k (B8 (byteAt l q k)) = tp at *
        generalize lfN l q k = n at *
        generalize byteAt l q k = b at *
        have n1 : ¬ (n : Int) < 1 := by omega
        have n2 : ¬ (l.length : Int) + 1 ≤ (n : Int) := by omega
        have n3 : ¬ (n : Int) ≤ (tp : Int) := by omega
        have n4 : (n : Int) < (l.length : Int) + 1 := by omega
        obtain ⟨i, hil, hcase, hib⟩ := HIX.out
        have ib := index_S l i hil b hib
        have hii : (i : Int) < (l.length : Int) := by omega
        clear hib HIX hp hlf
        rcases hcase with ⟨hqk, rfl⟩ | ⟨hqk, rfl⟩
        · have k1 : (q : Int) < (i : Int) + 1 := by omega
          have e0 : IntKind.i64.wrap (i : Int) = (i : Int) := IntWalk.i64_in _ (by omega)
          rw [show ((i + 1 : Nat) : Int) = (i : Int) + 1 from rfl] at *
          have e3 : (0 : Int) ≤ (i : Int) + 1 := by omega
          have cs := cs.out
          have cb2 := cb2.out
          have fb2 := fb2.out
          go_wp2
          go_roundw
          case rel => exact ⟨i + 1 + 1, _, by omega, by go_num, HT2.out, HS.out, HB3.out, HX2.out⟩
          case measure => simp [intOf]; omega
        · have k1 : ¬ (q : Int) < (k : Int) := by omega
          have cs := cs.out
          have cb2 := cb2.out
          have fb2 := fb2.out
          go_wp2
          go_roundw
          case rel => exact ⟨k + 1, _, by omega, by go_num, HT2.out, HS.out, HB3.out, HX2.out⟩
          case measure => simp [intOf]; omega
    · have e : k = l.length + 1 := by omega
      subst e
      have HX := Lib.hid (X1.out.trans hx)
      have q := Lib.hid (awake13_any wr)
      have n9 : ¬ ((l.length + 1 : Nat) : Int) < (l.length : Int) + 1 := by omega
      clear hx ht hse hb
      go_wp2_with fail
      refine (q.out).mono ?_
      rintro _ w3 ⟨rfl, x3⟩
      go_wp2
      go_ret
      exact ⟨rfl, HX.out.trans x3⟩
set_option maxRecDepth 20000 in
set_option maxHeartbeats 4000000 in
theorem bwtSteps_law (b : ByteArray) (hs : b.size ≤ maxLen) (p : Int) (wp : (Lit.int .i64 p).wf = true) (W : World) :
    Calls Try.prog 7 #[.string b, .int .i64 p] W fun e w' => e = .returned (.bool true) ∧ Ext W w' := by
  obtain ⟨l, rfl, hss⟩ := S_ex b
  clear hs hss wp
  by_cases h1 : (2000 : Int) < (l.length : Int)
  · have q := Lib.hid (awake13_any W)
    go_enter Try.func7, Try.ntmps7
    go_wp2_with fail
    refine (q.out).mono ?_
    rintro _ w1 ⟨rfl, x1⟩
    go_wp2
    go_ret
    exact ⟨rfl, x1⟩
  cases hm : mayP l p with
  | false => exact bwtSteps_no l p W h1 hm
  | true =>
    obtain ⟨q, rfl, hq⟩ := may_some hm
    exact bwtSteps_yes l q W h1 hm hq
end Go.Proofs.Yteflhfofahdckaa
