/- entry.Drop; slices of entries. -/
import Derived.Test.YtplbebcckffgeaaEntD
import Derived.Test.YtplbebcckffgeaaApp3G
namespace Go.Proofs.Ytplbebcckffgeaa
set_option linter.unusedVariables false
set_option linter.unusedSimpArgs false
open Go.RowKit

theorem ent_info : (Try.prog.info? 26).map (fun i => (i.zero, i.size, i.bytes)) = some (some (.agg #[.int .i64 0, .int .i64 0, .int .i64 0, .bool false, .int .i64 0, .int .i64 0, .int .i64 0, .int .i64 0, .int .i64 0]), 9, 72) := by kernel_rfl
theorem run_bs0e (w : World) : (Instr.buildSlice 22 0 #[]).run Try.prog w = .ok (.slice (some ⟨w.heap.size, 0, none⟩) 0 0) (w.alloc (.cells #[] 26)) := by kernel_rfl
theorem run_bs1e (id gen fst : Int) (s : Bool) (cnt blk early late bytes : Int) (w : World) : (Instr.buildSlice 22 1 #[(0, .agg #[.int .i64 id, .int .i64 gen, .int .i64 fst, .bool s, .int .i64 cnt, .int .i64 blk, .int .i64 early, .int .i64 late, .int .i64 bytes])]).run Try.prog w = .ok (.slice (some ⟨w.heap.size, 0, none⟩) 1 1) (w.alloc (.cells (entC ⟨id, gen, fst, s, cnt, blk, early, late, bytes⟩).toArray 26)) := by kernel_rfl
/-- slices of entries that the call has made -/
abbrev EW (w : World) (B : Nat) (v : Value) (l : List E9) : Prop := WR entC 9 w B 26 v l
theorem EW.app {w : World} {B : Nat} {v : Value} {l : List E9} (h : EW w B v l) (hB : B ≤ w.heap.size) (x : E9) (hl : l.length ≤ 1000000) :
    ∃ v' w', (Builtin.append_ #[22, 22] 22 #[v, .slice (some ⟨w.heap.size, 0, none⟩) 1 1]).run Try.prog (w.alloc (.cells (entC x).toArray 26)) = .ok v' w' ∧ EW w' B v' (l ++ [x]) ∧ Below B w w' ∧ (∀ k, k < w.heap.size → some k ≠ v.ownBlock → w'.heap[k]? = w.heap[k]?) :=
  WR.app entC_length (by omega) entC_one h hB (P := Try.prog) (t := 22) Try.underlying22 ent_info rfl x (by omega) (by unfold maxLen; omega)

theorem rowP_len {l : List E9} (h : rowP l = true) : 1 ≤ (l.length : Int) ∧ (l.length : Int) ≤ 100 := by
  unfold rowP at h
  simp only [Bool.and_eq_true, decide_eq_true_eq] at h
  exact h.1
/-- what entry.Drop answers -/
def eDropE (l : List E9) (n : Int) : Int := if rowP l then (if 0 ≤ n ∧ n ≤ (l.length : Int) - 1 then 0 else 2) else 240
def eDropL (l : List E9) (n : Int) : List E9 := if eDropE l n = 0 then l.drop n.toNat else []

set_option maxRecDepth 20000 in
set_option maxHeartbeats 4000000 in
theorem eDrop_any (l : List E9) (n : Int) (v : Value) (w : World) (hr : RR entC 9 w v l) (hl : (l.length : Int) ≤ 1000000) :
    Calls Try.prog 11 #[v, .int .i64 n] w fun e w' => ∃ v', e = .returned (.tuple #[v', .int .i64 (eDropE l n)]) ∧ Ext w w' ∧ EW w' w.heap.size v' (eDropL l n) := by
  have q := eRow_any l v w hr
  have HR := Lib.hid hr
  obtain ⟨a, c, rfl, hlc, _, hs⟩ := hr
  unfold eDropL eDropE
  cases hrow : rowP l with
  | false =>
    rw [hrow] at q
    have q := Lib.hid q
    clear hrow hs
    simp only [Bool.false_eq_true, if_false]
    go_enter Try.func11, Try.ntmps11
    go_wp2_with fail
    refine (q.out).mono ?_
    rintro _ w1 ⟨rfl, x1⟩
    simp only [errI, Bool.false_eq_true, if_false]
    go_wp2
    go_ret2
    exact ⟨_, rfl, x1, WR.nil _ _ _⟩
  | true =>
    rw [hrow] at q
    have q := Lib.hid q
    simp only [if_true]
    obtain ⟨h1, h2⟩ := rowP_len hrow
    clear hrow
    obtain ⟨m, hm⟩ : ∃ m, l.length = m + 1 := ⟨l.length - 1, by omega⟩
    have hw : IntKind.i64.wrap ((l.length : Int) - 1) = (m : Int) := by rw [IntKind.wrap_i64]; omega
    rw [show ((l.length : Int) - 1) = (m : Int) by omega]
    by_cases n0 : n < 0
    · rw [if_neg (by omega)]
      simp only [Int.reduceEq, if_false]
      clear hs hm
      go_enter Try.func11, Try.ntmps11
      go_wp2_with fail
      refine (q.out).mono ?_
      rintro _ w1 ⟨rfl, x1⟩
      simp only [errI, if_true]
      go_wp2
      go_ret2
      exact ⟨_, rfl, x1, WR.nil _ _ _⟩
    · by_cases n1 : n ≤ (m : Int)
      · rw [if_pos (by omega)]
        simp only [if_true]
        obtain ⟨k, rfl⟩ : ∃ k : Nat, n = (k : Int) := ⟨n.toNat, by omega⟩
        simp only [Int.toNat_natCast]
        obtain ⟨g, o, rfl, hc⟩ := hs (by omega)
        have hkl : k < l.length := by omega
        have hkc : k < c := by omega
        have hdr : RR entC 9 w (.slice (some ⟨g, o + k * 9, none⟩) (l.length - k) (c - k)) (l.drop k) := RR.drop HR.out k (by omega) _ (fun g' o' e hlt => by
          injection e with e; injection e with e1 e2; subst e1; subst e2; rfl) (fun e => by cases e)
        have HD := Lib.hid hdr
        have HL := Lib.hid (show (l.drop k).length ≤ 1000000 by rw [List.length_drop]; omega)
        have k1 : (k : Int) ≤ (l.length : Int) := by omega
        have k2 : (l.length : Int) ≤ (c : Int) := by omega
        clear hs hc hdr hm
        go_enter Try.func11, Try.ntmps11
        go_wp2_with fail
        refine (q.out).mono ?_
        rintro _ w1 ⟨rfl, x1⟩
        simp only [errI, if_true]
        have X1 := Lib.hid x1
        clear x1
        obtain ⟨v', w', p1, p2, p3⟩ := WR.app0 (B := w1.heap.size) (w := w1.alloc (.cells #[] 26)) entC_length (by decide) entC_one (Blk.new w1 26 #[]) (Nat.le_refl _) (RR.ext (HD.out.ext X1.out) ((Ext.refl w1).alloc _)) (by rw [World.size_alloc]; omega) (P := Try.prog) (t := 22) Try.underlying22 ent_info rfl (by have := HL.out; omega) (by have := HL.out; unfold maxLen; omega)
        have P2 := Lib.hid p2
        have P3 := Lib.hid p3
        clear p2 p3
        go_wp2_with (first
          | (refine wpList_bs (vs := #[]) rfl 22 0 _ rfl rfl (run_bs0e _) ?_)
          | (at_builtin; refine wpList_app rfl (.tmp 21) (.tmp 24) 22 rfl rfl rfl rfl p1 ?_))
        go_ret2
        exact ⟨_, rfl, (X1.out.alloc _).trans P3.out, P2.out.mono X1.out.le⟩
      · rw [if_neg (by omega)]
        simp only [Int.reduceEq, if_false]
        clear hs hm
        go_enter Try.func11, Try.ntmps11
        go_wp2_with fail
        refine (q.out).mono ?_
        rintro _ w1 ⟨rfl, x1⟩
        simp only [errI, if_true]
        go_wp2
        go_ret2
        exact ⟨_, rfl, x1, WR.nil _ _ _⟩
end Go.Proofs.Ytplbebcckffgeaa
