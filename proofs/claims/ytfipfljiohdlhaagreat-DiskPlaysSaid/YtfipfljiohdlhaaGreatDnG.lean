/- The document's names; Changed, open. -/
import Derived.Test.YtfipfljiohdlhaaGreatDnF
import Derived.Test.YtfipfljiohdlhaaGreatBits
import Derived.LoopTactic
namespace Go.Proofs.YtfipfljiohdlhaaGreat
set_option linter.unusedVariables false
set_option linter.unusedSimpArgs false
open Go.RowKit
attribute [local go_sem] S_size S_toList S_append S_extract S_beq S_bne S_empty S_nil
variable {K : List Nat}

theorem rchanged_any {w : World} {v : Value} {l : List (List UInt8 × Nat)} (hK : ∀ k ∈ K, k < w.heap.size) (h : RK K eC 2 w v l) (hl : (l.length : Int) ≤ 1000000) (c : List UInt8 × List UInt8 × Option Nat) (h0 : c.2.2 = none → c.1 = []) (h1 : ∀ n, c.2.2 = some n → c.1 ≠ []) :
    Calls Tryz.prog 69 #[v, .agg (rC c).toArray] w fun e w' => ∃ v', e = .returned v' ∧ RK K eC 2 w' v' (appC l c) ∧ Ext w w' := by
  obtain ⟨to, fr, o⟩ := c
  cases o with
  | none =>
    obtain rfl : to = [] := h0 rfl
    exact rchanged_none hK h hl fr 0
  | some n => exact rchanged_some hK h hl fr to n (h1 n rfl)
set_option maxRecDepth 20000 in
set_option maxHeartbeats 1000000 in
theorem ropen_any {w : World} {v : V4} {d : Dsk} (h : RefD K w v d) (s : List UInt8) (hl : (d.dir.length : Int) ≤ 1000000) :
    Calls Tryz.prog 62 #[refV v d, .string (S s)] w fun e w' => e = .returned (.tuple #[.int .i64 (if d.dead then 0 else match dGet s d.dir with | some n => (n : Int) | none => 0), .int .i64 (if d.dead then 200 else match dGet s d.dir with | some _ => 0 | none => 201)]) ∧ Ext w w' := by
  have Q := Lib.hid (fun W (x : Ext w W) => rfind_any (h.ext x) s hl)
  obtain ⟨aF, cF, aD, cD, aS, cS, aC, cC, rfl⟩ := h.open_
  clear h
  have HF : findI s d.dir = match dGet s d.dir with | some n => (n : Int) | none => -1 := rfl
  obtain ⟨files, dir, safe, chs, cap, ops, armed, dead⟩ := d
  simp only [refV] at *
  have X0 := Lib.hid ((Ext.refl w).alloc (.cells #[.slice aF files.length cF, .slice aD dir.length cD, .slice aS safe.length cS, .slice aC chs.length cC, .int .i64 cap, .int .i64 ops, .int .i64 armed, .bool dead] 33))
  generalize files.length = nF at *
  generalize dir.length = nD at *
  generalize safe.length = nS at *
  generalize chs.length = nC at *
  cases dead with
  | true =>
    clear HF
    go_enter Tryz.func62, Tryz.ntmps62
    go_wp2
    go_ret2
    exact ⟨rfl, X0.out⟩
  | false =>
    simp only [Bool.false_eq_true, if_false]
    cases hg : dGet s dir with
    | none =>
      rw [hg] at HF
      rw [HF] at Q
      clear HF hg
      go_enter Tryz.func62, Tryz.ntmps62
      go_wp2_with fail
      refine (Q.out _ X0.out).mono ?_
      rintro _ w1 ⟨rfl, x1⟩
      go_wp2
      go_ret2
      exact ⟨rfl, X0.out.trans x1⟩
    | some n =>
      rw [hg] at HF
      rw [HF] at Q
      have hn : ¬ (n : Int) < 0 := by omega
      clear HF hg
      go_enter Tryz.func62, Tryz.ntmps62
      go_wp2_with fail
      refine (Q.out _ X0.out).mono ?_
      rintro _ w1 ⟨rfl, x1⟩
      have X1 := Lib.hid (X0.out.trans x1)
      clear x1
      go_wp2
      go_ret2
      exact ⟨rfl, X1.out⟩
def letterP (c : Int) : Prop := (97 ≤ c ∧ c ≤ 122) ∨ (48 ≤ c ∧ c ≤ 57) ∨ c = 46 ∨ c = 45
theorem letterI_yes {c : Int} (h : letterI c = true) : letterP c := by
  unfold letterI at h
  simp only [Bool.or_eq_true, Bool.and_eq_true, decide_eq_true_eq] at h
  unfold letterP; omega
theorem letterI_no {c : Int} (h : letterI c = false) : ¬ letterP c := by
  intro hp
  unfold letterP at hp
  have : letterI c = true := by
    unfold letterI
    simp only [Bool.or_eq_true, Bool.and_eq_true, decide_eq_true_eq]
    omega
  rw [this] at h; cases h
set_option maxRecDepth 20000 in
set_option maxHeartbeats 1000000 in
theorem rcheck_any (s : List UInt8) (w : World) (hs : (s.length : Int) ≤ 9223372036854775807) : Calls Tryz.prog 59 #[.string (S s)] w fun e w' => e = .returned (.int .i64 (chk s)) ∧ Ext w w' := by
  by_cases h1 : s.length = 0
  · have H := Lib.hid (show chk s = 180 from if_neg (by omega))
    have h0 : (s.length : Int) = 0 := by omega
    go_enter Tryz.func59, Tryz.ntmps59
    go_wp2
    go_ret
    exact ⟨by rw [H.out]; rfl, Ext.refl _⟩
  by_cases h2 : (64 : Int) < (s.length : Int)
  · have H := Lib.hid (show chk s = 180 from if_neg (by omega))
    have h0 : ((s.length : Int) == 0) = false := by rw [beq_eq_false_iff_ne]; omega
    clear h1
    go_enter Tryz.func59, Tryz.ntmps59
    go_wp2
    go_ret
    exact ⟨by rw [H.out]; rfl, Ext.refl _⟩
  have h0 : ((s.length : Int) == 0) = false := by rw [beq_eq_false_iff_ne]; omega
  have hlen := Lib.hid (show 1 ≤ s.length ∧ s.length ≤ 64 by omega)
  clear h1
  go_enter Tryz.func59, Tryz.ntmps59
  go_wp2
  go_loopw [3] (fun i wr => ∃ k : Nat, i = .int .i64 (k : Int) ∧ k ≤ s.length ∧ (s.take k).all letterB = true ∧ w = wr) (fun i _ => s.length - (intOf i).toNat)
  case atStart => exact ⟨0, rfl, Nat.zero_le _, by simp, rfl⟩
  case round =>
    obtain ⟨k, rfl, hk, hall, rfl⟩ := hrel
    have HALL := Lib.hid hall
    clear hall
    by_cases hlt : k < s.length
    · have hI : (k : Int) < (s.length : Int) := by omega
      have hkS : k < (S s).size := by rw [S_size]; exact hlt
      have HKM := Lib.hid hlt
      have hbb : ((S s)[k]'hkS) = s.getD k 0 := by rw [S_get, List.getD_eq_getElem?_getD, List.getElem?_eq_getElem hlt]; rfl
      have HBB := Lib.hid hbb
      clear hbb
      by_cases hb : letterB (s.getD k 0) = true
      · have HP := Lib.hid (show letterP (((S s)[k]'hkS).toNat : Int) from letterI_yes (by rw [HBB.out]; exact hb))
        have HA := Lib.hid (take_all hlt HALL.out hb)
        clear hb hlt hk
        go_wp2_with fail
        all_goals first
          | (exfalso; have hp := HP.out; unfold letterP at hp; (try simp only [bne_iff_ne, ne_eq, bne_eq_false_iff_eq] at *); omega)
          | (go_roundw
             case rel => exact ⟨k + 1, by go_num, by have := HKM.out; omega, HA.out, trivial⟩
             case measure => simp [intOf]; have := HKM.out; omega)
      · have HP := Lib.hid (show ¬ letterP (((S s)[k]'hkS).toNat : Int) from letterI_no (by rw [HBB.out]; exact (Bool.not_eq_true _).mp hb))
        have H := Lib.hid (show chk s = 180 from if_neg (fun h => by rw [all_false hlt ((Bool.not_eq_true _).mp hb)] at h; simp at h))
        clear hb hlt hk
        go_wp2_with fail
        all_goals first
          | (exfalso; have hp := HP.out; unfold letterP at hp; (try simp only [bne_iff_ne, ne_eq, bne_eq_false_iff_eq] at *); omega)
          | (go_ret
             refine ⟨?_, Ext.refl _⟩
             rw [H.out]; rfl)
    · obtain rfl : k = s.length := by omega
      have hall := HALL.out
      rw [List.take_length] at hall
      have H := Lib.hid (show chk s = 0 from if_pos ⟨hlen.out.1, hlen.out.2, hall⟩)
      clear hall hk
      go_wp2
      go_ret
      exact ⟨by rw [H.out]; rfl, Ext.refl _⟩
end Go.Proofs.YtfipfljiohdlhaaGreat
