/- kmp: Fail. -/
import Derived.Test.YtjbacmhkmofpkaaKhA
import Derived.Test.YtjbacmhkmofpkaaAnyX
import Derived.LoopTactic
namespace Go.Proofs.Ytjbacmhkmofpkaa
set_option linter.unusedVariables false
set_option linter.unusedSimpArgs false
open Go.RowKit

attribute [local go_sem] S_size S_toList S_append S_extract S_beq S_bne S_empty S_nil u8_beq

/-- the borders of the first k places, and 0 behind them -/
def failTo (what : List UInt8) (k : Nat) : List Int := (List.range what.length).map fun i => if i < k then (failL what i : Int) else 0
def failsL (what : List UInt8) : List Int := (List.range what.length).map fun i => (failL what i : Int)
theorem failTo_length (what : List UInt8) (k : Nat) : (failTo what k).length = what.length := by simp [failTo]
theorem failsL_length (what : List UInt8) : (failsL what).length = what.length := by simp [failsL]
theorem failTo_zero (what : List UInt8) : failTo what 1 = List.replicate what.length 0 := by
  apply List.ext_getElem?
  intro i
  by_cases hi : i < what.length
  · simp only [failTo, List.getElem?_map, List.getElem?_range hi, Option.map_some, List.getElem?_replicate, if_pos hi]
    split
    · obtain rfl : i = 0 := by omega
      rfl
    · rfl
  · rw [List.getElem?_eq_none (by rw [failTo_length]; omega), List.getElem?_eq_none (by simp; omega)]
theorem failTo_all (what : List UInt8) (k : Nat) (hk : what.length ≤ k) : failTo what k = failsL what := by
  unfold failTo failsL
  apply List.map_congr_left
  intro i hi
  rw [if_pos (by have := List.mem_range.1 hi; omega)]
theorem failTo_get (what : List UInt8) (k i : Nat) (hi : i < k) (hl : i < what.length) : (failTo what k).getD i 0 = (failL what i : Int) := by
  simp [failTo, List.getD_eq_getElem?_getD, hl, hi]
theorem failsL_get (what : List UInt8) (i : Nat) (hl : i < what.length) : (failsL what).getD i 0 = (failL what i : Int) := by
  simp [failsL, List.getD_eq_getElem?_getD, hl]
theorem failTo_set (what : List UInt8) (k : Nat) : (failTo what k).set k (failL what k : Int) = failTo what (k + 1) := by
  apply List.ext_getElem?
  intro i
  rw [List.getElem?_set, failTo_length]
  by_cases hi : i < what.length
  · by_cases he : k = i
    · subst he; simp [failTo, hi]
    · rw [if_neg he]
      simp only [failTo, List.getElem?_map, List.getElem?_range hi, Option.map_some]
      by_cases h1 : i < k
      · rw [if_pos h1, if_pos (by omega)]
      · rw [if_neg h1, if_neg (by omega)]
  · by_cases he : k = i
    · subst he
      rw [if_pos rfl, if_neg hi]
      rw [List.getElem?_eq_none (by rw [failTo_length]; omega)]
    · rw [if_neg he, List.getElem?_eq_none (by rw [failTo_length]; omega), List.getElem?_eq_none (by rw [failTo_length]; omega)]

set_option maxRecDepth 20000 in
set_option maxHeartbeats 2000000 in
theorem fail_any (what : List UInt8) (w : World) (hw : (what.length : Int) ≤ 1000000000) :
    Calls Try.prog 36 #[.string (S what)] w fun e w' => ∃ v, e = .returned v ∧ Ext w w' ∧ IW w' w.heap.size v (failsL what) := by
  obtain ⟨n, hn⟩ : ∃ n, n = what.length := ⟨_, rfl⟩
  obtain ⟨hmk, hiw⟩ := IW.make w n (by omega)
  have hi0 : IW (w.alloc (.cells (madeCells #[.int .i64 0] n) 3)) w.heap.size (.slice (some ⟨w.heap.size, 0, none⟩) n n) (failTo what 1) := by
    rw [failTo_zero, ← hn]; exact hiw
  have HI := Lib.hid hi0
  clear hiw hi0
  have hnn := hn.symm
  have HN := Lib.hid hn
  clear hn
  go_enter Try.func36, Try.ntmps36
  go_wp2
  go_loopw [4] (fun i wr => ∃ k : Nat, 1 ≤ k ∧ (k ≤ n ∨ k = 1) ∧ i = .int .i64 k ∧ Ext w wr ∧ IW wr w.heap.size (.slice (some ⟨w.heap.size, 0, none⟩) n n) (failTo what k)) (fun i _ => n - (intOf i).toNat)
  case atStart => exact ⟨1, Nat.le_refl _, .inr rfl, rfl, (Ext.refl _).alloc _, HI.out⟩
  case round =>
    obtain ⟨k, hk1, hk, rfl, hx, hiw⟩ := hrel
    clear HI
    by_cases hlt : k < n
    · obtain ⟨j, rfl⟩ : ∃ j, k = j + 1 := ⟨k - 1, by omega⟩
      have hjw : j + 1 < what.length := by omega
      have hidx := index_S what (j + 1) hjw _ rfl
      have hov := failL_ov (what := what) (i := j + 1) (by omega) hjw
      have hget : what[j + 1] = what.getD (j + 1) 0 := by rw [List.getD_eq_getElem?_getD, List.getElem?_eq_getElem hjw]; rfl
      rw [Nat.add_sub_cancel, hget] at hov
      obtain ⟨a, c, ha, _, hs⟩ := hiw.shape
      rw [failTo_length] at ha hs
      obtain ⟨g, hg, _, hglt, hcell, hfrz⟩ := hs (by omega)
      obtain rfl : g = w.heap.size := by
        rw [hg] at ha; injection ha with h1 h2 h3; injection h1 with h1; injection h1 with h1; exact h1.symm
      have hcj := hcell j (by omega)
      rw [failTo_get what _ _ (by omega) (by omega)] at hcj
      have hck := hcell (j + 1) (by omega)
      have hfj := (failL_spec what (st := j + 1) (by omega) (by omega)).2.1
      rw [Nat.add_sub_cancel] at hfj
      have q := Lib.hid (fun (x : Up wr.drew) => step_any what n (some ⟨w.heap.size, 0, none⟩) n (failL what j) (what.getD (j + 1) 0) x.val (by omega) hw (fun _ => ⟨w.heap.size, rfl, fun i hi => by
        refine up_cell (W := wr.drew) (v := .int .i64 (failL what i)) ?_ x
        show wr.cell? _ = _
        rw [hcell i (by omega), failTo_get what _ _ (by omega) (by omega)]⟩) (by omega))
      rw [← hov] at q
      have HS := Lib.hid (fun (x : Up wr.drew) => by
        have h1 := ((hiw.drew.ext x.ext))
        have h2 := IW.set (l := failTo what (j + 1)) (g := w.heap.size) (cap := n) (by rw [failTo_length, hnn]; exact h1) (j + 1) (failL what (j + 1) : Int)
        rw [failTo_set, failTo_length, hnn] at h2
        exact h2)
      have cj := up_cell (W := wr.drew) hcj
      have ck := up_cell (W := wr.drew) hck
      have cf := fun x : Up wr.drew => show x.val.frozen? ⟨w.heap.size, j + 1, none⟩ = false from (World.frozen?_of_block (x.ext.block _ hglt)).trans (hfrz (j + 1))
      have hx2 := Lib.hid (hx.drew)
      have hjn : j < n := by omega
      have e1 : IntKind.i64.wrap (j : Int) = (j : Int) := IntWalk.i64_in _ (by omega)
      have e2 : (0 : Int) ≤ (j : Int) + 1 := by omega
      rw [show ((j + 1 : Nat) : Int) = (j : Int) + 1 from rfl] at hidx
      clear hov hs ha hg hcell hfrz hcj hck hget hiw hk1 hk hx
      generalize failL what j = f at *
      generalize failL what (j + 1) = r at *
      generalize what.getD (j + 1) 0 = b at *
      generalize (failTo what (j + 1)).getD (j + 1) 0 = old at *
      have hj9 : (n : Int) ≤ 1000000000 := by omega
      clear hjw hw
      go_wp2_with fail
      refine wp_region_lex _ rfl (by kernel_rfl) ?_
      dsimp only [List.length_cons, List.length_nil]
      repeat (first
        | (refine lex_want (by kernel_rfl) (by kernel_rfl) (by kernel_rfl) (by kernel_rfl) (fun _ _ _ _ h => h) (by kernel_rfl) (fun K hK => ?_)
           go_simp
           first
             | (refine hK _ ?_; clear hK K)
             | (apply Exists.intro
                refine ⟨fun _ => ?_, hK _ ?_⟩
                (go_at_call 37; (refine (q.out _).mono ?_; rintro e w' ⟨he, hw'⟩; exact ⟨he, hw' ▸ Ext.refl _⟩))
                clear hK K)))
      refine lex_last (by kernel_rfl) (by kernel_rfl) (by kernel_rfl) (by kernel_rfl) (by kernel_rfl) (fun x K hK => ?_)
      have p1 := ck x
      have p2 := cf x
      go_simp
      refine hK _ _ (fun y => ?_)
      have hy := Lib.hid ((HS.out x).ext y.ext)
      have hx3 := Lib.hid ((Ext.set (hx2.out.trans x.ext) (Nat.le_refl _) (.int .i64 r)).trans y.ext)
      clear hK p1 p2 ck cf cj q HS hidx
      go_wp2
      go_roundw
      case rel => exact ⟨j + 1 + 1, by omega, .inl (by omega), by go_num, hx3.out, hy.out⟩
      case measure => simp [intOf]; omega
    · have hv := hiw
      rw [failTo_all what k (by omega)] at hv
      have H := Lib.hid hv
      have X := Lib.hid hx
      have hk9 : ¬ (k : Int) < (n : Int) := by omega
      clear hiw hv hx hk hk1 hmk hw hlt
      go_wp2
      go_ret
      exact ⟨_, rfl, X.out, H.out⟩
end Go.Proofs.Ytjbacmhkmofpkaa
