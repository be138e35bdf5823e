/- The document's disk: Without. -/
import Derived.Test.YtfipfljiohdlhaaGreatDnC
namespace Go.Proofs.YtfipfljiohdlhaaGreat
set_option linter.unusedVariables false
set_option linter.unusedSimpArgs false
open Go.RowKit
attribute [local go_sem] S_size S_toList S_append S_extract S_beq S_bne S_empty S_nil

theorem eC_len (x : List UInt8 × Nat) : (eC x).length = 2 := rfl
theorem eC_one (x : List UInt8 × Nat) : ∀ u ∈ eC x, u.oneCell' = true := by
  intro u hu
  simp only [eC, List.mem_cons, List.not_mem_nil, or_false] at hu
  rcases hu with rfl | rfl <;> rfl
theorem rentry_info : (Tryz.prog.info? 98).map (fun i => (i.zero, i.size, i.bytes)) = some (some (.agg #[.string (S []), .int .i64 0]), 2, 24) := by kernel_rfl
theorem rentry_size : (Tryz.prog.info? 98).map (·.size) = some 2 := by kernel_rfl
theorem run_bs1e (x : List UInt8 × Nat) (w : World) : (Instr.buildSlice 30 1 #[(0, .agg (eC x).toArray)]).run Tryz.prog w = .ok (.slice (some ⟨w.heap.size, 0, none⟩) 1 1) (w.alloc (.cells (eC x).toArray 98)) := by kernel_rfl
theorem dDel_next (s : List UInt8) {l : List (List UInt8 × Nat)} {k : Nat} {x : List UInt8 × Nat} (h : l[k]? = some x) : dDel s (l.take (k + 1)) = if x.1 = s then dDel s (l.take k) else dDel s (l.take k) ++ [x] := by
  unfold dDel
  rw [List.take_add_one, h, List.filter_append]
  by_cases e : x.1 = s
  · rw [if_pos e]; simp [e]
  · rw [if_neg e]; simp [e]
set_option maxRecDepth 20000 in
set_option maxHeartbeats 2000000 in
theorem rwithout_any {w : World} {v : Value} {l : List (List UInt8 × Nat)} (h : RR eC 2 w v l) (hl : (l.length : Int) ≤ 1000000) (s : List UInt8) :
    Calls Tryz.prog 79 #[v, .string (S s)] w fun e w' => ∃ v', e = .returned v' ∧ WR eC 2 w' w.heap.size 98 v' (dDel s l) ∧ Ext w w' := by
  obtain ⟨a, c, rfl, _, _, hs⟩ := h
  have HS := Lib.hid hs
  clear hs
  go_enter Tryz.func79, Tryz.ntmps79
  go_wp2
  go_loopw [6, 5] (fun i o wr => ∃ k : Nat, i = .int .i64 (k : Int) ∧ k ≤ l.length ∧ WR eC 2 wr w.heap.size 98 o (dDel s (l.take k)) ∧ Ext w wr) (fun i _ _ => l.length - (intOf i).toNat)
  case atStart => exact ⟨0, rfl, Nat.zero_le _, WR.nil _ _ _, Ext.refl _⟩
  case round =>
    obtain ⟨k, rfl, hk, hw, hx⟩ := hrel
    have HX := Lib.hid hx
    have HW := Lib.hid hw
    by_cases hlt : k < l.length
    · have hI : (k : Int) < (l.length : Int) := by omega
      obtain ⟨g, o, rfl, hc⟩ := HS.out (by omega)
      obtain ⟨x, hxk⟩ : ∃ x, l[k]? = some x := ⟨_, List.getElem?_eq_getElem hlt⟩
      have RA := Lib.hid (rangeAt_ext (hc k x hxk) hx)
      have c0 := RA.out 0 _ rfl
      rw [Nat.add_zero] at c0
      have ZA := Lib.hid (show (Tryz.prog.info? 98).map (·.size) = some (eC x).length from rentry_size)
      have DN := dDel_next s hxk
      have HKM := Lib.hid hlt
      have hdl : (dDel s (l.take k)).length ≤ 1000000 := by
        have := dDel_length s (l.take k)
        rw [List.length_take] at this; omega
      by_cases he : x.1 = s
      · rw [if_pos he] at DN
        have HW2 := Lib.hid (show WR eC 2 wr w.heap.size 98 _ (dDel s (l.take (k + 1))) from by rw [DN]; exact hw)
        have hb : (x.1 == s) = true := by simpa using he
        clear hc hxk hx hw hlt hk DN RA ZA
        subst he
        go_wp2
        go_roundw
        case rel => exact ⟨k + 1, by go_num, by have := HKM.out; omega, HW2.out, HX.out⟩
        case measure => simp [intOf]; have := HKM.out; omega
      · rw [if_neg he] at DN
        have hb : (x.1 == s) = false := by simpa using he
        obtain ⟨v', w', p1, p2, p3, _⟩ := WR.app1 eC_len (by decide) eC_one (hw.alloc (.cells (eC x).toArray 98)) (Blk.new wr 98 (eC x).toArray) (by rw [World.size_alloc]; have := hx.size; omega) (P := Tryz.prog) (t := 30) Tryz.underlying30 rentry_info rfl (by omega) (by unfold maxLen; omega)
        have HW2 := Lib.hid (show WR eC 2 w' w.heap.size 98 v' (dDel s (l.take (k + 1))) from by rw [DN]; exact p2)
        have HX2 := Lib.hid (show Ext w w' from Below.trans (hx.alloc _) (WR.belowO (hw.alloc _) (by rw [World.size_alloc]; have := hx.size; omega) p3))
        have BS := run_bs1e x
        clear hc hxk hx hw hlt hk DN p2 p3 hdl
        obtain ⟨xs, xn⟩ := x
        dsimp only at *
        generalize hL : eC (xs, xn) = L at *
        clear hL
        go_wp2_with (refine wpList_load_mid rfl 98 (.tmp 23) rfl g _ rfl _ _ RA.out Tryz.underlying98 rfl ZA.out ?_; refine Held.go ?_)
        refine ⟨?_⟩
        go_wp2_with (refine wpList_bs (vs := #[(0, .agg L.toArray)]) rfl 30 1 _ rfl rfl (BS _) ?_; refine Held.go ?_)
        refine ⟨?_⟩
        go_wp2_with (at_builtin; refine wpList_app rfl (.tmp 20) (.tmp 25) 30 rfl rfl rfl rfl p1 ?_; refine Held.go ?_)
        refine ⟨?_⟩
        go_wp2
        go_roundw
        case rel => exact ⟨k + 1, by go_num, by have := HKM.out; omega, HW2.out, HX2.out⟩
        case measure => simp [intOf]; have := HKM.out; omega
    · obtain rfl : k = l.length := by omega
      rw [List.take_length] at HW
      clear hk hx hw
      go_wp2
      go_ret
      exact ⟨_, rfl, HW.out, HX.out⟩
/-- where an entry is laid -/
theorem dIns_split {s : List UInt8} {n : Nat} : ∀ {l : List (List UInt8 × Nat)} {i : Nat}, i ≤ l.length → (∀ j x, j < i → l[j]? = some x → bytesBefore x.1 s = true) → (∀ x, l[i]? = some x → bytesBefore s x.1 = true) → dIns (s, n) l = l.take i ++ (s, n) :: l.drop i
  | [], i, hi, _, _ => by
    obtain rfl : i = 0 := by simpa using hi
    rfl
  | y :: r, 0, _, _, h => by
    have := h y rfl
    show (if bytesBefore s y.1 = true then (s, n) :: y :: r else _) = _
    rw [if_pos this]; rfl
  | y :: r, i + 1, hi, h1, h2 => by
    have hb := h1 0 y (by omega) rfl
    have hn : ¬ bytesBefore s y.1 = true := fun h => by
      have t := Go.WideShapes.before_trans (a := .string y.1) (b := .string s) (c := .string y.1) hb h
      rw [Go.WideShapes.before_irrefl] at t; cases t
    show (if bytesBefore s y.1 = true then (s, n) :: y :: r else y :: dIns (s, n) r) = _
    rw [if_neg hn, dIns_split (l := r) (i := i) (by simpa using hi) (fun j x hj hx => h1 (j + 1) x (by omega) (by simpa using hx)) (fun x hx => h2 x (by simpa using hx))]
    rfl
end Go.Proofs.YtfipfljiohdlhaaGreat
