/- disk: is a file made, changed in the directory, or cut by acts? -/
import Derived.Test.YtfipfljiohdlhaaDmD
namespace Go.Proofs.Ytfipfljiohdlhaa
set_option linter.unusedVariables false
set_option linter.unusedSimpArgs false
open Go.RowKit
attribute [local go_sem] S_size S_toList S_append S_extract S_beq S_bne S_empty S_nil

theorem ours_step {l : List ActD} {s : List UInt8} {k : Nat} (h0 : ∀ j, j < k → ∀ a, l[j]? = some a → oursB s a = false) {x : ActD} (hx : l[k]? = some x) (h : oursB s x = false) : ∀ j, j < k + 1 → ∀ a, l[j]? = some a → oursB s a = false := by
  intro j hj a ha
  rcases Nat.lt_or_ge j k with h1 | h1
  · exact h0 j h1 a ha
  · obtain rfl : j = k := by omega
    rw [hx] at ha; injection ha with ha; exact ha ▸ h
theorem ours_all {l : List ActD} {s : List UInt8} {k : Nat} (h0 : ∀ j, j < k → ∀ a, l[j]? = some a → oursB s a = false) (hk : l.length ≤ k) : l.any (oursB s) = false := by
  rw [List.any_eq_false]
  intro a ha
  obtain ⟨j, hj, e⟩ := List.getElem_of_mem ha
  rw [h0 j (by omega) a (by rw [List.getElem?_eq_getElem hj, e])]; decide
theorem ours_yes {l : List ActD} {s : List UInt8} {k : Nat} {x : ActD} (hx : l[k]? = some x) (h : oursB s x = true) : l.any (oursB s) = true :=
  List.any_eq_true.2 ⟨x, List.mem_of_getElem? hx, h⟩
set_option maxRecDepth 20000 in
set_option maxHeartbeats 4000000 in
theorem ours_any {w : World} {v : Value} {l : List ActD} (h : RR actC 7 w v l) (ha : ∀ a ∈ l, ActW w a) (hl : (l.length : Int) ≤ 9223372036854775807) (s : List UInt8) :
    Calls Try.prog 15 #[v, .string (S s)] w fun e w' => e = .returned (.bool (l.any (oursB s))) ∧ Ext w w' := by
  obtain ⟨pa, ca, rfl, _, _, hsa⟩ := h
  have HALL := Lib.hid (fun k h0 hk => ours_all (l := l) (s := s) (k := k) h0 hk)
  have HYES := Lib.hid (fun k x hx h => ours_yes (l := l) (s := s) (k := k) (x := x) hx h)
  have HST := Lib.hid (fun k h0 x hx h => ours_step (l := l) (s := s) (k := k) h0 (x := x) hx h)
  have HSA := Lib.hid hsa
  have HAW := Lib.hid ha
  generalize l.any (oursB s) = r at *
  clear hsa ha
  go_enter Try.func15, Try.ntmps15
  go_wp2
  go_loopw [5] (fun i wr => ∃ k : Nat, i = .int .i64 (k : Int) ∧ k ≤ l.length ∧ RowKit.Hid (∀ j, j < k → ∀ a, l[j]? = some a → oursB s a = false) ∧ Ext w wr) (fun i _ => l.length - (intOf i).toNat)
  case atStart => exact ⟨0, rfl, Nat.zero_le _, Lib.hid (fun j hj => by omega), Ext.refl _⟩
  case round =>
    obtain ⟨k, rfl, hk, hsm, hx⟩ := hrel
    have HX := Lib.hid hx
    by_cases hlt : k < l.length
    · have hI : (k : Int) < (l.length : Int) := by omega
      obtain ⟨g, o, rfl, hc⟩ := HSA.out (by omega)
      obtain ⟨x, hxk⟩ : ∃ x, l[k]? = some x := ⟨_, List.getElem?_eq_getElem hlt⟩
      have RA := Lib.hid (rangeAt_ext (hc k x hxk) hx)
      have ZA := Lib.hid (show (Try.prog.info? 29).map (·.size) = some (actC x).length by kernel_rfl)
      have YES := Lib.hid (fun h => HYES.out k x hxk h)
      have ST := Lib.hid (fun h => HST.out k hsm.out x hxk h)
      have HKM := Lib.hid hlt
      have HX2 := Lib.hid (hx.alloc (.cells (actC x).toArray 29))
      have haw := HAW.out x (List.mem_of_getElem? hxk)
      obtain ⟨kind, n, xs, xt, dir, vc, vm, cuts, marks⟩ := x
      obtain ⟨va, vcp, hvc, _⟩ := haw.cuts
      obtain ⟨vb, vmp, hvm, _⟩ := haw.marks
      clear haw
      dsimp only at hvc hvm
      subst hvc
      subst hvm
      have E := Lib.hid (show oursB s ⟨kind, n, xs, xt, dir, .slice va cuts.length vcp, .slice vb marks.length vmp, cuts, marks⟩ = decide (((kind = 5 ∨ kind = 4 ∨ kind = 3) ∧ xs = s) ∨ (kind = 4 ∧ xt = s) ∨ kind = 9) from rfl)
      simp only [actC] at RA ZA HX2
      obtain ⟨L, hL⟩ : ∃ L : List Value, L = [.int .i64 kind, .int .i64 n, .string (S xs), .string (S xt), .int .i64 dir, .slice va cuts.length vcp, .slice vb marks.length vmp] := ⟨_, rfl⟩
      rw [← hL] at RA ZA HX2
      have ON := Lib.hid (show L.toArray.all (·.oneCell') = true by rw [hL]; kernel_rfl)
      have SZ := Lib.hid (show (#[.int .i64 0, .int .i64 0, .string (S []), .string (S []), .int .i64 0, .slice none 0 0, .slice none 0 0] : Array Value).size = L.toArray.size by rw [hL]; rfl)
      have C0 := Lib.hid (show (wr.alloc (.cells L.toArray 29)).cell? ⟨wr.heap.size, 0, none⟩ = some (.int .i64 kind) by rw [(Blk.new wr 29 L.toArray).cell 0, hL]; rfl)
      have C2 := Lib.hid (show (wr.alloc (.cells L.toArray 29)).cell? ⟨wr.heap.size, 2, none⟩ = some (.string (S xs)) by rw [(Blk.new wr 29 L.toArray).cell 2, hL]; rfl)
      have C3 := Lib.hid (show (wr.alloc (.cells L.toArray 29)).cell? ⟨wr.heap.size, 3, none⟩ = some (.string (S xt)) by rw [(Blk.new wr 29 L.toArray).cell 3, hL]; rfl)
      clear hL
      clear hc hxk hx hsm hk hlt
      by_cases k5 : kind = 5
      · subst k5
        by_cases hs : xs = s
        · subst hs
          have hv := E.out.trans (decide_eq_true (.inl ⟨by omega, rfl⟩))
          have hv := YES.out hv
          subst hv
          go_wp2_with (refine wpList_load_mid rfl 29 (.tmp 15) rfl g _ rfl _ _ RA.out Try.underlying29 rfl ZA.out ?_; refine Held.go ?_)
          refine ⟨?_⟩
          go_wp2_with (refine wpList_store_new rfl 29 (.tmp 6) (.tmp 16) rfl rfl rfl SZ.out ZA.out ON.out ?_; refine Held.go ?_)
          refine ⟨?_⟩
          have c0 := C0.out
          have c2 := C2.out
          have c3 := C3.out
          go_wp2
          go_ret
          exact ⟨rfl, HX2.out⟩
        have HS := Lib.hid hs
        have bs : (xs == s) = false := by simpa using hs
        clear hs
        have hv := E.out.trans (decide_eq_false (fun h => h.elim (fun h => HS.out h.2) (fun h => by omega)))
        have HF := Lib.hid (ST.out hv)
        clear hv
        go_wp2_with (refine wpList_load_mid rfl 29 (.tmp 15) rfl g _ rfl _ _ RA.out Try.underlying29 rfl ZA.out ?_; refine Held.go ?_)
        refine ⟨?_⟩
        go_wp2_with (refine wpList_store_new rfl 29 (.tmp 6) (.tmp 16) rfl rfl rfl SZ.out ZA.out ON.out ?_; refine Held.go ?_)
        refine ⟨?_⟩
        have c0 := C0.out
        have c2 := C2.out
        have c3 := C3.out
        go_wp2
        go_roundw
        case rel => exact ⟨k + 1, by go_num, by have := HKM.out; omega, HF, HX2.out⟩
        case measure => simp [intOf]; have := HKM.out; omega
      by_cases k4 : kind = 4
      · subst k4
        by_cases hs : xs = s
        · subst hs
          have hv := E.out.trans (decide_eq_true (.inl ⟨by omega, rfl⟩))
          have hv := YES.out hv
          subst hv
          go_wp2_with (refine wpList_load_mid rfl 29 (.tmp 15) rfl g _ rfl _ _ RA.out Try.underlying29 rfl ZA.out ?_; refine Held.go ?_)
          refine ⟨?_⟩
          go_wp2_with (refine wpList_store_new rfl 29 (.tmp 6) (.tmp 16) rfl rfl rfl SZ.out ZA.out ON.out ?_; refine Held.go ?_)
          refine ⟨?_⟩
          have c0 := C0.out
          have c2 := C2.out
          have c3 := C3.out
          go_wp2
          go_ret
          exact ⟨rfl, HX2.out⟩
        have HS := Lib.hid hs
        have bs : (xs == s) = false := by simpa using hs
        clear hs
        by_cases ht : xt = s
        · subst ht
          have hv := E.out.trans (decide_eq_true (.inr (.inl ⟨rfl, rfl⟩)))
          have hv := YES.out hv
          subst hv
          go_wp2_with (refine wpList_load_mid rfl 29 (.tmp 15) rfl g _ rfl _ _ RA.out Try.underlying29 rfl ZA.out ?_; refine Held.go ?_)
          refine ⟨?_⟩
          go_wp2_with (refine wpList_store_new rfl 29 (.tmp 6) (.tmp 16) rfl rfl rfl SZ.out ZA.out ON.out ?_; refine Held.go ?_)
          refine ⟨?_⟩
          have c0 := C0.out
          have c2 := C2.out
          have c3 := C3.out
          go_wp2
          go_ret
          exact ⟨rfl, HX2.out⟩
        have HT := Lib.hid ht
        have bt : (xt == s) = false := by simpa using ht
        clear ht
        have hv := E.out.trans (decide_eq_false (fun h => h.elim (fun h => HS.out h.2) (fun h => h.elim (fun h => HT.out h.2) (fun h => by omega))))
        have HF := Lib.hid (ST.out hv)
        clear hv
        go_wp2_with (refine wpList_load_mid rfl 29 (.tmp 15) rfl g _ rfl _ _ RA.out Try.underlying29 rfl ZA.out ?_; refine Held.go ?_)
        refine ⟨?_⟩
        go_wp2_with (refine wpList_store_new rfl 29 (.tmp 6) (.tmp 16) rfl rfl rfl SZ.out ZA.out ON.out ?_; refine Held.go ?_)
        refine ⟨?_⟩
        have c0 := C0.out
        have c2 := C2.out
        have c3 := C3.out
        go_wp2
        go_roundw
        case rel => exact ⟨k + 1, by go_num, by have := HKM.out; omega, HF, HX2.out⟩
        case measure => simp [intOf]; have := HKM.out; omega
      by_cases k3 : kind = 3
      · subst k3
        by_cases hs : xs = s
        · subst hs
          have hv := E.out.trans (decide_eq_true (.inl ⟨by omega, rfl⟩))
          have hv := YES.out hv
          subst hv
          go_wp2_with (refine wpList_load_mid rfl 29 (.tmp 15) rfl g _ rfl _ _ RA.out Try.underlying29 rfl ZA.out ?_; refine Held.go ?_)
          refine ⟨?_⟩
          go_wp2_with (refine wpList_store_new rfl 29 (.tmp 6) (.tmp 16) rfl rfl rfl SZ.out ZA.out ON.out ?_; refine Held.go ?_)
          refine ⟨?_⟩
          have c0 := C0.out
          have c2 := C2.out
          have c3 := C3.out
          go_wp2
          go_ret
          exact ⟨rfl, HX2.out⟩
        have HS := Lib.hid hs
        have bs : (xs == s) = false := by simpa using hs
        clear hs
        have hv := E.out.trans (decide_eq_false (fun h => h.elim (fun h => HS.out h.2) (fun h => by omega)))
        have HF := Lib.hid (ST.out hv)
        clear hv
        go_wp2_with (refine wpList_load_mid rfl 29 (.tmp 15) rfl g _ rfl _ _ RA.out Try.underlying29 rfl ZA.out ?_; refine Held.go ?_)
        refine ⟨?_⟩
        go_wp2_with (refine wpList_store_new rfl 29 (.tmp 6) (.tmp 16) rfl rfl rfl SZ.out ZA.out ON.out ?_; refine Held.go ?_)
        refine ⟨?_⟩
        have c0 := C0.out
        have c2 := C2.out
        have c3 := C3.out
        go_wp2
        go_roundw
        case rel => exact ⟨k + 1, by go_num, by have := HKM.out; omega, HF, HX2.out⟩
        case measure => simp [intOf]; have := HKM.out; omega
      by_cases k9 : kind = 9
      · subst k9
        have hv := E.out.trans (decide_eq_true (.inr (.inr rfl)))
        have hv := YES.out hv
        subst hv
        go_wp2_with (refine wpList_load_mid rfl 29 (.tmp 15) rfl g _ rfl _ _ RA.out Try.underlying29 rfl ZA.out ?_; refine Held.go ?_)
        refine ⟨?_⟩
        go_wp2_with (refine wpList_store_new rfl 29 (.tmp 6) (.tmp 16) rfl rfl rfl SZ.out ZA.out ON.out ?_; refine Held.go ?_)
        refine ⟨?_⟩
        have c0 := C0.out
        have c2 := C2.out
        have c3 := C3.out
        go_wp2
        go_ret
        exact ⟨rfl, HX2.out⟩
      have b5 : (kind == 5) = false := by simpa using k5
      have b4 : (kind == 4) = false := by simpa using k4
      have b3 : (kind == 3) = false := by simpa using k3
      have b9 : (kind == 9) = false := by simpa using k9
      have hv := E.out.trans (decide_eq_false (fun h => by omega))
      have HF := Lib.hid (ST.out hv)
      clear hv
      go_wp2_with (refine wpList_load_mid rfl 29 (.tmp 15) rfl g _ rfl _ _ RA.out Try.underlying29 rfl ZA.out ?_; refine Held.go ?_)
      refine ⟨?_⟩
      go_wp2_with (refine wpList_store_new rfl 29 (.tmp 6) (.tmp 16) rfl rfl rfl SZ.out ZA.out ON.out ?_; refine Held.go ?_)
      refine ⟨?_⟩
      have c0 := C0.out
      have c2 := C2.out
      have c3 := C3.out
      go_wp2
      go_roundw
      case rel => exact ⟨k + 1, by go_num, by have := HKM.out; omega, HF, HX2.out⟩
      case measure => simp [intOf]; have := HKM.out; omega
    · have hn := HALL.out k hsm.out (by omega)
      have hI : (l.length : Int) ≤ (k : Int) := by omega
      clear hk hlt hx
      subst hn
      go_wp2
      go_ret
      exact ⟨rfl, HX.out⟩
end Go.Proofs.Ytfipfljiohdlhaa
