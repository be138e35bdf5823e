/- turn: Clean. -/
import Derived.Test.YtmjkfgpkohfmiaaGreatMgAe
import Derived.Test.YtmjkfgpkohfmiaaGreatMgAg
namespace Go.Proofs.YtmjkfgpkohfmiaaGreat
set_option linter.unusedVariables false
set_option linter.unusedSimpArgs false
open Go.RowKit

attribute [local go_sem] S_size S_toList S_append S_extract S_beq S_bne S_empty S_nil

/-- a slice of texts that no call on the disk in K turns, wherever it lies if it is empty -/
def KR (K : List Nat) (w : World) (v : Value) (l : List (List UInt8)) : Prop := RR sC 1 w v l ∧ (0 < l.length → ∀ k, v.ownBlock = some k → k ∉ K ∧ k < w.heap.size)
theorem SR.kr {K : List Nat} {w : World} {v : Value} {l : List (List UInt8)} (h : SR K w v l) : KR K w v l := ⟨h.1, fun _ k hk => by
  obtain ⟨⟨a, c, rfl, _⟩, hb⟩ := h
  cases a with
  | none => cases hk
  | some p =>
    injection hk with hk
    subst hk
    exact hb _ _ _ rfl⟩
theorem KR.stp {K K' : List Nat} {w w' : World} {v : Value} {l : List (List UInt8)} (h : KR K w v l) (x : Stp K K' w w') : KR K' w' v l := by
  refine ⟨?_, fun h0 k hk => ⟨fun hm => (x.2 k hm).elim (h.2 h0 k hk).1 (fun h2 => by have := (h.2 h0 k hk).2; omega), Nat.lt_of_lt_of_le (h.2 h0 k hk).2 x.1.size⟩⟩
  obtain ⟨⟨a, c, rfl, h0', hn, h2⟩, hb⟩ := h
  refine ⟨a, c, rfl, h0', hn, fun hl => ?_⟩
  obtain ⟨g, o, rfl, h4⟩ := h2 hl
  have hg := hb hl g rfl
  exact ⟨g, o, rfl, fun k y hk j u hu => by rw [x.1.cell hg.2 hg.1]; exact h4 k y hk j u hu⟩
/-- these names are cleaned away, but those to keep -/
def cleanN (keep : List (List UInt8)) : List (List UInt8) → Nat → Dsk → Dsk × Nat × Int
  | [], n, d => if n = 0 then (d, 0, 0) else (d.dirSync.1, n, d.dirSync.2)
  | s :: r, n, d => if s ∈ keep then cleanN keep r n d else if (d.remove s).2 = 0 then cleanN keep r (n + 1) (d.remove s).1 else ((d.remove s).1, n, (d.remove s).2)
def Dsk.clean (d : Dsk) (keep : List (List UInt8)) : Dsk × Nat × Int := cleanN keep d.list 0 d
theorem cleanN_keep {keep L : List (List UInt8)} {k n : Nat} {d : Dsk} {s : List UInt8} (hs : L[k]? = some s) (hm : s ∈ keep) : cleanN keep (L.drop k) n d = cleanN keep (L.drop (k + 1)) n d := by
  obtain ⟨hk, e⟩ := List.getElem?_eq_some_iff.1 hs
  rw [List.drop_eq_getElem_cons hk, e]
  exact if_pos hm
theorem cleanN_rem {keep L : List (List UInt8)} {k n : Nat} {d : Dsk} {s : List UInt8} (hs : L[k]? = some s) (hm : ¬ s ∈ keep) (hz : (d.remove s).2 = 0) : cleanN keep (L.drop k) n d = cleanN keep (L.drop (k + 1)) (n + 1) (d.remove s).1 := by
  obtain ⟨hk, e⟩ := List.getElem?_eq_some_iff.1 hs
  rw [List.drop_eq_getElem_cons hk, e]
  exact (if_neg hm).trans (if_pos hz)
theorem cleanN_err {keep L : List (List UInt8)} {k n : Nat} {d : Dsk} {s : List UInt8} (hs : L[k]? = some s) (hm : ¬ s ∈ keep) (hz : ¬ (d.remove s).2 = 0) : cleanN keep (L.drop k) n d = ((d.remove s).1, n, (d.remove s).2) := by
  obtain ⟨hk, e⟩ := List.getElem?_eq_some_iff.1 hs
  rw [List.drop_eq_getElem_cons hk, e]
  exact (if_neg hm).trans (if_neg hz)
set_option maxRecDepth 20000 in
set_option maxHeartbeats 2000000 in
theorem clean_any {w : World} {b : Nat} {K : List Nat} {d : Dsk} (h : Has w b K d) (hop : d.ops ≤ 400000) (keep : List (List UInt8)) (v : Value) (hv : KR K w v keep) (hkl : (keep.length : Int) ≤ 1000000000) :
    Calls Tryz.prog 20 #[.pointer (some ⟨b, 0, none⟩), v] w fun e w' => e = .returned (.tuple #[.int .i64 ((d.clean keep).2.1 : Int), .int .i64 (d.clean keep).2.2]) ∧ ∃ K', Has w' b K' (d.clean keep).1 ∧ Stp K K' w w' := by
  have LS : (d.list.length : Int) ≤ 400000 := by
    have := h.ok.dirL
    unfold Dsk.list
    split
    · simp
    · rw [List.length_map]; omega
  have LN := Lib.hid (fun s hs => (list_len h.ok s hs).1)
  have q := has_list h (by omega)
  obtain ⟨r, hr⟩ : ∃ r, r = d.clean keep := ⟨_, rfl⟩
  rw [← hr]
  have HR := Lib.hid (show r = cleanN keep (d.list.drop 0) 0 d from hr)
  have LSi := Lib.hid LS
  have Q := Lib.hid q
  have H := Lib.hid h
  have HV := Lib.hid hv
  clear hr q h hv LS
  go_enter Tryz.func20, Tryz.ntmps20
  go_wp2_with fail
  refine Calls.mono Q.out ?_
  rintro _ w1 ⟨vl, rfl, sw, x1⟩
  have sr := sw.sr H.out.lt
  obtain ⟨L, hL⟩ : ∃ L, L = d.list := ⟨_, rfl⟩
  rw [← hL] at sr HR LN LSi
  obtain ⟨va, vc, rfl⟩ := sr.shape
  have I0 := Lib.hid (show Has w1 b K d ∧ Stp K K w w1 ∧ KR K w1 v keep ∧ SR K w1 (.slice va L.length vc) L ∧ d.ops ≤ 400000 + 0 from ⟨H.out.ext x1, Stp.of_ext x1, HV.out.stp (Stp.of_ext x1), sr, by omega⟩)
  clear sr sw x1 Q H HV hL
  go_wp2_with fail
  go_loopw [13, 6] (fun i c wr => ∃ (k n : Nat) (K' : List Nat) (d' : Dsk), i = .int .i64 (k : Int) ∧ c = .int .i64 (n : Int) ∧ k ≤ L.length ∧ n ≤ k ∧ RowKit.Hid (Has wr b K' d' ∧ Stp K K' w wr ∧ KR K' wr v keep ∧ SR K' wr (.slice va L.length vc) L ∧ d'.ops ≤ 400000 + n) ∧ RowKit.Hid (r = cleanN keep (L.drop k) n d')) (fun i _ _ => L.length - (intOf i).toNat)
  case atStart => exact ⟨0, 0, K, d, rfl, rfl, Nat.zero_le _, Nat.le_refl _, I0, HR⟩
  case round =>
    obtain ⟨k, n, K', d', rfl, rfl, hk, hnk, HS, HQ⟩ := hrel
    clear I0 HR
    by_cases hlt : k < L.length
    · have hI : (k : Int) < (L.length : Int) := by omega
      obtain ⟨s, hs⟩ : ∃ s, L[k]? = some s := ⟨_, List.getElem?_eq_getElem hlt⟩
      obtain ⟨g, o, rfl, c0⟩ := HS.out.2.2.2.1.cell hs
      have hsl := LN.out s (List.mem_of_getElem? hs)
      have QC := Lib.hid (hasN_any keep s v wr HS.out.2.2.1.1 hkl)
      have QR := Lib.hid (has_remove HS.out.1 (by have := HS.out.2.2.2.2; have := LSi.out; omega) s (by unfold maxLen; omega))
      have C1 := Lib.hid (fun hm => cleanN_keep (n := n) (d := d') hs (keep := keep) hm)
      have C2 := Lib.hid (fun hm hz => cleanN_rem (n := n) (d := d') hs (keep := keep) hm hz)
      have C3 := Lib.hid (fun hm hz => cleanN_err (n := n) (d := d') hs (keep := keep) hm hz)
      have OR := Lib.hid (remove_ops d' s)
      have HKM := Lib.hid (show n ≤ k ∧ k < L.length from ⟨hnk, hlt⟩)
      clear hs hsl hk hnk hlt
      have hLb := LSi.out
      go_wp2_with fail
      refine Calls.mono QC.out ?_
      rintro _ w2 ⟨rfl, rfl⟩
      by_cases hm : s ∈ keep
      · rw [decide_eq_true hm]
        have HQ2 := Lib.hid (HQ.out.trans (C1.out hm))
        clear hm C1 C2 C3 QR QC c0 HQ
        go_wp2_with fail
        go_roundw
        case rel => exact ⟨k + 1, n, K', d', by go_num, rfl, by have := HKM.out; omega, by have := HKM.out; omega, HS, HQ2⟩
        case measure => simp [intOf]; have := HKM.out; omega
      · rw [decide_eq_false hm]
        have HM := Lib.hid hm
        clear hm C1 QC c0
        go_wp2_with fail
        refine Calls.mono QR.out ?_
        rintro _ w2 ⟨rfl, K2, h2, st2⟩
        have I2 := Lib.hid (show Has w2 b K2 (d'.remove s).1 ∧ Stp K K2 w w2 ∧ KR K2 w2 v keep ∧ SR K2 w2 (.slice (some ⟨g, o, none⟩) L.length vc) L ∧ (d'.remove s).1.ops ≤ 400000 + ((n + 1 : Nat) : Int) from ⟨h2, HS.out.2.1.trans st2, HS.out.2.2.1.stp st2, HS.out.2.2.2.1.stp st2, by have := OR.out; have := HS.out.2.2.2.2; omega⟩)
        clear h2 st2 QR
        by_cases hz : (d'.remove s).2 = 0
        · have HQ2 := Lib.hid (HQ.out.trans (C2.out HM.out hz))
          rw [hz]
          have hnb : (n : Int) < 400000 := by have := HKM.out; omega
          clear hz C2 C3 HS HQ
          go_wp2_with fail
          go_roundw
          case rel => exact ⟨k + 1, n + 1, K2, (d'.remove s).1, by go_num, by go_num, by have := HKM.out; omega, by have := HKM.out; omega, I2, HQ2⟩
          case measure => simp [intOf]; have := HKM.out; omega
        · have e := HQ.out.trans (C3.out HM.out hz)
          have I3 := Lib.hid (show Has w2 b K2 r.1 from by rw [e]; exact I2.out.1)
          have e2 : (d'.remove s).2 = r.2.2 := by rw [e]
          have e3 : (n : Int) = (r.2.1 : Int) := by rw [e]
          rw [e2] at hz ⊢
          have E3 := Lib.hid e3
          clear e e2 e3 C2 C3 HS HQ
          go_wp2_with fail
          exact bodyPost_ret (results_tmp2 rfl _ _ _) rfl ⟨by rw [← E3.out]; rfl, K2, I3.out, I2.out.2.1⟩
    · obtain rfl : k = L.length := by omega
      have QD := Lib.hid (has_dirSync HS.out.1 (by have := HS.out.2.2.2.2; have := LSi.out; omega))
      have HQ2 := HQ.out
      rw [List.drop_length] at HQ2
      clear HQ hk
      by_cases hn : n = 0
      · subst hn
        have e : r = (d', 0, 0) := HQ2
        subst e
        clear HQ2 QD
        go_wp2_with fail
        exact bodyPost_ret (results_tmp2 rfl _ _ _) rfl ⟨rfl, K', HS.out.1, HS.out.2.1⟩
      · have e : r = (d'.dirSync.1, n, d'.dirSync.2) := HQ2.trans (if_neg hn)
        have hn2 : ((n : Int) == 0) = false := by simpa using hn
        have HE := Lib.hid e
        clear HQ2 e
        go_wp2_with fail
        refine Calls.mono QD.out ?_
        rintro _ w2 ⟨rfl, K2, h2, st2⟩
        have I2 := Lib.hid (show Has w2 b K2 r.1 ∧ Stp K K2 w w2 from ⟨by rw [HE.out]; exact h2, HS.out.2.1.trans st2⟩)
        clear h2 st2
        go_wp2_with fail
        exact bodyPost_ret (results_tmp2 rfl _ _ _) rfl ⟨by rw [HE.out]; rfl, K2, I2.out.1, I2.out.2⟩
end Go.Proofs.YtmjkfgpkohfmiaaGreat
