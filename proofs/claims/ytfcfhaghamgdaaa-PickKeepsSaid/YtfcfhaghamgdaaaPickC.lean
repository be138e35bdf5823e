/- pick: sealed, bytes, Sum; varveref27: Sum. -/
import Derived.Test.YtfcfhaghamgdaaaEntD
namespace Go.Proofs.Ytfcfhaghamgdaaa
set_option linter.unusedVariables false
set_option linter.unusedSimpArgs false
open Go.RowKit

/-- the bytes of entries -/
def bytesL (l : List E9) : Int := (l.map (·.bytes)).foldr (· + ·) 0
theorem bytesL_cons (e : E9) (l : List E9) : bytesL (e :: l) = e.bytes + bytesL l := rfl
theorem bytesL_append (a b : List E9) : bytesL (a ++ b) = bytesL a + bytesL b := by
  induction a with
  | nil => simp [bytesL]
  | cons x a ih => rw [List.cons_append, bytesL_cons, ih, bytesL_cons]; omega
theorem bytesL_step {l : List E9} {k : Nat} (hk : k < l.length) : bytesL (l.take (k + 1)) = bytesL (l.take k) + (l.getD k default).bytes := by
  rw [List.take_succ_eq_append_getElem hk, bytesL_append, List.getD_eq_getElem?_getD, List.getElem?_eq_getElem hk]
  simp [bytesL]
/-- entries whose bytes and times may be reckoned with -/
def tame (l : List E9) : Prop := ∀ e ∈ l, 0 ≤ e.bytes ∧ e.bytes ≤ 1000000 ∧ 0 ≤ e.late ∧ e.late ≤ 1000000000
theorem bytesL_le {l : List E9} (h : tame l) : 0 ≤ bytesL l ∧ bytesL l ≤ 1000000 * (l.length : Int) := by
  induction l with
  | nil => simp [bytesL]
  | cons e l ih =>
    have h1 := ih (fun x hx => h x (List.mem_cons_of_mem _ hx))
    have h2 := h e List.mem_cons_self
    rw [bytesL_cons, List.length_cons]; omega
theorem tame_take {l : List E9} (h : tame l) (k : Nat) : tame (l.take k) := fun e he => h e (List.mem_of_mem_take he)
theorem tame_drop {l : List E9} (h : tame l) (k : Nat) : tame (l.drop k) := fun e he => h e (List.mem_of_mem_drop he)
theorem entP_tame {e : E9} (h : entP e = true) : 0 ≤ e.bytes ∧ e.bytes ≤ 1000000 ∧ 0 ≤ e.late ∧ e.late ≤ 1000000000 := by
  unfold entP at h
  rw [Bool.and_eq_true] at h
  obtain ⟨-, h2⟩ := h
  cases hs : e.sld with
  | true =>
    rw [hs, if_pos rfl] at h2
    have h2 : sealD _ _ _ _ _ _ := of_decide_eq_true h2
    obtain ⟨-, -, -, -, -, b1, b2, b3, b4, b5⟩ := h2
    omega
  | false =>
    rw [hs, if_neg (by decide)] at h2
    have h2 : openD _ _ _ _ _ := of_decide_eq_true h2
    obtain ⟨-, -, -, b4, b5⟩ := h2
    omega
theorem rowP_parts {l : List E9} (h : rowP l = true) : 1 ≤ (l.length : Int) ∧ (l.length : Int) ≤ 100 ∧ (l.getD (l.length - 1) default).sld = false ∧ eTo l l.length = true := by
  unfold rowP at h
  rw [Bool.and_eq_true, Bool.and_eq_true, decide_eq_true_eq] at h
  exact ⟨h.1.1, h.1.2, by simpa using h.2.1, h.2.2⟩
theorem rowP_tame {l : List E9} (h : rowP l = true) : tame l := by
  intro e he
  obtain ⟨i, hi, rfl⟩ := List.mem_iff_getElem.1 he
  have := eTo_ent (rowP_parts h).2.2.2 hi
  rw [List.getD_eq_getElem?_getD, List.getElem?_eq_getElem hi] at this
  exact entP_tame this

set_option maxRecDepth 20000 in
set_option maxHeartbeats 4000000 in
theorem bytes_any (l : List E9) (v : Value) (w : World) (hr : RR entC 9 w v l) (ht : tame l) (hl : (l.length : Int) ≤ 1000) :
    Calls Try.prog 25 #[v] w fun e w' => e = .returned (.int .i64 (bytesL l)) ∧ Ext w w' := by
  have HT := Lib.hid (fun k => bytesL_le (tame_take ht k))
  obtain ⟨a, c, rfl, _, _, hs⟩ := hr
  have HS := Lib.hid hs
  clear hs ht
  go_enter Try.func25, Try.ntmps25
  go_wp2
  go_loopw [8, 3] (fun i n wr => ∃ k : Nat, i = .int .i64 (k : Int) ∧ k ≤ l.length ∧ n = .int .i64 (bytesL (l.take k)) ∧ Ext w wr) (fun i _ _ => l.length - (intOf i).toNat)
  case atStart => exact ⟨0, rfl, Nat.zero_le _, rfl, Ext.refl _⟩
  case round =>
    obtain ⟨k, rfl, hk, rfl, hx⟩ := hrel
    have HX := Lib.hid hx
    by_cases hlt : k < l.length
    · have hI : (k : Int) < (l.length : Int) := by omega
      obtain ⟨g, o, rfl, hc⟩ := HS.out (by omega)
      have R := Lib.hid (rangeAt_ext (hc k _ (ent_at hlt)) hx)
      have hst := bytesL_step hlt
      have hb1 := HT.out k
      have hb2 := HT.out (k + 1)
      rw [List.length_take] at hb1 hb2
      clear hx hc
      generalize hen : l.getD k default = en at *
      clear hen
      have H1 := Lib.hid (entC_all en)
      have HZ := Lib.hid ent_size
      obtain ⟨eid, egen, efst, esld, ecnt, eblk, eearly, elate, ebytes⟩ := en
      have R := Lib.hid (show wr.rangeAt g (o + k * 9) [.int .i64 eid, .int .i64 egen, .int .i64 efst, .bool esld, .int .i64 ecnt, .int .i64 eblk, .int .i64 eearly, .int .i64 elate, .int .i64 ebytes] from R.out)
      have B4 := Blk.new wr 51 #[.int .i64 eid, .int .i64 egen, .int .i64 efst, .bool esld, .int .i64 ecnt, .int .i64 eblk, .int .i64 eearly, .int .i64 elate, .int .i64 ebytes]
      have c8 := B4.cell 8
      have hw : IntKind.i64.wrap (bytesL (l.take k) + ebytes) = bytesL (l.take (k + 1)) := by
        have hst' : bytesL (l.take (k + 1)) = bytesL (l.take k) + ebytes := hst
        rw [← hst', IntKind.wrap_i64]; omega
      generalize bytesL (l.take k) = u at *
      obtain ⟨u2, hu2⟩ : ∃ u2, u2 = bytesL (l.take (k + 1)) := ⟨_, rfl⟩
      rw [← hu2] at hw
      have HU := Lib.hid hu2
      clear hu2 B4 hb1 hb2 hst
      go_wp2_with (first
        | (refine wpList_load_mid rfl 51 (.tmp 10) rfl g _ rfl _ _ R.out Try.underlying51 rfl HZ.out ?_)
        | (refine wpList_store_new (cs' := #[.int .i64 eid, .int .i64 egen, .int .i64 efst, .bool esld, .int .i64 ecnt, .int .i64 eblk, .int .i64 eearly, .int .i64 elate, .int .i64 ebytes]) rfl 51 (.tmp 5) (.tmp 11) rfl rfl rfl rfl HZ.out H1.out ?_))
      go_roundw
      case rel => exact ⟨k + 1, by go_num, by omega, by rw [← HU.out], HX.out.alloc _⟩
      case measure => simp [intOf]; omega
    · obtain rfl : k = l.length := by omega
      have P1 := Lib.hid (show bytesL (l.take l.length) = bytesL l by rw [List.take_of_length_le (Nat.le_refl _)])
      clear hx hk
      go_wp2
      go_ret
      exact ⟨by rw [← P1.out]; rfl, HX.out⟩

set_option maxRecDepth 20000 in
theorem sealed_any (a : Option Addr) (n c : Nat) (w : World) (hn : n + 1 ≤ c) (hb : (n : Int) ≤ 1000) :
    Calls Try.prog 24 #[.slice a (n + 1) c] w fun e w' => e = .returned (.slice a n c) ∧ w = w' := by
  have h1 : IntKind.i64.wrap (n : Int) = (n : Int) := by rw [IntKind.wrap_i64]; omega
  have h2 : (n : Int) ≤ (c : Int) := by omega
  go_enter Try.func24, Try.ntmps24
  go_wp2
  go_ret
  exact ⟨rfl, rfl⟩

/-- the sum of a log's sealed bytes -/
def sumP (l : List E9) : Int := if rowP l then bytesL l else 0
theorem row_split {l : List E9} (h : rowP l = true) : bytesL (l.take (l.length - 1)) = bytesL l := by
  obtain ⟨h1, h2, h3, h4⟩ := rowP_parts h
  have h5 := eTo_ent h4 (show l.length - 1 < l.length by omega)
  have h6 := bytesL_step (l := l) (k := l.length - 1) (by omega)
  rw [show l.length - 1 + 1 = l.length by omega, List.take_of_length_le (Nat.le_refl _)] at h6
  unfold entP at h5
  rw [h3, Bool.and_eq_true, if_neg (by decide)] at h5
  have h5 : openD _ _ _ _ _ := of_decide_eq_true h5.2
  rw [h6, h5.2.2.2.2]; omega

set_option maxRecDepth 20000 in
theorem wSum_any (l : List E9) (v : Value) (w : World) (hr : RR entC 9 w v l) :
    Calls Try.prog 11 #[v] w fun e w' => e = .returned (.int .i64 (sumP l)) ∧ Ext w w' := by
  have q := eRow_any l v w hr
  have HR := Lib.hid hr
  obtain ⟨a, c, rfl, hc, _, _⟩ := hr
  cases hrow : rowP l with
  | false =>
    rw [hrow] at q
    have q := Lib.hid q
    have hs := Lib.hid (show sumP l = 0 by unfold sumP; rw [hrow]; rfl)
    clear hrow
    go_enter Try.func11, Try.ntmps11
    go_wp2_with fail
    refine (q.out).mono ?_
    rintro _ w1 ⟨rfl, x1⟩
    simp only [errI, Bool.false_eq_true, if_false]
    go_wp2
    go_ret
    exact ⟨by rw [hs.out]; rfl, x1⟩
  | true =>
    rw [hrow] at q
    have q := Lib.hid q
    have hs := Lib.hid (show sumP l = bytesL (l.take (l.length - 1)) by unfold sumP; rw [hrow, row_split hrow]; rfl)
    obtain ⟨h1, h2, _, _⟩ := rowP_parts hrow
    have ht := rowP_tame hrow
    obtain ⟨m, hm⟩ : ∃ m, l.length = m + 1 := ⟨l.length - 1, by omega⟩
    have qs := Lib.hid (fun w => sealed_any a m c w (by omega) (by omega))
    have qb := Lib.hid (fun w (h : RR entC 9 w (.slice a l.length c) l) => bytes_any (l.take m) _ w (RR.take h m (by omega)) (tame_take ht m) (by rw [List.length_take]; omega))
    rw [hm] at q qb HR hs ⊢
    rw [show m + 1 - 1 = m from rfl] at hs
    clear hrow h1 h2 ht hm
    go_enter Try.func11, Try.ntmps11
    go_wp2_with fail
    refine (q.out).mono ?_
    rintro _ w1 ⟨rfl, x1⟩
    simp only [errI, if_true]
    have X1 := Lib.hid x1
    clear x1
    go_wp2_with fail
    refine (qs.out _).mono ?_
    rintro _ _ ⟨rfl, rfl⟩
    go_wp2_with fail
    refine (qb.out _ (HR.out.ext X1.out)).mono ?_
    rintro _ w2 ⟨rfl, x2⟩
    go_wp2
    go_ret
    exact ⟨by rw [hs.out]; rfl, X1.out.trans x2⟩
end Go.Proofs.Ytfcfhaghamgdaaa
