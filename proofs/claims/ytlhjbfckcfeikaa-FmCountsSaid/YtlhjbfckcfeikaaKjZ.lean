/- Several texts in one. merged: KjL KjA KjB KjC KjD KjE KjF KjG -/
import Derived.Test.YtlhjbfckcfeikaaRow
import Derived.Test.YtlhjbfckcfeikaaQuiet
import Derived.WalkMore
import Derived.ScopeJumps
import Derived.Test.YtlhjbfckcfeikaaAnyX
import Derived.LoopTactic
import Derived.Test.YtlhjbfckcfeikaaMinMax
namespace Go.Proofs.Ytlhjbfckcfeikaa
set_option linter.unusedVariables false

/-- the longest beginning of what, of no more than k bytes, that t ends in -/
def ovGo (what t : List UInt8) : Nat → Nat
  | 0 => 0
  | k + 1 => if k + 1 ≤ what.length ∧ what.take (k + 1) = t.drop (t.length - (k + 1)) then k + 1 else ovGo what t k
/-- the longest beginning of what that t ends in -/
def ov (what t : List UInt8) : Nat := ovGo what t t.length
/-- the border at place i -/
def failL (what : List UInt8) (i : Nat) : Nat := ovGo what (what.take (i + 1)) i

def Mt (what t : List UInt8) (k : Nat) : Prop := k ≤ what.length ∧ what.take k <:+ t
theorem Mt.zero (what t : List UInt8) : Mt what t 0 := ⟨Nat.zero_le _, by simp⟩
theorem mt_iff {what t : List UInt8} {k : Nat} (hk : k ≤ what.length) (ht : k ≤ t.length) : Mt what t k ↔ what.take k = t.drop (t.length - k) := by
  unfold Mt
  rw [List.suffix_iff_eq_drop, List.length_take, Nat.min_eq_left hk]
  exact ⟨fun h => h.2, fun h => ⟨hk, h⟩⟩
theorem Mt.le {what t : List UInt8} {k : Nat} (h : Mt what t k) : k ≤ t.length := by
  have := h.2.length_le
  rw [List.length_take, Nat.min_eq_left h.1] at this; exact this
theorem ovGo_spec (what t : List UInt8) : ∀ K, K ≤ t.length → Mt what t (ovGo what t K) ∧ ovGo what t K ≤ K ∧ ∀ k, k ≤ K → Mt what t k → k ≤ ovGo what t K
  | 0, _ => ⟨Mt.zero _ _, Nat.le_refl _, fun k hk _ => hk⟩
  | K + 1, h => by
    obtain ⟨h1, h2, h3⟩ := ovGo_spec what t K (by omega)
    unfold ovGo
    split
    · next hc => exact ⟨(mt_iff hc.1 h).2 hc.2, Nat.le_refl _, fun k hk _ => hk⟩
    · next hc =>
      refine ⟨h1, by omega, fun k hk hm => ?_⟩
      rcases Nat.lt_or_ge K k with hlt | hge
      · obtain rfl : k = K + 1 := by omega
        exact absurd ⟨hm.1, (mt_iff hm.1 h).1 hm⟩ hc
      · exact h3 k hge hm
theorem ov_mt (what t : List UInt8) : Mt what t (ov what t) := (ovGo_spec what t _ (Nat.le_refl _)).1
theorem ov_max {what t : List UInt8} {k : Nat} (h : Mt what t k) : k ≤ ov what t := (ovGo_spec what t _ (Nat.le_refl _)).2.2 k h.le h
theorem ov_le (what t : List UInt8) : ov what t ≤ what.length := (ov_mt what t).1
theorem ov_le' (what t : List UInt8) : ov what t ≤ t.length := (ov_mt what t).le
theorem ov_eq_of {what t t' : List UInt8} (h : ∀ k, Mt what t k ↔ Mt what t' k) : ov what t = ov what t' :=
  Nat.le_antisymm (ov_max ((h _).1 (ov_mt what t))) (ov_max ((h _).2 (ov_mt what t')))
theorem ov_unique {what t : List UInt8} {k : Nat} (h : Mt what t k) (hm : ∀ j, Mt what t j → j ≤ k) : ov what t = k := Nat.le_antisymm (hm _ (ov_mt _ _)) (ov_max h)

theorem suffix_concat {a t : List UInt8} {x b : UInt8} : a ++ [x] <:+ t ++ [b] ↔ a <:+ t ∧ x = b := by
  rw [← List.reverse_prefix, List.reverse_append, List.reverse_append]
  simp only [List.reverse_cons, List.reverse_nil, List.nil_append, List.singleton_append, List.cons_prefix_cons, List.reverse_prefix]
  exact ⟨fun h => ⟨h.2, h.1⟩, fun h => ⟨h.2, h.1⟩⟩
theorem mt_concat {what t : List UInt8} {b : UInt8} {j : Nat} : Mt what (t ++ [b]) (j + 1) ↔ j < what.length ∧ what.take j <:+ t ∧ what[j]? = some b := by
  unfold Mt
  constructor
  · rintro ⟨h1, h2⟩
    have hj : j < what.length := by omega
    rw [List.take_succ_eq_append_getElem hj, suffix_concat] at h2
    exact ⟨hj, h2.1, by rw [List.getElem?_eq_getElem hj, h2.2]⟩
  · rintro ⟨hj, h2, h3⟩
    rw [List.getElem?_eq_getElem hj] at h3
    injection h3 with h3
    refine ⟨by omega, ?_⟩
    rw [List.take_succ_eq_append_getElem hj, suffix_concat]
    exact ⟨h2, h3⟩
/-- step, the bytes go on -/
theorem ov_hit {what : List UInt8} {b : UInt8} {st : Nat} (h : what[st]? = some b) : ov what (what.take st ++ [b]) = st + 1 := by
  have hst : st < what.length := (List.getElem?_eq_some_iff.1 h).1
  refine ov_unique (mt_concat.2 ⟨hst, List.suffix_refl _, h⟩) fun j hj => ?_
  have := hj.le
  simp only [List.length_append, List.length_take, List.length_singleton] at this; omega
/-- step, at the beginning -/
theorem ov_zero {what : List UInt8} {b : UInt8} (h : what[0]? ≠ some b) : ov what (what.take 0 ++ [b]) = 0 := by
  refine ov_unique (Mt.zero _ _) fun j hj => ?_
  cases j with
  | zero => exact Nat.le_refl _
  | succ j =>
    have h1 := hj.le
    obtain ⟨_, _, h2⟩ := mt_concat.1 hj
    simp only [List.take_zero, List.nil_append, List.length_singleton] at h1
    obtain rfl : j = 0 := by omega
    exact absurd h2 h
theorem failL_spec (what : List UInt8) {st : Nat} (h0 : 0 < st) (hst : st ≤ what.length) : Mt what (what.take st) (failL what (st - 1)) ∧ failL what (st - 1) < st ∧ ∀ k, k < st → Mt what (what.take st) k → k ≤ failL what (st - 1) := by
  have e : st - 1 + 1 = st := by omega
  unfold failL
  rw [e]
  obtain ⟨h1, h2, h3⟩ := ovGo_spec what (what.take st) (st - 1) (by rw [List.length_take]; omega)
  exact ⟨h1, by omega, fun k hk => h3 k (by omega)⟩
/-- step, back by a border -/
theorem ov_back {what : List UInt8} {b : UInt8} {st : Nat} (h0 : 0 < st) (hst : st ≤ what.length) (h : what[st]? ≠ some b) : ov what (what.take st ++ [b]) = ov what (what.take (failL what (st - 1)) ++ [b]) := by
  obtain ⟨h1, h2, h3⟩ := failL_spec what h0 hst
  generalize failL what (st - 1) = f at *
  refine ov_eq_of fun k => ?_
  cases k with
  | zero => exact ⟨fun _ => Mt.zero _ _, fun _ => Mt.zero _ _⟩
  | succ j =>
    rw [mt_concat, mt_concat]
    constructor
    · rintro ⟨p1, p2, p3⟩
      refine ⟨p1, ?_, p3⟩
      have hj : j < st := by
        have := p2.length_le
        simp only [List.length_take] at this
        rcases Nat.lt_or_ge j st with h' | h'
        · exact h'
        · obtain rfl : j = st := by omega
          exact absurd p3 h
      have := h3 j hj ⟨by omega, p2⟩
      exact List.suffix_of_suffix_length_le p2 h1.2 (by simp only [List.length_take]; omega)
    · rintro ⟨p1, p2, p3⟩
      exact ⟨p1, p2.trans h1.2, p3⟩
/-- a byte behind a text: all that is asked of the text is its state -/
theorem ov_concat (what t : List UInt8) (b : UInt8) : ov what (t ++ [b]) = ov what (what.take (ov what t) ++ [b]) := by
  have h1 := ov_mt what t
  have h3 : ∀ k, Mt what t k → k ≤ ov what t := fun k => ov_max
  generalize ov what t = f at *
  refine ov_eq_of fun k => ?_
  cases k with
  | zero => exact ⟨fun _ => Mt.zero _ _, fun _ => Mt.zero _ _⟩
  | succ j =>
    rw [mt_concat, mt_concat]
    constructor
    · rintro ⟨p1, p2, p3⟩
      have := h3 j ⟨by omega, p2⟩
      exact ⟨p1, List.suffix_of_suffix_length_le p2 h1.2 (by have := h1.1; simp only [List.length_take]; omega), p3⟩
    · rintro ⟨p1, p2, p3⟩
      exact ⟨p1, p2.trans h1.2, p3⟩
theorem ov_nil (what : List UInt8) : ov what [] = 0 := rfl
theorem ov_full (what t : List UInt8) : ov what t = what.length ↔ what <:+ t := by
  constructor
  · intro h
    have := (ov_mt what t).2
    rw [h, List.take_length] at this; exact this
  · intro h
    exact Nat.le_antisymm (ov_le _ _) (ov_max ⟨Nat.le_refl _, by rw [List.take_length]; exact h⟩)
/-- the borders of all places, as Fail and the document's Fail have them -/
theorem failL_ov {what : List UInt8} {i : Nat} (h0 : 0 < i) (hi : i < what.length) : failL what i = ov what (what.take (failL what (i - 1)) ++ [what[i]]) := by
  obtain ⟨f1, f2, f3⟩ := failL_spec what h0 (by omega)
  obtain ⟨g1, g2, g3⟩ := failL_spec what (st := i + 1) (by omega) (by omega)
  rw [Nat.add_sub_cancel] at g1 g2 g3
  symm
  have et : what.take (i + 1) = what.take i ++ [what[i]] := List.take_succ_eq_append_getElem hi
  generalize failL what i = g at *
  generalize failL what (i - 1) = f at *
  refine ov_unique ?_ fun j hj => ?_
  · cases g with
    | zero => exact Mt.zero _ _
    | succ j =>
      rw [et, mt_concat] at g1
      obtain ⟨p1, p2, p3⟩ := g1
      have := f3 j (by omega) ⟨by omega, p2⟩
      exact mt_concat.2 ⟨p1, List.suffix_of_suffix_length_le p2 f1.2 (by simp only [List.length_take]; omega), p3⟩
  · cases j with
    | zero => exact Nat.zero_le _
    | succ j =>
      obtain ⟨p1, p2, p3⟩ := mt_concat.1 hj
      have hl := p2.length_le
      simp only [List.length_take] at hl
      refine g3 (j + 1) (by omega) ?_
      rw [et, mt_concat]
      exact ⟨p1, p2.trans f1.2, p3⟩
theorem failL_zero (what : List UInt8) : failL what 0 = 0 := rfl
end Go.Proofs.Ytlhjbfckcfeikaa
namespace Go.Proofs.Ytlhjbfckcfeikaa
set_option linter.unusedVariables false
set_option linter.unusedSimpArgs false
open Go.RowKit

attribute [local go_sem] S_size S_toList S_append S_extract S_beq S_bne S_empty S_nil u8_beq

/-- what step comes to at a state: how it goes on -/
theorem step_cases (what : List UInt8) (st : Nat) (b : UInt8) (hst : st ≤ what.length) :
    ((st : Int) < (what.length : Int) ∧ what.getD st 0 = b ∧ ov what (what.take st ++ [b]) = st + 1) ∨
    ((what[st]? ≠ some b) ∧ (((st : Int) < (what.length : Int) ∧ what.getD st 0 ≠ b) ∨ ¬ (st : Int) < (what.length : Int)) ∧ st = 0 ∧ ov what (what.take st ++ [b]) = 0) ∨
    ((what[st]? ≠ some b) ∧ (((st : Int) < (what.length : Int) ∧ what.getD st 0 ≠ b) ∨ ¬ (st : Int) < (what.length : Int)) ∧ 0 < st ∧ ov what (what.take st ++ [b]) = ov what (what.take (failL what (st - 1)) ++ [b])) := by
  by_cases h : what[st]? = some b
  · refine .inl ⟨?_, ?_, ov_hit h⟩
    · have := (List.getElem?_eq_some_iff.1 h).1; omega
    · rw [List.getD_eq_getElem?_getD, h]; rfl
  · have hn : ((st : Int) < (what.length : Int) ∧ what.getD st 0 ≠ b) ∨ ¬ (st : Int) < (what.length : Int) := by
      by_cases hl : st < what.length
      · refine .inl ⟨by omega, fun e => h ?_⟩
        rw [← e, List.getD_eq_getElem?_getD, List.getElem?_eq_getElem hl]; rfl
      · exact .inr (by omega)
    rcases Nat.eq_zero_or_pos st with rfl | h0
    · exact .inr (.inl ⟨h, hn, rfl, ov_zero h⟩)
    · exact .inr (.inr ⟨h, hn, h0, ov_back h0 hst h⟩)

set_option maxRecDepth 20000 in
set_option maxHeartbeats 2000000 in
theorem kstep_any (what : List UInt8) (n : Nat) (a : Option Addr) (c st0 : Nat) (b : UInt8) (w : World) (hst0 : st0 ≤ what.length) (hw : (what.length : Int) ≤ 1000000000)
    (hl : 0 < st0 → ∃ g, a = some ⟨g, 0, none⟩ ∧ ∀ i, i < st0 → w.cell? ⟨g, i, none⟩ = some (.int .i64 (failL what i))) (hlen : st0 ≤ n) :
    Calls Try.prog 57 #[.string (S what), .slice a n c, .int .i64 st0, .int .u8 (U8 b)] w fun e w' => e = .returned (.int .i64 (ov what (what.take st0 ++ [b]))) ∧ w = w' := by
  obtain ⟨r, hr⟩ : ∃ r, r = ov what (what.take st0 ++ [b]) := ⟨_, rfl⟩
  rw [← hr]
  go_enter Try.func57, Try.ntmps57
  go_wp2_with fail
  refine wp_scope_jumps 0 (fun a' w' => w' = w ∧ ∃ (st : Nat) (u4 u5 u6 u7 u9 u10 u11 u12 u13 u14 u15 u16 u17 u18 u19 u20 u21 u22 u23 u24 u25 u26 u27 u28 u29 u30 : Value), a' = { tmps := #[.string (S what), .slice a n c, .int .i64 st, .int .u8 (U8 b), u4, u5, u6, u7, .int .i64 0, u9, u10, u11, u12, u13, u14, u15, u16, u17, u18, u19, u20, u21, u22, u23, u24, u25, u26, u27, u28, u29, u30], defers := [] } ∧ st ≤ st0 ∧ ov what (what.take st ++ [b]) = r) (fun a' _ => (intOf (a'.tmps.getD 2 undef)).toNat) rfl ?_ ?_
  · obtain ⟨st, rfl⟩ : ∃ st, st = st0 := ⟨_, rfl⟩
    have hov := hr.symm
    have hle := Nat.le_refl st
    have hR := Lib.hid hr
    clear hr
    rcases step_cases what st b (by omega) with ⟨h1, h2, h3⟩ | ⟨h0, h1, h2, h3⟩ | ⟨h0, h1, h2, h3⟩
    · have hi := index_S what st (by omega) b h2
      obtain rfl : r = st + 1 := by omega
      clear h2 h3 hov hl hst0
      go_wp2
      go_step3
      go_wp2
      simp only [Exit.jump]
      go_ret
      exact ⟨by simp, rfl⟩
    · subst h2
      obtain rfl : r = 0 := by omega
      clear h3 hov hl hst0 h0
      rcases h1 with ⟨h1, h2⟩ | h1
      · have hi := index_S what 0 (by omega) _ rfl
        rw [show ((0 : Nat) : Int) = 0 from rfl] at hi h1
        have hb : (what.getD 0 0 == b) = false := by simpa using h2
        generalize what.getD 0 0 = x at hi hb h2
        clear h2
        go_wp2
        go_step3
        go_wp2
        simp only [Exit.jump]
        go_ret
        exact ⟨rfl, rfl⟩
      · rw [show ((0 : Nat) : Int) = 0 from rfl] at h1
        go_wp2
        go_step3
        go_wp2
        simp only [Exit.jump]
        go_ret
        exact ⟨rfl, rfl⟩
    · obtain ⟨g, rfl, hc⟩ := hl (by omega)
      have hcell := hc (st - 1) (by omega)
      have hf := (failL_spec what h2 (by omega)).2.1
      have hov2 := Lib.hid (h3.symm.trans hov)
      generalize failL what (st - 1) = f at hcell hf hov2
      obtain ⟨st, rfl⟩ : ∃ k, st = k + 1 := ⟨st - 1, by omega⟩
      rw [Nat.add_sub_cancel] at hcell
      have hb9 : (st : Int) ≤ 1000000000 := by omega
      have hz : ((st : Int) + 1 == 0) = false := by simp; omega
      clear h3 hov hc hst0 h0 hl
      rcases h1 with ⟨h1, h3⟩ | h1
      · have hi := index_S what (st + 1) (by omega) _ rfl
        rw [show ((st + 1 : Nat) : Int) = (st : Int) + 1 from rfl] at hi h1
        have hb : (what.getD (st + 1) 0 == b) = false := by simpa using h3
        generalize what.getD (st + 1) 0 = x at hi hb h3
        clear h3
        go_wp2
        go_step3
        go_wp2
        go_step3
        refine ⟨rfl, rfl, f, _, _, _, _, _, _, _, _, _, _, _, _, _, _, _, _, _, _, _, _, _, _, _, _, _, _, rfl, by omega, hov2.out⟩
      · rw [show ((st + 1 : Nat) : Int) = (st : Int) + 1 from rfl] at h1
        go_wp2
        go_step3
        go_wp2
        go_step3
        refine ⟨rfl, rfl, f, _, _, _, _, _, _, _, _, _, _, _, _, _, _, _, _, _, _, _, _, _, _, _, _, _, _, rfl, by omega, hov2.out⟩
  · rintro a' w' ⟨rfl, st, u4, u5, u6, u7, u9, u10, u11, u12, u13, u14, u15, u16, u17, u18, u19, u20, u21, u22, u23, u24, u25, u26, u27, u28, u29, u30, rfl, hle, hov⟩
    have hR := Lib.hid hr
    clear hr
    rcases step_cases what st b (by omega) with ⟨h1, h2, h3⟩ | ⟨h0, h1, h2, h3⟩ | ⟨h0, h1, h2, h3⟩
    · have hi := index_S what st (by omega) b h2
      obtain rfl : r = st + 1 := by omega
      clear h2 h3 hov hl hst0
      go_wp2
      simp only [Exit.jump]
      go_ret
      exact ⟨by simp, rfl⟩
    · subst h2
      obtain rfl : r = 0 := by omega
      clear h3 hov hl hst0 h0
      rcases h1 with ⟨h1, h2⟩ | h1
      · have hi := index_S what 0 (by omega) _ rfl
        rw [show ((0 : Nat) : Int) = 0 from rfl] at hi h1
        have hb : (what.getD 0 0 == b) = false := by simpa using h2
        generalize what.getD 0 0 = x at hi hb h2
        clear h2
        go_wp2
        simp only [Exit.jump]
        go_ret
        exact ⟨rfl, rfl⟩
      · rw [show ((0 : Nat) : Int) = 0 from rfl] at h1
        go_wp2
        simp only [Exit.jump]
        go_ret
        exact ⟨rfl, rfl⟩
    · obtain ⟨g, rfl, hc⟩ := hl (by omega)
      have hcell := hc (st - 1) (by omega)
      have hf := (failL_spec what h2 (by omega)).2.1
      have hov2 := Lib.hid (h3.symm.trans hov)
      generalize failL what (st - 1) = f at hcell hf hov2
      obtain ⟨st, rfl⟩ : ∃ k, st = k + 1 := ⟨st - 1, by omega⟩
      rw [Nat.add_sub_cancel] at hcell
      have hb9 : (st : Int) ≤ 1000000000 := by omega
      have hz : ((st : Int) + 1 == 0) = false := by simp; omega
      clear h3 hov hc hst0 h0 hl
      rcases h1 with ⟨h1, h3⟩ | h1
      · have hi := index_S what (st + 1) (by omega) _ rfl
        rw [show ((st + 1 : Nat) : Int) = (st : Int) + 1 from rfl] at hi h1
        have hb : (what.getD (st + 1) 0 == b) = false := by simpa using h3
        generalize what.getD (st + 1) 0 = x at hi hb h3
        clear h3
        go_wp2
        go_step3
        refine ⟨rfl, ⟨rfl, f, _, _, _, _, _, _, _, _, _, _, _, _, _, _, _, _, _, _, _, _, _, _, _, _, _, _, rfl, by omega, hov2.out⟩, by simp [intOf]; omega⟩
      · rw [show ((st + 1 : Nat) : Int) = (st : Int) + 1 from rfl] at h1
        go_wp2
        go_step3
        refine ⟨rfl, ⟨rfl, f, _, _, _, _, _, _, _, _, _, _, _, _, _, _, _, _, _, _, _, _, _, _, _, _, _, _, rfl, by omega, hov2.out⟩, by simp [intOf]; omega⟩
end Go.Proofs.Ytlhjbfckcfeikaa
namespace Go.Proofs.Ytlhjbfckcfeikaa
set_option linter.unusedVariables false
set_option linter.unusedSimpArgs false
open Go.RowKit

attribute [local go_sem] S_size S_toList S_append S_extract S_beq S_bne S_empty S_nil u8_beq

/-- the borders of the first k places, and 0 behind them -/
def failTo (what : List UInt8) (k : Nat) : List Int := (List.range what.length).map fun i => if i < k then (failL what i : Int) else 0
def failsL (what : List UInt8) : List Int := (List.range what.length).map fun i => (failL what i : Int)
theorem failTo_length (what : List UInt8) (k : Nat) : (failTo what k).length = what.length := by simp [failTo]
theorem failsL_length (what : List UInt8) : (failsL what).length = what.length := by simp [failsL]
theorem failTo_zero (what : List UInt8) : failTo what 1 = List.replicate what.length 0 := by
  apply List.ext_getElem?
  intro i
  by_cases hi : i < what.length
  · simp only [failTo, List.getElem?_map, List.getElem?_range hi, Option.map_some, List.getElem?_replicate, if_pos hi]
    split
    · obtain rfl : i = 0 := by omega
      rfl
    · rfl
  · rw [List.getElem?_eq_none (by rw [failTo_length]; omega), List.getElem?_eq_none (by simp; omega)]
theorem failTo_all (what : List UInt8) (k : Nat) (hk : what.length ≤ k) : failTo what k = failsL what := by
  unfold failTo failsL
  apply List.map_congr_left
  intro i hi
  rw [if_pos (by have := List.mem_range.1 hi; omega)]
theorem failTo_get (what : List UInt8) (k i : Nat) (hi : i < k) (hl : i < what.length) : (failTo what k).getD i 0 = (failL what i : Int) := by
  simp [failTo, List.getD_eq_getElem?_getD, hl, hi]
theorem failsL_get (what : List UInt8) (i : Nat) (hl : i < what.length) : (failsL what).getD i 0 = (failL what i : Int) := by
  simp [failsL, List.getD_eq_getElem?_getD, hl]
theorem failTo_set (what : List UInt8) (k : Nat) : (failTo what k).set k (failL what k : Int) = failTo what (k + 1) := by
  apply List.ext_getElem?
  intro i
  rw [List.getElem?_set, failTo_length]
  by_cases hi : i < what.length
  · by_cases he : k = i
    · subst he; simp [failTo, hi]
    · rw [if_neg he]
      simp only [failTo, List.getElem?_map, List.getElem?_range hi, Option.map_some]
      by_cases h1 : i < k
      · rw [if_pos h1, if_pos (by omega)]
      · rw [if_neg h1, if_neg (by omega)]
  · by_cases he : k = i
    · subst he
      rw [if_pos rfl, if_neg hi]
      rw [List.getElem?_eq_none (by rw [failTo_length]; omega)]
    · rw [if_neg he, List.getElem?_eq_none (by rw [failTo_length]; omega), List.getElem?_eq_none (by rw [failTo_length]; omega)]

set_option maxRecDepth 20000 in
set_option maxHeartbeats 2000000 in
theorem fail_any (what : List UInt8) (w : World) (hw : (what.length : Int) ≤ 1000000000) :
    Calls Try.prog 56 #[.string (S what)] w fun e w' => ∃ v, e = .returned v ∧ Ext w w' ∧ IW w' w.heap.size v (failsL what) := by
  obtain ⟨n, hn⟩ : ∃ n, n = what.length := ⟨_, rfl⟩
  obtain ⟨hmk, hiw⟩ := IW.make w n (by omega)
  have hi0 : IW (w.alloc (.cells (madeCells #[.int .i64 0] n) 3)) w.heap.size (.slice (some ⟨w.heap.size, 0, none⟩) n n) (failTo what 1) := by
    rw [failTo_zero, ← hn]; exact hiw
  have HI := Lib.hid hi0
  clear hiw hi0
  have hnn := hn.symm
  have HN := Lib.hid hn
  clear hn
  go_enter Try.func56, Try.ntmps56
  go_wp2
  go_loopw [4] (fun i wr => ∃ k : Nat, 1 ≤ k ∧ (k ≤ n ∨ k = 1) ∧ i = .int .i64 k ∧ Ext w wr ∧ IW wr w.heap.size (.slice (some ⟨w.heap.size, 0, none⟩) n n) (failTo what k)) (fun i _ => n - (intOf i).toNat)
  case atStart => exact ⟨1, Nat.le_refl _, .inr rfl, rfl, (Ext.refl _).alloc _, HI.out⟩
  case round =>
    obtain ⟨k, hk1, hk, rfl, hx, hiw⟩ := hrel
    clear HI
    by_cases hlt : k < n
    · obtain ⟨j, rfl⟩ : ∃ j, k = j + 1 := ⟨k - 1, by omega⟩
      have hjw : j + 1 < what.length := by omega
      have hidx := index_S what (j + 1) hjw _ rfl
      have hov := failL_ov (what := what) (i := j + 1) (by omega) hjw
      have hget : what[j + 1] = what.getD (j + 1) 0 := by rw [List.getD_eq_getElem?_getD, List.getElem?_eq_getElem hjw]; rfl
      rw [Nat.add_sub_cancel, hget] at hov
      obtain ⟨a, c, ha, _, hs⟩ := hiw.shape
      rw [failTo_length] at ha hs
      obtain ⟨g, hg, _, hglt, hcell, hfrz⟩ := hs (by omega)
      obtain rfl : g = w.heap.size := by
        rw [hg] at ha; injection ha with h1 h2 h3; injection h1 with h1; injection h1 with h1; exact h1.symm
      have hcj := hcell j (by omega)
      rw [failTo_get what _ _ (by omega) (by omega)] at hcj
      have hck := hcell (j + 1) (by omega)
      have hfj := (failL_spec what (st := j + 1) (by omega) (by omega)).2.1
      rw [Nat.add_sub_cancel] at hfj
      have q := Lib.hid (fun (x : Up wr.drew) => kstep_any what n (some ⟨w.heap.size, 0, none⟩) n (failL what j) (what.getD (j + 1) 0) x.val (by omega) hw (fun _ => ⟨w.heap.size, rfl, fun i hi => by
        refine up_cell (W := wr.drew) (v := .int .i64 (failL what i)) ?_ x
        show wr.cell? _ = _
        rw [hcell i (by omega), failTo_get what _ _ (by omega) (by omega)]⟩) (by omega))
      rw [← hov] at q
      have HS := Lib.hid (fun (x : Up wr.drew) => by
        have h1 := ((hiw.drew.ext x.ext))
        have h2 := IW.set (l := failTo what (j + 1)) (g := w.heap.size) (cap := n) (by rw [failTo_length, hnn]; exact h1) (j + 1) (failL what (j + 1) : Int)
        rw [failTo_set, failTo_length, hnn] at h2
        exact h2)
      have cj := up_cell (W := wr.drew) hcj
      have ck := up_cell (W := wr.drew) hck
      have cf := fun x : Up wr.drew => show x.val.frozen? ⟨w.heap.size, j + 1, none⟩ = false from (World.frozen?_of_block (x.ext.block _ hglt)).trans (hfrz (j + 1))
      have hx2 := Lib.hid (hx.drew)
      have hjn : j < n := by omega
      have e1 : IntKind.i64.wrap (j : Int) = (j : Int) := IntWalk.i64_in _ (by omega)
      have e2 : (0 : Int) ≤ (j : Int) + 1 := by omega
      rw [show ((j + 1 : Nat) : Int) = (j : Int) + 1 from rfl] at hidx
      clear hov hs ha hg hcell hfrz hcj hck hget hiw hk1 hk hx
      generalize failL what j = f at *
      generalize failL what (j + 1) = r at *
      generalize what.getD (j + 1) 0 = b at *
      generalize (failTo what (j + 1)).getD (j + 1) 0 = old at *
      have hj9 : (n : Int) ≤ 1000000000 := by omega
      clear hjw hw
      go_wp2_with fail
      refine wp_region_lex _ rfl (by kernel_rfl) ?_
      dsimp only [List.length_cons, List.length_nil]
      repeat (first
        | (refine lex_want (by kernel_rfl) (by kernel_rfl) (by kernel_rfl) (by kernel_rfl) (fun _ _ _ _ h => h) (by kernel_rfl) (fun K hK => ?_)
           go_simp
           first
             | (refine hK _ ?_; clear hK K)
             | (apply Exists.intro
                refine ⟨fun _ => ?_, hK _ ?_⟩
                (go_at_call 57; (refine (q.out _).mono ?_; rintro e w' ⟨he, hw'⟩; exact ⟨he, hw' ▸ Ext.refl _⟩))
                clear hK K)))
      refine lex_last (by kernel_rfl) (by kernel_rfl) (by kernel_rfl) (by kernel_rfl) (by kernel_rfl) (fun x K hK => ?_)
      have p1 := ck x
      have p2 := cf x
      go_simp
      refine hK _ _ (fun y => ?_)
      have hy := Lib.hid ((HS.out x).ext y.ext)
      have hx3 := Lib.hid ((Ext.set (hx2.out.trans x.ext) (Nat.le_refl _) (.int .i64 r)).trans y.ext)
      clear hK p1 p2 ck cf cj q HS hidx
      go_wp2
      go_roundw
      case rel => exact ⟨j + 1 + 1, by omega, .inl (by omega), by go_num, hx3.out, hy.out⟩
      case measure => simp [intOf]; omega
    · have hv := hiw
      rw [failTo_all what k (by omega)] at hv
      have H := Lib.hid hv
      have X := Lib.hid hx
      have hk9 : ¬ (k : Int) < (n : Int) := by omega
      clear hiw hv hx hk hk1 hmk hw hlt
      go_wp2
      go_ret
      exact ⟨_, rfl, X.out, H.out⟩
end Go.Proofs.Ytlhjbfckcfeikaa
namespace Go.Proofs.Ytlhjbfckcfeikaa
set_option linter.unusedVariables false
set_option linter.unusedSimpArgs false
open Go.RowKit

attribute [local go_sem] S_size S_toList S_append S_extract S_beq S_bne S_empty S_nil u8_beq

/-- a state, as Walk takes it -/
def clampL (what : List UInt8) (state : Int) : Nat := (min (max state 0) (what.length : Int)).toNat
def walkL (what : List UInt8) (state : Int) (b : UInt8) : Nat := ov what (what.take (clampL what state) ++ [b])

/-- does a text stand at a place? -/
def atL (s what : List UInt8) (i : Nat) : Bool := decide (i + what.length ≤ s.length) && ((s.take (i + what.length)).drop i == what)

/-- the first place from a place on -/
def findL (s what : List UInt8) (i : Nat) : Option Nat := (List.range' i (s.length + 1 - i)).find? (atL s what)
theorem findL_end {s what : List UInt8} {i : Nat} (h : s.length < i) : findL s what i = none := by
  unfold findL; rw [show s.length + 1 - i = 0 by omega]; rfl
theorem findL_hit {s what : List UInt8} {i : Nat} (h : i ≤ s.length) (ha : atL s what i = true) : findL s what i = some i := by
  unfold findL; rw [show s.length + 1 - i = (s.length - i) + 1 by omega, List.range'_succ, List.find?_cons_of_pos ha]
theorem findL_miss {s what : List UInt8} {i : Nat} (h : i ≤ s.length) (ha : atL s what i = false) : findL s what i = findL s what (i + 1) := by
  unfold findL; rw [show s.length + 1 - i = (s.length - i) + 1 by omega, List.range'_succ, List.find?_cons_of_neg (by rw [ha]; exact Bool.false_ne_true), show s.length + 1 - (i + 1) = s.length - i by omega]
def placeV : Option Nat → Value
  | some p => .tuple #[.int .i64 p, .bool true]
  | none => .tuple #[.int .i64 0, .bool false]

end Go.Proofs.Ytlhjbfckcfeikaa
namespace Go.Proofs.Ytlhjbfckcfeikaa
set_option linter.unusedVariables false
set_option linter.unusedSimpArgs false
open Go.RowKit

attribute [local go_sem] S_size S_toList S_append S_extract S_beq S_bne S_empty S_nil u8_beq

/-- all places ahead of k -/
def placesTo (s what : List UInt8) (k : Nat) : List Int := ((List.range k).filter (atL s what)).map fun (p : Nat) => (p : Int)
/-- all places -/
def placesL (s what : List UInt8) : List Int := placesTo s what (s.length + 1)
theorem placesTo_hit {s what : List UInt8} {k : Nat} (h : atL s what k = true) : placesTo s what (k + 1) = placesTo s what k ++ [(k : Int)] := by
  unfold placesTo; rw [List.range_succ, List.filter_append, List.map_append, List.filter_cons_of_pos h]; rfl
theorem placesTo_miss {s what : List UInt8} {k : Nat} (h : atL s what k = false) : placesTo s what (k + 1) = placesTo s what k := by
  unfold placesTo; rw [List.range_succ, List.filter_append, List.map_append, List.filter_cons_of_neg (by rw [h]; exact Bool.false_ne_true)]; simp
theorem placesTo_length (s what : List UInt8) (k : Nat) : (placesTo s what k).length ≤ k := by
  unfold placesTo; rw [List.length_map]; exact Nat.le_trans (List.length_filter_le _ _) (by simp)

theorem failTo_take_succ (what : List UInt8) (k : Nat) : ((List.range (k + 1)).map fun i => (failL what i : Int)) = ((List.range k).map fun i => (failL what i : Int)) ++ [(failL what k : Int)] := by
  rw [List.range_succ, List.map_append]; rfl
theorem ovGo_hit {what t : List UInt8} {k : Nat} (h : k + 1 ≤ what.length) (he : (what.take (k + 1) == t.drop (t.length - (k + 1))) = true) : ovGo what t (k + 1) = k + 1 := by
  unfold ovGo; rw [if_pos ⟨h, beq_iff_eq.1 he⟩]
theorem ovGo_miss {what t : List UInt8} {k : Nat} (he : (what.take (k + 1) == t.drop (t.length - (k + 1))) = false) : ovGo what t (k + 1) = ovGo what t k := by
  rw [ovGo, if_neg (fun h => by rw [h.2, beq_self_eq_true] at he; cases he)]
theorem ovGo_long {what t : List UInt8} {k : Nat} (h : what.length < k + 1) : ovGo what t (k + 1) = ovGo what t k := by
  rw [ovGo, if_neg (fun h' => by omega)]

theorem conv_one (w : World) (g : Nat) (b : UInt8) (h : w.cell? ⟨g, 0, none⟩ = some (.int .u8 (U8 b))) :
    (convert 61 9 (.slice (some ⟨g, 0, none⟩) 1 1)).run Try.prog w = .ok (.string (S [b])) w := by
  rw [run_convert_bytes_arg w _ 5 Try.underlying61 Try.underlying5 g 0 1 1 [U8 b] rfl ?_ _ Try.underlying9]
  · congr 2
    simp only [strOfNums, S, List.map_cons, List.map_nil]
    congr 2
    simp only [List.cons.injEq, and_true]
    show UInt8.ofNat (B8 b) = b
    apply UInt8.toNat_inj.1
    unfold B8; rw [UInt8.toNat_ofNat']; have := b.toNat_lt; omega
  · intro i hi
    obtain rfl : i = 0 := by omega
    rw [h]; rfl

end Go.Proofs.Ytlhjbfckcfeikaa
namespace Go.Proofs.Ytlhjbfckcfeikaa
set_option linter.unusedVariables false
set_option linter.unusedSimpArgs false
open Go.RowKit

attribute [local go_sem] S_size S_toList S_append S_extract S_beq S_bne S_empty S_nil u8_beq

theorem take_drop_succ (s : List UInt8) (f k : Nat) (hf : f ≤ k) (hk : k < s.length) : (s.take (k + 1)).drop f = (s.take k).drop f ++ [s.getD k 0] := by
  rw [List.take_succ_eq_append_getElem hk, List.drop_append_of_le_length (by rw [List.length_take]; omega), List.getD_eq_getElem?_getD, List.getElem?_eq_getElem hk]; rfl
/-- the state behind one byte more -/
theorem each_step (s what : List UInt8) (f k : Nat) (hf : f ≤ k) (hk : k < s.length) : ov what (what.take (ov what ((s.take k).drop f)) ++ [s.getD k 0]) = ov what ((s.take (k + 1)).drop f) := by
  rw [take_drop_succ s f k hf hk, ov_concat what ((s.take k).drop f)]
theorem at_suffix (s what : List UInt8) (f k p : Nat) (hf : f ≤ p) (hk : k ≤ s.length) (hp : p + what.length = k) : atL s what p = true ↔ what <:+ (s.take k).drop f := by
  unfold atL
  rw [hp, decide_eq_true (by omega), Bool.true_and, beq_iff_eq, List.suffix_iff_eq_drop, List.length_drop, List.length_take, List.drop_drop, Nat.min_eq_left hk, show f + (k - f - what.length) = p by omega]
  exact ⟨Eq.symm, Eq.symm⟩
theorem each_hit (s what : List UInt8) (f k : Nat) (hf : f ≤ k) (hk : k < s.length) (h : ov what ((s.take (k + 1)).drop f) = what.length) :
    what.length ≤ k + 1 ∧ f ≤ k + 1 - what.length ∧ atL s what (k + 1 - what.length) = true := by
  have hs := (ov_full _ _).1 h
  have hl := hs.length_le
  rw [List.length_drop, List.length_take] at hl
  exact ⟨by omega, by omega, (at_suffix s what f (k + 1) _ (by omega) (by omega) (by omega)).2 hs⟩
theorem each_no (s what : List UInt8) (f k : Nat) (hf : f ≤ k) (hk : k < s.length) (h : ov what ((s.take (k + 1)).drop f) ≠ what.length) (hw : what.length ≤ k + 1) (hq : f ≤ k + 1 - what.length) :
    atL s what (k + 1 - what.length) = false := by
  cases ha : atL s what (k + 1 - what.length) with
  | false => rfl
  | true => exact absurd ((ov_full _ _).2 ((at_suffix s what f (k + 1) _ hq (by omega) (by omega)).1 ha)) h
theorem each_miss (s what : List UInt8) (f k : Nat) (hf : f ≤ k) (hk : k < s.length) (h : ov what ((s.take (k + 1)).drop f) ≠ what.length) :
    findL s what (max f (k + 1 - what.length)) = findL s what (max f (k + 2 - what.length)) := by
  by_cases hw : what.length ≤ k + 1
  · by_cases hq : f ≤ k + 1 - what.length
    · rw [Nat.max_eq_right hq, findL_miss (by omega) (each_no s what f k hf hk h hw hq), Nat.max_eq_right (by omega)]
      congr 1; omega
    · congr 1; omega
  · congr 1; omega
theorem atL_late {s what : List UInt8} {p : Nat} (h : s.length < p + what.length) : atL s what p = false := by
  unfold atL; rw [decide_eq_false (by omega), Bool.false_and]
theorem findL_late {s what : List UInt8} {p : Nat} (h : s.length < p + what.length) : findL s what p = none := by
  unfold findL
  rw [List.find?_eq_none]
  intro q hq
  rw [atL_late (by have := List.mem_range'_1.1 hq; omega)]; exact Bool.false_ne_true
theorem placesTo_late (s what : List UInt8) (hw : 0 < what.length) : ∀ (n : Nat), s.length + 1 - what.length ≤ n → placesTo s what n = placesTo s what (s.length + 1 - what.length)
  | n, h => by
    rcases Nat.lt_or_ge (s.length + 1 - what.length) n with hlt | hge
    · obtain ⟨m, rfl⟩ : ∃ m, n = m + 1 := ⟨n - 1, by omega⟩
      rw [placesTo_miss (atL_late (by omega)), placesTo_late s what hw m (by omega)]
    · rw [show n = s.length + 1 - what.length by omega]
theorem places_hit (s what : List UInt8) (k : Nat) (hk : k < s.length) (h : ov what (s.take (k + 1)) = what.length) :
    what.length ≤ k + 1 ∧ placesTo s what (k + 2 - what.length) = placesTo s what (k + 1 - what.length) ++ [((k + 1 - what.length : Nat) : Int)] := by
  have h0 := each_hit s what 0 k (Nat.zero_le _) hk (by rw [List.drop_zero]; exact h)
  refine ⟨h0.1, ?_⟩
  rw [show k + 2 - what.length = (k + 1 - what.length) + 1 by omega, placesTo_hit h0.2.2]
theorem places_miss (s what : List UInt8) (k : Nat) (hk : k < s.length) (h : ov what (s.take (k + 1)) ≠ what.length) :
    placesTo s what (k + 2 - what.length) = placesTo s what (k + 1 - what.length) := by
  by_cases hw : what.length ≤ k + 1
  · rw [show k + 2 - what.length = (k + 1 - what.length) + 1 by omega, placesTo_miss (each_no s what 0 k (Nat.zero_le _) hk (by rw [List.drop_zero]; exact h) hw (Nat.zero_le _))]
  · congr 1; omega
theorem atL_empty (s : List UInt8) (p : Nat) (h : p ≤ s.length) : atL s [] p = true := by
  unfold atL
  rw [List.length_nil, Nat.add_zero, decide_eq_true h, Bool.true_and, beq_iff_eq, List.drop_eq_nil_of_le (by rw [List.length_take]; omega)]

set_option maxRecDepth 20000 in
set_option maxHeartbeats 2000000 in
theorem all1_any (i : Int) (g B : Nat) (v : Value) (l : List Int) (w : World) (h1 : Blk w g 31 #[v]) (h2 : IW w B v l) (hB : B ≤ w.heap.size) (hg : g < B) (hl : l.length ≤ 1000000000) :
    Calls Try.prog 37 #[.int .i64 i, .pointer (some ⟨g, 0, none⟩)] w fun e w' => e = .returned (.bool true) ∧ ∃ v', Blk w' g 31 #[v'] ∧ IW w' B v' (l ++ [i]) ∧ (∀ B', B' ≤ g → Below B' w w') ∧ (∀ k, k < B → k ≠ g → w'.heap[k]? = w.heap[k]?) ∧ w.heap.size ≤ w'.heap.size := by
  obtain ⟨v', w1, hrun, hiw', hb, _⟩ := h2.app hB i hl
  have hB1 := h1.below hb hg
  have c1 := h1.cell 0
  have c2 := hB1.cell 0
  have f2 := hB1.frozen 0
  have H1 := Lib.hid hB1
  have HI := Lib.hid hiw'
  have HB := Lib.hid hb
  clear h1 h2 hB1 hiw' hb hl
  obtain ⟨a, c, rfl, _, _⟩ := HI.out.shape
  go_enter Try.func37, Try.ntmps37
  go_wp2_with (at_builtin; refine wpList_app rfl (.tmp 4) (.tmp 6) 31 rfl rfl rfl rfl hrun ?_)
  have e9 : (l ++ [i]).length = l.length + 1 := by simp
  have HI2 := HI.out
  rw [e9] at HI2
  go_ret
  refine ⟨rfl, .slice a (l.length + 1) c, H1.out.set_ 0 _, ?_, fun B' h' => Below.setCell (Below.mono HB.out (by omega)) h' _, fun k hk hkg => ?_, ?_⟩
  · exact ownsRow_setCell_below HI2 (a := ⟨g, 0, none⟩) hg _
  · rw [Below.heap_setCell _ _ _ _ hkg]; exact HB.out.block k hk
  · have := HB.out.size; simpa using this
end Go.Proofs.Ytlhjbfckcfeikaa
namespace Go.Proofs.Ytlhjbfckcfeikaa
set_option linter.unusedVariables false
set_option linter.unusedSimpArgs false
open Go.RowKit

attribute [local go_sem] S_size S_toList S_append S_extract S_beq S_bne S_empty S_nil u8_beq

/-- what Find's variables hold behind the walk -/
def Found (w' : World) (g1 g2 : Nat) : Option Nat → Prop
  | some p => Blk w' g1 3 #[.int .i64 p] ∧ Blk w' g2 4 #[.bool true]
  | none => Blk w' g1 3 #[.int .i64 0] ∧ Blk w' g2 4 #[.bool false]

end Go.Proofs.Ytlhjbfckcfeikaa
namespace Go.Proofs.Ytlhjbfckcfeikaa
set_option linter.unusedVariables false
set_option linter.unusedSimpArgs false
open Go.RowKit

attribute [local go_sem] S_size S_toList S_append S_extract S_beq S_bne S_empty S_nil u8_beq

/-- what All's variable holds: a slice of the call's own -/
def Gathered (w w1 wr : World) (B g : Nat) (l : List Int) : Prop :=
  ∃ v, Blk wr g 31 #[v] ∧ IW wr B v l ∧ (∀ j, j < B → j ≠ g → wr.heap[j]? = w1.heap[j]?) ∧ (∀ B', B' ≤ g → Below B' w wr) ∧ B ≤ wr.heap.size
theorem Gathered.add {w w1 wr : World} {B g : Nat} {l : List Int} (hg : g < B) (hl : l.length ≤ 1000000000) (h : Gathered w w1 wr B g l) (i : Int) :
    Calls Try.prog 37 #[.int .i64 i, .pointer (some ⟨g, 0, none⟩)] wr fun e w' => e = .returned (.bool true) ∧ Gathered w w1 w' B g (l ++ [i]) := by
  obtain ⟨v, h1, h2, h3, h4, h5⟩ := h
  refine (all1_any i g B v l wr h1 h2 h5 hg hl).mono ?_
  rintro e w' ⟨rfl, v', p1, p2, p3, p4, p5⟩
  exact ⟨rfl, v', p1, p2, fun j hj hne => (p4 j hj hne).trans (h3 j hj hne), fun B' hB' => Below.trans (h4 B' hB') (p3 B' hB'), by omega⟩
theorem Gathered.cell {w w1 wr : World} {B g : Nat} {l : List Int} (h : Gathered w w1 wr B g l) {a : Addr} (ha : a.block < B) (hne : a.block ≠ g) : wr.cell? a = w1.cell? a := by
  obtain ⟨v, h1, h2, h3, h4, h5⟩ := h
  exact World.cell?_of_block (h3 _ ha hne)

set_option maxRecDepth 20000 in
set_option maxHeartbeats 4000000 in
theorem eachAll_any (s what : List UInt8) (g : Nat) (w : World) (hs : (s.length : Int) ≤ 100000000) (hw : (what.length : Int) ≤ 100000000) (h1 : Blk w g 31 #[.slice none 0 0]) :
    Calls Try.prog 36 #[.string (S s), .string (S what), .int .i64 0, .func (Fn.func 37) #[] #[.pointer (some ⟨g, 0, none⟩)]] w
      fun e w' => e = .returned (.tuple #[]) ∧ ∃ v, Blk w' g 31 #[v] ∧ IW w' w.heap.size v (placesL s what) ∧ (∀ B', B' ≤ g → Below B' w w') := by
  have q := Lib.hid (fail_any what w (by omega))
  have hlt := h1.lt
  have HL := Lib.hid hlt
  have hb1 := Lib.hid h1
  clear h1 hlt
  by_cases hw0 : what = []
  · have hwb : (what == []) = true := by simpa using hw0
    have hp1 : placesTo s what (0 + 1 - what.length) = [] ++ [0] := by
      subst hw0
      rw [show 0 + 1 - ([] : List UInt8).length = 0 + 1 from rfl, placesTo_hit (atL_empty s 0 (Nat.zero_le _))]; rfl
    have HP1 := Lib.hid hp1
    clear hp1 hw0
    go_enter Try.func36, Try.ntmps36
    go_wp2_with fail
    refine q.out.mono ?_
    rintro e w1 ⟨v, rfl, hx, hiw⟩
    obtain ⟨B, hB⟩ : ∃ B, B = w1.heap.size := ⟨_, rfl⟩
    have G0 : Gathered w w1 w1 B g [] := ⟨_, hb1.out.ext hx, IW.nil _ _, fun _ _ _ => rfl, fun B' hB' => Below.mono hx (by have := HL.out; omega), by omega⟩
    have hgB : g < B := by have := HL.out; have := hx.le; omega
    have hwB := Lib.hid (show w.heap.size ≤ B by have := hx.le; omega)
    have hGB := Lib.hid hgB
    obtain ⟨a, c, rfl, _, hsh⟩ := hiw.shape
    rw [failsL_length] at hsh ⊢
    have hstep := Lib.hid (fun (wr : World) (l : List Int) (G : Gathered w w1 wr B g l) (st : Nat) (b : UInt8) (hst : st ≤ what.length) => kstep_any what what.length a c st b wr hst (by omega) (fun h0 => by
      obtain ⟨gf, ha, hg1, hg2, hcl, _⟩ := hsh (by omega)
      exact ⟨gf, ha, fun i hi => by rw [G.cell (by show gf < B; omega) (by show gf ≠ g; have := HL.out; omega), hcl i (by omega), failsL_get what i (by omega)]⟩) hst)
    have q2 := Lib.hid (G0.add hgB (by simp) 0)
    clear hx hiw G0 hsh hB q hgB
    go_wp2_with fail
    refine q2.out.mono ?_
    rintro e w2 ⟨rfl, G1⟩
    have GI := Lib.hid (show Gathered w w1 w2 B g (placesTo s what (0 + 1 - what.length)) by rw [HP1.out]; exact G1)
    clear G1 q2
    go_wp2
    go_loopw [9, 10] (fun st i wr => ∃ k : Nat, i = .int .i64 k ∧ k ≤ s.length ∧ st = .int .i64 (ov what (s.take k)) ∧ Gathered w w1 wr B g (placesTo s what (k + 1 - what.length))) (fun _ i _ => s.length - (intOf i).toNat)
    case atStart => exact ⟨0, rfl, Nat.zero_le _, rfl, GI.out⟩
    case round =>
      obtain ⟨k, rfl, hks, rfl, G⟩ := hrel
      have HG := Lib.hid G
      clear G
      by_cases hlt : k < s.length
      · have hidx := index_S s k hlt _ rfl
        have hst := ov_le what (s.take k)
        have hnext := each_step s what 0 k (Nat.zero_le _) hlt
        rw [List.drop_zero, List.drop_zero] at hnext
        have q3 := hstep.out _ _ HG.out _ (s.getD k 0) hst
        rw [hnext] at q3
        have HH := Lib.hid (places_hit s what k hlt)
        have HM := Lib.hid (places_miss s what k hlt)
        have Q3 := Lib.hid q3
        clear q3 hnext
        generalize hst' : ov what (s.take k) = st at *
        generalize hst2 : ov what (s.take (k + 1)) = st2 at *
        generalize s.getD k 0 = b at *
        clear hst'
        have hk2 : (k : Int) < (s.length : Int) := by omega
        by_cases hfull : st2 = what.length
        · obtain ⟨u1, u2⟩ := HH.out hfull
          obtain ⟨p, hp⟩ : ∃ p, p = k + 1 - what.length := ⟨_, rfl⟩
          have q4 := Lib.hid (HG.out.add hGB.out (by have := placesTo_length s what (k + 1 - what.length); omega) (p : Int))
          have hp2 : (k : Int) + 1 - (what.length : Int) = (p : Int) := by omega
          rw [← hp] at u2
          have HU := Lib.hid u2
          have HS2 := Lib.hid hst2
          have HP := Lib.hid hp
          subst hfull
          clear hp u1 u2 hst2 hst HH HM
          go_wp2_with fail
          refine Q3.out.mono ?_
          rintro e w2 ⟨rfl, rfl⟩
          go_wp2_with fail
          refine q4.out.mono ?_
          rintro e w2 ⟨rfl, G2⟩
          have HG2 := Lib.hid G2
          clear G2
          go_wp2
          go_roundw
          case rel => exact ⟨k + 1, by go_num, by omega, by rw [HS2.out], by rw [show k + 1 + 1 - what.length = k + 2 - what.length from rfl, HU.out, HP.out]; have := HG2.out; rw [HP.out] at this; exact this⟩
          case measure => simp [intOf]; omega
        · have hm := Lib.hid (HM.out hfull)
          have HS2 := Lib.hid hst2
          clear hst2 HH HM hst
          go_wp2_with fail
          refine Q3.out.mono ?_
          rintro e w2 ⟨rfl, rfl⟩
          go_wp2
          go_roundw
          case rel => exact ⟨k + 1, by go_num, by omega, by rw [HS2.out], by rw [show k + 1 + 1 - what.length = k + 2 - what.length from rfl, hm.out]; exact HG.out⟩
          case measure => simp [intOf]; omega
      · obtain rfl : k = s.length := by omega
        have HE := Lib.hid (show placesTo s what (s.length + 1 - what.length) = placesL s what by
          rcases Nat.eq_zero_or_pos what.length with h0 | h0
          · rw [h0]; rfl
          · exact (placesTo_late s what h0 (s.length + 1) (by omega)).symm)
        clear hks
        go_wp2
        obtain ⟨v, p1, p2, p3, p4, p5⟩ := HG.out
        rw [HE.out] at p2
        exact bodyPost_end (v := .tuple #[]) (by simp [results, Try.results36, go_sem]) rfl ⟨rfl, v, p1, p2.mono hwB.out, p4⟩
  · have hwb : (what == []) = false := by simpa using hw0
    have hp1 : placesTo s what (0 + 1 - what.length) = [] := by
      have := List.length_pos_iff.2 hw0
      rw [show 0 + 1 - what.length = 0 by omega]; rfl
    have HP1 := Lib.hid hp1
    clear hp1 hw0
    go_enter Try.func36, Try.ntmps36
    go_wp2_with fail
    refine q.out.mono ?_
    rintro e w1 ⟨v, rfl, hx, hiw⟩
    obtain ⟨B, hB⟩ : ∃ B, B = w1.heap.size := ⟨_, rfl⟩
    have G0 : Gathered w w1 w1 B g [] := ⟨_, hb1.out.ext hx, IW.nil _ _, fun _ _ _ => rfl, fun B' hB' => Below.mono hx (by have := HL.out; omega), by omega⟩
    have hgB : g < B := by have := HL.out; have := hx.le; omega
    have hwB := Lib.hid (show w.heap.size ≤ B by have := hx.le; omega)
    have hGB := Lib.hid hgB
    obtain ⟨a, c, rfl, _, hsh⟩ := hiw.shape
    rw [failsL_length] at hsh ⊢
    have hstep := Lib.hid (fun (wr : World) (l : List Int) (G : Gathered w w1 wr B g l) (st : Nat) (b : UInt8) (hst : st ≤ what.length) => kstep_any what what.length a c st b wr hst (by omega) (fun h0 => by
      obtain ⟨gf, ha, hg1, hg2, hcl, _⟩ := hsh (by omega)
      exact ⟨gf, ha, fun i hi => by rw [G.cell (by show gf < B; omega) (by show gf ≠ g; have := HL.out; omega), hcl i (by omega), failsL_get what i (by omega)]⟩) hst)
    have GI := Lib.hid (show Gathered w w1 w1 B g (placesTo s what (0 + 1 - what.length)) by rw [HP1.out]; exact G0)
    clear hx hiw G0 hsh hB q hgB
    go_wp2
    go_loopw [9, 10] (fun st i wr => ∃ k : Nat, i = .int .i64 k ∧ k ≤ s.length ∧ st = .int .i64 (ov what (s.take k)) ∧ Gathered w w1 wr B g (placesTo s what (k + 1 - what.length))) (fun _ i _ => s.length - (intOf i).toNat)
    case atStart => exact ⟨0, rfl, Nat.zero_le _, rfl, GI.out⟩
    case round =>
      obtain ⟨k, rfl, hks, rfl, G⟩ := hrel
      have HG := Lib.hid G
      clear G
      by_cases hlt : k < s.length
      · have hidx := index_S s k hlt _ rfl
        have hst := ov_le what (s.take k)
        have hnext := each_step s what 0 k (Nat.zero_le _) hlt
        rw [List.drop_zero, List.drop_zero] at hnext
        have q3 := hstep.out _ _ HG.out _ (s.getD k 0) hst
        rw [hnext] at q3
        have HH := Lib.hid (places_hit s what k hlt)
        have HM := Lib.hid (places_miss s what k hlt)
        have Q3 := Lib.hid q3
        clear q3 hnext
        generalize hst' : ov what (s.take k) = st at *
        generalize hst2 : ov what (s.take (k + 1)) = st2 at *
        generalize s.getD k 0 = b at *
        clear hst'
        have hk2 : (k : Int) < (s.length : Int) := by omega
        by_cases hfull : st2 = what.length
        · obtain ⟨u1, u2⟩ := HH.out hfull
          obtain ⟨p, hp⟩ : ∃ p, p = k + 1 - what.length := ⟨_, rfl⟩
          have q4 := Lib.hid (HG.out.add hGB.out (by have := placesTo_length s what (k + 1 - what.length); omega) (p : Int))
          have hp2 : (k : Int) + 1 - (what.length : Int) = (p : Int) := by omega
          rw [← hp] at u2
          have HU := Lib.hid u2
          have HS2 := Lib.hid hst2
          have HP := Lib.hid hp
          subst hfull
          clear hp u1 u2 hst2 hst HH HM
          go_wp2_with fail
          refine Q3.out.mono ?_
          rintro e w2 ⟨rfl, rfl⟩
          go_wp2_with fail
          refine q4.out.mono ?_
          rintro e w2 ⟨rfl, G2⟩
          have HG2 := Lib.hid G2
          clear G2
          go_wp2
          go_roundw
          case rel => exact ⟨k + 1, by go_num, by omega, by rw [HS2.out], by rw [show k + 1 + 1 - what.length = k + 2 - what.length from rfl, HU.out, HP.out]; have := HG2.out; rw [HP.out] at this; exact this⟩
          case measure => simp [intOf]; omega
        · have hm := Lib.hid (HM.out hfull)
          have HS2 := Lib.hid hst2
          clear hst2 HH HM hst
          go_wp2_with fail
          refine Q3.out.mono ?_
          rintro e w2 ⟨rfl, rfl⟩
          go_wp2
          go_roundw
          case rel => exact ⟨k + 1, by go_num, by omega, by rw [HS2.out], by rw [show k + 1 + 1 - what.length = k + 2 - what.length from rfl, hm.out]; exact HG.out⟩
          case measure => simp [intOf]; omega
      · obtain rfl : k = s.length := by omega
        have HE := Lib.hid (show placesTo s what (s.length + 1 - what.length) = placesL s what by
          rcases Nat.eq_zero_or_pos what.length with h0 | h0
          · rw [h0]; rfl
          · exact (placesTo_late s what h0 (s.length + 1) (by omega)).symm)
        clear hks
        go_wp2
        obtain ⟨v, p1, p2, p3, p4, p5⟩ := HG.out
        rw [HE.out] at p2
        exact bodyPost_end (v := .tuple #[]) (by simp [results, Try.results36, go_sem]) rfl ⟨rfl, v, p1, p2.mono hwB.out, p4⟩

set_option maxRecDepth 20000 in
set_option maxHeartbeats 2000000 in
theorem kall_any (s what : List UInt8) (w : World) (hs : (s.length : Int) ≤ 100000000) (hw : (what.length : Int) ≤ 100000000) :
    Calls Try.prog 21 #[.string (S s), .string (S what)] w fun e w' => ∃ v, e = .returned v ∧ Ext w w' ∧ IW w' w.heap.size v (placesL s what) := by
  have q := Lib.hid (eachAll_any s what w.heap.size _ hs hw (Blk.new w 31 #[.slice none 0 0]))
  go_enter Try.func21, Try.ntmps21
  go_wp2_with fail
  refine q.out.mono ?_
  rintro e w1 ⟨rfl, v, h1, h2, h3⟩
  have c0 := h1.cell 0
  have H2 := Lib.hid h2
  have HX := Lib.hid (Below.trans ((Ext.refl w).alloc _) (h3 w.heap.size (Nat.le_refl _)))
  obtain ⟨a, c, rfl, _, _⟩ := H2.out.shape
  clear h1 h2 h3
  go_wp2
  go_ret
  exact ⟨_, rfl, HX.out, H2.out.mono (by simp)⟩

end Go.Proofs.Ytlhjbfckcfeikaa
