/- disk: are acts so few, and short? -/
import Derived.Test.YtfipfljiohdlhaaGreatMgU
namespace Go.Proofs.YtfipfljiohdlhaaGreat
set_option linter.unusedVariables false
set_option linter.unusedSimpArgs false
open Go.RowKit
attribute [local go_sem] S_size S_toList S_append S_extract S_beq S_bne S_empty S_nil

def fewA (a : ActD) : Prop := (a.s.length : Int) ≤ 100 ∧ (a.t.length : Int) ≤ 2000 ∧ (a.marks.length : Int) ≤ 100 ∧ ∀ m ∈ a.marks, (m.length : Int) ≤ 500
instance (a : ActD) : Decidable (fewA a) := by unfold fewA; infer_instance
def FewA (l : List ActD) : Prop := (l.length : Int) ≤ 60 ∧ ∀ a ∈ l, fewA a
instance (l : List ActD) : Decidable (FewA l) := by unfold FewA; infer_instance
theorem act_size (a : ActD) : (actC a).length = 7 := rfl
theorem few_step {l : List ActD} {k : Nat} (h0 : ∀ j, j < k → ∀ a, l[j]? = some a → fewA a) {x : ActD} (hx : l[k]? = some x) (h : fewA x) : ∀ j, j < k + 1 → ∀ a, l[j]? = some a → fewA a := by
  intro j hj a ha
  rcases Nat.lt_or_ge j k with h1 | h1
  · exact h0 j h1 a ha
  · obtain rfl : j = k := by omega
    rw [hx] at ha; injection ha with ha; exact ha ▸ h
theorem few_all {l : List ActD} (hl : (l.length : Int) ≤ 60) {k : Nat} (h0 : ∀ j, j < k → ∀ a, l[j]? = some a → fewA a) (hk : l.length ≤ k) : decide (FewA l) = true := by
  refine decide_eq_true ⟨hl, fun a ha => ?_⟩
  obtain ⟨j, hj, e⟩ := List.getElem_of_mem ha
  exact h0 j (by omega) a (by rw [List.getElem?_eq_getElem hj, e])
theorem few_no {l : List ActD} {k : Nat} {x : ActD} (hx : l[k]? = some x) (h : ¬ fewA x) : decide (FewA l) = false :=
  decide_eq_false (fun hh => h (hh.2 x (List.mem_of_getElem? hx)))
theorem marks_step {m : List (List UInt8)} {k : Nat} (h0 : ∀ j, j < k → ∀ a, m[j]? = some a → (a.length : Int) ≤ 500) {x : List UInt8} (hx : m[k]? = some x) (h : (x.length : Int) ≤ 500) : ∀ j, j < k + 1 → ∀ a, m[j]? = some a → (a.length : Int) ≤ 500 := by
  intro j hj a ha
  rcases Nat.lt_or_ge j k with h1 | h1
  · exact h0 j h1 a ha
  · obtain rfl : j = k := by omega
    rw [hx] at ha; injection ha with ha; exact ha ▸ h
theorem marks_all {m : List (List UInt8)} {k : Nat} (h0 : ∀ j, j < k → ∀ a, m[j]? = some a → (a.length : Int) ≤ 500) (hk : m.length ≤ k) : ∀ s ∈ m, (s.length : Int) ≤ 500 := by
  intro a ha
  obtain ⟨j, hj, e⟩ := List.getElem_of_mem ha
  exact h0 j (by omega) a (by rw [List.getElem?_eq_getElem hj, e])
set_option maxRecDepth 20000 in
set_option maxHeartbeats 4000000 in
theorem few_any {w : World} {v : Value} {l : List ActD} (h : RR actC 7 w v l) (ha : ∀ a ∈ l, ActW w a) (hl : (l.length : Int) ≤ 9223372036854775807) :
    Calls Tryz.prog 4 #[v] w fun e w' => e = .returned (.bool (decide (FewA l))) ∧ w = w' := by
  obtain ⟨pa, ca, rfl, _, _, hsa⟩ := h
  by_cases hlen : (60 : Int) < (l.length : Int)
  · have hr : decide (FewA l) = false := decide_eq_false (fun hh => by have := hh.1; omega)
    rw [hr]
    clear hsa hr ha
    go_enter Tryz.func4, Tryz.ntmps4
    go_wp2
    go_ret
    exact ⟨rfl, rfl⟩
  have HALL := Lib.hid (fun k h0 hk => few_all (l := l) (k := k) (by omega) h0 hk)
  have HNO := Lib.hid (fun k x hx h => few_no (l := l) (k := k) (x := x) hx h)
  have HST := Lib.hid (fun k h0 x hx h => few_step (l := l) (k := k) h0 (x := x) hx h)
  have HSA := Lib.hid hsa
  have HA := Lib.hid ha
  generalize decide (FewA l) = r at *
  clear hsa ha
  go_enter Tryz.func4, Tryz.ntmps4
  go_wp2
  go_loopw [3] (fun i wr => ∃ k : Nat, i = .int .i64 (k : Int) ∧ k ≤ l.length ∧ RowKit.Hid (∀ j, j < k → ∀ a, l[j]? = some a → fewA a) ∧ w = wr) (fun i _ => l.length - (intOf i).toNat)
  case atStart => exact ⟨0, rfl, Nat.zero_le _, Lib.hid (fun j hj => by omega), rfl⟩
  case round =>
    obtain ⟨k, rfl, hk, hsm, rfl⟩ := hrel
    have HK := Lib.hid hk
    by_cases hlt : k < l.length
    · have hI : (k : Int) < (l.length : Int) := by omega
      obtain ⟨g, o, rfl, hc⟩ := HSA.out (by omega)
      obtain ⟨x, hx⟩ : ∃ x, l[k]? = some x := ⟨_, List.getElem?_eq_getElem hlt⟩
      have hr := hc k x hx
      have hw := HA.out x (List.mem_of_getElem? hx)
      have c2 := hr 2 _ rfl
      have c3 := hr 3 _ rfl
      have c6 := hr 6 _ rfl
      obtain ⟨pm, cm, hvm, _, _, hm⟩ := hw.marks
      have HM := Lib.hid hm
      rw [hvm] at c6
      have hm1 := hw.ml
      have hm2 := Lib.hid hw.mkl
      have hs1 := hw.sl
      have ht1 := hw.tl
      have NO := Lib.hid (fun h => HNO.out k x hx h)
      have ST := Lib.hid (fun h => HST.out k hsm.out x hx h)
      have FD := Lib.hid (show fewA x ↔ ((x.s.length : Int) ≤ 100 ∧ (x.t.length : Int) ≤ 2000 ∧ (x.marks.length : Int) ≤ 100 ∧ ∀ m ∈ x.marks, (m.length : Int) ≤ 500) from Iff.rfl)
      have MS := Lib.hid (fun k h0 y hy h => marks_step (m := x.marks) (k := k) h0 (x := y) hy h)
      have MA := Lib.hid (fun k h0 hk => marks_all (m := x.marks) (k := k) h0 hk)
      unfold maxLen at hs1 ht1
      clear hc hr hw hm hvm hx hsm hk
      generalize fewA x = fx at *
      generalize x.marks = ms at *
      generalize x.s = xs at *
      generalize x.t = xt at *
      by_cases h1 : (100 : Int) < (xs.length : Int)
      · have hn := NO.out (fun h => by have := (FD.out.1 h).1; omega)
        subst hn
        go_wp2
        go_ret
        exact ⟨rfl, rfl⟩
      by_cases h2 : (2000 : Int) < (xt.length : Int)
      · have hn := NO.out (fun h => by have := (FD.out.1 h).2.1; omega)
        subst hn
        go_wp2
        go_ret
        exact ⟨rfl, rfl⟩
      by_cases h3 : (100 : Int) < (ms.length : Int)
      · have hn := NO.out (fun h => by have := (FD.out.1 h).2.2.1; omega)
        subst hn
        go_wp2
        go_ret
        exact ⟨rfl, rfl⟩
      have HI := Lib.hid (fun (h : ∀ m ∈ ms, (m.length : Int) ≤ 500) => FD.out.2 ⟨by omega, by omega, by omega, h⟩)
      have HJ := Lib.hid (fun (h : fx) => (FD.out.1 h).2.2.2)
      have hkm := Lib.hid hlt
      clear FD
      go_wp2
      go_loopw [4] (fun i wr => ∃ j : Nat, i = .int .i64 (j : Int) ∧ j ≤ ms.length ∧ RowKit.Hid (∀ i, i < j → ∀ a, ms[i]? = some a → (a.length : Int) ≤ 500) ∧ w = wr) (fun i _ => ms.length - (intOf i).toNat)
      case atStart => exact ⟨0, rfl, Nat.zero_le _, Lib.hid (fun j hj => by omega), rfl⟩
      case round =>
        obtain ⟨j, rfl, hj, hsm, rfl⟩ := hrel
        by_cases hjt : j < ms.length
        · have hJ : (j : Int) < (ms.length : Int) := by omega
          obtain ⟨gm, om, rfl, hcm⟩ := HM.out (by omega)
          obtain ⟨y, hy⟩ : ∃ y, ms[j]? = some y := ⟨_, List.getElem?_eq_getElem hjt⟩
          have cy := hcm j y hy 0 _ rfl
          simp only [Nat.mul_one, Nat.add_zero] at cy
          have hyl := hm2.out y (List.mem_of_getElem? hy)
          have SS := Lib.hid (fun h => MS.out j hsm.out y hy h)
          have YM := Lib.hid (List.mem_of_getElem? hy)
          have hjm := Lib.hid hjt
          clear hcm hy hsm hjt
          by_cases h5 : (500 : Int) < (y.length : Int)
          · have hn := NO.out (fun h => by have := HJ.out h y YM.out; omega)
            subst hn
            go_wp2
            go_ret
            exact ⟨rfl, rfl⟩
          · have SS := Lib.hid (SS.out (by omega))
            go_wp2
            go_roundw
            case rel => exact ⟨j + 1, by go_num, by have := hjm.out; omega, SS, trivial⟩
            case measure => simp [intOf]; have := hjm.out; omega
        · have hf := Lib.hid (ST.out (HI.out (MA.out j hsm.out (by omega))))
          have hjt : (ms.length : Int) ≤ (j : Int) := by omega
          clear hj
          go_wp2
          go_roundw
          case rel => exact ⟨k + 1, by go_num, by have := hkm.out; omega, hf, trivial⟩
          case measure => simp [intOf]; have := hkm.out; omega
    · have hn := HALL.out k hsm.out (by omega)
      have hI : (l.length : Int) ≤ (k : Int) := by omega
      clear hk hlt
      subst hn
      go_wp2
      go_ret
      exact ⟨rfl, rfl⟩
end Go.Proofs.YtfipfljiohdlhaaGreat
