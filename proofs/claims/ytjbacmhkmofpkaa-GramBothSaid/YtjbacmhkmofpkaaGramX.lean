/- gram: Few, awake. -/
import Derived.Test.YtjbacmhkmofpkaaGramW
import Derived.Test.YtjbacmhkmofpkaaAnyY
namespace Go.Proofs.Ytjbacmhkmofpkaa
set_option linter.unusedVariables false
set_option linter.unusedSimpArgs false
open Go.RowKit
attribute [local go_sem] S_size S_toList S_append S_extract S_beq S_bne S_empty S_nil

def fewL (l : List Rec) : Bool := decide (l.length ≤ 200) && l.all fun r => decide (r.2.2.length ≤ 3000)
set_option maxRecDepth 20000 in
set_option maxHeartbeats 2000000 in
theorem few_any (l : List Rec) (v : Value) (w : World) (hv : RD recCells 3 w v l) (hl : (l.length : Int) ≤ 9223372036854775807) (hd : ∀ r ∈ l, (r.2.2.length : Int) ≤ 9223372036854775807) :
    Calls Try.prog 18 #[v] w fun e w' => e = .returned (.bool (fewL l)) ∧ w = w' := by
  obtain ⟨n, hn⟩ : ∃ n, n = l.length := ⟨_, rfl⟩
  obtain ⟨a, c, rfl, hs⟩ := hv
  rw [← hn] at hl hs ⊢
  have hN := Lib.hid hn
  have HS := Lib.hid hs
  have HD := Lib.hid hd
  clear hn hs hd
  by_cases h2 : (200 : Int) < n
  · have hf := Lib.hid (show fewL l = false by unfold fewL; rw [decide_eq_false (by have := hN.out; omega)]; rfl)
    go_enter Try.func18, Try.ntmps18
    go_wp2
    go_ret
    exact ⟨by rw [hf.out]; rfl, rfl⟩
  · go_enter Try.func18, Try.ntmps18
    go_wp2_with fail
    go_loopw [3] (fun i wr => ∃ k : Nat, i = .int .i64 k ∧ k ≤ n ∧ w = wr ∧ ∀ j r, j < k → l[j]? = some r → r.2.2.length ≤ 3000) (fun i _ => n - (intOf i).toNat)
    case atStart => exact ⟨0, rfl, by omega, rfl, fun j r hj => by omega⟩
    case round =>
      obtain ⟨k, rfl, hk, rfl, hall⟩ := hrel
      have HA := Lib.hid hall
      clear hall
      by_cases hlt : k < n
      · obtain ⟨g, o, rfl, hcells⟩ := HS.out (by omega)
        obtain ⟨r, hr⟩ : ∃ r, l[k]? = some r := ⟨_, List.getElem?_eq_getElem (by have := hN.out; omega)⟩
        have c0 : w.cell? ⟨g, o + k * 3 + 2, none⟩ = some (.string (S r.2.2)) := hcells k r hr 2 _ rfl
        have hrd := HD.out r (List.mem_of_getElem? hr)
        have hlt' : (k : Int) < n := by omega
        have HR := Lib.hid hr
        clear hcells hr
        by_cases h3 : (3000 : Int) < r.2.2.length
        · have hf := Lib.hid (show fewL l = false by
            unfold fewL
            rw [Bool.and_eq_false_iff]; right
            rw [List.all_eq_false]
            exact ⟨r, List.mem_of_getElem? HR.out, by rw [decide_eq_false (by omega)]; decide⟩)
          generalize r.2.2 = d at *
          go_wp2
          go_ret
          exact ⟨by rw [hf.out]; rfl, rfl⟩
        · have hn : ∀ j r, j < k + 1 → l[j]? = some r → r.2.2.length ≤ 3000 := fun j q hj hq => by
            by_cases hjk : j = k
            · subst hjk
              rw [HR.out] at hq
              obtain rfl := Option.some.inj hq
              omega
            · exact HA.out j q (by omega) hq
          have HN := Lib.hid hn
          clear hn
          generalize r.2.2 = d at *
          go_wp2_with fail
          go_roundw
          case rel => exact ⟨k + 1, by go_num, by omega, by first | trivial | rfl, HN.out⟩
          case measure => simp [intOf]; omega
      · obtain rfl : k = n := by omega
        have hf := Lib.hid (show fewL l = true by
          unfold fewL
          rw [decide_eq_true (by have := hN.out; omega), Bool.true_and, List.all_eq_true]
          intro r hr
          obtain ⟨j, hj, e⟩ := List.mem_iff_getElem.1 hr
          exact decide_eq_true (HA.out j r (by have := hN.out; omega) (by rw [List.getElem?_eq_getElem hj, e])))
        go_wp2
        go_ret
        exact ⟨by rw [hf.out]; rfl, rfl⟩
end Go.Proofs.Ytjbacmhkmofpkaa
