/- varveref27: Sum. -/
import Derived.Test.YtfcfhaghamgdaaaPickC
import Derived.Test.YtfcfhaghamgdaaaEntE
namespace Go.Proofs.Ytfcfhaghamgdaaa
set_option linter.unusedVariables false
set_option linter.unusedSimpArgs false
open Go.RowKit

set_option maxRecDepth 20000 in
set_option maxHeartbeats 4000000 in
theorem rSum_any (l : List E9) (v : Value) (w : World) (hr : RR entC 9 w v l) :
    Calls Try.prog 12 #[v] w fun e w' => e = .returned (.int .i64 (sumP l)) ∧ Ext w w' := by
  have q := rRow_any l v w hr
  have HR := Lib.hid hr
  obtain ⟨a, c, rfl, hc, _, hs⟩ := hr
  have HS := Lib.hid hs
  clear hs
  cases hrow : rowP l with
  | false =>
    rw [hrow] at q
    have q := Lib.hid q
    have hs := Lib.hid (show sumP l = 0 by unfold sumP; rw [hrow]; rfl)
    clear hrow
    go_enter Try.func12, Try.ntmps12
    go_wp2_with fail
    refine (q.out).mono ?_
    rintro _ w1 ⟨rfl, x1⟩
    simp only [errI, Bool.false_eq_true, if_false]
    go_wp2
    go_ret
    exact ⟨by rw [hs.out]; rfl, x1⟩
  | true =>
    rw [hrow] at q
    have q := Lib.hid q
    have hs := Lib.hid (show sumP l = bytesL l by unfold sumP; rw [hrow]; rfl)
    obtain ⟨h1, h2, _, _⟩ := rowP_parts hrow
    have ht := rowP_tame hrow
    have HT := Lib.hid (fun k => bytesL_le (tame_take ht k))
    clear hrow ht
    go_enter Try.func12, Try.ntmps12
    go_wp2_with fail
    refine (q.out).mono ?_
    rintro _ w1 ⟨rfl, x1⟩
    simp only [errI, if_true]
    have X1 := Lib.hid x1
    clear x1
    go_wp2
    go_loopw [4, 3] (fun i n wr => ∃ k : Nat, i = .int .i64 (k : Int) ∧ k ≤ l.length ∧ n = .int .i64 (bytesL (l.take k)) ∧ Ext w wr) (fun i _ _ => l.length - (intOf i).toNat)
    case atStart => exact ⟨0, rfl, Nat.zero_le _, rfl, X1.out⟩
    case round =>
      obtain ⟨k, rfl, hk, rfl, hx⟩ := hrel
      have HX := Lib.hid hx
      by_cases hlt : k < l.length
      · have hI : (k : Int) < (l.length : Int) := by omega
        obtain ⟨g, o, rfl, hc⟩ := HS.out (by omega)
        have R := rangeAt_ext (hc k _ (ent_at hlt)) hx
        have hst := bytesL_step hlt
        have hb1 := HT.out k
        have hb2 := HT.out (k + 1)
        rw [List.length_take] at hb1 hb2
        clear hx hc
        generalize hen : l.getD k default = en at *
        clear hen
        have c8 : wr.cell? ⟨g, o + k * 9 + 8, none⟩ = some (.int .i64 en.bytes) := R 8 _ rfl
        have hw : IntKind.i64.wrap (bytesL (l.take k) + en.bytes) = bytesL (l.take (k + 1)) := by rw [← hst, IntKind.wrap_i64]; omega
        generalize en.bytes = ebytes at *
        generalize bytesL (l.take k) = u at *
        obtain ⟨u2, hu2⟩ : ∃ u2, u2 = bytesL (l.take (k + 1)) := ⟨_, rfl⟩
        rw [← hu2] at hw
        have HU := Lib.hid hu2
        clear hu2 hb1 hb2 hst R
        go_wp2
        go_roundw
        case rel => exact ⟨k + 1, by go_num, by omega, by rw [← HU.out], HX.out⟩
        case measure => simp [intOf]; omega
      · obtain rfl : k = l.length := by omega
        have P1 := Lib.hid (show bytesL (l.take l.length) = bytesL l by rw [List.take_of_length_le (Nat.le_refl _)])
        clear hx hk
        go_wp2
        go_ret
        exact ⟨by rw [hs.out, ← P1.out]; rfl, HX.out⟩

end Go.Proofs.Ytfcfhaghamgdaaa
