/- kmp: ref's All, Has, Fail, Walk. -/
import Derived.Test.YtjbacmhkmofpkaaKhC
namespace Go.Proofs.Ytjbacmhkmofpkaa
set_option linter.unusedVariables false
set_option linter.unusedSimpArgs false
open Go.RowKit

attribute [local go_sem] S_size S_toList S_append S_extract S_beq S_bne S_empty S_nil u8_beq

/-- all places ahead of k -/
def placesTo (s what : List UInt8) (k : Nat) : List Int := ((List.range k).filter (atL s what)).map fun (p : Nat) => (p : Int)
/-- all places -/
def placesL (s what : List UInt8) : List Int := placesTo s what (s.length + 1)
theorem placesTo_hit {s what : List UInt8} {k : Nat} (h : atL s what k = true) : placesTo s what (k + 1) = placesTo s what k ++ [(k : Int)] := by
  unfold placesTo; rw [List.range_succ, List.filter_append, List.map_append, List.filter_cons_of_pos h]; rfl
theorem placesTo_miss {s what : List UInt8} {k : Nat} (h : atL s what k = false) : placesTo s what (k + 1) = placesTo s what k := by
  unfold placesTo; rw [List.range_succ, List.filter_append, List.map_append, List.filter_cons_of_neg (by rw [h]; exact Bool.false_ne_true)]; simp
theorem placesTo_length (s what : List UInt8) (k : Nat) : (placesTo s what k).length ≤ k := by
  unfold placesTo; rw [List.length_map]; exact Nat.le_trans (List.length_filter_le _ _) (by simp)

theorem failTo_take_succ (what : List UInt8) (k : Nat) : ((List.range (k + 1)).map fun i => (failL what i : Int)) = ((List.range k).map fun i => (failL what i : Int)) ++ [(failL what k : Int)] := by
  rw [List.range_succ, List.map_append]; rfl
theorem ovGo_hit {what t : List UInt8} {k : Nat} (h : k + 1 ≤ what.length) (he : (what.take (k + 1) == t.drop (t.length - (k + 1))) = true) : ovGo what t (k + 1) = k + 1 := by
  unfold ovGo; rw [if_pos ⟨h, beq_iff_eq.1 he⟩]
theorem ovGo_miss {what t : List UInt8} {k : Nat} (he : (what.take (k + 1) == t.drop (t.length - (k + 1))) = false) : ovGo what t (k + 1) = ovGo what t k := by
  rw [ovGo, if_neg (fun h => by rw [h.2, beq_self_eq_true] at he; cases he)]
theorem ovGo_long {what t : List UInt8} {k : Nat} (h : what.length < k + 1) : ovGo what t (k + 1) = ovGo what t k := by
  rw [ovGo, if_neg (fun h' => by omega)]

theorem conv_one (w : World) (g : Nat) (b : UInt8) (h : w.cell? ⟨g, 0, none⟩ = some (.int .u8 (U8 b))) :
    (convert 66 9 (.slice (some ⟨g, 0, none⟩) 1 1)).run Try.prog w = .ok (.string (S [b])) w := by
  rw [run_convert_bytes_arg w _ 5 Try.underlying66 Try.underlying5 g 0 1 1 [U8 b] rfl ?_ _ Try.underlying9]
  · congr 2
    simp only [strOfNums, S, List.map_cons, List.map_nil]
    congr 2
    simp only [List.cons.injEq, and_true]
    show UInt8.ofNat (B8 b) = b
    apply UInt8.toNat_inj.1
    unfold B8; rw [UInt8.toNat_ofNat']; have := b.toNat_lt; omega
  · intro i hi
    obtain rfl : i = 0 := by omega
    rw [h]; rfl

end Go.Proofs.Ytjbacmhkmofpkaa
