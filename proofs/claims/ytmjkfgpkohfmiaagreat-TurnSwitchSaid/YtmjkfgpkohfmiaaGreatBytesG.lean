/- Slices of bytes that the call itself has made, by append; and their string. -/
import Derived.Test.YtmjkfgpkohfmiaaGreatRowG
import Derived.Test.YtmjkfgpkohfmiaaGreatBuf
namespace Go.Proofs.YtmjkfgpkohfmiaaGreat
set_option linter.unusedVariables false
set_option linter.unusedSimpArgs false
open Go.RowKit

/-- a slice of bytes that the call has made -/
def BW (w : World) (B : Nat) (v : Value) (l : List UInt8) : Prop := RW w B 5 v (b8s l)
theorem b8s_length (l : List UInt8) : (b8s l).length = l.length := List.length_map _
theorem byte_info : (Tryz.prog.info? 5).map (fun i => (i.zero, i.size, i.bytes)) = some (some (.int .u8 0), 1, 1) := by kernel_rfl
section
variable {w w' : World} {B : Nat} {v : Value} {l : List UInt8}
theorem BW.nil (w : World) (B : Nat) : BW w B (.slice none 0 0) [] := RW.nil w B _
theorem BW.ext (h : BW w B v l) (hx : Ext w w') : BW w' B v l := RW.ext h hx
theorem BW.mono {B' : Nat} (h : BW w B v l) (hB : B' ≤ B) : BW w B' v l := RW.mono h hB
theorem BW.alloc (h : BW w B v l) (o : Obj) : BW (w.alloc o) B v l := RW.alloc h o
theorem BW.drew (h : BW w B v l) : BW w.drew B v l := RW.drew h
theorem BW.shape (h : BW w B v l) : ∃ a c, v = .slice a l.length c ∧ l.length ≤ c ∧ (0 < l.length → ∃ g, a = some ⟨g, 0, none⟩ ∧ B ≤ g ∧ g < w.heap.size ∧ (∀ i, i < l.length → w.cell? ⟨g, i, none⟩ = some (.int .u8 (U8 (l.getD i 0)))) ∧ ∀ i, w.frozen? ⟨g, i, none⟩ = false) := by
  obtain ⟨a, c, h1, h2, h3⟩ := RW.shape h
  rw [b8s_length] at h1 h2
  refine ⟨a, c, h1, h2, fun hn => ?_⟩
  obtain ⟨g, p1, p2, p3, p4, p5⟩ := h3 (by rw [b8s_length]; exact hn)
  refine ⟨g, p1, p2, p3, fun i hi => ?_, p5⟩
  rw [p4 i (by rw [b8s_length]; exact hi)]; simp [b8s, hi]
theorem BW.app (h : BW w B v l) (hB : B ≤ w.heap.size) (x : UInt8) (hl : l.length ≤ 1000000000) :
    ∃ v' w', (Builtin.append_ #[105, 105] 105 #[v, .slice (some ⟨w.heap.size, 0, none⟩) 1 1]).run Tryz.prog (w.alloc (.cells #[.int .u8 (U8 x)] 5)) = .ok v' w' ∧ BW w' B v' (l ++ [x]) ∧ Below B w w' ∧ (∀ k, k < w.heap.size → some k ≠ v.ownBlock → w'.heap[k]? = w.heap[k]?) := by
  have hl1 := b8s_length l
  obtain ⟨v', w', h1, h2, h3⟩ := RW.app h hB (P := Tryz.prog) (t := 105) Tryz.underlying105 byte_info rfl (.int .u8 (U8 x)) rfl (by rw [hl1]; omega) (by rw [hl1]; unfold maxLen; omega)
  refine ⟨v', w', h1, ?_, h3⟩
  unfold BW b8s
  rw [List.map_append]; exact h2
/-- make([]byte, 0, n) -/
theorem BW.make0 (w : World) (n : Nat) (hn : n ≤ 1000000000) : BW (w.alloc (.cells (madeCells #[.int .u8 0] n) 5)) w.heap.size (.slice (some ⟨w.heap.size, 0, none⟩) 0 n) [] :=
  ⟨rfl, .inr ⟨w.heap.size, n, _, rfl, Nat.le_refl _, heap_alloc_new w _, Nat.zero_le _, by unfold maxLen; omega, by simp [madeCells], by simp [b8s]⟩⟩
/-- bytes that the call has made, as a string -/
theorem BW.str (h : BW w B v l) (hl : 0 < l.length) : (convert 105 9 v).run Tryz.prog w = .ok (.string (S l)) w := by
  obtain ⟨a, c, rfl, hc, hs⟩ := h.shape
  obtain ⟨g, rfl, _, _, hcell, _⟩ := hs hl
  rw [run_convert_bytes_arg w _ 5 Tryz.underlying105 Tryz.underlying5 g 0 l.length c (l.map U8) (by simp) ?_ _ Tryz.underlying9]
  · congr 2
    simp only [strOfNums, List.map_map, S]
    congr 2
    conv => rhs; rw [← List.map_id l]
    apply List.map_congr_left
    intro b _
    show UInt8.ofNat (B8 b) = b
    apply UInt8.toNat_inj.1
    unfold B8; rw [UInt8.toNat_ofNat']; have := b.toNat_lt; omega
  · intro i hi
    rw [Nat.zero_add, hcell i (by omega)]
    simp [show i < l.length by omega]
end
end Go.Proofs.YtmjkfgpkohfmiaaGreat
