/- Rows of bytes that the call itself has made: []byte(s), string(b), copy. -/
import Derived.Test.YtmjkfgpkohfmiaaGreatStr
import Derived.Laws.IdiomCopy
namespace Go.Proofs.YtmjkfgpkohfmiaaGreat
set_option linter.unusedVariables false
set_option linter.unusedSimpArgs false
open Go.RowKit

/-- block g is a row of cells that begins with these bytes, and may be written -/
def Row8 (w : World) (g : Nat) (l : List UInt8) : Prop :=
  ∃ (tail : List Value) (e : TypeId) (m : Nat × Nat), w.heap[g]? = some (.cells ((l.map fun b => Value.int .u8 (U8 b)) ++ tail).toArray e m) ∧ l.length ≤ m.1
theorem Row8.cell {w : World} {g : Nat} {l : List UInt8} (h : Row8 w g l) (i : Nat) (hi : i < l.length) : w.cell? ⟨g, i, none⟩ = some (.int .u8 (U8 (l.getD i 0))) := by
  obtain ⟨tail, e, m, hg, _⟩ := h
  rw [cell_of_row w g i _ e m hg, List.getElem?_toArray, List.getElem?_append_left (by simpa using hi)]
  simp [hi]
theorem Row8.free {w : World} {g : Nat} {l : List UInt8} (h : Row8 w g l) (i : Nat) (hi : i < l.length) : w.frozen? ⟨g, i, none⟩ = false := by
  obtain ⟨tail, e, m, hg, hm⟩ := h
  simp only [World.frozen?, hg, Bool.and_eq_false_iff, decide_eq_false_iff_not]
  left; omega
theorem Row8.set_ {w : World} {g : Nat} {l : List UInt8} (h : Row8 w g l) (i : Nat) (hi : i < l.length) (b : UInt8) : Row8 (w.setCell ⟨g, i, none⟩ (.int .u8 (U8 b))) g (l.set i b) := by
  obtain ⟨tail, e, m, hg, hm⟩ := h
  refine ⟨tail, e, m, ?_, by simpa using hm⟩
  simp only [World.setCell, Array.getElem?_modify, hg]
  simp [List.map_set, List.set_append, hi]
theorem Row8.ext {w w' : World} {g : Nat} {l : List UInt8} (h : Row8 w g l) (hx : Ext w w') : Row8 w' g l := by
  obtain ⟨tail, e, m, hg, hm⟩ := h
  have hl : g < w.heap.size := by
    rcases Nat.lt_or_ge g w.heap.size with h' | h'
    · exact h'
    · rw [Array.getElem?_eq_none h'] at hg; cases hg
  exact ⟨tail, e, m, (hx.block g hl).trans hg, hm⟩
theorem Row8.lt {w : World} {g : Nat} {l : List UInt8} (h : Row8 w g l) : g < w.heap.size := by
  obtain ⟨tail, e, m, hg, hm⟩ := h
  rcases Nat.lt_or_ge g w.heap.size with h' | h'
  · exact h'
  · rw [Array.getElem?_eq_none h'] at hg; cases hg

theorem Row8.drew {w : World} {g : Nat} {l : List UInt8} (h : Row8 w g l) : Row8 w.drew g l := h

/-- a text's bytes, laid anew -/
theorem bytes_of_str0 (w : World) (s : ByteArray) :
    ∃ c w', s.size ≤ c ∧ (convert 9 105 (.string s)).run Tryz.prog w = .ok (.slice (some ⟨w.heap.size, 0, none⟩) s.size c) w' ∧ Ext w w' ∧ Row8 w' w.heap.size s.data.toList ∧ w'.heap.size = w.heap.size + 1 := by
  refine ⟨_, _, ?_, Lib.run_convert_string_bytes w _ _ _ s Tryz.underlying9 Tryz.underlying105 Tryz.underlying5, ?_, ?_, Lib.bytesWorld_size _ _ _⟩
  · unfold grownCap; simp [Question.cut]
  · exact ⟨rfl, rfl, rfl, by rw [Lib.bytesWorld_size]; omega, fun k hk => Lib.bytesWorld_at_old w _ s k hk⟩
  · refine ⟨List.replicate (grownCap w s.size 0 5 - s.size) (.int .u8 0), 5, ((Lib.bytesCells w 5 s).size, (Lib.bytesCells w 5 s).size + 1), ?_, ?_⟩
    · rw [Lib.bytesWorld_at_new]
      have : Lib.bytesCells w 5 s = (s.data.toList.map (fun b => Value.int .u8 (U8 b)) ++ List.replicate (grownCap w s.size 0 5 - s.size) (Value.int .u8 0)).toArray := by
        apply Array.ext'
        simp [Lib.bytesCells, U8]
      rw [this]
    · simp [Lib.bytesCells, ]

/-- bytes in memory, as a string -/
theorem str_of_bytes (w : World) (g c : Nat) (l : List UInt8) (h : Row8 w g l) (n : Nat) (hn : l.length = n) :
    (convert 105 9 (.slice (some ⟨g, 0, none⟩) n c)).run Tryz.prog w = .ok (.string (S l)) w := by
  rw [run_convert_bytes_arg w _ 5 Tryz.underlying105 Tryz.underlying5 g 0 n c (l.map U8) (by simpa using hn) ?_ _ Tryz.underlying9]
  · congr 2
    simp only [strOfNums, List.map_map, S]
    congr 2
    conv => rhs; rw [← List.map_id l]
    apply List.map_congr_left
    intro b _
    show UInt8.ofNat (B8 b) = b
    apply UInt8.toNat_inj.1
    unfold B8; rw [UInt8.toNat_ofNat']; have := b.toNat_lt; omega
  · intro i hi
    rw [Nat.zero_add, h.cell i (by omega)]
    simp [show i < l.length by omega]


theorem bytes_of_str (w : World) (l : List UInt8) :
    ∃ c w', l.length ≤ c ∧ (convert 9 105 (.string (S l))).run Tryz.prog w = .ok (.slice (some ⟨w.heap.size, 0, none⟩) l.length c) w' ∧ Ext w w' ∧ Row8 w' w.heap.size l ∧ w'.heap.size = w.heap.size + 1 := by
  have h := bytes_of_str0 w (S l)
  rw [S_size, S_bytes] at h
  exact h

/-- bytes, as cells -/
def b8s (m : List UInt8) : List Value := m.map fun b => Value.int .u8 (U8 b)
/-- bytes of a text, copied into a row of the call's own -/
theorem copy_str (w : World) (g o n cap : Nat) (l m : List UInt8) (hB : Row8 w g l) (hm : m.length = n) (ho : o + n ≤ l.length) (a : Option Addr) (ha : 0 < n → a = some ⟨g, o, none⟩) :
    (Builtin.copy_ #[105, 9] 3 #[.slice a n cap, .string (S m)]).run Tryz.prog w = .ok (.int .i64 (n : Int)) (w.setCells g o (b8s m)) := by
  unfold b8s
  have hi : (sizeOf 5).run Tryz.prog w = .ok 1 w := by kernel_rfl
  have hmin : Nat.min (S m).size n = n := by rw [S_size, hm]; exact Nat.min_self n
  have hex : ((S m).extract 0 n).data.map (fun b => Value.int .u8 (b.toNat : Int)) = (m.map fun b => Value.int .u8 (U8 b)).toArray := by
    rw [S_extract, List.drop_zero, List.take_of_length_le (by omega)]
    apply Array.ext'
    simp [S, U8]
  rcases Nat.eq_zero_or_pos n with h0 | h0
  · subst h0
    obtain rfl : m = [] := List.eq_nil_of_length_eq_zero hm
    cases a with
    | none => simp [Builtin.copy_, run_underlying Tryz.underlying105, hi, Builtin.lenOf, Builtin.firstCells, World.setCells, goInt, S_size, hmin]
    | some ad => simp [Builtin.copy_, run_underlying Tryz.underlying105, hi, Builtin.lenOf, Builtin.firstCells, World.setCells, goInt, S_size, hmin, storeCells, hex, S_extract]
  · obtain rfl := ha h0
    have hst := run_storeCells_cells (P := Tryz.prog) g o (m.map fun b => Value.int .u8 (U8 b)) 0 w
      (fun j hj => by rw [Nat.add_zero, hB.cell (o + j) (by simp at hj; omega)]; rfl)
      (fun j hj => by rw [Nat.add_zero]; exact hB.free (o + j) (by simp at hj; omega))
      (fun v hv => by obtain ⟨b, _, rfl⟩ := List.mem_map.1 hv; rfl)
    rw [Nat.add_zero] at hst
    simp [Builtin.copy_, run_underlying Tryz.underlying105, hi, Builtin.lenOf, Builtin.firstCells, goInt, S_size]
    rw [S_bytes, show m.length.min n = n by rw [hm]; exact Nat.min_self n, List.take_of_length_le (by simp; omega)]
    show ((storeCells ⟨g, o, none⟩ (m.map fun b => Value.int .u8 (U8 b))).run Tryz.prog w).andThen _ = _
    rw [hst]; rfl
theorem Row8.setCells {g : Nat} : ∀ (m : List UInt8) (o : Nat) (w : World) (l : List UInt8), Row8 w g l → o + m.length ≤ l.length →
    Row8 (w.setCells g o (b8s m)) g (l.take o ++ m ++ l.drop (o + m.length))
  | [], o, w, l, h, _ => by simpa [World.setCells, b8s] using h
  | b :: m, o, w, l, h, hl => by
    simp only [b8s, List.map_cons, World.setCells]
    simp only [List.length_cons] at hl
    have h1 := Row8.setCells m (o + 1) _ _ (h.set_ o (by omega) b) (by simp; omega)
    have e : l.take o ++ b :: m ++ l.drop (o + (b :: m).length) = (l.set o b).take (o + 1) ++ m ++ (l.set o b).drop (o + 1 + m.length) := by
      have ho : o < l.length := by omega
      rw [List.drop_set_of_lt (by omega), List.take_set, List.length_cons]
      rw [List.take_succ_eq_append_getElem ho, List.set_append_right _ _ (by simp; omega)]
      simp [show min o l.length = o by omega, show o + (m.length + 1) = o + 1 + m.length by omega]
    rw [e]; exact h1
theorem Ext.setCells {a : World} {g : Nat} (hg : a.heap.size ≤ g) : ∀ (vs : List Value) (o : Nat) (w : World), Ext a w → Ext a (w.setCells g o vs)
  | [], _, _, h => h
  | v :: r, o, w, h => Ext.setCells hg r (o + 1) _ (Ext.set h hg v)
end Go.Proofs.YtmjkfgpkohfmiaaGreat
