/- Opening arguments that hold arrays, and slices of structs. -/
import Derived.Test.YtjbacmhkmofpkaaGramF
import Derived.Test.YtjbacmhkmofpkaaOpen
import Derived.Deep.Slices
namespace Go.Proofs.Ytjbacmhkmofpkaa
set_option linter.unusedVariables false
set_option linter.unusedSimpArgs false
open Go.ChangeShapes Go.WideShapes Go.ChangeAt Go.RowKit
section
variable {H : Type} {enc : TypeId × Value → H} {P : Program} {w : World} {base : Nat} {spare : Nat → Bool} {held : Bool}
theorem spot_none {a : Addr} {v : Value} (h : w.cell? a = some v) : a = ⟨a.block, a.off, none⟩ := by
  obtain ⟨b, o, s⟩ := a
  cases s with
  | none => rfl
  | some s => unfold World.cell? at h; split at h <;> simp_all
/-- a slice of structs -/
theorem open_rd {α : Type} [Inhabited α] {f : α → List Value} {s : Nat} (R : α → Prop) {t e : TypeId} {fuel : Nat} {cs : List Value} {x : DataW H × List MemPlace} (ht : P.underlying t = some (.slice e)) (hc : P.cellsOf e = s) (hs : 0 < s) (hf : ∀ x, (f x).length = s)
    (hopen : ∀ n cs' y, DataW.trod enc P w base spare held n e cs' = some y → ∃ x : α, cs' = f x ∧ R x) (h : DataW.trod enc P w base spare held fuel t cs = some x) :
    ∃ (v : Value) (l : List α), cs = [v] ∧ RD f s w v l ∧ (l.length : Int) ≤ 9223372036854775807 ∧ ∀ x ∈ l, R x := by
  rcases Deep.open_slice ht h with ⟨rfl, _⟩ | ⟨a, len, cap, m, n, D, Pl, rfl, hb, hl, hm, hmm, _, hx⟩
  · exact ⟨_, [], rfl, ⟨none, 0, rfl, fun h => by simp at h⟩, by simp, fun x hx => by simp at hx⟩
  · have hlm : len ≤ m := by rw [hmm]; split <;> omega
    obtain ⟨q, hq⟩ := Deep.choose_lt (n := len) (p := fun i (x : α) => w.cells? base (a.add (i * s)) s = some (f x) ∧ R x) (fun i hi => by
      obtain ⟨cs', h1, h2⟩ := hx i (by omega)
      obtain ⟨x, rfl, hr⟩ := hopen _ _ _ h2
      rw [hc] at h1
      exact ⟨x, h1, hr⟩)
    refine ⟨_, (List.range len).map q, rfl, ⟨some a, cap, by simp, fun hlen => ?_⟩, by rw [List.length_map, List.length_range]; unfold maxLen at hm; omega, ?_⟩
    · rw [List.length_map, List.length_range] at hlen
      have hcell : ∀ i, i < len → ∀ j u, (f (q i))[j]? = some u → w.cell? (a.add (i * s + j)) = some u := fun i hi j u hu => by
        obtain ⟨_, _, h3⟩ := World.cells?_some (hq i hi).1
        have hj : j < s := by
          rw [← hf (q i)]
          rcases Nat.lt_or_ge j (f (q i)).length with h | h
          · exact h
          · rw [List.getElem?_eq_none h] at hu; cases hu
        rw [← Deep.add_add, h3 j hj]; exact hu
      have ha : a = ⟨a.block, a.off, none⟩ := by
        have h0 := hcell 0 hlen 0 _ (List.getElem?_eq_getElem (by rw [hf]; exact hs))
        rw [Nat.zero_mul] at h0
        exact spot_none (show w.cell? a = some _ from h0)
      refine ⟨a.block, a.off, by rw [ha], fun k x hk j u hu => ?_⟩
      rw [List.getElem?_map] at hk
      have hkl : k < len := by
        rcases Nat.lt_or_ge k len with h | h
        · exact h
        · rw [List.getElem?_eq_none (by simpa using h)] at hk; cases hk
      rw [List.getElem?_range hkl, Option.map_some] at hk
      obtain rfl := Option.some.inj hk
      have := hcell k hkl j u hu
      rw [ha, Addr.add_mid] at this
      rw [Nat.add_assoc]; exact this
    · intro x hx
      obtain ⟨i, hi, rfl⟩ := List.mem_map.1 hx
      exact (hq i (List.mem_range.1 hi)).2
/-- four words -/
theorem open_words4 {t e : TypeId} {fuel : Nat} {cs : List Value} {x : DataW H × List MemPlace} (ht : P.underlying t = some (.array 4 e)) (he : P.underlying e = some (.int .u64)) (hce : P.cellsOf e = 1) (hct : P.cellsOf t = 4)
    (h : DataW.trod enc P w base spare held fuel t cs = some x) : ∃ m : W4, cs = wordsL m.1 := by
  obtain ⟨xs, m, _, _, hlen, hxl, hg⟩ := DataW.trod_array ht h
  rw [hct] at hlen
  have hone : ∀ i (hi : i < 4), ∃ z : UInt64, cs[i]? = some (.int .u64 (U64 z)) := by
    intro i hi
    have h1 := hg i hi
    rw [hce, Nat.mul_one, List.drop_eq_getElem_cons (by omega)] at h1
    rw [List.getElem?_eq_getElem (by omega)] at h1
    simp only [List.take_succ_cons, List.take_zero] at h1
    obtain ⟨z, e1, _, wz⟩ := DataW.trod_int he h1
    injection e1 with e1
    have hz := bounds_u64 wz
    refine ⟨UInt64.ofNat z.toNat, by
      rw [List.getElem?_eq_getElem (by omega), e1]
      congr 2
      unfold U64
      rw [UInt64.toNat_ofNat']; omega⟩
  obtain ⟨a, ha⟩ := hone 0 (by omega)
  obtain ⟨b, hb⟩ := hone 1 (by omega)
  obtain ⟨c, hc⟩ := hone 2 (by omega)
  obtain ⟨d, hd⟩ := hone 3 (by omega)
  refine ⟨⟨[a, b, c, d], rfl⟩, ?_⟩
  apply List.ext_getElem?
  intro i
  show cs[i]? = (wordsL [a, b, c, d])[i]?
  obtain rfl | rfl | rfl | rfl | hi : i = 0 ∨ i = 1 ∨ i = 2 ∨ i = 3 ∨ 4 ≤ i := by omega
  · exact ha
  · exact hb
  · exact hc
  · exact hd
  · rw [List.getElem?_eq_none (by omega), List.getElem?_eq_none (by simp [wordsL]; omega)]
/-- a struct by value, whatever its fields -/
theorem open_struct {r : Reach} {b0 : Nat} {t : TypeId} {fs : Array Field} {v : Value} {d : DataW H} {p : List MemPlace} (hs : P.underlying t = some (.struct fs))
    (hv : Value.okWide P w r b0 t v) (h : DataW.Trod enc P w base spare held t v d p) :
    ∃ (cs : List Value) (n : Nat), v = .agg cs.toArray ∧ cs.length = P.cellsOf t ∧ ∀ (i : Nat) (f : Field), fs[i]? = some f → ∃ y, DataW.trod enc P w base spare held n f.type ((cs.drop f.offset).take (P.cellsOf f.type)) = some y := by
  obtain ⟨cs, rfl, hsz⟩ := okWide_struct hs hv
  obtain ⟨fuel, hf⟩ := h
  obtain ⟨xs, n, _, _, hl, hlen, hg⟩ := DataW.trod_struct hs hf
  refine ⟨cs.toList, n, by simp, by simpa [Value.cells] using hl, fun i f hi => ?_⟩
  have := hg i f hi
  have hlt : i < xs.length := by
    rw [hlen]
    rcases Nat.lt_or_ge i fs.size with h | h
    · exact h
    · rw [Array.getElem?_eq_none h] at hi; cases hi
  rw [List.getElem?_eq_getElem hlt] at this
  exact ⟨_, by simpa [Value.cells] using this⟩
theorem take1 {l : List Value} {i : Nat} {v : Value} (h : (l.drop i).take 1 = [v]) : l[i]? = some v := by
  have h2 := congrArg (fun l => l[0]?) h
  simpa using h2
/-- two sets of marks, by value -/
def PV (a b : W4) : Value := .agg (wordsL (a.1 ++ b.1)).toArray
theorem open_pair {r : Reach} {b0 : Nat} {v : Value} {d : DataW H} {p : List MemPlace} (hv : Value.okWide Try.prog w r b0 25 v) (h : DataW.Trod enc Try.prog w base spare held 25 v d p) :
    ∃ a b : W4, v = PV a b := by
  obtain ⟨cs, n, rfl, hl, hg⟩ := open_struct Try.underlying25 hv h
  rw [show Try.prog.cellsOf 25 = 8 by kernel_rfl] at hl
  obtain ⟨y0, h0⟩ := hg 0 _ rfl
  obtain ⟨y1, h1⟩ := hg 1 _ rfl
  obtain ⟨a, ha⟩ := open_words4 Try.underlying23 Try.underlying22 (by kernel_rfl) (by kernel_rfl) h0
  obtain ⟨b, hb⟩ := open_words4 Try.underlying23 Try.underlying22 (by kernel_rfl) (by kernel_rfl) h1
  refine ⟨a, b, ?_⟩
  have ha : (cs.drop 0).take (Try.prog.cellsOf 23) = wordsL a.1 := ha
  have hb : (cs.drop 4).take (Try.prog.cellsOf 23) = wordsL b.1 := hb
  rw [show Try.prog.cellsOf 23 = 4 by kernel_rfl] at ha hb
  have hb' : cs.drop 4 = wordsL b.1 := by
    rw [← hb]; exact (List.take_of_length_le (by rw [List.length_drop]; omega)).symm
  have ha' : cs.take 4 = wordsL a.1 := ha
  unfold PV
  rw [wordsL, List.map_append, show List.map (fun x => Value.int .u64 (U64 x)) a.1 = wordsL a.1 from rfl, show List.map (fun x => Value.int .u64 (U64 x)) b.1 = wordsL b.1 from rfl, ← ha', ← hb', List.take_append_drop]
theorem open_rec {fuel : Nat} {cs : List Value} {x : DataW H × List MemPlace} (h : DataW.trod enc Try.prog w base spare held fuel 57 cs = some x) : ∃ r : Rec, cs = recCells r ∧ (r.2.2.length : Int) ≤ 9223372036854775807 := by
  obtain ⟨xs, n, _, _, hl, hlen, hg⟩ := DataW.trod_struct Try.underlying57 h
  rw [show Try.prog.cellsOf 57 = 3 by kernel_rfl] at hl
  have hlen : xs.length = 3 := hlen
  have h0 := hg 0 _ rfl
  have h1 := hg 1 _ rfl
  have h2 := hg 2 _ rfl
  rw [List.getElem?_eq_getElem (by omega)] at h0 h1 h2
  obtain ⟨z0, e0, _, w0⟩ := DataW.trod_int Try.underlying3 h0
  obtain ⟨z1, e1, _, w1⟩ := DataW.trod_int Try.underlying3 h1
  obtain ⟨z2, e2, _, w2⟩ := DataW.trod_string Try.underlying9 h2
  have e0 : (cs.drop 0).take (Try.prog.cellsOf 3) = _ := e0
  have e1 : (cs.drop 1).take (Try.prog.cellsOf 3) = _ := e1
  have e2 : (cs.drop 2).take (Try.prog.cellsOf 9) = _ := e2
  rw [show Try.prog.cellsOf 3 = 1 by kernel_rfl] at e0 e1
  rw [show Try.prog.cellsOf 9 = 1 by kernel_rfl] at e2
  refine ⟨(z0, z1, z2.data.toList), ?_, by unfold maxLen at w2; simp only [Array.length_toList]; show (z2.size : Int) ≤ _; omega⟩
  apply List.ext_getElem?
  intro i
  obtain rfl | rfl | rfl | hi : i = 0 ∨ i = 1 ∨ i = 2 ∨ 3 ≤ i := by omega
  · rw [take1 e0]; rfl
  · rw [take1 e1]; rfl
  · rw [take1 e2]
    show some (Value.string z2) = some (Value.string (S z2.data.toList))
    rw [← S_of]
  · rw [List.getElem?_eq_none (by omega), List.getElem?_eq_none (by rw [recCells_length]; omega)]
/-- three bytes, a place, and records, by value -/
def BytesV (a b c : Int) (i : Int) (v : Value) : Value := .agg #[.int .u8 a, .int .u8 b, .int .u8 c, .int .i64 i, v]
theorem open_bytes {r : Reach} {b0 : Nat} {v : Value} {d : DataW H} {p : List MemPlace} (hv : Value.okWide Try.prog w r b0 41 v) (h : DataW.Trod enc Try.prog w base spare held 41 v d p) :
    ∃ (a b c : UInt8) (i : Int) (u : Value) (l : List Rec), v = BytesV (U8 a) (U8 b) (U8 c) i u ∧ (Lit.int .i64 i).wf = true ∧ RD recCells 3 w u l ∧ (l.length : Int) ≤ 9223372036854775807 ∧ ∀ r ∈ l, (r.2.2.length : Int) ≤ 9223372036854775807 := by
  obtain ⟨cs, n, rfl, hl, hg⟩ := open_struct Try.underlying41 hv h
  rw [show Try.prog.cellsOf 41 = 5 by kernel_rfl] at hl
  obtain ⟨y0, h0⟩ := hg 0 _ rfl
  obtain ⟨y1, h1⟩ := hg 1 _ rfl
  obtain ⟨y2, h2⟩ := hg 2 _ rfl
  obtain ⟨y3, h3⟩ := hg 3 _ rfl
  obtain ⟨y4, h4⟩ := hg 4 _ rfl
  obtain ⟨z0, e0, _, w0⟩ := DataW.trod_int Try.underlying5 h0
  obtain ⟨z1, e1, _, w1⟩ := DataW.trod_int Try.underlying5 h1
  obtain ⟨z2, e2, _, w2⟩ := DataW.trod_int Try.underlying5 h2
  obtain ⟨z3, e3, _, w3⟩ := DataW.trod_int Try.underlying3 h3
  obtain ⟨u, l, e4, hrd, hll, hR⟩ := open_rd (f := recCells) (s := 3) (fun r => (r.2.2.length : Int) ≤ 9223372036854775807) Try.underlying39 (by kernel_rfl) (by omega) recCells_length (fun n cs' y hy => open_rec hy) h4
  have e0 : (cs.drop 0).take (Try.prog.cellsOf 5) = _ := e0
  have e1 : (cs.drop 1).take (Try.prog.cellsOf 5) = _ := e1
  have e2 : (cs.drop 2).take (Try.prog.cellsOf 5) = _ := e2
  have e3 : (cs.drop 3).take (Try.prog.cellsOf 3) = _ := e3
  have e4 : (cs.drop 4).take (Try.prog.cellsOf 39) = _ := e4
  rw [show Try.prog.cellsOf 5 = 1 by kernel_rfl] at e0 e1 e2
  rw [show Try.prog.cellsOf 3 = 1 by kernel_rfl] at e3
  rw [show Try.prog.cellsOf 39 = 1 by kernel_rfl] at e4
  have b0 := bounds_u8 w0
  have b1 := bounds_u8 w1
  have b2 := bounds_u8 w2
  have hu : ∀ z : Int, 0 ≤ z ∧ z ≤ 255 → U8 (UInt8.ofNat z.toNat) = z := fun z hz => by unfold U8; rw [UInt8.toNat_ofNat']; omega
  refine ⟨UInt8.ofNat z0.toNat, UInt8.ofNat z1.toNat, UInt8.ofNat z2.toNat, z3, u, l, ?_, w3, hrd, hll, hR⟩
  rw [hu _ b0, hu _ b1, hu _ b2]
  unfold BytesV
  congr 1
  apply Array.ext'
  apply List.ext_getElem?
  intro i
  obtain rfl | rfl | rfl | rfl | rfl | hi : i = 0 ∨ i = 1 ∨ i = 2 ∨ i = 3 ∨ i = 4 ∨ 5 ≤ i := by omega
  · exact take1 e0
  · exact take1 e1
  · exact take1 e2
  · exact take1 e3
  · exact take1 e4
  · rw [List.getElem?_eq_none (by simpa [hl] using hi), List.getElem?_eq_none (by simpa using hi)]
end
end Go.Proofs.Ytjbacmhkmofpkaa
