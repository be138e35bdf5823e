/- General words of chapters with structs: stores and loads of whole structs, slices that are written out, slices of structs that may be read, the opening of arguments that hold structs. (Collected out of the texts of chapter 40; do not import beside them.) -/
import Derived.Test.YtmjkfgpkohfmiaaGreatWide
import Derived.Test.YtmjkfgpkohfmiaaGreatRets
import Derived.Test.YtmjkfgpkohfmiaaGreatAnyY
import Derived.Test.YtmjkfgpkohfmiaaGreatOpen
import Derived.Test.YtmjkfgpkohfmiaaGreatStr
import Derived.Deep.Slices
namespace Go.Proofs.YtmjkfgpkohfmiaaGreat
set_option linter.unusedVariables false
set_option linter.unusedSimpArgs false
open Go.RowKit

/-- a goal that no step of the walk opens -/
structure Held (p : Prop) : Prop where
  go : p
theorem wpList_hold {P : Program} {ops : Array Oper} {Q : Exit → Act → World → Prop} {a : Act} {w : World} {rest : List Oper} {o : Oper} (n : Tmp) (hd : o.dst = some n) (h : Held (wpList P ops Q (o :: rest) a w)) : wpList P ops Q (o :: rest) a w := h.go

section
variable {P : Program} {a : Act} {w : World} {K : Act → World → Prop} {Q : Exit → Act → World → Prop} {o : Oper}
/-- a whole array or struct is stored into its block -/
theorem wp_store_blk (ty : TypeId) (x y : Operand) (ho : o.op = .store ty x y)
    {g : Nat} (hx : a.eval x = .pointer (some ⟨g, 0, none⟩)) {t : TypeId} {cs cs' : Array Value} (hy : a.eval y = .agg cs') (hg : Blk w g t cs) (hs : cs.size = cs'.size)
    (hi : (P.info? ty).map (·.size) = some cs'.size) (h1 : cs'.all (·.oneCell') = true)
    (h : K (a.put o.dst undef) (w.setRow g cs')) : o.wp P a w K Q := by
  unfold Oper.wp execOp
  simp only [ho, hx, hy, Instr.storeAt, Instr.sureAddr, Sem.run_bind, Sem.run_pure, Result.andThen_ok, run_storeVar_row w g t ty cs cs' hg hi hs h1]
  exact h
end


section
variable {P : Program} {ops : Array Oper} {rest : List Oper} {a : Act} {w w' : World} {K : Act → World → Prop} {Q : Exit → Act → World → Prop} {o : Oper} {v : Value} {vs : Array (Nat × Value)}
/-- a slice that is written out -/
theorem wp_bs (t : TypeId) (n : Nat) (parts : Array (Nat × Operand)) (ho : o.op = .buildSlice t n parts) (hx : (parts.toList.map fun (i, x) => (i, a.eval x)) = vs.toList)
    (hrun : (Instr.buildSlice t n vs).run P w = .ok v w') (h : K (a.put o.dst v) w') : o.wp P a w K Q := by
  have hx : (parts.map fun (i, x) => (i, a.eval x)) = vs := by
    apply Array.ext'
    rw [Array.toList_map]; exact hx
  unfold Oper.wp execOp
  simp only [ho, hx, Sem.run_bind, Sem.run_pure, Result.andThen_ok, hrun]
  exact h
theorem wpList_bs (hgd : o.guard = none) (t : TypeId) (n : Nat) (parts : Array (Nat × Operand)) (ho : o.op = .buildSlice t n parts) (hx : (parts.toList.map fun (i, x) => (i, a.eval x)) = vs.toList)
    (hrun : (Instr.buildSlice t n vs).run P w = .ok v w') (h : wpList P ops Q rest (a.put o.dst v) w') : wpList P ops Q (o :: rest) a w :=
  wpList_plain hgd fun _ hK => wp_bs t n parts ho hx hrun (hK _ _ h)
end

/-- the slice v may be read: these elements, each of s cells -/
def RD {α : Type} (f : α → List Value) (s : Nat) (w : World) (v : Value) (l : List α) : Prop :=
  ∃ a c, v = .slice a l.length c ∧ (0 < l.length → ∃ g o, a = some ⟨g, o, none⟩ ∧ ∀ (k : Nat) (x : α), l[k]? = some x → w.rangeAt g (o + k * s) (f x))
theorem RD.ext {α : Type} {f : α → List Value} {s : Nat} {w w' : World} {v : Value} {l : List α} (h : RD f s w v l) (hx : Ext w w') : RD f s w' v l := by
  obtain ⟨a, c, h1, h2⟩ := h
  refine ⟨a, c, h1, fun hl => ?_⟩
  obtain ⟨g, o, h3, h4⟩ := h2 hl
  exact ⟨g, o, h3, fun k x hk => rangeAt_ext (h4 k x hk) hx⟩
theorem WR.rd {α : Type} {f : α → List Value} {s : Nat} (hf : ∀ x, (f x).length = s) {w : World} {B : Nat} {e : TypeId} {v : Value} {l : List α} (h : WR f s w B e v l) : RD f s w v l := by
  obtain ⟨a, c, h1, _, h2⟩ := h.shape hf
  refine ⟨a, c, h1, fun hl => ?_⟩
  obtain ⟨g, h3, _, _, h4, _⟩ := h2 hl
  exact ⟨g, 0, h3, fun k x hk => by rw [Nat.zero_add]; exact h4 k x hk⟩

theorem range_far {w : World} {g o k : Nat} {cs : List Value} (h : w.rangeAt g o cs) (hne : g ≠ k) (cs' : Array Value) : (w.setRow k cs').rangeAt g o cs := fun j v hv => by
  rw [World.cell?_of_block (w := w) (w' := w.setRow k cs') (a := ⟨g, o + j, none⟩) (setRow_other w k g cs' hne)]; exact h j v hv
section
variable {P : Program} {ops : Array Oper} {rest : List Oper} {o : Oper} {a : Act} {w : World} {Q : Exit → Act → World → Prop}
/-- a whole array or struct is loaded out of its block, where the guard is met -/
theorem wpList_load_blk_g (hw : Region.wanted o (yielded ops a.tmps) = true) (ty : TypeId) (x : Operand) (ho : o.op = .load ty x)
    {g : Nat} (hx : a.eval x = .pointer (some ⟨g, 0, none⟩)) {t : TypeId} {cs : Array Value} {d : TypeDesc} (hg : Blk w g t cs)
    (hu : P.underlying ty = some d) (hd : d.isRow = true) (hi : (P.info? ty).map (·.size) = some cs.size)
    (h : wpList P ops Q rest (a.put o.dst (.agg cs)) w) : wpList P ops Q (o :: rest) a w :=
  wpList_step fun _ hK => by
    rw [if_pos hw]
    unfold Oper.wp execOp
    simp only [ho, hx, Instr.loadAt, Instr.sureAddr, Sem.run_bind, Sem.run_pure, Result.andThen_ok, run_loadVar_row w g t ty cs (0, 0) d hg hu (by cases d <;> first | rfl | (exact hd)) hi]
    exact hK _ _ h
end

open Go.ChangeShapes Go.WideShapes Go.ChangeAt
section
variable {H : Type} {enc : TypeId × Value → H} {P : Program} {w : World} {base : Nat} {spare : Nat → Bool} {held : Bool}
theorem spot_none {a : Addr} {v : Value} (h : w.cell? a = some v) : a = ⟨a.block, a.off, none⟩ := by
  obtain ⟨b, o, s⟩ := a
  cases s with
  | none => rfl
  | some s => unfold World.cell? at h; split at h <;> simp_all
/-- a slice of structs -/
theorem open_rd {α : Type} [Inhabited α] {f : α → List Value} {s : Nat} (R : α → Prop) {t e : TypeId} {fuel : Nat} {cs : List Value} {x : DataW H × List MemPlace} (ht : P.underlying t = some (.slice e)) (hc : P.cellsOf e = s) (hs : 0 < s) (hf : ∀ x, (f x).length = s)
    (hopen : ∀ n cs' y, DataW.trod enc P w base spare held n e cs' = some y → ∃ x : α, cs' = f x ∧ R x) (h : DataW.trod enc P w base spare held fuel t cs = some x) :
    ∃ (v : Value) (l : List α), cs = [v] ∧ RD f s w v l ∧ (l.length : Int) ≤ 9223372036854775807 ∧ ∀ x ∈ l, R x := by
  rcases Deep.open_slice ht h with ⟨rfl, _⟩ | ⟨a, len, cap, m, n, D, Pl, rfl, hb, hl, hm, hmm, _, hx⟩
  · exact ⟨_, [], rfl, ⟨none, 0, rfl, fun h => by simp at h⟩, by simp, fun x hx => by simp at hx⟩
  · have hlm : len ≤ m := by rw [hmm]; split <;> omega
    obtain ⟨q, hq⟩ := Deep.choose_lt (n := len) (p := fun i (x : α) => w.cells? base (a.add (i * s)) s = some (f x) ∧ R x) (fun i hi => by
      obtain ⟨cs', h1, h2⟩ := hx i (by omega)
      obtain ⟨x, rfl, hr⟩ := hopen _ _ _ h2
      rw [hc] at h1
      exact ⟨x, h1, hr⟩)
    refine ⟨_, (List.range len).map q, rfl, ⟨some a, cap, by simp, fun hlen => ?_⟩, by rw [List.length_map, List.length_range]; unfold maxLen at hm; omega, ?_⟩
    · rw [List.length_map, List.length_range] at hlen
      have hcell : ∀ i, i < len → ∀ j u, (f (q i))[j]? = some u → w.cell? (a.add (i * s + j)) = some u := fun i hi j u hu => by
        obtain ⟨_, _, h3⟩ := World.cells?_some (hq i hi).1
        have hj : j < s := by
          rw [← hf (q i)]
          rcases Nat.lt_or_ge j (f (q i)).length with h | h
          · exact h
          · rw [List.getElem?_eq_none h] at hu; cases hu
        rw [← Deep.add_add, h3 j hj]; exact hu
      have ha : a = ⟨a.block, a.off, none⟩ := by
        have h0 := hcell 0 hlen 0 _ (List.getElem?_eq_getElem (by rw [hf]; exact hs))
        rw [Nat.zero_mul] at h0
        exact spot_none (show w.cell? a = some _ from h0)
      refine ⟨a.block, a.off, by rw [ha], fun k x hk j u hu => ?_⟩
      rw [List.getElem?_map] at hk
      have hkl : k < len := by
        rcases Nat.lt_or_ge k len with h | h
        · exact h
        · rw [List.getElem?_eq_none (by simpa using h)] at hk; cases hk
      rw [List.getElem?_range hkl, Option.map_some] at hk
      obtain rfl := Option.some.inj hk
      have := hcell k hkl j u hu
      rw [ha, Addr.add_mid] at this
      rw [Nat.add_assoc]; exact this
    · intro x hx
      obtain ⟨i, hi, rfl⟩ := List.mem_map.1 hx
      exact (hq i (List.mem_range.1 hi)).2
/-- a struct by value, whatever its fields -/
theorem open_struct {r : Reach} {b0 : Nat} {t : TypeId} {fs : Array Field} {v : Value} {d : DataW H} {p : List MemPlace} (hs : P.underlying t = some (.struct fs))
    (hv : Value.okWide P w r b0 t v) (h : DataW.Trod enc P w base spare held t v d p) :
    ∃ (cs : List Value) (n : Nat), v = .agg cs.toArray ∧ cs.length = P.cellsOf t ∧ ∀ (i : Nat) (f : Field), fs[i]? = some f → ∃ y, DataW.trod enc P w base spare held n f.type ((cs.drop f.offset).take (P.cellsOf f.type)) = some y := by
  obtain ⟨cs, rfl, hsz⟩ := okWide_struct hs hv
  obtain ⟨fuel, hf⟩ := h
  obtain ⟨xs, n, _, _, hl, hlen, hg⟩ := DataW.trod_struct hs hf
  refine ⟨cs.toList, n, by simp, by simpa [Value.cells] using hl, fun i f hi => ?_⟩
  have := hg i f hi
  have hlt : i < xs.length := by
    rw [hlen]
    rcases Nat.lt_or_ge i fs.size with h | h
    · exact h
    · rw [Array.getElem?_eq_none h] at hi; cases hi
  rw [List.getElem?_eq_getElem hlt] at this
  exact ⟨_, by simpa [Value.cells] using this⟩
theorem take1 {l : List Value} {i : Nat} {v : Value} (h : (l.drop i).take 1 = [v]) : l[i]? = some v := by
  have h2 := congrArg (fun l => l[0]?) h
  simpa using h2
end
end Go.Proofs.YtmjkfgpkohfmiaaGreat
