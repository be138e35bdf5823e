/- The document's disk: Boot. -/
import Derived.Test.YtfipfljiohdlhaaGreatDnL
namespace Go.Proofs.YtfipfljiohdlhaaGreat
set_option linter.unusedVariables false
set_option linter.unusedSimpArgs false
open Go.RowKit
attribute [local go_sem] S_size S_toList S_append S_extract S_beq S_bne S_empty S_nil
variable {K : List Nat}

/-- the directory behind the first k changes -/
def lfD (d : Dsk) (k : Nat) : List (List UInt8 × Nat) := (d.chs.take k).foldl appC d.safe
theorem lfD_next {d : Dsk} {k : Nat} {c : List UInt8 × List UInt8 × Option Nat} (h : d.chs[k]? = some c) : lfD d (k + 1) = appC (lfD d k) c := by
  unfold lfD
  rw [List.take_add_one, h, List.foldl_append]; rfl
theorem lfD_len (d : Dsk) (k : Nat) : (lfD d k).length ≤ d.safe.length + d.chs.length := by
  have h : ∀ (cs : List (List UInt8 × List UInt8 × Option Nat)) (l : List (List UInt8 × Nat)), (cs.foldl appC l).length ≤ l.length + cs.length := by
    intro cs
    induction cs with
    | nil => intro l; simp
    | cons c cs ih =>
      intro l
      rw [List.foldl_cons]
      have := ih (appC l c)
      have := appC_len l c
      simp only [List.length_cons]; omega
  have := h (d.chs.take k) d.safe
  rw [List.length_take] at this
  unfold lfD
  omega
theorem lfD_end {d : Dsk} {k : Nat} {dir : Int} (h1 : k ≤ d.chs.length) (h2 : (k : Int) ≤ max dir 0) (h3 : ¬ (k < d.chs.length ∧ (k : Int) < dir)) : lfD d k = d.left dir := by
  unfold lfD Dsk.left
  by_cases h : k = d.chs.length
  · subst h
    rw [List.take_length, List.take_of_length_le (by omega)]
  · rw [show dir.toNat = k by omega]
/-- the state of the loop over the files -/
structure RBoot (K : List Nat) (w : World) (v5 : Value) (L : List (List UInt8 × Nat)) (d : Dsk) (cuts : List Int) (marks : List (List UInt8)) (dir : Int) (vc vm : Value) (v : V4) (i j : Nat) (fs : List (List UInt8 × List UInt8)) (wr : World) : Prop where
  ext : Ext w wr
  ref : RefD K wr v { d with files := fs }
  bd : Blk wr w.heap.size 33 #[v.fs, v.dir, v.safe, v.chs, .int .i64 d.cap, .int .i64 d.ops, .int .i64 d.armed, .bool d.dead]
  bc : Blk wr (w.heap.size + 1) 41 #[.int .i64 dir, vc, vm]
  br : Blk wr (w.heap.size + 1 + 1) 33 #[.slice none 0 0, .slice none 0 0, .slice none 0 0, .slice none 0 0, .int .i64 0, .int .i64 0, .int .i64 0, .bool false]
  dirs : RK K eC 2 wr v5 L
  fall : fallAll cuts marks L 0 d.files = fallAll cuts marks (L.drop i) j fs
  len : fs.length = d.files.length
  hj : j ≤ i
  big : ∀ f ∈ fs, f.1.length ≤ 1000000 ∧ f.2.length ≤ 1000000
theorem RBoot.to {w : World} {v5 : Value} {L : List (List UInt8 × Nat)} {d : Dsk} {cuts : List Int} {marks : List (List UInt8)} {dir : Int} {vc vm : Value} {v : V4} {i j : Nat} {fs : List (List UInt8 × List UInt8)} {wr w' : World} (h : RBoot K w v5 L d cuts marks dir vc vm v i j fs wr) (x : Ext wr w') : RBoot K w v5 L d cuts marks dir vc vm v i j fs w' :=
  { h with ext := h.ext.trans x, ref := h.ref.ext x, bd := h.bd.ext x, bc := h.bc.ext x, br := h.br.ext x, dirs := h.dirs.ext x }
theorem RBoot.nostr {w : World} {v5 : Value} {L : List (List UInt8 × Nat)} {d : Dsk} {cuts : List Int} {marks : List (List UInt8)} {dir : Int} {vc vm : Value} {v : V4} {i j : Nat} {fs : List (List UInt8 × List UInt8)} {wr : World} (h : RBoot K w v5 L d cuts marks dir vc vm v i j fs wr) : ∀ (i : Nat) (z : ByteArray), (#[v.fs, v.dir, v.safe, v.chs, .int .i64 d.cap, .int .i64 d.ops, .int .i64 d.armed, .bool d.dead] : Array Value)[i]? ≠ some (Value.string z) := by
  obtain ⟨aF, cF, aD, cD, aS, cS, aC, cC, rfl⟩ := h.ref.open_
  exact dsk_nostr _ _ _ _ (sl_ex _ _ _) (sl_ex _ _ _) (sl_ex _ _ _) (sl_ex _ _ _) _ _ _ _
/-- a file that is synced stays -/
theorem RBoot.firm {w : World} {v5 : Value} {L : List (List UInt8 × Nat)} {d : Dsk} {cuts : List Int} {marks : List (List UInt8)} {dir : Int} {vc vm : Value} {v : V4} {i j : Nat} {fs : List (List UInt8 × List UInt8)} {wr : World} (h : RBoot K w v5 L d cuts marks dir vc vm v i j fs wr) {x : List UInt8 × Nat} (hx : L[i]? = some x) {a : List UInt8} (hf : fs.getD x.2 ([], []) = (a, a)) : RBoot K w v5 L d cuts marks dir vc vm v (i + 1) j fs wr :=
  { h with fall := by rw [h.fall, drop_at hx, fallAll_firm x _ j hf], hj := by have := h.hj; omega }
/-- a file that falls -/
theorem RBoot.fell {w : World} {v5 : Value} {L : List (List UInt8 × Nat)} {d : Dsk} {cuts : List Int} {marks : List (List UInt8)} {dir : Int} {vc vm : Value} {v v' : V4} {i j : Nat} {fs : List (List UInt8 × List UInt8)} {wr w1 w2 : World} (h : RBoot K w v5 L d cuts marks dir vc vm v i j fs wr) {x : List UInt8 × Nat} (hx : L[i]? = some x) {a c : List UInt8} (hf : fs.getD x.2 ([], []) = (a, c)) (hne : a ≠ c) {r : List UInt8} (hr : r = leftL a c (cuts.getD j 0) (marks.getD j []))
    (x1 : Ext wr w1) (r1 : RefD K w1 v' { d with files := fs.set x.2 (r, r) }) (y : Ext (w1.setRow w.heap.size #[v'.fs, v'.dir, v'.safe, v'.chs, .int .i64 d.cap, .int .i64 d.ops, .int .i64 d.armed, .bool d.dead]) w2) :
    RBoot K w v5 L d cuts marks dir vc vm v' (i + 1) (j + 1) (fs.set x.2 (r, r)) w2 := by
  subst hr
  have h1 := h.to x1
  have bx := But.row1 w1 w.heap.size #[v'.fs, v'.dir, v'.safe, v'.chs, .int .i64 d.cap, .int .i64 d.ops, .int .i64 d.armed, .bool d.dead]
  have hac : a.length ≤ 1000000 ∧ c.length ≤ 1000000 := by
    rw [List.getD_eq_getElem?_getD] at hf
    cases e : fs[x.2]? with
    | none => rw [e] at hf; simp only [Option.getD_none, Prod.mk.injEq] at hf; rw [← hf.1, ← hf.2]; simp
    | some f => rw [e] at hf; have := h.big f (List.mem_of_getElem? e); rw [Option.getD_some] at hf; rw [hf] at this; exact this
  exact ⟨(h1.ext.setRow (Nat.le_refl _) _).trans y, (r1.butG h1.bd h1.nostr bx).ext y, (h1.bd.setRow _).ext y, (h1.bc.setRow_far (by omega) _).ext y, (h1.br.setRow_far (by omega) _).ext y, (h1.dirs.butG eC_str h1.bd h1.nostr bx).ext y,
    by rw [h.fall, drop_at hx, fallAll_loose x _ j hf hne], by rw [List.length_set]; exact h.len, by have := h.hj; omega, fun f hm => by
      rcases List.mem_or_eq_of_mem_set hm with hm | rfl
      · exact h.big f hm
      · exact ⟨leftL_length _ _ _ _ hac.1 hac.2, leftL_length _ _ _ _ hac.1 hac.2⟩⟩

end Go.Proofs.YtfipfljiohdlhaaGreat
