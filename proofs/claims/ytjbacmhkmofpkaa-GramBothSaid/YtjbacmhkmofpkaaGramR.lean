/- gram, the document's answer: rows of 256 bools; Bools. -/
import Derived.Test.YtjbacmhkmofpkaaGramI
namespace Go.Proofs.Ytjbacmhkmofpkaa
set_option linter.unusedVariables false
set_option linter.unusedSimpArgs false
open Go.RowKit
attribute [local go_sem] S_size S_toList S_append S_extract S_beq S_bne S_empty S_nil

def boolsV (l : List Bool) : List Value := l.map Value.bool
/-- 256 bools, by value -/
def BV (l : List Bool) : Value := .agg (boolsV l).toArray
theorem boolsV_size (l : List Bool) : (boolsV l).toArray.size = l.length := by simp [boolsV]
theorem boolsV_get (l : List Bool) (k : Nat) (h : k < l.length) : (boolsV l).toArray[k]? = some (.bool (l.getD k false)) := by
  simp [boolsV, List.getD_eq_getElem?_getD, h]
theorem boolsV_set (l : List Bool) (k : Nat) (x : Bool) : (boolsV l).toArray.setIfInBounds k (.bool x) = (boolsV (l.set k x)).toArray := by
  simp [boolsV, List.map_set]
theorem boolsV_one (l : List Bool) : (boolsV l).toArray.all (·.oneCell') = true := by
  simp [boolsV, Value.oneCell']
theorem bools_size {l : List Bool} (h : l.length = 256) : (Try.prog.info? 27).map (·.size) = some (boolsV l).toArray.size := by
  rw [boolsV_size, h]; kernel_rfl
def noneB : List Bool := List.replicate 256 false
theorem noneB_length : noneB.length = 256 := List.length_replicate ..
/-- 256 times false, as cells -/
def zero256 : Array Value := (boolsV noneB).toArray
theorem bools_zero : zero256 = (boolsV noneB).toArray := rfl
theorem zero256_ne : ¬ zero256 = #[] := by
  intro h
  have := congrArg Array.size h
  rw [bools_zero, boolsV_size, noneB_length] at this
  cases this
theorem zero256_run (w : World) : (zeroValue 27).run Try.prog w = .ok (.agg zero256) w := by kernel_rfl
attribute [local go_sem] zero256_run zero256_ne
/-- the first k are those of f, the others those of g -/
def fillTo (f g : Nat → Bool) (k : Nat) : List Bool := (List.range 256).map fun i => if i < k then f i else g i
theorem fillTo_length (f g : Nat → Bool) (k : Nat) : (fillTo f g k).length = 256 := by simp [fillTo]
theorem fillTo_none (f : Nat → Bool) : fillTo f (fun _ => false) 0 = noneB := by
  unfold noneB
  apply List.ext_getElem (by rw [fillTo_length, List.length_replicate])
  intro i h1 h2
  rw [List.getElem_replicate]
  simp [fillTo]
theorem fillTo_first (f : Nat → Bool) (l : List Bool) (h : l.length = 256) : fillTo f (fun i => l.getD i false) 0 = l := by
  apply List.ext_getElem (by simp [fillTo, h])
  intro i h1 h2
  simp [fillTo, List.getD_eq_getElem?_getD, h2]
theorem fillTo_all (f g : Nat → Bool) : fillTo f g 256 = (List.range 256).map f := by
  unfold fillTo
  apply List.map_congr_left
  intro i hi
  rw [if_pos (List.mem_range.1 hi)]
theorem fillTo_get (f g : Nat → Bool) (k i : Nat) (hi : i < 256) : (fillTo f g k).getD i false = if i < k then f i else g i := by
  simp [fillTo, List.getD_eq_getElem?_getD, hi]
theorem fillTo_set (f g : Nat → Bool) (k : Nat) : (fillTo f g k).set k (f k) = fillTo f g (k + 1) := by
  apply List.ext_getElem?
  intro i
  rw [List.getElem?_set, fillTo_length]
  by_cases hi : i < 256
  · by_cases he : k = i
    · subst he; simp [fillTo, hi]
    · rw [if_neg he]
      simp only [fillTo, List.getElem?_map, List.getElem?_range hi, Option.map_some]
      by_cases h1 : i < k
      · rw [if_pos h1, if_pos (by omega)]
      · rw [if_neg h1, if_neg (by omega)]
  · by_cases he : k = i
    · subst he
      rw [if_pos rfl, if_neg hi, List.getElem?_eq_none (by rw [fillTo_length]; omega)]
    · rw [if_neg he, List.getElem?_eq_none (by rw [fillTo_length]; omega), List.getElem?_eq_none (by rw [fillTo_length]; omega)]
theorem boolsL_length (m : List UInt64) : (boolsL m).length = 256 := by simp [boolsL]
theorem boolsL_get (m : List UInt64) (i : Nat) (hi : i < 256) : (boolsL m).getD i false = bitL m i := by
  simp [boolsL, List.getD_eq_getElem?_getD, hi]
theorem words4_size {m : List UInt64} (hm : m.length = 4) : (Try.prog.info? 23).map (·.size) = some (wordsL m).toArray.size := by
  rw [wordsL_size, hm]; kernel_rfl
theorem bit_int (x : UInt64) (r : Nat) : decide ((U64 x / 2 ^ r) % 2 = 1) = x.toNat.testBit r := by
  unfold U64
  rw [Nat.testBit_eq_decide_div_mod_eq, show ((2 : Int) ^ r) = ((2 ^ r : Nat) : Int) by rw [Int.natCast_pow]; rfl, ← Int.natCast_ediv, decide_eq_decide]
  omega

set_option maxRecDepth 20000 in
set_option maxHeartbeats 2000000 in
theorem rbools_any (m : W4) (w : World) :
    Calls Try.prog 9 #[MV m.1] w fun e w' => e = .returned (BV (boolsL m.1)) ∧ Ext w w' := by
  unfold MV BV
  have b0 : Blk (((w.alloc (.cells (wordsL m.1).toArray 23)).alloc (.cells zero256 27)).alloc (.cells zero256 27)) w.heap.size 23 (wordsL m.1).toArray := ((Blk.new w _ _).alloc _).alloc _
  have b1 : Blk (((w.alloc (.cells (wordsL m.1).toArray 23)).alloc (.cells zero256 27)).alloc (.cells zero256 27)) (w.heap.size + 1) 27 (boolsV noneB).toArray := by
    have := (Blk.new (w.alloc (.cells (wordsL m.1).toArray 23)) 27 zero256).alloc (.cells zero256 27)
    rw [World.size_alloc] at this
    conv at this => rhs; rw [bools_zero]
    exact this
  have b2 : Blk (((w.alloc (.cells (wordsL m.1).toArray 23)).alloc (.cells zero256 27)).alloc (.cells zero256 27)) (w.heap.size + 1 + 1) 27 (boolsV (fillTo (bitL m.1) (fun _ => false) 0)).toArray := by
    have := (Blk.new ((w.alloc (.cells (wordsL m.1).toArray 23)).alloc (.cells zero256 27)) 27 zero256)
    rw [World.size_alloc, World.size_alloc] at this
    rw [fillTo_none, ← bools_zero]
    exact this
  have B0 := Lib.hid b0
  have B1 := Lib.hid b1
  have B2 := Lib.hid b2
  clear b0 b1 b2
  go_enter Try.func9, Try.ntmps9
  go_wp2_with fail
  go_loopw [4] (fun i wr => ∃ k : Nat, i = .int .i64 k ∧ k ≤ 256 ∧ Ext w wr ∧ Blk wr w.heap.size 23 (wordsL m.1).toArray ∧ Blk wr (w.heap.size + 1) 27 (boolsV noneB).toArray ∧ Blk wr (w.heap.size + 1 + 1) 27 (boolsV (fillTo (bitL m.1) (fun _ => false) k)).toArray) (fun i _ => 256 - (intOf i).toNat)
  case atStart => exact ⟨0, rfl, by omega, ((((Ext.refl _).alloc _).alloc _).alloc _), B0.out, B1.out, B2.out⟩
  case round =>
    obtain ⟨k, rfl, hk, hx, h0, h1, h2⟩ := hrel
    have HX := Lib.hid hx
    have H0 := Lib.hid h0
    have H1 := Lib.hid h1
    have H2 := Lib.hid h2
    by_cases hlt : k < 256
    · have c0 : wr.cell? ⟨w.heap.size, k / 64, none⟩ = some (.int .u64 (U64 (m.1.getD (k / 64) 0))) := (h0.cell _).trans (wordsL_get _ _ (by rw [m.2]; omega))
      have cf := h2.frozen k
      have cc : wr.cell? ⟨w.heap.size + 1 + 1, k, none⟩ = some (.bool ((fillTo (bitL m.1) (fun _ => false) k).getD k false)) := (h2.cell _).trans (boolsV_get _ _ (by rw [fillTo_length]; omega))
      have e0 : IntKind.i64.wrap ((k : Int).tdiv 64) = ((k / 64 : Nat) : Int) := by rw [Int.tdiv_eq_ediv_of_nonneg (by omega), IntKind.wrap_i64]; omega
      have e1 : IntKind.i64.wrap ((k : Int) / 64) = ((k / 64 : Nat) : Int) := by rw [IntKind.wrap_i64]; omega
      have e2' : (k : Int) % 64 = ((k % 64 : Nat) : Int) := by omega
      have e2 : (k : Int).tmod 64 = ((k % 64 : Nat) : Int) := by rw [Int.tmod_eq_emod_of_nonneg (by omega)]; omega
      have e3 : ((k / 64 : Nat) : Int) < 4 := by omega
      have e4 : ((k % 64 : Nat) : Int) < 64 := by omega
      have e5 : (k : Int) < 256 := by omega
      have hbit : bitL m.1 k = (m.1.getD (k / 64) 0).toNat.testBit (k % 64) := rfl
      have hb2 : ((U64 (m.1.getD (k / 64) 0) / 2 ^ (k % 64)).tmod 2 == 1) = bitL m.1 k := by rw [hbit, ← bit_int, Int.tmod_eq_emod_of_nonneg (Int.ediv_nonneg (U64_nonneg _) (Int.pow_nonneg (by decide)))]; rfl
      have hb3 : ((U64 (m.1.getD (k / 64) 0) / 2 ^ (k % 64)) % 2 == 1) = bitL m.1 k := by rw [hbit, ← bit_int]; rfl
      have HS := Lib.hid (h2.set_ k (.bool (bitL m.1 k)))
      have H1' := Lib.hid (h1.far (p := ⟨w.heap.size + 1 + 1, k, none⟩) (by show w.heap.size + 1 ≠ w.heap.size + 1 + 1; omega) (.bool (bitL m.1 k)))
      have H0' := Lib.hid (h0.far (p := ⟨w.heap.size + 1 + 1, k, none⟩) (by show w.heap.size ≠ w.heap.size + 1 + 1; omega) (.bool (bitL m.1 k)))
      have HX' := Lib.hid (hx.set (p := ⟨w.heap.size + 1 + 1, k, none⟩) (by show w.heap.size ≤ w.heap.size + 1 + 1; omega) (.bool (bitL m.1 k)))
      rw [boolsV_set, fillTo_set] at HS
      clear hbit
      generalize bitL m.1 k = y at *
      clear hx h0 h1 h2
      generalize m.1.getD (k / 64) 0 = x at *
      generalize k / 64 = q at *
      generalize k % 64 = r at *
      go_wp2_with fail
      go_roundw
      case rel => exact ⟨k + 1, by go_num, by omega, HX'.out, H0'.out, H1'.out, HS.out⟩
      case measure => simp [intOf]; omega
    · obtain rfl : k = 256 := by omega
      rw [fillTo_all] at H2
      have hl : ((List.range 256).map (bitL m.1)).length = 256 := boolsL_length _
      clear hx h0 h1 h2
      go_wp2_with (first
        | (refine wpList_load_blk rfl 27 (.tmp 3) rfl rfl H2.out Try.underlying27 rfl (bools_size hl) ?_)
        | (refine wpList_store_blk rfl 27 (.tmp 2) (.tmp 21) rfl rfl rfl H1.out (by rw [boolsV_size, boolsV_size, hl, noneB_length]) (bools_size hl) (boolsV_one _) ?_))
      exact bodyPost_ret (results_cell_row rfl _ _ (w.heap.size + 1) _ _ (0, 0) _ rfl (H1.out.setRow _) Try.underlying27 rfl (bools_size hl)) rfl ⟨rfl, Ext.setRow HX.out (Nat.le_succ _) _⟩
end Go.Proofs.Ytjbacmhkmofpkaa
