/- fm: the index in memory; count. -/
import Derived.Test.YtlhjbfckcfeikaaFmB
import Derived.Test.YtlhjbfckcfeikaaBut
import Derived.Test.YtlhjbfckcfeikaaAppV
import Derived.Great.BuildSlice
namespace Go.Proofs.Ytlhjbfckcfeikaa
set_option linter.unusedVariables false
set_option linter.unusedSimpArgs false
open Go.RowKit

/-- 256 counts -/
def cnC (c : Nat → Nat) : List Value := (List.range 256).map fun b => Value.int .i64 (c b : Int)
theorem cnC_length (c : Nat → Nat) : (cnC c).length = 256 := by simp [cnC]
theorem cnC_one (c : Nat → Nat) : ∀ u ∈ cnC c, u.oneCell' = true := by
  intro u hu
  obtain ⟨b, _, rfl⟩ := List.mem_map.1 hu
  rfl
theorem cnC_get (c : Nat → Nat) {b : Nat} (h : b < 256) : (cnC c)[b]? = some (.int .i64 (c b : Int)) := by
  simp [cnC, h]
theorem nums_cnC (l : List UInt8) (k : Nat) : numsV (cntsL l k) = (cnC (cntL (l.take k))).toArray := by
  unfold numsV cntsL toI cnC
  rw [List.map_map, List.map_map]
  rfl
theorem cn_info : (Try.prog.info? 86).map (fun i => (i.zero, i.size, i.bytes)) = some (some (.agg Try.zeroCells86), 256, 2048) := by kernel_rfl
theorem cn_size : (Try.prog.info? 86).map (·.size) = some 256 := by kernel_rfl
/-- the counts that are kept, up to a place -/
def keptL (l : List UInt8) (k : Nat) : List (Nat → Nat) := (List.range ((k + 63) / 64)).map fun j => cntL (l.take (64 * j))
theorem kept_step (l : List UInt8) (k : Nat) (h : k % 64 = 0) : keptL l (k + 1) = keptL l k ++ [cntL (l.take k)] := by
  unfold keptL
  rw [show (k + 1 + 63) / 64 = (k + 63) / 64 + 1 by omega, List.range_succ, List.map_append, List.map_singleton, show 64 * ((k + 63) / 64) = k by omega]
theorem kept_same (l : List UInt8) (k : Nat) (h : k % 64 ≠ 0) : keptL l (k + 1) = keptL l k := by
  unfold keptL
  rw [show (k + 1 + 63) / 64 = (k + 63) / 64 by omega]
theorem kept_length (l : List UInt8) (k : Nat) : (keptL l k).length = (k + 63) / 64 := by simp [keptL]
theorem kept_get (l : List UInt8) {k j : Nat} (h : j < (k + 63) / 64) : (keptL l k)[j]? = some (cntL (l.take (64 * j))) := by
  simp [keptL, h]
/-- an index's cells -/
def idxV (l : List UInt8) (q : Int) (st : Nat → Nat) (kv pv : Value) (m : Bool) : Array Value :=
  (.string (S l) :: .int .i64 q :: ((List.range 257).map (fun b => Value.int .i64 (st b : Int)) ++ [kv, pv, .bool m])).toArray
section
variable {l : List UInt8} {q : Int} {st : Nat → Nat} {kv pv : Value} {m : Bool}
theorem idx_0 : (idxV l q st kv pv m)[0]? = some (.string (S l)) := rfl
theorem idx_1 : (idxV l q st kv pv m)[1]? = some (.int .i64 q) := rfl
theorem idx_st {b : Nat} (h : b < 257) : (idxV l q st kv pv m)[2 + b]? = some (.int .i64 (st b : Int)) := by
  unfold idxV
  rw [List.getElem?_toArray, show 2 + b = b + 1 + 1 by omega, List.getElem?_cons_succ, List.getElem?_cons_succ, List.getElem?_append_left (by simpa using h)]
  simp [h]
theorem idx_k : (idxV l q st kv pv m)[259]? = some kv := by
  unfold idxV
  rw [List.getElem?_toArray, show 259 = 257 + 1 + 1 by omega, List.getElem?_cons_succ, List.getElem?_cons_succ, List.getElem?_append_right (by simp)]
  simp
theorem idx_p : (idxV l q st kv pv m)[260]? = some pv := by
  unfold idxV
  rw [List.getElem?_toArray, show 260 = 258 + 1 + 1 by omega, List.getElem?_cons_succ, List.getElem?_cons_succ, List.getElem?_append_right (by simp)]
  simp
theorem idx_m : (idxV l q st kv pv m)[261]? = some (.bool m) := by
  unfold idxV
  rw [List.getElem?_toArray, show 261 = 259 + 1 + 1 by omega, List.getElem?_cons_succ, List.getElem?_cons_succ, List.getElem?_append_right (by simp)]
  simp
theorem idx_size : (idxV l q st kv pv m).size = 262 := by simp [idxV]
theorem set_k (v : Value) : (idxV l q st kv pv m).setIfInBounds 259 v = idxV l q st v pv m := by
  unfold idxV
  rw [List.setIfInBounds_toArray]
  simp [List.set_append]
theorem set_p (v : Value) : (idxV l q st kv pv m).setIfInBounds 260 v = idxV l q st kv v m := by
  unfold idxV
  rw [List.setIfInBounds_toArray]
  simp [List.set_append]
theorem set_st {b n : Nat} (h : b < 257) : (idxV l q st kv pv m).setIfInBounds (2 + b) (.int .i64 (n : Int)) = idxV l q (fun i => if i = b then n else st i) kv pv m := by
  unfold idxV
  rw [List.setIfInBounds_toArray, show 2 + b = b + 1 + 1 by omega, List.set_cons_succ, List.set_cons_succ, List.set_append_left _ _ (by simpa using h)]
  congr 4
  refine List.ext_getElem (by simp) fun i h1 h2 => ?_
  rw [List.getElem_set]
  simp only [List.getElem_map, List.getElem_range]
  by_cases e : b = i
  · rw [if_pos e, if_pos e.symm]
  · rw [if_neg e, if_neg (fun h => e h.symm)]
end
theorem run_bs1n (cs : Array Value) (hcs : cs.size = 256) (w : World) : (Instr.buildSlice 48 1 #[(0, .agg cs)]).run Try.prog w = .ok (.slice (some ⟨w.heap.size, 0, none⟩) 1 1) (w.alloc (.cells cs 86)) := by
  cases hi : Try.prog.info? 86 with
  | none => have := cn_info; rw [hi] at this; cases this
  | some ie =>
    have h := cn_info
    rw [hi] at h
    simp only [Option.map_some, Option.some.injEq, Prod.mk.injEq] at h
    obtain ⟨h1, h2, h3⟩ := h
    refine run_buildSlice w _ _ 1 _ cs ie (.agg Try.zeroCells86) Try.underlying48 hi h1 (by rw [h2]; omega) (by rw [h2]; omega) ?_
    rw [h2]
    have h4 := Great.fill_whole (s := 256) (by omega) [.agg cs] ((Array.range (1 * 256)).map ((Value.agg Try.zeroCells86).cells[· % (Value.agg Try.zeroCells86).cells.size]!)) (fun v hv => by rw [List.mem_singleton.1 hv]; exact hcs) (by simp)
    rw [List.flatMap_singleton] at h4
    exact h4
end Go.Proofs.Ytlhjbfckcfeikaa
