/- crc: what the functions of package crc compute, and their walks. -/
import Derived.Test.YthomdpdiknnahaaBits
import Derived.Test.YthomdpdiknnahaaMem
import Derived.Deep.RegionHeld3
import Derived.BigQuiet
import Derived.Deep.QuietTactic
namespace Go.Proofs.Ythomdpdiknnahaa
set_option linter.unusedVariables false
set_option linter.unusedSimpArgs false
open Go.RowKit

attribute [local go_sem] U8_fold U8_toNat u32_xor u32_and u8_xor8 u8_of_u32 u32_of_u8 u32_xor_u8 u32_mod256 u32_shr1 u32_shr8 u32_beq u32_and1 u32_beq1 u32_not signed_u32 signed_u8

/-- a table's value -/
def tabL (T : List UInt32) : List Value := T.map fun n => Value.int .u32 (U32 n)
theorem tabL_length (T : List UInt32) : (tabL T).length = T.length := by simp [tabL]
theorem tabL_get (T : List UInt32) (i : Nat) (h : i < T.length) : (tabL T)[i]? = some (.int .u32 (U32 (T.getD i 0))) := by
  simp [tabL, h]
theorem tabL_one (T : List UInt32) : ∀ v ∈ tabL T, v.oneCell' = true := by
  intro v hv
  obtain ⟨n, _, rfl⟩ := List.mem_map.1 hv
  rfl

def half (c : UInt32) : UInt32 := if (c &&& 1 == 1) then (c >>> 1) ^^^ 0xedb88320 else c >>> 1
theorem xor_poly (c : UInt32) : bits .xor .u32 (U32 c) 3988292384 = U32 (c ^^^ 0xedb88320) := u32_xor c 0xedb88320
attribute [local go_sem] xor_poly

set_option maxHeartbeats 400000 in
theorem half_any (c : UInt32) (w : World) :
    Calls Try.prog 29 #[.int .u32 (U32 c)] w fun e w' => e = .returned (.int .u32 (U32 (half c))) ∧ w = w' := by
  go_enter Try.func29, Try.ntmps29
  go_wp2
  all_goals go_ret
  all_goals (refine ⟨?_, rfl⟩; simp [half, *])

def rest (T : List UInt32) (c : UInt32) (b : UInt8) : UInt32 := (c >>> 8) ^^^ T.getD (B8 (c.toUInt8 ^^^ b)) 0

set_option maxHeartbeats 400000 in
theorem rest_any (T : List UInt32) (g : Nat) (c : UInt32) (b : UInt8) (w : World) (hT : ∀ i < 256, w.cell? ⟨g, i, none⟩ = some (.int .u32 (U32 (T.getD i 0)))) :
    Calls Try.prog 35 #[.pointer (some ⟨g, 0, none⟩), .int .u32 (U32 c), .int .u8 (U8 b)] w fun e w' => e = .returned (.int .u32 (U32 (rest T c b))) ∧ w = w' := by
  have hx := B8_lt (c.toUInt8 ^^^ b)
  have hc := hT _ hx
  have hl := U8_lt (c.toUInt8 ^^^ b)
  have hn := U8_nonneg (c.toUInt8 ^^^ b)
  clear hT hx
  go_enter Try.func35, Try.ntmps35
  go_wp2
  go_ret
  exact ⟨rfl, rfl⟩
theorem tab_at (T : List UInt32) (w : World) (t : TypeId) (hT : T.length = 256) : ∀ i < 256, (w.alloc (.cells (tabL T).toArray t)).cell? ⟨w.heap.size, i, none⟩ = some (.int .u32 (U32 (T.getD i 0))) := by
  intro i hi
  rw [World.cell?_alloc_new, List.getElem?_toArray, tabL_get T i (by omega)]

/-- the remainder behind bytes -/
def restL (T : List UInt32) (c : UInt32) (l : List UInt8) : UInt32 := l.foldl (rest T) c
def bytesOf (s : ByteArray) : List UInt8 := s.data.toList
theorem bytesOf_length (s : ByteArray) : (bytesOf s).length = s.size := by simp [bytesOf]
theorem take_snoc (s : ByteArray) (k : Nat) (h : k < s.size) : (bytesOf s).take (k + 1) = (bytesOf s).take k ++ [s[k]] := by
  unfold bytesOf
  rw [List.take_succ_eq_append_getElem (by simpa using h)]; rfl
theorem restL_snoc (T : List UInt32) (c : UInt32) (l : List UInt8) (b : UInt8) : restL T c (l ++ [b]) = rest T (restL T c l) b := by
  simp [restL]

set_option maxHeartbeats 400000 in
theorem more_any (T : List UInt32) (c : UInt32) (s : ByteArray) (w : World) (hT : T.length = 256) (hs : s.size ≤ maxLen) :
    Calls Try.prog 28 #[.agg (tabL T).toArray, .int .u32 (U32 c), .string s] w fun e w' => e = .returned (.int .u32 (U32 (~~~ restL T (~~~ c) (bytesOf s)))) ∧ Ext w w' := by
  unfold maxLen at hs
  have ht := Lib.hid (tab_at T w 49 hT)
  clear hT
  go_enter Try.func28, Try.ntmps28
  go_wp2
  go_loop [7, 8] (fun c' i => ∃ k : Nat, k ≤ s.size ∧ i = .int .i64 k ∧ c' = .int .u32 (U32 (restL T (~~~ c) ((bytesOf s).take k)))) (fun _ i => s.size - (intOf i).toNat)
  case atStart => exact ⟨0, Nat.zero_le _, rfl, rfl⟩
  case round =>
    obtain ⟨k, hk, rfl, rfl⟩ := hrel
    by_cases hlt : k < s.size
    · have H := Lib.hid (take_snoc s k hlt)
      go_wp2_with (go_at_call 35; refine (rest_any T _ _ _ _ ht.out).mono ?_; rintro e w' ⟨rfl, rfl⟩)
      go_round
      case rel => exact ⟨k + 1, by omega, by go_num, by rw [H.out, restL_snoc]⟩
      case measure => simp [intOf]; omega
    · go_wp2
      go_ret
      refine ⟨?_, (Ext.refl _).alloc _⟩
      have : (bytesOf s).take k = bytesOf s := List.take_of_length_le (by rw [bytesOf_length]; omega)
      simp [this]
end Go.Proofs.Ythomdpdiknnahaa
