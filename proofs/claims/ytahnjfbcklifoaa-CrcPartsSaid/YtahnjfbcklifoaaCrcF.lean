/- crc: flipped, walked. -/
import Derived.Test.YtahnjfbcklifoaaCrcM
import Derived.Lib.ConvBytes
namespace Go.Proofs.Ytahnjfbcklifoaa
set_option linter.unusedVariables false
set_option linter.unusedSimpArgs false
open Go.RowKit
attribute [local go_sem] U8_fold U8_toNat u32_xor u32_and u8_xor8 u8_of_u32 u32_of_u8 u32_xor_u8 u32_mod256 u32_shr1 u32_shr8 u32_beq u32_and1 u32_beq1 u32_not signed_u32 signed_u8 xor_poly u32_tmod2 u32_mod2 u32_tmod256 u32_wrap u32_tdiv2 u32_tdiv256 u32_max_sub

/-- block g is a row of cells that begins with these bytes, and may be written -/
def Buf (w : World) (g : Nat) (l : List UInt8) : Prop :=
  ∃ (tail : List Value) (e : TypeId) (m : Nat × Nat), w.heap[g]? = some (.cells ((l.map fun b => Value.int .u8 (U8 b)) ++ tail).toArray e m) ∧ l.length ≤ m.1
theorem Buf.cell {w : World} {g : Nat} {l : List UInt8} (h : Buf w g l) (i : Nat) (hi : i < l.length) : w.cell? ⟨g, i, none⟩ = some (.int .u8 (U8 (l.getD i 0))) := by
  obtain ⟨tail, e, m, hg, _⟩ := h
  rw [cell_of_row w g i _ e m hg, List.getElem?_toArray, List.getElem?_append_left (by simpa using hi)]
  simp [hi]
theorem Buf.free {w : World} {g : Nat} {l : List UInt8} (h : Buf w g l) (i : Nat) (hi : i < l.length) : w.frozen? ⟨g, i, none⟩ = false := by
  obtain ⟨tail, e, m, hg, hm⟩ := h
  simp only [World.frozen?, hg, Bool.and_eq_false_iff, decide_eq_false_iff_not]
  left; omega
theorem Buf.set_ {w : World} {g : Nat} {l : List UInt8} (h : Buf w g l) (i : Nat) (hi : i < l.length) (b : UInt8) : Buf (w.setCell ⟨g, i, none⟩ (.int .u8 (U8 b))) g (l.set i b) := by
  obtain ⟨tail, e, m, hg, hm⟩ := h
  refine ⟨tail, e, m, ?_, by simpa using hm⟩
  simp only [World.setCell, Array.getElem?_modify, hg]
  simp [List.map_set, List.set_append, hi]
theorem Buf.ext {w w' : World} {g : Nat} {l : List UInt8} (h : Buf w g l) (hx : Ext w w') : Buf w' g l := by
  obtain ⟨tail, e, m, hg, hm⟩ := h
  have hl : g < w.heap.size := by
    rcases Nat.lt_or_ge g w.heap.size with h' | h'
    · exact h'
    · rw [Array.getElem?_eq_none h'] at hg; cases hg
  exact ⟨tail, e, m, (hx.block g hl).trans hg, hm⟩
theorem Buf.lt {w : World} {g : Nat} {l : List UInt8} (h : Buf w g l) : g < w.heap.size := by
  obtain ⟨tail, e, m, hg, hm⟩ := h
  rcases Nat.lt_or_ge g w.heap.size with h' | h'
  · exact h'
  · rw [Array.getElem?_eq_none h'] at hg; cases hg

/-- a text's bytes, laid anew -/
theorem conv_bytes_of (w : World) (s : ByteArray) :
    ∃ c w', s.size ≤ c ∧ (convert 9 31 (.string s)).run Try.prog w = .ok (.slice (some ⟨w.heap.size, 0, none⟩) s.size c) w' ∧ Ext w w' ∧ Buf w' w.heap.size (bytesOf s) ∧ w'.heap.size = w.heap.size + 1 := by
  refine ⟨_, _, ?_, Lib.run_convert_string_bytes w _ _ _ s Try.underlying9 Try.underlying31 Try.underlying5, ?_, ?_, Lib.bytesWorld_size _ _ _⟩
  · unfold grownCap; simp [Question.cut]
  · exact ⟨rfl, rfl, rfl, by rw [Lib.bytesWorld_size]; omega, fun k hk => Lib.bytesWorld_at_old w _ s k hk⟩
  · refine ⟨List.replicate (grownCap w s.size 0 5 - s.size) (.int .u8 0), 5, ((Lib.bytesCells w 5 s).size, (Lib.bytesCells w 5 s).size + 1), ?_, ?_⟩
    · rw [Lib.bytesWorld_at_new]
      have : Lib.bytesCells w 5 s = ((bytesOf s).map (fun b => Value.int .u8 (U8 b)) ++ List.replicate (grownCap w s.size 0 5 - s.size) (Value.int .u8 0)).toArray := by
        apply Array.ext'
        simp [Lib.bytesCells, bytesOf, U8]
      rw [this]
    · simp [Lib.bytesCells, bytesOf]

/-- bytes in memory, as a string -/
theorem conv_string_of (w : World) (g c : Nat) (l : List UInt8) (h : Buf w g l) (n : Nat) (hn : l.length = n) :
    (convert 31 9 (.slice (some ⟨g, 0, none⟩) n c)).run Try.prog w = .ok (.string ⟨l.toArray⟩) w := by
  rw [run_convert_bytes_arg w _ 5 Try.underlying31 Try.underlying5 g 0 n c (l.map U8) (by simpa using hn) ?_ _ Try.underlying9]
  · congr 2
    simp only [strOfNums, List.map_map]
    congr 2
    conv => rhs; rw [← List.map_id l]
    apply List.map_congr_left
    intro b _
    show UInt8.ofNat (B8 b) = b
    apply UInt8.toNat_inj.1
    unfold B8; rw [UInt8.toNat_ofNat']; have := b.toNat_lt; omega
  · intro i hi
    rw [Nat.zero_add, h.cell i (by omega)]
    simp [show i < l.length by omega]

theorem u32_testBit (c : UInt32) (k : Nat) : bits .and .u32 (U32 c / 2 ^ k) 1 = if c.toNat.testBit k then 1 else 0 := by
  have h : U32 c / 2 ^ k = ((c.toNat >>> k : Nat) : Int) := by
    unfold U32; rw [Nat.shiftRight_eq_div_pow]; norm_cast
  have hl : c.toNat >>> k < 4294967296 := by
    rw [Nat.shiftRight_eq_div_pow]; exact Nat.lt_of_le_of_lt (Nat.div_le_self _ _) c.toNat_lt
  have h1 := u32_and_nat (c.toNat >>> k) 1 hl (by omega)
  rw [h]
  rw [show ((1 : Nat) : Int) = 1 from rfl] at h1
  rw [h1, Nat.and_one_is_mod, Nat.testBit_eq_decide_div_mod_eq, Nat.shiftRight_eq_div_pow]
  by_cases e : c.toNat / 2 ^ k % 2 = 1
  · rw [e]; simp
  · have : c.toNat / 2 ^ k % 2 = 0 := by omega
    rw [this]; simp

theorem pow_u8 (m : Nat) (hm : m < 8) : (2 : Int) ^ m % 256 = U8 (UInt8.ofNat (2 ^ m)) := by
  have : 2 ^ m < 256 := Nat.pow_lt_pow_right (by omega) hm
  have h : (2 : Int) ^ m = ((2 ^ m : Nat) : Int) := (Int.natCast_pow 2 m).symm
  unfold U8; rw [UInt8.toNat_ofNat', h]
  generalize 2 ^ m = x at this
  omega
theorem flip_step {wr : World} {g : Nat} {l : List UInt8} {at_ k : Nat} {by_ : UInt32} (h : Buf wr g (flipTo l at_ by_ k)) (hk : at_ + k < 8 * (flipTo l at_ by_ k).length) (hb : by_.toNat.testBit k = true) :
    Buf (wr.setCell ⟨g, (at_ + k) / 8, none⟩ (.int .u8 (U8 ((flipTo l at_ by_ k).getD ((at_ + k) / 8) 0 ^^^ UInt8.ofNat (2 ^ ((at_ + k) % 8)))))) g (flipTo l at_ by_ (k + 1)) := by
  have := h.set_ ((at_ + k) / 8) (by omega) ((flipTo l at_ by_ k).getD ((at_ + k) / 8) 0 ^^^ UInt8.ofNat (2 ^ ((at_ + k) % 8)))
  have e : flipTo l at_ by_ (k + 1) = (flipTo l at_ by_ k).set ((at_ + k) / 8) ((flipTo l at_ by_ k).getD ((at_ + k) / 8) 0 ^^^ UInt8.ofNat (2 ^ ((at_ + k) % 8))) := by
    conv => lhs; unfold flipTo
    rw [if_pos hb]
    unfold turnBit
    apply List.ext_getElem?
    intro i
    rw [List.getElem?_modify, List.getElem?_set]
    by_cases hi : (at_ + k) / 8 = i
    · subst hi
      have hl : (at_ + k) / 8 < (flipTo l at_ by_ k).length := by omega
      simp [hl]
    · simp [hi]
  rw [e]; exact this

set_option maxRecDepth 20000 in
set_option maxHeartbeats 1000000 in
theorem flipped_any (s : ByteArray) (at_ : Nat) (by_ : UInt32) (w : World) (hs : s.size ≤ 5000) (ha : at_ + 32 ≤ 8 * s.size) :
    Calls Try.prog 23 #[.string s, .int .i64 (at_ : Int), .int .u32 (U32 by_)] w fun e w' => e = .returned (.string ⟨(flipTo (bytesOf s) at_ by_ 32).toArray⟩) ∧ Ext w w' := by
  obtain ⟨cap, w1, hcap, hrun, hx, hB, hz⟩ := conv_bytes_of w s
  have HR := Lib.hid hrun
  go_enter Try.func23, Try.ntmps23
  go_wp2
  clear hrun
  go_loopw [8] (fun i wr => ∃ k : Nat, k ≤ 32 ∧ i = .int .i64 k ∧ Ext w wr ∧ Buf wr w.heap.size (flipTo (bytesOf s) at_ by_ k)) (fun i _ => 32 - (intOf i).toNat)
  case atStart => exact ⟨0, by omega, rfl, hx, hB⟩
  case round =>
    obtain ⟨k, hk, rfl, hx1, hB1⟩ := hrel
    by_cases hlt : k < 32
    · have hlen : (flipTo (bytesOf s) at_ by_ k).length = s.size := by rw [flipTo_length, bytesOf_length]
      have hidx : (at_ + k) / 8 < s.size := by omega
      have hc := hB1.cell ((at_ + k) / 8) (by omega)
      have hf := hB1.free ((at_ + k) / 8) (by omega)
      have hlk : at_ + k < 8 * (flipTo (bytesOf s) at_ by_ k).length := by omega
      by_cases hb : by_.toNat.testBit k = true
      · have hst := Lib.hid (flip_step hB1 hlk hb)
        have htest : (bits BinOp.and IntKind.u32 (U32 by_ / 2 ^ k) 1 == 1) = true := by rw [u32_testBit, if_pos hb]; rfl
        have hp := pow_u8 ((at_ + k) % 8) (by omega)
        generalize (flipTo (bytesOf s) at_ by_ k).getD ((at_ + k) / 8) 0 = y at hst hc
        generalize UInt8.ofNat (2 ^ ((at_ + k) % 8)) = pw at hst hp
        clear hb hlk hlen
        go_wp2
        go_roundw
        case rel => exact ⟨k + 1, by omega, by go_num, Ext.set hx1 (Nat.le_refl _) _, hst.out⟩
        case measure => simp [intOf]; omega
      · have htest : (bits BinOp.and IntKind.u32 (U32 by_ / 2 ^ k) 1 == 1) = false := by rw [u32_testBit, if_neg hb]; rfl
        have hst := Lib.hid (show flipTo (bytesOf s) at_ by_ (k + 1) = flipTo (bytesOf s) at_ by_ k by unfold flipTo; rw [if_neg hb]; cases k <;> rfl)
        clear hb hlk hlen hc hf
        go_wp2
        go_roundw
        case rel => exact ⟨k + 1, by omega, by go_num, hx1, by rw [hst.out]; exact hB1⟩
        case measure => simp [intOf]; omega
    · obtain rfl : k = 32 := by omega
      have hcv := conv_string_of wr w.heap.size cap _ hB1 s.size (by rw [flipTo_length, bytesOf_length])
      go_wp2
      go_ret
      exact ⟨rfl, hx1⟩
end Go.Proofs.Ytahnjfbcklifoaa
