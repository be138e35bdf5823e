/- gram, the document's answer: Put, Get. -/
import Derived.Test.YtjbacmhkmofpkaaGramT
namespace Go.Proofs.Ytjbacmhkmofpkaa
set_option linter.unusedVariables false
set_option linter.unusedSimpArgs false
open Go.RowKit
attribute [local go_sem] S_size S_toList S_append S_extract S_beq S_bne zero256_run zero256_ne

def packD (bl : List Bool) (o : Nat) : Nat → Nat
  | 0 => 0
  | j + 1 => 2 * packD bl o j + (if bl.getD (o + 7 - j) false then 1 else 0)
theorem packD_lt (bl : List Bool) (o j : Nat) : packD bl o j < 2 ^ j := by
  induction j with
  | zero => simp [packD]
  | succ j ih => rw [packD, Nat.pow_succ]; split <;> omega
def packL (bl : List Bool) : List UInt8 := (List.range 32).map fun i => UInt8.ofNat (packD bl (8 * i) 8)
theorem packL_take (bl : List Bool) (k : Nat) (h : k < 32) : (packL bl).take (k + 1) = (packL bl).take k ++ [UInt8.ofNat (packD bl (8 * k) 8)] := by
  have hk : (packL bl)[k]? = some (UInt8.ofNat (packD bl (8 * k) 8)) := by
    rw [packL, List.getElem?_map, List.getElem?_range h]; rfl
  rw [List.take_add_one, hk]; rfl
theorem packL_length (bl : List Bool) : (packL bl).length = 32 := by simp [packL]
theorem pack_bits (n : Nat) (h : n < 256) (bl : List Bool) (o : Nat) (hb : ∀ i, i < 8 → bl.getD (o + i) false = n.testBit i) (j : Nat) (hj : j ≤ 8) : packD bl o j = n / 2 ^ (8 - j) := by
  induction j with
  | zero => rw [packD]; omega
  | succ j ih =>
    rw [packD, ih (by omega), show o + 7 - j = o + (7 - j) by omega, hb (7 - j) (by omega), show 8 - j = (7 - j) + 1 by omega, show 8 - (j + 1) = 7 - j by omega, Nat.pow_succ, ← Nat.div_div_eq_div_mul, Nat.testBit_eq_decide_div_mod_eq]
    generalize n / 2 ^ (7 - j) = m
    by_cases hm : m % 2 = 1 <;> simp [hm] <;> omega
/-- the document's bytes of marks are those of the program -/
theorem pack_put (m : W4) : packL (boolsL m.1) = putL m := by
  unfold packL putL
  apply List.map_congr_left
  intro i hi
  have hi := List.mem_range.1 hi
  apply UInt8.toNat_inj.1
  have hlt := (byteAt (m.1.getD (i / 8) 0) (i % 8)).toNat_lt
  rw [pack_bits _ hlt _ _ (fun j hj => ?_) 8 (by omega), UInt8.toNat_ofNat']
  · omega
  · rw [boolsL_get _ _ (by omega), ← bit_put m (8 * i + j) (by omega), show (8 * i + j) / 8 = i by omega, show (8 * i + j) % 8 = j by omega]
    have e : (putL m).getD i 0 = byteAt (m.1.getD (i / 8) 0) (i % 8) := by
      unfold putL
      rw [List.getD_eq_getElem?_getD, List.getElem?_map, List.getElem?_range (by omega)]; rfl
    rw [e]

set_option maxRecDepth 20000 in
set_option maxHeartbeats 2000000 in
theorem rput_any (bl : List Bool) (w : World) (hb : bl.length = 256) :
    Calls Try.prog 22 #[BV bl] w fun e w' => e = .returned (.string (S (packL bl))) ∧ Ext w w' := by
  unfold BV
  have B1 := Lib.hid (Blk.new w 27 (boolsV bl).toArray)
  go_enter Try.func22, Try.ntmps22
  go_wp2_with fail
  go_loopw [4, 3] (fun i v wr => ∃ k : Nat, i = .int .i64 k ∧ k ≤ 32 ∧ Ext w wr ∧ w.heap.size + 1 ≤ wr.heap.size ∧ Blk wr w.heap.size 27 (boolsV bl).toArray ∧ BW wr (w.heap.size + 1) v ((packL bl).take k)) (fun i _ _ => 32 - (intOf i).toNat)
  case atStart =>
    refine ⟨0, rfl, by omega, (Ext.refl _).alloc _, ?_, B1.out, BW.nil _ _⟩
    rw [World.size_alloc]; omega
  case round =>
    obtain ⟨i, rfl, hi, hx, hz, h1, h2⟩ := hrel
    have HX := Lib.hid hx
    have HZ := Lib.hid hz
    have H1 := Lib.hid h1
    have H2 := Lib.hid h2
    clear hx hz h1 h2
    by_cases hlt : i < 32
    · have hi32 : (i : Int) < 32 := by omega
      go_wp2_with fail
      go_loopw [6, 5] (fun k b wq => ∃ j : Nat, k = .int .i64 (7 - (j : Int)) ∧ j ≤ 8 ∧ b = .int .i64 (packD bl (8 * i) j) ∧ wr = wq) (fun k _ _ => (intOf k + 1).toNat)
      case atStart => exact ⟨0, rfl, by omega, rfl, rfl⟩
      case round =>
        obtain ⟨j, rfl, hj, rfl, rfl⟩ := hrel
        by_cases hjt : j < 8
        · have c1 : wr.cell? ⟨w.heap.size, 8 * i + 7 - j, none⟩ = some (.bool (bl.getD (8 * i + 7 - j) false)) := (H1.out.cell _).trans (boolsV_get _ _ (by omega))
          have hp : packD bl (8 * i) (j + 1) = 2 * packD bl (8 * i) j + (if bl.getD (8 * i + 7 - j) false then 1 else 0) := rfl
          have hpl : packD bl (8 * i) j < 256 := Nat.lt_of_lt_of_le (packD_lt _ _ _) (show 2 ^ j ≤ 2 ^ 8 from Nat.pow_le_pow_right (by omega) (by omega))
          have e1 : IntKind.i64.wrap (8 * (i : Int)) = 8 * (i : Int) := by rw [IntKind.wrap_i64]; omega
          have e2 : IntKind.i64.wrap (8 * (i : Int) + (7 - (j : Int))) = ((8 * i + 7 - j : Nat) : Int) := by rw [IntKind.wrap_i64]; omega
          have e3 : 0 ≤ 7 - (j : Int) := by omega
          have e4 : ((8 * i + 7 - j : Nat) : Int) < 256 := by omega
          have e5 : IntKind.i64.wrap (7 - (j : Int) - 1) = 7 - ((j + 1 : Nat) : Int) := by rw [IntKind.wrap_i64]; omega
          have e6 : IntKind.i64.wrap (2 * ((packD bl (8 * i) j : Nat) : Int)) = 2 * ((packD bl (8 * i) j : Nat) : Int) := by rw [IntKind.wrap_i64]; omega
          have e7 : IntKind.i64.wrap (2 * ((packD bl (8 * i) j : Nat) : Int) + 1) = 2 * ((packD bl (8 * i) j : Nat) : Int) + 1 := by rw [IntKind.wrap_i64]; omega
          generalize hJ : 7 - (j : Int) = J at *
          have HJ := Lib.hid hJ
          have E5 := Lib.hid e5
          clear hJ e5
          generalize 8 * i + 7 - j = m at *
          generalize packD bl (8 * i) j = p at *
          generalize bl.getD m false = y at *
          cases y
          · have HP := Lib.hid hp
            clear hp
            have e5 := E5.out
            go_wp2_with fail
            go_roundw
            case rel => exact ⟨j + 1, by first | rfl | go_num, by omega, by rw [HP.out]; go_num, trivial⟩
            case measure => simp [intOf]; have := HJ.out; omega
          · have HP := Lib.hid hp
            clear hp
            have e5 := E5.out
            go_wp2_with fail
            go_roundw
            case rel => exact ⟨j + 1, by first | rfl | go_num, by omega, by rw [HP.out]; go_num, trivial⟩
            case measure => simp [intOf]; have := HJ.out; omega
        · obtain rfl : j = 8 := by omega
          have ht := packL_take bl i hlt
          have hlen : ((packL bl).take i).length ≤ 32 := by have := List.length_take_le' i (packL bl); rw [packL_length] at this; exact this
          have hu : IntKind.u8.wrap ((packD bl (8 * i) 8 : Nat) : Int) = U8 (UInt8.ofNat (packD bl (8 * i) 8)) := by
            unfold U8; rw [IntKind.wrap_u8, UInt8.toNat_ofNat']; omega
          obtain ⟨v', w', hrun, hm', hb', hk'⟩ := H2.out.app HZ.out (UInt8.ofNat (packD bl (8 * i) 8)) (by omega)
          have F1 := Lib.hid (Below.trans HX.out (Below.mono hb' (Nat.le_succ _)) : Ext w w')
          have F2 := Lib.hid (Nat.le_trans HZ.out hb'.size)
          have F3 := Lib.hid hm'
          have F4 := Lib.hid (H1.out.below hb' (Nat.lt_succ_self _))
          have HT := Lib.hid ht
          clear hm' hb' hk' hlen ht
          generalize UInt8.ofNat (packD bl (8 * i) 8) = b at *
          generalize packD bl (8 * i) 8 = p at *
          go_wp2_with (at_builtin; refine wpList_app rfl (.tmp 25) (.tmp 28) 66 rfl rfl rfl rfl hrun ?_)
          go_roundw
          case rel =>
            refine ⟨i + 1, by go_num, by omega, F1.out, F2.out, F4.out, ?_⟩
            rw [HT.out]; exact F3.out
          case measure => simp [intOf]; omega
    · obtain rfl : i = 32 := by omega
      rw [List.take_of_length_le (by rw [packL_length]; omega)] at H2
      have hcv := H2.out.str (by rw [packL_length]; omega)
      go_wp2
      go_ret
      exact ⟨rfl, HX.out⟩

/-- bit i of bytes from a place on -/
def bitAt (s : List UInt8) (a i : Nat) : Bool := (s.getD (a + i / 8) 0).toNat.testBit (i % 8)
def getB (s : List UInt8) (a : Nat) : List Bool := (List.range 256).map (bitAt s a)
theorem getB_length (s : List UInt8) (a : Nat) : (getB s a).length = 256 := by simp [getB]
theorem getB_eq (s : List UInt8) (a : Nat) : getB s a = boolsL (getW ((s.drop a).take 32)).1 := by
  unfold getB
  conv => rhs; unfold boolsL
  apply List.map_congr_left
  intro i hi
  have hi := List.mem_range.1 hi
  rw [bit_get _ _ hi, bitAt]
  congr 2
  rw [List.getD_eq_getElem?_getD, List.getD_eq_getElem?_getD, List.getElem?_take, if_pos (by omega), List.getElem?_drop]
theorem bit_int8 (x : UInt8) (r : Nat) : ((U8 x / 2 ^ r) % 2 == 1) = x.toNat.testBit r := by
  have h : ((U8 x / 2 ^ r) % 2 == 1) = decide ((U8 x / 2 ^ r) % 2 = 1) := rfl
  rw [h]
  unfold U8
  rw [Nat.testBit_eq_decide_div_mod_eq, show ((2 : Int) ^ r) = ((2 ^ r : Nat) : Int) by rw [Int.natCast_pow]; rfl, ← Int.natCast_ediv, decide_eq_decide]
  omega

set_option maxRecDepth 20000 in
set_option maxHeartbeats 2000000 in
theorem rget_arg (s : List UInt8) (i : Int) (w : World) (hi : i < 0 ∨ (s.length : Int) < i) (hl : (s.length : Int) ≤ 1000000000) :
    Calls Try.prog 20 #[.string (S s), .int .i64 i] w fun e w' => e = .returned (.tuple #[BV noneB, .int .i64 0, .int .i64 2]) ∧ Ext w w' := by
  have hz := noneB_length
  have b1 : Blk ((w.alloc (.cells zero256 27)).alloc (.cells zero256 27)) w.heap.size 27 (boolsV noneB).toArray := (Blk.new w _ _).alloc _
  have b2 : Blk ((w.alloc (.cells zero256 27)).alloc (.cells zero256 27)) (w.heap.size + 1) 27 (boolsV noneB).toArray := by
    have := Blk.new (w.alloc (.cells zero256 27)) 27 zero256
    rw [World.size_alloc] at this
    exact this
  have B1 := Lib.hid b1
  have B2 := Lib.hid b2
  clear b1 b2
  have hsz : (boolsV noneB).toArray.size = (boolsV noneB).toArray.size := rfl
  unfold BV
  generalize noneB = z at *
  by_cases h0 : i < 0
  · go_enter Try.func20, Try.ntmps20
    go_wp2_with (first
      | (refine wpList_load_blk rfl 27 (.tmp 7) rfl rfl B2.out Try.underlying27 rfl (bools_size hz) ?_)
      | (refine wpList_store_blk rfl 27 (.tmp 4) (.tmp 17) rfl rfl rfl B1.out rfl (bools_size hz) (boolsV_one _) ?_))
    exact bodyPost_ret (results_row_tmp2 rfl _ _ w.heap.size _ _ (0, 0) _ rfl (B1.out.setRow _) Try.underlying27 rfl (bools_size hz)) rfl ⟨rfl, Ext.setRow (((Ext.refl w).alloc _).alloc _) (Nat.le_refl _) _⟩
  · have h1 : (s.length : Int) < i := by omega
    go_enter Try.func20, Try.ntmps20
    go_wp2_with (first
      | (refine wpList_load_blk rfl 27 (.tmp 7) rfl rfl B2.out Try.underlying27 rfl (bools_size hz) ?_)
      | (refine wpList_store_blk rfl 27 (.tmp 4) (.tmp 17) rfl rfl rfl B1.out rfl (bools_size hz) (boolsV_one _) ?_))
    exact bodyPost_ret (results_row_tmp2 rfl _ _ w.heap.size _ _ (0, 0) _ rfl (B1.out.setRow _) Try.underlying27 rfl (bools_size hz)) rfl ⟨rfl, Ext.setRow (((Ext.refl w).alloc _).alloc _) (Nat.le_refl _) _⟩
set_option maxRecDepth 20000 in
set_option maxHeartbeats 2000000 in
theorem rget_short (s : List UInt8) (a : Nat) (w : World) (ha : a ≤ s.length) (hi : s.length < a + 32) (hl : (s.length : Int) ≤ 1000000000) :
    Calls Try.prog 20 #[.string (S s), .int .i64 a] w fun e w' => e = .returned (.tuple #[BV noneB, .int .i64 0, .int .i64 4]) ∧ Ext w w' := by
  have hz := noneB_length
  have b1 : Blk ((w.alloc (.cells zero256 27)).alloc (.cells zero256 27)) w.heap.size 27 (boolsV noneB).toArray := (Blk.new w _ _).alloc _
  have b2 : Blk ((w.alloc (.cells zero256 27)).alloc (.cells zero256 27)) (w.heap.size + 1) 27 (boolsV noneB).toArray := by
    have := Blk.new (w.alloc (.cells zero256 27)) 27 zero256
    rw [World.size_alloc] at this
    exact this
  have B1 := Lib.hid b1
  have B2 := Lib.hid b2
  clear b1 b2
  unfold BV
  generalize noneB = z at *
  have h0 : ¬ (a : Int) < 0 := by omega
  have h1 : ¬ (s.length : Int) < a := by omega
  have h2 : IntKind.i64.wrap ((a : Int) + 32) = (a : Int) + 32 := by rw [IntKind.wrap_i64]; omega
  have h3 : (s.length : Int) < (a : Int) + 32 := by omega
  go_enter Try.func20, Try.ntmps20
  go_wp2_with (first
    | (refine wpList_load_blk rfl 27 (.tmp 7) rfl rfl B2.out Try.underlying27 rfl (bools_size hz) ?_)
    | (refine wpList_store_blk rfl 27 (.tmp 4) (.tmp 23) rfl rfl rfl B1.out rfl (bools_size hz) (boolsV_one _) ?_))
  exact bodyPost_ret (results_row_tmp2 rfl _ _ w.heap.size _ _ (0, 0) _ rfl (B1.out.setRow _) Try.underlying27 rfl (bools_size hz)) rfl ⟨rfl, Ext.setRow (((Ext.refl w).alloc _).alloc _) (Nat.le_refl _) _⟩

end Go.Proofs.Ytjbacmhkmofpkaa
