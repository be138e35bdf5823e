/- crc: the table, made twice. -/
import Derived.Test.YthomdpdiknnahaaFcZ
namespace Go.Proofs.Ythomdpdiknnahaa
set_option linter.unusedVariables false
set_option linter.unusedSimpArgs false
open Go.RowKit
attribute [local go_sem] U8_fold U8_toNat u32_xor u32_and u8_xor8 u8_of_u32 u32_of_u8 u32_xor_u8 u32_mod256 u32_shr1 u32_shr8 u32_beq u32_and1 u32_beq1 u32_not signed_u32 signed_u8 xor_poly u32_tmod2 u32_mod2 u32_tmod256 u32_wrap u32_tdiv2 u32_tdiv256 u32_max_sub

def zeroTab : Array Value := (tabL (List.replicate 256 0)).toArray
theorem zero_tab : zeroTab = (tabL (List.replicate 256 0)).toArray := rfl
theorem zeroTab_run (w : World) : (zeroValue 49).run Try.prog w = .ok (.agg zeroTab) w := by kernel_rfl
theorem zeroTab_ne : ¬ zeroTab = #[] := by
  intro h
  have h2 := congrArg Array.size h
  rw [zero_tab, List.size_toArray, tabL_length, List.length_replicate] at h2
  exact absurd h2 (show ¬ (256 : Nat) = 0 by decide)
attribute [local go_sem] zeroTab_run zeroTab_ne

/-- the table, so far -/
def tabTo (k : Nat) : List UInt32 := (List.range 256).map fun i => if i < k then halfs 8 (UInt32.ofNat i) else 0
def theTab : List UInt32 := (List.range 256).map fun i => halfs 8 (UInt32.ofNat i)
theorem tabTo_length (k : Nat) : (tabTo k).length = 256 := by simp [tabTo]
theorem theTab_length : theTab.length = 256 := by simp [theTab]
theorem tabTo_zero : tabTo 0 = List.replicate 256 0 := by decide +kernel
theorem tabTo_all : tabTo 256 = theTab := by decide +kernel
theorem tabL_set (k : Nat) (_h : k < 256) : (tabL (tabTo k)).toArray.setIfInBounds k (.int .u32 (U32 (halfs 8 (UInt32.ofNat k)))) = (tabL (tabTo (k + 1))).toArray := by
  apply Array.ext_getElem?
  intro i
  rw [Array.getElem?_setIfInBounds]
  simp only [List.getElem?_toArray, List.size_toArray, tabL_length, tabTo_length]
  by_cases hi : i < 256
  · rw [tabL_get _ i (by rw [tabTo_length]; exact hi), tabL_get _ i (by rw [tabTo_length]; exact hi)]
    have e : ∀ j, (tabTo j).getD i 0 = if i < j then halfs 8 (UInt32.ofNat i) else 0 := by
      intro j; simp [tabTo, hi]
    rw [e, e]
    by_cases hk : k = i
    · subst hk; simp [hi]
    · simp only [hk, if_false]
      by_cases h2 : i < k
      · rw [if_pos h2, if_pos (by omega)]
      · rw [if_neg h2, if_neg (by omega)]
  · rw [if_neg (by omega)]
    have : ∀ j, (tabL (tabTo j))[i]? = none := fun j => List.getElem?_eq_none (by rw [tabL_length, tabTo_length]; omega)
    rw [this, this]
theorem u32_of_nat (k : Nat) (_h : k < 256) : IntKind.u32.wrap (k : Int) = U32 (UInt32.ofNat k) := by
  unfold U32; rw [IntKind.wrap_u32, UInt32.toNat_ofNat']; omega

theorem tab_start (w : World) : Blk ((w.alloc (.cells zeroTab 49)).alloc (.cells zeroTab 49)) w.heap.size 49 (tabL (tabTo 0)).toArray ∧
    Blk ((w.alloc (.cells zeroTab 49)).alloc (.cells zeroTab 49)) (w.heap.size + 1) 49 (tabL (tabTo 0)).toArray := by
  rw [zero_tab, tabTo_zero]
  exact ⟨(Blk.new w _ _).alloc _, by have h := Blk.new (w.alloc (.cells (tabL (List.replicate 256 0)).toArray 49)) 49 (tabL (List.replicate 256 0)).toArray; rw [World.size_alloc] at h; exact h⟩
theorem tab_cell (k i : Nat) (h : i < 256) : (tabL (tabTo k)).toArray[i]? = some (.int .u32 (U32 ((tabTo k).getD i 0))) := by
  rw [List.getElem?_toArray, tabL_get _ _ (by rw [tabTo_length]; exact h)]
theorem tab_all_one (T : List UInt32) : (tabL T).toArray.all (·.oneCell') = true := all_oneCell_toArray (tabL_one T)

/-- what the loop over the table keeps -/
def TabRel (w : World) (k : Nat) (wr : World) : Prop :=
  Below w.heap.size w wr ∧ Blk wr w.heap.size 49 (tabL (tabTo 0)).toArray ∧ Blk wr (w.heap.size + 1) 49 (tabL (tabTo k)).toArray
theorem TabRel.start (w : World) : TabRel w 0 ((w.alloc (.cells zeroTab 49)).alloc (.cells zeroTab 49)) :=
  ⟨((Ext.refl w).alloc _).alloc _, (tab_start w).1, (tab_start w).2⟩
theorem TabRel.step {w wr : World} {k : Nat} (h : TabRel w k wr) (hk : k < 256) : TabRel w (k + 1) (wr.setCell ⟨w.heap.size + 1, k, none⟩ (.int .u32 (U32 (halfs 8 (UInt32.ofNat k))))) := by
  obtain ⟨h1, h2, h3⟩ := h
  refine ⟨Below.setCell h1 (by simp) _, h2.far (by simp) _, ?_⟩
  have := h3.set_ k (.int .u32 (U32 (halfs 8 (UInt32.ofNat k))))
  rwa [tabL_set k hk] at this
theorem TabRel.cell {w wr : World} {k : Nat} (h : TabRel w k wr) (hk : k < 256) : wr.cell? ⟨w.heap.size + 1, k, none⟩ = some (.int .u32 (U32 ((tabTo k).getD k 0))) := by
  rw [h.2.2.cell, tab_cell k k hk]
theorem TabRel.free {w wr : World} {k : Nat} (h : TabRel w k wr) : wr.frozen? ⟨w.heap.size + 1, k, none⟩ = false := h.2.2.frozen k
theorem TabRel.done {w wr : World} (h : TabRel w 256 wr) : Blk wr (w.heap.size + 1) 49 (tabL theTab).toArray := by
  have := h.2.2; rwa [tabTo_all] at this

set_option maxRecDepth 20000 in
set_option maxHeartbeats 400000 in
theorem table_any (w : World) :
    Calls Try.prog 20 #[] w fun e w' => e = .returned (.agg (tabL theTab).toArray) ∧ Ext w w' := by
  go_enter Try.func20, Try.ntmps20
  go_wp2
  go_loopw [5] (fun i wr => ∃ k : Nat, (k : Int) ≤ 256 ∧ i = .int .i64 k ∧ TabRel w k wr) (fun i _ => 256 - (intOf i).toNat)
  case atStart => exact ⟨0, by omega, rfl, TabRel.start w⟩
  case round =>
    obtain ⟨k, hk, rfl, hT⟩ := hrel
    by_cases hlt : (k : Int) < 256
    · obtain ⟨x, hx⟩ : ∃ x, x = UInt32.ofNat k := ⟨_, rfl⟩
      have hu := u32_of_nat k (by omega)
      have hs := Lib.hid (hT.step (by omega))
      rw [← hx] at hu hs
      clear hx
      obtain ⟨y, hc⟩ : ∃ y, wr.cell? ⟨w.heap.size + 1, k, none⟩ = some y := ⟨_, hT.cell (by omega)⟩
      have hf := hT.free
      go_wp2
      go_loop [4, 10] (fun c j => ∃ m : Nat, m ≤ 8 ∧ j = .int .i64 m ∧ c = .int .u32 (U32 (halfs m x))) (fun _ j => 8 - (intOf j).toNat)
      case atStart => exact ⟨0, Nat.zero_le _, rfl, rfl⟩
      case round =>
        obtain ⟨m, hm, rfl, rfl⟩ := hrel
        by_cases hml : m < 8
        · go_wp2_with (go_at_call 29; refine (half_any _ _).mono ?_; rintro e w' ⟨rfl, rfl⟩)
          go_round
          case rel => exact ⟨m + 1, by omega, by go_num, rfl⟩
          case measure => simp [intOf]; omega
        · obtain rfl : m = 8 := by omega
          go_wp2
          go_roundw
          case rel => exact ⟨k + 1, by omega, by go_num, hs.out⟩
          case measure => simp [intOf]; omega
    · obtain rfl : k = 256 := by omega
      have hd := hT.done
      go_wp2_with (first
        | (refine wpList_load_blk rfl 49 (.tmp 2) rfl rfl hd Try.underlying49 rfl (tab_size theTab_length) ?_)
        | (refine wpList_store_blk rfl 49 (.tmp 0) (.tmp 20) rfl rfl rfl hT.2.1 (by simp [tabL_length, tabTo_length, theTab_length]) (tab_size theTab_length) (tab_all_one _) ?_))
      exact bodyPost_ret (results_cell_row rfl _ _ w.heap.size _ _ (0, 0) _ rfl (hT.2.1.setRow _) Try.underlying49 rfl (tab_size theTab_length)) rfl ⟨rfl, Ext.setRow hT.1 (Nat.le_refl _) _⟩

/-- the same, by the document -/
def RefRel (w : World) (k : Nat) (wr : World) : Prop := TabRel w k wr
set_option maxHeartbeats 400000 in
theorem refTable_any (w : World) :
    Calls Try.prog 23 #[] w fun e w' => e = .returned (.agg (tabL theTab).toArray) ∧ Ext w w' := by
  go_enter Try.func23, Try.ntmps23
  go_wp2
  go_loopw [2] (fun i wr => ∃ k : Nat, (k : Int) ≤ 256 ∧ i = .int .i64 k ∧ TabRel w k wr) (fun i _ => 256 - (intOf i).toNat)
  case atStart => exact ⟨0, by omega, rfl, TabRel.start w⟩
  case round =>
    obtain ⟨k, hk, rfl, hT⟩ := hrel
    by_cases hlt : (k : Int) < 256
    · obtain ⟨x, hx⟩ : ∃ x, x = UInt32.ofNat k := ⟨_, rfl⟩
      have hu := u32_of_nat k (by omega)
      have hs := Lib.hid (hT.step (by omega))
      rw [← hx] at hu hs
      clear hx
      obtain ⟨y, hc⟩ : ∃ y, wr.cell? ⟨w.heap.size + 1, k, none⟩ = some y := ⟨_, hT.cell (by omega)⟩
      have hf := hT.free
      go_wp2_with (go_at_call 31; refine (entry_any _ _).mono ?_; rintro e w' ⟨rfl, rfl⟩)
      go_roundw
      case rel => exact ⟨k + 1, by omega, by go_num, hs.out⟩
      case measure => simp [intOf]; omega
    · obtain rfl : k = 256 := by omega
      have hd := hT.done
      go_wp2_with (first
        | (refine wpList_load_blk rfl 49 (.tmp 1) rfl rfl hd Try.underlying49 rfl (tab_size theTab_length) ?_)
        | (refine wpList_store_blk rfl 49 (.tmp 0) (.tmp 12) rfl rfl rfl hT.2.1 (by simp [tabL_length, tabTo_length, theTab_length]) (tab_size theTab_length) (tab_all_one _) ?_))
      exact bodyPost_ret (results_cell_row rfl _ _ w.heap.size _ _ (0, 0) _ rfl (hT.2.1.setRow _) Try.underlying49 rfl (tab_size theTab_length)) rfl ⟨rfl, Ext.setRow hT.1 (Nat.le_refl _) _⟩
end Go.Proofs.Ythomdpdiknnahaa
