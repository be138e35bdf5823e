/- frame: Get; varveref16: Get, Scan, Same; plain laws of scans. -/
import Derived.Test.YthomdpdiknnahaaFrE
import Derived.Test.YthomdpdiknnahaaReadG
namespace Go.Proofs.Ythomdpdiknnahaa
set_option linter.unusedVariables false
set_option linter.unusedSimpArgs false
open Go.RowKit
attribute [local go_sem] S_size S_toList S_append S_extract S_beq S_bne S_empty S_nil

/-! ### scans -/
theorem get_zero {l : List UInt8} {a : Int} (h : getE l a = 0) : 0 ≤ a ∧ a ≤ (l.length : Int) ∧ (getF l a).to = (endN l a : Int) + 4 ∧ a + 9 ≤ (getF l a).to ∧ (getF l a).to ≤ (l.length : Int) ∧ (getF l a).at_ = a := by
  have hto : (getF l a).to = (endN l a : Int) + 4 := by unfold getF; rw [if_pos h]
  have hat : (getF l a).at_ = a := by unfold getF; rw [if_pos h]
  rw [hto]
  rcases get_firsts l a with ⟨he, _⟩ | ⟨he, _⟩ | ⟨he, _⟩ | ⟨he, _⟩ | ⟨he, _⟩ | ⟨he, _⟩ | ⟨he, _⟩ | ⟨he, _⟩ | ⟨he, h1, h2, h3, h4, h5, h6, h7⟩
  case inr.inr.inr.inr.inr.inr.inr.inr =>
    refine ⟨h1, h2, rfl, ?_, ?_, hat⟩
    · unfold endN; omega
    · unfold endN; omega
  all_goals (rw [h] at he; exact absurd he (by decide))
def scanN : Nat → List UInt8 → Int → List F4 × Int
  | 0, _, a => ([], a)
  | n + 1, l, a => if getE l a = 0 then (getF l a :: (scanN n l (getF l a).to).1, (scanN n l (getF l a).to).2) else ([], a)
def scan (l : List UInt8) (a : Int) : List F4 × Int := scanN (l.length + 1 - a.toNat) l a
theorem scanN_eq (l : List UInt8) : ∀ (m k : Nat) (a : Int), l.length + 1 - a.toNat ≤ m → l.length + 1 - a.toNat ≤ k → scanN m l a = scanN k l a := by
  intro m
  induction m with
  | zero =>
    intro k a h1 h2
    cases k with
    | zero => rfl
    | succ k =>
      unfold scanN
      have : ¬ getE l a = 0 := fun h => by have := get_zero h; omega
      rw [if_neg this]
  | succ m ih =>
    intro k a h1 h2
    by_cases h : getE l a = 0
    · have hz := get_zero h
      cases k with
      | zero => omega
      | succ k =>
        unfold scanN
        rw [if_pos h, if_pos h, ih k _ (by omega) (by omega)]
    · cases k with
      | zero => unfold scanN; rw [if_neg h]
      | succ k => unfold scanN; rw [if_neg h, if_neg h]
theorem scan_step {l : List UInt8} {a : Int} (h : getE l a = 0) : scan l a = (getF l a :: (scan l (getF l a).to).1, (scan l (getF l a).to).2) := by
  have hz := get_zero h
  have h1 : scan l a = scanN (l.length + 1) l a := scanN_eq l _ _ _ (Nat.le_refl _) (by omega)
  have h2 : scan l (getF l a).to = scanN l.length l (getF l a).to := scanN_eq l _ _ _ (Nat.le_refl _) (by omega)
  rw [h1, h2]
  show (if getE l a = 0 then _ else _) = _
  rw [if_pos h]
theorem scan_stop {l : List UInt8} {a : Int} (h : ¬ getE l a = 0) : scan l a = ([], a) := by
  unfold scan
  cases l.length + 1 - a.toNat with
  | zero => rfl
  | succ n => unfold scanN; rw [if_neg h]

theorem f4C_length (f : F4) : (f4C f).length = 4 := rfl
theorem f4C_one (f : F4) : ∀ u ∈ f4C f, u.oneCell' = true := by
  intro u hu
  simp only [f4C, List.mem_cons, List.not_mem_nil, or_false] at hu
  rcases hu with rfl | rfl | rfl | rfl <;> rfl
theorem f4C_all (f : F4) : (f4C f).toArray.all (·.oneCell') = true := all_oneCell_toArray (f4C_one f)
attribute [local go_sem] frame_zero zeroTab_run zeroTab_ne
set_option maxRecDepth 20000 in
set_option maxHeartbeats 4000000 in
theorem fGet_any (l : List UInt8) (a : Int) (w : World) (hl : (l.length : Int) ≤ 1000000000) :
    Calls Try.prog 12 #[.string (S l), .int .i64 a] w fun e w' => e = .returned (.tuple #[.agg (f4C (getF l a)).toArray, .int .i64 (getE l a)]) ∧ Ext w w' := by
  have QT := Lib.hid table_any
  have Q := Lib.hid (fun g w h => fget_any l a g w h hl)
  have FS := Lib.hid (show (Try.prog.info? 31).map (·.size) = some (f4C (getF l a)).toArray.size from frame_size)
  have FZ := Lib.hid (show (#[.int .i64 0, .string (S []), .int .i64 0, .int .i64 0] : Array Value).size = (f4C (getF l a)).toArray.size from rfl)
  have FO := Lib.hid (f4C_all (getF l a))
  have TS := Lib.hid (tab_size theTab_length)
  have TZ := Lib.hid (show zeroTab.size = (tabL theTab).toArray.size by rw [zero_tab]; simp [tabL_length, theTab_length])
  have TO := Lib.hid (tab_all_one theTab)
  have HB := Lib.hid (Blk.new w 31 #[.int .i64 0, .string (S []), .int .i64 0, .int .i64 0])
  generalize (tabL theTab).toArray = tb at *
  generalize f4C (getF l a) = fc at *
  generalize getE l a = ev at *
  go_enter Try.func12, Try.ntmps12
  go_wp2_with fail
  refine (QT.out _).mono ?_
  rintro _ w1 ⟨rfl, x1⟩
  have X1 := Lib.hid (((Ext.refl w).alloc (.cells #[.int .i64 0, .string (S []), .int .i64 0, .int .i64 0] 31)).trans (x1.alloc (.cells tb 49)))
  have HB := Lib.hid ((HB.out.ext x1).alloc (.cells tb 49))
  have BT := Lib.hid (Blk.new w1 49 tb)
  clear x1
  go_wp2_with (refine wpList_store_new (cs' := tb) rfl 49 (.tmp 6) (.tmp 7) rfl rfl rfl TZ.out TS.out TO.out ?_)
  refine (Q.out _ _ BT.out).mono ?_
  rintro _ w2 ⟨rfl, x2⟩
  have X2 := Lib.hid (X1.out.trans x2)
  have HB := Lib.hid (HB.out.ext x2)
  clear x2
  go_wp2_with (refine wpList_store_blk rfl 31 (.tmp 4) (.tmp 11) rfl rfl rfl HB.out FZ.out FS.out FO.out ?_)
  exact bodyPost_ret (results_row_tmp rfl _ _ w.heap.size _ _ (0, 0) _ rfl (HB.out.setRow fc.toArray) Try.underlying31 rfl FS.out) rfl ⟨rfl, X2.out.setRow (Nat.le_refl _) _⟩
set_option maxRecDepth 20000 in
set_option maxHeartbeats 4000000 in
theorem rGet_any (l : List UInt8) (a : Int) (w : World) (hl : (l.length : Int) ≤ 1000000000) :
    Calls Try.prog 13 #[.string (S l), .int .i64 a] w fun e w' => e = .returned (.tuple #[.agg (f4C (getF l a)).toArray, .int .i64 (getE l a)]) ∧ Ext w w' := by
  have QT := Lib.hid refTable_any
  have Q := Lib.hid (fun w => rget_any l a w hl)
  have FS := Lib.hid (show (Try.prog.info? 31).map (·.size) = some (f4C (getF l a)).toArray.size from frame_size)
  have FZ := Lib.hid (show (#[.int .i64 0, .string (S []), .int .i64 0, .int .i64 0] : Array Value).size = (f4C (getF l a)).toArray.size from rfl)
  have FO := Lib.hid (f4C_all (getF l a))
  have HB := Lib.hid (Blk.new w 31 #[.int .i64 0, .string (S []), .int .i64 0, .int .i64 0])
  generalize (tabL theTab).toArray = tb at *
  generalize f4C (getF l a) = fc at *
  generalize getE l a = ev at *
  go_enter Try.func13, Try.ntmps13
  go_wp2_with fail
  refine (QT.out _).mono ?_
  rintro _ w1 ⟨rfl, x1⟩
  go_wp2_with fail
  refine (Q.out _).mono ?_
  rintro _ w2 ⟨rfl, x2⟩
  have X2 := Lib.hid ((((Ext.refl w).alloc (.cells #[.int .i64 0, .string (S []), .int .i64 0, .int .i64 0] 31)).trans x1).trans x2)
  have HB := Lib.hid ((HB.out.ext x1).ext x2)
  clear x1 x2
  go_wp2_with (refine wpList_store_blk rfl 31 (.tmp 4) (.tmp 10) rfl rfl rfl HB.out FZ.out FS.out FO.out ?_)
  exact bodyPost_ret (results_row_tmp rfl _ _ w.heap.size _ _ (0, 0) _ rfl (HB.out.setRow fc.toArray) Try.underlying31 rfl FS.out) rfl ⟨rfl, X2.out.setRow (Nat.le_refl _) _⟩
end Go.Proofs.Ythomdpdiknnahaa
