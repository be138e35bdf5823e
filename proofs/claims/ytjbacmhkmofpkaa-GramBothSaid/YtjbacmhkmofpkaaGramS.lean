/- gram, the document's answer: Of, Both, Count. -/
import Derived.Test.YtjbacmhkmofpkaaGramR
namespace Go.Proofs.Ytjbacmhkmofpkaa
set_option linter.unusedVariables false
set_option linter.unusedSimpArgs false
open Go.RowKit
attribute [local go_sem] S_size S_toList S_append S_extract S_beq S_bne S_empty S_nil zero256_run zero256_ne

theorem bools_empty : boolsL emptyL = noneB := by
  unfold noneB
  apply List.ext_getElem (by rw [boolsL_length, List.length_replicate])
  intro i h1 h2
  rw [List.getElem_replicate]
  simp [boolsL, bit_empty]
theorem bools_with (m : W4) (n : Nat) (hn : n < 256) : boolsL (with4 m n).1 = (boolsL m.1).set n true := by
  apply List.ext_getElem?
  intro i
  rw [List.getElem?_set, boolsL_length]
  by_cases hi : i < 256
  · have e : (boolsL (with4 m n).1)[i]? = some (bitL m.1 i || decide (i = n)) := by
      rw [boolsL, List.getElem?_map, List.getElem?_range hi, Option.map_some]
      exact congrArg some (bit_with m.1 m.2 hn hi)
    rw [e]
    by_cases he : n = i
    · subst he; simp [hn]
    · rw [if_neg he, boolsL, List.getElem?_map, List.getElem?_range hi, Option.map_some, decide_eq_false (fun h => he h.symm), Bool.or_false]
  · rw [List.getElem?_eq_none (by rw [boolsL_length]; omega)]
    by_cases he : n = i
    · omega
    · rw [if_neg he, List.getElem?_eq_none (by rw [boolsL_length]; omega)]
def orB (a b : List Bool) : List Bool := (List.range 256).map fun i => a.getD i false || b.getD i false
theorem orB_length (a b : List Bool) : (orB a b).length = 256 := by simp [orB]
theorem bools_union (m n : W4) : boolsL (union4 m n).1 = orB (boolsL m.1) (boolsL n.1) := by
  unfold orB
  conv => lhs; unfold boolsL
  apply List.map_congr_left
  intro i hi
  have hi := List.mem_range.1 hi
  rw [boolsL_get _ _ hi, boolsL_get _ _ hi]
  exact bit_union _ _ hi

set_option maxRecDepth 20000 in
set_option maxHeartbeats 2000000 in
theorem rof_any (l : List UInt8) (w : World) (hl : (l.length : Int) ≤ 1000000000) :
    Calls Try.prog 12 #[.string (S l)] w fun e w' => e = .returned (BV (boolsL (ofL l).1)) ∧ Ext w w' := by
  unfold BV
  obtain ⟨n, hn⟩ : ∃ n, n = l.length := ⟨_, rfl⟩
  rw [← hn] at hl
  have b1 : Blk ((w.alloc (.cells zero256 27)).alloc (.cells zero256 27)) w.heap.size 27 (boolsV noneB).toArray := (Blk.new w _ _).alloc _
  have b2 : Blk ((w.alloc (.cells zero256 27)).alloc (.cells zero256 27)) (w.heap.size + 1) 27 (boolsV (boolsL (ofN l 0).1)).toArray := by
    have := Blk.new (w.alloc (.cells zero256 27)) 27 zero256
    rw [World.size_alloc] at this
    rw [show (ofN l 0).1 = emptyL from rfl, bools_empty, ← bools_zero]
    exact this
  have B1 := Lib.hid b1
  have B2 := Lib.hid b2
  have hN := Lib.hid hn
  have hlen : (l.length : Int) = n := by omega
  clear b1 b2 hn
  go_enter Try.func12, Try.ntmps12
  go_wp2_with fail
  go_loopw [4] (fun i wr => ∃ k : Nat, i = .int .i64 k ∧ k ≤ n - 2 ∧ Ext w wr ∧ Blk wr w.heap.size 27 (boolsV noneB).toArray ∧ Blk wr (w.heap.size + 1) 27 (boolsV (boolsL (ofN l k).1)).toArray) (fun i _ => n - (intOf i).toNat)
  case atStart => exact ⟨0, rfl, by omega, ((Ext.refl _).alloc _).alloc _, B1.out, B2.out⟩
  case round =>
    obtain ⟨k, rfl, hk, hx, h1, h2⟩ := hrel
    have HX := Lib.hid hx
    have H1 := Lib.hid h1
    have H2 := Lib.hid h2
    clear hx h1 h2
    have e0 : IntKind.i64.wrap ((k : Int) + 2) = (k : Int) + 2 := by rw [IntKind.wrap_i64]; omega
    by_cases hlt : k + 2 < n
    · have hnn := hN.out
      have i0 := fun w => index_S l k (by omega) _ rfl w
      have i1 : ∀ w, (Instr.index 9 (.string (S l)) (.int .i64 ((k : Int) + 1))).run Try.prog w = .ok (.int .u8 (U8 (l.getD (k + 1) 0))) w := fun w => by
        rw [show (k : Int) + 1 = ((k + 1 : Nat) : Int) by omega]; exact index_S l (k + 1) (by omega) _ rfl w
      have i2 : ∀ w, (Instr.index 9 (.string (S l)) (.int .i64 ((k : Int) + 2))).run Try.prog w = .ok (.int .u8 (U8 (l.getD (k + 2) 0))) w := fun w => by
        rw [show (k : Int) + 2 = ((k + 2 : Nat) : Int) by omega]; exact index_S l (k + 2) (by omega) _ rfl w
      have e1 : IntKind.i64.wrap ((k : Int) + 1) = (k : Int) + 1 := by rw [IntKind.wrap_i64]; omega
      have ht : boolsL (ofN l (k + 1)).1 = (boolsL (ofN l k).1).set (markAt l k) true := by rw [ofN_succ, bools_with _ _ (by have := markAt_lt l k; omega)]
      have hm : markL (l.getD k 0) (l.getD (k + 1) 0) (l.getD (k + 2) 0) = markAt l k := rfl
      have hm2 := markAt_lt l k
      have hlt' : (k : Int) + 2 < n := by omega
      have hbl := boolsL_length (ofN l k).1
      generalize markAt l k = m at *
      generalize l.getD k 0 = c0 at *
      generalize l.getD (k + 1) 0 = c1 at *
      generalize l.getD (k + 2) 0 = c2 at *
      generalize boolsL (ofN l k).1 = s at *
      have q1 := Lib.hid (fun w => (hm ▸ rmark_any c0 c1 c2 w : Calls Try.prog 24 #[.int .u8 (U8 c0), .int .u8 (U8 c1), .int .u8 (U8 c2)] w fun e w' => e = .returned (.int .i64 m) ∧ w = w').mono (fun e w' h => (⟨h.1, h.2 ▸ Ext.refl _⟩ : e = .returned (.int .i64 m) ∧ Ext w w')))
      have Hm := Lib.hid ht
      have hm3 : (m : Int) < 256 := by omega
      have cf := fun x : Up wr.drew => (H2.out.drew.ext x.ext).frozen m
      have cc := up_cell (show wr.drew.cell? ⟨w.heap.size + 1, m, none⟩ = some (.bool (s.getD m false)) from (H2.out.drew.cell _).trans (boolsV_get _ _ (by rw [hbl]; omega)))
      have HS := Lib.hid (fun x : Up wr.drew => by
        have := (H2.out.drew.ext x.ext).set_ m (.bool true)
        rw [boolsV_set] at this; exact this)
      clear hnn hm hm2 ht hbl
      go_wp2_with fail
      refine wp_region_lex _ rfl (by kernel_rfl) ?_
      dsimp only [List.length_cons, List.length_nil]
      repeat (first
        | (refine lex_want (by kernel_rfl) (by kernel_rfl) (by kernel_rfl) (by kernel_rfl) (fun _ _ _ _ h => h) (by kernel_rfl) (fun K hK => ?_)
           go_simp
           first
             | (refine hK _ ?_; clear hK K)
             | (apply Exists.intro
                refine ⟨fun _ => ?_, hK _ ?_⟩
                (first
                   | (go_at_call 24; (with_reducible exact q1.out _)))
                clear hK K)))
      refine lex_last (by kernel_rfl) (by kernel_rfl) (by kernel_rfl) (by kernel_rfl) (by kernel_rfl) (fun x K hK => ?_)
      have p1 := cc x
      have p2 := cf x
      go_simp
      refine hK _ _ (fun y => ?_)
      have f1 := Lib.hid (((H1.out.drew.ext x.ext).far (p := ⟨w.heap.size + 1, m, none⟩) (Nat.ne_of_lt (Nat.lt_succ_self _)) (.bool true)).ext y.ext)
      have f2 := Lib.hid ((HS.out x).ext y.ext)
      have f3 := Lib.hid ((Ext.set (HX.out.drew.trans x.ext) (p := ⟨w.heap.size + 1, m, none⟩) (Nat.le_succ _) (.bool true)).trans y.ext)
      clear hK p1 p2 cc cf HS
      go_wp2
      go_roundw
      case rel =>
        refine ⟨k + 1, by go_num, by have := hN.out; omega, f3.out, f1.out, ?_⟩
        rw [Hm.out]; exact f2.out
      case measure => simp [intOf]; omega
    · have hkn : k = l.length - 2 := by have := hN.out; omega
      have H2 : Hid (Blk wr (w.heap.size + 1) 27 (boolsV (boolsL (ofL l).1)).toArray) := by rw [hkn] at H2; exact H2
      clear hkn
      have hlt' : ¬ (k : Int) + 2 < n := by omega
      have hl := boolsL_length (ofL l).1
      go_wp2_with (first
        | (refine wpList_load_blk rfl 27 (.tmp 3) rfl rfl H2.out Try.underlying27 rfl (bools_size hl) ?_)
        | (refine wpList_store_blk rfl 27 (.tmp 2) (.tmp 25) rfl rfl rfl H1.out (by rw [boolsV_size, boolsV_size, hl, noneB_length]) (bools_size hl) (boolsV_one _) ?_))
      exact bodyPost_ret (results_cell_row rfl _ _ w.heap.size _ _ (0, 0) _ rfl (H1.out.setRow _) Try.underlying27 rfl (bools_size hl)) rfl ⟨rfl, Ext.setRow HX.out (Nat.le_refl _) _⟩

set_option maxRecDepth 20000 in
set_option maxHeartbeats 2000000 in
theorem rboth_any (a b : List Bool) (w : World) (ha : a.length = 256) (hb : b.length = 256) :
    Calls Try.prog 13 #[BV a, BV b] w fun e w' => e = .returned (BV (orB a b)) ∧ Ext w w' := by
  unfold BV
  have b1 : Blk (((w.alloc (.cells (boolsV a).toArray 27)).alloc (.cells (boolsV b).toArray 27)).alloc (.cells zero256 27)) w.heap.size 27 (boolsV (fillTo (fun i => a.getD i false || b.getD i false) (fun i => a.getD i false) 0)).toArray := by
    rw [fillTo_first _ _ ha]; exact ((Blk.new w _ _).alloc _).alloc _
  have b2 : Blk (((w.alloc (.cells (boolsV a).toArray 27)).alloc (.cells (boolsV b).toArray 27)).alloc (.cells zero256 27)) (w.heap.size + 1) 27 (boolsV b).toArray := by
    have := (Blk.new (w.alloc (.cells (boolsV a).toArray 27)) 27 (boolsV b).toArray).alloc (.cells zero256 27)
    rw [World.size_alloc] at this; exact this
  have b3 : Blk (((w.alloc (.cells (boolsV a).toArray 27)).alloc (.cells (boolsV b).toArray 27)).alloc (.cells zero256 27)) (w.heap.size + 1 + 1) 27 (boolsV noneB).toArray := by
    have := Blk.new ((w.alloc (.cells (boolsV a).toArray 27)).alloc (.cells (boolsV b).toArray 27)) 27 zero256
    rw [World.size_alloc, World.size_alloc] at this; exact this
  have B1 := Lib.hid b1
  have B2 := Lib.hid b2
  have B3 := Lib.hid b3
  clear b1 b2 b3
  go_enter Try.func13, Try.ntmps13
  go_wp2_with fail
  go_loopw [5] (fun i wr => ∃ k : Nat, i = .int .i64 k ∧ k ≤ 256 ∧ Ext w wr ∧ Blk wr w.heap.size 27 (boolsV (fillTo (fun i => a.getD i false || b.getD i false) (fun i => a.getD i false) k)).toArray ∧ Blk wr (w.heap.size + 1) 27 (boolsV b).toArray ∧ Blk wr (w.heap.size + 1 + 1) 27 (boolsV noneB).toArray) (fun i _ => 256 - (intOf i).toNat)
  case atStart => exact ⟨0, rfl, by omega, (((Ext.refl _).alloc _).alloc _).alloc _, B1.out, B2.out, B3.out⟩
  case round =>
    obtain ⟨k, rfl, hk, hx, h1, h2, h3⟩ := hrel
    have HX := Lib.hid hx
    have H1 := Lib.hid h1
    have H2 := Lib.hid h2
    have H3 := Lib.hid h3
    by_cases hlt : k < 256
    · have c1 : wr.cell? ⟨w.heap.size, k, none⟩ = some (.bool (a.getD k false)) := (h1.cell _).trans (by rw [boolsV_get _ _ (by rw [fillTo_length]; omega), fillTo_get _ _ _ _ hlt, if_neg (by omega)])
      have c2 : wr.cell? ⟨w.heap.size + 1, k, none⟩ = some (.bool (b.getD k false)) := (h2.cell _).trans (boolsV_get _ _ (by omega))
      have cf := h1.frozen k
      have e5 : (k : Int) < 256 := by omega
      have HS := Lib.hid (h1.set_ k (.bool (a.getD k false || b.getD k false)))
      have H2' := Lib.hid (h2.far (p := ⟨w.heap.size, k, none⟩) (by show w.heap.size + 1 ≠ w.heap.size; omega) (.bool (a.getD k false || b.getD k false)))
      have H3' := Lib.hid (h3.far (p := ⟨w.heap.size, k, none⟩) (by show w.heap.size + 1 + 1 ≠ w.heap.size; omega) (.bool (a.getD k false || b.getD k false)))
      have HX' := Lib.hid (hx.set (p := ⟨w.heap.size, k, none⟩) (Nat.le_refl _) (.bool (a.getD k false || b.getD k false)))
      rw [boolsV_set, fillTo_set (fun i => a.getD i false || b.getD i false)] at HS
      clear hx h1 h2 h3
      generalize a.getD k false = x at *
      cases x
      · rw [Bool.false_or] at HS H2' H3' HX'
        generalize b.getD k false = y at *
        go_wp2_with fail
        go_roundw
        case rel => exact ⟨k + 1, by go_num, by omega, HX'.out, HS.out, H2'.out, H3'.out⟩
        case measure => simp [intOf]; omega
      · rw [Bool.true_or] at HS H2' H3' HX'
        go_wp2_with fail
        go_roundw
        case rel => exact ⟨k + 1, by go_num, by omega, HX'.out, HS.out, H2'.out, H3'.out⟩
        case measure => simp [intOf]; omega
    · obtain rfl : k = 256 := by omega
      rw [fillTo_all] at H1
      have hl := orB_length a b
      clear hx h1 h2 h3
      have H1 : Hid (Blk wr w.heap.size 27 (boolsV (orB a b)).toArray) := H1
      go_wp2_with (first
        | (refine wpList_load_blk rfl 27 (.tmp 2) rfl rfl H1.out Try.underlying27 rfl (bools_size hl) ?_)
        | (refine wpList_store_blk rfl 27 (.tmp 4) (.tmp 20) rfl rfl rfl H3.out (by rw [boolsV_size, boolsV_size, hl, noneB_length]) (bools_size hl) (boolsV_one _) ?_))
      exact bodyPost_ret (results_cell_row rfl _ _ (w.heap.size + 1 + 1) _ _ (0, 0) _ rfl (H3.out.setRow _) Try.underlying27 rfl (bools_size hl)) rfl ⟨rfl, Ext.setRow HX.out (by omega) _⟩

set_option maxRecDepth 20000 in
set_option maxHeartbeats 2000000 in
theorem rcount_any (a : List Bool) (w : World) (ha : a.length = 256) :
    Calls Try.prog 17 #[BV a] w fun e w' => e = .returned (.int .i64 (a.count true)) ∧ Ext w w' := by
  unfold BV
  have B1 := Lib.hid (Blk.new w 27 (boolsV a).toArray)
  have hc : ((a.count true : Nat) : Int) = (((a.take 256).count true : Nat) : Int) := by rw [List.take_of_length_le (by omega)]
  rw [hc]
  clear hc
  go_enter Try.func17, Try.ntmps17
  go_wp2_with fail
  go_loopw [4, 3] (fun i n wr => ∃ k : Nat, i = .int .i64 k ∧ k ≤ 256 ∧ n = .int .i64 ((a.take k).count true) ∧ Ext w wr ∧ Blk wr w.heap.size 27 (boolsV a).toArray) (fun i _ _ => 256 - (intOf i).toNat)
  case atStart => exact ⟨0, rfl, by omega, rfl, (Ext.refl _).alloc _, B1.out⟩
  case round =>
    obtain ⟨k, rfl, hk, rfl, hx, h1⟩ := hrel
    have HX := Lib.hid hx
    have H1 := Lib.hid h1
    by_cases hlt : k < 256
    · have c1 : wr.cell? ⟨w.heap.size, k, none⟩ = some (.bool (a.getD k false)) := (h1.cell _).trans (boolsV_get _ _ (by omega))
      have e5 : (k : Int) < 256 := by omega
      have hle := List.count_le_length (a := true) (l := a.take k)
      have hle2 := List.length_take_le k a
      have ht : (a.take (k + 1)).count true = (a.take k).count true + (if a.getD k false then 1 else 0) := by
        rw [List.take_add_one, List.getElem?_eq_getElem (by omega), Option.toList_some, List.count_append]
        have : a.getD k false = a[k] := by simp [List.getD_eq_getElem?_getD, show k < a.length by omega]
        rw [this]
        cases a[k] <;> simp
      clear hx h1
      generalize (a.take k).count true = n at *
      have hw : IntKind.i64.wrap ((n : Int) + 1) = (n : Int) + 1 := by rw [IntKind.wrap_i64]; omega
      clear hle hle2
      generalize a.getD k false = x at *
      cases x
      · have HT := Lib.hid ht
        clear ht
        go_wp2_with fail
        go_roundw
        case rel => exact ⟨k + 1, by go_num, by omega, by rw [HT.out]; rfl, HX.out, H1.out⟩
        case measure => simp [intOf]; omega
      · have HT := Lib.hid ht
        clear ht
        go_wp2_with fail
        go_roundw
        case rel => exact ⟨k + 1, by go_num, by omega, by rw [HT.out]; rfl, HX.out, H1.out⟩
        case measure => simp [intOf]; omega
    · obtain rfl : k = 256 := by omega
      go_wp2
      go_ret
      exact ⟨rfl, hx⟩
end Go.Proofs.Ytjbacmhkmofpkaa
