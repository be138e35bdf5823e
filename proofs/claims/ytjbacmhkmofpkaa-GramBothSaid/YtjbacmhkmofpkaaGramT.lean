/- gram, the document's answer: May, All. -/
import Derived.Test.YtjbacmhkmofpkaaGramS
namespace Go.Proofs.Ytjbacmhkmofpkaa
set_option linter.unusedVariables false
set_option linter.unusedSimpArgs false
open Go.RowKit
attribute [local go_sem] S_size S_toList S_append S_extract S_beq S_bne S_empty S_nil zero256_run zero256_ne

def mayB (bl wl : List Bool) : Bool := (List.range 256).all fun i => !wl.getD i false || bl.getD i false
theorem zero256_size {l : List Bool} (h : l.length = 256) : zero256.size = (boolsV l).toArray.size := by rw [bools_zero, boolsV_size, boolsV_size, h, noneB_length]

set_option maxRecDepth 20000 in
set_option maxHeartbeats 2000000 in
theorem rmay_any (bl : List Bool) (what : List UInt8) (w : World) (hb : bl.length = 256) (hl : (what.length : Int) ≤ 1000000000) :
    Calls Try.prog 15 #[BV bl, .string (S what)] w fun e w' => e = .returned (.bool (mayB bl (boolsL (ofL what).1))) ∧ Ext w w' := by
  have q := Lib.hid (fun w => rof_any what w hl)
  have hwl := boolsL_length (ofL what).1
  generalize boolsL (ofL what).1 = wl at *
  unfold BV at *
  have B1 := Lib.hid (Blk.new w 27 (boolsV bl).toArray)
  go_enter Try.func15, Try.ntmps15
  go_wp2_with fail
  refine (q.out _).mono ?_
  rintro e w1 ⟨rfl, x1⟩
  have C1 := Lib.hid ((B1.out.ext x1).alloc (.cells (boolsV wl).toArray 27))
  have C2 := Lib.hid (Blk.new w1 27 (boolsV wl).toArray)
  have CX := Lib.hid ((((Ext.refl w).alloc (.cells (boolsV bl).toArray 27)).trans x1).alloc (.cells (boolsV wl).toArray 27))
  clear x1
  go_wp2_with (first
    | (refine wpList_store_new rfl 27 (.tmp 5) (.tmp 8) rfl rfl rfl (zero256_size hwl) (bools_size hwl) (boolsV_one _) ?_))
  go_loopw [6] (fun i wr => ∃ k : Nat, i = .int .i64 k ∧ k ≤ 256 ∧ Ext w wr ∧ Blk wr w.heap.size 27 (boolsV bl).toArray ∧ Blk wr w1.heap.size 27 (boolsV wl).toArray ∧ ∀ i, i < k → (!wl.getD i false || bl.getD i false) = true) (fun i _ => 256 - (intOf i).toNat)
  case atStart => exact ⟨0, rfl, by omega, CX.out, C1.out, C2.out, fun i hi => by omega⟩
  case round =>
    obtain ⟨k, rfl, hk, hx, h1, h2, hall⟩ := hrel
    have HX := Lib.hid hx
    have H1 := Lib.hid h1
    have H2 := Lib.hid h2
    have HA := Lib.hid hall
    by_cases hlt : k < 256
    · have c1 : wr.cell? ⟨w.heap.size, k, none⟩ = some (.bool (bl.getD k false)) := (h1.cell _).trans (boolsV_get _ _ (by omega))
      have c2 : wr.cell? ⟨w1.heap.size, k, none⟩ = some (.bool (wl.getD k false)) := (h2.cell _).trans (boolsV_get _ _ (by omega))
      have e5 : (k : Int) < 256 := by omega
      clear hx h1 h2 hall
      rcases hwk : wl.getD k false with _ | _
      · have hn : ∀ i, i < k + 1 → (!wl.getD i false || bl.getD i false) = true := fun i hi => by
          by_cases he : i = k
          · subst he; rw [hwk]; rfl
          · exact HA.out i (by omega)
        have HN := Lib.hid hn
        rw [hwk] at c2
        clear hn hwk
        go_wp2_with fail
        go_roundw
        case rel => exact ⟨k + 1, by go_num, by omega, HX.out, H1.out, H2.out, HN.out⟩
        case measure => simp [intOf]; omega
      · rcases hbk : bl.getD k false with _ | _
        · have hm : mayB bl wl = false := by
            rw [mayB, List.all_eq_false]
            refine ⟨k, List.mem_range.2 hlt, ?_⟩
            rw [hwk, hbk]; decide
          rw [hwk] at c2
          rw [hbk] at c1
          have HM := Lib.hid hm
          clear hm hwk hbk
          go_wp2
          go_ret
          exact ⟨by rw [HM.out]; rfl, HX.out⟩
        · have hn : ∀ i, i < k + 1 → (!wl.getD i false || bl.getD i false) = true := fun i hi => by
            by_cases he : i = k
            · subst he; rw [hbk]; simp
            · exact HA.out i (by omega)
          have HN := Lib.hid hn
          rw [hwk] at c2
          rw [hbk] at c1
          clear hn hwk hbk
          go_wp2_with fail
          go_roundw
          case rel => exact ⟨k + 1, by go_num, by omega, HX.out, H1.out, H2.out, HN.out⟩
          case measure => simp [intOf]; omega
    · obtain rfl : k = 256 := by omega
      have hm : mayB bl wl = true := by
        rw [mayB, List.all_eq_true]
        exact fun i hi => hall i (List.mem_range.1 hi)
      have HM := Lib.hid hm
      clear hm hall
      go_wp2
      go_ret
      exact ⟨by rw [HM.out]; rfl, hx⟩

set_option maxRecDepth 20000 in
set_option maxHeartbeats 2000000 in
theorem rall_any (l : List Rec) (v : Value) (w : World) (hv : RD recCells 3 w v l) (hl : (l.length : Int) ≤ 1000) (hd : ∀ r ∈ l, (r.2.2.length : Int) ≤ 1000000000) :
    Calls Try.prog 26 #[v] w fun e w' => e = .returned (BV (boolsL (allL l).1)) ∧ Ext w w' := by
  obtain ⟨n, hn⟩ : ∃ n, n = l.length := ⟨_, rfl⟩
  obtain ⟨a, c, rfl, hs⟩ := hv
  rw [← hn] at hl hs ⊢
  unfold BV
  have b1 : Blk ((w.alloc (.cells zero256 27)).alloc (.cells zero256 27)) w.heap.size 27 (boolsV noneB).toArray := (Blk.new w _ _).alloc _
  have b2 : Blk ((w.alloc (.cells zero256 27)).alloc (.cells zero256 27)) (w.heap.size + 1) 27 (boolsV (boolsL (foldL ((l.take 0).map fun r => ofL r.2.2)).1)).toArray := by
    have := Blk.new (w.alloc (.cells zero256 27)) 27 zero256
    rw [World.size_alloc] at this
    rw [show (foldL ((l.take 0).map fun r => ofL r.2.2)).1 = emptyL from rfl, bools_empty, ← bools_zero]
    exact this
  have hN := Lib.hid hn
  have HS := Lib.hid hs
  have HD := Lib.hid hd
  have B1 := Lib.hid b1
  have B2 := Lib.hid b2
  clear hn hs hd b1 b2
  go_enter Try.func26, Try.ntmps26
  go_wp2_with fail
  go_loopw [4] (fun i wr => ∃ k : Nat, i = .int .i64 k ∧ k ≤ n ∧ Ext w wr ∧ Blk wr w.heap.size 27 (boolsV noneB).toArray ∧ Blk wr (w.heap.size + 1) 27 (boolsV (boolsL (foldL ((l.take k).map fun r => ofL r.2.2)).1)).toArray) (fun i _ => n - (intOf i).toNat)
  case atStart => exact ⟨0, rfl, by omega, ((Ext.refl _).alloc _).alloc _, B1.out, B2.out⟩
  case round =>
    obtain ⟨k, rfl, hk, hx, h1, h2⟩ := hrel
    have HX := Lib.hid hx
    have H1 := Lib.hid h1
    have H2 := Lib.hid h2
    clear hx h1 h2
    by_cases hlt : k < n
    · obtain ⟨g, o, rfl, hcells⟩ := HS.out (by omega)
      obtain ⟨r, hr⟩ : ∃ r, l[k]? = some r := ⟨_, List.getElem?_eq_getElem (by have := hN.out; omega)⟩
      have c0 := up_cell (W := wr.drew) (show wr.drew.cell? ⟨g, o + k * 3 + 2, none⟩ = some (.string (S r.2.2)) from rangeAt_ext (hcells k r hr) HX.out 2 _ rfl)
      have q1 := Lib.hid (fun w => rof_any r.2.2 w (HD.out r (List.mem_of_getElem? hr)))
      have ht : foldL ((l.take (k + 1)).map fun r => ofL r.2.2) = union4 (foldL ((l.take k).map fun r => ofL r.2.2)) (ofL r.2.2) := by
        rw [List.take_add_one, hr, Option.toList_some, List.map_append, foldL, foldL, List.foldl_append]; rfl
      have HT := Lib.hid (show boolsL (foldL ((l.take (k + 1)).map fun r => ofL r.2.2)).1 = orB (boolsL (foldL ((l.take k).map fun r => ofL r.2.2)).1) (boolsL (ofL r.2.2).1) by rw [ht, bools_union])
      have hlt' : (k : Int) < n := by omega
      have hs1 := boolsL_length (foldL ((l.take k).map fun r => ofL r.2.2)).1
      have q2 := Lib.hid (fun w => rboth_any (boolsL (foldL ((l.take k).map fun r => ofL r.2.2)).1) (boolsL (ofL r.2.2).1) w (boolsL_length _) (boolsL_length _))
      have hs2 := orB_length (boolsL (foldL ((l.take k).map fun r => ofL r.2.2)).1) (boolsL (ofL r.2.2).1)
      clear hcells hr ht
      unfold BV at q1 q2
      generalize boolsL (foldL ((l.take k).map fun r => ofL r.2.2)).1 = s at *
      generalize boolsL (ofL r.2.2).1 = x at *
      generalize r.2.2 = d at *
      generalize orB s x = s' at *
      go_wp2_with fail
      refine wp_region_lex _ rfl (by kernel_rfl) ?_
      dsimp only [List.length_cons, List.length_nil]
      refine lex_load_blk (by kernel_rfl) (by kernel_rfl) (by kernel_rfl) (by kernel_rfl) (fun _ _ _ _ h => h) (by kernel_rfl) 27 (.tmp 3) rfl rfl H2.out Try.underlying27 rfl (bools_size hs1) ?_
      repeat (first
        | (refine lex_want (by kernel_rfl) (by kernel_rfl) (by kernel_rfl) (by kernel_rfl) (fun _ _ _ _ h => h) (by kernel_rfl) (fun K hK => ?_)
           go_simp
           first
             | (refine hK _ ?_; clear hK K)
             | (apply Exists.intro
                refine ⟨fun _ => ?_, hK _ ?_⟩
                (first
                   | (go_at_call 12; (with_reducible exact q1.out _))
                   | (go_at_call 13; (with_reducible exact q2.out _)))
                clear hK K)))
      refine lex_last (by kernel_rfl) (by kernel_rfl) (by kernel_rfl) (by kernel_rfl) (by kernel_rfl) (fun x K hK => ?_)
      have e2 := (H2.out.drew.ext x.ext)
      refine wp_store_blk 27 (.tmp 3) (.tmp 18) rfl rfl rfl e2 (by rw [boolsV_size, boolsV_size, hs1, hs2]) (bools_size hs2) (boolsV_one _) (hK _ _ (fun y => ?_))
      have f1 := Lib.hid ((((H1.out.drew.ext x.ext).setRow_far (Nat.ne_of_lt (Nat.lt_succ_self _)) (boolsV s').toArray)).ext y.ext)
      have f2 := Lib.hid ((e2.setRow (boolsV s').toArray).ext y.ext)
      have f3 := Lib.hid ((Ext.setRow (HX.out.drew.trans x.ext) (Nat.le_add_right _ _) (boolsV s').toArray : Ext w (x.val.setRow (w.heap.size + 1) (boolsV s').toArray)).trans y.ext)
      clear hK e2
      go_wp2
      go_roundw
      case rel =>
        refine ⟨k + 1, by go_num, by omega, f3.out, f1.out, ?_⟩
        rw [HT.out]; exact f2.out
      case measure => simp [intOf]; omega
    · obtain rfl : k = n := by omega
      rw [List.take_of_length_le (by have := hN.out; omega)] at H2
      have hl := boolsL_length (allL l).1
      have H2 : Hid (Blk wr (w.heap.size + 1) 27 (boolsV (boolsL (allL l).1)).toArray) := H2
      go_wp2_with (first
        | (refine wpList_load_blk rfl 27 (.tmp 3) rfl rfl H2.out Try.underlying27 rfl (bools_size hl) ?_)
        | (refine wpList_store_blk rfl 27 (.tmp 2) (.tmp 19) rfl rfl rfl H1.out (by rw [boolsV_size, boolsV_size, hl, noneB_length]) (bools_size hl) (boolsV_one _) ?_))
      exact bodyPost_ret (results_cell_row rfl _ _ w.heap.size _ _ (0, 0) _ rfl (H1.out.setRow _) Try.underlying27 rfl (bools_size hl)) rfl ⟨rfl, Ext.setRow HX.out (Nat.le_refl _) _⟩
end Go.Proofs.Ytjbacmhkmofpkaa
