/- gram: fold, Both. -/
import Derived.Test.YtjbacmhkmofpkaaGramC
import Derived.Test.YtjbacmhkmofpkaaWide
namespace Go.Proofs.Ytjbacmhkmofpkaa
set_option linter.unusedVariables false
set_option linter.unusedSimpArgs false
open Go.RowKit

/-- four words -/
abbrev W4 := {m : List UInt64 // m.length = 4}
def cells4 (m : W4) : List Value := wordsL m.1
theorem cells4_length (m : W4) : (cells4 m).length = 4 := by simp [cells4, wordsL, m.2]
theorem cells4_one (m : W4) : ∀ u ∈ cells4 m, u.oneCell' = true := by
  intro u hu
  obtain ⟨x, _, rfl⟩ := List.mem_map.1 hu
  rfl
/-- a slice of marks that the call has made -/
def MW (w : World) (B : Nat) (v : Value) (l : List W4) : Prop := WR cells4 4 w B 29 v l
def union4 (a b : W4) : W4 := ⟨unionL a.1 b.1, unionL_length _ _⟩
def empty4 : W4 := ⟨emptyL, rfl⟩
def foldL (ms : List W4) : W4 := ms.foldl union4 empty4

set_option maxRecDepth 20000 in
set_option maxHeartbeats 2000000 in
theorem fold_any (ms : List W4) (v : Value) (B : Nat) (w : World) (hv : MW w B v ms) (hl : (ms.length : Int) ≤ 1000000000) :
    Calls Try.prog 28 #[v, .func (.func 29) #[] #[]] w fun e w' => e = .returned (MV (foldL ms).1) ∧ Ext w w' := by
  obtain ⟨n, hn⟩ : ∃ n, n = ms.length := ⟨_, rfl⟩
  obtain ⟨a, c, rfl, hc, hs⟩ := WR.shape cells4_length hv
  rw [← hn] at hl hs ⊢
  have hN := Lib.hid hn
  clear hc hv hn
  have b1 : Blk ((w.alloc (.cells #[.int .u64 0, .int .u64 0, .int .u64 0, .int .u64 0] 29)).alloc (.cells #[.int .u64 0, .int .u64 0, .int .u64 0, .int .u64 0] 29)) w.heap.size 29 (wordsL emptyL).toArray := (Blk.new w _ _).alloc _
  have b2 : Blk ((w.alloc (.cells #[.int .u64 0, .int .u64 0, .int .u64 0, .int .u64 0] 29)).alloc (.cells #[.int .u64 0, .int .u64 0, .int .u64 0, .int .u64 0] 29)) (w.heap.size + 1) 29 (wordsL (foldL (ms.take 0)).1).toArray := by
    have := Blk.new (w.alloc (.cells #[.int .u64 0, .int .u64 0, .int .u64 0, .int .u64 0] 29)) 29 #[.int .u64 0, .int .u64 0, .int .u64 0, .int .u64 0]
    rw [World.size_alloc] at this; exact this
  have B1 := Lib.hid b1
  have B2 := Lib.hid b2
  have HS := Lib.hid hs
  clear b1 b2 hs
  go_enter Try.func28, Try.ntmps28
  go_wp2_with fail
  go_loopw [10] (fun i wr => ∃ k : Nat, i = .int .i64 k ∧ k ≤ n ∧ Ext w wr ∧ Blk wr w.heap.size 29 (wordsL emptyL).toArray ∧ Blk wr (w.heap.size + 1) 29 (wordsL (foldL (ms.take k)).1).toArray) (fun i _ => n - (intOf i).toNat)
  case atStart => exact ⟨0, rfl, by omega, ((Ext.refl _).alloc _).alloc _, B1.out, B2.out⟩
  case round =>
    obtain ⟨k, rfl, hk, hx, h1, h2⟩ := hrel
    have HX := Lib.hid hx
    have H1 := Lib.hid h1
    have H2 := Lib.hid h2
    by_cases hlt : k < n
    · obtain ⟨g, rfl, _, hg, hcells, _⟩ := HS.out (by omega)
      obtain ⟨m, hm⟩ : ∃ m, ms[k]? = some m := ⟨_, List.getElem?_eq_getElem (by have := hN.out; omega)⟩
      have R := Lib.hid (rangeAt_ext (hcells k m hm) hx)
      have hlt' : (k : Int) < n := by omega
      have ht : union4 (foldL (ms.take k)) m = foldL (ms.take (k + 1)) := by
        rw [List.take_add_one, hm, Option.toList_some, foldL, foldL, List.foldl_append]; rfl
      clear hx h1 h2 hcells
      generalize foldL (ms.take k) = s at *
      go_wp2_with (first
        | (refine wpList_load_mid rfl 29 (.tmp 12) rfl g (k * 4) rfl (cells4 m) _ R.out Try.underlying29 rfl (by rw [cells4_length]; kernel_rfl) ?_)
        | (refine wpList_store_new rfl 29 (.tmp 7) (.tmp 13) rfl rfl rfl (cells4_length m).symm (marks_size m.2) (wordsL_one _) ?_)
        | (refine wpList_load_blk rfl 29 (.tmp 5) rfl rfl (H2.out.alloc _) Try.underlying29 rfl (marks_size s.2) ?_)
        | (refine wpList_load_blk rfl 29 (.tmp 7) rfl rfl (Blk.new wr _ _) Try.underlying29 rfl (marks_size m.2) ?_))
      refine (union_any s.1 m.1 _ s.2 m.2).mono ?_
      rintro e w1 ⟨rfl, x1⟩
      have e1 := Lib.hid ((H1.out.alloc (.cells (cells4 m).toArray 29)).ext x1)
      have e2 := Lib.hid ((H2.out.alloc (.cells (cells4 m).toArray 29)).ext x1)
      have e3 := Lib.hid ((HX.out.alloc (.cells (cells4 m).toArray 29)).trans x1)
      clear x1
      unfold MV
      go_wp2_with (first
        | (refine wpList_store_blk rfl 29 (.tmp 5) (.tmp 17) rfl rfl rfl e2.out (by rw [wordsL_size, wordsL_size, unionL_length, s.2]) (marks_size (unionL_length _ _)) (wordsL_one _) ?_))
      go_roundw
      case rel =>
        have hu : unionL s.1 m.1 = (foldL (ms.take (k + 1))).1 := congrArg Subtype.val ht
        exact ⟨k + 1, by go_num, by omega, Ext.setRow e3.out (Nat.le_add_right _ _) _, e1.out.setRow_far (Nat.ne_of_lt (Nat.lt_succ_self _)) _, hu ▸ e2.out.setRow _⟩
      case measure => simp [intOf]; omega
    · obtain rfl : k = n := by omega
      have hms : ms.take k = ms := List.take_of_length_le (by have := hN.out; omega)
      rw [hms] at H2
      clear hx h1 h2 hk hlt
      go_wp2_with (first
        | (refine wpList_load_blk rfl 29 (.tmp 5) rfl rfl H2.out Try.underlying29 rfl (marks_size (foldL ms).2) ?_)
        | (refine wpList_store_blk rfl 29 (.tmp 4) (.tmp 19) rfl rfl rfl H1.out (by rw [wordsL_size, wordsL_size, (foldL ms).2]; rfl) (marks_size (foldL ms).2) (wordsL_one _) ?_))
      exact bodyPost_ret (results_cell_row rfl _ _ w.heap.size _ _ (0, 0) _ rfl (H1.out.setRow _) Try.underlying29 rfl (marks_size (foldL ms).2)) rfl ⟨rfl, Ext.setRow HX.out (Nat.le_refl _) _⟩

set_option maxRecDepth 20000 in
set_option maxHeartbeats 2000000 in
theorem both_any (ms : List W4) (v : Value) (B : Nat) (w : World) (hv : MW w B v ms) (hl : (ms.length : Int) ≤ 1000000000) :
    Calls Try.prog 10 #[v] w fun e w' => e = .returned (MV (foldL ms).1) ∧ Ext w w' := by
  have q := Lib.hid (fold_any ms v B (w.alloc (.cells #[.int .u64 0, .int .u64 0, .int .u64 0, .int .u64 0] 29)) (WR.alloc hv _) hl)
  have b1 := Lib.hid (Blk.new w 29 #[.int .u64 0, .int .u64 0, .int .u64 0, .int .u64 0])
  clear hv
  generalize foldL ms = s at *
  go_enter Try.func10, Try.ntmps10
  go_wp2_with fail
  refine q.out.mono ?_
  rintro e w1 ⟨rfl, x1⟩
  have e1 := Lib.hid (b1.out.ext x1)
  have e2 := Lib.hid (((Ext.refl w).alloc (.cells #[.int .u64 0, .int .u64 0, .int .u64 0, .int .u64 0] 29)).trans x1)
  clear x1
  unfold MV
  go_wp2_with (first
    | (refine wpList_store_blk rfl 29 (.tmp 2) (.tmp 4) rfl rfl rfl e1.out (by rw [wordsL_size, s.2]; rfl) (marks_size s.2) (wordsL_one _) ?_))
  exact bodyPost_ret (results_cell_row rfl _ _ w.heap.size _ _ (0, 0) _ rfl (e1.out.setRow _) Try.underlying29 rfl (marks_size s.2)) rfl ⟨rfl, Ext.setRow e2.out (Nat.le_refl _) _⟩
end Go.Proofs.Ytjbacmhkmofpkaa
