/- gram: Of. -/
import Derived.Test.YtjbacmhkmofpkaaGramD
import Derived.Test.YtjbacmhkmofpkaaStr
namespace Go.Proofs.Ytjbacmhkmofpkaa
set_option linter.unusedVariables false
set_option linter.unusedSimpArgs false
open Go.RowKit
attribute [local go_sem] S_size S_toList S_append S_extract S_beq S_bne S_empty S_nil

section
variable {P : Program} {a : Act} {w : World} {K : Act → World → Prop} {Q : Exit → Act → World → Prop} {o : Oper}
/-- a whole array or struct is stored into its block -/
theorem wp_store_blk (ty : TypeId) (x y : Operand) (ho : o.op = .store ty x y)
    {g : Nat} (hx : a.eval x = .pointer (some ⟨g, 0, none⟩)) {t : TypeId} {cs cs' : Array Value} (hy : a.eval y = .agg cs') (hg : Blk w g t cs) (hs : cs.size = cs'.size)
    (hi : (P.info? ty).map (·.size) = some cs'.size) (h1 : cs'.all (·.oneCell') = true)
    (h : K (a.put o.dst undef) (w.setRow g cs')) : o.wp P a w K Q := by
  unfold Oper.wp execOp
  simp only [ho, hx, hy, Instr.storeAt, Instr.sureAddr, Sem.run_bind, Sem.run_pure, Result.andThen_ok, run_storeVar_row w g t ty cs cs' hg hi hs h1]
  exact h
end

def with4 (m : W4) (n : Nat) : W4 := ⟨withL m.1 n, by rw [withL_length, m.2]⟩
/-- the mark of a place -/
def markAt (l : List UInt8) (i : Nat) : Nat := markL (l.getD i 0) (l.getD (i + 1) 0) (l.getD (i + 2) 0)
theorem markAt_lt (l : List UInt8) (i : Nat) : markAt l i < 251 := markL_lt _ _ _
def ofN (l : List UInt8) (k : Nat) : W4 := (List.range k).foldl (fun m i => with4 m (markAt l i)) empty4
def ofL (l : List UInt8) : W4 := ofN l (l.length - 2)
theorem ofN_succ (l : List UInt8) (k : Nat) : ofN l (k + 1) = with4 (ofN l k) (markAt l k) := by
  rw [ofN, List.range_succ, List.foldl_append]; rfl

set_option maxRecDepth 20000 in
set_option maxHeartbeats 2000000 in
theorem of_any (l : List UInt8) (w : World) (hl : (l.length : Int) ≤ 1000000000) :
    Calls Try.prog 11 #[.string (S l)] w fun e w' => e = .returned (MV (ofL l).1) ∧ Ext w w' := by
  obtain ⟨n, hn⟩ : ∃ n, n = l.length := ⟨_, rfl⟩
  rw [← hn] at hl
  have b1 : Blk ((w.alloc (.cells #[.int .u64 0, .int .u64 0, .int .u64 0, .int .u64 0] 29)).alloc (.cells #[.int .u64 0, .int .u64 0, .int .u64 0, .int .u64 0] 29)) w.heap.size 29 (wordsL emptyL).toArray := (Blk.new w _ _).alloc _
  have b2 : Blk ((w.alloc (.cells #[.int .u64 0, .int .u64 0, .int .u64 0, .int .u64 0] 29)).alloc (.cells #[.int .u64 0, .int .u64 0, .int .u64 0, .int .u64 0] 29)) (w.heap.size + 1) 29 (wordsL (ofN l 0).1).toArray := by
    have := Blk.new (w.alloc (.cells #[.int .u64 0, .int .u64 0, .int .u64 0, .int .u64 0] 29)) 29 #[.int .u64 0, .int .u64 0, .int .u64 0, .int .u64 0]
    rw [World.size_alloc] at this; exact this
  have B1 := Lib.hid b1
  have B2 := Lib.hid b2
  have hN := Lib.hid hn
  have hlen : (l.length : Int) = n := by omega
  clear b1 b2 hn
  go_enter Try.func11, Try.ntmps11
  go_wp2_with fail
  go_loopw [4] (fun i wr => ∃ k : Nat, i = .int .i64 ((k + 2 : Nat) : Int) ∧ k ≤ n - 2 ∧ Ext w wr ∧ Blk wr w.heap.size 29 (wordsL emptyL).toArray ∧ Blk wr (w.heap.size + 1) 29 (wordsL (ofN l k).1).toArray) (fun i _ => n - (intOf i).toNat)
  case atStart => exact ⟨0, rfl, by omega, ((Ext.refl _).alloc _).alloc _, B1.out, B2.out⟩
  case round =>
    obtain ⟨k, rfl, hk, hx, h1, h2⟩ := hrel
    have HX := Lib.hid hx
    have H1 := Lib.hid h1
    have H2 := Lib.hid h2
    clear hx h1 h2
    by_cases hlt : k + 2 < n
    · have hnn := hN.out
      have i0 := fun w => index_S l k (by omega) _ rfl w
      have i1 : ∀ w, (Instr.index 9 (.string (S l)) (.int .i64 ((k : Int) + 1))).run Try.prog w = .ok (.int .u8 (U8 (l.getD (k + 1) 0))) w := fun w => by
        rw [show (k : Int) + 1 = ((k + 1 : Nat) : Int) by omega]; exact index_S l (k + 1) (by omega) _ rfl w
      have i2 : ∀ w, (Instr.index 9 (.string (S l)) (.int .i64 ((k : Int) + 2))).run Try.prog w = .ok (.int .u8 (U8 (l.getD (k + 2) 0))) w := fun w => by
        rw [show (k : Int) + 2 = ((k + 2 : Nat) : Int) by omega]; exact index_S l (k + 2) (by omega) _ rfl w
      have ht := ofN_succ l k
      have hm : markL (l.getD k 0) (l.getD (k + 1) 0) (l.getD (k + 2) 0) = markAt l k := rfl
      have hm2 := markAt_lt l k
      generalize markAt l k = m at *
      generalize l.getD k 0 = c0 at *
      generalize l.getD (k + 1) 0 = c1 at *
      generalize l.getD (k + 2) 0 = c2 at *
      generalize ofN l k = s at *
      have hlt' : (((k + 2 : Nat)) : Int) < n := by omega
      have e0 : IntKind.i64.wrap (k : Int) = (k : Int) := by rw [IntKind.wrap_i64]; omega
      have e1 : IntKind.i64.wrap ((k : Int) + 1) = (k : Int) + 1 := by rw [IntKind.wrap_i64]; omega
      have e2 : IntKind.i64.wrap ((k : Int) + 2 - 1) = (k : Int) + 1 := by rw [IntKind.wrap_i64]; omega
      have q1 := Lib.hid (fun w => (hm ▸ mark_any c0 c1 c2 w : Calls Try.prog 23 #[.int .u8 (U8 c0), .int .u8 (U8 c1), .int .u8 (U8 c2)] w fun e w' => e = .returned (.int .i64 m) ∧ w = w').mono (fun e w' h => (⟨h.1, h.2 ▸ Ext.refl _⟩ : e = .returned (.int .i64 m) ∧ Ext w w')))
      have q2 := Lib.hid (fun w => (show Calls Try.prog 30 #[.agg (wordsL s.1).toArray, .int .i64 m] w fun e w' => e = .returned (.agg (wordsL (with4 s m).1).toArray) ∧ Ext w w' from with_any s.1 m w s.2 (by omega)))
      have Hm := Lib.hid ht
      generalize with4 s m = s' at *
      clear hnn hm hm2 ht
      go_wp2_with fail
      refine wp_region_lex _ rfl (by kernel_rfl) ?_
      dsimp only [List.length_cons, List.length_nil]
      refine lex_load_blk (by kernel_rfl) (by kernel_rfl) (by kernel_rfl) (by kernel_rfl) (fun _ _ _ _ h => h) (by kernel_rfl) 29 (.tmp 3) rfl rfl H2.out Try.underlying29 rfl (marks_size s.2) ?_
      repeat (first
        | (refine lex_want (by kernel_rfl) (by kernel_rfl) (by kernel_rfl) (by kernel_rfl) (fun _ _ _ _ h => h) (by kernel_rfl) (fun K hK => ?_)
           go_simp
           (refine hK _ ?_; clear hK K)))
      repeat (first
        | (refine lex_want (by kernel_rfl) (by kernel_rfl) (by kernel_rfl) (by kernel_rfl) (fun _ _ _ _ h => h) (by kernel_rfl) (fun K hK => ?_)
           go_simp
           (apply Exists.intro
            refine ⟨fun _ => ?_, hK _ ?_⟩
            (first
               | (go_at_call 23; (with_reducible exact q1.out _))
               | (go_at_call 30; (with_reducible exact q2.out _)))
            clear hK K)))
      refine lex_last (by kernel_rfl) (by kernel_rfl) (by kernel_rfl) (by kernel_rfl) (by kernel_rfl) (fun x K hK => ?_)
      have e2 := (H2.out.drew.ext x.ext)
      refine wp_store_blk 29 (.tmp 3) (.tmp 24) rfl rfl rfl e2 (by rw [wordsL_size, wordsL_size, s.2, s'.2]) (marks_size s'.2) (wordsL_one _) (hK _ _ (fun y => ?_))
      have f1 := Lib.hid ((((H1.out.drew.ext x.ext).setRow_far (Nat.ne_of_lt (Nat.lt_succ_self _)) (wordsL s'.1).toArray)).ext y.ext)
      have f2 := Lib.hid ((e2.setRow (wordsL s'.1).toArray).ext y.ext)
      have f3 := Lib.hid ((Ext.setRow (HX.out.drew.trans x.ext) (Nat.le_add_right _ _) (wordsL s'.1).toArray : Ext w (x.val.setRow (w.heap.size + 1) (wordsL s'.1).toArray)).trans y.ext)
      clear hK e2
      go_wp2
      go_roundw
      case rel =>
        refine ⟨k + 1, by go_num, by have := hN.out; omega, f3.out, f1.out, ?_⟩
        rw [Hm.out]; exact f2.out
      case measure => simp [intOf]; omega
    · have hkn : k = l.length - 2 := by have := hN.out; omega
      have H2 : Hid (Blk wr (w.heap.size + 1) 29 (wordsL (ofL l).1).toArray) := by rw [hkn] at H2; exact H2
      clear hkn
      have hk2 : ¬ (((k + 2 : Nat)) : Int) < n := by omega
      go_wp2_with (first
        | (refine wpList_load_blk rfl 29 (.tmp 3) rfl rfl H2.out Try.underlying29 rfl (marks_size (ofL l).2) ?_)
        | (refine wpList_store_blk rfl 29 (.tmp 2) (.tmp 25) rfl rfl rfl H1.out (by rw [wordsL_size, wordsL_size, (ofL l).2]; rfl) (marks_size (ofL l).2) (wordsL_one _) ?_))
      exact bodyPost_ret (results_cell_row rfl _ _ w.heap.size _ _ (0, 0) _ rfl (H1.out.setRow _) Try.underlying29 rfl (marks_size (ofL l).2)) rfl ⟨rfl, Ext.setRow HX.out (Nat.le_refl _) _⟩
end Go.Proofs.Ytjbacmhkmofpkaa
