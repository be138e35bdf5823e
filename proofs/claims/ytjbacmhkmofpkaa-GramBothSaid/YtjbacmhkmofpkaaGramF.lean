/- gram: slices of marks that are written out; May, Count, All. -/
import Derived.Test.YtjbacmhkmofpkaaGramE
namespace Go.Proofs.Ytjbacmhkmofpkaa
set_option linter.unusedVariables false
set_option linter.unusedSimpArgs false
open Go.RowKit
attribute [local go_sem] S_size S_toList S_append S_extract S_beq S_bne S_empty S_nil

theorem four (m : W4) : ∃ a b c d, m.1 = [a, b, c, d] := by
  obtain ⟨l, hl⟩ := m
  match l, hl with
  | [a, b, c, d], _ => exact ⟨a, b, c, d, rfl⟩
theorem run_bs1 (m : W4) (w : World) : (Instr.buildSlice 59 1 #[(0, .agg (wordsL m.1).toArray)]).run Try.prog w = .ok (.slice (some ⟨w.heap.size, 0, none⟩) 1 1) (w.alloc (.cells (wordsL m.1).toArray 29)) := by
  obtain ⟨a, b, c, d, h⟩ := four m
  rw [h]
  kernel_rfl
theorem run_bs2 (m n : W4) (w : World) : (Instr.buildSlice 59 2 #[(0, .agg (wordsL m.1).toArray), (1, .agg (wordsL n.1).toArray)]).run Try.prog w = .ok (.slice (some ⟨w.heap.size, 0, none⟩) 2 2) (w.alloc (.cells ([m, n].flatMap cells4).toArray 29)) := by
  obtain ⟨a, b, c, d, h⟩ := four m
  obtain ⟨a', b', c', d', h'⟩ := four n
  simp only [List.flatMap_cons, List.flatMap_nil, cells4, h, h']
  kernel_rfl
theorem run_bs3 (m n o : W4) (w : World) : (Instr.buildSlice 59 3 #[(0, .agg (wordsL m.1).toArray), (1, .agg (wordsL n.1).toArray), (2, .agg (wordsL o.1).toArray)]).run Try.prog w = .ok (.slice (some ⟨w.heap.size, 0, none⟩) 3 3) (w.alloc (.cells ([m, n, o].flatMap cells4).toArray 29)) := by
  obtain ⟨a, b, c, d, h⟩ := four m
  obtain ⟨a', b', c', d', h'⟩ := four n
  obtain ⟨a2, b2, c2, d2, h2⟩ := four o
  simp only [List.flatMap_cons, List.flatMap_nil, cells4, h, h', h2]
  kernel_rfl
theorem mw_lit (w : World) (l : List W4) (hl : l.length ≤ 1000000000) : MW (w.alloc (.cells (l.flatMap cells4).toArray 29)) w.heap.size (.slice (some ⟨w.heap.size, 0, none⟩) l.length l.length) l :=
  WR.lit cells4_length w _ l hl _ rfl

section
variable {P : Program} {ops : Array Oper} {rest : List Oper} {a : Act} {w w' : World} {K : Act → World → Prop} {Q : Exit → Act → World → Prop} {o : Oper} {v : Value} {vs : Array (Nat × Value)}
/-- a slice that is written out -/
theorem wp_bs (t : TypeId) (n : Nat) (parts : Array (Nat × Operand)) (ho : o.op = .buildSlice t n parts) (hx : (parts.toList.map fun (i, x) => (i, a.eval x)) = vs.toList)
    (hrun : (Instr.buildSlice t n vs).run P w = .ok v w') (h : K (a.put o.dst v) w') : o.wp P a w K Q := by
  have hx : (parts.map fun (i, x) => (i, a.eval x)) = vs := by
    apply Array.ext'
    rw [Array.toList_map]; exact hx
  unfold Oper.wp execOp
  simp only [ho, hx, Sem.run_bind, Sem.run_pure, Result.andThen_ok, hrun]
  exact h
theorem wpList_bs (hgd : o.guard = none) (t : TypeId) (n : Nat) (parts : Array (Nat × Operand)) (ho : o.op = .buildSlice t n parts) (hx : (parts.toList.map fun (i, x) => (i, a.eval x)) = vs.toList)
    (hrun : (Instr.buildSlice t n vs).run P w = .ok v w') (h : wpList P ops Q rest (a.put o.dst v) w') : wpList P ops Q (o :: rest) a w :=
  wpList_plain hgd fun _ hK => wp_bs t n parts ho hx hrun (hK _ _ h)
end

/-- the slice v may be read: these elements, each of s cells -/
def RD {α : Type} (f : α → List Value) (s : Nat) (w : World) (v : Value) (l : List α) : Prop :=
  ∃ a c, v = .slice a l.length c ∧ (0 < l.length → ∃ g o, a = some ⟨g, o, none⟩ ∧ ∀ (k : Nat) (x : α), l[k]? = some x → w.rangeAt g (o + k * s) (f x))
theorem RD.ext {α : Type} {f : α → List Value} {s : Nat} {w w' : World} {v : Value} {l : List α} (h : RD f s w v l) (hx : Ext w w') : RD f s w' v l := by
  obtain ⟨a, c, h1, h2⟩ := h
  refine ⟨a, c, h1, fun hl => ?_⟩
  obtain ⟨g, o, h3, h4⟩ := h2 hl
  exact ⟨g, o, h3, fun k x hk => rangeAt_ext (h4 k x hk) hx⟩
theorem WR.rd {α : Type} {f : α → List Value} {s : Nat} (hf : ∀ x, (f x).length = s) {w : World} {B : Nat} {e : TypeId} {v : Value} {l : List α} (h : WR f s w B e v l) : RD f s w v l := by
  obtain ⟨a, c, h1, _, h2⟩ := h.shape hf
  refine ⟨a, c, h1, fun hl => ?_⟩
  obtain ⟨g, h3, _, _, h4, _⟩ := h2 hl
  exact ⟨g, 0, h3, fun k x hk => by rw [Nat.zero_add]; exact h4 k x hk⟩

/-- a record: its number, its time, its data -/
abbrev Rec := Int × Int × List UInt8
def recCells (r : Rec) : List Value := [.int .i64 r.1, .int .i64 r.2.1, .string (S r.2.2)]
theorem recCells_length (r : Rec) : (recCells r).length = 3 := rfl
def allL (l : List Rec) : W4 := foldL (l.map fun r => ofL r.2.2)

theorem marks_info : (Try.prog.info? 29).map (fun i => (i.zero, i.size, i.bytes)) = some (some (.agg #[.int .u64 0, .int .u64 0, .int .u64 0, .int .u64 0]), 4, 32) := by kernel_rfl
theorem MW.app {w : World} {B : Nat} {v : Value} {l : List W4} (h : MW w B v l) (hB : B ≤ w.heap.size) (x : W4) (hl : l.length ≤ 1000000000) :
    ∃ v' w', (Builtin.append_ #[59, 59] 59 #[v, .slice (some ⟨w.heap.size, 0, none⟩) 1 1]).run Try.prog (w.alloc (.cells (wordsL x.1).toArray 29)) = .ok v' w' ∧ MW w' B v' (l ++ [x]) ∧ Below B w w' ∧ (∀ k, k < w.heap.size → some k ≠ v.ownBlock → w'.heap[k]? = w.heap[k]?) :=
  WR.app cells4_length (by omega) cells4_one h hB (P := Try.prog) (t := 59) Try.underlying59 marks_info rfl x (by omega) (by unfold maxLen; omega)
theorem rec_size (r : Rec) : (Try.prog.info? 57).map (·.size) = some (recCells r).length := by rw [recCells_length]; kernel_rfl

set_option maxRecDepth 20000 in
set_option maxHeartbeats 2000000 in
theorem all_any (l : List Rec) (v : Value) (w : World) (hv : RD recCells 3 w v l) (hl : (l.length : Int) ≤ 1000) (hd : ∀ r ∈ l, (r.2.2.length : Int) ≤ 1000000000) :
    Calls Try.prog 25 #[v] w fun e w' => e = .returned (MV (allL l).1) ∧ Ext w w' := by
  obtain ⟨n, hn⟩ : ∃ n, n = l.length := ⟨_, rfl⟩
  obtain ⟨a, c, rfl, hs⟩ := hv
  rw [← hn] at hl hs ⊢
  have hN := Lib.hid hn
  have HS := Lib.hid hs
  have HD := Lib.hid hd
  have B1 := Lib.hid (Blk.new w 29 #[.int .u64 0, .int .u64 0, .int .u64 0, .int .u64 0])
  clear hn hs hd
  go_enter Try.func25, Try.ntmps25
  go_wp2_with fail
  go_loopw [8, 3] (fun i v wr => ∃ k : Nat, i = .int .i64 k ∧ k ≤ n ∧ Ext w wr ∧ Blk wr w.heap.size 29 (wordsL emptyL).toArray ∧ MW wr (w.heap.size + 1) v ((l.take k).map fun r => ofL r.2.2)) (fun i _ _ => n - (intOf i).toNat)
  case atStart => exact ⟨0, rfl, by omega, (Ext.refl _).alloc _, B1.out, WR.nil _ _ _⟩
  case round =>
    obtain ⟨k, rfl, hk, hx, h1, h2⟩ := hrel
    have HX := Lib.hid hx
    have H1 := Lib.hid h1
    have H2 := Lib.hid h2
    clear hx h1 h2
    have hB : w.heap.size + 1 ≤ wr.heap.size := H1.out.lt
    have HB := Lib.hid hB
    clear hB
    by_cases hlt : k < n
    · obtain ⟨g, o, rfl, hcells⟩ := HS.out (by omega)
      obtain ⟨r, hr⟩ : ∃ r, l[k]? = some r := ⟨_, List.getElem?_eq_getElem (by have := hN.out; omega)⟩
      have R := Lib.hid (rangeAt_ext (hcells k r hr) HX.out)
      have q := Lib.hid (fun w => of_any r.2.2 w (HD.out r (List.mem_of_getElem? hr)))
      have ht : l.take (k + 1) = l.take k ++ [r] := by rw [List.take_add_one, hr, Option.toList_some]
      have HT := Lib.hid ht
      have hz := rec_size r
      have hlt' : (k : Int) < n := by omega
      have hlen : ((l.take k).map fun r => ofL r.2.2).length ≤ 1000 := by rw [List.length_map]; have := List.length_take_le k l; omega
      have HL := Lib.hid hlen
      clear hcells hr ht hlen
      obtain ⟨r1, r2, r3⟩ := r
      have R : Hid (wr.rangeAt g (o + k * 3) [.int .i64 r1, .int .i64 r2, .string (S r3)]) := R
      have hz : (Try.prog.info? 57).map (·.size) = some 3 := hz
      generalize hm : (l.take k).map (fun r => ofL r.2.2) = ms at *
      have HM := Lib.hid hm
      clear hm
      generalize hof : ofL r3 = m at *
      have HOF := Lib.hid hof
      clear hof
      go_wp2_with (first
        | (refine wpList_load_mid rfl 57 (.tmp 10) rfl g (o + k * 3) rfl _ _ R.out Try.underlying57 rfl hz ?_)
        | (refine wpList_store_new (cs' := #[.int .i64 r1, .int .i64 r2, .string (S r3)]) rfl 57 (.tmp 5) (.tmp 11) rfl rfl rfl rfl hz rfl ?_))
      rename_i hnext
      refine (q.out _).mono ?_
      rintro e w1 ⟨rfl, x1⟩
      have e1 := Lib.hid ((H1.out.alloc (.cells #[.int .i64 r1, .int .i64 r2, .string (S r3)] 57)).ext x1)
      have e2 := Lib.hid ((WR.alloc H2.out (.cells #[.int .i64 r1, .int .i64 r2, .string (S r3)] 57)).ext x1)
      have e3 := Lib.hid ((HX.out.alloc (.cells #[.int .i64 r1, .int .i64 r2, .string (S r3)] 57)).trans x1)
      have hB1 : w.heap.size + 1 ≤ w1.heap.size := e1.out.lt
      have HB1 := Lib.hid hB1
      clear x1 hB1
      obtain ⟨v', w', hrun, hm', hb', hk'⟩ := MW.app e2.out HB1.out m (by have := HL.out; omega)
      have hx' : Ext w w' := Below.trans e3.out (Below.mono hb' (Nat.le_succ _))
      have HX' := Lib.hid hx'
      have f1 := Lib.hid (e1.out.below hb' (Nat.lt_succ_self _))
      have f2 := Lib.hid hm'
      clear hm' hb' hk' hx'
      unfold MV
      refine hnext _ _ ?_
      refine wpList_bs (vs := #[(0, .agg (wordsL m.1).toArray)]) rfl 59 1 _ rfl rfl (run_bs1 m _) ?_
      trace "hi"
      go_wp2_with (first
        | (at_builtin; refine wpList_app rfl (.tmp 12) (.tmp 16) 59 rfl rfl rfl rfl hrun ?_))
      go_roundw
      case rel =>
        refine ⟨k + 1, by go_num, by omega, HX'.out, f1.out, ?_⟩
        rw [HT.out, List.map_append, HM.out, List.map_singleton, HOF.out]; exact f2.out
      case measure => simp [intOf]; omega
    · obtain rfl : k = n := by omega
      have hms : (l.take k).map (fun r => ofL r.2.2) = l.map fun r => ofL r.2.2 := by rw [List.take_of_length_le (by have := hN.out; omega)]
      rw [hms] at H2
      have q := Lib.hid (fun w (hx : Ext wr w) => both_any _ _ _ w (WR.ext H2.out hx) (by rw [List.length_map, ← hN.out]; omega))
      clear hms
      go_wp2_with fail
      refine (q.out _ (Ext.refl _)).mono ?_
      rintro e w1 ⟨rfl, x1⟩
      have e1 := Lib.hid (H1.out.ext x1)
      have e3 := Lib.hid (HX.out.trans x1)
      clear x1
      unfold MV
      go_wp2_with (first
        | (refine wpList_store_blk rfl 29 (.tmp 2) (.tmp 20) rfl rfl rfl e1.out (by rw [wordsL_size, wordsL_size, (foldL _).2]; rfl) (marks_size (foldL _).2) (wordsL_one _) ?_))
      exact bodyPost_ret (results_cell_row rfl _ _ w.heap.size _ _ (0, 0) _ rfl (e1.out.setRow _) Try.underlying29 rfl (marks_size (foldL _).2)) rfl ⟨rfl, Ext.setRow e3.out (Nat.le_refl _) _⟩
end Go.Proofs.Ytjbacmhkmofpkaa
