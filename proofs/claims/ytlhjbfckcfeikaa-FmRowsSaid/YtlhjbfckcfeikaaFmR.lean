/- fm's reference: New. -/
import Derived.Test.YtlhjbfckcfeikaaFmQ
namespace Go.Proofs.Ytlhjbfckcfeikaa
set_option linter.unusedVariables false
set_option linter.unusedSimpArgs false
open Go.RowKit
attribute [local go_sem] S_size S_toList

theorem But.setRow {K : List Nat} {a b : World} (h : But K a b) {g : Nat} (hg : g ∈ K) (cs : Array Value) : But K a (b.setRow g cs) :=
  h.trans ⟨rfl, rfl, rfl, by simp, fun k _ hk => setRow_other b g k cs (fun e => hk (e ▸ hg))⟩
theorem IW.but {K : List Nat} {w w' : World} {B : Nat} {v : Value} {l : List Int} (h : IW w B v l) (x : But K w w') (hK : ∀ k ∈ K, k < B) : IW w' B v l := by
  refine ⟨h.1, ?_⟩
  rcases h.2 with hn | ⟨g, cap, cur, rfl, hb, hgg, rest⟩
  · exact .inl hn
  · have hlt : g < w.heap.size := by
      rcases Nat.lt_or_ge g w.heap.size with h1 | h1
      · exact h1
      · rw [Array.getElem?_eq_none h1] at hgg; cases hgg
    exact .inr ⟨g, cap, cur, rfl, hb, (x.block g hlt (fun hm => by have := hK g hm; omega)).trans hgg, rest⟩
theorem rix_size : (Try.prog.info? 33).map (·.size) = some 2 := by kernel_rfl
theorem rix_build0 (w : World) : (Instr.build 33 #[]).run Try.prog w = .ok (.agg #[.string ⟨#[]⟩, .slice none 0 0]) w := by kernel_rfl
theorem rix_build (s : ByteArray) (v : Value) (hv : ∃ a n c, v = .slice a n c) (w : World) : (Instr.build 33 #[(0, .string s), (1, v)]).run Try.prog w = .ok (.agg #[.string s, v]) w := by
  obtain ⟨a, n, c, rfl⟩ := hv
  kernel_rfl

set_option maxRecDepth 20000 in
set_option maxHeartbeats 8000000 in
theorem rnew_no (l : List UInt8) (p : Int) (w : World) (hl : (l.length : Int) ≤ 20000) (h : ¬ (mayP l p = true ∧ okI l p.toNat = true)) :
    Calls Try.prog 9 #[.string (S l), .int .i64 p] w fun e w' => e = .returned (.tuple #[.agg #[.string (S []), .slice none 0 0], .int .i64 130]) ∧ Ext w w' := by
  have RS := Lib.hid rix_size
  have q := fun w => rinverse_any l p w hl
  rw [invE_no h] at q
  have Q := Lib.hid q
  have hb0 := rix_build0
  have X0 := Lib.hid ((Ext.refl w).alloc (.cells #[.string ⟨#[]⟩, .slice none 0 0] 33))
  have B4 := Lib.hid (Blk.new w 33 #[.string ⟨#[]⟩, .slice none 0 0])
  clear q h
  generalize invL l p = t at *
  go_enter Try.func9, Try.ntmps9
  go_wp2_with fail
  refine (Q.out _).mono ?_
  rintro _ w1 ⟨rfl, x1⟩
  have X1 := Lib.hid (X0.out.trans x1)
  have B4 := Lib.hid (B4.out.ext x1)
  clear x1
  go_wp2_with (refine wpList_store_blk rfl 33 (.tmp 4) (.tmp 18) rfl rfl rfl B4.out rfl RS.out (by kernel_rfl) ?_; refine Held.go ?_)
  refine ⟨?_⟩
  go_wp2
  exact bodyPost_ret (results_row_tmp rfl _ _ w.heap.size _ _ (0, 0) _ rfl (B4.out.setRow _) Try.underlying33 rfl RS.out) rfl ⟨rfl, Ext.setRow X1.out (Nat.le_refl _) _⟩

set_option maxRecDepth 20000 in
set_option maxHeartbeats 8000000 in
theorem rnew_ok (l : List UInt8) (q : Nat) (w : World) (hl : (l.length : Int) ≤ 20000) (hm : mayP l (q : Int) = true) (ho : okI l q = true) :
    Calls Try.prog 9 #[.string (S l), .int .i64 (q : Int)] w fun e w' => ∃ av, e = .returned (.tuple #[.agg #[.string (S (txtN l q)), av], .int .i64 0]) ∧ Ext w w' ∧ RI w' av (toI (arrayL (txtN l q))) := by
  have RS := Lib.hid rix_size
  have q1 := fun w => rinverse_any l q w hl
  have e1 : invL l (q : Int) = txtN l q := by unfold invL; rw [if_pos hm]; exact if_pos ho
  have e2 : invE l (q : Int) = 0 := by unfold invE; rw [if_pos hm]; exact if_pos ho
  rw [e1, e2] at q1
  have Q := Lib.hid q1
  have Q2 := Lib.hid (fun w => rarray_any (txtN l q) w (by rw [txt_length]; omega))
  have X0 := Lib.hid ((Ext.refl w).alloc (.cells #[.string ⟨#[]⟩, .slice none 0 0] 33))
  have B4 := Lib.hid (Blk.new w 33 #[.string ⟨#[]⟩, .slice none 0 0])
  have HB := Lib.hid rix_build
  clear q1 hm ho e1 e2
  generalize txtN l q = s at *
  go_enter Try.func9, Try.ntmps9
  go_wp2_with fail
  refine (Q.out _).mono ?_
  rintro _ w1 ⟨rfl, x1⟩
  have X1 := Lib.hid (X0.out.trans x1)
  have B4 := Lib.hid (B4.out.ext x1)
  have HLT := Lib.hid B4.out.lt
  clear x1
  go_wp2_with fail
  refine (Q2.out _).mono ?_
  rintro _ w2 ⟨av, rfl, x2, i2⟩
  have X2 := Lib.hid (X1.out.trans x2)
  have B4 := Lib.hid (B4.out.ext x2)
  obtain ⟨aa, ac, rfl, _, _⟩ := i2.shape
  have hbl := HB.out (S s) (.slice aa (toI (arrayL s)).length ac) ⟨_, _, _, rfl⟩
  have I2 := Lib.hid i2
  clear x2 i2
  go_wp2_with (refine wpList_store_blk rfl 33 (.tmp 4) (.tmp 27) rfl rfl rfl B4.out rfl RS.out (by kernel_rfl) ?_; refine Held.go ?_)
  refine ⟨?_⟩
  have I3 := Lib.hid (I2.out.but ((But.refl [w.heap.size] w2).setRow (List.mem_singleton.2 rfl) #[.string (S s), .slice aa (toI (arrayL s)).length ac]) (fun k hk => by rw [List.mem_singleton.1 hk]; exact HLT.out)).ri
  go_wp2
  exact bodyPost_ret (results_row_tmp rfl _ _ w.heap.size _ _ (0, 0) _ rfl (B4.out.setRow _) Try.underlying33 rfl RS.out) rfl ⟨_, rfl, Ext.setRow X2.out (Nat.le_refl _) _, I3.out⟩
end Go.Proofs.Ytlhjbfckcfeikaa
