/- DiskNobody: the law's walk. -/
import Derived.Test.YtfipfljiohdlhaaDmC
import Derived.Test.YtfipfljiohdlhaaDmG
import Derived.Test.YtfipfljiohdlhaaMgV
namespace Go.Proofs.Ytfipfljiohdlhaa
set_option linter.unusedVariables false
set_option linter.unusedSimpArgs false
open Go.RowKit
attribute [local go_sem] S_size S_toList S_append S_extract S_beq S_bne S_empty S_nil

theorem act_info (a : ActD) : (Try.prog.info? 29).map (·.size) = some (actC a).toArray.size := by kernel_rfl
theorem act_bs {w0 : World} {a : ActD} (h : ActW w0 a) (w : World) : (Instr.buildSlice 22 1 #[(0, .agg (actC a).toArray)]).run Try.prog w = .ok (.slice (some ⟨w.heap.size, 0, none⟩) 1 1) (w.alloc (.cells (actC a).toArray 29)) := by
  obtain ⟨kind, n, s, t, dir, vc, vm, cuts, marks⟩ := a
  obtain ⟨va, c, hvc, _⟩ := h.cuts
  obtain ⟨vb, c', hvm, _⟩ := h.marks
  dsimp only at hvc hvm
  subst hvc
  subst hvm
  kernel_rfl
theorem act_rr {w : World} {g : Nat} {a : ActD} {t : TypeId} (h : Blk w g t (actC a).toArray) : RR actC 7 w (.slice (some ⟨g, 0, none⟩) 1 1) [a] := by
  refine ⟨_, _, rfl, by simp, (fun e => by cases e), fun _ => ⟨g, 0, rfl, fun k x hk j u hu => ?_⟩⟩
  match k, hk with
  | 0, hk =>
    injection hk with hk
    subst hk
    simp only [Nat.zero_mul, Nat.zero_add]
    rw [h.cell]
    simpa using hu
/-- the worlds of the loop -/
def NobS (w wr : World) (L : Array Value) : Prop := Ext w wr ∧ Blk wr w.heap.size 29 L ∧ wr.cell? ⟨w.heap.size + 1 + 1, 7, none⟩ = some (.bool false) ∧ wr.cell? ⟨w.heap.size + 1 + 1 + 1, 0, none⟩ = some (.pointer none) ∧ wr.cell? ⟨w.heap.size + 1 + 1 + 1, 1, none⟩ = some (.pointer (some ⟨w.heap.size + 1 + 1, 0, none⟩))
theorem NobS.ext {w wr w' : World} {L : Array Value} (h : NobS w wr L) (x : Ext wr w') : NobS w w' L :=
  ⟨h.1.trans x, h.2.1.ext x, Go.cell_later x h.2.2.1, Go.cell_later x h.2.2.2.1, Go.cell_later x h.2.2.2.2⟩
theorem NobS.at {w wr : World} {L : Array Value} (h : NobS w wr L) {k : Nat} (hk : k < 2) : ∃ p, wr.cell? ⟨w.heap.size + 1 + 1 + 1, k, none⟩ = some (.pointer p) ∧ NoD wr p := by
  obtain rfl | rfl : k = 0 ∨ k = 1 := by omega
  · exact ⟨_, h.2.2.2.1, .inl rfl⟩
  · exact ⟨_, h.2.2.2.2, .inr ⟨_, rfl, h.2.2.1⟩⟩
theorem NobS.start (w : World) (L : Array Value) : NobS w ((((w.alloc (.cells L 29)).alloc (.cells L 29)).alloc (.cells #[.map none, .map none, .slice none 0 0, .int .i64 0, .int .i64 0, .int .i64 0, .bool false, .bool false] 53)).alloc (.cells #[.pointer none, .pointer (some ⟨w.heap.size + 1 + 1, 0, none⟩)] 31)) L := by
  have b2 := Blk.new ((w.alloc (.cells L 29)).alloc (.cells L 29)) 53 #[.map none, .map none, .slice none 0 0, .int .i64 0, .int .i64 0, .int .i64 0, .bool false, .bool false]
  have b3 := Blk.new (((w.alloc (.cells L 29)).alloc (.cells L 29)).alloc (.cells #[.map none, .map none, .slice none 0 0, .int .i64 0, .int .i64 0, .int .i64 0, .bool false, .bool false] 53)) 31 #[.pointer none, .pointer (some ⟨w.heap.size + 1 + 1, 0, none⟩)]
  simp only [World.size_alloc] at b2 b3
  exact ⟨((((Ext.refl w).alloc _).alloc _).alloc _).alloc _, (((Blk.new w _ L).alloc _).alloc _).alloc _, (b2.alloc _).cell 7, b3.cell 0, b3.cell 1⟩
set_option maxRecDepth 20000 in
set_option maxHeartbeats 4000000 in
theorem diskNobody_law (a : ActD) (w : World) (ha : ActW w a) :
    Calls Try.prog 5 #[.agg (actC a).toArray] w fun e w' => e = .returned (.bool true) ∧ Ext w w' := by
  have QA := Lib.hid awake_any
  have X0 := Lib.hid ((Ext.refl w).alloc (.cells (actC a).toArray 29))
  have B0 := Lib.hid (Blk.new w 29 (actC a).toArray)
  have SZ := Lib.hid (act_info a)
  have BS := act_bs ha
  have QF := Lib.hid (fun (w1 : World) (x : Ext w w1) (v : Value) (h : RR actC 7 w1 v [a]) => few_any h (fun y hy => by rw [List.mem_singleton] at hy; subst hy; exact ha.ext x) (by simp))
  have RRN := Lib.hid (fun (w1 : World) => act_rr (a := a) (Blk.new w1 29 (actC a).toArray))
  have C0 := Lib.hid (show (actC a).toArray[0]? = some (.int .i64 a.kind) from rfl)
  have C2 := Lib.hid (show (actC a).toArray[2]? = some (.string (S a.s)) from rfl)
  have QD := Lib.hid (fun (w1 : World) (p : Option Addr) (h : NoD w1 p) (hk : 0 ≤ a.kind ∧ a.kind ≤ 9) => show Calls Try.prog 9 #[.pointer p, .agg (actC a).toArray] w1 _ from no_do h a.kind a.n a.s a.t a.dir a.vc a.vm hk)
  generalize a.kind = kind at *
  generalize a.s = s at *
  generalize (actC a).toArray = L at *
  clear ha
  by_cases hf : FewA [a]
  case neg =>
    rw [decide_eq_false hf] at QF
    have QF := Lib.hid (QF.out _ (X0.out.alloc (.cells L 29)) _ (RRN.out _))
    rw [World.size_alloc] at QF
    clear hf
    go_enter Try.func5, Try.ntmps5
    go_wp2_with (refine wpList_load_blk rfl 29 (.tmp 1) rfl rfl B0.out Try.underlying29 rfl SZ.out ?_; refine Held.go ?_)
    refine ⟨?_⟩
    go_wp2_with (refine wpList_bs (vs := #[(0, .agg L)]) rfl 22 1 _ rfl rfl (BS _) ?_; refine Held.go ?_)
    refine ⟨?_⟩
    go_wp2_with fail
    refine QF.out.mono ?_
    rintro _ w1 ⟨rfl, rfl⟩
    go_wp2_with fail
    refine (QA.out _).mono ?_
    rintro _ w2 ⟨rfl, x2⟩
    go_wp2
    go_ret
    exact ⟨rfl, (X0.out.alloc _).trans x2⟩
  case pos =>
    rw [decide_eq_true hf] at QF
    have QF := Lib.hid (QF.out _ (X0.out.alloc (.cells L 29)) _ (RRN.out _))
    rw [World.size_alloc] at QF
    clear hf
    go_enter Try.func5, Try.ntmps5
    go_wp2_with (refine wpList_load_blk rfl 29 (.tmp 1) rfl rfl B0.out Try.underlying29 rfl SZ.out ?_; refine Held.go ?_)
    refine ⟨?_⟩
    go_wp2_with (refine wpList_bs (vs := #[(0, .agg L)]) rfl 22 1 _ rfl rfl (BS _) ?_; refine Held.go ?_)
    refine ⟨?_⟩
    go_wp2_with fail
    refine QF.out.mono ?_
    rintro _ w1 ⟨rfl, rfl⟩
    go_wp2_with fail
    go_loopw [5] (fun i wr => ∃ k : Nat, i = .int .i64 (k : Int) ∧ k ≤ 2 ∧ NobS w wr L) (fun i _ => 2 - (intOf i).toNat)
    case atStart => exact ⟨0, rfl, by omega, NobS.start w L⟩
    case round =>
      obtain ⟨k, rfl, hk, hx⟩ := hrel
      have HX := Lib.hid hx
      clear hx
      by_cases hlt : k < 2
      · have hI : (k : Int) < 2 := by omega
        obtain ⟨p, cp, np⟩ := HX.out.at hlt
        have N := Lib.hid np
        have G := Lib.hid (Ext.refl wr)
        have c2 : wr.cell? ⟨w.heap.size, 2, none⟩ = some (.string (S s)) := (HX.out.2.1.cell 2).trans C2.out
        have HKM := Lib.hid hlt
        clear np hlt hk
        by_cases k0 : kind < 0
        · clear QD
          go_wp2_with fail
          refine (Calls.mono (no_read N.out s) ?_)
          rintro _ w4 ⟨rfl, x4⟩
          have N := Lib.hid (N.out.ext x4)
          have G := Lib.hid (G.out.trans x4)
          have B4 := Lib.hid (HX.out.2.1.ext G.out)
          have c0 : w4.cell? ⟨w.heap.size, 0, none⟩ = some (.int .i64 kind) := (B4.out.cell 0).trans C0.out
          clear x4 c2 cp
          go_wp2_with fail
          refine (Calls.mono (no_list N.out) ?_)
          rintro _ w5 ⟨rfl, x5⟩
          have N := Lib.hid (N.out.ext x5)
          have G := Lib.hid (G.out.trans x5)
          clear x5
          go_wp2_with fail
          refine (Calls.mono (no_used N.out) ?_)
          rintro _ w5 ⟨rfl, x5⟩
          have N := Lib.hid (N.out.ext x5)
          have G := Lib.hid (G.out.trans x5)
          clear x5
          go_wp2_with fail
          refine (Calls.mono (no_capacity N.out) ?_)
          rintro _ w5 ⟨rfl, x5⟩
          have N := Lib.hid (N.out.ext x5)
          have G := Lib.hid (G.out.trans x5)
          clear x5
          go_wp2_with fail
          refine (Calls.mono (no_pending N.out) ?_)
          rintro _ w5 ⟨rfl, x5⟩
          have N := Lib.hid (N.out.ext x5)
          have G := Lib.hid (G.out.trans x5)
          clear x5
          go_wp2_with fail
          refine (Calls.mono (no_ops N.out) ?_)
          rintro _ w5 ⟨rfl, x5⟩
          have N := Lib.hid (N.out.ext x5)
          have G := Lib.hid (G.out.trans x5)
          clear x5
          go_wp2_with fail
          refine (Calls.mono (no_on N.out) ?_)
          rintro _ w5 ⟨rfl, x5⟩
          have N := Lib.hid (N.out.ext x5)
          have G := Lib.hid (G.out.trans x5)
          clear x5
          go_wp2
          go_roundw
          case rel => exact ⟨k + 1, by go_num, by have := HKM.out; omega, HX.out.ext G.out⟩
          case measure => simp [intOf]; have := HKM.out; omega
        by_cases k9 : 9 < kind
        · clear QD
          go_wp2_with fail
          refine (Calls.mono (no_read N.out s) ?_)
          rintro _ w4 ⟨rfl, x4⟩
          have N := Lib.hid (N.out.ext x4)
          have G := Lib.hid (G.out.trans x4)
          have B4 := Lib.hid (HX.out.2.1.ext G.out)
          have c0 : w4.cell? ⟨w.heap.size, 0, none⟩ = some (.int .i64 kind) := (B4.out.cell 0).trans C0.out
          clear x4 c2 cp
          go_wp2_with fail
          refine (Calls.mono (no_list N.out) ?_)
          rintro _ w5 ⟨rfl, x5⟩
          have N := Lib.hid (N.out.ext x5)
          have G := Lib.hid (G.out.trans x5)
          clear x5
          go_wp2_with fail
          refine (Calls.mono (no_used N.out) ?_)
          rintro _ w5 ⟨rfl, x5⟩
          have N := Lib.hid (N.out.ext x5)
          have G := Lib.hid (G.out.trans x5)
          clear x5
          go_wp2_with fail
          refine (Calls.mono (no_capacity N.out) ?_)
          rintro _ w5 ⟨rfl, x5⟩
          have N := Lib.hid (N.out.ext x5)
          have G := Lib.hid (G.out.trans x5)
          clear x5
          go_wp2_with fail
          refine (Calls.mono (no_pending N.out) ?_)
          rintro _ w5 ⟨rfl, x5⟩
          have N := Lib.hid (N.out.ext x5)
          have G := Lib.hid (G.out.trans x5)
          clear x5
          go_wp2_with fail
          refine (Calls.mono (no_ops N.out) ?_)
          rintro _ w5 ⟨rfl, x5⟩
          have N := Lib.hid (N.out.ext x5)
          have G := Lib.hid (G.out.trans x5)
          clear x5
          go_wp2_with fail
          refine (Calls.mono (no_on N.out) ?_)
          rintro _ w5 ⟨rfl, x5⟩
          have N := Lib.hid (N.out.ext x5)
          have G := Lib.hid (G.out.trans x5)
          clear x5
          go_wp2
          go_roundw
          case rel => exact ⟨k + 1, by go_num, by have := HKM.out; omega, HX.out.ext G.out⟩
          case measure => simp [intOf]; have := HKM.out; omega
        go_wp2_with fail
        refine (Calls.mono (no_read N.out s) ?_)
        rintro _ w4 ⟨rfl, x4⟩
        have N := Lib.hid (N.out.ext x4)
        have G := Lib.hid (G.out.trans x4)
        have B4 := Lib.hid (HX.out.2.1.ext G.out)
        have c0 : w4.cell? ⟨w.heap.size, 0, none⟩ = some (.int .i64 kind) := (B4.out.cell 0).trans C0.out
        clear x4 c2 cp
        go_wp2_with (refine wpList_load_blk_g (by kernel_rfl) 29 (.tmp 1) rfl rfl B4.out Try.underlying29 rfl SZ.out ?_; refine Held.go ?_)
        refine ⟨?_⟩
        go_wp2_with fail
        refine (Calls.mono (QD.out _ _ N.out ⟨by omega, by omega⟩) ?_)
        rintro _ w5 ⟨rfl, x5⟩
        have N := Lib.hid (N.out.ext x5)
        have G := Lib.hid (G.out.trans x5)
        clear x5 c0
        go_wp2_with fail
        refine (Calls.mono (no_list N.out) ?_)
        rintro _ w5 ⟨rfl, x5⟩
        have N := Lib.hid (N.out.ext x5)
        have G := Lib.hid (G.out.trans x5)
        clear x5
        go_wp2_with fail
        refine (Calls.mono (no_used N.out) ?_)
        rintro _ w5 ⟨rfl, x5⟩
        have N := Lib.hid (N.out.ext x5)
        have G := Lib.hid (G.out.trans x5)
        clear x5
        go_wp2_with fail
        refine (Calls.mono (no_capacity N.out) ?_)
        rintro _ w5 ⟨rfl, x5⟩
        have N := Lib.hid (N.out.ext x5)
        have G := Lib.hid (G.out.trans x5)
        clear x5
        go_wp2_with fail
        refine (Calls.mono (no_pending N.out) ?_)
        rintro _ w5 ⟨rfl, x5⟩
        have N := Lib.hid (N.out.ext x5)
        have G := Lib.hid (G.out.trans x5)
        clear x5
        go_wp2_with fail
        refine (Calls.mono (no_ops N.out) ?_)
        rintro _ w5 ⟨rfl, x5⟩
        have N := Lib.hid (N.out.ext x5)
        have G := Lib.hid (G.out.trans x5)
        clear x5
        go_wp2_with fail
        refine (Calls.mono (no_on N.out) ?_)
        rintro _ w5 ⟨rfl, x5⟩
        have N := Lib.hid (N.out.ext x5)
        have G := Lib.hid (G.out.trans x5)
        clear x5
        go_wp2
        go_roundw
        case rel => exact ⟨k + 1, by go_num, by have := HKM.out; omega, HX.out.ext G.out⟩
        case measure => simp [intOf]; have := HKM.out; omega
      · obtain rfl : k = 2 := by omega
        clear hk
        go_wp2_with fail
        refine (QA.out _).mono ?_
        rintro _ w2 ⟨rfl, x2⟩
        go_wp2
        go_ret
        exact ⟨rfl, HX.out.1.trans x2⟩
end Go.Proofs.Ytfipfljiohdlhaa
