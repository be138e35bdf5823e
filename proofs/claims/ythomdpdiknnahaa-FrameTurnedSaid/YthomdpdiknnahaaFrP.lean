/- FrameTurned: the law's walk. -/
import Derived.Test.YthomdpdiknnahaaFrO
namespace Go.Proofs.Ythomdpdiknnahaa
set_option linter.unusedVariables false
set_option linter.unusedSimpArgs false
open Go.RowKit
attribute [local go_sem] S_size S_toList S_append S_extract S_beq S_bne S_empty S_nil frame_zero u8_xor8

theorem u8_of_int (n : Int) (h : 0 ≤ n ∧ n < 256) : ∃ c : UInt8, n = U8 c := by
  refine ⟨UInt8.ofNat n.toNat, ?_⟩
  show n = ((UInt8.ofNat n.toNat).toNat : Int)
  rw [UInt8.toNat_ofNat']; omega
set_option maxRecDepth 20000 in
set_option maxHeartbeats 8000000 in
theorem frameTurned_out (l : List UInt8) (a : Int) (y : Int) (w : World)
    (h : (5000 : Int) < (l.length : Int) ∨ (¬ (5000 : Int) < (l.length : Int) ∧ a < 0) ∨ (¬ (5000 : Int) < (l.length : Int) ∧ ¬ a < 0 ∧ (l.length : Int) + 3 < a) ∨ (¬ (5000 : Int) < (l.length : Int) ∧ ¬ a < 0 ∧ ¬ (l.length : Int) + 3 < a ∧ y = 0)) :
    Calls Try.prog 7 #[.string (S l), .int .i64 a, .int .u8 y] w fun e w' => e = .returned (.bool true) ∧ Ext w w' := by
  rcases h with h1 | ⟨h1, h2⟩ | ⟨h1, h2, h3⟩ | ⟨h1, h2, h3, h4⟩
  case inr.inr.inr =>
    subst h4
    have W := w64_small (n := (l.length : Int) + 3) (by omega) (by omega)
    go_enter Try.func7, Try.ntmps7
    go_wp2_with fail
    refine (awake16 _).mono ?_
    rintro e w' ⟨rfl, hx⟩
    go_wp2
    go_ret
    exact ⟨rfl, hx⟩
  case inr.inr.inl =>
    have W := w64_small (n := (l.length : Int) + 3) (by omega) (by omega)
    go_enter Try.func7, Try.ntmps7
    go_wp2_with fail
    refine (awake16 _).mono ?_
    rintro e w' ⟨rfl, hx⟩
    go_wp2
    go_ret
    exact ⟨rfl, hx⟩
  all_goals
    go_enter Try.func7, Try.ntmps7
    go_wp2_with fail
    refine (awake16 _).mono ?_
    rintro e w' ⟨rfl, hx⟩
    go_wp2
    go_ret
    exact ⟨rfl, hx⟩
set_option maxRecDepth 20000 in
set_option maxHeartbeats 8000000 in
theorem frameTurned_in (l : List UInt8) (a : Nat) (y : UInt8) (w : World) (h1 : ¬ (5000 : Int) < (l.length : Int)) (h2 : a ≤ l.length + 3) (h3 : y ≠ 0) :
    Calls Try.prog 7 #[.string (S l), .int .i64 (a : Int), .int .u8 (U8 y)] w fun e w' => e = .returned (.bool true) ∧ Ext w w' := by
  have hE : putE 3 l.length = 0 := by unfold putE; rw [if_pos (by decide), if_pos (by omega)]
  have q1 := fun w => fPut_any 3 l w (by omega)
  unfold putB at q1
  rw [if_pos hE, hE] at q1
  have hfl := frameB_length 3 l
  have hne : (frameB 3 l).getD (5 + a) 0 ^^^ y ≠ (frameB 3 l).getD (5 + a) 0 := fun e => h3 (by
    have := congrArg (fun x => (frameB 3 l).getD (5 + a) 0 ^^^ x) e
    simpa [← UInt8.xor_assoc] using this)
  have ht := frame_turned l (by omega) a h2 _ hne
  have q2 := fun w => fGet_any ((frameB 3 l).set (5 + a) ((frameB 3 l).getD (5 + a) 0 ^^^ y)) 0 w (by rw [List.length_set, hfl]; omega)
  rw [ht] at q2
  have hb := bytes_of_str
  have W1 := w64_small (n := (l.length : Int) + 3) (by omega) (by omega)
  have W2 := w64_small (n := (l.length : Int) + 9) (by omega) (by omega)
  have W3 := w64_small (n := 5 + (a : Int)) (by omega) (by omega)
  have hy : (U8 y == 0) = false := by
    rw [beq_eq_false_iff_ne]
    intro e
    exact h3 (UInt8.toNat_inj.1 (by have e : (y.toNat : Int) = 0 := e; show y.toNat = 0; omega))
  clear ht hne hE
  generalize hfb : frameB 3 l = fb at *
  clear hfb
  have hlen : (fb.length : Int) = (l.length : Int) + 9 := by omega
  have hls : ((fb.set (5 + a) (fb.getD (5 + a) 0 ^^^ y)).length) = fb.length := List.length_set
  generalize hfs : fb.set (5 + a) (fb.getD (5 + a) 0 ^^^ y) = fs at *
  have HFS := Lib.hid hfs
  clear hfs
  generalize getF fs 0 = fr at *
  have Q1 := Lib.hid q1
  have Q2 := Lib.hid q2
  have HB := Lib.hid hb
  have FZ := Lib.hid (show (#[.int .i64 0, .string (S []), .int .i64 0, .int .i64 0] : Array Value).size = (f4C fr).toArray.size from rfl)
  have FS := Lib.hid (show (Try.prog.info? 31).map (·.size) = some (f4C fr).toArray.size from frame_size)
  have FO := Lib.hid (f4C_all fr)
  generalize (f4C fr).toArray = fA at *
  clear q1 q2 hb
  go_enter Try.func7, Try.ntmps7
  go_wp2_with fail
  refine (Q1.out _).mono ?_
  rintro _ w1 ⟨rfl, x1⟩
  obtain ⟨cap, w2, hcap, hrun, x2, hB, hz⟩ := HB.out w1 fb
  have hc := hB.cell (5 + a) (by omega)
  have hf := hB.free (5 + a) (by omega)
  have hB2 := hB.set_ (5 + a) (by omega) (fb.getD (5 + a) 0 ^^^ y)
  rw [HFS.out] at hB2
  have hcv := str_of_bytes _ w1.heap.size cap _ hB2 (l.length + 9) (hls.trans hfl)
  have X2 := Lib.hid (x1.trans x2)
  have HZ := Lib.hid (show w.heap.size ≤ w1.heap.size from x1.size)
  clear hB hB2 x1 x2 HFS
  generalize fb.getD (5 + a) 0 = xb at *
  go_wp2_with fail
  refine (Q2.out _).mono ?_
  rintro _ w3 ⟨rfl, x3⟩
  have X3 := Lib.hid (((X2.out.set (p := ⟨w1.heap.size, 5 + a, none⟩) HZ.out _).trans x3).alloc (.cells fA 31))
  clear x3 X2 hcv hc hf hrun
  go_wp2_with (refine wpList_store_new (cs' := fA) rfl 31 (.tmp 10) (.tmp 60) rfl rfl rfl FZ.out FS.out FO.out ?_)
  refine (awake16 _).mono ?_
  rintro e w4 ⟨rfl, x4⟩
  go_wp2
  go_ret
  exact ⟨rfl, X3.out.trans x4⟩
theorem frameTurned_law (s : ByteArray) (hs : s.size ≤ maxLen) (a : Int) (ha : (Lit.int .i64 a).wf = true) (b : Int) (hb : (Lit.int .u8 b).wf = true) (w : World) :
    Calls Try.prog 7 #[.string s, .int .i64 a, .int .u8 b] w fun e w' => e = .returned (.bool true) ∧ Ext w w' := by
  obtain ⟨l, rfl, _⟩ := S_ex s
  have hx : 0 ≤ b ∧ b ≤ 255 := by simpa [Lit.wf, IntKind.min, IntKind.max, IntKind.signed, IntKind.bits] using hb
  by_cases h1 : (5000 : Int) < (l.length : Int)
  · exact frameTurned_out l a b w (.inl h1)
  by_cases h2 : a < 0
  · exact frameTurned_out l a b w (.inr (.inl ⟨h1, h2⟩))
  by_cases h3 : (l.length : Int) + 3 < a
  · exact frameTurned_out l a b w (.inr (.inr (.inl ⟨h1, h2, h3⟩)))
  by_cases h4 : b = 0
  · exact frameTurned_out l a b w (.inr (.inr (.inr ⟨h1, h2, h3, h4⟩)))
  obtain ⟨n, rfl⟩ : ∃ n : Nat, a = (n : Int) := ⟨a.toNat, by omega⟩
  obtain ⟨y, rfl⟩ := u8_of_int b (by omega)
  exact frameTurned_in l n y w h1 (by omega) (fun e => h4 (by rw [e]; rfl))
end Go.Proofs.Ythomdpdiknnahaa
