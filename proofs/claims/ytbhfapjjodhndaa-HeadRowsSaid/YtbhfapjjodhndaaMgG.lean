/- Several texts in one. merged: TkA TkB HdA HdB HdC HdD HdE -/
import Derived.Test.YtbhfapjjodhndaaMgF
import Derived.Defers
import Derived.Recover
import Derived.Test.YtbhfapjjodhndaaAnyN
import Derived.Test.YtbhfapjjodhndaaEntA
import Derived.Test.YtbhfapjjodhndaaRets
import Derived.Test.YtbhfapjjodhndaaApp3
namespace Go.Proofs.Ytbhfapjjodhndaa
set_option linter.unusedVariables false
set_option linter.unusedSimpArgs false
open Go.RowKit

/-- a taker at a place -/
def TK (w : World) (g : Nat) (s : List UInt8) (a : Int) : Prop := Blk w g 88 #[.string (S s), .int .i64 a]
/-- what a taker panics with -/
def fault (e a : Int) : Value := .iface 70 (.agg #[.int .i64 e, .int .i64 a])
def faultE (e a : Int) : Ending := .panicked [{ v := fault e a, recovered := false }]
theorem TK.c0 {w : World} {g : Nat} {s : List UInt8} {a : Int} (h : TK w g s a) : w.cell? ⟨g, 0, none⟩ = some (.string (S s)) := h.cell 0
theorem TK.c1 {w : World} {g : Nat} {s : List UInt8} {a : Int} (h : TK w g s a) : w.cell? ⟨g, 1, none⟩ = some (.int .i64 a) := h.cell 1
theorem TK.move {w : World} {g : Nat} {s : List UInt8} {a : Int} (h : TK w g s a) (b : Int) : TK (w.setCell ⟨g, 1, none⟩ (.int .i64 b)) g s b := h.set_ 1 (.int .i64 b)
theorem TK.ext {w w' : World} {g : Nat} {s : List UInt8} {a : Int} (h : TK w g s a) (x : Ext w w') : TK w' g s a := Blk.ext h x
theorem TK.lt {w : World} {g : Nat} {s : List UInt8} {a : Int} (h : TK w g s a) : g < w.heap.size := Blk.lt h
attribute [local go_sem] S_size S_toList

set_option maxHeartbeats 4000000 in
theorem tnew_any (s : List UInt8) (w : World) :
    Calls Try.prog 28 #[.string (S s)] w fun e w' => e = .returned (.pointer (some ⟨w.heap.size, 0, none⟩)) ∧ TK w' w.heap.size s 0 ∧ Ext w w' := by
  go_enter Try.func28, Try.ntmps28
  go_wp2
  exact bodyPost_ret (results_tmp rfl _ _ _) rfl ⟨rfl, Blk.new _ _ _, (Ext.refl w).alloc _⟩

set_option maxHeartbeats 4000000 in
theorem ttext_any (g : Nat) (s : List UInt8) (a : Int) (w : World) (h : TK w g s a) :
    Calls Try.prog 45 #[.pointer (some ⟨g, 0, none⟩)] w fun e w' => e = .returned (.string (S s)) ∧ w = w' := by
  have c0 := h.c0
  go_enter Try.func45, Try.ntmps45
  go_wp2
  exact bodyPost_ret (results_tmp rfl _ _ _) rfl ⟨rfl, rfl⟩

set_option maxHeartbeats 4000000 in
theorem tat_any (g : Nat) (s : List UInt8) (a : Int) (w : World) (h : TK w g s a) :
    Calls Try.prog 46 #[.pointer (some ⟨g, 0, none⟩)] w fun e w' => e = .returned (.int .i64 a) ∧ w = w' := by
  have c1 := h.c1
  go_enter Try.func46, Try.ntmps46
  go_wp2
  exact bodyPost_ret (results_tmp rfl _ _ _) rfl ⟨rfl, rfl⟩

set_option maxHeartbeats 4000000 in
theorem tleft_any (g : Nat) (s : List UInt8) (a : Nat) (w : World) (h : TK w g s (a : Int)) (ha : a ≤ s.length) (hs : (s.length : Int) ≤ 1000000000) :
    Calls Try.prog 49 #[.pointer (some ⟨g, 0, none⟩)] w fun e w' => e = .returned (.int .i64 ((s.length : Int) - (a : Int))) ∧ w' = w.drew := by
  have c0 := h.c0
  have c1 := h.c1
  go_enter Try.func49, Try.ntmps49
  go_wp2
  go_region
  go_wp2
  exact bodyPost_ret (results_tmp rfl _ _ _) rfl ⟨rfl, rfl⟩

set_option maxHeartbeats 4000000 in
theorem tcheck_ok (p : Value) (w : World) :
    Calls Try.prog 47 #[p, .int .i64 0] w fun e w' => e = .returned (.tuple #[]) ∧ w = w' := by
  go_enter Try.func47, Try.ntmps47
  go_wp2
  exact bodyPost_end (v := .tuple #[]) (by simp [results, Try.results47, go_sem]) rfl ⟨rfl, rfl⟩

set_option maxHeartbeats 4000000 in
theorem tcheck_err (g : Nat) (s : List UInt8) (a e : Int) (w : World) (h : TK w g s a) (he : (e != 0) = true) :
    Calls Try.prog 47 #[.pointer (some ⟨g, 0, none⟩), .int .i64 e] w fun r w' => r = faultE e a ∧ w = w' := by
  go_enter Try.func47, Try.ntmps47
  go_wp2_with fail
  refine (tat_any g s a w h).mono ?_
  rintro _ w1 ⟨rfl, rfl⟩
  go_wp2
  exact ⟨rfl, rfl, rfl⟩

set_option maxHeartbeats 4000000 in
theorem tnum_ok (g : Nat) (s : List UInt8) (a x k : Nat) (w : World) (h : TK w g s (a : Int)) (hs : (s.length : Int) ≤ 1000000000) (ht : takeN s (a : Int) = .ok (x, k)) :
    Calls Try.prog 29 #[.pointer (some ⟨g, 0, none⟩)] w fun e w' => e = .returned (.int .i64 (x : Int)) ∧ w' = w.setCell ⟨g, 1, none⟩ (.int .i64 ((a + k : Nat) : Int)) := by
  have c1 := h.c1
  have f1 := Blk.frozen h 1
  have Q := vget_any s (a : Int) w hs
  rw [ht] at Q
  go_enter Try.func29, Try.ntmps29
  go_wp2_with fail
  refine (ttext_any g s a w h).mono ?_
  rintro _ w1 ⟨rfl, rfl⟩
  go_wp2_with fail
  refine (tat_any g s a w h).mono ?_
  rintro _ w1 ⟨rfl, rfl⟩
  go_wp2_with fail
  refine Q.mono ?_
  rintro _ w1 ⟨rfl, rfl⟩
  simp only [outN, outT, outE]
  go_wp2_with fail
  refine (tcheck_ok _ w).mono ?_
  rintro _ w1 ⟨rfl, rfl⟩
  go_wp2
  exact bodyPost_ret (results_tmp rfl _ _ _) rfl ⟨rfl, by push_cast; rfl⟩

set_option maxHeartbeats 4000000 in
theorem tnum_err (g : Nat) (s : List UInt8) (a : Nat) (e : Int) (w : World) (h : TK w g s (a : Int)) (hs : (s.length : Int) ≤ 1000000000) (ht : takeN s (a : Int) = .error e) :
    Calls Try.prog 29 #[.pointer (some ⟨g, 0, none⟩)] w fun r w' => r = faultE e (a : Int) ∧ w = w' := by
  have he := takeN_err ht
  have hne : (e != 0) = true := bne_iff_ne.2 (by omega)
  have Q := vget_any s (a : Int) w hs
  rw [ht] at Q
  clear he
  go_enter Try.func29, Try.ntmps29
  go_wp2_with fail
  refine (ttext_any g s a w h).mono ?_
  rintro _ w1 ⟨rfl, rfl⟩
  go_wp2_with fail
  refine (tat_any g s a w h).mono ?_
  rintro _ w1 ⟨rfl, rfl⟩
  go_wp2_with fail
  refine Q.mono ?_
  rintro _ w1 ⟨rfl, rfl⟩
  simp only [outN, outT, outE]
  go_wp2_with fail
  refine (tcheck_err g s a e w h hne).mono ?_
  rintro _ w1 ⟨rfl, rfl⟩
  exact ⟨rfl, rfl, rfl⟩

set_option maxHeartbeats 4000000 in
theorem tend_ok (g : Nat) (s : List UInt8) (a : Nat) (w : World) (h : TK w g s (a : Int)) (ha : a = s.length) (hs : (s.length : Int) ≤ 1000000000) :
    Calls Try.prog 32 #[.pointer (some ⟨g, 0, none⟩)] w fun e w' => e = .returned (.tuple #[]) ∧ w' = w.drew := by
  have QL := tleft_any g s a w h (by omega) hs
  have kk : ¬ (0 : Int) < (s.length : Int) - (a : Int) := by omega
  clear ha
  go_enter Try.func32, Try.ntmps32
  go_wp2_with fail
  refine QL.mono ?_
  rintro _ w1 ⟨rfl, rfl⟩
  generalize (s.length : Int) - (a : Int) = z at *
  go_wp2
  exact bodyPost_end (v := .tuple #[]) (by simp [results, Try.results32, go_sem]) rfl ⟨rfl, rfl⟩

set_option maxHeartbeats 4000000 in
theorem tend_err (g : Nat) (s : List UInt8) (a : Nat) (w : World) (h : TK w g s (a : Int)) (ha : a < s.length) (hs : (s.length : Int) ≤ 1000000000) :
    Calls Try.prog 32 #[.pointer (some ⟨g, 0, none⟩)] w fun r w' => r = faultE 6 (a : Int) ∧ w' = w.drew := by
  have QL := tleft_any g s a w h (by omega) hs
  have kk : (0 : Int) < (s.length : Int) - (a : Int) := by omega
  go_enter Try.func32, Try.ntmps32
  go_wp2_with fail
  refine QL.mono ?_
  rintro _ w1 ⟨rfl, rfl⟩
  generalize (s.length : Int) - (a : Int) = z at *
  go_wp2_with fail
  refine (tcheck_err g s a 6 w.drew h rfl).mono ?_
  rintro _ w1 ⟨rfl, rfl⟩
  exact ⟨rfl, rfl, rfl⟩
end Go.Proofs.Ytbhfapjjodhndaa
namespace Go.Proofs.Ytbhfapjjodhndaa
set_option linter.unusedVariables false
set_option linter.unusedSimpArgs false
open Go.RowKit

set_option maxHeartbeats 4000000 in
theorem catch_idle (p q : Addr) (w : World) :
    CallsD Try.prog 48 #[.pointer (some p), .pointer (some q)] .returning w fun e u' w' => e = .returned (.tuple #[]) ∧ u' = .returning ∧ w' = w := by
  refine callsD_of_wpS Try.func48 rfl fun c₀ cs hu => ?_
  show Code.wpS _ _ _ ⟨#[.pointer (some p), .pointer (some q), undef, undef, undef, undef, undef, undef, undef, undef, undef, undef, undef, undef, undef, undef, undef, undef, undef, undef], []⟩ _ _
  apply wpS_seq
  apply wpS_region
  simp [wpOpsS, go_sem, recoverD, hu, Exit.thenS]
  refine wpS_of_wp ?_
  go_wp2
  cases c₀
  simp_all [bodyPostS, results, Try.results48]

theorem as_fault (v : Value) (w : World) : (Instr.typeAssert (.iface 70 v) 20 70 true).run Try.prog w = .ok (.tuple #[v, .bool true]) w := by kernel_rfl
theorem ne_fault (v : Value) (w : World) : (binOp .neq 20 (.iface 70 v) .nilIface).run Try.prog w = .ok (.bool true) w := by kernel_rfl

set_option maxHeartbeats 4000000 in
theorem catch_fault (gp gq : Nat) (x y : Int) (err at_ : Int) (w : World) (hp : Blk w gp 25 #[.int .i64 x]) (hq : Blk w gq 3 #[.int .i64 y]) (hne : gp ≠ gq) :
    CallsD Try.prog 48 #[.pointer (some ⟨gp, 0, none⟩), .pointer (some ⟨gq, 0, none⟩)] (.panicking [{ v := fault err at_, recovered := false }]) w fun e u' w' =>
      e = .returned (.tuple #[]) ∧ u' = .panicking [{ v := fault err at_, recovered := true }] ∧ Blk w' gp 25 #[.int .i64 err] ∧ Blk w' gq 3 #[.int .i64 at_] ∧ ∀ B, B ≤ w.heap.size → B ≤ gp → B ≤ gq → Below B w w' := by
  have c0 := hp.cell 0
  have d0 := hq.cell 0
  have f0 := hp.frozen 0
  have g0 := hq.frozen 0
  have lp := hp.lt
  have lq := hq.lt
  refine callsD_of_wpS Try.func48 rfl fun c₀ cs hu => ?_
  show Code.wpS _ _ _ ⟨#[.pointer (some ⟨gp, 0, none⟩), .pointer (some ⟨gq, 0, none⟩), undef, undef, undef, undef, undef, undef, undef, undef, undef, undef, undef, undef, undef, undef, undef, undef, undef, undef], []⟩ _ _
  apply wpS_seq
  apply wpS_region
  simp [wpOpsS, go_sem, recoverD, hu, Exit.thenS]
  refine wpS_of_wp ?_
  have A1 := as_fault
  have A2 := ne_fault
  simp only [fault]
  go_wp2_with fail
  have b1 := Blk.new w 70 #[.int .i64 err, .int .i64 at_]
  have b2 := hp.alloc (.cells #[.int .i64 err, .int .i64 at_] 70)
  have b3 := hq.alloc (.cells #[.int .i64 err, .int .i64 at_] 70)
  have b4 := Lib.hid ((Ext.refl w).alloc (.cells #[.int .i64 err, .int .i64 at_] 70))
  have n1 : ¬ gp = w.heap.size := by omega
  have n2 : ¬ gq = w.heap.size := by omega
  generalize w.alloc (.cells #[.int .i64 err, .int .i64 at_] 70) = w1 at *
  generalize w.heap.size = g at *
  have c0 := b2.cell 0
  have d0 := b3.cell 0
  have e0 := b1.cell 0
  have e1 := b1.cell 1
  have f0 := b2.frozen 0
  have g0 := b3.frozen 0
  have hne' := hne.symm
  have H2 := Lib.hid b2
  have H3 := Lib.hid b3
  clear hp hq b1 b2 b3
  simp at c0 d0 e0 e1
  go_region
  go_wp2
  refine ⟨rfl, _, rfl, .tuple #[], by simp [results, Try.results48, go_sem], rfl, rfl, ?_, ?_, fun B h1 h2 h3 => ?_⟩
  · exact ((H2.out.set_ 0 (.int .i64 err)).far hne (.int .i64 at_)).drew
  · exact ((H3.out.far hne.symm (.int .i64 err)).set_ 0 (.int .i64 at_)).drew
  · exact Below.drew (Below.setCell (Below.setCell (Below.mono b4.out h1) h2 _) h3 _)

/-- a function value that is carried out comes back -/
theorem caught_ok (K : Nat) (caps : Array Value) (w : World) (R : World → Prop)
    (hK : ∀ (xs : Array Value) (W : World), (callFunc K xs).run Try.prog W = .ok (.enter K xs) W)
    (hc : Calls Try.prog K caps ((w.alloc (.cells #[.int .i64 0] 25)).alloc (.cells #[.int .i64 0] 3)) fun e w' => e = .returned (.tuple #[]) ∧ R w' ∧ Blk w' w.heap.size 25 #[.int .i64 0] ∧ Blk w' (w.heap.size + 1) 3 #[.int .i64 0]) :
    Calls Try.prog 30 #[.func (.func K) #[] caps] w fun e w' => e = .returned (.tuple #[.int .i64 0, .int .i64 0]) ∧ ∃ w2, R w2 ∧ Below w.heap.size w2 w' ∧ w' = (w2.setCell ⟨w.heap.size, 0, none⟩ (.int .i64 0)).setCell ⟨w.heap.size + 1, 0, none⟩ (.int .i64 0) := by
  have hmf : ∀ (fn : Fn) (first cap : Array Value) (w : World), (Instr.makeFunc fn first cap).run Try.prog w = .ok (.func fn first cap) w := fun _ _ _ _ => rfl
  go_enter_defers Try.func30, Try.ntmps30
  go_wp2_with fail
  refine hc.mono ?_
  rintro _ w2 ⟨rfl, hR, q1, q2⟩
  have c0 := q1.cell 0
  have d0 := q2.cell 0
  have f0 := q1.frozen 0
  have g0 := q2.frozen 0
  simp at c0 d0
  have HQ1 := Lib.hid q1
  have HQ2 := Lib.hid q2
  have HS := Lib.hid (show w.heap.size ≤ w2.heap.size by have := q1.lt; omega)
  clear q1 q2
  go_wp2
  refine leaves_cons (f := 48) (args := #[.pointer (some ⟨w.heap.size, 0, none⟩), .pointer (some ⟨w.heap.size + 1, 0, none⟩)]) (by simp) (by simp [go_sem]) ?_
  refine (catch_idle ⟨w.heap.size, 0, none⟩ ⟨w.heap.size + 1, 0, none⟩ _).mono ?_
  rintro e u' w'' ⟨rfl, rfl, rfl⟩
  have B1 := HQ1.out
  refine ⟨.tuple #[.int .i64 0, .int .i64 0], ?_, rfl, w2, hR, Below.setCell (p := ⟨w.heap.size + 1, 0, none⟩) (Below.setCell (p := ⟨w.heap.size, 0, none⟩) (Below.refl w.heap.size w2) (Nat.le_refl w.heap.size) _) (Nat.le_succ w.heap.size) _, rfl⟩
  have k1 := ((HQ1.out.set_ 0 (.int .i64 0)).far (p := ⟨w.heap.size + 1, 0, none⟩) (by simp) (.int .i64 0)).cell 0
  have k2 := ((HQ2.out.far (p := ⟨w.heap.size, 0, none⟩) (by simp) (.int .i64 0)).set_ 0 (.int .i64 0)).cell 0
  simp at k1 k2
  simp [results, Try.results30, go_sem, k1, k2]

theorem caught_err (K : Nat) (caps : Array Value) (w : World) (R : World → Prop) (err : Int)
    (hK : ∀ (xs : Array Value) (W : World), (callFunc K xs).run Try.prog W = .ok (.enter K xs) W)
    (hc : Calls Try.prog K caps ((w.alloc (.cells #[.int .i64 0] 25)).alloc (.cells #[.int .i64 0] 3)) fun e w' => (∃ at_, e = faultE err at_) ∧ R w' ∧ Blk w' w.heap.size 25 #[.int .i64 0] ∧ Blk w' (w.heap.size + 1) 3 #[.int .i64 0]) :
    Calls Try.prog 30 #[.func (.func K) #[] caps] w fun e w' => (∃ at_, e = .returned (.tuple #[.int .i64 err, .int .i64 at_])) ∧ ∃ w2, R w2 ∧ Below w.heap.size w2 w' := by
  have hmf : ∀ (fn : Fn) (first cap : Array Value) (w : World), (Instr.makeFunc fn first cap).run Try.prog w = .ok (.func fn first cap) w := fun _ _ _ _ => rfl
  go_enter_defers Try.func30, Try.ntmps30
  go_wp2_with fail
  refine hc.mono ?_
  rintro _ w2 ⟨⟨at_, rfl⟩, hR, q1, q2⟩
  simp only [faultE]
  go_wp2
  refine leaves_cons (f := 48) (args := #[.pointer (some ⟨w.heap.size, 0, none⟩), .pointer (some ⟨w.heap.size + 1, 0, none⟩)]) (by simp) (by simp [go_sem]) ?_
  refine (catch_fault w.heap.size (w.heap.size + 1) 0 0 err at_ _ q1 q2 (by omega)).mono ?_
  rintro e u' w'' ⟨rfl, rfl, b1, b2, b3⟩
  have k1 := b1.cell 0
  have k2 := b2.cell 0
  simp at k1 k2
  have hs := q1.lt
  refine ⟨.tuple #[.int .i64 err, .int .i64 at_], ?_, ⟨at_, rfl⟩, w2, hR, b3 _ (by omega) (by omega) (by omega)⟩
  simp [results, Try.results30, go_sem, k1, k2]
end Go.Proofs.Ytbhfapjjodhndaa
namespace Go.Proofs.Ytbhfapjjodhndaa
set_option linter.unusedVariables false
set_option linter.unusedSimpArgs false
open Go.RowKit

/-- nothing has turned but the blocks of K -/
structure But (K : List Nat) (w w' : World) : Prop where
  os : w'.os = w.os
  tape : w'.tape = w.tape
  output : w'.output = w.output
  size : w.heap.size ≤ w'.heap.size
  block : ∀ k, k < w.heap.size → k ∉ K → w'.heap[k]? = w.heap[k]?
theorem But.refl (K : List Nat) (w : World) : But K w w := ⟨rfl, rfl, rfl, Nat.le_refl _, fun _ _ _ => rfl⟩
theorem But.trans {K : List Nat} {a b c : World} (h : But K a b) (k : But K b c) : But K a c :=
  ⟨k.os.trans h.os, k.tape.trans h.tape, k.output.trans h.output, Nat.le_trans h.size k.size, fun i h1 h2 => (k.block i (Nat.lt_of_lt_of_le h1 h.size) h2).trans (h.block i h1 h2)⟩
theorem But.pre (K : List Nat) : Pre (But K) := ⟨But.refl K, But.trans⟩
theorem But.of_ext {K : List Nat} {a b : World} (h : Ext a b) : But K a b := ⟨h.os, h.tape, h.output, h.size, fun k hk _ => h.block k hk⟩
theorem But.of_below {K : List Nat} {B : Nat} {a b : World} (h : Below B a b) (hK : ∀ k, B ≤ k → k < a.heap.size → k ∈ K) : But K a b :=
  ⟨h.os, h.tape, h.output, h.size, fun k hk hn => h.block k (Nat.lt_of_not_le fun hle => hn (hK k hle hk))⟩
theorem But.alloc {K : List Nat} {a b : World} (h : But K a b) (o : Obj) : But K a (b.alloc o) := h.trans (But.of_ext ((Ext.refl b).alloc o))
theorem But.drew {K : List Nat} {a b : World} (h : But K a b) : But K a b.drew := h.trans (But.of_ext (Ext.refl b).drew)
theorem But.set {K : List Nat} {a b : World} (h : But K a b) {p : Addr} (hp : p.block ∈ K) (u : Value) : But K a (b.setCell p u) :=
  h.trans ⟨rfl, rfl, rfl, by simp [World.setCell], fun k _ hk => Below.heap_setCell b p u k (fun e => hk (e ▸ hp))⟩
theorem But.setRow {K : List Nat} {a b : World} (h : But K a b) {g : Nat} (hg : g ∈ K) (cs : Array Value) : But K a (b.setRow g cs) :=
  h.trans ⟨rfl, rfl, rfl, by simp, fun k _ hk => setRow_other b g k cs (fun e => hk (e ▸ hg))⟩
theorem Blk.but {K : List Nat} {w w' : World} {g : Nat} {t : TypeId} {cs : Array Value} (h : Blk w g t cs) (x : But K w w') (hg : g ∉ K) : Blk w' g t cs := (x.block g h.lt hg).trans h
theorem Ext.but {K : List Nat} {W w w' : World} (h : Ext W w) (x : But K w w') (hK : ∀ k ∈ K, W.heap.size ≤ k) : Ext W w' :=
  ⟨x.os.trans h.os, x.tape.trans h.tape, x.output.trans h.output, Nat.le_trans h.size x.size, fun k hk => (x.block k (Nat.lt_of_lt_of_le hk h.size) (fun hm => by have := hK k hm; omega)).trans (h.block k hk)⟩
theorem But.mono {K K' : List Nat} {a b : World} (h : But K a b) (hk : ∀ k ∈ K, k ∈ K') : But K' a b := ⟨h.os, h.tape, h.output, h.size, fun k h1 h2 => h.block k h1 (fun h3 => h2 (hk k h3))⟩

theorem exec_store_blk {P : Program} {o : Oper} {a : Act} {w : World} (ty : TypeId) (x y : Operand) (ho : o.op = .store ty x y)
    {g : Nat} (hx : a.eval x = .pointer (some ⟨g, 0, none⟩)) {t : TypeId} {cs cs' : Array Value} (hy : a.eval y = .agg cs') (hg : Blk w g t cs) (hs : cs.size = cs'.size)
    (hi : (P.info? ty).map (·.size) = some cs'.size) (h1 : cs'.all (·.oneCell') = true) : (execOp a.eval o).run P w = .ok .skip (w.setRow g cs') := by
  unfold execOp
  simp only [ho, hx, hy, Instr.storeAt, Instr.sureAddr, Sem.run_bind, Sem.run_pure, Result.andThen_ok, run_storeVar_row w g t ty cs cs' hg hi hs h1]
/-- what a number's taking turns -/
def tkA (w : World) (g : Nat) (a : Nat) : World := w.setCell ⟨g, 1, none⟩ (.int .i64 (a : Int))
/-- the bound method's value -/
def numV (g : Nat) : Value := .func (.func 29) #[.pointer (some ⟨g, 0, none⟩)] #[]
attribute [local go_sem] S_size S_toList

theorem tkA_but {K : List Nat} {w w' : World} {g : Nat} (h : But K w w') (hg : g ∈ K) (a : Nat) : But K w (tkA w' g a) := h.set hg _
theorem tkA_tk {w : World} {g : Nat} {s : List UInt8} {a : Int} (h : TK w g s a) (b : Nat) : TK (tkA w g b) g s (b : Int) := h.move _
theorem num_ok {g : Nat} {s : List UInt8} {a x k : Nat} {w : World} (h : TK w g s (a : Int)) (hs : (s.length : Int) ≤ 1000000000) (ht : takeN s (a : Int) = .ok (x, k)) :
    Calls Try.prog 29 #[.pointer (some ⟨g, 0, none⟩)] w fun e w' => e = .returned (.int .i64 (x : Int)) ∧ w' = tkA w g (a + k) := tnum_ok g s a x k w h hs ht
theorem num_err {g : Nat} {s : List UInt8} {a : Nat} {e : Int} {w : World} (h : TK w g s (a : Int)) (hs : (s.length : Int) ≤ 1000000000) (ht : takeN s (a : Int) = .error e) :
    Calls Try.prog 29 #[.pointer (some ⟨g, 0, none⟩)] w fun r w' => r = .panicked [{ v := fault e (a : Int), recovered := false }] ∧ w' = w :=
  (tnum_err g s a e w h hs ht).mono fun r w' ⟨h1, h2⟩ => ⟨h1, h2.symm⟩

/-- what Get's closure does -/
def Got1 (s : List UInt8) (gh : Nat) (r : Ending) (w' : World) : Prop :=
  match numsR s 3 0 with
  | .error e => ∃ a, r = faultE e a
  | .ok (l, a) => if a = s.length then r = .returned (.tuple #[]) ∧ Blk w' gh 23 (l.map fun (n : Nat) => Value.int .i64 (n : Int)).toArray else r = faultE 6 (a : Int)

set_option maxRecDepth 20000 in
set_option maxHeartbeats 4000000 in
/-- Get's closure -/
theorem get1_any (s : List UInt8) (gn gh gt gk : Nat) (w : World) (hs : (s.length : Int) ≤ 1000000000) (h0 h1 h2 : Value)
    (bn : Blk w gn 63 #[numV gk]) (bh : Blk w gh 23 #[h0, h1, h2]) (bt : Blk w gt 61 #[.pointer (some ⟨gk, 0, none⟩)]) (bk : TK w gk s 0)
    (nk : gn ≠ gk) (nh : gn ≠ gh) (kh : gk ≠ gh) (tk : gt ≠ gk) (th : gt ≠ gh) :
    Calls Try.prog 31 #[.pointer (some ⟨gn, 0, none⟩), .pointer (some ⟨gh, 0, none⟩), .pointer (some ⟨gt, 0, none⟩)] w fun r w' => But [gk, gh] w w' ∧ Got1 s gh r w' := by
  have mk : gk ∈ [gk, gh] := List.mem_cons_self
  have mh : gh ∈ [gk, gh] := List.mem_cons_of_mem _ List.mem_cons_self
  have HN := Lib.hid (show gn ∉ [gk, gh] by simp; omega)
  have HT := Lib.hid (show gt ∉ [gk, gh] by simp; omega)
  go_enter Try.func31, Try.ntmps31
  go_wp2
  refine wp_region_n (But [gk, gh]) 8 rfl (by kernel_rfl) ?_
  have ld : ∀ w', But [gk, gh] w.drew w' → w'.cell? ⟨gn, 0, none⟩ = some (numV gk) := fun w' x => (bn.drew.but x HN.out).cell 0
  refine n_want (But.pre _) (by kernel_rfl) (by kernel_rfl) (by kernel_rfl) (fun _ _ _ _ h => h) (by kernel_rfl) (numV gk) (fun w' x => (by have c := ld w' x; go_simp)) ?_
  refine n_late ?_
  refine n_want (But.pre _) (by kernel_rfl) (by kernel_rfl) (by kernel_rfl) (fun _ _ _ _ h => h) (by kernel_rfl) (numV gk) (fun w' x => (by have c := ld w' x; go_simp)) ?_
  refine n_late ?_
  refine n_want (But.pre _) (by kernel_rfl) (by kernel_rfl) (by kernel_rfl) (fun _ _ _ _ h => h) (by kernel_rfl) (numV gk) (fun w' x => (by have c := ld w' x; go_simp)) ?_
  refine n_rest ?_
  dsimp only [Act.put]
  simp only [List.setIfInBounds_toArray, List.set_cons_succ, List.set_cons_zero]
  have bk0 : TK w.drew gk s ((0 : Nat) : Int) := bk
  have x0 : But [gk, gh] w w.drew := (But.refl _ _).drew
  cases t1 : takeN s ((0 : Nat) : Int) with
  | error e =>
    refine n_panic 1 (by kernel_rfl) rfl (by kernel_rfl) (f := 29) (args := #[.pointer (some ⟨gk, 0, none⟩)]) (by kernel_rfl) _ _ (num_err bk0 hs t1) ?_
    refine ⟨rfl, x0, ?_⟩
    unfold Got1
    rw [numsR_err t1]
    exact ⟨_, rfl⟩
  | ok p =>
    obtain ⟨x1, k1⟩ := p
    have bk1 := tkA_tk bk0 (0 + k1)
    have y1 := tkA_but x0 mk (0 + k1)
    refine n_call 1 (by kernel_rfl) rfl (by kernel_rfl) (f := 29) (args := #[.pointer (some ⟨gk, 0, none⟩)]) (by kernel_rfl) _ _ (num_ok bk0 hs t1) (fun _ => tkA_but (But.refl _ _) mk _) ?_
    cases t2 : takeN s ((0 + k1 : Nat) : Int) with
    | error e =>
      refine n_panic 3 (by kernel_rfl) rfl (by kernel_rfl) (f := 29) (args := #[.pointer (some ⟨gk, 0, none⟩)]) (by kernel_rfl) _ _ (num_err bk1 hs t2) ?_
      refine ⟨rfl, y1, ?_⟩
      unfold Got1
      rw [numsR_ok t1, numsR_err t2]
      exact ⟨_, rfl⟩
    | ok p =>
      obtain ⟨x2, k2⟩ := p
      have bk2 := tkA_tk bk1 (0 + k1 + k2)
      have y2 := tkA_but y1 mk (0 + k1 + k2)
      refine n_call 3 (by kernel_rfl) rfl (by kernel_rfl) (f := 29) (args := #[.pointer (some ⟨gk, 0, none⟩)]) (by kernel_rfl) _ _ (num_ok bk1 hs t2) (fun _ => tkA_but (But.refl _ _) mk _) ?_
      cases t3 : takeN s ((0 + k1 + k2 : Nat) : Int) with
      | error e =>
        refine n_panic 5 (by kernel_rfl) rfl (by kernel_rfl) (f := 29) (args := #[.pointer (some ⟨gk, 0, none⟩)]) (by kernel_rfl) _ _ (num_err bk2 hs t3) ?_
        refine ⟨rfl, y2, ?_⟩
        unfold Got1
        rw [numsR_ok t1, numsR_ok t2, numsR_err t3]
        exact ⟨_, rfl⟩
      | ok p =>
        obtain ⟨x3, k3⟩ := p
        have bk3 := tkA_tk bk2 (0 + k1 + k2 + k3)
        have y3 := tkA_but y2 mk (0 + k1 + k2 + k3)
        refine n_call 5 (by kernel_rfl) rfl (by kernel_rfl) (f := 29) (args := #[.pointer (some ⟨gk, 0, none⟩)]) (by kernel_rfl) _ _ (num_ok bk2 hs t3) (fun _ => tkA_but (But.refl _ _) mk _) ?_
        generalize hW3 : tkA (tkA (tkA w.drew gk (0 + k1)) gk (0 + k1 + k2)) gk (0 + k1 + k2 + k3) = W3 at *
        have bh3 : Blk W3 gh 23 #[h0, h1, h2] := by
          rw [← hW3]
          unfold tkA
          exact ((bh.drew.far (p := ⟨gk, 1, none⟩) kh.symm _).far (p := ⟨gk, 1, none⟩) kh.symm _).far (p := ⟨gk, 1, none⟩) kh.symm _
        refine n_val 6 (by kernel_rfl) rfl (by kernel_rfl) (.agg #[.int .i64 (x1 : Int), .int .i64 (x2 : Int), .int .i64 (x3 : Int)]) W3 (by kernel_rfl) (fun _ => But.refl _ _) ?_
        refine n_skip 7 (by kernel_rfl) rfl (by kernel_rfl) (W3.setRow gh #[.int .i64 (x1 : Int), .int .i64 (x2 : Int), .int .i64 (x3 : Int)]) (exec_store_blk 23 (.tmp 1) (.tmp 9) rfl rfl rfl bh3 rfl rfl (by kernel_rfl)) (fun _ => (But.refl _ _).setRow mh _) ?_
        have y4 := y3.setRow mh #[.int .i64 (x1 : Int), .int .i64 (x2 : Int), .int .i64 (x3 : Int)]
        have bh4 := bh3.setRow #[.int .i64 (x1 : Int), .int .i64 (x2 : Int), .int .i64 (x3 : Int)]
        have bk4 : TK (W3.setRow gh #[.int .i64 (x1 : Int), .int .i64 (x2 : Int), .int .i64 (x3 : Int)]) gk s ((0 + k1 + k2 + k3 : Nat) : Int) := Blk.setRow_far bk3 kh _
        have ct := (bt.but y4 HT.out).cell 0
        simp at ct
        generalize W3.setRow gh #[.int .i64 (x1 : Int), .int .i64 (x2 : Int), .int .i64 (x3 : Int)] = W4 at *
        refine n_done (by kernel_rfl) ?_
        have ho := takeN_ok t3
        have HR := Lib.hid (show numsR s 3 0 = .ok ([x1, x2, x3], 0 + k1 + k2 + k3) by rw [numsR_ok t1, numsR_ok t2, numsR_ok t3]; rfl)
        dsimp only [Act.put]
        simp only [List.setIfInBounds_toArray, List.set_cons_succ, List.set_cons_zero]
        have Y4 := Lib.hid y4
        have B4 := Lib.hid bh4
        clear t1 t2 t3 y1 y2 y3 y4 bk1 bk2 bk3 bk0 bh3 bh4 hW3 ld x0
        by_cases hend : 0 + k1 + k2 + k3 = s.length
        · have QE := tend_ok gk s _ W4 bk4 hend hs
          generalize 0 + k1 + k2 + k3 = a3 at *
          go_wp2_with fail
          refine QE.mono ?_
          rintro _ w5 ⟨rfl, rfl⟩
          go_wp2
          refine bodyPost_end (v := .tuple #[]) (by simp [results, Try.results31, go_sem]) rfl ⟨Y4.out.drew, ?_⟩
          unfold Got1
          rw [HR.out]
          show if a3 = s.length then _ else _
          rw [if_pos hend]
          exact ⟨rfl, B4.out⟩
        · have QE := tend_err gk s _ W4 bk4 (by omega) hs
          generalize 0 + k1 + k2 + k3 = a3 at *
          go_wp2_with fail
          refine QE.mono ?_
          rintro _ w5 ⟨rfl, rfl⟩
          refine ⟨rfl, Y4.out.drew, ?_⟩
          unfold Got1
          rw [HR.out]
          show if a3 = s.length then _ else _
          rw [if_neg hend]
          rfl
end Go.Proofs.Ytbhfapjjodhndaa
namespace Go.Proofs.Ytbhfapjjodhndaa
set_option linter.unusedVariables false
set_option linter.unusedSimpArgs false
open Go.RowKit

/-- a header's cells -/
def hdC (h : Int × Int × Int) : List Value := [.int .i64 h.1, .int .i64 h.2.1, .int .i64 h.2.2]
/-- three numbers, and nothing behind them -/
def clR (s : List UInt8) : Except Int (Int × Int × Int) :=
  match numsR s 3 0 with
  | .error e => .error e
  | .ok (l, a) => if a = s.length then .ok ((l.getD 0 0 : Nat), (l.getD 1 0 : Nat), (l.getD 2 0 : Nat)) else .error 6
/-- the header of bytes, or an error -/
def getH (s : List UInt8) : Except Int (Int × Int × Int) :=
  match clR s with
  | .error e => .error e
  | .ok h => if headP h.1 h.2.1 h.2.2 then .ok h else .error 210
def getHv : Except Int (Int × Int × Int) → Int × Int × Int
  | .ok h => h
  | .error _ => (0, 0, 0)
def getHe : Except Int (Int × Int × Int) → Int
  | .ok _ => 0
  | .error e => e
theorem But.below {K : List Nat} {W a b : World} (h : But K W a) (k : Below W.heap.size a b) : But K W b :=
  ⟨k.os.trans h.os, k.tape.trans h.tape, k.output.trans h.output, Nat.le_trans h.size k.size, fun i h1 h2 => (k.block i h1).trans (h.block i h1 h2)⟩
theorem Blk.beneath {B : Nat} {w w' : World} {g : Nat} {t : TypeId} {cs : Array Value} (h : Blk w g t cs) (k : Below B w w') (hg : g < B) : Blk w' g t cs := (k.block g hg).trans h
theorem hd_size : (Try.prog.info? 23).map (·.size) = some 3 := by kernel_rfl
theorem hd_zero (w : World) : (zeroValue 23).run Try.prog w = .ok (.agg #[.int .i64 0, .int .i64 0, .int .i64 0]) w := by kernel_rfl
theorem callF_get1 (xs : Array Value) (W : World) : (callFunc 31 xs).run Try.prog W = .ok (.enter 31 xs) W := by kernel_rfl
theorem numsR_e {s : List UInt8} : ∀ {n a : Nat} {e : Int}, numsR s n a = .error e → e = 2 ∨ e = 4 ∨ e = 5
  | 0, a, e, h => by cases h
  | n + 1, a, e, h => by
    cases ht : takeN s (a : Int) with
    | error e' => rw [numsR_err ht] at h; injection h with h; subst h; exact takeN_err ht
    | ok p =>
      obtain ⟨x, k⟩ := p
      rw [numsR_ok ht] at h
      cases hr : numsR s n (a + k) with
      | error e' => rw [hr] at h; injection h with h; subst h; exact numsR_e hr
      | ok q => rw [hr] at h; cases h
attribute [local go_sem] S_size S_toList hd_zero

/-- Get's closure, caught -/
theorem hget_caught (s : List UInt8) (gn gh gt gk : Nat) (W : World) (hs : (s.length : Int) ≤ 1000000000) (h0 h1 h2 : Value)
    (bn : Blk W gn 63 #[numV gk]) (bh : Blk W gh 23 #[h0, h1, h2]) (bt : Blk W gt 61 #[.pointer (some ⟨gk, 0, none⟩)]) (bk : TK W gk s 0)
    (nk : gn ≠ gk) (nh : gn ≠ gh) (kh : gk ≠ gh) (tk : gt ≠ gk) (th : gt ≠ gh) :
    Calls Try.prog 30 #[.func (.func 31) #[] #[.pointer (some ⟨gn, 0, none⟩), .pointer (some ⟨gh, 0, none⟩), .pointer (some ⟨gt, 0, none⟩)]] W fun e w' =>
      (∃ a : Int, e = .returned (.tuple #[.int .i64 (getHe (clR s)), .int .i64 a])) ∧ But [gk, gh] W w' ∧ ∀ h, clR s = .ok h → Blk w' gh 23 (hdC h).toArray := by
  have lk := bk.lt
  have lh := bh.lt
  have q := get1_any s gn gh gt gk ((W.alloc (.cells #[.int .i64 0] 25)).alloc (.cells #[.int .i64 0] 3)) hs h0 h1 h2 ((bn.alloc _).alloc _) ((bh.alloc _).alloc _) ((bt.alloc _).alloc _) (Blk.alloc (Blk.alloc bk _) _) nk nh kh tk th
  have e1 : Blk ((W.alloc (.cells #[.int .i64 0] 25)).alloc (.cells #[.int .i64 0] 3)) W.heap.size 25 #[.int .i64 0] := (Blk.new W _ _).alloc _
  have e2 := Blk.new (W.alloc (.cells #[.int .i64 0] 25)) 3 #[.int .i64 0]
  rw [World.size_alloc] at e2
  have x7 : Ext W ((W.alloc (.cells #[.int .i64 0] 25)).alloc (.cells #[.int .i64 0] 3)) := ((Ext.refl W).alloc _).alloc _
  have n1 : W.heap.size ∉ [gk, gh] := by simp; omega
  have n2 : W.heap.size + 1 ∉ [gk, gh] := by simp; omega
  cases hn : numsR s 3 0 with
  | error e =>
    have hc : clR s = .error e := by unfold clR; rw [hn]
    refine (caught_err _ _ W (But [gk, gh] W) e callF_get1 (q.mono fun r w' ⟨hb, hg⟩ => ?_)).mono fun r w' ⟨ha, w2, hb, hl⟩ => ?_
    · unfold Got1 at hg
      rw [hn] at hg
      obtain ⟨a, rfl⟩ := hg
      exact ⟨⟨a, rfl⟩, (But.of_ext x7).trans hb, e1.but hb n1, e2.but hb n2⟩
    · rw [hc]
      exact ⟨ha, hb.below hl, fun h hh => by cases hh⟩
  | ok p =>
    obtain ⟨l, a⟩ := p
    have hl3 := (nums_len (by omega) hn).1
    by_cases ha : a = s.length
    · have hc : clR s = .ok ((l.getD 0 0 : Nat), (l.getD 1 0 : Nat), (l.getD 2 0 : Nat)) := by unfold clR; rw [hn]; show (if a = s.length then _ else _) = _; rw [if_pos ha]
      refine (caught_ok _ _ W (fun w' => But [gk, gh] W w' ∧ Blk w' gh 23 (l.map fun (n : Nat) => Value.int .i64 (n : Int)).toArray) callF_get1 (q.mono fun r w' ⟨hb, hg⟩ => ?_)).mono fun r w' ⟨he, w2, ⟨hb, hd⟩, hl, _⟩ => ?_
      · unfold Got1 at hg
        rw [hn] at hg
        have hg : if a = s.length then _ else _ := hg
        rw [if_pos ha] at hg
        exact ⟨hg.1, ⟨(But.of_ext x7).trans hb, hg.2⟩, e1.but hb n1, e2.but hb n2⟩
      · rw [hc]
        refine ⟨⟨_, he⟩, hb.below hl, fun h hh => ?_⟩
        injection hh with hh
        subst hh
        obtain ⟨x, y, z, rfl⟩ : ∃ x y z, l = [x, y, z] := by
          match l, hl3 with
          | [x, y, z], _ => exact ⟨x, y, z, rfl⟩
        exact hd.beneath hl lh
    · have hc : clR s = .error 6 := by unfold clR; rw [hn]; show (if a = s.length then _ else _) = _; rw [if_neg ha]
      refine (caught_err _ _ W (But [gk, gh] W) 6 callF_get1 (q.mono fun r w' ⟨hb, hg⟩ => ?_)).mono fun r w' ⟨h', w2, hb, hl⟩ => ?_
      · unfold Got1 at hg
        rw [hn] at hg
        have hg : if a = s.length then _ else _ := hg
        rw [if_neg ha] at hg
        exact ⟨⟨_, hg⟩, (But.of_ext x7).trans hb, e1.but hb n1, e2.but hb n2⟩
      · rw [hc]
        exact ⟨h', hb.below hl, fun h hh => by cases hh⟩

end Go.Proofs.Ytbhfapjjodhndaa
namespace Go.Proofs.Ytbhfapjjodhndaa
set_option linter.unusedVariables false
set_option linter.unusedSimpArgs false
open Go.RowKit
theorem hd_build0 (w : World) : (Instr.build 23 #[]).run Try.prog w = .ok (.agg #[.int .i64 0, .int .i64 0, .int .i64 0]) w := by kernel_rfl
attribute [local go_sem] S_size S_toList hd_zero hd_build0

set_option maxRecDepth 20000 in
set_option maxHeartbeats 4000000 in
theorem hget_any (s : List UInt8) (w : World) (hs : (s.length : Int) ≤ 1000000000) :
    Calls Try.prog 10 #[.string (S s)] w fun r w' => r = .returned (.tuple #[.agg (hdC (getHv (getH s))).toArray, .int .i64 (getHe (getH s))]) ∧ Ext w w' := by
  have hmf : ∀ (fn : Fn) (first cap : Array Value) (w : World), (Instr.makeFunc fn first cap).run Try.prog w = .ok (.func fn first cap) w := fun _ _ _ _ => rfl
  have st := fun (w : World) (a : Addr) (f : Fn) (x y : Array Value) => run_store Try.prog w a (.func f x y) .plain rfl
  have HS := Lib.hid hd_size
  have b2 := Lib.hid (Blk.new w 23 #[.int .i64 0, .int .i64 0, .int .i64 0])
  have X0 := Lib.hid ((Ext.refl w).alloc (.cells #[.int .i64 0, .int .i64 0, .int .i64 0] 23))
  go_enter Try.func10, Try.ntmps10
  go_wp2_with fail
  refine (tnew_any s _).mono ?_
  rintro _ w1 ⟨rfl, bk, x1⟩
  rw [World.size_alloc] at *
  have BK := Lib.hid bk
  have B2 := Lib.hid (b2.out.ext x1)
  have X1 := Lib.hid (X0.out.trans x1)
  have lk := Lib.hid bk.lt
  clear bk x1
  go_wp2_with fail
  have y3 : Ext w1 (((w1.alloc (.cells #[.pointer (some ⟨w.heap.size + 1, 0, none⟩)] 61)).alloc (.cells #[numV (w.heap.size + 1)] 63)).alloc (.cells #[.int .i64 0, .int .i64 0, .int .i64 0] 23)) := (((Ext.refl w1).alloc _).alloc _).alloc _
  have bt : Blk (((w1.alloc (.cells #[.pointer (some ⟨w.heap.size + 1, 0, none⟩)] 61)).alloc (.cells #[numV (w.heap.size + 1)] 63)).alloc (.cells #[.int .i64 0, .int .i64 0, .int .i64 0] 23)) w1.heap.size 61 #[.pointer (some ⟨w.heap.size + 1, 0, none⟩)] := ((Blk.new w1 _ _).alloc _).alloc _
  have bn : Blk (((w1.alloc (.cells #[.pointer (some ⟨w.heap.size + 1, 0, none⟩)] 61)).alloc (.cells #[numV (w.heap.size + 1)] 63)).alloc (.cells #[.int .i64 0, .int .i64 0, .int .i64 0] 23)) (w1.heap.size + 1) 63 #[numV (w.heap.size + 1)] := by
    have := (Blk.new (w1.alloc (.cells #[.pointer (some ⟨w.heap.size + 1, 0, none⟩)] 61)) 63 #[numV (w.heap.size + 1)]).alloc (.cells #[.int .i64 0, .int .i64 0, .int .i64 0] 23)
    rw [World.size_alloc] at this
    exact this
  have bh : Blk (((w1.alloc (.cells #[.pointer (some ⟨w.heap.size + 1, 0, none⟩)] 61)).alloc (.cells #[numV (w.heap.size + 1)] 63)).alloc (.cells #[.int .i64 0, .int .i64 0, .int .i64 0] 23)) (w1.heap.size + 1 + 1) 23 #[.int .i64 0, .int .i64 0, .int .i64 0] := by
    have := Blk.new ((w1.alloc (.cells #[.pointer (some ⟨w.heap.size + 1, 0, none⟩)] 61)).alloc (.cells #[numV (w.heap.size + 1)] 63)) 23 #[.int .i64 0, .int .i64 0, .int .i64 0]
    rw [World.size_alloc, World.size_alloc] at this
    exact this
  unfold numV at *
  generalize (((w1.alloc (.cells #[.pointer (some ⟨w.heap.size + 1, 0, none⟩)] 61)).alloc (.cells #[.func (.func 29) #[.pointer (some ⟨w.heap.size + 1, 0, none⟩)] #[]] 63)).alloc (.cells #[.int .i64 0, .int .i64 0, .int .i64 0] 23)) = W at *
  have lk' := lk.out
  have lw := X1.out.size
  refine (hget_caught s (w1.heap.size + 1) (w1.heap.size + 1 + 1) w1.heap.size (w.heap.size + 1) W hs _ _ _ bn bh bt (BK.out.ext y3) (by omega) (by omega) (by omega) (by omega) (by omega)).mono ?_
  rintro _ w3 ⟨⟨at_, rfl⟩, hb, hh⟩
  have B23 := Lib.hid ((B2.out.ext y3).but hb (by simp; omega))
  have X3 := Lib.hid (Ext.but (X1.out.trans y3) hb (by simp; omega))
  have hgt := HS
  clear y3 bt bn bh hb BK b2 lk
  cases hc : clR s with
  | error e =>
    have he : e = 2 ∨ e = 4 ∨ e = 5 ∨ e = 6 := by
      unfold clR at hc
      cases hn : numsR s 3 0 with
      | error e' => rw [hn] at hc; injection hc with hc; subst hc; have := numsR_e hn; omega
      | ok p =>
        obtain ⟨l, a⟩ := p
        rw [hn] at hc
        have hc : (if a = s.length then _ else _) = _ := hc
        split at hc
        · cases hc
        · injection hc with hc; omega
    have hne : (e != 0) = true := bne_iff_ne.2 (by omega)
    have HG := Lib.hid (show getH s = .error e by unfold getH; rw [hc])
    clear hc hh he
    simp only [getHe]
    go_wp2_with (refine wpList_store_blk rfl 23 (.tmp 2) (.tmp 21) rfl rfl rfl B23.out rfl HS.out (by kernel_rfl) ?_)
    exact bodyPost_ret (results_row_tmp rfl _ _ w.heap.size _ _ (0, 0) _ rfl (B23.out.setRow #[.int .i64 0, .int .i64 0, .int .i64 0]) Try.underlying23 rfl HS.out) rfl ⟨by rw [HG.out]; rfl, X3.out.setRow (Nat.le_refl _) _⟩
  | ok h =>
    have bh3 := Lib.hid (hh h hc)
    have Q := Lib.hid (hcheck_any h.1 h.2.1 h.2.2 w3)
    obtain ⟨i, g, f⟩ := h
    simp only [hdC] at *
    clear hh
    cases hp : headP i g f with
    | false =>
      have HG := Lib.hid (show getH s = .error 210 by unfold getH; rw [hc]; show (if headP i g f then _ else _) = _; rw [hp]; rfl)
      rw [hp] at Q
      simp only [getHe, errI] at *
      clear hc hp
      go_wp2_with (refine wpList_load_blk rfl 23 (.tmp 6) rfl rfl bh3.out Try.underlying23 rfl HS.out ?_)
      refine Q.out.mono ?_
      rintro _ w4 ⟨rfl, x4⟩
      have B24 := Lib.hid (B23.out.ext x4)
      have X4 := Lib.hid (X3.out.trans x4)
      clear x4
      go_wp2_with (refine wpList_store_blk rfl 23 (.tmp 2) (.tmp 27) rfl rfl rfl B24.out rfl HS.out (by kernel_rfl) ?_)
      exact bodyPost_ret (results_row_tmp rfl _ _ w.heap.size _ _ (0, 0) _ rfl (B24.out.setRow #[.int .i64 0, .int .i64 0, .int .i64 0]) Try.underlying23 rfl HS.out) rfl ⟨by rw [HG.out]; rfl, X4.out.setRow (Nat.le_refl _) _⟩
    | true =>
      have HG := Lib.hid (show getH s = .ok (i, g, f) by unfold getH; rw [hc]; show (if headP i g f then _ else _) = _; rw [hp]; rfl)
      rw [hp] at Q
      simp only [getHe, errI] at *
      clear hc hp
      go_wp2_with (refine wpList_load_blk rfl 23 (.tmp 6) rfl rfl bh3.out Try.underlying23 rfl HS.out ?_)
      refine Q.out.mono ?_
      rintro _ w4 ⟨rfl, x4⟩
      have B24 := Lib.hid (B23.out.ext x4)
      have X4 := Lib.hid (X3.out.trans x4)
      have BH4 := Lib.hid (bh3.out.ext x4)
      clear x4
      go_wp2_with (first
        | (refine wpList_load_blk rfl 23 (.tmp 6) rfl rfl BH4.out Try.underlying23 rfl HS.out ?_)
        | (refine wpList_store_blk rfl 23 (.tmp 2) (.tmp 29) rfl rfl rfl B24.out rfl HS.out (by kernel_rfl) ?_))
      exact bodyPost_ret (results_row_tmp rfl _ _ w.heap.size _ _ (0, 0) _ rfl (B24.out.setRow #[.int .i64 i, .int .i64 g, .int .i64 f]) Try.underlying23 rfl HS.out) rfl ⟨by rw [HG.out]; rfl, X4.out.setRow (Nat.le_refl _) _⟩
end Go.Proofs.Ytbhfapjjodhndaa
namespace Go.Proofs.Ytbhfapjjodhndaa
set_option linter.unusedVariables false
set_option linter.unusedSimpArgs false
open Go.RowKit

/-- a header's bytes -/
def putH (h : Int × Int × Int) : List UInt8 := if headP h.1 h.2.1 h.2.2 then putsL [h.1, h.2.1, h.2.2] else []
theorem run_bs3i (x y z : Int) (w : World) : (Instr.buildSlice 60 3 #[(0, .int .i64 x), (1, .int .i64 y), (2, .int .i64 z)]).run Try.prog w = .ok (.slice (some ⟨w.heap.size, 0, none⟩) 3 3) (w.alloc (.cells #[.int .i64 x, .int .i64 y, .int .i64 z] 3)) := by kernel_rfl
theorem ri_new3 (x y z : Int) (w : World) : RI (w.alloc (.cells #[.int .i64 x, .int .i64 y, .int .i64 z] 3)) (.slice (some ⟨w.heap.size, 0, none⟩) 3 3) [x, y, z] := by
  have b := Blk.new w 3 #[.int .i64 x, .int .i64 y, .int .i64 z]
  refine RI.of (l := [x, y, z]) (c := 3) (Nat.le_refl _) fun k hk => ?_
  rw [b.cell]
  match k, hk with
  | 0, _ => rfl
  | 1, _ => rfl
  | 2, _ => rfl
attribute [local go_sem] S_size S_toList S_empty S_nil

set_option maxRecDepth 20000 in
set_option maxHeartbeats 4000000 in
theorem hput_any (i g f : Int) (w : World) :
    Calls Try.prog 8 #[.agg #[.int .i64 i, .int .i64 g, .int .i64 f]] w fun e w' => e = .returned (.tuple #[.string (S (putH (i, g, f))), .int .i64 (errI (headP i g f) 210)]) ∧ Ext w w' := by
  have q := fun w => hcheck_any i g f w
  have HS := Lib.hid hd_size
  have b1 := Lib.hid (Blk.new w 23 #[.int .i64 i, .int .i64 g, .int .i64 f])
  have X0 := Lib.hid ((Ext.refl w).alloc (.cells #[.int .i64 i, .int .i64 g, .int .i64 f] 23))
  cases hp : headP i g f with
  | false =>
    rw [hp] at q
    have Q := Lib.hid q
    have HH := Lib.hid (show putH (i, g, f) = [] by unfold putH; show (if headP i g f then _ else _) = _; rw [hp]; rfl)
    clear q hp
    simp only [errI, Bool.false_eq_true, if_false] at *
    go_enter Try.func8, Try.ntmps8
    go_wp2_with (refine wpList_load_blk rfl 23 (.tmp 1) rfl rfl b1.out Try.underlying23 rfl HS.out ?_)
    refine (Q.out _).mono ?_
    rintro _ w1 ⟨rfl, x1⟩
    have X1 := Lib.hid (X0.out.trans x1)
    clear x1
    go_wp2
    exact bodyPost_ret (results_tmp2 rfl _ _ _) rfl ⟨by rw [HH.out]; rfl, X1.out⟩
  | true =>
    rw [hp] at q
    have Q := Lib.hid q
    have hr : headD i g f := by simpa [headP] using hp
    obtain ⟨h1, h2, h3⟩ := hr
    have QN := fun w' => numbers_any [i, g, f] (.slice (some ⟨w'.heap.size, 0, none⟩) 3 3) _ (ri_new3 i g f w') (by simp) (by simp; omega)
    have HH := Lib.hid (show putH (i, g, f) = putsL [i, g, f] by unfold putH; show (if headP i g f then _ else _) = _; rw [hp]; rfl)
    have QN' := Lib.hid QN
    clear q hp h1 h2 h3 QN
    simp only [errI, if_true] at *
    go_enter Try.func8, Try.ntmps8
    go_wp2_with (refine wpList_load_blk rfl 23 (.tmp 1) rfl rfl b1.out Try.underlying23 rfl HS.out ?_)
    refine (Q.out _).mono ?_
    rintro _ w1 ⟨rfl, x1⟩
    have b11 := b1.out.ext x1
    have c0 := b11.cell 0
    have c1 := b11.cell 1
    have c2 := b11.cell 2
    simp at c0 c1 c2
    have X1 := Lib.hid (X0.out.trans x1)
    clear x1 b11
    go_wp2_with (refine wpList_bs (vs := #[(0, .int .i64 i), (1, .int .i64 g), (2, .int .i64 f)]) rfl 60 3 _ rfl rfl (run_bs3i _ _ _ _) ?_)
    refine (QN'.out _).mono ?_
    rintro _ w2 ⟨rfl, x2⟩
    have X2 := Lib.hid ((X1.out.alloc _).trans x2)
    clear x2
    go_wp2
    exact bodyPost_ret (results_tmp2 rfl _ _ _) rfl ⟨by rw [HH.out]; rfl, X2.out⟩

set_option maxRecDepth 20000 in
set_option maxHeartbeats 4000000 in
theorem rput_h (i g f : Int) (w : World) :
    Calls Try.prog 9 #[.agg #[.int .i64 i, .int .i64 g, .int .i64 f]] w fun e w' => e = .returned (.tuple #[.string (S (putH (i, g, f))), .int .i64 (errI (headP i g f) 210)]) ∧ Ext w w' := by
  have q := fun w => rcheck_any i g f w
  have HS := Lib.hid hd_size
  have b1 := Lib.hid (Blk.new w 23 #[.int .i64 i, .int .i64 g, .int .i64 f])
  have X0 := Lib.hid ((Ext.refl w).alloc (.cells #[.int .i64 i, .int .i64 g, .int .i64 f] 23))
  cases hp : headP i g f with
  | false =>
    rw [hp] at q
    have Q := Lib.hid q
    have HH := Lib.hid (show putH (i, g, f) = [] by unfold putH; show (if headP i g f then _ else _) = _; rw [hp]; rfl)
    clear q hp
    simp only [errI, Bool.false_eq_true, if_false] at *
    go_enter Try.func9, Try.ntmps9
    go_wp2_with (refine wpList_load_blk rfl 23 (.tmp 1) rfl rfl b1.out Try.underlying23 rfl HS.out ?_)
    refine (Q.out _).mono ?_
    rintro _ w1 ⟨rfl, x1⟩
    have X1 := Lib.hid (X0.out.trans x1)
    clear x1
    go_wp2
    exact bodyPost_ret (results_tmp2 rfl _ _ _) rfl ⟨by rw [HH.out]; rfl, X1.out⟩
  | true =>
    rw [hp] at q
    have Q := Lib.hid q
    have hr : headD i g f := by simpa [headP] using hp
    obtain ⟨h1, h2, h3⟩ := hr
    have QN := fun w' => rputs_any [i, g, f] (.slice (some ⟨w'.heap.size, 0, none⟩) 3 3) _ (ri_new3 i g f w') (by simp) (by simp; omega)
    have HH := Lib.hid (show putH (i, g, f) = putsL [i, g, f] by unfold putH; show (if headP i g f then _ else _) = _; rw [hp]; rfl)
    have QN' := Lib.hid QN
    clear q hp h1 h2 h3 QN
    simp only [errI, if_true] at *
    go_enter Try.func9, Try.ntmps9
    go_wp2_with (refine wpList_load_blk rfl 23 (.tmp 1) rfl rfl b1.out Try.underlying23 rfl HS.out ?_)
    refine (Q.out _).mono ?_
    rintro _ w1 ⟨rfl, x1⟩
    have b11 := b1.out.ext x1
    have c0 := b11.cell 0
    have c1 := b11.cell 1
    have c2 := b11.cell 2
    simp at c0 c1 c2
    have X1 := Lib.hid (X0.out.trans x1)
    clear x1 b11
    go_wp2_with (refine wpList_bs (vs := #[(0, .int .i64 i), (1, .int .i64 g), (2, .int .i64 f)]) rfl 60 3 _ rfl rfl (run_bs3i _ _ _ _) ?_)
    refine (QN'.out _).mono ?_
    rintro _ w2 ⟨rfl, x2⟩
    have X2 := Lib.hid ((X1.out.alloc _).trans x2)
    clear x2
    go_wp2
    exact bodyPost_ret (results_tmp2 rfl _ _ _) rfl ⟨by rw [HH.out]; rfl, X2.out⟩
end Go.Proofs.Ytbhfapjjodhndaa
namespace Go.Proofs.Ytbhfapjjodhndaa
set_option linter.unusedVariables false
set_option linter.unusedSimpArgs false
open Go.RowKit
attribute [local go_sem] S_size S_toList hd_zero hd_build0

set_option maxRecDepth 20000 in
set_option maxHeartbeats 8000000 in
theorem rget_h (s : List UInt8) (w : World) (hs : (s.length : Int) ≤ 1000000) :
    Calls Try.prog 11 #[.string (S s)] w fun r w' => r = .returned (.tuple #[.agg (hdC (getHv (getH s))).toArray, .int .i64 (getHe (getH s))]) ∧ Ext w w' := by
  have HS := Lib.hid hd_size
  have b2 := Lib.hid (Blk.new w 23 #[.int .i64 0, .int .i64 0, .int .i64 0])
  have X0 := Lib.hid ((Ext.refl w).alloc (.cells #[.int .i64 0, .int .i64 0, .int .i64 0] 23))
  have QG := Lib.hid (fun w => rgets_any s 0 3 w (by omega) hs (by omega))
  cases hn : numsR s 3 0 with
  | error e =>
    have he := numsR_e hn
    have hne : (e != 0) = true := bne_iff_ne.2 (by omega)
    have HG := Lib.hid (show getH s = .error e by unfold getH clR; rw [hn])
    rw [hn] at QG
    clear hn he
    go_enter Try.func11, Try.ntmps11
    go_wp2_with fail
    refine (QG.out _).mono ?_
    rintro _ w1 ⟨u, rfl, x1, _⟩
    have B2 := Lib.hid (b2.out.ext x1)
    have X1 := Lib.hid (X0.out.trans x1)
    clear x1
    simp only [resT, resE]
    go_wp2_with (refine wpList_store_blk rfl 23 (.tmp 2) (.tmp 16) rfl rfl rfl B2.out rfl HS.out (by kernel_rfl) ?_)
    exact bodyPost_ret (results_row_tmp rfl _ _ w.heap.size _ _ (0, 0) _ rfl (B2.out.setRow #[.int .i64 0, .int .i64 0, .int .i64 0]) Try.underlying23 rfl HS.out) rfl ⟨by rw [HG.out]; rfl, X1.out.setRow (Nat.le_refl _) _⟩
  | ok p =>
    obtain ⟨l, a⟩ := p
    obtain ⟨hl, h0a, hal, hsm⟩ := nums_len (by omega) hn
    obtain ⟨x, y, z, rfl⟩ : ∃ x y z, l = [x, y, z] := by
      match l, hl with
      | [x, y, z], _ => exact ⟨x, y, z, rfl⟩
    rw [hn] at QG
    by_cases ha : a = s.length
    · have HC := Lib.hid (show clR s = .ok ((x : Int), (y : Int), (z : Int)) by unfold clR; rw [hn]; show (if a = s.length then _ else _) = _; rw [if_pos ha]; rfl)
      have ka : ¬ (a : Int) < (s.length : Int) := by omega
      clear hn hl h0a hal hsm ha
      have q := Lib.hid (fun w => rcheck_any (x : Int) (y : Int) (z : Int) w)
      go_enter Try.func11, Try.ntmps11
      go_wp2_with fail
      refine (QG.out _).mono ?_
      rintro _ w1 ⟨u, rfl, x1, ru⟩
      simp only [resT, resE, resL] at *
      have B2 := Lib.hid (b2.out.ext x1)
      have X1 := Lib.hid (X0.out.trans x1)
      obtain ⟨A, c, rfl, hlc, _, hsh⟩ := ru.shape
      obtain ⟨g, o, rfl, hc⟩ := hsh (by simp [toI'])
      have e0 := hc 0 (by simp [toI'])
      have e1 := hc 1 (by simp [toI'])
      have e2 := hc 2 (by simp [toI'])
      rw [show (toI' [x, y, z]).length = 3 from rfl] at *
      rw [show (toI' [x, y, z]).getD 0 0 = (x : Int) from rfl, Nat.add_zero] at e0
      rw [show (toI' [x, y, z]).getD 1 0 = (y : Int) from rfl] at e1
      rw [show (toI' [x, y, z]).getD 2 0 = (z : Int) from rfl] at e2
      have al : ∀ (k : Nat) (v : Value) (ob : Obj), w1.cell? ⟨g, k, none⟩ = some v → (w1.alloc ob).cell? ⟨g, k, none⟩ = some v := fun k v ob h => up_cell h ⟨_, (Ext.refl w1).alloc ob⟩
      have d0 := al _ _ (.cells #[.int .i64 0, .int .i64 0, .int .i64 0] 23) e0
      have d1 := al _ _ (.cells #[.int .i64 0, .int .i64 0, .int .i64 0] 23) e1
      have d2 := al _ _ (.cells #[.int .i64 0, .int .i64 0, .int .i64 0] 23) e2
      clear hc hsh x1 hlc QG ru al
      go_wp2
      have b7 := Blk.new w1 23 #[.int .i64 (x : Int), .int .i64 (y : Int), .int .i64 (z : Int)]
      have x7 : Ext w1 ((w1.alloc (.cells #[.int .i64 (x : Int), .int .i64 (y : Int), .int .i64 (z : Int)] 23)).drew) := ((Ext.refl w1).alloc _).drew
      have b7 := Lib.hid b7.drew
      have B27 := Lib.hid (B2.out.ext x7)
      have X7 := Lib.hid (X1.out.trans x7)
      go_region
      clear e0 e1 e2 d0 d1 d2 x7
      generalize (w1.alloc (.cells #[.int .i64 (x : Int), .int .i64 (y : Int), .int .i64 (z : Int)] 23)).drew = w7 at *
      cases hp : headP (x : Int) (y : Int) (z : Int) with
      | false =>
        have HG := Lib.hid (show getH s = .error 210 by unfold getH; rw [HC.out]; show (if headP _ _ _ then _ else _) = _; rw [hp]; rfl)
        rw [hp] at q
        simp only [errI] at *
        clear HC hp
        generalize (x : Int) = x at *
        generalize (y : Int) = y at *
        generalize (z : Int) = z at *
        go_wp2_with (refine wpList_load_blk rfl 23 (.tmp 7) rfl rfl b7.out Try.underlying23 rfl HS.out ?_)
        refine (q.out _).mono ?_
        rintro _ w4 ⟨rfl, x4⟩
        have B24 := Lib.hid (B27.out.ext x4)
        have X4 := Lib.hid (X7.out.trans x4)
        clear x4
        go_wp2_with (refine wpList_store_blk rfl 23 (.tmp 2) (.tmp 36) rfl rfl rfl B24.out rfl HS.out (by kernel_rfl) ?_)
        exact bodyPost_ret (results_row_tmp rfl _ _ w.heap.size _ _ (0, 0) _ rfl (B24.out.setRow #[.int .i64 0, .int .i64 0, .int .i64 0]) Try.underlying23 rfl HS.out) rfl ⟨by rw [HG.out]; rfl, X4.out.setRow (Nat.le_refl _) _⟩
      | true =>
        have HG := Lib.hid (show getH s = .ok ((x : Int), (y : Int), (z : Int)) by unfold getH; rw [HC.out]; show (if headP _ _ _ then _ else _) = _; rw [hp]; rfl)
        rw [hp] at q
        simp only [errI] at *
        clear HC hp
        generalize (x : Int) = x at *
        generalize (y : Int) = y at *
        generalize (z : Int) = z at *
        go_wp2_with (refine wpList_load_blk rfl 23 (.tmp 7) rfl rfl b7.out Try.underlying23 rfl HS.out ?_)
        refine (q.out _).mono ?_
        rintro _ w4 ⟨rfl, x4⟩
        have B24 := Lib.hid (B27.out.ext x4)
        have X4 := Lib.hid (X7.out.trans x4)
        have BH4 := Lib.hid (b7.out.ext x4)
        clear x4
        go_wp2_with (first
          | (refine wpList_load_blk rfl 23 (.tmp 7) rfl rfl BH4.out Try.underlying23 rfl HS.out ?_)
          | (refine wpList_store_blk rfl 23 (.tmp 2) (.tmp 37) rfl rfl rfl B24.out rfl HS.out (by kernel_rfl) ?_))
        exact bodyPost_ret (results_row_tmp rfl _ _ w.heap.size _ _ (0, 0) _ rfl (B24.out.setRow #[.int .i64 x, .int .i64 y, .int .i64 z]) Try.underlying23 rfl HS.out) rfl ⟨by rw [HG.out]; rfl, X4.out.setRow (Nat.le_refl _) _⟩
    · have HG := Lib.hid (show getH s = .error 6 by
        have hc : clR s = .error 6 := by unfold clR; rw [hn]; show (if a = s.length then _ else _) = _; rw [if_neg ha]
        unfold getH; rw [hc])
      have ka : (a : Int) < (s.length : Int) := by omega
      clear hn hl h0a hal hsm ha
      go_enter Try.func11, Try.ntmps11
      go_wp2_with fail
      refine (QG.out _).mono ?_
      rintro _ w1 ⟨u, rfl, x1, _⟩
      have B2 := Lib.hid (b2.out.ext x1)
      have X1 := Lib.hid (X0.out.trans x1)
      clear x1
      simp only [resT, resE]
      go_wp2_with (refine wpList_store_blk rfl 23 (.tmp 2) (.tmp 22) rfl rfl rfl B2.out rfl HS.out (by kernel_rfl) ?_)
      exact bodyPost_ret (results_row_tmp rfl _ _ w.heap.size _ _ (0, 0) _ rfl (B2.out.setRow #[.int .i64 0, .int .i64 0, .int .i64 0]) Try.underlying23 rfl HS.out) rfl ⟨by rw [HG.out]; rfl, X1.out.setRow (Nat.le_refl _) _⟩
end Go.Proofs.Ytbhfapjjodhndaa
