/- Several texts in one. merged: MtA MtB MhA -/
import Derived.Test.YtmjkfgpkohfmiaaGreatTgJ
import Derived.Test.YtmjkfgpkohfmiaaGreatBut
import Derived.Defers
import Derived.Recover
import Derived.Test.YtmjkfgpkohfmiaaGreatAnyN
namespace Go.Proofs.YtmjkfgpkohfmiaaGreat
set_option linter.unusedVariables false
set_option linter.unusedSimpArgs false
open Go.RowKit

/-- a taker at a place -/
def TK (w : World) (g : Nat) (s : List UInt8) (a : Int) : Prop := Blk w g 164 #[.string (S s), .int .i64 a]
/-- what a taker panics with -/
def fault (e a : Int) : Value := .iface 136 (.agg #[.int .i64 e, .int .i64 a])
def faultE (e a : Int) : Ending := .panicked [{ v := fault e a, recovered := false }]
theorem TK.c0 {w : World} {g : Nat} {s : List UInt8} {a : Int} (h : TK w g s a) : w.cell? ⟨g, 0, none⟩ = some (.string (S s)) := h.cell 0
theorem TK.c1 {w : World} {g : Nat} {s : List UInt8} {a : Int} (h : TK w g s a) : w.cell? ⟨g, 1, none⟩ = some (.int .i64 a) := h.cell 1
theorem TK.move {w : World} {g : Nat} {s : List UInt8} {a : Int} (h : TK w g s a) (b : Int) : TK (w.setCell ⟨g, 1, none⟩ (.int .i64 b)) g s b := h.set_ 1 (.int .i64 b)
theorem TK.ext {w w' : World} {g : Nat} {s : List UInt8} {a : Int} (h : TK w g s a) (x : Ext w w') : TK w' g s a := Blk.ext h x
theorem TK.lt {w : World} {g : Nat} {s : List UInt8} {a : Int} (h : TK w g s a) : g < w.heap.size := Blk.lt h
attribute [local go_sem] S_size S_toList

set_option maxHeartbeats 4000000 in
theorem tnew_any (s : List UInt8) (w : World) :
    Calls Tryz.prog 77 #[.string (S s)] w fun e w' => e = .returned (.pointer (some ⟨w.heap.size, 0, none⟩)) ∧ TK w' w.heap.size s 0 ∧ Ext w w' := by
  go_enter Tryz.func77, Tryz.ntmps77
  go_wp2
  exact bodyPost_ret (results_tmp rfl _ _ _) rfl ⟨rfl, Blk.new _ _ _, (Ext.refl w).alloc _⟩

set_option maxHeartbeats 4000000 in
theorem ttext_any (g : Nat) (s : List UInt8) (a : Int) (w : World) (h : TK w g s a) :
    Calls Tryz.prog 110 #[.pointer (some ⟨g, 0, none⟩)] w fun e w' => e = .returned (.string (S s)) ∧ w = w' := by
  have c0 := h.c0
  go_enter Tryz.func110, Tryz.ntmps110
  go_wp2
  exact bodyPost_ret (results_tmp rfl _ _ _) rfl ⟨rfl, rfl⟩

set_option maxHeartbeats 4000000 in
theorem tat_any (g : Nat) (s : List UInt8) (a : Int) (w : World) (h : TK w g s a) :
    Calls Tryz.prog 80 #[.pointer (some ⟨g, 0, none⟩)] w fun e w' => e = .returned (.int .i64 a) ∧ w = w' := by
  have c1 := h.c1
  go_enter Tryz.func80, Tryz.ntmps80
  go_wp2
  exact bodyPost_ret (results_tmp rfl _ _ _) rfl ⟨rfl, rfl⟩

set_option maxHeartbeats 4000000 in
theorem tleft_any (g : Nat) (s : List UInt8) (a : Nat) (w : World) (h : TK w g s (a : Int)) (ha : a ≤ s.length) (hs : (s.length : Int) ≤ 1000000000) :
    Calls Tryz.prog 113 #[.pointer (some ⟨g, 0, none⟩)] w fun e w' => e = .returned (.int .i64 ((s.length : Int) - (a : Int))) ∧ w' = w.drew := by
  have c0 := h.c0
  have c1 := h.c1
  go_enter Tryz.func113, Tryz.ntmps113
  go_wp2
  go_region
  go_wp2
  exact bodyPost_ret (results_tmp rfl _ _ _) rfl ⟨rfl, rfl⟩

set_option maxHeartbeats 4000000 in
theorem tcheck_ok (p : Value) (w : World) :
    Calls Tryz.prog 111 #[p, .int .i64 0] w fun e w' => e = .returned (.tuple #[]) ∧ w = w' := by
  go_enter Tryz.func111, Tryz.ntmps111
  go_wp2
  exact bodyPost_end (v := .tuple #[]) (by simp [results, Tryz.results111, go_sem]) rfl ⟨rfl, rfl⟩

set_option maxHeartbeats 4000000 in
theorem tcheck_err (g : Nat) (s : List UInt8) (a e : Int) (w : World) (h : TK w g s a) (he : (e != 0) = true) :
    Calls Tryz.prog 111 #[.pointer (some ⟨g, 0, none⟩), .int .i64 e] w fun r w' => r = faultE e a ∧ w = w' := by
  go_enter Tryz.func111, Tryz.ntmps111
  go_wp2_with fail
  refine (tat_any g s a w h).mono ?_
  rintro _ w1 ⟨rfl, rfl⟩
  go_wp2
  exact ⟨rfl, rfl, rfl⟩

set_option maxHeartbeats 4000000 in
theorem tnum_ok (g : Nat) (s : List UInt8) (a x k : Nat) (w : World) (h : TK w g s (a : Int)) (hs : (s.length : Int) ≤ 1000000000) (ht : takeN s (a : Int) = .ok (x, k)) :
    Calls Tryz.prog 79 #[.pointer (some ⟨g, 0, none⟩)] w fun e w' => e = .returned (.int .i64 (x : Int)) ∧ w' = w.setCell ⟨g, 1, none⟩ (.int .i64 ((a + k : Nat) : Int)) := by
  have c1 := h.c1
  have f1 := Blk.frozen h 1
  have Q := vget_any s (a : Int) w hs
  rw [ht] at Q
  go_enter Tryz.func79, Tryz.ntmps79
  go_wp2_with fail
  refine (ttext_any g s a w h).mono ?_
  rintro _ w1 ⟨rfl, rfl⟩
  go_wp2_with fail
  refine (tat_any g s a w h).mono ?_
  rintro _ w1 ⟨rfl, rfl⟩
  go_wp2_with fail
  refine Q.mono ?_
  rintro _ w1 ⟨rfl, rfl⟩
  simp only [outN, outT, outE]
  go_wp2_with fail
  refine (tcheck_ok _ w).mono ?_
  rintro _ w1 ⟨rfl, rfl⟩
  go_wp2
  exact bodyPost_ret (results_tmp rfl _ _ _) rfl ⟨rfl, by push_cast; rfl⟩

set_option maxHeartbeats 4000000 in
theorem tnum_err (g : Nat) (s : List UInt8) (a : Nat) (e : Int) (w : World) (h : TK w g s (a : Int)) (hs : (s.length : Int) ≤ 1000000000) (ht : takeN s (a : Int) = .error e) :
    Calls Tryz.prog 79 #[.pointer (some ⟨g, 0, none⟩)] w fun r w' => r = faultE e (a : Int) ∧ w = w' := by
  have he := takeN_err ht
  have hne : (e != 0) = true := bne_iff_ne.2 (by omega)
  have Q := vget_any s (a : Int) w hs
  rw [ht] at Q
  clear he
  go_enter Tryz.func79, Tryz.ntmps79
  go_wp2_with fail
  refine (ttext_any g s a w h).mono ?_
  rintro _ w1 ⟨rfl, rfl⟩
  go_wp2_with fail
  refine (tat_any g s a w h).mono ?_
  rintro _ w1 ⟨rfl, rfl⟩
  go_wp2_with fail
  refine Q.mono ?_
  rintro _ w1 ⟨rfl, rfl⟩
  simp only [outN, outT, outE]
  go_wp2_with fail
  refine (tcheck_err g s a e w h hne).mono ?_
  rintro _ w1 ⟨rfl, rfl⟩
  exact ⟨rfl, rfl, rfl⟩

set_option maxHeartbeats 4000000 in
theorem tend_ok (g : Nat) (s : List UInt8) (a : Nat) (w : World) (h : TK w g s (a : Int)) (ha : a = s.length) (hs : (s.length : Int) ≤ 1000000000) :
    Calls Tryz.prog 82 #[.pointer (some ⟨g, 0, none⟩)] w fun e w' => e = .returned (.tuple #[]) ∧ w' = w.drew := by
  have QL := tleft_any g s a w h (by omega) hs
  have kk : ¬ (0 : Int) < (s.length : Int) - (a : Int) := by omega
  clear ha
  go_enter Tryz.func82, Tryz.ntmps82
  go_wp2_with fail
  refine QL.mono ?_
  rintro _ w1 ⟨rfl, rfl⟩
  generalize (s.length : Int) - (a : Int) = z at *
  go_wp2
  exact bodyPost_end (v := .tuple #[]) (by simp [results, Tryz.results82, go_sem]) rfl ⟨rfl, rfl⟩

set_option maxHeartbeats 4000000 in
theorem tend_err (g : Nat) (s : List UInt8) (a : Nat) (w : World) (h : TK w g s (a : Int)) (ha : a < s.length) (hs : (s.length : Int) ≤ 1000000000) :
    Calls Tryz.prog 82 #[.pointer (some ⟨g, 0, none⟩)] w fun r w' => r = faultE 6 (a : Int) ∧ w' = w.drew := by
  have QL := tleft_any g s a w h (by omega) hs
  have kk : (0 : Int) < (s.length : Int) - (a : Int) := by omega
  go_enter Tryz.func82, Tryz.ntmps82
  go_wp2_with fail
  refine QL.mono ?_
  rintro _ w1 ⟨rfl, rfl⟩
  generalize (s.length : Int) - (a : Int) = z at *
  go_wp2_with fail
  refine (tcheck_err g s a 6 w.drew h rfl).mono ?_
  rintro _ w1 ⟨rfl, rfl⟩
  exact ⟨rfl, rfl, rfl⟩
end Go.Proofs.YtmjkfgpkohfmiaaGreat
namespace Go.Proofs.YtmjkfgpkohfmiaaGreat
set_option linter.unusedVariables false
set_option linter.unusedSimpArgs false
open Go.RowKit

set_option maxHeartbeats 4000000 in
theorem catch_idle (p q : Addr) (w : World) :
    CallsD Tryz.prog 114 #[.pointer (some p), .pointer (some q)] .returning w fun e u' w' => e = .returned (.tuple #[]) ∧ u' = .returning ∧ w' = w := by
  refine callsD_of_wpS Tryz.func114 rfl fun c₀ cs hu => ?_
  show Code.wpS _ _ _ ⟨#[.pointer (some p), .pointer (some q), undef, undef, undef, undef, undef, undef, undef, undef, undef, undef, undef, undef, undef, undef, undef, undef, undef, undef], []⟩ _ _
  apply wpS_seq
  apply wpS_region
  simp [wpOpsS, go_sem, recoverD, hu, Exit.thenS]
  refine wpS_of_wp ?_
  go_wp2
  cases c₀
  simp_all [bodyPostS, results, Tryz.results114]

theorem as_fault (v : Value) (w : World) : (Instr.typeAssert (.iface 136 v) 20 136 true).run Tryz.prog w = .ok (.tuple #[v, .bool true]) w := by kernel_rfl
theorem ne_fault (v : Value) (w : World) : (binOp .neq 20 (.iface 136 v) .nilIface).run Tryz.prog w = .ok (.bool true) w := by kernel_rfl

set_option maxHeartbeats 4000000 in
theorem catch_fault (gp gq : Nat) (x y : Int) (err at_ : Int) (w : World) (hp : Blk w gp 33 #[.int .i64 x]) (hq : Blk w gq 3 #[.int .i64 y]) (hne : gp ≠ gq) :
    CallsD Tryz.prog 114 #[.pointer (some ⟨gp, 0, none⟩), .pointer (some ⟨gq, 0, none⟩)] (.panicking [{ v := fault err at_, recovered := false }]) w fun e u' w' =>
      e = .returned (.tuple #[]) ∧ u' = .panicking [{ v := fault err at_, recovered := true }] ∧ Blk w' gp 33 #[.int .i64 err] ∧ Blk w' gq 3 #[.int .i64 at_] ∧ ∀ B, B ≤ w.heap.size → B ≤ gp → B ≤ gq → Below B w w' := by
  have c0 := hp.cell 0
  have d0 := hq.cell 0
  have f0 := hp.frozen 0
  have g0 := hq.frozen 0
  have lp := hp.lt
  have lq := hq.lt
  refine callsD_of_wpS Tryz.func114 rfl fun c₀ cs hu => ?_
  show Code.wpS _ _ _ ⟨#[.pointer (some ⟨gp, 0, none⟩), .pointer (some ⟨gq, 0, none⟩), undef, undef, undef, undef, undef, undef, undef, undef, undef, undef, undef, undef, undef, undef, undef, undef, undef, undef], []⟩ _ _
  apply wpS_seq
  apply wpS_region
  simp [wpOpsS, go_sem, recoverD, hu, Exit.thenS]
  refine wpS_of_wp ?_
  have A1 := as_fault
  have A2 := ne_fault
  simp only [fault]
  go_wp2_with fail
  have b1 := Blk.new w 136 #[.int .i64 err, .int .i64 at_]
  have b2 := hp.alloc (.cells #[.int .i64 err, .int .i64 at_] 136)
  have b3 := hq.alloc (.cells #[.int .i64 err, .int .i64 at_] 136)
  have b4 := Lib.hid ((Ext.refl w).alloc (.cells #[.int .i64 err, .int .i64 at_] 136))
  have n1 : ¬ gp = w.heap.size := by omega
  have n2 : ¬ gq = w.heap.size := by omega
  generalize w.alloc (.cells #[.int .i64 err, .int .i64 at_] 136) = w1 at *
  generalize w.heap.size = g at *
  have c0 := b2.cell 0
  have d0 := b3.cell 0
  have e0 := b1.cell 0
  have e1 := b1.cell 1
  have f0 := b2.frozen 0
  have g0 := b3.frozen 0
  have hne' := hne.symm
  have H2 := Lib.hid b2
  have H3 := Lib.hid b3
  clear hp hq b1 b2 b3
  simp at c0 d0 e0 e1
  go_region
  go_wp2
  refine ⟨rfl, _, rfl, .tuple #[], by simp [results, Tryz.results114, go_sem], rfl, rfl, ?_, ?_, fun B h1 h2 h3 => ?_⟩
  · exact ((H2.out.set_ 0 (.int .i64 err)).far hne (.int .i64 at_)).drew
  · exact ((H3.out.far hne.symm (.int .i64 err)).set_ 0 (.int .i64 at_)).drew
  · exact Below.drew (Below.setCell (Below.setCell (Below.mono b4.out h1) h2 _) h3 _)

/-- a function value that is carried out comes back -/
theorem caught_ok (K : Nat) (caps : Array Value) (w : World) (R : World → Prop)
    (hK : ∀ (xs : Array Value) (W : World), (callFunc K xs).run Tryz.prog W = .ok (.enter K xs) W)
    (hc : Calls Tryz.prog K caps ((w.alloc (.cells #[.int .i64 0] 33)).alloc (.cells #[.int .i64 0] 3)) fun e w' => e = .returned (.tuple #[]) ∧ R w' ∧ Blk w' w.heap.size 33 #[.int .i64 0] ∧ Blk w' (w.heap.size + 1) 3 #[.int .i64 0]) :
    Calls Tryz.prog 83 #[.func (.func K) #[] caps] w fun e w' => e = .returned (.tuple #[.int .i64 0, .int .i64 0]) ∧ ∃ w2, R w2 ∧ Below w.heap.size w2 w' ∧ w' = (w2.setCell ⟨w.heap.size, 0, none⟩ (.int .i64 0)).setCell ⟨w.heap.size + 1, 0, none⟩ (.int .i64 0) := by
  have hmf : ∀ (fn : Fn) (first cap : Array Value) (w : World), (Instr.makeFunc fn first cap).run Tryz.prog w = .ok (.func fn first cap) w := fun _ _ _ _ => rfl
  go_enter_defers Tryz.func83, Tryz.ntmps83
  go_wp2_with fail
  refine hc.mono ?_
  rintro _ w2 ⟨rfl, hR, q1, q2⟩
  have c0 := q1.cell 0
  have d0 := q2.cell 0
  have f0 := q1.frozen 0
  have g0 := q2.frozen 0
  simp at c0 d0
  have HQ1 := Lib.hid q1
  have HQ2 := Lib.hid q2
  have HS := Lib.hid (show w.heap.size ≤ w2.heap.size by have := q1.lt; omega)
  clear q1 q2
  go_wp2
  refine leaves_cons (f := 114) (args := #[.pointer (some ⟨w.heap.size, 0, none⟩), .pointer (some ⟨w.heap.size + 1, 0, none⟩)]) (by simp) (by simp [go_sem]) ?_
  refine (catch_idle ⟨w.heap.size, 0, none⟩ ⟨w.heap.size + 1, 0, none⟩ _).mono ?_
  rintro e u' w'' ⟨rfl, rfl, rfl⟩
  have B1 := HQ1.out
  refine ⟨.tuple #[.int .i64 0, .int .i64 0], ?_, rfl, w2, hR, Below.setCell (p := ⟨w.heap.size + 1, 0, none⟩) (Below.setCell (p := ⟨w.heap.size, 0, none⟩) (Below.refl w.heap.size w2) (Nat.le_refl w.heap.size) _) (Nat.le_succ w.heap.size) _, rfl⟩
  have k1 := ((HQ1.out.set_ 0 (.int .i64 0)).far (p := ⟨w.heap.size + 1, 0, none⟩) (by simp) (.int .i64 0)).cell 0
  have k2 := ((HQ2.out.far (p := ⟨w.heap.size, 0, none⟩) (by simp) (.int .i64 0)).set_ 0 (.int .i64 0)).cell 0
  simp at k1 k2
  simp [results, Tryz.results83, go_sem, k1, k2]

theorem caught_err (K : Nat) (caps : Array Value) (w : World) (R : World → Prop) (err : Int)
    (hK : ∀ (xs : Array Value) (W : World), (callFunc K xs).run Tryz.prog W = .ok (.enter K xs) W)
    (hc : Calls Tryz.prog K caps ((w.alloc (.cells #[.int .i64 0] 33)).alloc (.cells #[.int .i64 0] 3)) fun e w' => (∃ at_, e = faultE err at_) ∧ R w' ∧ Blk w' w.heap.size 33 #[.int .i64 0] ∧ Blk w' (w.heap.size + 1) 3 #[.int .i64 0]) :
    Calls Tryz.prog 83 #[.func (.func K) #[] caps] w fun e w' => (∃ at_, e = .returned (.tuple #[.int .i64 err, .int .i64 at_])) ∧ ∃ w2, R w2 ∧ Below w.heap.size w2 w' := by
  have hmf : ∀ (fn : Fn) (first cap : Array Value) (w : World), (Instr.makeFunc fn first cap).run Tryz.prog w = .ok (.func fn first cap) w := fun _ _ _ _ => rfl
  go_enter_defers Tryz.func83, Tryz.ntmps83
  go_wp2_with fail
  refine hc.mono ?_
  rintro _ w2 ⟨⟨at_, rfl⟩, hR, q1, q2⟩
  simp only [faultE]
  go_wp2
  refine leaves_cons (f := 114) (args := #[.pointer (some ⟨w.heap.size, 0, none⟩), .pointer (some ⟨w.heap.size + 1, 0, none⟩)]) (by simp) (by simp [go_sem]) ?_
  refine (catch_fault w.heap.size (w.heap.size + 1) 0 0 err at_ _ q1 q2 (by omega)).mono ?_
  rintro e u' w'' ⟨rfl, rfl, b1, b2, b3⟩
  have k1 := b1.cell 0
  have k2 := b2.cell 0
  simp at k1 k2
  have hs := q1.lt
  refine ⟨.tuple #[.int .i64 err, .int .i64 at_], ?_, ⟨at_, rfl⟩, w2, hR, b3 _ (by omega) (by omega) (by omega)⟩
  simp [results, Tryz.results83, go_sem, k1, k2]
end Go.Proofs.YtmjkfgpkohfmiaaGreat
namespace Go.Proofs.YtmjkfgpkohfmiaaGreat
set_option linter.unusedVariables false
set_option linter.unusedSimpArgs false
open Go.RowKit

theorem But.pre (K : List Nat) : Pre (But K) := ⟨But.refl K, But.trans⟩
theorem But.of_below {K : List Nat} {B : Nat} {a b : World} (h : Below B a b) (hK : ∀ k, B ≤ k → k < a.heap.size → k ∈ K) : But K a b :=
  ⟨h.os, h.tape, h.output, h.size, fun k hk hn => h.block k (Nat.lt_of_not_le fun hle => hn (hK k hle hk))⟩
theorem But.setRow {K : List Nat} {a b : World} (h : But K a b) {g : Nat} (hg : g ∈ K) (cs : Array Value) : But K a (b.setRow g cs) :=
  h.trans ⟨rfl, rfl, rfl, by simp, fun k _ hk => setRow_other b g k cs (fun e => hk (e ▸ hg))⟩
theorem But.mono {K K' : List Nat} {a b : World} (h : But K a b) (hk : ∀ k ∈ K, k ∈ K') : But K' a b := ⟨h.os, h.tape, h.output, h.size, fun k h1 h2 => h.block k h1 (fun h3 => h2 (hk k h3))⟩

theorem exec_store_blk {P : Program} {o : Oper} {a : Act} {w : World} (ty : TypeId) (x y : Operand) (ho : o.op = .store ty x y)
    {g : Nat} (hx : a.eval x = .pointer (some ⟨g, 0, none⟩)) {t : TypeId} {cs cs' : Array Value} (hy : a.eval y = .agg cs') (hg : Blk w g t cs) (hs : cs.size = cs'.size)
    (hi : (P.info? ty).map (·.size) = some cs'.size) (h1 : cs'.all (·.oneCell') = true) : (execOp a.eval o).run P w = .ok .skip (w.setRow g cs') := by
  unfold execOp
  simp only [ho, hx, hy, Instr.storeAt, Instr.sureAddr, Sem.run_bind, Sem.run_pure, Result.andThen_ok, run_storeVar_row w g t ty cs cs' hg hi hs h1]
/-- what a number's taking turns -/
def tkA (w : World) (g : Nat) (a : Nat) : World := w.setCell ⟨g, 1, none⟩ (.int .i64 (a : Int))
/-- the bound method's value -/
def numV (g : Nat) : Value := .func (.func 79) #[.pointer (some ⟨g, 0, none⟩)] #[]
attribute [local go_sem] S_size S_toList

theorem tkA_but {K : List Nat} {w w' : World} {g : Nat} (h : But K w w') (hg : g ∈ K) (a : Nat) : But K w (tkA w' g a) := h.set hg _
theorem tkA_tk {w : World} {g : Nat} {s : List UInt8} {a : Int} (h : TK w g s a) (b : Nat) : TK (tkA w g b) g s (b : Int) := h.move _
theorem num_ok {g : Nat} {s : List UInt8} {a x k : Nat} {w : World} (h : TK w g s (a : Int)) (hs : (s.length : Int) ≤ 1000000000) (ht : takeN s (a : Int) = .ok (x, k)) :
    Calls Tryz.prog 79 #[.pointer (some ⟨g, 0, none⟩)] w fun e w' => e = .returned (.int .i64 (x : Int)) ∧ w' = tkA w g (a + k) := tnum_ok g s a x k w h hs ht
theorem num_err {g : Nat} {s : List UInt8} {a : Nat} {e : Int} {w : World} (h : TK w g s (a : Int)) (hs : (s.length : Int) ≤ 1000000000) (ht : takeN s (a : Int) = .error e) :
    Calls Tryz.prog 79 #[.pointer (some ⟨g, 0, none⟩)] w fun r w' => r = .panicked [{ v := fault e (a : Int), recovered := false }] ∧ w' = w :=
  (tnum_err g s a e w h hs ht).mono fun r w' ⟨h1, h2⟩ => ⟨h1, h2.symm⟩

/-- what Get's closure does -/
def Got1 (s : List UInt8) (gh : Nat) (r : Ending) (w' : World) : Prop :=
  match numsR s 3 0 with
  | .error e => ∃ a, r = faultE e a
  | .ok (l, a) => if a = s.length then r = .returned (.tuple #[]) ∧ Blk w' gh 71 (l.map fun (n : Nat) => Value.int .i64 (n : Int)).toArray else r = faultE 6 (a : Int)

end Go.Proofs.YtmjkfgpkohfmiaaGreat
