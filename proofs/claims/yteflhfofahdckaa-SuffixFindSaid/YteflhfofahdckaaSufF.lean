/- suffix: the closures that tell keys. -/
import Derived.Test.YteflhfofahdckaaSufE
namespace Go.Proofs.Yteflhfofahdckaa
set_option linter.unusedVariables false
set_option linter.unusedSimpArgs false
open Go.RowKit
attribute [local go_sem] S_size S_toList S_append S_extract S_beq S_bne S_empty S_nil

/-- a row of numbers that may be read -/
def RN (w : World) (g n : Nat) (l : List Nat) : Prop := l.length = n ∧ ∀ i, i < n → w.cell? ⟨g, i, none⟩ = some (.int .i64 ((l.getD i 0 : Nat) : Int))
section
variable {w w' : World} {B g n : Nat} {l : List Nat}
theorem RN.ext (h : RN w g n l) (hx : Ext w w') : RN w' g n l := ⟨h.1, fun i hi => Go.cell_later hx (h.2 i hi)⟩
theorem NW.rn (h : NW w B g n l) : RN w g n l := ⟨h.len, fun i hi => h.cell i hi⟩
theorem RN.ri (h : RN w g n l) : RI w (.slice (some ⟨g, 0, none⟩) n n) (toI l) := by
  have := RI.of (w := w) (g := g) (o := 0) (c := n) (l := toI l) (by rw [toI_length, h.1]; exact Nat.le_refl _) (fun k hk => by rw [Nat.zero_add, toI_getD]; exact h.2 k (by rw [toI_length, h.1] at hk; exact hk))
  rw [toI_length, h.1] at this
  exact this
end
theorem callF_run {f : FuncId} {fn : Func} {c : Code} (hf : Try.prog.funcs[f]? = some fn) (hname : (fn.name == "runtime.NumGoroutine") = false) (hb : fn.body = some c) (xs : Array Value) (W : World) : (callFunc f xs).run Try.prog W = .ok (.enter f xs) W := by
  have h1 : fn.name ≠ "runtime.NumGoroutine" := by simpa using hname
  simp [callFunc, hf, h1, hb]

set_option maxRecDepth 20000 in
set_option maxHeartbeats 4000000 in
theorem letter_any (s : List UInt8) (p g : Nat) (w : World) (hg : Blk w g 9 #[.string (S s)]) (hp : p ≤ s.length) (hl : (s.length : Int) ≤ 1000000) :
    Calls Try.prog 38 #[.int .i64 (p : Int), .pointer (some ⟨g, 0, none⟩)] w fun e w' => e = .returned (.int .i64 ((letterN s p : Nat) : Int)) ∧ w = w' := by
  have c := hg.cell 0
  unfold letterN
  by_cases h : p = s.length
  · have hh : (p : Int) = (s.length : Int) := by omega
    rw [if_pos h]
    clear h hp hg
    go_enter Try.func38, Try.ntmps38
    go_wp2
    go_ret
    exact ⟨rfl, rfl⟩
  · have hh : ¬ (p : Int) = (s.length : Int) := by omega
    have hlt : p < s.length := by omega
    have hidx := index_S s p hlt _ rfl
    rw [if_neg h]
    clear h hp hg
    generalize s.getD p 0 = b at *
    have hb := b.toNat_lt
    have hub : (((b.toNat + 1 : Nat)) : Int) = U8 b + 1 := rfl
    have W0 := w64_small (n := U8 b) (by unfold U8; omega) (by unfold U8; omega)
    have W1 := w64_small (n := U8 b + 1) (by unfold U8; omega) (by unfold U8; omega)
    rw [hub]
    clear hub hb
    go_enter Try.func38, Try.ntmps38
    go_wp2
    go_ret
    exact ⟨congrArg (fun x => Ending.returned (Value.int .i64 x)) W1, rfl⟩
theorem letter_key (s : List UInt8) (g : Nat) (w : World) (hg : Blk w g 9 #[.string (S s)]) (hl : (s.length : Int) ≤ 1000000) :
    KeyAt (.func (.func 38) #[] #[.pointer (some ⟨g, 0, none⟩)]) (letterN s) (fun p => p ≤ s.length) w :=
  ⟨_, _, rfl, callF_run Try.func38 rfl rfl, fun W hW p hp => (letter_any s p g W (hg.ext hW) hp hl)⟩

set_option maxRecDepth 20000 in
set_option maxHeartbeats 4000000 in
theorem first_any (r : List Nat) (n p gb gr : Nat) (w : World) (hb : Blk w gb 33 #[.slice (some ⟨gr, 0, none⟩) n n]) (hr : RN w gr n r) (hp : p < n) :
    Calls Try.prog 50 #[.int .i64 (p : Int), .pointer (some ⟨gb, 0, none⟩)] w fun e w' => e = .returned (.int .i64 ((r.getD p 0 : Nat) : Int)) ∧ w = w' := by
  have c := hb.cell 0
  have d := hr.2 p hp
  clear hr hb
  generalize r.getD p 0 = x at *
  go_enter Try.func50, Try.ntmps50
  go_wp2
  go_ret
  exact ⟨rfl, rfl⟩
theorem first_key (r : List Nat) (n gb gr : Nat) (w : World) (hb : Blk w gb 33 #[.slice (some ⟨gr, 0, none⟩) n n]) (hr : RN w gr n r) :
    KeyAt (.func (.func 50) #[] #[.pointer (some ⟨gb, 0, none⟩)]) (fun p => r.getD p 0) (fun p => p < n) w :=
  ⟨_, _, rfl, callF_run Try.func50 rfl rfl, fun W hW p hp => (first_any r n p gb gr W (hb.ext hW) (hr.ext hW) hp)⟩
set_option maxRecDepth 20000 in
set_option maxHeartbeats 4000000 in
theorem second_any (r : List Nat) (n p L gl gn gb gr : Nat) (w : World) (hl : Blk w gl 3 #[.int .i64 (L : Int)]) (hn : Blk w gn 3 #[.int .i64 (n : Int)]) (hb : Blk w gb 33 #[.slice (some ⟨gr, 0, none⟩) n n]) (hr : RN w gr n r) (hp : p < n) (hL : L ≤ 1000000) (hm : n ≤ 1000000) (hx : ∀ i, i < n → r.getD i 0 ≤ 1000000) :
    Calls Try.prog 49 #[.int .i64 (p : Int), .pointer (some ⟨gl, 0, none⟩), .pointer (some ⟨gn, 0, none⟩), .pointer (some ⟨gb, 0, none⟩)] w fun e w' => e = .returned (.int .i64 ((secondN n r L p : Nat) : Int)) ∧ w = w' := by
  have c1 := hl.cell 0
  have c2 := hn.cell 0
  have c3 := hb.cell 0
  have W1 := w64_small (n := (p : Int) + (L : Int)) (by omega) (by omega)
  unfold secondN
  by_cases h : p + L < n
  · have d := hr.2 (p + L) h
    have hxx := hx (p + L) h
    rw [if_pos h]
    have hh : (p : Int) + (L : Int) < (n : Int) := by omega
    have hcast : ((r.getD (p + L) 0 + 1 : Nat) : Int) = ((r.getD (p + L) 0 : Nat) : Int) + 1 := rfl
    rw [hcast]
    clear hr hb hn hl hx hcast
    generalize r.getD (p + L) 0 = x at *
    have W2 := w64_small (n := (x : Int) + 1) (by omega) (by omega)
    go_enter Try.func49, Try.ntmps49
    go_wp2
    go_ret
    exact ⟨rfl, rfl⟩
  · rw [if_neg h]
    have hh : ¬ (p : Int) + (L : Int) < (n : Int) := by omega
    clear hr hb hn hl hx
    go_enter Try.func49, Try.ntmps49
    go_wp2
    go_ret
    exact ⟨rfl, rfl⟩
theorem second_key (r : List Nat) (n L gl gn gb gr : Nat) (w : World) (hl : Blk w gl 3 #[.int .i64 (L : Int)]) (hn : Blk w gn 3 #[.int .i64 (n : Int)]) (hb : Blk w gb 33 #[.slice (some ⟨gr, 0, none⟩) n n]) (hr : RN w gr n r) (hL : L ≤ 1000000) (hm : n ≤ 1000000) (hx : ∀ i, i < n → r.getD i 0 ≤ 1000000) :
    KeyAt (.func (.func 49) #[] #[.pointer (some ⟨gl, 0, none⟩), .pointer (some ⟨gn, 0, none⟩), .pointer (some ⟨gb, 0, none⟩)]) (secondN n r L) (fun p => p < n) w :=
  ⟨_, _, rfl, callF_run Try.func49 rfl rfl, fun W hW p hp => (second_any r n p L gl gn gb gr W (hl.ext hW) (hn.ext hW) (hb.ext hW) (hr.ext hW) hp hL hm hx)⟩
theorem KeyAt.sub {fv : Value} {key : Nat → Nat} {ok ok' : Nat → Prop} {w : World} (h : KeyAt fv key ok w) (hs : ∀ p, ok' p → ok p) : KeyAt fv key ok' w := by
  obtain ⟨f, cap, h1, h0, h2⟩ := h
  exact ⟨f, cap, h1, h0, fun W hW p hp => h2 W hW p (hs p hp)⟩
end Go.Proofs.Yteflhfofahdckaa
