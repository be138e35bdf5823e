/- Several texts in one. merged: DkM DkA DkB DkC -/
import Derived.Test.YtmjkfgpkohfmiaaGreatBut
import Derived.Test.YtmjkfgpkohfmiaaGreatStr
import Derived.Maps.OwnSet
import Derived.Maps.Ext
import Derived.Maps.RangeWalk
import Derived.Test.YtmjkfgpkohfmiaaGreatTgP
import Derived.Test.YtmjkfgpkohfmiaaGreatQuiet
import Derived.Test.YtmjkfgpkohfmiaaGreatMinMax
import Derived.StillTailTactics
import Derived.Test.YtmjkfgpkohfmiaaGreatRowG
import Derived.Shelf.SlIter.Nil
import Derived.Shelf.SortM.Plain
import Derived.Shelf.SortM.SortNone
import Derived.Shelf.SlMaps.Clone
import Derived.Ground.GgzProg
import Derived.Ground.SlgmProg
import Derived.Ground.SlmcProg
namespace Go.Proofs.YtmjkfgpkohfmiaaGreat
set_option linter.unusedVariables false
set_option linter.unusedSimpArgs false
open Go.RowKit Go.ChangeMaps Go.Maps

def dLit (p : List UInt8 × Nat) : Lit × DataW Unit := (.string p.1, .lit (.int .i64 (p.2 : Int)))
def dirD (l : List (List UInt8 × Nat)) : DataW Unit := .map (l.map dLit)
/-- an entry is laid into a row of names -/
def dIns {α : Type} (x : List UInt8 × α) : List (List UInt8 × α) → List (List UInt8 × α)
  | [] => [x]
  | y :: r => if bytesBefore x.1 y.1 = true then x :: y :: r else y :: dIns x r
def dDel {α : Type} (s : List UInt8) (l : List (List UInt8 × α)) : List (List UInt8 × α) := l.filter (fun p => !(p.1 == s))
def dPut {α : Type} (s : List UInt8) (n : α) (l : List (List UInt8 × α)) : List (List UInt8 × α) := dIns (s, n) (dDel s l)
def dGet {α : Type} (s : List UInt8) (l : List (List UInt8 × α)) : Option α := (l.find? (fun p => p.1 == s)).map (·.2)

theorem dirD_del (s : List UInt8) (l : List (List UInt8 × Nat)) : (dirD l).del (.string s) = dirD (dDel s l) := by
  rw [dirD, DataW.del_eq]
  unfold dirD delKey dDel
  rw [List.filter_map]
  rfl
theorem dIns_map (x : List UInt8 × Nat) : ∀ l, (dIns x l).map dLit = DataW.insert (dLit x) (l.map dLit)
  | [] => rfl
  | y :: r => by
    show (if bytesBefore x.1 y.1 = true then x :: y :: r else y :: dIns x r).map dLit = if bytesBefore x.1 y.1 = true then dLit x :: dLit y :: r.map dLit else dLit y :: DataW.insert (dLit x) (r.map dLit)
    split
    · rfl
    · rw [List.map_cons, dIns_map x r]
theorem dirD_put (s : List UInt8) (n : Nat) (l : List (List UInt8 × Nat)) : (dirD l).put (.string s) (.lit (.int .i64 (n : Int))) = dirD (dPut s n l) := by
  rw [dirD, DataW.put_eq]
  unfold dirD putKey dPut dDel
  rw [dIns_map, List.filter_map]
  rfl
theorem dirD_has (s : List UInt8) (l : List (List UInt8 × Nat)) : Maps.has (dirD l) (.string s) = (dGet s l).isSome := by
  unfold dirD dGet
  rw [Maps.has_eq, List.any_map, Option.isSome_map, List.isSome_find?]
  rfl
theorem dirD_size (l : List (List UInt8 × Nat)) : Maps.size (dirD l) = l.length := by
  unfold dirD
  rw [Maps.size_eq, List.length_map]
theorem dirD_at (s : List UInt8) (l : List (List UInt8 × Nat)) (z : DataW Unit) : (dirD l).atKey (.string s) z = match dGet s l with | some n => .lit (.int .i64 (n : Int)) | none => z := by
  unfold dirD dGet DataW.atKey
  simp only [List.find?_map]
  have : ((fun p : Lit × DataW Unit => p.1.sameKey (.string s)) ∘ dLit) = (fun p => p.1 == s) := rfl
  rw [this]
  cases l.find? (fun p => p.1 == s) <;> rfl
theorem dirD_inj {l m : List (List UInt8 × Nat)} (h : dirD l = dirD m) : l = m := by
  unfold dirD at h
  injection h with h
  refine List.map_inj_right (fun a b e => ?_) |>.1 h
  obtain ⟨a1, a2⟩ := a
  obtain ⟨b1, b2⟩ := b
  unfold dLit at e
  injection e with e1 e2
  injection e1 with e1
  injection e2 with e2
  injection e2 with _ e2
  exact Prod.ext e1 (Int.ofNat.inj e2)

/-- the pointer of a file's block, or none -/
def ptrV : Option Nat → Value
  | none => .pointer none
  | some b => .pointer (some ⟨b, 0, none⟩)
def ptrR : Value → Option (DataW Unit × List MemPlace)
  | .pointer none => some (.nil, [])
  | .pointer (some ⟨b, 0, none⟩) => some (.lit (.int .i64 (b : Int)), [])
  | _ => none
theorem ptrR_mk (b : Nat) : ptrR (.pointer (some ⟨b, 0, none⟩)) = some (.lit (.int .i64 (b : Int)), []) := rfl
theorem ptrR_nil : ptrR (.pointer none) = some (.nil, []) := rfl
theorem ptrR_inv {v : Value} {z : DataW Unit × List MemPlace} (h : ptrR v = some z) : (v = .pointer none ∧ z = (.nil, [])) ∨ ∃ b : Nat, v = .pointer (some ⟨b, 0, none⟩) ∧ z = (.lit (.int .i64 (b : Int)), []) := by
  unfold ptrR at h
  split at h
  · injection h with h; exact .inl ⟨rfl, h.symm⟩
  · injection h with h; exact .inr ⟨_, rfl, h.symm⟩
  · cases h
theorem ptrR_get {v : Value} {ps : List MemPlace} {s : List UInt8} {l : List (List UInt8 × Nat)} (h : ptrR v = some ((dirD l).atKey (.string s) .nil, ps)) : v = ptrV (dGet s l) := by
  rw [dirD_at] at h
  cases e : dGet s l with
  | none =>
    rw [e] at h
    rcases ptrR_inv h with ⟨rfl, _⟩ | ⟨b, _, hz⟩
    · rfl
    · injection hz with hz; cases hz
  | some n =>
    rw [e] at h
    rcases ptrR_inv h with ⟨_, hz⟩ | ⟨b, rfl, hz⟩
    · injection hz with hz; cases hz
    · injection hz with hz
      injection hz with hz
      injection hz with _ hz
      have : (n : Nat) = b := Int.ofNat.inj hz
      subst this
      rfl

/-- block m is the directory l -/
def HasDir (w : World) (m : Nat) (l : List (List UInt8 × Nat)) : Prop := w.ownsMap Tryz.prog 9 ptrR m l.length (dirD l)
theorem dir_keyed : Keyed Tryz.prog 9 := string_keyed Tryz.underlying9
theorem key_mk {s : List UInt8} (hs : s.length ≤ maxLen) : keyOf Tryz.prog 9 (.string (S s)) = some (.string s) := by
  have := WideMaps.keyOf_string_mk Tryz.underlying9 (s := S s) (by rw [S_size]; exact hs)
  rw [S_bytes] at this
  exact this
theorem HasDir.of {w : World} {m n : Nat} {l : List (List UInt8 × Nat)} (h : w.ownsMap Tryz.prog 9 ptrR m n (dirD l)) : HasDir w m l := by
  obtain ⟨es, clock, hb, F, hs, hD⟩ := h
  refine ⟨es, clock, hb, F, ?_, hD⟩
  have := congrArg Maps.size hD
  rw [dirD_size, Maps.size_eq, length_sorted, List.length_map, Array.length_toList] at this
  exact Nat.le_of_eq this.symm
theorem HasDir.lt {w : World} {m : Nat} {l : List (List UInt8 × Nat)} (h : HasDir w m l) : m < w.heap.size := World.ownsMap.lt h
theorem HasDir.but {K : List Nat} {w w' : World} {m : Nat} {l : List (List UInt8 × Nat)} (h : HasDir w m l) (x : But K w w') (hm : m ∉ K) : HasDir w' m l := by
  have hlt := h.lt
  obtain ⟨es, clock, hb, r⟩ := h
  exact ⟨es, clock, (x.block m hlt hm).trans hb, r⟩
theorem HasDir.ext {w w' : World} {m : Nat} {l : List (List UInt8 × Nat)} (h : HasDir w m l) (x : Ext w w') : HasDir w' m l := h.but (K := []) (But.of_ext x) (by simp)
theorem But.turned {w w' : World} {m : Nat} (h : w.mapTurned w' m) : But [m] w w' := by
  have g := h.grown
  exact ⟨g.os, g.tape, g.output, g.size, fun k hk hn => g.block k hk (fun e => hn (by injection e with e; simp [e]))⟩
theorem HasDir.made (w : World) : HasDir (w.alloc (.map #[] 0)) w.heap.size [] := World.ownsMap_made w _ _ _
theorem HasDir.canon {w : World} {m : Nat} {l : List (List UInt8 × Nat)} (h : HasDir w m l) : l.Pairwise (fun p q => bytesBefore p.1 q.1 = true) := by
  obtain ⟨es, he, hs, _⟩ := World.ownsMap.canon h dir_keyed
  injection he with he
  subst he
  exact (List.pairwise_map.1 hs).imp (fun h => h)
/-- v, ok := m[s] -/
theorem HasDir.look {w : World} {m : Nat} {l : List (List UInt8 × Nat)} (h : HasDir w m l) {s : List UInt8} (hs : s.length ≤ maxLen) :
    (Instr.lookup 60 (.map (some m)) (.string (S s)) true).run Tryz.prog w = .ok (.tuple #[ptrV (dGet s l), .bool (dGet s l).isSome]) w := by
  obtain ⟨v, ps, hrun, hv⟩ := World.ownsMap.look_ok h dir_keyed Tryz.underlying60 (z := .pointer none) (by kernel_rfl) ptrR_nil (key_mk hs)
  rw [hrun, ptrR_get hv, dirD_has]
/-- m[s] -/
theorem HasDir.get {w : World} {m : Nat} {l : List (List UInt8 × Nat)} (h : HasDir w m l) {s : List UInt8} (hs : s.length ≤ maxLen) :
    (Instr.lookup 60 (.map (some m)) (.string (S s)) false).run Tryz.prog w = .ok (ptrV (dGet s l)) w := by
  obtain ⟨v, ps, hrun, hv⟩ := World.ownsMap.lookup h dir_keyed Tryz.underlying60 (z := .pointer none) (by kernel_rfl) ptrR_nil (key_mk hs)
  rw [hrun, ptrR_get hv]
/-- len(m) -/
theorem HasDir.len {w : World} {m : Nat} {l : List (List UInt8 × Nat)} (h : HasDir w m l) :
    (Builtin.len_ #[60] 3 #[.map (some m)]).run Tryz.prog w = .ok (.int .i64 (l.length : Int)) w := by
  have := World.ownsMap.len h Tryz.underlying60 3
  rw [dirD_size] at this
  exact this
section

variable (w : World) {ops : Array Oper} {rest : List Oper} {o : Oper} {a : Act} {Q : Exit → Act → World → Prop}

/-- delete(m, s) -/
theorem wpList_dirDel (hg : o.guard = none) (m x : Operand) (hop : o.op = Op.call { callee := Callee.builtin Builtin.delete, args := #[m, x], argTypes := #[60, 9] })
    {b : Nat} {l : List (List UInt8 × Nat)} (hm : a.eval m = .map (some b)) (h : HasDir w b l) {s : List UInt8} (hx : a.eval x = .string (S s)) (hs : s.length ≤ maxLen)
    (hK : ∀ w', HasDir w' b (dDel s l) → But [b] w w' → w'.heap.size = w.heap.size → wpList Tryz.prog ops Q rest (a.put o.dst (.tuple #[])) w') :
    wpList Tryz.prog ops Q (o :: rest) a w := by
  refine wpList_delete_own w hg m x 60 9 hop _ dir_keyed Tryz.underlying60 ptrR b _ (dirD l) hm h _ (.string s) hx (key_mk hs) ?_
  intro w' h1 h2
  rw [dirD_del] at h1
  obtain ⟨es, clock, es', clock', hb, rfl⟩ := id h2
  exact hK _ (HasDir.of h1) (But.turned h2) (by simp [setBlock])
/-- m[s] = f -/
theorem wpList_dirPut (hg : o.guard = none) (m x v : Operand) (hop : o.op = Op.mapUpdate 60 m x v)
    {b : Nat} {l : List (List UInt8 × Nat)} (hm : a.eval m = .map (some b)) (h : HasDir w b l) (hn : l.length < maxLen) {s : List UInt8} {f : Nat} (hx : a.eval x = .string (S s)) (hv : a.eval v = .pointer (some ⟨f, 0, none⟩)) (hs : s.length ≤ maxLen)
    (hK : ∀ w', HasDir w' b (dPut s f l) → But [b] w w' → w'.heap.size = w.heap.size → wpList Tryz.prog ops Q rest (a.put o.dst undef) w') :
    wpList Tryz.prog ops Q (o :: rest) a w := by
  refine wpList_mapUpdate_in w hg m x v 60 hop 9 _ dir_keyed Tryz.underlying60 ptrR b _ (dirD l) hm h hn _ _ (.string s) hx hv (key_mk hs) _ _ (ptrR_mk f) ?_
  intro w' h1 h2
  rw [dirD_put] at h1
  obtain ⟨es, clock, es', clock', hb, rfl⟩ := id h2
  exact hK _ (HasDir.of h1) (But.turned h2) (by simp [setBlock])
end

end Go.Proofs.YtmjkfgpkohfmiaaGreat
namespace Go.Proofs.YtmjkfgpkohfmiaaGreat
set_option linter.unusedVariables false
set_option linter.unusedSimpArgs false
open Go.RowKit

/-- a disk's cells -/
def dskC (mn ms : Nat) (cv : Value) (cap ops armed : Int) (off : Bool) : Array Value :=
  #[.map (some mn), .map (some ms), cv, .int .i64 cap, .int .i64 ops, .int .i64 armed, .bool off, .bool true]
def DskB (w : World) (b mn ms : Nat) (cv : Value) (cap ops armed : Int) (off : Bool) : Prop := Blk w b 63 (dskC mn ms cv cap ops armed off)
section

variable {w : World} {b mn ms : Nat} {cv : Value} {cap ops armed : Int} {off : Bool}

theorem DskB.c0 (h : DskB w b mn ms cv cap ops armed off) : w.cell? ⟨b, 0, none⟩ = some (.map (some mn)) := Blk.cell h 0
theorem DskB.c1 (h : DskB w b mn ms cv cap ops armed off) : w.cell? ⟨b, 1, none⟩ = some (.map (some ms)) := Blk.cell h 1
theorem DskB.c2 (h : DskB w b mn ms cv cap ops armed off) : w.cell? ⟨b, 2, none⟩ = some cv := Blk.cell h 2
theorem DskB.c3 (h : DskB w b mn ms cv cap ops armed off) : w.cell? ⟨b, 3, none⟩ = some (.int .i64 cap) := Blk.cell h 3
theorem DskB.c4 (h : DskB w b mn ms cv cap ops armed off) : w.cell? ⟨b, 4, none⟩ = some (.int .i64 ops) := Blk.cell h 4
theorem DskB.c5 (h : DskB w b mn ms cv cap ops armed off) : w.cell? ⟨b, 5, none⟩ = some (.int .i64 armed) := Blk.cell h 5
theorem DskB.c6 (h : DskB w b mn ms cv cap ops armed off) : w.cell? ⟨b, 6, none⟩ = some (.bool off) := Blk.cell h 6
theorem DskB.c7 (h : DskB w b mn ms cv cap ops armed off) : w.cell? ⟨b, 7, none⟩ = some (.bool true) := Blk.cell h 7
theorem DskB.fr (h : DskB w b mn ms cv cap ops armed off) (i : Nat) : w.frozen? ⟨b, i, none⟩ = false := Blk.frozen h i
theorem DskB.s0 (h : DskB w b mn ms cv cap ops armed off) (x : Nat) : DskB (w.setCell ⟨b, 0, none⟩ (.map (some x))) b x ms cv cap ops armed off := Blk.set_ h 0 _
theorem DskB.s1 (h : DskB w b mn ms cv cap ops armed off) (x : Nat) : DskB (w.setCell ⟨b, 1, none⟩ (.map (some x))) b mn x cv cap ops armed off := Blk.set_ h 1 _
theorem DskB.s2 (h : DskB w b mn ms cv cap ops armed off) (x : Value) : DskB (w.setCell ⟨b, 2, none⟩ x) b mn ms x cap ops armed off := Blk.set_ h 2 _
theorem DskB.s4 (h : DskB w b mn ms cv cap ops armed off) (x : Int) : DskB (w.setCell ⟨b, 4, none⟩ (.int .i64 x)) b mn ms cv cap x armed off := Blk.set_ h 4 _
theorem DskB.s5 (h : DskB w b mn ms cv cap ops armed off) (x : Int) : DskB (w.setCell ⟨b, 5, none⟩ (.int .i64 x)) b mn ms cv cap ops x off := Blk.set_ h 5 _
theorem DskB.s6 (h : DskB w b mn ms cv cap ops armed off) (x : Bool) : DskB (w.setCell ⟨b, 6, none⟩ (.bool x)) b mn ms cv cap ops armed x := Blk.set_ h 6 _
end

set_option maxRecDepth 20000 in
theorem up_any {w : World} {b mn ms : Nat} {cv : Value} {cap ops armed : Int} {off : Bool} (h : DskB w b mn ms cv cap ops armed off) :
    Calls Tryz.prog 33 #[.pointer (some ⟨b, 0, none⟩)] w fun e w' => e = .returned (.int .i64 (if off then 200 else 0)) ∧ w = w' := by
  have c6 := h.c6
  have c7 := h.c7
  cases off
  all_goals
    go_enter Tryz.func33, Tryz.ntmps33
    go_wp2
    go_ret
    exact ⟨rfl, rfl⟩
set_option maxRecDepth 20000 in
theorem up_nil (w : World) :
    Calls Tryz.prog 33 #[.pointer none] w fun e w' => e = .returned (.int .i64 1) ∧ w = w' := by
  go_enter Tryz.func33, Tryz.ntmps33
  go_wp2
  go_ret
  exact ⟨rfl, rfl⟩
set_option maxRecDepth 20000 in
theorem up_zero {w : World} {b : Nat} (c7 : w.cell? ⟨b, 7, none⟩ = some (.bool false)) :
    Calls Tryz.prog 33 #[.pointer (some ⟨b, 0, none⟩)] w fun e w' => e = .returned (.int .i64 1) ∧ w = w' := by
  go_enter Tryz.func33, Tryz.ntmps33
  go_wp2
  go_ret
  exact ⟨rfl, rfl⟩

/-- a function that has a body is entered -/
def Ent (n : Nat) : Prop := ∀ args w, (callFunc n args).run Tryz.prog w = .ok (.enter n args) w
theorem ent_of {f : FuncId} {fn : Func} {c : Code} (hf : Tryz.prog.funcs[f]? = some fn) (hname : (fn.name == "runtime.NumGoroutine") = false) (hb : fn.body = some c) : Ent f := by
  intro args w
  have h1 : fn.name ≠ "runtime.NumGoroutine" := by simpa using hname
  simp [callFunc, hf, h1, hb]

/-- the world where an op is done -/
def opW (w : World) (b : Nat) (ops armed : Int) : World := (w.setCell ⟨b, 4, none⟩ (.int .i64 ops)).setCell ⟨b, 5, none⟩ (.int .i64 armed)
theorem opW_dsk {w : World} {b mn ms : Nat} {cv : Value} {cap ops armed : Int} {off : Bool} (h : DskB w b mn ms cv cap ops armed off) (x y : Int) : DskB (opW w b x y) b mn ms cv cap x y off := (h.s4 x).s5 y
theorem opW_but (w : World) (b : Nat) (x y : Int) : But [b] w (opW w b x y) := ((But.refl [b] w).set (List.mem_singleton.2 rfl) _).set (List.mem_singleton.2 rfl) _
theorem opW_size (w : World) (b : Nat) (x y : Int) : (opW w b x y).heap.size = w.heap.size := by simp [opW, World.setCell]

section

variable {w : World} {b mn ms : Nat} {cv : Value} {cap ops armed : Int} {off : Bool} (h : DskB w b mn ms cv cap ops armed off) (ho : 0 ≤ ops) (ho2 : ops ≤ 4611686018427387904) (ha : 0 ≤ armed) (ha2 : armed ≤ 9223372036854775807)

include h ho ho2 ha ha2

set_option maxRecDepth 20000 in
set_option maxHeartbeats 1000000 in
/-- an op that is not the armed one -/
theorem op_plain (hne : armed ≠ 1) (syncs : Bool) (n : Nat) (hn : Ent n) (bound caps : Array Value) (R : World → Prop)
    (hc : Calls Tryz.prog n (bound ++ caps) (opW w b (ops + 1) (max (armed - 1) 0)) fun e w' => e = .returned (.tuple #[]) ∧ R w') :
    Calls Tryz.prog 52 #[.pointer (some ⟨b, 0, none⟩), .bool syncs, .func (.func n) bound caps] w fun e w' => e = .returned (.int .i64 0) ∧ R w' := by
  have HC := Lib.hid hc
  have c4 := h.c4
  have c5 := h.c5
  have f4 := h.fr 4
  have f5 := h.fr 5
  obtain ⟨m, hm⟩ : ∃ m, m = max (armed - 1) 0 := ⟨_, rfl⟩
  have hmr := max2_run (armed - 1) 0 m hm
  have e1 : IntKind.i64.wrap (ops + 1) = ops + 1 := by rw [IntKind.wrap_i64]; omega
  have e2 : IntKind.i64.wrap (armed - 1) = armed - 1 := by rw [IntKind.wrap_i64]; omega
  have hb : (armed == 1) = false := by simpa using hne
  rw [← hm] at HC
  clear hm hc
  go_enter Tryz.func52, Tryz.ntmps52
  go_wp2_with fail
  rw [hn, Oper.upon_enter]
  refine HC.out.mono ?_
  rintro _ w1 ⟨rfl, hR⟩
  go_wp2
  go_ret
  exact ⟨rfl, hR⟩
set_option maxRecDepth 20000 in
set_option maxHeartbeats 1000000 in
/-- the armed one, which does not sync -/
theorem op_last (he : armed = 1) (n : Nat) (hn : Ent n) (bound caps : Array Value) (R : World → Prop)
    (hR : ∀ w1, R w1 → ∃ c, w1.cell? ⟨b, 6, none⟩ = some c ∧ w1.frozen? ⟨b, 6, none⟩ = false)
    (hc : Calls Tryz.prog n (bound ++ caps) (opW w b (ops + 1) 0) fun e w' => e = .returned (.tuple #[]) ∧ R w') :
    Calls Tryz.prog 52 #[.pointer (some ⟨b, 0, none⟩), .bool false, .func (.func n) bound caps] w fun e w' => e = .returned (.int .i64 200) ∧ ∃ w1, R w1 ∧ w' = w1.setCell ⟨b, 6, none⟩ (.bool true) := by
  subst he
  have HC := Lib.hid hc
  have HR := Lib.hid hR
  have c4 := h.c4
  have c5 := h.c5
  have f4 := h.fr 4
  have f5 := h.fr 5
  have hmr := max2_run 0 0 0 rfl
  have e1 : IntKind.i64.wrap (ops + 1) = ops + 1 := by rw [IntKind.wrap_i64]; omega
  clear hc hR
  go_enter Tryz.func52, Tryz.ntmps52
  go_wp2_with fail
  rw [hn, Oper.upon_enter]
  refine HC.out.mono ?_
  rintro _ w1 ⟨rfl, hR⟩
  obtain ⟨c, c6, f6⟩ := HR.out w1 hR
  go_wp2
  go_ret
  exact ⟨rfl, w1, hR, rfl⟩
set_option maxRecDepth 20000 in
set_option maxHeartbeats 1000000 in
/-- the armed one, which syncs -/
theorem op_lost (he : armed = 1) (n : Nat) (bound caps : Array Value) :
    Calls Tryz.prog 52 #[.pointer (some ⟨b, 0, none⟩), .bool true, .func (.func n) bound caps] w fun e w' => e = .returned (.int .i64 200) ∧ w' = (opW w b (ops + 1) 0).setCell ⟨b, 6, none⟩ (.bool true) := by
  subst he
  have c4 := h.c4
  have c5 := h.c5
  have c6 := h.c6
  have f4 := h.fr 4
  have f5 := h.fr 5
  have f6 := h.fr 6
  have hmr := max2_run 0 0 0 rfl
  have e1 : IntKind.i64.wrap (ops + 1) = ops + 1 := by rw [IntKind.wrap_i64]; omega
  go_enter Tryz.func52, Tryz.ntmps52
  go_wp2
  go_ret
  exact ⟨rfl, rfl⟩
end

end Go.Proofs.YtmjkfgpkohfmiaaGreat
namespace Go.Proofs.YtmjkfgpkohfmiaaGreat
set_option linter.unusedVariables false
set_option linter.unusedSimpArgs false
open Go.RowKit

attribute [local go_sem] S_size S_toList S_append S_extract S_beq S_bne S_empty S_nil

/-- a directory behind a change -/
def dApply {α : Type} (l : List (List UInt8 × α)) (to fr : List UInt8) (o : Option α) : List (List UInt8 × α) :=
  match o with
  | none => if fr = [] then l else dDel fr l
  | some n => dPut to n (if fr = [] then l else dDel fr l)
def chgV (to fr : List UInt8) (o : Option Nat) : Value := .agg #[.string (S to), .string (S fr), ptrV o]
theorem dDel_length {α : Type} (s : List UInt8) (l : List (List UInt8 × α)) : (dDel s l).length ≤ l.length := List.length_filter_le _ _
theorem dIns_length {α : Type} (x : List UInt8 × α) : ∀ l, (dIns x l).length = l.length + 1
  | [] => rfl
  | y :: r => by
    show (if bytesBefore x.1 y.1 = true then x :: y :: r else y :: dIns x r).length = _
    split
    · rfl
    · rw [List.length_cons, dIns_length x r]; rfl
theorem dPut_length {α : Type} (s : List UInt8) (n : α) (l : List (List UInt8 × α)) : (dPut s n l).length ≤ l.length + 1 := by
  unfold dPut; rw [dIns_length]; have := dDel_length s l; omega

set_option maxRecDepth 20000 in
set_option maxHeartbeats 1000000 in
theorem apply_any {w : World} {m : Nat} {l : List (List UInt8 × Nat)} (h : HasDir w m l) (to fr : List UInt8) (o : Option Nat) (ht : to.length ≤ maxLen) (hf : fr.length ≤ maxLen) (hl : l.length < maxLen) :
    Calls Tryz.prog 38 #[.map (some m), chgV to fr o] w fun e w' => e = .returned (.tuple #[]) ∧ HasDir w' m (dApply l to fr o) ∧ But [m] w w' := by
  unfold chgV
  have H1 := Lib.hid (h.ext ((Ext.refl w).alloc (.cells #[.string (S to), .string (S fr), ptrV o] 80)))
  have hmlt := Lib.hid h.lt
  by_cases h1 : fr = []
  · subst h1
    cases o with
    | none =>
      have E := Lib.hid (show dApply l to [] none = l from by simp [dApply])
      simp only [ptrV] at H1 ⊢
      go_enter Tryz.func38, Tryz.ntmps38
      go_wp2
      exact bodyPost_end (v := .tuple #[]) (by simp [results, Tryz.results38]) rfl ⟨rfl, by rw [E.out]; exact H1.out, But.of_ext ((Ext.refl _).alloc _)⟩
    | some f =>
      have E := Lib.hid (show dApply l to [] (some f) = dPut to f l from by unfold dApply; simp)
      simp only [ptrV] at H1 ⊢
      go_enter Tryz.func38, Tryz.ntmps38
      go_wp2_with (first | (at_mapUpdate; refine wpList_dirPut _ rfl _ _ _ rfl rfl H1.out hl (f := f) rfl rfl ht ?_; intro w2 h2 b2 s2) | go_in)
      exact bodyPost_end (v := .tuple #[]) (by simp [results, Tryz.results38]) rfl ⟨rfl, by rw [E.out]; exact h2, (But.of_ext ((Ext.refl _).alloc _)).trans b2⟩
  · have hb1 : (fr == []) = false := by simpa using h1
    have hb2 : (fr != []) = true := by simpa using h1
    cases o with
    | none =>
      have E := Lib.hid (show dApply l to fr none = dDel fr l from by simp [dApply, h1])
      simp only [ptrV] at H1 ⊢
      go_enter Tryz.func38, Tryz.ntmps38
      go_wp2_with (first | (at_delete; refine wpList_dirDel _ rfl _ _ rfl rfl H1.out rfl hf ?_; intro w2 h2 b2 s2; have c2 : w2.cell? ⟨w.heap.size, 2, none⟩ = some (.pointer none) := ((Blk.new w _ _).but b2 (by have := hmlt.out; simp; omega)).cell 2) | go_in)
      exact bodyPost_end (v := .tuple #[]) (by simp [results, Tryz.results38]) rfl ⟨rfl, by rw [E.out]; exact h2, (But.of_ext ((Ext.refl _).alloc _)).trans b2⟩
    | some f =>
      have E := Lib.hid (show dApply l to fr (some f) = dPut to f (dDel fr l) from by unfold dApply; simp [h1])
      have hl2 := Lib.hid (Nat.lt_of_le_of_lt (dDel_length fr l) hl)
      simp only [ptrV] at H1 ⊢
      go_enter Tryz.func38, Tryz.ntmps38
      go_wp2_with (first | (at_delete; refine wpList_dirDel _ rfl _ _ rfl rfl H1.out rfl hf ?_; intro w2 h2 b2 s2; have B2 := (Blk.new w 80 #[.string (S to), .string (S fr), .pointer (some ⟨f, 0, none⟩)]).but b2 (by have := hmlt.out; simp; omega); have c0 : w2.cell? ⟨w.heap.size, 0, none⟩ = some (.string (S to)) := B2.cell 0; have c2 : w2.cell? ⟨w.heap.size, 2, none⟩ = some (.pointer (some ⟨f, 0, none⟩)) := B2.cell 2) | (at_mapUpdate; refine wpList_dirPut _ rfl _ _ _ rfl rfl h2 hl2.out (f := f) rfl rfl ht ?_; intro w3 h3 b3 s3) | go_in)
      exact bodyPost_end (v := .tuple #[]) (by simp [results, Tryz.results38]) rfl ⟨rfl, by rw [E.out]; exact h3, ((But.of_ext ((Ext.refl _).alloc _)).trans b2).trans b3⟩

set_option maxRecDepth 20000 in
theorem find_any {w : World} {b mn ms : Nat} {cv : Value} {cap ops armed : Int} {off : Bool} (h : DskB w b mn ms cv cap ops armed off) {l : List (List UInt8 × Nat)} (hd : HasDir w mn l) (s : List UInt8) (hs : s.length ≤ maxLen) :
    Calls Tryz.prog 51 #[.pointer (some ⟨b, 0, none⟩), .string (S s)] w fun e w' =>
      e = .returned (.tuple #[if off then .pointer none else ptrV (dGet s l), .int .i64 (if off then 200 else if (dGet s l).isSome then 0 else 201)]) ∧ w = w' := by
  have c0 := h.c0
  have q := Lib.hid (up_any h)
  have hl := hd.look hs
  cases off
  · cases hg : dGet s l with
    | none =>
      rw [hg] at hl
      simp only [ptrV, Option.isSome_none] at hl
      go_enter Tryz.func51, Tryz.ntmps51
      go_wp2_with fail
      refine q.out.mono ?_
      rintro _ w1 ⟨rfl, rfl⟩
      go_wp2
      go_ret2
      exact ⟨rfl, rfl⟩
    | some f =>
      rw [hg] at hl
      simp only [ptrV, Option.isSome_some] at hl
      go_enter Tryz.func51, Tryz.ntmps51
      go_wp2_with fail
      refine q.out.mono ?_
      rintro _ w1 ⟨rfl, rfl⟩
      go_wp2
      go_ret2
      exact ⟨rfl, rfl⟩
  · go_enter Tryz.func51, Tryz.ntmps51
    go_wp2_with fail
    refine q.out.mono ?_
    rintro _ w1 ⟨rfl, rfl⟩
    go_wp2
    go_ret2
    exact ⟨rfl, rfl⟩
end Go.Proofs.YtmjkfgpkohfmiaaGreat
namespace Go.Proofs.YtmjkfgpkohfmiaaGreat
set_option linter.unusedVariables false
set_option linter.unusedSimpArgs false
open Go.RowKit Go.Maps Go.Sort Go.Shelf

shelf_lay_g SlLaysZ.n7 Ggz 7 at Tryz 74 as layKeys
shelf_lay_g SlLaysZ.n6 Ggz 6 at Tryz 73 as laySorted
shelf_lay_g SlLaysM.n6 Slgm 6 at Tryz 59 as laySort
shelf_lay_g SlLaysW.n5 Slmc 5 at Tryz 37 as layClone

theorem clone_any {w : World} {m : Nat} {l : List (List UInt8 × Nat)} (h : HasDir w m l) :
    Calls Tryz.prog 37 #[.map (some m)] w fun e w' => e = .returned (.map (some w.heap.size)) ∧ HasDir w' w.heap.size l ∧ Ext w w' :=
  (AnyW.maps_Clone_owns layClone 9 ptrR m l.length (dirD l) w h).mono fun e w' ⟨he, h1, h2, h3⟩ => ⟨he, h1, h3⟩

theorem sorts_any (m : Nat) : AnyZ.SortsIn Tryz.prog laySorted_ren Fence.wide m :=
  ⟨fun blk off cap ss W hH hblk hsz => callsIn_wide.2 (AnyM.slices_Sort_string laySort blk off cap ss W hH hblk hsz),
   fun p cap W => callsIn_wide.2 (AnyM.slices_Sort_string_none laySort p cap W)⟩
theorem keys_any (mb : Option Nat) (W : World) : CallsIn Fence.wide 5 Tryz.prog 74 #[.map mb] W fun e w' => e = .returned (.func (.func 105) #[] #[.pointer (some ⟨W.heap.size, 0, none⟩)]) ∧ w' = W.alloc (.cells #[.map mb] 60) :=
  AnyZ.keys_in layKeys Fence.wide 5 trivial rfl mb W
set_option maxHeartbeats 1000000 in
theorem sorted_any {H : Type} (b nn : Nat) (D0 : DataW H) (R : Value → Option (DataW H × List MemPlace)) (w : World) (hown : w.ownsMap Tryz.prog 9 R b nn D0) (hmax : Maps.size D0 ≤ maxLen) (hbytes : Maps.size D0 * 16 ≤ 140737488355328) :
    CallsIn Fence.wide 5 Tryz.prog 73 #[.func (.func 105) #[] #[.pointer (some ⟨w.heap.size, 0, none⟩)]] (w.alloc (.cells #[.map (some b)] 60)) fun e w' => ∃ (v : Value) (ss : List (List UInt8)), e = .returned v ∧ ss.Perm (strKeys D0) ∧
      w'.ownsRow (w.alloc (.cells #[.map (some b)] 60)).heap.size 9 1 v ss.length ((ss.mergeSort (fun x y => decide (x ≤ y))).map encStr) ∧ (v = .slice none 0 0 ↔ ss = []) ∧ Below (w.alloc (.cells #[.map (some b)] 60)).heap.size (w.alloc (.cells #[.map (some b)] 60)) w' := by
  have hbl := hown.lt
  have hseq : SeqGives Fence.wide 2 Tryz.prog 105 #[.pointer (some ⟨w.heap.size, 0, none⟩)] encStr (fun ss => ss.Perm (strKeys D0)) (Maps.size D0) (w.alloc (.cells #[.map (some b)] 60)) :=
    AnyZ.keys_gives (ρ := layKeys_ren) { layKeys with } Fence.wide _ trivial rfl (by omega) w.heap.size b nn D0 _ (by simp) (by simp) (by
      obtain ⟨es, clock, hb, Ft, hs, hD⟩ := hown
      exact ⟨es, clock, (Below.heap_alloc _ _ b hbl).trans hb, Ft, hs, hD⟩)
  exact AnyZ.sorted_in laySorted Fence.wide 5 trivial trivial trivial trivial rfl (by omega) (sorts_any _) (enters_of Tryz.func59 (by kernel_rfl) rfl) 105 #[.pointer (some ⟨w.heap.size, 0, none⟩)] trivial (enters_of Tryz.func105 (by kernel_rfl) rfl) _ _ hmax hbytes _ hseq

theorem before_le : ∀ {a b : List UInt8}, bytesBefore a b = true → a ≤ b
  | [], [], h => by cases h
  | [], _ :: _, _ => List.nil_le _
  | _ :: _, [], h => by cases h
  | a :: r, b :: s, h => by
    simp only [bytesBefore, Bool.or_eq_true, decide_eq_true_eq, Bool.and_eq_true, beq_iff_eq] at h
    rw [List.cons_le_cons_iff]
    rcases h with h | ⟨rfl, h⟩
    · exact .inl h
    · exact .inr ⟨rfl, before_le h⟩
theorem keys_sorted {l : List (List UInt8 × Nat)} (hc : l.Pairwise (fun p q => bytesBefore p.1 q.1 = true)) {ss : List (List UInt8)} (h : ss.Perm (strKeys (dirD l))) : ss.mergeSort (fun x y => decide (x ≤ y)) = l.map (·.1) := by
  have e : strKeys (dirD l) = l.map (·.1) := by
    unfold dirD strKeys
    simp only [List.map_map]
    rfl
  rw [show ss.mergeSort (fun x y => decide (x ≤ y)) = _ from mergeSort_of_perm h, e]
  refine List.mergeSort_of_pairwise ?_
  rw [List.pairwise_map]
  exact hc.imp (fun h => by simpa [leB] using before_le h)

/-- a row of names, made by the call -/
def SW (w : World) (B : Nat) (v : Value) (l : List (List UInt8)) : Prop := RW w B 9 v (l.map fun s => .string (S s))
set_option maxHeartbeats 1000000 in
set_option maxRecDepth 20000 in
theorem names_any {w : World} {m : Nat} {l : List (List UInt8 × Nat)} (h : HasDir w m l) (hl : l.length ≤ 1000000) :
    Calls Tryz.prog 39 #[.map (some m)] w fun e w' => ∃ v, e = .returned v ∧ SW w' w.heap.size v (l.map (·.1)) ∧ (v = .slice none 0 0 ↔ l = []) ∧ Ext w w' := by
  have hsz : Maps.size (dirD l) = l.length := dirD_size l
  have hb : l.length * 16 ≤ 140737488355328 := by omega
  have hm : l.length ≤ maxLen := by unfold maxLen; omega
  refine (callsIn_wide (n := 6)).1 ?_
  have hfK : Fence.wide.fn 74 := trivial
  have hfS : Fence.wide.fn 73 := trivial
  refine callsIn_of_wp Tryz.func39 rfl trivial ?_ rfl
  simp only [Tryz.ntmps39, List.size_toArray, List.length_cons, List.length_nil, Nat.reduceAdd, Nat.reduceSub, Array.replicate_succ, Array.replicate_zero, List.push_toArray, List.append_toArray, List.nil_append, List.cons_append]
  gi_wp2_with (first
    | (gi_at_call 74; refine (keys_any _ _).mono ?_; rintro e w' ⟨rfl, rfl⟩)
    | (gi_at_call 73; refine (sorted_any m l.length (dirD l) ptrR w h (by rw [hsz]; exact hm) (by rw [hsz]; exact hb)).mono ?_; rintro e w' ⟨v, ss, rfl, hS, hrow, hnil, hb⟩))
  go_ret
  have hk := keys_sorted h.canon hS
  rw [hk] at hrow
  have hlen : ss.length = l.length := by
    have := congrArg List.length hk
    rwa [List.length_mergeSort, List.length_map] at this
  refine ⟨v, rfl, ?_, ?_, ((Ext.refl w).alloc _).trans hb⟩
  · unfold SW RW
    rw [List.length_map, List.length_map, List.map_map]
    rw [hlen, List.map_map] at hrow
    exact Go.Joins.ownsRow_le hrow (by simp)
  · rw [hnil]
    constructor
    · intro e; subst e; exact List.eq_nil_of_length_eq_zero hlen.symm
    · intro e; subst e; exact List.eq_nil_of_length_eq_zero hlen
end Go.Proofs.YtmjkfgpkohfmiaaGreat
