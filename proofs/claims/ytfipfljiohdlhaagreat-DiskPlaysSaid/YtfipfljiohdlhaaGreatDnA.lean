/- The document's disk in memory; counted, told. -/
import Derived.Test.YtfipfljiohdlhaaGreatMgU
import Derived.Test.YtfipfljiohdlhaaGreatRfA
namespace Go.Proofs.YtfipfljiohdlhaaGreat
set_option linter.unusedVariables false
set_option linter.unusedSimpArgs false
open Go.RowKit
attribute [local go_sem] S_size S_toList S_append S_extract S_beq S_bne S_empty S_nil
variable {K : List Nat}

def fC (f : List UInt8 × List UInt8) : List Value := [.string (S f.1), .string (S f.2)]
def eC (p : List UInt8 × Nat) : List Value := [.string (S p.1), .int .i64 (p.2 : Int)]
def rC (c : List UInt8 × List UInt8 × Option Nat) : List Value := [.string (S c.2.1), .string (S c.1), .int .i64 ((c.2.2.getD 0 : Nat) : Int)]
/-- the four slices of the document's disk -/
structure V4 where
  fs : Value
  dir : Value
  safe : Value
  chs : Value
/-- the slice, unless it is empty, lies in none of the blocks K -/
def Fr (K : List Nat) (v : Value) : Prop := ∀ p n c, v = .slice (some p) n c → 0 < n → p.block ∉ K
theorem Fr.new {K : List Nat} {B g o n c : Nat} {s : Option Nat} (hK : ∀ k ∈ K, k < B) (hg : B ≤ g) : Fr K (.slice (some ⟨g, o, s⟩) n c) := fun p n c e _ => by
  injection e with e _ _
  injection e with e
  subst e
  exact fun hm => absurd (hK _ hm) (Nat.not_lt.2 hg)
def RK {α : Type} (K : List Nat) (f : α → List Value) (s : Nat) (w : World) (v : Value) (l : List α) : Prop := RR f s w v l ∧ Fr K v
theorem RK.ext {α : Type} {K : List Nat} {f : α → List Value} {s : Nat} {w w' : World} {v : Value} {l : List α} (h : RK K f s w v l) (x : Ext w w') : RK K f s w' v l := ⟨h.1.ext x, h.2⟩
theorem RK.nil {α : Type} {K : List Nat} {f : α → List Value} {s : Nat} (w : World) : RK K f s w (.slice none 0 0) ([] : List α) := ⟨RR.nil w, fun p n c e _ => by cases e⟩
theorem WR.rk {α : Type} {K : List Nat} {f : α → List Value} {s : Nat} {w : World} {B : Nat} {e : TypeId} {v : Value} {l : List α} (hf : ∀ x, (f x).length = s) (h : WR f s w B e v l) (hK : ∀ k ∈ K, k < B) : RK K f s w v l := by
  refine ⟨WR.rr hf h, ?_⟩
  rcases h.2 with ⟨rfl, _⟩ | ⟨g, cap, cur, rfl, hg, _⟩
  · exact fun p n c e _ => by cases e
  · exact Fr.new hK hg
structure RefD (K : List Nat) (w : World) (v : V4) (d : Dsk) : Prop where
  fs : RK K fC 2 w v.fs d.files
  dir : RK K eC 2 w v.dir d.dir
  safe : RK K eC 2 w v.safe d.safe
  chs : RK K rC 3 w v.chs d.chs
theorem RefD.ext {w w' : World} {v : V4} {d : Dsk} (h : RefD K w v d) (x : Ext w w') : RefD K w' v d := ⟨h.fs.ext x, h.dir.ext x, h.safe.ext x, h.chs.ext x⟩
def refV (v : V4) (d : Dsk) : Value := .agg #[v.fs, v.dir, v.safe, v.chs, .int .i64 d.cap, .int .i64 d.ops, .int .i64 d.armed, .bool d.dead]
theorem rr_sl {α : Type} {f : α → List Value} {s : Nat} {w : World} {v : Value} {l : List α} (h : RR f s w v l) : ∃ a c, v = .slice a l.length c := by
  obtain ⟨a, c, e, _⟩ := h
  exact ⟨a, c, e⟩
theorem told_any (b : Bool) (w : World) : Calls Tryz.prog 66 #[.bool b] w fun e w' => e = .returned (.int .i64 (if b = true then 200 else 0)) ∧ Ext w w' := by
  cases b
  · go_enter Tryz.func66, Tryz.ntmps66
    go_wp2
    go_ret
    exact ⟨rfl, Ext.refl _⟩
  · go_enter Tryz.func66, Tryz.ntmps66
    go_wp2
    go_ret
    exact ⟨rfl, Ext.refl _⟩
theorem tld_told (d : Dsk) : (if (d.armed == 1) = true then (200 : Int) else 0) = d.tld := by
  unfold Dsk.tld
  by_cases h : d.armed = 1 <;> simp [h]
/-- a disk whose slices are written out -/
theorem RefD.open_ {w : World} {v : V4} {d : Dsk} (h : RefD K w v d) : ∃ aF cF aD cD aS cS aC cC, v = ⟨.slice aF d.files.length cF, .slice aD d.dir.length cD, .slice aS d.safe.length cS, .slice aC d.chs.length cC⟩ := by
  obtain ⟨vF, vD, vS, vC⟩ := v
  obtain ⟨aF, cF, e1⟩ := rr_sl h.fs.1
  obtain ⟨aD, cD, e2⟩ := rr_sl h.dir.1
  obtain ⟨aS, cS, e3⟩ := rr_sl h.safe.1
  obtain ⟨aC, cC, e4⟩ := rr_sl h.chs.1
  dsimp only at e1 e2 e3 e4
  subst e1 e2 e3 e4
  exact ⟨_, _, _, _, _, _, _, _, rfl⟩
set_option maxRecDepth 20000 in
set_option maxHeartbeats 1000000 in
theorem counted_any {w : World} {v : V4} {d : Dsk} (h : RefD K w v d) (hd : d.dead = false) (ho : 0 ≤ d.ops ∧ d.ops ≤ 100000000) (ha : 0 ≤ d.armed ∧ d.armed ≤ 9223372036854775807) :
    Calls Tryz.prog 64 #[refV v d] w fun e w' => e = .returned (.tuple #[refV v d.cnt, .bool (d.armed == 1)]) ∧ Ext w w' := by
  obtain ⟨aF, cF, aD, cD, aS, cS, aC, cC, rfl⟩ := h.open_
  clear h
  obtain ⟨files, dir, safe, chs, cap, ops, armed, dead⟩ := d
  simp only [refV, Dsk.cnt] at *
  subst hd
  generalize files.length = nF at *
  generalize dir.length = nD at *
  generalize safe.length = nS at *
  generalize chs.length = nC at *
  obtain ⟨o0, o1⟩ := ho
  obtain ⟨a0, a1⟩ := ha
  by_cases h1 : armed = 1
  · subst h1
    go_enter Tryz.func64, Tryz.ntmps64
    go_wp2
    exact bodyPost_ret (v := .tuple #[.agg #[.slice aF nF cF, .slice aD nD cD, .slice aS nS cS, .slice aC nC cC, .int .i64 cap, .int .i64 (ops + 1), .int .i64 0, .bool true], .bool true]) (by simp [results, Tryz.results64, go_sem]) rfl ⟨rfl, ((Ext.refl _).alloc _).alloc _⟩
  · have b1 : (armed == 1) = false := by simpa using h1
    rw [b1]
    by_cases h0 : 0 < armed
    · have e0 : max (armed - 1) 0 = armed - 1 := by omega
      rw [e0]
      go_enter Tryz.func64, Tryz.ntmps64
      go_wp2
      exact bodyPost_ret (v := .tuple #[.agg #[.slice aF nF cF, .slice aD nD cD, .slice aS nS cS, .slice aC nC cC, .int .i64 cap, .int .i64 (ops + 1), .int .i64 (armed - 1), .bool false], .bool false]) (by simp [results, Tryz.results64, go_sem]) rfl ⟨rfl, ((Ext.refl _).alloc _).alloc _⟩
    · have e0 : max (armed - 1) 0 = 0 := by omega
      obtain rfl : armed = 0 := by omega
      rw [e0]
      go_enter Tryz.func64, Tryz.ntmps64
      go_wp2
      exact bodyPost_ret (v := .tuple #[.agg #[.slice aF nF cF, .slice aD nD cD, .slice aS nS cS, .slice aC nC cC, .int .i64 cap, .int .i64 (ops + 1), .int .i64 0, .bool false], .bool false]) (by simp [results, Tryz.results64, go_sem]) rfl ⟨rfl, ((Ext.refl _).alloc _).alloc _⟩
end Go.Proofs.YtfipfljiohdlhaaGreat
