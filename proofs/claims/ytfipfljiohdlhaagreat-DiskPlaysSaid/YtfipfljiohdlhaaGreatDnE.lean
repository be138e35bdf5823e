/- The document's disk: Changed. -/
import Derived.Test.YtfipfljiohdlhaaGreatDnD
namespace Go.Proofs.YtfipfljiohdlhaaGreat
set_option linter.unusedVariables false
set_option linter.unusedSimpArgs false
open Go.RowKit
attribute [local go_sem] S_size S_toList S_append S_extract S_beq S_bne S_empty S_nil
variable {K : List Nat}

/-- a directory without the name that goes -/
def goneL (fr : List UInt8) (l : List (List UInt8 × Nat)) : List (List UInt8 × Nat) := if fr = [] then l else dDel fr l
theorem rc_size : (Tryz.prog.info? 100).map (·.size) = some 3 := by kernel_rfl
set_option maxRecDepth 20000 in
set_option maxHeartbeats 2000000 in
theorem rchanged_none {w : World} {v : Value} {l : List (List UInt8 × Nat)} (hK : ∀ k ∈ K, k < w.heap.size) (h : RK K eC 2 w v l) (hl : (l.length : Int) ≤ 1000000) (fr : List UInt8) (m : Int) :
    Calls Tryz.prog 69 #[v, .agg #[.string (S fr), .string (S []), .int .i64 m]] w fun e w' => ∃ v', e = .returned v' ∧ RK K eC 2 w' v' (goneL fr l) ∧ Ext w w' := by
  have X0 := Lib.hid ((Ext.refl w).alloc (.cells #[.string (S fr), .string (S []), .int .i64 m] 100))
  have B0 := Lib.hid (Blk.new w 100 #[.string (S fr), .string (S []), .int .i64 m])
  have Q := Lib.hid (rwithout_any (h.ext X0.out).1 hl fr)
  have H := Lib.hid h
  have HK := Lib.hid (show ∀ k ∈ K, k < (w.alloc (.cells #[.string (S fr), .string (S []), .int .i64 m] 100)).heap.size from fun k hk => Nat.lt_of_lt_of_le (hK k hk) X0.out.size)
  clear hK
  clear h
  by_cases hf : fr = []
  · subst hf
    have E := Lib.hid (show goneL [] l = l from rfl)
    clear Q
    go_enter Tryz.func69, Tryz.ntmps69
    go_wp2
    go_ret
    exact ⟨_, rfl, by rw [E.out]; exact H.out.ext X0.out, X0.out⟩
  · have E := Lib.hid (show goneL fr l = dDel fr l from if_neg hf)
    have hb : (fr == []) = false := by simpa using hf
    go_enter Tryz.func69, Tryz.ntmps69
    go_wp2_with fail
    refine Q.out.mono ?_
    rintro _ w1 ⟨v1, rfl, r1, x1⟩
    have c1 : w1.cell? ⟨w.heap.size, 1, none⟩ = some (.string (S [])) := (B0.out.ext x1).cell 1
    have R1 := Lib.hid r1
    have X1 := Lib.hid (X0.out.trans x1)
    clear r1 x1
    go_wp2
    go_ret
    exact ⟨_, rfl, by rw [E.out]; exact WR.rk eC_len R1.out HK.out, X1.out⟩
end Go.Proofs.YtfipfljiohdlhaaGreat
