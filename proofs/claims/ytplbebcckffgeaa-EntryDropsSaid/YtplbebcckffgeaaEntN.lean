/- head: last, Next; entry: Next, Of: at the records that awake asks for. -/
import Derived.Test.YtplbebcckffgeaaEntH
import Derived.Test.YtplbebcckffgeaaEntG
import Derived.Test.YtplbebcckffgeaaMeta2
namespace Go.Proofs.Ytplbebcckffgeaa
set_option linter.unusedVariables false
set_option linter.unusedSimpArgs false
open Go.RowKit

def m0 : M7 := ⟨12, 20, 9, 5, 1, 2, 3⟩
def e0 : E9 := ⟨1, 1, 1, true, 5, 1, 2, 3, 60⟩
theorem m0_row : footI (blocksP [m0]) = 0 := by decide +kernel
theorem e0_ok : entP e0 = true := by decide +kernel
attribute [local go_sem] meta_zero ent_zero9
theorem one_rr {w : World} {g : Nat} (h : w.rangeAt g 0 (metaC m0)) : RR metaC 7 w (.slice (some ⟨g, 0, none⟩) 1 1) [m0] :=
  ⟨_, _, rfl, Nat.le_refl _, (fun h => by cases h), fun _ => ⟨g, 0, rfl, fun k x hk => by
    match k, hk with
    | 0, hk => cases hk; simpa using h
    | k + 1, hk => simp at hk⟩⟩
set_option maxRecDepth 20000 in
set_option maxHeartbeats 4000000 in
theorem hlast_one (g : Nat) (w : World) (h : w.rangeAt g 0 (metaC m0)) :
    Calls Try.prog 35 #[.slice (some ⟨g, 0, none⟩) 1 1] w fun e w' => e = .returned (.tuple #[.agg (metaC m0).toArray, .bool true]) ∧ Ext w w' := by
  have q := fun w' h' => hBlocks_any [m0] _ w' (one_rr (w := w') (g := g) h')
  rw [m0_row] at q
  have Q := Lib.hid q
  clear q
  have R := Lib.hid (rangeAt_ext h ((Ext.refl w).alloc (.cells #[.int .i64 0, .int .i64 0, .int .i64 0, .int .i64 0, .int .i64 0, .int .i64 0, .int .i64 0] 50)))
  have B2 := Lib.hid (Blk.new w 50 #[.int .i64 0, .int .i64 0, .int .i64 0, .int .i64 0, .int .i64 0, .int .i64 0, .int .i64 0])
  have X0 := Lib.hid ((Ext.refl w).alloc (.cells #[.int .i64 0, .int .i64 0, .int .i64 0, .int .i64 0, .int .i64 0, .int .i64 0, .int .i64 0] 50))
  have HL := Lib.hid (show (Try.prog.info? 50).map (·.size) = some (metaC m0).length from meta_size)
  have HZ := Lib.hid (show (Try.prog.info? 50).map (·.size) = some (metaC m0).toArray.size from meta_size)
  have HS := Lib.hid (show (#[.int .i64 0, .int .i64 0, .int .i64 0, .int .i64 0, .int .i64 0, .int .i64 0, .int .i64 0] : Array Value).size = (metaC m0).toArray.size from rfl)
  have H1 := Lib.hid (metaC_all m0)
  clear h
  generalize metaC m0 = cm at *
  go_enter Try.func35, Try.ntmps35
  go_wp2_with fail
  refine (Q.out _ R.out).mono ?_
  rintro _ w1 ⟨rfl, x1⟩
  have R := Lib.hid (rangeAt_ext R.out x1)
  have B2 := Lib.hid (B2.out.ext x1)
  have X1 := Lib.hid (X0.out.trans x1)
  clear x1
  go_wp2_with (first
    | (refine wpList_load_mid rfl 50 (.tmp 17) rfl g 0 rfl cm _ R.out Try.underlying50 rfl HL.out ?_)
    | (refine wpList_store_blk rfl 50 (.tmp 2) (.tmp 18) rfl rfl rfl B2.out HS.out HZ.out H1.out ?_))
  exact bodyPost_ret (results_row_tmp rfl _ _ w.heap.size _ _ (0, 0) _ rfl (B2.out.setRow cm.toArray) Try.underlying50 rfl HZ.out) rfl ⟨rfl, X1.out.setRow (Nat.le_refl _) _⟩
set_option maxRecDepth 20000 in
set_option maxHeartbeats 4000000 in
theorem hNext_one (g : Nat) (w : World) (h : w.rangeAt g 0 (metaC m0)) :
    Calls Try.prog 29 #[.agg #[.int .i64 1, .int .i64 1, .int .i64 1], .slice (some ⟨g, 0, none⟩) 1 1] w fun e w' => e = .returned (.int .i64 6) ∧ Ext w w' := by
  have Q := Lib.hid (fun w' h' => hlast_one g w' h')
  have R := Lib.hid (rangeAt_ext h ((Ext.refl w).alloc (.cells #[.int .i64 1, .int .i64 1, .int .i64 1] 24)))
  have X0 := Lib.hid ((Ext.refl w).alloc (.cells #[.int .i64 1, .int .i64 1, .int .i64 1] 24))
  have HZ := Lib.hid (show (Try.prog.info? 50).map (·.size) = some (metaC m0).toArray.size from meta_size)
  have HS := Lib.hid (show (#[.int .i64 0, .int .i64 0, .int .i64 0, .int .i64 0, .int .i64 0, .int .i64 0, .int .i64 0] : Array Value).size = (metaC m0).toArray.size from rfl)
  have H1 := Lib.hid (metaC_all m0)
  have HC : ∀ (w1 : World), (w1.alloc (.cells (metaC m0).toArray 50)).cell? ⟨w1.heap.size, 3, none⟩ = some (.int .i64 5) ∧ (w1.alloc (.cells (metaC m0).toArray 50)).cell? ⟨w1.heap.size, 4, none⟩ = some (.int .i64 1) := fun w1 => ⟨(Blk.new w1 50 (metaC m0).toArray).cell 3, (Blk.new w1 50 (metaC m0).toArray).cell 4⟩
  have HC := Lib.hid HC
  clear h
  generalize metaC m0 = cm at *
  go_enter Try.func29, Try.ntmps29
  go_wp2_with fail
  refine (Q.out _ R.out).mono ?_
  rintro _ w1 ⟨rfl, x1⟩
  have X1 := Lib.hid (X0.out.trans x1)
  obtain ⟨c3, c4⟩ := HC.out w1
  clear x1
  go_wp2_with (refine wpList_store_new (cs' := cm.toArray) rfl 50 (.tmp 5) (.tmp 10) rfl rfl rfl HS.out HZ.out H1.out ?_)
  go_ret
  exact ⟨rfl, X1.out.alloc _⟩
set_option maxRecDepth 20000 in
set_option maxHeartbeats 4000000 in
/-- the number behind an entry, where both numbers are small -/
theorem eNext_small (e : E9) (w : World) (h1 : 0 ≤ e.cnt ∧ e.cnt ≤ 1000000000) (h2 : 0 ≤ e.fst ∧ e.fst ≤ 1000000001) :
    Calls Try.prog 15 #[.agg (entC e).toArray] w fun x w' => x = .returned (.int .i64 (e.fst + e.cnt)) ∧ Ext w w' := by
  obtain ⟨id, gen, fst, sld, cnt, blk, early, late, bytes⟩ := e
  dsimp only [entC] at *
  have b1 := Blk.new w 26 #[.int .i64 id, .int .i64 gen, .int .i64 fst, .bool sld, .int .i64 cnt, .int .i64 blk, .int .i64 early, .int .i64 late, .int .i64 bytes]
  have c2 := b1.cell 2
  have c4 := b1.cell 4
  have e1 : IntKind.i64.wrap (9223372036854775807 - cnt) = 9223372036854775807 - cnt := by rw [IntKind.wrap_i64]; omega
  have e2 : IntKind.i64.wrap (fst + cnt) = fst + cnt := by rw [IntKind.wrap_i64]; omega
  have n2 : ¬ 9223372036854775807 - cnt < fst := by omega
  clear b1 h2
  by_cases h3 : 0 < cnt
  · clear h1
    go_enter Try.func15, Try.ntmps15
    go_wp2
    go_ret
    exact ⟨rfl, (Ext.refl _).alloc _⟩
  · clear h1
    go_enter Try.func15, Try.ntmps15
    go_wp2
    go_ret
    exact ⟨rfl, (Ext.refl _).alloc _⟩
end Go.Proofs.Ytplbebcckffgeaa
