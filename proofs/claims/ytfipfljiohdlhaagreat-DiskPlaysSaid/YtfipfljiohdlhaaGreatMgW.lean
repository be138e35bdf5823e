/- Several texts in one. merged: DnQ DnR DnS -/
import Derived.Test.YtfipfljiohdlhaaGreatDnP
import Derived.Test.YtfipfljiohdlhaaGreatDmB
import Derived.Test.YtfipfljiohdlhaaGreatMgV
import Derived.Test.YtfipfljiohdlhaaGreatDnL
import Derived.Test.YtfipfljiohdlhaaGreatDmC
import Derived.Test.YtfipfljiohdlhaaGreatDmG
namespace Go.Proofs.YtfipfljiohdlhaaGreat
set_option linter.unusedVariables false
set_option linter.unusedSimpArgs false
set_option linter.unusedSectionVars false
open Go.RowKit
attribute [local go_sem] S_size S_toList S_append S_extract S_beq S_bne S_empty S_nil

/-- the disk d lies in just the blocks K -/
def Has (w : World) (b : Nat) (K : List Nat) (d : Dsk) : Prop := d.Ok ∧ ∃ fb mn ms cv, MemD w b d fb mn ms cv ∧ owns b mn ms cv fb = K
theorem Has.ok {w : World} {b : Nat} {K : List Nat} {d : Dsk} (h : Has w b K d) : d.Ok := h.1
theorem Has.lt {w : World} {b : Nat} {K : List Nat} {d : Dsk} (h : Has w b K d) : ∀ k ∈ K, k < w.heap.size := by
  obtain ⟨_, fb, mn, ms, cv, m, rfl⟩ := h
  exact m.lt
theorem Has.ext {w w' : World} {b : Nat} {K : List Nat} {d : Dsk} (h : Has w b K d) (x : Ext w w') : Has w' b K d := by
  obtain ⟨ok, fb, mn, ms, cv, m, hK⟩ := h
  exact ⟨ok, fb, mn, ms, cv, m.ext x, hK⟩
theorem Has.names {w : World} {b : Nat} {K : List Nat} {d : Dsk} (h : Has w b K d) : d.dir.Pairwise (fun p q => p.1 ≠ q.1) := by
  obtain ⟨_, fb, mn, ms, cv, m, _⟩ := h
  have := m.now.canon
  unfold blks at this
  rw [List.pairwise_map] at this
  exact this.imp (fun h => before_neq h)
theorem OpR.own {w w' : World} {b : Nat} {d' : Dsk} {fb : List Nat} {mn ms : Nat} {cv : Value} (h : OpR w b d' fb mn ms cv w') (ok : d'.Ok) : ∃ K', Has w' b K' d' ∧ Stp (owns b mn ms cv fb) K' w w' := by
  obtain ⟨h1, fb', mn', ms', cv', m, h2⟩ := h
  exact ⟨_, ⟨ok, fb', mn', ms', cv', m, rfl⟩, h1, h2⟩
theorem Stp.trans {K K' K'' : List Nat} {w w' w'' : World} (h : Stp K K' w w') (k : Stp K' K'' w' w'') : Stp K K'' w w'' := by
  refine ⟨⟨k.1.os.trans h.1.os, k.1.tape.trans h.1.tape, k.1.output.trans h.1.output, Nat.le_trans h.1.size k.1.size, fun i h1 h2 => ?_⟩, fun i hi => ?_⟩
  · refine (k.1.block i (Nat.lt_of_lt_of_le h1 h.1.size) (fun hm => ?_)).trans (h.1.block i h1 h2)
    rcases h.2 i hm with h3 | h3
    · exact h2 h3
    · omega
  · rcases k.2 i hi with h3 | h3
    · exact h.2 i h3
    · exact .inr (Nat.le_trans h.1.size h3)
theorem Stp.then {K K' : List Nat} {w w' w'' : World} (h : Stp K K' w w') (x : Ext w' w'') : Stp K K' w w'' := h.trans (Stp.of_ext x)
theorem Stp.ext {K : List Nat} {w w' : World} (h : Stp [] K w w') : Ext w w' := ⟨h.1.os, h.1.tape, h.1.output, h.1.size, fun k hk => h.1.block k hk (by simp)⟩
section
variable {w : World} {b : Nat} {K : List Nat} {d : Dsk} (h : Has w b K d) (hop : d.ops ≤ 1000000)
include h hop
theorem has_do {a : ActD} (ha : ActW w a) : Calls Tryz.prog 9 #[.pointer (some ⟨b, 0, none⟩), .agg (actC a).toArray] w fun e w' => e = .returned (.int .i64 (d.act a).2) ∧ ∃ K', Has w' b K' (d.act a).1 ∧ Stp K K' w w' := by
  obtain ⟨ok, fb, mn, ms, cv, m, rfl⟩ := h
  exact (do_mem m ok hop ha).mono (fun _ w' ⟨h1, h2⟩ => ⟨h1, h2.own (ok.act ha.n1)⟩)
theorem has_sync (s : List UInt8) (hs : s.length ≤ maxLen) : Calls Tryz.prog 13 #[.pointer (some ⟨b, 0, none⟩), .string (S s)] w fun e w' => e = .returned (.int .i64 (d.sync s).2) ∧ ∃ K', Has w' b K' (d.sync s).1 ∧ Stp K K' w w' := by
  obtain ⟨ok, fb, mn, ms, cv, m, rfl⟩ := h
  exact (sync_any m ok (by omega) s hs).mono (fun _ w' ⟨h1, h2⟩ => ⟨h1, h2.own (ok.sync s)⟩)
theorem has_dirSync : Calls Tryz.prog 14 #[.pointer (some ⟨b, 0, none⟩)] w fun e w' => e = .returned (.int .i64 d.dirSync.2) ∧ ∃ K', Has w' b K' d.dirSync.1 ∧ Stp K K' w w' := by
  obtain ⟨ok, fb, mn, ms, cv, m, rfl⟩ := h
  exact (dirSync_any m ok (by omega)).mono (fun _ w' ⟨h1, h2⟩ => ⟨h1, h2.own ok.dirSync⟩)
theorem has_off : Calls Tryz.prog 35 #[.pointer (some ⟨b, 0, none⟩)] w fun e w' => e = .returned (.int .i64 0) ∧ ∃ K', Has w' b K' d.off ∧ Stp K K' w w' := by
  obtain ⟨ok, fb, mn, ms, cv, m, rfl⟩ := h
  exact (off_any m).mono (fun _ w' ⟨h1, h2⟩ => ⟨h1, h2.own ok.off⟩)
theorem has_boot (k : Int) {vc vm : Value} {cuts : List Int} {marks : List (List UInt8)} (hc : RR iC 1 w vc cuts) (hm : RR sC 1 w vm marks) (hcl : (cuts.length : Int) ≤ 9223372036854775807) (hml : (marks.length : Int) ≤ 9223372036854775807) (hmk : ∀ s ∈ marks, (s.length : Int) ≤ 9223372036854775807) :
    Calls Tryz.prog 17 #[.pointer (some ⟨b, 0, none⟩), .agg #[.int .i64 k, vc, vm]] w fun e w' => e = .returned (.int .i64 0) ∧ ∃ K', Has w' b K' (d.boot k cuts marks) ∧ Stp K K' w w' := by
  obtain ⟨ok, fb, mn, ms, cv, m, rfl⟩ := h
  exact (boot_any m ok hop k hc hm hcl hml hmk).mono (fun _ w' ⟨h1, h2⟩ => ⟨h1, h2.own (ok.boot k cuts marks)⟩)
theorem has_on : Calls Tryz.prog 20 #[.pointer (some ⟨b, 0, none⟩)] w fun e w' => e = .returned (.bool !d.dead) ∧ w = w' := by
  obtain ⟨ok, fb, mn, ms, cv, m, rfl⟩ := h
  exact on_any m
theorem has_pending : Calls Tryz.prog 39 #[.pointer (some ⟨b, 0, none⟩)] w fun e w' => e = .returned (.int .i64 (if d.dead then 0 else (d.chs.length : Int))) ∧ w = w' := by
  obtain ⟨ok, fb, mn, ms, cv, m, rfl⟩ := h
  exact pending_any m
theorem has_ops : Calls Tryz.prog 15 #[.pointer (some ⟨b, 0, none⟩)] w fun e w' => e = .returned (.int .i64 d.ops) ∧ w = w' := by
  obtain ⟨ok, fb, mn, ms, cv, m, rfl⟩ := h
  exact ops_any m
theorem has_capacity : Calls Tryz.prog 37 #[.pointer (some ⟨b, 0, none⟩)] w fun e w' => e = .returned (.int .i64 d.cap) ∧ w = w' := by
  obtain ⟨ok, fb, mn, ms, cv, m, rfl⟩ := h
  exact capacity_any m
theorem has_used : Calls Tryz.prog 16 #[.pointer (some ⟨b, 0, none⟩)] w fun e w' => e = .returned (.int .i64 (if d.dead then 0 else d.used)) ∧ Ext w w' := by
  obtain ⟨ok, fb, mn, ms, cv, m, rfl⟩ := h
  exact usedD_any m ok (by omega)
theorem has_read (s : List UInt8) (hs : s.length ≤ maxLen) : Calls Tryz.prog 18 #[.pointer (some ⟨b, 0, none⟩), .string (S s)] w fun e w' => e = .returned (.tuple #[.string (S (d.read s).1), .int .i64 (d.read s).2]) ∧ w = w' := by
  obtain ⟨ok, fb, mn, ms, cv, m, rfl⟩ := h
  exact read_any m ok s hs
theorem has_list : Calls Tryz.prog 19 #[.pointer (some ⟨b, 0, none⟩)] w fun e w' => ∃ v, e = .returned v ∧ SW w' w.heap.size v d.list ∧ Ext w w' := by
  obtain ⟨ok, fb, mn, ms, cv, m, rfl⟩ := h
  exact (list_any m ok hop).mono (fun _ w' ⟨v, h1, h2, h3, h4⟩ => ⟨v, h1, h2, h4⟩)
end
theorem has_new (cap : Int) (w : World) (h1 : 0 ≤ cap) (h2 : cap ≤ 10000000) : Calls Tryz.prog 6 #[.int .i64 cap] w fun e w' => ∃ b, e = .returned (.tuple #[.pointer (some ⟨b, 0, none⟩), .int .i64 0]) ∧ ∃ K, Has w' b K (Dsk.new cap) ∧ Stp [] K w w' :=
  (new_any cap w h1 h2).mono (fun _ w' ⟨b, e1, e2, mn, ms, m, hk⟩ => ⟨b, e1, _, ⟨Dsk.Ok.new h1 h2, [], mn, ms, _, m, rfl⟩, But.of_ext e2, fun k hm => .inr (hk k hm)⟩)

theorem list_short {d : Dsk} (ok : d.Ok) (hop : d.ops ≤ 1000000) : d.list.length ≤ 1000000 := by
  have := ok.dirL
  unfold Dsk.list
  split
  · simp
  · rw [List.length_map]; omega
theorem list_len {d : Dsk} (ok : d.Ok) : ∀ s ∈ d.list, s.length ≤ 64 ∧ s ≠ [] := by
  intro s hs
  unfold Dsk.list at hs
  split at hs
  · simp at hs
  · obtain ⟨p, hp, rfl⟩ := List.mem_map.1 hs
    have := chk_len (ok.dirN p hp).1
    exact ⟨this.2, fun e => by rw [e] at this; simp at this⟩
/-- a readable slice that lies in none of the blocks that may turn -/
theorem RK.stp {α : Type} {K K' : List Nat} {f : α → List Value} {s : Nat} {w w' : World} {v : Value} {l : List α} (hf : ∀ x, (f x).length = s) (hs : 0 < s) (h : RK K f s w v l) (x : Stp K K' w w') : RK K' f s w' v l := by
  obtain ⟨⟨a, c, rfl, h1, h2, h3⟩, h4⟩ := h
  by_cases hl : 0 < l.length
  · obtain ⟨g, o, rfl, h5⟩ := h3 hl
    have hg : g ∉ K := h4 _ _ _ rfl hl
    have hlt : g < w.heap.size := by
      obtain ⟨y, hy⟩ : ∃ y, l[0]? = some y := ⟨_, List.getElem?_eq_getElem hl⟩
      obtain ⟨u, hu⟩ : ∃ u, (f y)[0]? = some u := ⟨_, List.getElem?_eq_getElem (by rw [hf]; exact hs)⟩
      exact World.block_lt_of_cell? w _ (h5 0 y hy 0 u hu)
    refine ⟨⟨_, c, rfl, h1, h2, fun _ => ⟨g, o, rfl, fun k y hk j u hu => ?_⟩⟩, ?_⟩
    · have := h5 k y hk j u hu
      rw [x.1.cell hlt hg]
      exact this
    · intro p n c e _
      injection e with e _ _
      injection e with e
      subst e
      intro hm
      rcases x.2 g hm with h6 | h6
      · exact hg h6
      · exact absurd hlt (Nat.not_lt.2 h6)
  · refine ⟨⟨a, c, rfl, h1, h2, fun h => absurd h hl⟩, ?_⟩
    intro p n c e h0
    injection e with _ e _
    subst e
    exact absurd h0 hl
theorem RefD.stp {K K' : List Nat} {w w' : World} {v : V4} {d : Dsk} (h : RefD K w v d) (x : Stp K K' w w') : RefD K' w' v d :=
  ⟨h.fs.stp fC_len (by decide) x, h.dir.stp eC_len (by decide) x, h.safe.stp eC_len (by decide) x, h.chs.stp rC_len (by decide) x⟩
end Go.Proofs.YtfipfljiohdlhaaGreat
namespace Go.Proofs.YtfipfljiohdlhaaGreat
set_option linter.unusedVariables false
set_option linter.unusedSimpArgs false
open Go.RowKit
attribute [local go_sem] S_size S_toList S_append S_extract S_beq S_bne S_empty S_nil

theorem SW.cells {w : World} {B : Nat} {v : Value} {l : List (List UInt8)} (h : SW w B v l) : ∃ a c, v = .slice a l.length c ∧ ∀ k s, l[k]? = some s → ∃ g, a = some ⟨g, 0, none⟩ ∧ w.cell? ⟨g, k, none⟩ = some (.string (S s)) := by
  obtain ⟨a, c, e, _, h1⟩ := RW.shape h
  rw [List.length_map] at e h1
  refine ⟨a, c, e, fun k s hs => ?_⟩
  have hk : k < l.length := (List.getElem?_eq_some_iff.1 hs).1
  obtain ⟨g, e1, _, _, hc, _⟩ := h1 (by omega)
  refine ⟨g, e1, (hc k hk).trans ?_⟩
  rw [List.getElem?_map, hs]; rfl
set_option maxRecDepth 20000 in
set_option maxHeartbeats 8000000 in
theorem same_walk {w : World} {b : Nat} {aF aD aS aC : Option Addr} {nF cF nD cD nS cS nC cC : Nat} {cap ops armed used : Int} (dead : Bool) (l : List (List UInt8)) (rd : List UInt8 → List UInt8 × Int) (hl : l.length ≤ 1000000)
    (QL : ∀ W, Ext w W → Calls Tryz.prog 19 #[.pointer (some ⟨b, 0, none⟩)] W fun e w' => ∃ v, e = .returned v ∧ SW w' W.heap.size v l ∧ Ext W w')
    (QM : ∀ W, Ext w W → Calls Tryz.prog 36 #[.agg #[.slice aF nF cF, .slice aD nD cD, .slice aS nS cS, .slice aC nC cC, .int .i64 cap, .int .i64 ops, .int .i64 armed, .bool dead]] W fun e w' => ∃ v, e = .returned v ∧ SW w' W.heap.size v l ∧ Ext W w')
    (QR : ∀ W, Ext w W → ∀ s ∈ l, Calls Tryz.prog 18 #[.pointer (some ⟨b, 0, none⟩), .string (S s)] W fun e w' => e = .returned (.tuple #[.string (S (rd s).1), .int .i64 (rd s).2]) ∧ W = w')
    (QF : ∀ W, Ext w W → ∀ s, Calls Tryz.prog 40 #[.agg #[.slice aF nF cF, .slice aD nD cD, .slice aS nS cS, .slice aC nC cC, .int .i64 cap, .int .i64 ops, .int .i64 armed, .bool dead], .string (S s)] W fun e w' => e = .returned (.tuple #[.string (S (rd s).1), .int .i64 (rd s).2]) ∧ Ext W w')
    (QN : ∀ W, Ext w W → Calls Tryz.prog 20 #[.pointer (some ⟨b, 0, none⟩)] W fun e w' => e = .returned (.bool !dead) ∧ W = w')
    (QO : ∀ W, Ext w W → Calls Tryz.prog 15 #[.pointer (some ⟨b, 0, none⟩)] W fun e w' => e = .returned (.int .i64 ops) ∧ W = w')
    (QC : ∀ W, Ext w W → Calls Tryz.prog 37 #[.pointer (some ⟨b, 0, none⟩)] W fun e w' => e = .returned (.int .i64 cap) ∧ W = w')
    (QU : ∀ W, Ext w W → Calls Tryz.prog 16 #[.pointer (some ⟨b, 0, none⟩)] W fun e w' => e = .returned (.int .i64 (if dead then 0 else used)) ∧ Ext W w')
    (QV : ∀ W, Ext w W → Calls Tryz.prog 38 #[.agg #[.slice aF nF cF, .slice aD nD cD, .slice aS nS cS, .slice aC nC cC, .int .i64 cap, .int .i64 ops, .int .i64 armed, .bool dead]] W fun e w' => e = .returned (.int .i64 used) ∧ Ext W w')
    (QP : ∀ W, Ext w W → Calls Tryz.prog 39 #[.pointer (some ⟨b, 0, none⟩)] W fun e w' => e = .returned (.int .i64 (if dead then 0 else (nC : Int))) ∧ W = w') :
    Calls Tryz.prog 10 #[.pointer (some ⟨b, 0, none⟩), .agg #[.slice aF nF cF, .slice aD nD cD, .slice aS nS cS, .slice aC nC cC, .int .i64 cap, .int .i64 ops, .int .i64 armed, .bool dead]] w fun e w' => e = .returned (.bool true) ∧ Ext w w' := by
  have X0 := Lib.hid ((Ext.refl w).alloc (.cells #[.slice aF nF cF, .slice aD nD cD, .slice aS nS cS, .slice aC nC cC, .int .i64 cap, .int .i64 ops, .int .i64 armed, .bool dead] 33))
  have B0 := Lib.hid (Blk.new w 33 #[.slice aF nF cF, .slice aD nD cD, .slice aS nS cS, .slice aC nC cC, .int .i64 cap, .int .i64 ops, .int .i64 armed, .bool dead])
  have DS := Lib.hid (show (Tryz.prog.info? 33).map (·.size) = some (#[.slice aF nF cF, .slice aD nD cD, .slice aS nS cS, .slice aC nC cC, .int .i64 cap, .int .i64 ops, .int .i64 armed, .bool dead] : Array Value).size from rdisk_size)
  cases dead
  all_goals
    simp only [Bool.not_true, Bool.not_false, Bool.false_eq_true, reduceIte] at QN QU QP
    replace QL := Lib.hid QL
    replace QM := Lib.hid QM
    replace QR := Lib.hid QR
    replace QF := Lib.hid QF
    replace QN := Lib.hid QN
    replace QO := Lib.hid QO
    replace QC := Lib.hid QC
    replace QU := Lib.hid QU
    replace QV := Lib.hid QV
    replace QP := Lib.hid QP
    have HL := Lib.hid hl
    clear hl
    go_enter Tryz.func10, Tryz.ntmps10
    go_wp2_with fail
    refine wp_region_lex _ rfl (by kernel_rfl) ?_
    dsimp only [List.length_cons, List.length_nil]
    (refine lex_want (by kernel_rfl) (by kernel_rfl) (by kernel_rfl) (by kernel_rfl) (fun _ _ _ _ h => h) (by kernel_rfl) (fun K hK => ?_)
     go_simp
     (refine hK _ ?_; clear hK K))
    refine lex_ahead_load 1 rfl (by kernel_rfl) (by kernel_rfl) (by kernel_rfl) (fun _ _ _ _ h => h) (by kernel_rfl) 33 (.tmp 3) rfl rfl B0.out.drew Tryz.underlying33 rfl DS.out ?_
    dsimp only [Act.put]
    simp only [List.setIfInBounds_toArray, List.set_cons_succ, List.set_cons_zero]
    refine out_only (by kernel_rfl) (by kernel_rfl) (fun x K hK => ?_)
    go_simp
    refine (QL.out _ (X0.out.drew.trans x.ext)).mono ?_
    rintro _ w2 ⟨v2, rfl, s2, x2⟩
    refine hK.out _ _ x2 ?_
    have y2 := x.ext.trans x2
    replace B0 := Lib.hid (B0.out.drew.ext y2)
    replace X0 := Lib.hid (X0.out.drew.trans y2)
    obtain ⟨a2, c2, rfl, h2⟩ := SW.cells s2
    have H2 := Lib.hid h2
    clear hK K x2 y2 s2 h2
    refine out_done ?_
    refine out_lex (n := 6) (k := 3) (by kernel_rfl) ?_
    refine lex_only (by kernel_rfl) (by kernel_rfl) (fun x3 K hK => ?_)
    go_simp
    refine (QM.out _ (X0.out.trans x3.ext)).mono ?_
    rintro _ w3 ⟨v3, rfl, s3, x3'⟩
    refine hK.out _ _ x3' ?_
    have y3 := x3.ext.trans x3'
    replace B0 := Lib.hid (B0.out.ext y3)
    replace X0 := Lib.hid (X0.out.trans y3)
    have HY := Lib.hid (Ext.refl w3)
    have HZ := Lib.hid y3
    obtain ⟨a3, c3, rfl, h3⟩ := SW.cells s3
    have H3 := Lib.hid h3
    clear hK K x3' y3 s3 h3
    iterate 2
      (refine lex_want (by kernel_rfl) (by kernel_rfl) (by kernel_rfl) (by kernel_rfl) (fun _ _ _ _ h => h) (by kernel_rfl) (fun K hK => ?_)
       go_simp
       (refine hK _ ?_; clear hK K))
    refine lex_done (by kernel_rfl) (fun y => ?_)
    replace B0 := Lib.hid (B0.out.ext y.ext)
    replace X0 := Lib.hid (X0.out.trans y.ext)
    replace HY := Lib.hid (HY.out.trans y.ext)
    generalize y.val = w4 at *
    clear y
    have QN4 := Lib.hid (fun (x : Up w4) => QN.out x.val (X0.out.trans x.ext))
    have QO4 := Lib.hid (fun (x : Up w4) => QO.out x.val (X0.out.trans x.ext))
    have QC4 := Lib.hid (fun (x : Up w4) => QC.out x.val (X0.out.trans x.ext))
    have b3 := up_cell (show w4.cell? ⟨w.heap.size, 3, none⟩ = some (.slice aC nC cC) from B0.out.cell 3)
    have b4 := up_cell (show w4.cell? ⟨w.heap.size, 4, none⟩ = some (.int .i64 cap) from B0.out.cell 4)
    have b5 := up_cell (show w4.cell? ⟨w.heap.size, 5, none⟩ = some (.int .i64 ops) from B0.out.cell 5)
    first
    | have b7 := up_cell (show w4.cell? ⟨w.heap.size, 7, none⟩ = some (.bool false) from B0.out.cell 7)
    | have b7 := up_cell (show w4.cell? ⟨w.heap.size, 7, none⟩ = some (.bool true) from B0.out.cell 7)
    go_wp2_with fail
    refine wp_region_up (by kernel_rfl) (by kernel_rfl) ?_
    repeat (go_big_quiet_step (first | (go_at_call 20; (with_reducible exact up_same (QN4.out _))) | (go_at_call 15; (with_reducible exact up_same (QO4.out _))) | (go_at_call 37; (with_reducible exact up_same (QC4.out _))) | fail))
    refine wpQuiet_nil ?_
    rintro _ ⟨z, rfl⟩
    replace B0 := Lib.hid (B0.out.ext z.ext)
    replace X0 := Lib.hid (X0.out.trans z.ext)
    replace HY := Lib.hid (HY.out.trans z.ext)
    clear b3 b4 b5 b7 QN4 QO4 QC4
    generalize z.val = w5 at *
    clear z
    have QU5 := Lib.hid (fun (x : Up w5) => QU.out x.val (X0.out.trans x.ext))
    have QV5 := Lib.hid (fun (x : Up w5) => QV.out x.val (X0.out.trans x.ext))
    have QP5 := Lib.hid (fun (x : Up w5) => QP.out x.val (X0.out.trans x.ext))
    have b3 := up_cell (show w5.cell? ⟨w.heap.size, 3, none⟩ = some (.slice aC nC cC) from B0.out.cell 3)
    first
    | have b7 := up_cell (show w5.cell? ⟨w.heap.size, 7, none⟩ = some (.bool false) from B0.out.cell 7)
    | have b7 := up_cell (show w5.cell? ⟨w.heap.size, 7, none⟩ = some (.bool true) from B0.out.cell 7)
    go_wp2_with fail
    refine wp_region_up (by kernel_rfl) (by kernel_rfl) ?_
  focus
    iterate 6 (go_big_quiet_step (first | (go_at_call 16; (with_reducible exact up_call (QU5.out _))) | (go_at_call 38; (with_reducible exact up_call (QV5.out _))) | (go_at_call 39; (with_reducible exact up_same (QP5.out _))) | fail))
    refine wpQuiet_load_blk (by kernel_rfl) 33 (.tmp 3) rfl rfl B0.out Tryz.underlying33 rfl DS.out ?_
    dsimp only [Act.put]
    simp only [List.setIfInBounds_toArray, List.set_cons_succ, List.set_cons_zero]
    repeat (go_big_quiet_step (first | (go_at_call 16; (with_reducible exact up_call (QU5.out _))) | (go_at_call 38; (with_reducible exact up_call (QV5.out _))) | (go_at_call 39; (with_reducible exact up_same (QP5.out _))) | fail))
  rotate_left
  focus
    repeat (go_big_quiet_step (first | (go_at_call 16; (with_reducible exact up_call (QU5.out _))) | (go_at_call 38; (with_reducible exact up_call (QV5.out _))) | (go_at_call 39; (with_reducible exact up_same (QP5.out _))) | fail))
  rotate_left
  all_goals
    refine wpQuiet_nil ?_
    rintro _ ⟨z, rfl⟩
    replace B0 := Lib.hid (B0.out.ext z.ext)
    replace X0 := Lib.hid (X0.out.trans z.ext)
    replace HY := Lib.hid (HY.out.trans z.ext)
    clear b3 b7 QU5 QV5 QP5
    generalize z.val = w6 at *
    clear z
    go_wp2_with fail
    go_loopw [7] (fun i wr => ∃ k : Nat, i = .int .i64 (k : Int) ∧ k ≤ l.length ∧ Ext w6 wr) (fun i _ => l.length - (intOf i).toNat)
    case atStart => exact ⟨0, rfl, Nat.zero_le _, Ext.refl _⟩
    case round =>
      obtain ⟨k, rfl, hk, hx⟩ := hrel
      have HX := Lib.hid hx
      have B1 := Lib.hid (B0.out.ext hx)
      have X1 := Lib.hid (X0.out.trans hx)
      have HY1 := Lib.hid (HY.out.trans hx)
      clear hx
      by_cases hlt : k < l.length
      · have hI : (k : Int) < (l.length : Int) := by omega
        have hsh := HL.out
        obtain ⟨s, hs⟩ : ∃ s, l[k]? = some s := ⟨_, List.getElem?_eq_getElem hlt⟩
        obtain ⟨g2, rfl, d2⟩ := H2.out k s hs
        obtain ⟨g3, rfl, d3⟩ := H3.out k s hs
        have D2 := Lib.hid (Go.cell_later (HZ.out.trans HY1.out) d2)
        have D3 := Lib.hid (Go.cell_later HY1.out d3)
        have QR1 := Lib.hid (QR.out wr X1.out s (List.mem_of_getElem? hs))
        have QF1 := Lib.hid (fun (x : Up wr) => QF.out x.val (X1.out.trans x.ext) s)
        have HKM := Lib.hid hlt
        clear d2 d3 hs hlt hk
        generalize rd s = r at *
        obtain ⟨t, e⟩ := r
        dsimp only at QR1 QF1
        have c3 := D3.out
        go_wp2_with fail
        refine QR1.out.mono ?_
        rintro _ w7 ⟨rfl, rfl⟩
        clear c3
        have c3 := up_cell D3.out
        go_wp2_with fail
        refine wp_region_up (by kernel_rfl) (by kernel_rfl) ?_
        refine wpQuiet_load_blk (by kernel_rfl) 33 (.tmp 3) rfl rfl B1.out Tryz.underlying33 rfl DS.out ?_
        dsimp only [Act.put]
        simp only [List.setIfInBounds_toArray, List.set_cons_succ, List.set_cons_zero]
        repeat (go_big_quiet_step (first | (go_at_call 40; (with_reducible exact up_call (QF1.out _))) | fail))
        refine wpQuiet_nil ?_
        rintro _ ⟨z, rfl⟩
        replace D2 := Lib.hid (up_cell D2.out z)
        replace D3 := Lib.hid (up_cell D3.out z)
        replace HX := Lib.hid (HX.out.trans z.ext)
        clear c3 QF1 QR1 B1 X1 HY1
        generalize z.val = w7 at *
        clear z
        have c2 := up_cell D2.out
        have c3 := up_cell D3.out
        go_wp2_with fail
        refine wp_region_up (by kernel_rfl) (by kernel_rfl) ?_
        repeat (go_big_quiet_step (fail))
        refine wpQuiet_nil ?_
        rintro _ ⟨z, rfl⟩
        replace HX := Lib.hid (HX.out.trans z.ext)
        clear c2 c3 D2 D3
        go_wp2
        go_roundw
        case rel => exact ⟨k + 1, by go_num, by have := HKM.out; omega, HX.out⟩
        case measure => simp [intOf]; have := HKM.out; omega
      · obtain rfl : k = l.length := by omega
        clear hk
        go_wp2
        go_ret
        exact ⟨rfl, X1.out⟩
end Go.Proofs.YtfipfljiohdlhaaGreat
namespace Go.Proofs.YtfipfljiohdlhaaGreat
set_option linter.unusedVariables false
set_option linter.unusedSimpArgs false
open Go.RowKit
attribute [local go_sem] S_size S_toList S_append S_extract S_beq S_bne S_empty S_nil

theorem few_of {w1 : World} {v : Value} {l : List ActD} {w : World} (h : RR actC 7 w v l) (ha : ∀ a ∈ l, ActW w a) (hl : (l.length : Int) ≤ 9223372036854775807) (x : Ext w w1) :
    Calls Tryz.prog 4 #[v] w1 fun e w' => e = .returned (.bool (decide (FewA l))) ∧ w1 = w' :=
  few_any (h.ext x) (fun a h => (ha a h).ext x) hl
def refC (v : V4) (d : Dsk) : Array Value := #[v.fs, v.dir, v.safe, v.chs, .int .i64 d.cap, .int .i64 d.ops, .int .i64 d.armed, .bool d.dead]
set_option maxRecDepth 20000 in
theorem same_any {w : World} {b : Nat} {K : List Nat} {d : Dsk} {v : V4} (h : Has w b K d) (r : RefD K w v d) (g : RG d) :
    Calls Tryz.prog 10 #[.pointer (some ⟨b, 0, none⟩), .agg (refC v d)] w fun e w' => e = .returned (.bool true) ∧ Ext w w' := by
  have hop : d.ops ≤ 1000000 := by have := g.op; omega
  obtain ⟨aF, cF, aD, cD, aS, cS, aC, cC, rfl⟩ := r.open_
  unfold refC
  have hl := list_short g.ok hop
  have hmx : ∀ s ∈ d.list, s.length ≤ maxLen := fun s hs => by have := (list_len g.ok s hs).1; unfold maxLen; omega
  have q1 := fun W (x : Ext w W) => has_list (h.ext x) hop
  have q2 := fun W (x : Ext w W) => rlist_any (r.ext x) g.dl
  have q3 := fun W (x : Ext w W) s (hs : s ∈ d.list) => has_read (h.ext x) hop s (hmx s hs)
  have q4 := fun W (x : Ext w W) s => rread_any (r.ext x) g.ok s g.dl
  have q5 := fun W (x : Ext w W) => has_on (h.ext x) hop
  have q6 := fun W (x : Ext w W) => has_ops (h.ext x) hop
  have q7 := fun W (x : Ext w W) => has_capacity (h.ext x) hop
  have q8 := fun W (x : Ext w W) => has_used (h.ext x) hop
  have q9 := fun W (x : Ext w W) => rused_any (r.ext x) g.ok g.dl
  have q10 := fun W (x : Ext w W) => has_pending (h.ext x) hop
  simp only [refV] at q2 q4 q9
  clear h r g hop hmx
  exact same_walk d.dead d.list d.read hl q1 q2 q3 q4 q5 q6 q7 q8 q9 q10
structure Ply (W : World) (b gr : Nat) (w : World) (K : List Nat) (d : Dsk) (v : V4) (k : Nat) : Prop where
  has : Has w b K d
  stp : Stp [] K W w
  ref : RefD K w v d
  blk : Blk w gr 33 (refC v d)
  gk : gr ∉ K
  gw : W.heap.size ≤ gr
  chs : ∀ c ∈ d.chs, c.2.2 = none → c.1 = []
  fl : (d.files.length : Int) ≤ d.ops
  op : d.ops ≤ k
theorem Ply.rg {W : World} {b gr : Nat} {w : World} {K : List Nat} {d : Dsk} {v : V4} {k : Nat} (h : Ply W b gr w K d v k) (hk : k ≤ 1000) : RG d := ⟨h.has.ok, h.chs, h.fl, by have := h.op; omega⟩
/-- the document's disk is written into its variable -/
theorem Ply.turn {W : World} {b gr : Nat} {w w' : World} {K : List Nat} {d d' : Dsk} {v v' : V4} {k : Nat} (h : Ply W b gr w K d v k) (x : Ext w w') (r : RefD K w' v' d') (hs : ∀ (i : Nat) (z : ByteArray), (refC v d)[i]? ≠ some (Value.string z)) :
    Has (w'.setRow gr (refC v' d')) b K d ∧ Stp [] K W (w'.setRow gr (refC v' d')) ∧ RefD K (w'.setRow gr (refC v' d')) v' d' ∧ Blk (w'.setRow gr (refC v' d')) gr 33 (refC v' d') := by
  refine ⟨?_, ⟨But.of_ext ((h.stp.ext.trans x).setRow h.gw _), h.stp.2⟩, r.butG (h.blk.ext x) hs (But.row1 _ _ _), (h.blk.ext x).setRow _⟩
  obtain ⟨ok, fb, mn, ms, cv, m, rfl⟩ := h.has.ext x
  exact ⟨ok, fb, mn, ms, cv, m.but (But.row1 w' gr (refC v' d')) (fun k hk e => h.gk (by rw [List.mem_singleton] at e; exact e ▸ hk)), rfl⟩
theorem Ply.next {W : World} {b gr : Nat} {w : World} {K K' : List Nat} {d : Dsk} {a : ActD} {v v' : V4} {k : Nat} (h : Ply W b gr w K d v k) {w2 w3 : World} (s2 : Stp [] K W w2) (r2 : RefD K w2 v' (d.act a).1) (b2 : Blk w2 gr 33 (refC v' (d.act a).1))
    (h3 : Has w3 b K' (d.act a).1) (s3 : Stp K K' w2 w3) : Ply W b gr w3 K' (d.act a).1 v' (k + 1) := by
  have hr := act_rg h.chs h.fl a
  refine ⟨h3, s2.trans s3, r2.stp s3, Blk.but b2 s3.1 h.gk, fun hm => ?_, h.gw, hr.1, hr.2, by have := act_ops d a; have := h.op; omega⟩
  rcases s3.2 gr hm with e | e
  · exact h.gk e
  · exact absurd b2.lt (Nat.not_lt.2 e)
theorem Ply.ext {W : World} {b gr : Nat} {w w' : World} {K : List Nat} {d : Dsk} {v : V4} {k : Nat} (h : Ply W b gr w K d v k) (x : Ext w w') : Ply W b gr w' K d v k :=
  ⟨h.has.ext x, h.stp.then x, h.ref.ext x, h.blk.ext x, h.gk, h.gw, h.chs, h.fl, h.op⟩
theorem refC_nostr {K : List Nat} {w : World} {v : V4} {d : Dsk} (r : RefD K w v d) : ∀ (i : Nat) (z : ByteArray), (refC v d)[i]? ≠ some (Value.string z) := by
  obtain ⟨aF, cF, aD, cD, aS, cS, aC, cC, rfl⟩ := r.open_
  exact dsk_nostr _ _ _ _ (sl_ex aF _ cF) (sl_ex aD _ cD) (sl_ex aS _ cS) (sl_ex aC _ cC) _ _ _ _
theorem refC_all {K : List Nat} {w : World} {v : V4} {d : Dsk} (r : RefD K w v d) : (refC v d).all (·.oneCell') = true := by
  obtain ⟨aF, cF, aD, cD, aS, cS, aC, cC, rfl⟩ := r.open_
  exact disk_all _ _ _ _ (sl_ex aF _ cF) (sl_ex aD _ cD) (sl_ex aS _ cS) (sl_ex aC _ cC) _ _ _ _
theorem refC_size (v : V4) (d : Dsk) : (Tryz.prog.info? 33).map (·.size) = some (refC v d).size := rdisk_size
end Go.Proofs.YtfipfljiohdlhaaGreat
