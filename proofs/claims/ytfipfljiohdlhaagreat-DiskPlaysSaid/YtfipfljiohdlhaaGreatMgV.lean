/- Several texts in one. merged: DkY DkZ DlA DlB DlC -/
import Derived.Test.YtfipfljiohdlhaaGreatMgU
import Derived.Test.YtfipfljiohdlhaaGreatZer
namespace Go.Proofs.YtfipfljiohdlhaaGreat
set_option linter.unusedVariables false
set_option linter.unusedSimpArgs false
open Go.RowKit
attribute [local go_sem] S_size S_toList S_append S_extract S_beq S_bne S_empty S_nil

/-- the pointer is that of a disk that no call made -/
def NoD (w : World) (p : Option Addr) : Prop := p = none ∨ ∃ b, p = some ⟨b, 0, none⟩ ∧ w.cell? ⟨b, 7, none⟩ = some (.bool false)
theorem NoD.up {w : World} {p : Option Addr} (h : NoD w p) : Calls Tryz.prog 41 #[.pointer p] w fun e w' => e = .returned (.int .i64 1) ∧ w = w' := by
  rcases h with rfl | ⟨b, rfl, hc⟩
  · exact up_nil w
  · exact up_zero hc
theorem NoD.ext {w w' : World} {p : Option Addr} (h : NoD w p) (x : Ext w w') : NoD w' p := by
  rcases h with h | ⟨b, h, hc⟩
  · exact .inl h
  · exact .inr ⟨b, h, by rw [x.cell (World.block_lt_of_cell? w _ hc)]; exact hc⟩
section
variable {w : World} {p : Option Addr} (h : NoD w p)
include h
set_option maxRecDepth 20000 in
theorem no_find (s : List UInt8) : Calls Tryz.prog 44 #[.pointer p, .string (S s)] w fun e w' => e = .returned (.tuple #[.pointer none, .int .i64 1]) ∧ w = w' := by
  have q := Lib.hid h.up
  go_enter Tryz.func44, Tryz.ntmps44
  go_wp2_with fail
  refine q.out.mono ?_
  rintro _ w1 ⟨rfl, rfl⟩
  go_wp2
  go_ret2
  exact ⟨rfl, rfl⟩
set_option maxRecDepth 20000 in
theorem no_create (s : List UInt8) : Calls Tryz.prog 11 #[.pointer p, .string (S s)] w fun e w' => e = .returned (.int .i64 1) ∧ Ext w w' := by
  have q := Lib.hid h.up
  go_enter Tryz.func11, Tryz.ntmps11
  go_wp2_with fail
  refine q.out.mono ?_
  rintro _ w1 ⟨rfl, rfl⟩
  go_wp2
  go_ret
  exact ⟨rfl, Ext.refl _⟩
set_option maxRecDepth 20000 in
theorem no_append (s t : List UInt8) : Calls Tryz.prog 12 #[.pointer p, .string (S s), .string (S t)] w fun e w' => e = .returned (.int .i64 1) ∧ Ext w w' := by
  have q := Lib.hid (no_find h s)
  go_enter Tryz.func12, Tryz.ntmps12
  go_wp2_with fail
  refine q.out.mono ?_
  rintro _ w1 ⟨rfl, rfl⟩
  go_wp2
  go_ret
  exact ⟨rfl, (Ext.refl _).alloc _⟩
set_option maxRecDepth 20000 in
theorem no_sync (s : List UInt8) : Calls Tryz.prog 13 #[.pointer p, .string (S s)] w fun e w' => e = .returned (.int .i64 1) ∧ Ext w w' := by
  have q := Lib.hid (no_find h s)
  go_enter Tryz.func13, Tryz.ntmps13
  go_wp2_with fail
  refine q.out.mono ?_
  rintro _ w1 ⟨rfl, rfl⟩
  go_wp2
  go_ret
  exact ⟨rfl, (Ext.refl _).alloc _⟩
set_option maxRecDepth 20000 in
theorem no_cut (s : List UInt8) (k : Int) : Calls Tryz.prog 31 #[.pointer p, .string (S s), .int .i64 k] w fun e w' => e = .returned (.int .i64 1) ∧ Ext w w' := by
  have q := Lib.hid (no_find h s)
  go_enter Tryz.func31, Tryz.ntmps31
  go_wp2_with fail
  refine q.out.mono ?_
  rintro _ w1 ⟨rfl, rfl⟩
  go_wp2
  go_ret
  exact ⟨rfl, (Ext.refl _).alloc _⟩
set_option maxRecDepth 20000 in
theorem no_rename (s t : List UInt8) : Calls Tryz.prog 32 #[.pointer p, .string (S s), .string (S t)] w fun e w' => e = .returned (.int .i64 1) ∧ Ext w w' := by
  have q := Lib.hid (no_find h s)
  go_enter Tryz.func32, Tryz.ntmps32
  go_wp2_with fail
  refine q.out.mono ?_
  rintro _ w1 ⟨rfl, rfl⟩
  go_wp2
  go_ret
  exact ⟨rfl, Ext.refl _⟩
set_option maxRecDepth 20000 in
theorem no_remove (s : List UInt8) : Calls Tryz.prog 33 #[.pointer p, .string (S s)] w fun e w' => e = .returned (.int .i64 1) ∧ Ext w w' := by
  have q := Lib.hid (no_find h s)
  go_enter Tryz.func33, Tryz.ntmps33
  go_wp2_with fail
  refine q.out.mono ?_
  rintro _ w1 ⟨rfl, rfl⟩
  go_wp2
  go_ret
  exact ⟨rfl, Ext.refl _⟩
set_option maxRecDepth 20000 in
theorem no_dirsync : Calls Tryz.prog 14 #[.pointer p] w fun e w' => e = .returned (.int .i64 1) ∧ Ext w w' := by
  have q := Lib.hid h.up
  go_enter Tryz.func14, Tryz.ntmps14
  go_wp2_with fail
  refine q.out.mono ?_
  rintro _ w1 ⟨rfl, rfl⟩
  go_wp2
  go_ret
  exact ⟨rfl, Ext.refl _⟩
set_option maxRecDepth 20000 in
theorem no_arm (k : Int) : Calls Tryz.prog 34 #[.pointer p, .int .i64 k] w fun e w' => e = .returned (.int .i64 1) ∧ Ext w w' := by
  have q := Lib.hid h.up
  go_enter Tryz.func34, Tryz.ntmps34
  go_wp2_with fail
  refine q.out.mono ?_
  rintro _ w1 ⟨rfl, rfl⟩
  go_wp2
  go_ret
  exact ⟨rfl, Ext.refl _⟩
set_option maxRecDepth 20000 in
theorem no_off : Calls Tryz.prog 35 #[.pointer p] w fun e w' => e = .returned (.int .i64 1) ∧ Ext w w' := by
  have q := Lib.hid h.up
  go_enter Tryz.func35, Tryz.ntmps35
  go_wp2_with fail
  refine q.out.mono ?_
  rintro _ w1 ⟨rfl, rfl⟩
  go_wp2
  go_ret
  exact ⟨rfl, Ext.refl _⟩
set_option maxRecDepth 20000 in
theorem no_boot (k : Int) (vc vm : Value) : Calls Tryz.prog 17 #[.pointer p, .agg #[.int .i64 k, vc, vm]] w fun e w' => e = .returned (.int .i64 1) ∧ Ext w w' := by
  have q := Lib.hid (h.ext ((Ext.refl w).alloc (.cells #[.int .i64 k, vc, vm] 41))).up
  go_enter Tryz.func17, Tryz.ntmps17
  go_wp2_with fail
  refine q.out.mono ?_
  rintro _ w1 ⟨rfl, rfl⟩
  go_wp2
  go_ret
  exact ⟨rfl, (Ext.refl _).alloc _⟩
set_option maxRecDepth 20000 in
theorem no_list : Calls Tryz.prog 19 #[.pointer p] w fun e w' => e = .returned (.slice none 0 0) ∧ Ext w w' := by
  have q := Lib.hid h.up
  go_enter Tryz.func19, Tryz.ntmps19
  go_wp2_with fail
  refine q.out.mono ?_
  rintro _ w1 ⟨rfl, rfl⟩
  go_wp2
  go_ret
  exact ⟨rfl, Ext.refl _⟩
set_option maxRecDepth 20000 in
theorem no_used : Calls Tryz.prog 16 #[.pointer p] w fun e w' => e = .returned (.int .i64 0) ∧ Ext w w' := by
  have q := Lib.hid h.up
  go_enter Tryz.func16, Tryz.ntmps16
  go_wp2_with fail
  refine q.out.mono ?_
  rintro _ w1 ⟨rfl, rfl⟩
  go_wp2
  go_ret
  exact ⟨rfl, Ext.refl _⟩
set_option maxRecDepth 20000 in
theorem no_capacity : Calls Tryz.prog 37 #[.pointer p] w fun e w' => e = .returned (.int .i64 0) ∧ Ext w w' := by
  have q := Lib.hid h.up
  go_enter Tryz.func37, Tryz.ntmps37
  go_wp2_with fail
  refine q.out.mono ?_
  rintro _ w1 ⟨rfl, rfl⟩
  go_wp2
  go_ret
  exact ⟨rfl, Ext.refl _⟩
set_option maxRecDepth 20000 in
theorem no_pending : Calls Tryz.prog 39 #[.pointer p] w fun e w' => e = .returned (.int .i64 0) ∧ Ext w w' := by
  have q := Lib.hid h.up
  go_enter Tryz.func39, Tryz.ntmps39
  go_wp2_with fail
  refine q.out.mono ?_
  rintro _ w1 ⟨rfl, rfl⟩
  go_wp2
  go_ret
  exact ⟨rfl, Ext.refl _⟩
set_option maxRecDepth 20000 in
theorem no_ops : Calls Tryz.prog 15 #[.pointer p] w fun e w' => e = .returned (.int .i64 0) ∧ Ext w w' := by
  have q := Lib.hid h.up
  go_enter Tryz.func15, Tryz.ntmps15
  go_wp2_with fail
  refine q.out.mono ?_
  rintro _ w1 ⟨rfl, rfl⟩
  go_wp2
  go_ret
  exact ⟨rfl, Ext.refl _⟩
set_option maxRecDepth 20000 in
theorem no_on : Calls Tryz.prog 20 #[.pointer p] w fun e w' => e = .returned (.bool false) ∧ Ext w w' := by
  have q := Lib.hid h.up
  go_enter Tryz.func20, Tryz.ntmps20
  go_wp2_with fail
  refine q.out.mono ?_
  rintro _ w1 ⟨rfl, rfl⟩
  go_wp2
  go_ret
  exact ⟨rfl, Ext.refl _⟩
set_option maxRecDepth 20000 in
theorem no_read (s : List UInt8) : Calls Tryz.prog 18 #[.pointer p, .string (S s)] w fun e w' => e = .returned (.tuple #[.string (S []), .int .i64 1]) ∧ Ext w w' := by
  have q := Lib.hid (no_find h s)
  go_enter Tryz.func18, Tryz.ntmps18
  go_wp2_with fail
  refine q.out.mono ?_
  rintro _ w1 ⟨rfl, rfl⟩
  go_wp2
  go_ret2
  exact ⟨rfl, Ext.refl _⟩
end
end Go.Proofs.YtfipfljiohdlhaaGreat
namespace Go.Proofs.YtfipfljiohdlhaaGreat
set_option linter.unusedVariables false
set_option linter.unusedSimpArgs false
open Go.RowKit
attribute [local go_sem] S_size S_toList S_append S_extract S_beq S_bne S_empty S_nil

set_option maxRecDepth 20000 in
set_option maxHeartbeats 4000000 in
theorem no_do {w : World} {p : Option Addr} (h : NoD w p) (kind n : Int) (s t : List UInt8) (dir : Int) (vc vm : Value) (hk : 0 ≤ kind ∧ kind ≤ 9) :
    Calls Tryz.prog 9 #[.pointer p, .agg #[.int .i64 kind, .int .i64 n, .string (S s), .string (S t), .int .i64 dir, vc, vm]] w fun e w' => e = .returned (.int .i64 1) ∧ Ext w w' := by
  have X := (Ext.refl w).alloc (.cells #[.int .i64 kind, .int .i64 n, .string (S s), .string (S t), .int .i64 dir, vc, vm] 43)
  have XH := Lib.hid X
  have H := Lib.hid (h.ext X)
  have R4 := Lib.hid (show (w.alloc (.cells #[.int .i64 kind, .int .i64 n, .string (S s), .string (S t), .int .i64 dir, vc, vm] 43)).rangeAt w.heap.size 4 [.int .i64 dir, vc, vm] from fun j u hj => by
    rw [Blk.cell (Blk.new w 43 #[.int .i64 kind, .int .i64 n, .string (S s), .string (S t), .int .i64 dir, vc, vm])]
    match j, hj with
    | 0, hj => exact hj
    | 1, hj => exact hj
    | 2, hj => exact hj)
  have RS := Lib.hid (show (Tryz.prog.info? 41).map (·.size) = some [Value.int .i64 dir, vc, vm].length by kernel_rfl)
  clear h X
  by_cases h0 : kind = 0
  · subst h0
    clear hk
    have C := Lib.hid (no_create H.out s)
    go_enter Tryz.func9, Tryz.ntmps9
    go_wp2_with fail
    refine Calls.mono C.out ?_
    rintro _ w1 ⟨rfl, r1⟩
    have R1 := Lib.hid r1
    clear r1
    go_wp2
    go_ret
    exact ⟨rfl, XH.out.trans R1.out⟩
  by_cases h1 : kind = 1
  · subst h1
    clear hk
    have C := Lib.hid (no_append H.out s t)
    go_enter Tryz.func9, Tryz.ntmps9
    go_wp2_with fail
    refine Calls.mono C.out ?_
    rintro _ w1 ⟨rfl, r1⟩
    have R1 := Lib.hid r1
    clear r1
    go_wp2
    go_ret
    exact ⟨rfl, XH.out.trans R1.out⟩
  by_cases h2 : kind = 2
  · subst h2
    clear hk
    have C := Lib.hid (no_sync H.out s)
    go_enter Tryz.func9, Tryz.ntmps9
    go_wp2_with fail
    refine Calls.mono C.out ?_
    rintro _ w1 ⟨rfl, r1⟩
    have R1 := Lib.hid r1
    clear r1
    go_wp2
    go_ret
    exact ⟨rfl, XH.out.trans R1.out⟩
  by_cases h3 : kind = 3
  · subst h3
    clear hk
    have C := Lib.hid (no_cut H.out s n)
    go_enter Tryz.func9, Tryz.ntmps9
    go_wp2_with fail
    refine Calls.mono C.out ?_
    rintro _ w1 ⟨rfl, r1⟩
    have R1 := Lib.hid r1
    clear r1
    go_wp2
    go_ret
    exact ⟨rfl, XH.out.trans R1.out⟩
  by_cases h4 : kind = 4
  · subst h4
    clear hk
    have C := Lib.hid (no_rename H.out s t)
    go_enter Tryz.func9, Tryz.ntmps9
    go_wp2_with fail
    refine Calls.mono C.out ?_
    rintro _ w1 ⟨rfl, r1⟩
    have R1 := Lib.hid r1
    clear r1
    go_wp2
    go_ret
    exact ⟨rfl, XH.out.trans R1.out⟩
  by_cases h5 : kind = 5
  · subst h5
    clear hk
    have C := Lib.hid (no_remove H.out s)
    go_enter Tryz.func9, Tryz.ntmps9
    go_wp2_with fail
    refine Calls.mono C.out ?_
    rintro _ w1 ⟨rfl, r1⟩
    have R1 := Lib.hid r1
    clear r1
    go_wp2
    go_ret
    exact ⟨rfl, XH.out.trans R1.out⟩
  by_cases h6 : kind = 6
  · subst h6
    clear hk
    have C := Lib.hid (no_dirsync H.out)
    go_enter Tryz.func9, Tryz.ntmps9
    go_wp2_with fail
    refine Calls.mono C.out ?_
    rintro _ w1 ⟨rfl, r1⟩
    have R1 := Lib.hid r1
    clear r1
    go_wp2
    go_ret
    exact ⟨rfl, XH.out.trans R1.out⟩
  by_cases h7 : kind = 7
  · subst h7
    clear hk
    have C := Lib.hid (no_arm H.out n)
    go_enter Tryz.func9, Tryz.ntmps9
    go_wp2_with fail
    refine Calls.mono C.out ?_
    rintro _ w1 ⟨rfl, r1⟩
    have R1 := Lib.hid r1
    clear r1
    go_wp2
    go_ret
    exact ⟨rfl, XH.out.trans R1.out⟩
  by_cases h8 : kind = 8
  · subst h8
    clear hk
    have C := Lib.hid (no_off H.out)
    go_enter Tryz.func9, Tryz.ntmps9
    go_wp2_with fail
    refine Calls.mono C.out ?_
    rintro _ w1 ⟨rfl, r1⟩
    have R1 := Lib.hid r1
    clear r1
    go_wp2
    go_ret
    exact ⟨rfl, XH.out.trans R1.out⟩
  by_cases h9 : kind = 9
  · subst h9
    clear hk
    have C := Lib.hid (no_boot H.out dir vc vm)
    go_enter Tryz.func9, Tryz.ntmps9
    go_wp2_with (refine wpList_load_mid rfl 41 (.tmp 66) rfl w.heap.size 4 rfl [.int .i64 dir, vc, vm] _ R4.out Tryz.underlying41 rfl RS.out ?_)
    refine Calls.mono C.out ?_
    rintro _ w1 ⟨rfl, r1⟩
    have R1 := Lib.hid r1
    clear r1
    go_wp2
    go_ret
    exact ⟨rfl, XH.out.trans R1.out⟩
  · omega
end Go.Proofs.YtfipfljiohdlhaaGreat
namespace Go.Proofs.YtfipfljiohdlhaaGreat
set_option linter.unusedVariables false
set_option linter.unusedSimpArgs false
set_option linter.unusedSectionVars false
open Go.RowKit

/-- the disk d, all of whose blocks are newer than w0; nothing that was there in w0 has turned -/
def DI (w0 w : World) (b : Nat) (d : Dsk) : Prop := d.Ok ∧ Ext w0 w ∧ ∃ fb mn ms cv, MemD w b d fb mn ms cv ∧ ∀ k ∈ owns b mn ms cv fb, w0.heap.size ≤ k
theorem DI.ext {w0 w w' : World} {b : Nat} {d : Dsk} (h : DI w0 w b d) (x : Ext w w') : DI w0 w' b d := by
  obtain ⟨ok, e, fb, mn, ms, cv, m, hk⟩ := h
  exact ⟨ok, e.trans x, fb, mn, ms, cv, m.ext x, hk⟩
theorem DI.of {w0 w w' : World} {b : Nat} {d' : Dsk} {fb : List Nat} {mn ms : Nat} {cv : Value} (e : Ext w0 w) (hk : ∀ k ∈ owns b mn ms cv fb, w0.heap.size ≤ k) (h : OpR w b d' fb mn ms cv w') (ok : d'.Ok) : DI w0 w' b d' := by
  obtain ⟨h1, fb', mn', ms', cv', m, h2⟩ := h
  exact ⟨ok, e.but h1 hk, fb', mn', ms', cv', m, fun k hk' => (h2 k hk').elim (hk k) (fun h => Nat.le_trans e.size h)⟩
section
variable {w0 w : World} {b : Nat} {d : Dsk} (h : DI w0 w b d) (hop : d.ops ≤ 1000000)
include h hop
theorem di_create (s : List UInt8) (hs : s.length ≤ maxLen) : Calls Tryz.prog 11 #[.pointer (some ⟨b, 0, none⟩), .string (S s)] w fun e w' => e = .returned (.int .i64 (d.create s).2) ∧ DI w0 w' b (d.create s).1 := by
  obtain ⟨ok, e, fb, mn, ms, cv, m, hk⟩ := h
  exact (create_any m ok (by omega) s hs).mono (fun _ w' ⟨h1, h2⟩ => ⟨h1, DI.of e hk h2 (ok.create s)⟩)
theorem di_append (s t : List UInt8) (hs : s.length ≤ maxLen) (ht : t.length ≤ maxLen) : Calls Tryz.prog 12 #[.pointer (some ⟨b, 0, none⟩), .string (S s), .string (S t)] w fun e w' => e = .returned (.int .i64 (d.append s t).2) ∧ DI w0 w' b (d.append s t).1 := by
  obtain ⟨ok, e, fb, mn, ms, cv, m, hk⟩ := h
  exact (append_any m ok (by omega) s hs t ht).mono (fun _ w' ⟨h1, h2⟩ => ⟨h1, DI.of e hk h2 (ok.append s t)⟩)
theorem di_sync (s : List UInt8) (hs : s.length ≤ maxLen) : Calls Tryz.prog 13 #[.pointer (some ⟨b, 0, none⟩), .string (S s)] w fun e w' => e = .returned (.int .i64 (d.sync s).2) ∧ DI w0 w' b (d.sync s).1 := by
  obtain ⟨ok, e, fb, mn, ms, cv, m, hk⟩ := h
  exact (sync_any m ok (by omega) s hs).mono (fun _ w' ⟨h1, h2⟩ => ⟨h1, DI.of e hk h2 (ok.sync s)⟩)
theorem di_dirSync : Calls Tryz.prog 14 #[.pointer (some ⟨b, 0, none⟩)] w fun e w' => e = .returned (.int .i64 d.dirSync.2) ∧ DI w0 w' b d.dirSync.1 := by
  obtain ⟨ok, e, fb, mn, ms, cv, m, hk⟩ := h
  exact (dirSync_any m ok (by omega)).mono (fun _ w' ⟨h1, h2⟩ => ⟨h1, DI.of e hk h2 ok.dirSync⟩)
theorem di_ops : Calls Tryz.prog 15 #[.pointer (some ⟨b, 0, none⟩)] w fun e w' => e = .returned (.int .i64 d.ops) ∧ DI w0 w' b d := by
  have h' := h
  obtain ⟨ok, e, fb, mn, ms, cv, m, hk⟩ := h
  exact (ops_any m).mono (fun _ w' ⟨h1, h2⟩ => ⟨h1, h2 ▸ h'⟩)
theorem di_on : Calls Tryz.prog 20 #[.pointer (some ⟨b, 0, none⟩)] w fun e w' => e = .returned (.bool !d.dead) ∧ DI w0 w' b d := by
  have h' := h
  obtain ⟨ok, e, fb, mn, ms, cv, m, hk⟩ := h
  exact (on_any m).mono (fun _ w' ⟨h1, h2⟩ => ⟨h1, h2 ▸ h'⟩)
theorem di_used : Calls Tryz.prog 16 #[.pointer (some ⟨b, 0, none⟩)] w fun e w' => e = .returned (.int .i64 (if d.dead then 0 else d.used)) ∧ DI w0 w' b d := by
  have h' := h
  obtain ⟨ok, e, fb, mn, ms, cv, m, hk⟩ := h
  exact (usedD_any m ok (by omega)).mono (fun _ w' ⟨h1, h2⟩ => ⟨h1, h'.ext h2⟩)
theorem di_read (s : List UInt8) (hs : s.length ≤ maxLen) : Calls Tryz.prog 18 #[.pointer (some ⟨b, 0, none⟩), .string (S s)] w fun e w' => e = .returned (.tuple #[.string (S (d.read s).1), .int .i64 (d.read s).2]) ∧ DI w0 w' b d := by
  have h' := h
  obtain ⟨ok, e, fb, mn, ms, cv, m, hk⟩ := h
  exact (read_any m ok s hs).mono (fun _ w' ⟨h1, h2⟩ => ⟨h1, h2 ▸ h'⟩)
theorem di_list : Calls Tryz.prog 19 #[.pointer (some ⟨b, 0, none⟩)] w fun e w' => ∃ v, e = .returned v ∧ SW w' w.heap.size v d.list ∧ (v = .slice none 0 0 ↔ d.list = []) ∧ DI w0 w' b d := by
  have h' := h
  obtain ⟨ok, e, fb, mn, ms, cv, m, hk⟩ := h
  exact (list_any m ok hop).mono (fun _ w' ⟨v, h1, h2, h3, h4⟩ => ⟨v, h1, h2, h3, h'.ext h4⟩)
theorem di_boot (k : Int) {vc vm : Value} {cuts : List Int} {marks : List (List UInt8)} (hc : RR iC 1 w vc cuts) (hm : RR sC 1 w vm marks) (hcl : (cuts.length : Int) ≤ 9223372036854775807) (hml : (marks.length : Int) ≤ 9223372036854775807) (hmk : ∀ s ∈ marks, (s.length : Int) ≤ 9223372036854775807) :
    Calls Tryz.prog 17 #[.pointer (some ⟨b, 0, none⟩), .agg #[.int .i64 k, vc, vm]] w fun e w' => e = .returned (.int .i64 0) ∧ DI w0 w' b (d.boot k cuts marks) := by
  obtain ⟨ok, e, fb, mn, ms, cv, m, hk⟩ := h
  exact (boot_any m ok hop k hc hm hcl hml hmk).mono (fun _ w' ⟨h1, h2⟩ => ⟨h1, DI.of e hk h2 (ok.boot k cuts marks)⟩)
end
theorem di_new (cap : Int) (w : World) (h1 : 0 ≤ cap) (h2 : cap ≤ 10000000) : Calls Tryz.prog 6 #[.int .i64 cap] w fun e w' => ∃ b, e = .returned (.tuple #[.pointer (some ⟨b, 0, none⟩), .int .i64 0]) ∧ DI w w' b (Dsk.new cap) :=
  (new_any cap w h1 h2).mono (fun _ w' ⟨b, e1, e2, mn, ms, m, hk⟩ => ⟨b, e1, Dsk.Ok.new h1 h2, e2, [], mn, ms, _, m, hk⟩)
end Go.Proofs.YtfipfljiohdlhaaGreat
namespace Go.Proofs.YtfipfljiohdlhaaGreat
set_option linter.unusedVariables false
set_option linter.unusedSimpArgs false
open Go.RowKit
attribute [local go_sem] S_size S_toList S_append S_extract S_beq S_bne S_empty S_nil

def aw (fs : List (List UInt8 × List UInt8)) (dir safe : List (List UInt8 × Nat)) (chs : List (List UInt8 × List UInt8 × Option Nat)) (ops : Int) : Dsk := ⟨fs, dir, safe, chs, 100, ops, 0, false⟩
theorem aw1 : (Dsk.new 100).create [97] = (aw [([], [])] [([97], 0)] [] [([97], [], some 0)] 1, 0) := by rfl
theorem aw2 : (aw [([], [])] [([97], 0)] [] [([97], [], some 0)] 1).append [97] [97, 98] = (aw [([], [97, 98])] [([97], 0)] [] [([97], [], some 0)] 2, 0) := by rfl
theorem aw3 : (aw [([], [97, 98])] [([97], 0)] [] [([97], [], some 0)] 2).sync [97] = (aw [([97, 98], [97, 98])] [([97], 0)] [] [([97], [], some 0)] 3, 0) := by rfl
theorem aw4 : (aw [([97, 98], [97, 98])] [([97], 0)] [] [([97], [], some 0)] 3).dirSync = (aw [([97, 98], [97, 98])] [([97], 0)] [([97], 0)] [] 4, 0) := by rfl
theorem aw5 : (aw [([97, 98], [97, 98])] [([97], 0)] [([97], 0)] [] 4).append [97] [99, 100] = (aw [([97, 98], [97, 98, 99, 100])] [([97], 0)] [([97], 0)] [] 5, 0) := by rfl
theorem aw6 : (aw [([97, 98], [97, 98, 99, 100])] [([97], 0)] [([97], 0)] [] 5).create [97] = (aw [([97, 98], [97, 98, 99, 100])] [([97], 0)] [([97], 0)] [] 5, 202) := by rfl
theorem aw7 : (aw [([97, 98], [97, 98, 99, 100])] [([97], 0)] [([97], 0)] [] 5).append [98] [] = (aw [([97, 98], [97, 98, 99, 100])] [([97], 0)] [([97], 0)] [] 5, 201) := by rfl
theorem aw8 : (aw [([97, 98], [97, 98, 99, 100])] [([97], 0)] [([97], 0)] [] 5).append [97] (List.replicate 97 0) = (aw [([97, 98], [97, 98, 99, 100])] [([97], 0)] [([97], 0)] [] 5, 203) := by rfl
theorem aw9 : (aw [([97, 98], [97, 98, 99, 100])] [([97], 0)] [([97], 0)] [] 5).boot 0 [1] [] = aw [([97, 98, 99], [97, 98, 99])] [([97], 0)] [([97], 0)] [] 5 := by rfl
theorem aw10 : (aw [([97, 98, 99], [97, 98, 99])] [([97], 0)] [([97], 0)] [] 5).read [97] = ([97, 98, 99], 0) := by rfl
theorem aw11 : (aw [([97, 98], [97, 98, 99, 100])] [([97], 0)] [([97], 0)] [] 5).used = 4 := by rfl
end Go.Proofs.YtfipfljiohdlhaaGreat
namespace Go.Proofs.YtfipfljiohdlhaaGreat
set_option linter.unusedVariables false
set_option linter.unusedSimpArgs false
open Go.RowKit
attribute [local go_sem] S_size S_toList S_append S_extract S_beq S_bne S_empty S_nil

theorem awq1 {w w1 : World} {b : Nat} (h : DI w w1 b (Dsk.new 100)) : Calls Tryz.prog 11 #[.pointer (some ⟨b, 0, none⟩), .string (S [97])] w1 fun e w' => e = .returned (.int .i64 0) ∧ DI w w' b (aw [([], [])] [([97], 0)] [] [([97], [], some 0)] 1) := by
  have := di_create h (by decide) [97] (by decide)
  rw [aw1] at this
  exact this
theorem awq2 {w w1 : World} {b : Nat} (h : DI w w1 b (aw [([], [])] [([97], 0)] [] [([97], [], some 0)] 1)) : Calls Tryz.prog 12 #[.pointer (some ⟨b, 0, none⟩), .string (S [97]), .string (S [97, 98])] w1 fun e w' => e = .returned (.int .i64 0) ∧ DI w w' b (aw [([], [97, 98])] [([97], 0)] [] [([97], [], some 0)] 2) := by
  have := di_append h (by decide) [97] [97, 98] (by decide) (by decide)
  rw [aw2] at this
  exact this
theorem awq3 {w w1 : World} {b : Nat} (h : DI w w1 b (aw [([], [97, 98])] [([97], 0)] [] [([97], [], some 0)] 2)) : Calls Tryz.prog 13 #[.pointer (some ⟨b, 0, none⟩), .string (S [97])] w1 fun e w' => e = .returned (.int .i64 0) ∧ DI w w' b (aw [([97, 98], [97, 98])] [([97], 0)] [] [([97], [], some 0)] 3) := by
  have := di_sync h (by decide) [97] (by decide)
  rw [aw3] at this
  exact this
theorem awq4 {w w1 : World} {b : Nat} (h : DI w w1 b (aw [([97, 98], [97, 98])] [([97], 0)] [] [([97], [], some 0)] 3)) : Calls Tryz.prog 14 #[.pointer (some ⟨b, 0, none⟩)] w1 fun e w' => e = .returned (.int .i64 0) ∧ DI w w' b (aw [([97, 98], [97, 98])] [([97], 0)] [([97], 0)] [] 4) := by
  have := di_dirSync h (by decide)
  rw [aw4] at this
  exact this
theorem awq5 {w w1 : World} {b : Nat} (h : DI w w1 b (aw [([97, 98], [97, 98])] [([97], 0)] [([97], 0)] [] 4)) : Calls Tryz.prog 12 #[.pointer (some ⟨b, 0, none⟩), .string (S [97]), .string (S [99, 100])] w1 fun e w' => e = .returned (.int .i64 0) ∧ DI w w' b (aw [([97, 98], [97, 98, 99, 100])] [([97], 0)] [([97], 0)] [] 5) := by
  have := di_append h (by decide) [97] [99, 100] (by decide) (by decide)
  rw [aw5] at this
  exact this
theorem awq6 {w w1 : World} {b : Nat} (h : DI w w1 b (aw [([97, 98], [97, 98, 99, 100])] [([97], 0)] [([97], 0)] [] 5)) : Calls Tryz.prog 11 #[.pointer (some ⟨b, 0, none⟩), .string (S [97])] w1 fun e w' => e = .returned (.int .i64 202) ∧ DI w w' b (aw [([97, 98], [97, 98, 99, 100])] [([97], 0)] [([97], 0)] [] 5) := by
  have := di_create h (by decide) [97] (by decide)
  rw [aw6] at this
  exact this
theorem awq7 {w w1 : World} {b : Nat} (h : DI w w1 b (aw [([97, 98], [97, 98, 99, 100])] [([97], 0)] [([97], 0)] [] 5)) : Calls Tryz.prog 12 #[.pointer (some ⟨b, 0, none⟩), .string (S [98]), .string (S [])] w1 fun e w' => e = .returned (.int .i64 201) ∧ DI w w' b (aw [([97, 98], [97, 98, 99, 100])] [([97], 0)] [([97], 0)] [] 5) := by
  have := di_append h (by decide) [98] [] (by decide) (by decide)
  rw [aw7] at this
  exact this
theorem awq8 {w w1 : World} {b : Nat} (h : DI w w1 b (aw [([97, 98], [97, 98, 99, 100])] [([97], 0)] [([97], 0)] [] 5)) : Calls Tryz.prog 12 #[.pointer (some ⟨b, 0, none⟩), .string (S [97]), .string (S (List.replicate 97 0))] w1 fun e w' => e = .returned (.int .i64 203) ∧ DI w w' b (aw [([97, 98], [97, 98, 99, 100])] [([97], 0)] [([97], 0)] [] 5) := by
  have := di_append h (by decide) [97] (List.replicate 97 0) (by decide) (by decide)
  rw [aw8] at this
  exact this
theorem rr_one (i : Int) {w : World} {g : Nat} {t : TypeId} (h : Blk w g t #[.int .i64 i]) : RR iC 1 w (.slice (some ⟨g, 0, none⟩) 1 1) [i] := by
  refine ⟨some ⟨g, 0, none⟩, 1, rfl, by simp, by simp, fun _ => ⟨g, 0, rfl, fun k x hk j u hu => ?_⟩⟩
  match k, hk with
  | 0, hk =>
    injection hk with hk
    subst hk
    match j, hu with
    | 0, hu =>
      injection hu with hu
      subst hu
      exact h.cell 0
set_option maxRecDepth 20000 in
set_option maxHeartbeats 4000000 in
theorem awake_any (w : World) : Calls Tryz.prog 5 #[] w fun e w' => e = .returned (.bool true) ∧ Ext w w' := by
  have l1 : ByteArray.mk #[97] = S [97] := rfl
  have l2 : ByteArray.mk #[97, 98] = S [97, 98] := rfl
  have l3 : ByteArray.mk #[99, 100] = S [99, 100] := rfl
  have l4 : ByteArray.mk #[98] = S [98] := rfl
  have l5 : ByteArray.mk #[97, 98, 99] = S [97, 98, 99] := rfl
  have q0 := Lib.hid (di_new 100 w (by decide) (by decide))
  have hmk : ∀ w, (Instr.makeSlice 50 (.int .i64 97) (.int .i64 97)).run Tryz.prog w = .ok (.slice (some ⟨w.heap.size, 0, none⟩) 97 97) (w.alloc (.cells (madeCells #[.int .u8 0] 97) 5)) := fun w => make_bytes 97 (by decide) w
  have hcz := fun w => conv_zeros 97 w 5
  simp only [zeroStr_S] at hcz
  obtain ⟨z97, hz97⟩ : ∃ z, z = List.replicate 97 (0 : UInt8) := ⟨_, rfl⟩
  have Z8 := Lib.hid hz97
  rw [← hz97] at hcz
  clear hz97
  go_enter Tryz.func5, Tryz.ntmps5
  go_wp2_with fail
  refine q0.out.mono ?_
  rintro _ w1 ⟨b, rfl, d1⟩
  have G := Lib.hid d1
  clear d1
  go_wp2_with fail
  refine (awq1 G.out).mono ?_
  rintro _ w2 ⟨rfl, d2⟩
  clear G
  have G := Lib.hid d2
  clear d2
  go_wp2_with fail
  refine (awq2 G.out).mono ?_
  rintro _ w2 ⟨rfl, d2⟩
  clear G
  have G := Lib.hid d2
  clear d2
  go_wp2_with fail
  refine (awq3 G.out).mono ?_
  rintro _ w2 ⟨rfl, d2⟩
  clear G
  have G := Lib.hid d2
  clear d2
  go_wp2_with fail
  refine (awq4 G.out).mono ?_
  rintro _ w2 ⟨rfl, d2⟩
  clear G
  have G := Lib.hid d2
  clear d2
  go_wp2_with fail
  refine (awq5 G.out).mono ?_
  rintro _ w2 ⟨rfl, d2⟩
  clear G
  have G := Lib.hid d2
  clear d2
  go_wp2_with fail
  refine (awq6 G.out).mono ?_
  rintro _ w2 ⟨rfl, d2⟩
  clear G
  have G := Lib.hid d2
  clear d2
  go_wp2_with fail
  refine (awq7 G.out).mono ?_
  rintro _ w2 ⟨rfl, d2⟩
  clear G
  have G := Lib.hid d2
  clear d2
  go_wp2_with fail
  have q8 := awq8 (DI.ext G.out ((Ext.refl w2).alloc (.cells (madeCells #[.int .u8 0] 97) 5)))
  rw [← Z8.out] at q8
  refine q8.mono ?_
  rintro _ w3 ⟨rfl, d2⟩
  clear G q8
  have G := Lib.hid d2
  clear d2
  go_wp2_with fail
  refine (di_ops G.out (by decide)).mono ?_
  rintro _ w4 ⟨rfl, d2⟩
  clear G
  have G := Lib.hid d2
  clear d2
  go_wp2_with fail
  have qu := di_used G.out (by decide)
  rw [aw11, show (aw [([97, 98], [97, 98, 99, 100])] [([97], 0)] [([97], 0)] [] 5).dead = false from rfl] at qu
  simp only [Bool.false_eq_true, if_false] at qu
  refine qu.mono ?_
  rintro _ w5 ⟨rfl, d2⟩
  clear G qu
  have G := Lib.hid d2
  clear d2
  have hbs : ∀ w, (Instr.buildSlice 38 1 #[(0, .int .i64 1)]).run Tryz.prog w = .ok (.slice (some ⟨w.heap.size, 0, none⟩) 1 1) (w.alloc (.cells #[.int .i64 1] 3)) := fun w => by kernel_rfl
  go_wp2_with fail
  have rr := rr_one 1 (Blk.new w5 3 #[.int .i64 1])
  have qb := di_boot (DI.ext G.out ((Ext.refl w5).alloc (.cells #[.int .i64 1] 3))) (by decide) 0 rr (RR.nil (f := sC) (s := 1) _) (by decide) (by decide) (by simp)
  rw [aw9] at qb
  refine qb.mono ?_
  rintro _ w6 ⟨rfl, d2⟩
  clear G qb rr
  have G := Lib.hid d2
  clear d2
  go_wp2_with fail
  have qr := di_read G.out (by decide) [97] (by decide)
  rw [aw10] at qr
  refine qr.mono ?_
  rintro _ w7 ⟨rfl, d2⟩
  clear G qr
  have G := Lib.hid d2
  clear d2
  go_wp2_with fail
  refine (new_bad (-1) _ (.inl (by decide))).mono ?_
  rintro _ w8 ⟨rfl, rfl⟩
  go_wp2_with fail
  refine (di_list G.out (by decide)).mono ?_
  rintro _ w9 ⟨v, rfl, sw, _, d2⟩
  clear G
  have G := Lib.hid d2
  clear d2
  obtain ⟨va, vc, rfl, _, _⟩ := RW.shape sw
  have hl1 : ((aw [([97, 98, 99], [97, 98, 99])] [([97], 0)] [([97], 0)] [] 5).list.map fun s => Value.string (S s)).length = 1 := rfl
  rw [hl1]
  clear hl1 sw
  go_wp2_with fail
  refine (di_on G.out (by decide)).mono ?_
  rintro _ w10 ⟨rfl, d2⟩
  have X := Lib.hid d2.2.1
  clear G d2
  rw [show (aw [([97, 98, 99], [97, 98, 99])] [([97], 0)] [([97], 0)] [] 5).dead = false from rfl]
  go_wp2
  go_ret
  exact ⟨rfl, X.out⟩
end Go.Proofs.YtfipfljiohdlhaaGreat
