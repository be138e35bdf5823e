/- disk: calls on a disk that lies in blocks K; all files' names and texts. -/
import Derived.Test.YtfipfljiohdlhaaDmE
import Derived.Test.YtfipfljiohdlhaaDmB
import Derived.Test.YtfipfljiohdlhaaMgV
namespace Go.Proofs.Ytfipfljiohdlhaa
set_option linter.unusedVariables false
set_option linter.unusedSimpArgs false
set_option linter.unusedSectionVars false
open Go.RowKit
attribute [local go_sem] S_size S_toList S_append S_extract S_beq S_bne S_empty S_nil

/-- the disk d lies in just the blocks K -/
def Has (w : World) (b : Nat) (K : List Nat) (d : Dsk) : Prop := d.Ok ∧ ∃ fb mn ms cv, MemD w b d fb mn ms cv ∧ owns b mn ms cv fb = K
theorem Has.ok {w : World} {b : Nat} {K : List Nat} {d : Dsk} (h : Has w b K d) : d.Ok := h.1
theorem Has.lt {w : World} {b : Nat} {K : List Nat} {d : Dsk} (h : Has w b K d) : ∀ k ∈ K, k < w.heap.size := by
  obtain ⟨_, fb, mn, ms, cv, m, rfl⟩ := h
  exact m.lt
theorem Has.ext {w w' : World} {b : Nat} {K : List Nat} {d : Dsk} (h : Has w b K d) (x : Ext w w') : Has w' b K d := by
  obtain ⟨ok, fb, mn, ms, cv, m, hK⟩ := h
  exact ⟨ok, fb, mn, ms, cv, m.ext x, hK⟩
theorem Has.names {w : World} {b : Nat} {K : List Nat} {d : Dsk} (h : Has w b K d) : d.dir.Pairwise (fun p q => p.1 ≠ q.1) := by
  obtain ⟨_, fb, mn, ms, cv, m, _⟩ := h
  have := m.now.canon
  unfold blks at this
  rw [List.pairwise_map] at this
  exact this.imp (fun h => before_neq h)
theorem OpR.own {w w' : World} {b : Nat} {d' : Dsk} {fb : List Nat} {mn ms : Nat} {cv : Value} (h : OpR w b d' fb mn ms cv w') (ok : d'.Ok) : ∃ K', Has w' b K' d' ∧ Stp (owns b mn ms cv fb) K' w w' := by
  obtain ⟨h1, fb', mn', ms', cv', m, h2⟩ := h
  exact ⟨_, ⟨ok, fb', mn', ms', cv', m, rfl⟩, h1, h2⟩
theorem Stp.trans {K K' K'' : List Nat} {w w' w'' : World} (h : Stp K K' w w') (k : Stp K' K'' w' w'') : Stp K K'' w w'' := by
  refine ⟨⟨k.1.os.trans h.1.os, k.1.tape.trans h.1.tape, k.1.output.trans h.1.output, Nat.le_trans h.1.size k.1.size, fun i h1 h2 => ?_⟩, fun i hi => ?_⟩
  · refine (k.1.block i (Nat.lt_of_lt_of_le h1 h.1.size) (fun hm => ?_)).trans (h.1.block i h1 h2)
    rcases h.2 i hm with h3 | h3
    · exact h2 h3
    · omega
  · rcases k.2 i hi with h3 | h3
    · exact h.2 i h3
    · exact .inr (Nat.le_trans h.1.size h3)
theorem Stp.then {K K' : List Nat} {w w' w'' : World} (h : Stp K K' w w') (x : Ext w' w'') : Stp K K' w w'' := h.trans (Stp.of_ext x)
theorem Stp.ext {K : List Nat} {w w' : World} (h : Stp [] K w w') : Ext w w' := ⟨h.1.os, h.1.tape, h.1.output, h.1.size, fun k hk => h.1.block k hk (by simp)⟩
section
variable {w : World} {b : Nat} {K : List Nat} {d : Dsk} (h : Has w b K d) (hop : d.ops ≤ 1000000)
include h hop
theorem has_do {a : ActD} (ha : ActW w a) : Calls Try.prog 9 #[.pointer (some ⟨b, 0, none⟩), .agg (actC a).toArray] w fun e w' => e = .returned (.int .i64 (d.act a).2) ∧ ∃ K', Has w' b K' (d.act a).1 ∧ Stp K K' w w' := by
  obtain ⟨ok, fb, mn, ms, cv, m, rfl⟩ := h
  exact (do_mem m ok hop ha).mono (fun _ w' ⟨h1, h2⟩ => ⟨h1, h2.own (ok.act ha.n1)⟩)
theorem has_sync (s : List UInt8) (hs : s.length ≤ maxLen) : Calls Try.prog 11 #[.pointer (some ⟨b, 0, none⟩), .string (S s)] w fun e w' => e = .returned (.int .i64 (d.sync s).2) ∧ ∃ K', Has w' b K' (d.sync s).1 ∧ Stp K K' w w' := by
  obtain ⟨ok, fb, mn, ms, cv, m, rfl⟩ := h
  exact (sync_any m ok (by omega) s hs).mono (fun _ w' ⟨h1, h2⟩ => ⟨h1, h2.own (ok.sync s)⟩)
theorem has_dirSync : Calls Try.prog 12 #[.pointer (some ⟨b, 0, none⟩)] w fun e w' => e = .returned (.int .i64 d.dirSync.2) ∧ ∃ K', Has w' b K' d.dirSync.1 ∧ Stp K K' w w' := by
  obtain ⟨ok, fb, mn, ms, cv, m, rfl⟩ := h
  exact (dirSync_any m ok (by omega)).mono (fun _ w' ⟨h1, h2⟩ => ⟨h1, h2.own ok.dirSync⟩)
theorem has_off : Calls Try.prog 19 #[.pointer (some ⟨b, 0, none⟩)] w fun e w' => e = .returned (.int .i64 0) ∧ ∃ K', Has w' b K' d.off ∧ Stp K K' w w' := by
  obtain ⟨ok, fb, mn, ms, cv, m, rfl⟩ := h
  exact (off_any m).mono (fun _ w' ⟨h1, h2⟩ => ⟨h1, h2.own ok.off⟩)
theorem has_boot (k : Int) {vc vm : Value} {cuts : List Int} {marks : List (List UInt8)} (hc : RR iC 1 w vc cuts) (hm : RR sC 1 w vm marks) (hcl : (cuts.length : Int) ≤ 9223372036854775807) (hml : (marks.length : Int) ≤ 9223372036854775807) (hmk : ∀ s ∈ marks, (s.length : Int) ≤ 9223372036854775807) :
    Calls Try.prog 14 #[.pointer (some ⟨b, 0, none⟩), .agg #[.int .i64 k, vc, vm]] w fun e w' => e = .returned (.int .i64 0) ∧ ∃ K', Has w' b K' (d.boot k cuts marks) ∧ Stp K K' w w' := by
  obtain ⟨ok, fb, mn, ms, cv, m, rfl⟩ := h
  exact (boot_any m ok hop k hc hm hcl hml hmk).mono (fun _ w' ⟨h1, h2⟩ => ⟨h1, h2.own (ok.boot k cuts marks)⟩)
theorem has_on : Calls Try.prog 18 #[.pointer (some ⟨b, 0, none⟩)] w fun e w' => e = .returned (.bool !d.dead) ∧ w = w' := by
  obtain ⟨ok, fb, mn, ms, cv, m, rfl⟩ := h
  exact on_any m
theorem has_pending : Calls Try.prog 21 #[.pointer (some ⟨b, 0, none⟩)] w fun e w' => e = .returned (.int .i64 (if d.dead then 0 else (d.chs.length : Int))) ∧ w = w' := by
  obtain ⟨ok, fb, mn, ms, cv, m, rfl⟩ := h
  exact pending_any m
theorem has_used : Calls Try.prog 17 #[.pointer (some ⟨b, 0, none⟩)] w fun e w' => e = .returned (.int .i64 (if d.dead then 0 else d.used)) ∧ Ext w w' := by
  obtain ⟨ok, fb, mn, ms, cv, m, rfl⟩ := h
  exact usedD_any m ok (by omega)
theorem has_read (s : List UInt8) (hs : s.length ≤ maxLen) : Calls Try.prog 16 #[.pointer (some ⟨b, 0, none⟩), .string (S s)] w fun e w' => e = .returned (.tuple #[.string (S (d.read s).1), .int .i64 (d.read s).2]) ∧ w = w' := by
  obtain ⟨ok, fb, mn, ms, cv, m, rfl⟩ := h
  exact read_any m ok s hs
theorem has_list : Calls Try.prog 10 #[.pointer (some ⟨b, 0, none⟩)] w fun e w' => ∃ v, e = .returned v ∧ SW w' w.heap.size v d.list ∧ Ext w w' := by
  obtain ⟨ok, fb, mn, ms, cv, m, rfl⟩ := h
  exact (list_any m ok hop).mono (fun _ w' ⟨v, h1, h2, h3, h4⟩ => ⟨v, h1, h2, h4⟩)
end
theorem has_new (cap : Int) (w : World) (h1 : 0 ≤ cap) (h2 : cap ≤ 10000000) : Calls Try.prog 8 #[.int .i64 cap] w fun e w' => ∃ b, e = .returned (.tuple #[.pointer (some ⟨b, 0, none⟩), .int .i64 0]) ∧ ∃ K, Has w' b K (Dsk.new cap) ∧ Stp [] K w w' :=
  (new_any cap w h1 h2).mono (fun _ w' ⟨b, e1, e2, mn, ms, m, hk⟩ => ⟨b, e1, _, ⟨Dsk.Ok.new h1 h2, [], mn, ms, _, m, rfl⟩, But.of_ext e2, fun k hm => .inr (hk k hm)⟩)

theorem list_short {d : Dsk} (ok : d.Ok) (hop : d.ops ≤ 1000000) : d.list.length ≤ 1000000 := by
  have := ok.dirL
  unfold Dsk.list
  split
  · simp
  · rw [List.length_map]; omega
theorem list_len {d : Dsk} (ok : d.Ok) : ∀ s ∈ d.list, s.length ≤ 64 ∧ s ≠ [] := by
  intro s hs
  unfold Dsk.list at hs
  split at hs
  · simp at hs
  · obtain ⟨p, hp, rfl⟩ := List.mem_map.1 hs
    have := chk_len (ok.dirN p hp).1
    exact ⟨this.2, fun e => by rw [e] at this; simp at this⟩
def texts (d : Dsk) (l : List (List UInt8)) : List (List UInt8) := l.map fun s => (d.read s).1
theorem read_len {d : Dsk} (ok : d.Ok) (s : List UInt8) : (d.read s).1.length ≤ 1000000 := by
  unfold Dsk.read
  split
  · simp
  · split
    · simp
    · exact (file_big ok _).2
set_option maxRecDepth 20000 in
set_option maxHeartbeats 4000000 in
theorem all_any {w : World} {b : Nat} {K : List Nat} {d : Dsk} (h : Has w b K d) (hop : d.ops ≤ 1000000) :
    Calls Try.prog 13 #[.pointer (some ⟨b, 0, none⟩)] w fun e w' => ∃ v1 v2, e = .returned (.tuple #[v1, v2]) ∧ SW w' w.heap.size v1 d.list ∧ SW w' w.heap.size v2 (texts d d.list) ∧ Ext w w' := by
  have H := Lib.hid h
  have L := Lib.hid (has_list h hop)
  have hsh := list_short h.ok hop
  have hll := Lib.hid (list_len h.ok)
  have hop' := Lib.hid hop
  clear h hop
  go_enter Try.func13, Try.ntmps13
  go_wp2_with fail
  refine L.out.mono ?_
  rintro _ w1 ⟨v, rfl, sw, x1⟩
  have X1 := Lib.hid x1
  have H1 := Lib.hid (H.out.ext x1)
  have SW1 := Lib.hid sw
  obtain ⟨va, vc, rfl, _, hsa⟩ := RW.shape sw
  have HSA := Lib.hid hsa
  rw [List.length_map] at HSA SW1 ⊢
  clear hsa sw x1
  go_wp2
  go_loopw [6, 5] (fun i o wr => ∃ k : Nat, i = .int .i64 (k : Int) ∧ k ≤ d.list.length ∧ SW wr w1.heap.size o (texts d (d.list.take k)) ∧ Ext w1 wr) (fun i _ _ => d.list.length - (intOf i).toNat)
  case atStart => exact ⟨0, rfl, Nat.zero_le _, RW.nil _ _ _, Ext.refl _⟩
  case round =>
    obtain ⟨k, rfl, hk, hs, hx⟩ := hrel
    have HX := Lib.hid hx
    have HS := Lib.hid hs
    by_cases hlt : k < d.list.length
    · have hI : (k : Int) < (d.list.length : Int) := by omega
      obtain ⟨g, rfl, _, hg, hc, _⟩ := HSA.out (by simpa using (show 0 < d.list.length by omega))
      obtain ⟨s, hs1⟩ : ∃ s, d.list[k]? = some s := ⟨_, List.getElem?_eq_getElem hlt⟩
      have c0 := hc k hlt
      rw [List.getElem?_map, hs1] at c0
      have c1 : wr.cell? ⟨g, k, none⟩ = some (.string (S s)) := Go.cell_later hx c0
      have hsl := hll.out s (List.mem_of_getElem? hs1)
      have Q := Lib.hid (has_read (H1.out.ext hx) hop'.out s (by unfold maxLen; omega))
      have ET := Lib.hid (show texts d (d.list.take (k + 1)) = texts d (d.list.take k) ++ [(d.read s).1] by
        unfold texts
        rw [List.take_add_one, hs1, List.map_append]; rfl)
      have hlk : (texts d (d.list.take k)).length ≤ 1000000 := by
        unfold texts; rw [List.length_map, List.length_take]; omega
      obtain ⟨v', w', hrun, p1, p2, p3⟩ := RW.app hs hx.size (P := Try.prog) (t := 24) (z := .string (S [])) (bytes := 16) Try.underlying24 (by kernel_rfl) rfl (.string (S (d.read s).1)) rfl (by rw [List.length_map]; omega) (by rw [List.length_map]; unfold maxLen; omega)
      have X2 := Lib.hid (show Ext w1 w' from Below.trans hx p2)
      have S2 := Lib.hid (show SW w' w1.heap.size v' (texts d (d.list.take (k + 1))) by
        unfold SW
        rw [ET.out, List.map_append]; exact p1)
      have HKM := Lib.hid hlt
      clear hc c0 hs1 hsl hs hx p1 p2 p3 hlk hlt hg hk
      generalize (d.read s).1 = t at *
      generalize (d.read s).2 = e at *
      go_wp2_with fail
      refine Q.out.mono ?_
      rintro _ w2 ⟨rfl, rfl⟩
      go_wp2_with (at_builtin; refine wpList_app rfl (.tmp 26) (.tmp 28) 24 rfl rfl rfl rfl hrun ?_)
      go_roundw
      case rel => exact ⟨k + 1, by go_num, by have := HKM.out; omega, S2.out, X2.out⟩
      case measure => simp [intOf]; have := HKM.out; omega
    · obtain rfl : k = d.list.length := by omega
      rw [List.take_length] at HS
      clear hs hk
      go_wp2
      go_ret2
      exact ⟨_, _, rfl, RW.ext SW1.out HX.out, RW.mono HS.out X1.out.size, X1.out.trans HX.out⟩
end Go.Proofs.Ytfipfljiohdlhaa
