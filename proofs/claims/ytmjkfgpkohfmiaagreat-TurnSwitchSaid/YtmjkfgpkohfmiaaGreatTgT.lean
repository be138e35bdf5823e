/- Several texts in one. merged: DkO DkQ DkR DkT DkU -/
import Derived.Test.YtmjkfgpkohfmiaaGreatTgS
import Derived.Test.YtmjkfgpkohfmiaaGreatRets
namespace Go.Proofs.YtmjkfgpkohfmiaaGreat
set_option linter.unusedVariables false
set_option linter.unusedSimpArgs false
open Go.RowKit

attribute [local go_sem] S_size S_toList S_append S_extract S_beq S_bne S_empty S_nil

def Dsk.settled (d : Dsk) : Dsk := { d with safe := d.dir, chs := [] }
set_option maxRecDepth 20000 in
set_option maxHeartbeats 1000000 in
theorem settle_any {W : World} {b : Nat} {d : Dsk} {fb : List Nat} {mn ms : Nat} {cv : Value} (h : MemD W b d fb mn ms cv) :
    Calls Tryz.prog 44 #[.pointer (some ⟨b, 0, none⟩)] W fun e w' => e = .returned (.tuple #[]) ∧ But [b] W w' ∧ ∃ ms', W.heap.size ≤ ms' ∧ MemD w' b d.settled fb mn ms' (.slice none 0 0) := by
  have H := Lib.hid h
  have c0 := h.dsk.c0
  have q := Lib.hid (clone_any h.now)
  clear h
  go_enter Tryz.func44, Tryz.ntmps44
  go_wp2_with fail
  refine Calls.mono q.out ?_
  rintro _ w1 ⟨rfl, h1, x1⟩
  have M1 := Lib.hid (H.out.ext x1)
  have D1 := Lib.hid (M1.out.dsk.s1 W.heap.size)
  have d1 := DskB.c1 M1.out.dsk
  have d2 := DskB.c2 M1.out.dsk
  have f1 := DskB.fr M1.out.dsk 1
  have f2 := DskB.fr D1.out 2
  have e2 := DskB.c2 D1.out
  have H1 := Lib.hid h1
  have X1 := Lib.hid x1
  clear h1 x1 c0
  go_wp2
  have xs : But [b] w1 ((w1.setCell ⟨b, 1, none⟩ (.map (some W.heap.size))).setCell ⟨b, 2, none⟩ (.slice none 0 0)) := ((But.refl [b] w1).set (List.mem_singleton.2 rfl) _).set (List.mem_singleton.2 rfl) _
  have nod := H.out.nod
  have hlt := H.out.lt
  have hbl : b < W.heap.size := hlt b (by simp [owns])
  have hml : mn < W.heap.size := hlt mn (by simp [owns])
  have hfl : ∀ k ∈ fb, k < W.heap.size := fun k hk => hlt k (by simp [owns, hk])
  simp only [owns, List.nodup_cons, List.mem_cons, List.mem_append, not_or, List.nodup_append] at nod
  obtain ⟨⟨p1, p2, p3, p4⟩, ⟨p5, p6, p7⟩, ⟨p8, p9⟩, p10, p11, p12⟩ := nod
  have ne : ∀ {k : Nat}, k ≠ b → k ∉ [b] := fun h => by simpa using h
  refine bodyPost_end (v := .tuple #[]) (by simp [results, Tryz.results44]) rfl ⟨rfl, (But.of_ext X1.out).trans xs, W.heap.size, Nat.le_refl _, ?_⟩
  refine ⟨(D1.out).s2 _, M1.out.now.but xs (ne (fun e => p1 e.symm)), H1.out.but xs (ne (by omega)), WR.nil _ _ _, fun i hi => (M1.out.fls i hi).but xs (ne (fun e => p4 (e ▸ blkN_mem hi))), H.out.len, ?_⟩
  simp only [owns, Value.ownBlock, Option.toList_none, List.nil_append, List.nodup_cons, List.mem_cons, not_or]
  exact ⟨⟨p1, by omega, p4⟩, ⟨by omega, p7⟩, fun hm => by have := hfl _ hm; omega, p11⟩

set_option maxRecDepth 20000 in
set_option maxHeartbeats 1000000 in
theorem dirSync_any {w : World} {b : Nat} {d : Dsk} {fb : List Nat} {mn ms : Nat} {cv : Value} (h : MemD w b d fb mn ms cv) (ok : d.Ok) (hop : d.ops ≤ 100000000) :
    Calls Tryz.prog 32 #[.pointer (some ⟨b, 0, none⟩)] w fun e w' => e = .returned (.int .i64 d.dirSync.2) ∧ OpR w b d.dirSync.1 fb mn ms cv w' := by
  have HR := Lib.hid (fun (w' : World) (x : Ext w w') => OpR.same h x)
  have qu := Lib.hid (up_any h.dsk)
  cases hd : d.dead with
  | true =>
    have E := Lib.hid (show d.dirSync = (d, 200) from if_pos hd)
    rw [hd] at qu
    go_enter Tryz.func32, Tryz.ntmps32
    go_wp2_with fail
    refine qu.out.mono ?_
    rintro _ w1 ⟨rfl, rfl⟩
    go_wp2
    go_ret
    exact ⟨by rw [E.out]; rfl, by rw [E.out]; exact HR.out _ (Ext.refl _)⟩
  | false =>
    rw [hd] at qu
    have hlt := h.lt
    by_cases h1 : d.armed = 1
    · have E := Lib.hid (show d.dirSync = (d.cnt, 200) by simp [Dsk.dirSync, hd, h1])
      have C := Lib.hid (lost_op h 44 #[.pointer (some ⟨b, 0, none⟩)] #[] h1 (by have := ok.dirL; omega) (by omega))
      clear h1 hlt
      go_enter Tryz.func32, Tryz.ntmps32
      go_wp2_with fail
      refine qu.out.mono ?_
      rintro _ w1 ⟨rfl, rfl⟩
      go_wp2_with fail
      refine Calls.mono C.out ?_
      rintro _ w3 ⟨rfl, x3, m3⟩
      have G := Lib.hid (And.intro x3 m3)
      clear x3 m3
      go_wp2
      go_ret
      rw [E.out]
      exact ⟨rfl, OpR.one (Ext.refl _) G.out.1 G.out.2⟩
    · have E := Lib.hid (show d.dirSync = (d.cnt.settled, 0) by simp [Dsk.dirSync, hd, h1, Dsk.settled, Dsk.cnt])
      have mc := h.cnt hd h1
      have C := Lib.hid (op_plain h.dsk (by have := ok.dirL; omega) (by omega) ok.arm0 ok.arm1 h1 true 44 (ent_of Tryz.func44 (by kernel_rfl) rfl) #[.pointer (some ⟨b, 0, none⟩)] #[] _ (by simpa using settle_any mc))
      have HB := Lib.hid (fun y => opW_but w b (d.ops + 1) y)
      have HZ := Lib.hid (fun y => opW_size w b (d.ops + 1) y)
      clear h1 hlt mc
      go_enter Tryz.func32, Tryz.ntmps32
      go_wp2_with fail
      refine qu.out.mono ?_
      rintro _ w1 ⟨rfl, rfl⟩
      go_wp2_with fail
      refine Calls.mono C.out ?_
      rintro _ w3 ⟨rfl, x3, ms', hms, m3⟩
      have G := Lib.hid (And.intro x3 (And.intro hms m3))
      clear x3 m3 hms
      go_wp2
      go_ret
      obtain ⟨x3, hms, m3⟩ := G.out
      rw [HZ.out] at hms
      rw [E.out]
      refine ⟨rfl, ((HB.out _).trans x3).more (by simp [owns]), fb, mn, ms', .slice none 0 0, m3, fun k hk => ?_⟩
      simp only [owns, Value.ownBlock, Option.toList_none, List.nil_append, List.mem_cons, List.mem_append] at hk ⊢
      rcases hk with h | h | h | h
      · exact .inl (.inl h)
      · exact .inl (.inr (.inl h))
      · exact .inr (by omega)
      · exact .inl (.inr (.inr (.inr (.inr h))))
end Go.Proofs.YtmjkfgpkohfmiaaGreat
namespace Go.Proofs.YtmjkfgpkohfmiaaGreat
set_option linter.unusedVariables false
set_option linter.unusedSimpArgs false
open Go.RowKit

attribute [local go_sem] S_size S_toList S_append S_extract S_beq S_bne S_empty S_nil file_f0 file_f1

section

variable {w : World} {b : Nat} {d : Dsk} {fb : List Nat} {mn ms : Nat} {cv : Value} (h : MemD w b d fb mn ms cv) (ok : d.Ok) (hop : d.ops ≤ 100000000)

include h

set_option maxRecDepth 20000 in
theorem ops_any : Calls Tryz.prog 21 #[.pointer (some ⟨b, 0, none⟩)] w fun e w' => e = .returned (.int .i64 d.ops) ∧ w = w' := by
  have qu := Lib.hid (up_any h.dsk)
  have c4 := h.dsk.c4
  cases hd : d.dead
  all_goals
    rw [hd] at qu
    go_enter Tryz.func21, Tryz.ntmps21
    go_wp2_with fail
    refine qu.out.mono ?_
    rintro _ w1 ⟨rfl, rfl⟩
    go_wp2
    go_ret
    exact ⟨rfl, rfl⟩
set_option maxRecDepth 20000 in
theorem read_any (ok : d.Ok) (s : List UInt8) (hs : s.length ≤ maxLen) : Calls Tryz.prog 18 #[.pointer (some ⟨b, 0, none⟩), .string (S s)] w fun e w' => e = .returned (.tuple #[.string (S (d.read s).1), .int .i64 (d.read s).2]) ∧ w = w' := by
  have q := find_mem h s hs
  cases hd : d.dead with
  | true =>
    have E := Lib.hid (show d.read s = ([], 200) from if_pos hd)
    rw [hd] at q
    simp only [if_true] at q
    have Q := Lib.hid q
    clear q
    go_enter Tryz.func18, Tryz.ntmps18
    go_wp2_with fail
    refine Q.out.mono ?_
    rintro _ w1 ⟨rfl, rfl⟩
    go_wp2
    go_ret2
    exact ⟨by rw [E.out]; rfl, rfl⟩
  | false =>
    rw [hd] at q
    cases hg : dGet s d.dir with
    | none =>
      have E := Lib.hid (show d.read s = ([], 201) by simp [Dsk.read, hd, hg])
      rw [hg] at q
      simp only [Option.map_none, ptrV, Option.isSome_none, if_true, Bool.false_eq_true, if_false] at q
      have Q := Lib.hid q
      clear q
      go_enter Tryz.func18, Tryz.ntmps18
      go_wp2_with fail
      refine Q.out.mono ?_
      rintro _ w1 ⟨rfl, rfl⟩
      go_wp2
      go_ret2
      exact ⟨by rw [E.out]; rfl, rfl⟩
    | some n =>
      have E := Lib.hid (show d.read s = ((d.file n).2, 0) by simp [Dsk.read, hd, hg])
      rw [hg] at q
      simp only [Option.map_some, ptrV, Option.isSome_some, if_true, Bool.false_eq_true, if_false] at q
      have Q := Lib.hid q
      have hn : n < fb.length := by rw [h.len]; exact (ok.dirN _ (dGet_mem hg)).2
      have c1 : w.cell? ⟨blkN fb n, 1, none⟩ = some (.string (S (d.file n).2)) := (h.fls n hn).cell 1
      clear q
      go_enter Tryz.func18, Tryz.ntmps18
      go_wp2_with fail
      refine Q.out.mono ?_
      rintro _ w1 ⟨rfl, rfl⟩
      go_wp2
      go_ret2
      exact ⟨by rw [E.out]; rfl, rfl⟩
set_option maxRecDepth 20000 in
theorem list_any (ok : d.Ok) (hop : d.ops ≤ 1000000) : Calls Tryz.prog 17 #[.pointer (some ⟨b, 0, none⟩)] w fun e w' => ∃ v, e = .returned v ∧ SW w' w.heap.size v d.list ∧ (v = .slice none 0 0 ↔ d.list = []) ∧ Ext w w' := by
  have qu := Lib.hid (up_any h.dsk)
  have c0 := h.dsk.c0
  have qn := Lib.hid (names_any h.now (by rw [blks_length]; have := ok.dirL; omega))
  cases hd : d.dead
  · have E := Lib.hid (show d.list = (blks fb d.dir).map (·.1) by
      unfold Dsk.list blks
      rw [hd, List.map_map]; rfl)
    have E2 := Lib.hid (show d.list = [] ↔ blks fb d.dir = [] by unfold Dsk.list blks; simp [hd])
    rw [hd] at qu
    go_enter Tryz.func17, Tryz.ntmps17
    go_wp2_with fail
    refine qu.out.mono ?_
    rintro _ w1 ⟨rfl, rfl⟩
    go_wp2_with fail
    refine qn.out.mono ?_
    rintro _ w1 ⟨v, rfl, s1, n1, x1⟩
    have G := Lib.hid (And.intro s1 (And.intro n1 x1))
    clear s1 n1 x1
    go_wp2
    go_ret
    exact ⟨v, rfl, by rw [E.out]; exact G.out.1, by rw [E2.out]; exact G.out.2.1, G.out.2.2⟩
  · have E := Lib.hid (show d.list = [] by simp [Dsk.list, hd])
    rw [hd] at qu
    go_enter Tryz.func17, Tryz.ntmps17
    go_wp2_with fail
    refine qu.out.mono ?_
    rintro _ w1 ⟨rfl, rfl⟩
    go_wp2
    go_ret
    exact ⟨_, rfl, by rw [E.out]; exact RW.nil _ _ _, by rw [E.out]; simp, Ext.refl _⟩
set_option maxRecDepth 20000 in
theorem off_any : Calls Tryz.prog 12 #[.pointer (some ⟨b, 0, none⟩)] w fun e w' => e = .returned (.int .i64 0) ∧ OpR w b d.off fb mn ms cv w' := by
  have qu := Lib.hid (up_any h.dsk)
  have f6 := h.dsk.fr 6
  have f5 := h.dsk.fr 5
  have c6 := h.dsk.c6
  have c5 := h.dsk.c5
  have xs : But [b] w ((w.setCell ⟨b, 6, none⟩ (.bool true)).setCell ⟨b, 5, none⟩ (.int .i64 0)) := ((But.refl [b] w).set (List.mem_singleton.2 rfl) _).set (List.mem_singleton.2 rfl) _
  have M := Lib.hid (show OpR w b d.off fb mn ms cv ((w.setCell ⟨b, 6, none⟩ (.bool true)).setCell ⟨b, 5, none⟩ (.int .i64 0)) from by
    have nod := h.nod
    simp only [owns, List.nodup_cons, List.mem_cons, List.mem_append, not_or, List.nodup_append] at nod
    obtain ⟨⟨p1, p2, p3, p4⟩, ⟨p5, p6, p7⟩, ⟨p8, p9⟩, p10, p11, p12⟩ := nod
    have ne : ∀ {k : Nat}, k ≠ b → k ∉ [b] := fun h => by simpa using h
    exact OpR.one (Ext.refl _) xs ⟨(h.dsk.s6 true).s5 0, h.now.but xs (ne (fun e => p1 e.symm)), h.safe.but xs (ne (fun e => p2 e.symm)), h.chs.butO xs (fun k hk => ne (fun e => p3 (by rw [← e]; simp [hk]))), fun i hi => (h.fls i hi).but xs (ne (fun e => p4 (e ▸ blkN_mem hi))), h.len, h.nod⟩)
  clear xs
  cases hd : d.dead
  all_goals
    rw [hd] at qu c6
    go_enter Tryz.func12, Tryz.ntmps12
    go_wp2_with fail
    refine qu.out.mono ?_
    rintro _ w1 ⟨rfl, rfl⟩
    go_wp2
    go_ret
    exact ⟨rfl, M.out⟩
set_option maxRecDepth 20000 in
theorem arm_any (k : Int) : Calls Tryz.prog 10 #[.pointer (some ⟨b, 0, none⟩), .int .i64 k] w fun e w' => e = .returned (.int .i64 (d.arm k).2) ∧ OpR w b (d.arm k).1 fb mn ms cv w' := by
  have qu := Lib.hid (up_any h.dsk)
  have HR := Lib.hid (fun (w' : World) (x : Ext w w') => OpR.same h x)
  cases hd : d.dead with
  | true =>
    have E := Lib.hid (show d.arm k = (d, 200) from if_pos hd)
    rw [hd] at qu
    go_enter Tryz.func10, Tryz.ntmps10
    go_wp2_with fail
    refine qu.out.mono ?_
    rintro _ w1 ⟨rfl, rfl⟩
    go_wp2
    go_ret
    exact ⟨by rw [E.out]; rfl, by rw [E.out]; exact HR.out _ (Ext.refl _)⟩
  | false =>
    rw [hd] at qu
    by_cases hk : k < 1
    · have E := Lib.hid (show d.arm k = (d, 2) by simp [Dsk.arm, hd, hk])
      go_enter Tryz.func10, Tryz.ntmps10
      go_wp2_with fail
      refine qu.out.mono ?_
      rintro _ w1 ⟨rfl, rfl⟩
      go_wp2
      go_ret
      exact ⟨by rw [E.out]; rfl, by rw [E.out]; exact HR.out _ (Ext.refl _)⟩
    · have E := Lib.hid (show d.arm k = ({ d with armed := k }, 0) by simp only [Dsk.arm, hd, hk, if_false]; rfl)
      have f5 := h.dsk.fr 5
      have c5 := h.dsk.c5
      have xs : But [b] w (w.setCell ⟨b, 5, none⟩ (.int .i64 k)) := (But.refl [b] w).set (List.mem_singleton.2 rfl) _
      have M := Lib.hid (show OpR w b { d with armed := k } fb mn ms cv (w.setCell ⟨b, 5, none⟩ (.int .i64 k)) from by
        have nod := h.nod
        simp only [owns, List.nodup_cons, List.mem_cons, List.mem_append, not_or, List.nodup_append] at nod
        obtain ⟨⟨p1, p2, p3, p4⟩, ⟨p5, p6, p7⟩, ⟨p8, p9⟩, p10, p11, p12⟩ := nod
        have ne : ∀ {k : Nat}, k ≠ b → k ∉ [b] := fun h => by simpa using h
        exact OpR.one (Ext.refl _) xs ⟨h.dsk.s5 k, h.now.but xs (ne (fun e => p1 e.symm)), h.safe.but xs (ne (fun e => p2 e.symm)), h.chs.butO xs (fun k hk => ne (fun e => p3 (by rw [← e]; simp [hk]))), fun i hi => (h.fls i hi).but xs (ne (fun e => p4 (e ▸ blkN_mem hi))), h.len, h.nod⟩)
      clear xs
      go_enter Tryz.func10, Tryz.ntmps10
      go_wp2_with fail
      refine qu.out.mono ?_
      rintro _ w1 ⟨rfl, rfl⟩
      go_wp2
      go_ret
      exact ⟨by rw [E.out]; rfl, by rw [E.out]; exact M.out⟩
end

end Go.Proofs.YtmjkfgpkohfmiaaGreat
namespace Go.Proofs.YtmjkfgpkohfmiaaGreat
set_option linter.unusedVariables false
set_option linter.unusedSimpArgs false
open Go.RowKit

attribute [local go_sem] S_size S_toList S_append S_extract S_beq S_bne S_empty S_nil

def iC : Int → List Value := fun i => [.int .i64 i]
def sC : List UInt8 → List Value := fun s => [.string (S s)]
theorem RR.one {α : Type} {f : α → List Value} {w : World} {v : Value} {l : List α} (h : RR f 1 w v l) : ∃ a c, v = .slice a l.length c ∧ (0 < l.length → ∃ g o, a = some ⟨g, o, none⟩ ∧ ∀ (k : Nat) (x : α), l[k]? = some x → ∀ u, (f x)[0]? = some u → w.cell? ⟨g, o + k, none⟩ = some u) := by
  obtain ⟨a, c, h1, h0, hn, h2⟩ := h
  refine ⟨a, c, h1, fun hl => ?_⟩
  obtain ⟨g, o, h3, h4⟩ := h2 hl
  refine ⟨g, o, h3, fun k x hk u hu => ?_⟩
  have := h4 k x hk 0 u hu
  simpa using this

set_option maxRecDepth 20000 in
theorem nth_int {w : World} {v : Value} {l : List Int} (h : RR iC 1 w v l) (k : Nat) (hl : (l.length : Int) ≤ 9223372036854775807) (hk : (k : Int) ≤ 9223372036854775807) :
    Calls Tryz.prog 42 #[v, .int .i64 (k : Int)] w fun e w' => e = .returned (.int .i64 (l.getD k 0)) ∧ w = w' := by
  obtain ⟨a, c, rfl, hs⟩ := h.one
  by_cases hlt : k < l.length
  · obtain ⟨g, o, rfl, hc⟩ := hs (by omega)
    have hx := hc k _ (List.getElem?_eq_getElem hlt) _ rfl
    have hgd : l.getD k 0 = l[k] := by rw [List.getD_eq_getElem?_getD, List.getElem?_eq_getElem hlt]; rfl
    rw [hgd]
    have h1 : ¬ (l.length : Int) ≤ (k : Int) := by omega
    have h2 : (k : Int) < (l.length : Int) := by omega
    generalize l[k] = x at *
    clear hgd hc hs h
    go_enter Tryz.func42, Tryz.ntmps42
    go_wp2
    go_ret
    exact ⟨rfl, rfl⟩
  · have hgd : l.getD k 0 = 0 := by rw [List.getD_eq_getElem?_getD, List.getElem?_eq_none (by omega)]; rfl
    rw [hgd]
    have h1 : (l.length : Int) ≤ (k : Int) := by omega
    clear hgd hs h
    go_enter Tryz.func42, Tryz.ntmps42
    go_wp2
    go_ret
    exact ⟨rfl, rfl⟩
set_option maxRecDepth 20000 in
theorem nth_str {w : World} {v : Value} {l : List (List UInt8)} (h : RR sC 1 w v l) (k : Nat) (hl : (l.length : Int) ≤ 9223372036854775807) (hk : (k : Int) ≤ 9223372036854775807) :
    Calls Tryz.prog 43 #[v, .int .i64 (k : Int)] w fun e w' => e = .returned (.string (S (l.getD k []))) ∧ w = w' := by
  obtain ⟨a, c, rfl, hs⟩ := h.one
  by_cases hlt : k < l.length
  · obtain ⟨g, o, rfl, hc⟩ := hs (by omega)
    have hx := hc k _ (List.getElem?_eq_getElem hlt) _ rfl
    have hgd : l.getD k [] = l[k] := by rw [List.getD_eq_getElem?_getD, List.getElem?_eq_getElem hlt]; rfl
    rw [hgd]
    have h1 : ¬ (l.length : Int) ≤ (k : Int) := by omega
    have h2 : (k : Int) < (l.length : Int) := by omega
    generalize l[k] = x at *
    clear hgd hc hs h
    go_enter Tryz.func43, Tryz.ntmps43
    go_wp2
    go_ret
    exact ⟨rfl, rfl⟩
  · have hgd : l.getD k [] = [] := by rw [List.getD_eq_getElem?_getD, List.getElem?_eq_none (by omega)]; rfl
    rw [hgd]
    have h1 : (l.length : Int) ≤ (k : Int) := by omega
    clear hgd hs h
    go_enter Tryz.func43, Tryz.ntmps43
    go_wp2
    go_ret
    exact ⟨rfl, rfl⟩

set_option maxRecDepth 20000 in
theorem new_bad (cap : Int) (w : World) (hc : cap < 0 ∨ 10000000 < cap) : Calls Tryz.prog 7 #[.int .i64 cap] w fun e w' => e = .returned (.tuple #[.pointer none, .int .i64 2]) ∧ w = w' := by
  by_cases h1 : cap < 0
  · clear hc
    go_enter Tryz.func7, Tryz.ntmps7
    go_wp2
    go_ret2
    exact ⟨rfl, rfl⟩
  · have h2 : 10000000 < cap := hc.resolve_left h1
    clear hc
    go_enter Tryz.func7, Tryz.ntmps7
    go_wp2
    go_ret2
    exact ⟨rfl, rfl⟩
theorem make_dir (w : World) : (Instr.makeMap 60 none).run Tryz.prog w = .ok (.map (some w.heap.size)) (w.alloc (.map #[] 0)) := by kernel_rfl
set_option maxRecDepth 20000 in
theorem new_any (cap : Int) (w : World) (h1 : 0 ≤ cap) (h2 : cap ≤ 10000000) : Calls Tryz.prog 7 #[.int .i64 cap] w fun e w' =>
    ∃ b, e = .returned (.tuple #[.pointer (some ⟨b, 0, none⟩), .int .i64 0]) ∧ Ext w w' ∧ ∃ mn ms, MemD w' b (Dsk.new cap) [] mn ms (.slice none 0 0) ∧ ∀ k ∈ owns b mn ms (.slice none 0 0) [], w.heap.size ≤ k := by
  have h1' : ¬ cap < 0 := by omega
  have h2' : ¬ (10000000 < cap) := by omega
  clear h1 h2
  have hmm := fun w => make_dir w
  go_enter Tryz.func7, Tryz.ntmps7
  go_wp2
  go_ret2
  have x2 : Ext w ((w.alloc (.map #[] 0)).alloc (.map #[] 0)) := ((Ext.refl w).alloc _).alloc _
  have hm1 : HasDir (((w.alloc (.map #[] 0)).alloc (.map #[] 0)).alloc (.cells (dskC w.heap.size (w.heap.size + 1) (.slice none 0 0) cap 0 0 false) 63)) w.heap.size [] := ((HasDir.made w).ext ((Ext.refl _).alloc _)).ext ((Ext.refl _).alloc _)
  have hm2 : HasDir (((w.alloc (.map #[] 0)).alloc (.map #[] 0)).alloc (.cells (dskC w.heap.size (w.heap.size + 1) (.slice none 0 0) cap 0 0 false) 63)) (w.heap.size + 1) [] := by
    have := (HasDir.made (w.alloc (.map #[] 0))).ext ((Ext.refl _).alloc (.cells (dskC w.heap.size (w.heap.size + 1) (.slice none 0 0) cap 0 0 false) 63))
    rw [World.size_alloc] at this; exact this
  have hb : Blk (((w.alloc (.map #[] 0)).alloc (.map #[] 0)).alloc (.cells (dskC w.heap.size (w.heap.size + 1) (.slice none 0 0) cap 0 0 false) 63)) (w.heap.size + 1 + 1) 63 (dskC w.heap.size (w.heap.size + 1) (.slice none 0 0) cap 0 0 false) := by
    have := Blk.new ((w.alloc (.map #[] 0)).alloc (.map #[] 0)) 63 (dskC w.heap.size (w.heap.size + 1) (.slice none 0 0) cap 0 0 false)
    rw [World.size_alloc, World.size_alloc] at this; exact this
  refine ⟨w.heap.size + 1 + 1, rfl, x2.alloc _, w.heap.size, w.heap.size + 1, ⟨hb, hm1, hm2, WR.nil _ _ _, fun i hi => by simp at hi, rfl, ?_⟩, ?_⟩
  · simp [owns, Value.ownBlock]
    try omega
  · simp [owns, Value.ownBlock]
    try omega
end Go.Proofs.YtmjkfgpkohfmiaaGreat
namespace Go.Proofs.YtmjkfgpkohfmiaaGreat
set_option linter.unusedVariables false
set_option linter.unusedSimpArgs false
open Go.RowKit

theorem dIns_at {α : Type} {s : List UInt8} {g : α} : ∀ {A B : List (List UInt8 × α)}, (∀ p ∈ A, bytesBefore p.1 s = true) → (∀ p ∈ B, bytesBefore s p.1 = true) → dIns (s, g) (A ++ B) = A ++ (s, g) :: B
  | [], [], _, _ => rfl
  | [], q :: r, _, h => by
    show (if bytesBefore s q.1 = true then (s, g) :: q :: r else q :: dIns (s, g) r) = _
    rw [if_pos (h q (by simp))]; rfl
  | p :: A, B, h1, h2 => by
    have hp := h1 p (by simp)
    have hn : ¬ bytesBefore s p.1 = true := fun h => by
      have t := Go.WideShapes.before_trans (a := .string p.1) (b := .string s) (c := .string p.1) hp h
      rw [Go.WideShapes.before_irrefl] at t; cases t
    show (if bytesBefore s p.1 = true then (s, g) :: p :: (A ++ B) else p :: dIns (s, g) (A ++ B)) = _
    rw [if_neg hn, dIns_at (fun q hq => h1 q (by simp [hq])) h2]; rfl
theorem before_neq {a b : List UInt8} (h : bytesBefore a b = true) : a ≠ b := fun e => by
  subst e
  have := Go.WideShapes.before_irrefl (.string a)
  exact absurd (h.symm.trans this) (by decide)
theorem dPut_at {α : Type} {s : List UInt8} {x g : α} {A B : List (List UInt8 × α)} (h : (A ++ (s, x) :: B).Pairwise (fun p q => bytesBefore p.1 q.1 = true)) : dPut s g (A ++ (s, x) :: B) = A ++ (s, g) :: B := by
  obtain ⟨h1, h2, h3⟩ := List.pairwise_append.1 h
  obtain ⟨h4, h5⟩ := List.pairwise_cons.1 h2
  have hA : ∀ p ∈ A, bytesBefore p.1 s = true := fun p hp => h3 p hp (s, x) (by simp)
  have hB : ∀ p ∈ B, bytesBefore s p.1 = true := fun p hp => h4 p hp
  unfold dPut dDel
  rw [List.filter_append, List.filter_cons]
  simp only [beq_self_eq_true, Bool.not_true, Bool.false_eq_true, if_false]
  rw [List.filter_eq_self.2 (fun p hp => by simpa using before_neq (hA p hp)), List.filter_eq_self.2 (fun p hp => by simpa using fun e => before_neq (hB p hp) e.symm)]
  exact dIns_at hA hB
theorem blkN_set {fb : List Nat} {n g i : Nat} (hn : n < fb.length) : blkN (fb.set n g) i = if i = n then g else blkN fb i := by
  unfold blkN
  simp only [List.getD_eq_getElem?_getD]
  by_cases h : i = n
  · subst h; rw [if_pos rfl, List.getElem?_set_self hn]; rfl
  · rw [if_neg h, List.getElem?_set_ne (fun e => h e.symm)]
/-- a file of a directory lies in another block -/
theorem blks_set {fb : List Nat} {L : List (List UInt8 × Nat)} (hL : (blks fb L).Pairwise (fun p q => bytesBefore p.1 q.1 = true)) (ho : Once L) {i : Nat} {s : List UInt8} {n g : Nat} (hi : L[i]? = some (s, n)) (hn : n < fb.length) :
    dPut s g (blks fb L) = blks (fb.set n g) L := by
  have hil : i < L.length := (List.getElem?_eq_some_iff.1 hi).1
  have hsp : L = L.take i ++ (s, n) :: L.drop (i + 1) := by
    conv => lhs; rw [← List.take_append_drop i L, List.drop_eq_getElem_cons hil]
    rw [(List.getElem?_eq_some_iff.1 hi).2]
  have hne : ∀ p ∈ L.take i ++ L.drop (i + 1), p.2 ≠ n := by
    intro p hp e
    have ho' := ho
    unfold Once at ho'
    rw [hsp, List.map_append, List.map_cons] at ho'
    obtain ⟨a1, a2, a3⟩ := List.nodup_append.1 ho'
    rcases List.mem_append.1 hp with hp | hp
    · exact a3 p.2 (List.mem_map.2 ⟨p, hp, rfl⟩) n (by simp) e
    · exact (List.nodup_cons.1 a2).1 (e ▸ List.mem_map.2 ⟨p, hp, rfl⟩)
  have hm : ∀ l : List (List UInt8 × Nat), (∀ p ∈ l, p.2 ≠ n) → blks (fb.set n g) l = blks fb l := fun l hl => by
    unfold blks
    exact List.map_congr_left (fun p hp => by rw [blkN_set hn, if_neg (hl p hp)])
  have e1 : ∀ fb', blks fb' L = blks fb' (L.take i) ++ (s, blkN fb' n) :: blks fb' (L.drop (i + 1)) := fun fb' => by
    conv => lhs; rw [hsp]
    unfold blks; rw [List.map_append, List.map_cons]
  rw [e1 fb] at hL ⊢
  rw [dPut_at hL, e1, hm _ (fun p hp => hne p (by simp [hp])), hm _ (fun p hp => hne p (by simp [hp])), blkN_set hn, if_pos rfl]

theorem Chain.take : ∀ {l m : List (List UInt8 × Nat)} {cs : List (List UInt8 × List UInt8 × Option Nat)}, Chain l cs m → ∀ k, Once ((cs.take k).foldl appC l)
  | l, m, [], h, k => by simpa using h.1
  | l, m, c :: cs, h, 0 => h.1
  | l, m, c :: cs, h, k + 1 => by rw [List.take_succ_cons, List.foldl_cons]; exact Chain.take h.2 k
theorem appC_mem {l : List (List UInt8 × Nat)} {c : List UInt8 × List UInt8 × Option Nat} {p : List UInt8 × Nat} (h : p ∈ appC l c) : p ∈ l ∨ (p.1 = c.1 ∧ c.2.2 = some p.2) := by
  obtain ⟨t, f, o⟩ := c
  have hd : ∀ {s : List UInt8} {l : List (List UInt8 × Nat)}, p ∈ dDel s l → p ∈ l := fun h => (List.mem_filter.1 h).1
  have hif : p ∈ (if f = [] then l else dDel f l) → p ∈ l := fun h => by
    split at h
    · exact h
    · exact hd h
  have hins : ∀ {x : List UInt8 × Nat} {l : List (List UInt8 × Nat)}, p ∈ dIns x l → p = x ∨ p ∈ l := by
    intro x l
    induction l with
    | nil => intro h; exact .inl (by simpa [dIns] using h)
    | cons y r ih =>
      intro h
      unfold dIns at h
      split at h
      · exact (List.mem_cons.1 h)
      · rcases List.mem_cons.1 h with h | h
        · exact .inr (by simp [h])
        · exact (ih h).imp id (fun h => by simp [h])
  cases o with
  | none => exact .inl (hif h)
  | some n =>
    rcases hins h with e | h
    · exact .inr (by rw [e]; exact ⟨rfl, rfl⟩)
    · exact .inl (hif (hd h))
theorem left_named {d : Dsk} (ok : d.Ok) (k : Int) : Named (d.left k) d.files.length := by
  have : ∀ (cs : List (List UInt8 × List UInt8 × Option Nat)) (l : List (List UInt8 × Nat)), Named l d.files.length → (∀ c ∈ cs, ∀ n, c.2.2 = some n → chk c.1 = 0 ∧ n < d.files.length) → Named (cs.foldl appC l) d.files.length := by
    intro cs
    induction cs with
    | nil => intro l h _; exact h
    | cons c cs ih =>
      intro l h hc
      rw [List.foldl_cons]
      refine ih _ (fun p hp => ?_) (fun c' hc' => hc c' (by simp [hc']))
      rcases appC_mem hp with hp | ⟨e1, e2⟩
      · exact h p hp
      · have := hc c (by simp) _ e2
        rw [e1]; exact this
  exact this _ _ ok.safeN (fun c hc => (ok.chsN c (List.mem_of_mem_take hc)).2.2)
theorem left_once {d : Dsk} (ok : d.Ok) (k : Int) : Once (d.left k) := ok.chain.take _
theorem leftL_length (a b : List UInt8) (cut : Int) (mark : List UInt8) {m : Nat} (ha : a.length ≤ m) (hb : b.length ≤ m) : (leftL a b cut mark).length ≤ m := by
  unfold leftL
  split
  · rename_i h
    rw [List.length_append, garbledL_length, List.length_take, List.length_drop]
    have := congrArg List.length (beq_iff_eq.1 h)
    rw [List.length_take] at this
    omega
  · split
    · exact hb
    · exact ha
end Go.Proofs.YtmjkfgpkohfmiaaGreat
namespace Go.Proofs.YtmjkfgpkohfmiaaGreat
set_option linter.unusedVariables false
set_option linter.unusedSimpArgs false
open Go.RowKit

structure BootS (ml : Nat) (L : List (List UInt8 × Nat)) (fs0 : List (List UInt8 × List UInt8)) (fb : List Nat) (cuts : List Int) (marks : List (List UInt8)) (i j : Nat) (fs : List (List UInt8 × List UInt8)) (fb' : List Nat) (wr : World) : Prop where
  hi : i ≤ L.length
  hj : j ≤ i
  fall : fallAll cuts marks L 0 fs0 = fallAll cuts marks (L.drop i) j fs
  flen : fs.length = fb.length
  blen : fb'.length = fb.length
  dir : HasDir wr ml (blks fb' L)
  fls : ∀ n, n < fb'.length → Blk wr (blkN fb' n) 84 (fV (fs.getD n ([], [])))
  nod : fb'.Nodup
  nml : ml ∉ fb'
  new : ∀ x ∈ fb', x ∈ fb ∨ ml < x
  big : ∀ f ∈ fs, f.1.length ≤ 1000000 ∧ f.2.length ≤ 1000000
section

variable {ml : Nat} {L : List (List UInt8 × Nat)} {fs0 fs : List (List UInt8 × List UInt8)} {fb fb' : List Nat} {cuts : List Int} {marks : List (List UInt8)} {i j : Nat} {wr w' : World}

theorem fallAll_loose (p : List UInt8 × Nat) (r : List (List UInt8 × Nat)) (k : Nat) {a c : List UInt8} (h : fs.getD p.2 ([], []) = (a, c)) (hne : a ≠ c) :
    fallAll cuts marks (p :: r) k fs = fallAll cuts marks r (k + 1) (fs.set p.2 (leftL a c (cuts.getD k 0) (marks.getD k []), leftL a c (cuts.getD k 0) (marks.getD k []))) := by
  show (if (fs.getD p.2 ([], [])).1 = (fs.getD p.2 ([], [])).2 then _ else _) = _
  rw [h, if_neg hne]
theorem fallAll_firm (p : List UInt8 × Nat) (r : List (List UInt8 × Nat)) (k : Nat) {a : List UInt8} (h : fs.getD p.2 ([], []) = (a, a)) :
    fallAll cuts marks (p :: r) k fs = fallAll cuts marks r k fs := by
  show (if (fs.getD p.2 ([], [])).1 = (fs.getD p.2 ([], [])).2 then _ else _) = _
  rw [h, if_pos rfl]
theorem BootS.lt (h : BootS ml L fs0 fb cuts marks i j fs fb' wr) : ∀ x ∈ fb', x < wr.heap.size := by
  intro x hx
  obtain ⟨n, hn, rfl⟩ := List.getElem_of_mem hx
  have := (h.fls n hn).lt
  unfold blkN at this
  rwa [List.getD_eq_getElem?_getD, List.getElem?_eq_getElem hn] at this
theorem BootS.ext (h : BootS ml L fs0 fb cuts marks i j fs fb' wr) (x : Ext wr w') : BootS ml L fs0 fb cuts marks i j fs fb' w' :=
  { h with dir := h.dir.ext x, fls := fun n hn => (h.fls n hn).ext x }
/-- a file that is firm -/
theorem BootS.firm (h : BootS ml L fs0 fb cuts marks i j fs fb' wr) {s : List UInt8} {n : Nat} (hi : L[i]? = some (s, n)) {a : List UInt8} (hf : fs.getD n ([], []) = (a, a)) : BootS ml L fs0 fb cuts marks (i + 1) j fs fb' wr := by
  have hil := (List.getElem?_eq_some_iff.1 hi).1
  refine { h with hi := hil, hj := Nat.le_succ_of_le h.hj, fall := ?_ }
  rw [h.fall, List.drop_eq_getElem_cons hil, (List.getElem?_eq_some_iff.1 hi).2]
  exact fallAll_firm (s, n) _ j hf
/-- a file that falls -/
theorem BootS.fell (h : BootS ml L fs0 fb cuts marks i j fs fb' wr) (ho : Once L) {s : List UInt8} {n : Nat} (hi : L[i]? = some (s, n)) (hn : n < fb.length) {a c : List UInt8} (hf : fs.getD n ([], []) = (a, c)) (hne : a ≠ c) {g : Nat} (hg : wr.heap.size ≤ g)
    (x : But [ml] wr w') (hd : HasDir w' ml (dPut s g (blks fb' L))) (hml : ml < g)
    (hb : Blk w' g 84 (fV (leftL a c (cuts.getD j 0) (marks.getD j []), leftL a c (cuts.getD j 0) (marks.getD j [])))) :
    BootS ml L fs0 fb cuts marks (i + 1) (j + 1) (fs.set n (leftL a c (cuts.getD j 0) (marks.getD j []), leftL a c (cuts.getD j 0) (marks.getD j []))) (fb'.set n g) w' := by
  have hil := (List.getElem?_eq_some_iff.1 hi).1
  have hnb : n < fb'.length := by rw [h.blen]; exact hn
  have hnf : n < fs.length := by rw [h.flen]; exact hn
  have hlt := h.lt
  have hac : a.length ≤ 1000000 ∧ c.length ≤ 1000000 := by
    have := h.big (a, c) (by rw [← hf, List.getD_eq_getElem?_getD, List.getElem?_eq_getElem hnf]; exact List.getElem_mem hnf)
    exact this
  refine ⟨hil, Nat.succ_le_succ h.hj, ?_, by rw [List.length_set]; exact h.flen, by rw [List.length_set]; exact h.blen, ?_, fun m hm => ?_, ?_, ?_, fun y hy => ?_, fun f hfm => ?_⟩
  · rw [h.fall, List.drop_eq_getElem_cons hil, (List.getElem?_eq_some_iff.1 hi).2]
    exact fallAll_loose (s, n) _ j hf hne
  · rw [blks_set h.dir.canon ho hi hnb] at hd; exact hd
  · rw [List.length_set] at hm
    rw [blkN_set hnb]
    by_cases e : m = n
    · subst e
      rw [if_pos rfl, List.getD_eq_getElem?_getD, List.getElem?_set_self hnf]; exact hb
    · rw [if_neg e, List.getD_eq_getElem?_getD, List.getElem?_set_ne (fun e' => e e'.symm), ← List.getD_eq_getElem?_getD]
      exact (h.fls m hm).but x (by simp; exact fun e' => h.nml (e' ▸ blkN_mem hm))
  · have := h.nod
    rw [List.nodup_iff_pairwise_ne] at this ⊢
    rw [List.pairwise_iff_getElem] at this ⊢
    intro p q hp hq hpq
    rw [List.length_set] at hp hq
    rw [List.getElem_set, List.getElem_set]
    split <;> split
    · omega
    · have := hlt _ (List.getElem_mem hq); omega
    · have := hlt _ (List.getElem_mem hp); omega
    · exact this p q hp hq hpq
  · intro hm
    rcases List.mem_or_eq_of_mem_set hm with hm | hm
    · exact h.nml hm
    · omega
  · rcases List.mem_or_eq_of_mem_set hy with hy | rfl
    · exact h.new y hy
    · exact .inr hml
  · rcases List.mem_or_eq_of_mem_set hfm with hfm | rfl
    · exact h.big f hfm
    · exact ⟨leftL_length _ _ _ _ hac.1 hac.2, leftL_length _ _ _ _ hac.1 hac.2⟩
end

set_option maxRecDepth 20000 in
set_option maxHeartbeats 1000000 in
theorem settle_gen {W : World} {b mn ms : Nat} {cv : Value} {cap ops armed : Int} {off : Bool} (hk : DskB W b mn ms cv cap ops armed off) {M : List (List UInt8 × Nat)} (hd : HasDir W mn M) (hne : mn ≠ b) :
    Calls Tryz.prog 44 #[.pointer (some ⟨b, 0, none⟩)] W fun e w' => e = .returned (.tuple #[]) ∧ But [b] W w' ∧ DskB w' b mn W.heap.size (.slice none 0 0) cap ops armed off ∧ HasDir w' mn M ∧ HasDir w' W.heap.size M := by
  have c0 := hk.c0
  have HK := Lib.hid hk
  have HD := Lib.hid hd
  have q := Lib.hid (clone_any hd)
  have HNE := Lib.hid hne
  clear hk hd hne
  go_enter Tryz.func44, Tryz.ntmps44
  go_wp2_with fail
  refine Calls.mono q.out ?_
  rintro _ w1 ⟨rfl, h1, x1⟩
  have M1 := Lib.hid (show DskB w1 b mn ms cv cap ops armed off from Blk.ext HK.out x1)
  have D1 := Lib.hid (M1.out.s1 W.heap.size)
  have d1 := DskB.c1 M1.out
  have d2 := DskB.c2 M1.out
  have f1 := DskB.fr M1.out 1
  have f2 := DskB.fr D1.out 2
  have e2 := DskB.c2 D1.out
  have H1 := Lib.hid h1
  have X1 := Lib.hid x1
  clear h1 x1 c0
  go_wp2
  have xs : But [b] w1 ((w1.setCell ⟨b, 1, none⟩ (.map (some W.heap.size))).setCell ⟨b, 2, none⟩ (.slice none 0 0)) := ((But.refl [b] w1).set (List.mem_singleton.2 rfl) _).set (List.mem_singleton.2 rfl) _
  have hbl : b < W.heap.size := Blk.lt HK.out
  have ne : ∀ {k : Nat}, k ≠ b → k ∉ [b] := fun h => by simpa using h
  exact bodyPost_end (v := .tuple #[]) (by simp [results, Tryz.results44]) rfl ⟨rfl, (But.of_ext X1.out).trans xs, (D1.out).s2 _, (HD.out.ext X1.out).but xs (ne HNE.out), H1.out.but xs (ne (by omega))⟩
end Go.Proofs.YtmjkfgpkohfmiaaGreat
