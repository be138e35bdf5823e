/- The document's disk: Find, Used. -/
import Derived.Test.YtfipfljiohdlhaaGreatDnA
namespace Go.Proofs.YtfipfljiohdlhaaGreat
set_option linter.unusedVariables false
set_option linter.unusedSimpArgs false
open Go.RowKit
attribute [local go_sem] S_size S_toList S_append S_extract S_beq S_bne S_empty S_nil
variable {K : List Nat}

def findI (s : List UInt8) (l : List (List UInt8 × Nat)) : Int := match dGet s l with | some n => (n : Int) | none => -1
theorem findI_nil (s : List UInt8) : findI s [] = -1 := rfl
theorem findI_cons (s : List UInt8) (p : List UInt8 × Nat) (l : List (List UInt8 × Nat)) : findI s (p :: l) = if p.1 = s then (p.2 : Int) else findI s l := by
  unfold findI dGet
  rw [List.find?_cons]
  by_cases h : p.1 = s
  · rw [if_pos h, show (p.1 == s) = true by simpa using h]; rfl
  · rw [if_neg h, show (p.1 == s) = false by simpa using h]
theorem drop_at {α : Type} {l : List α} {k : Nat} {x : α} (h : l[k]? = some x) : l.drop k = x :: l.drop (k + 1) := by
  obtain ⟨h1, h2⟩ := List.getElem?_eq_some_iff.1 h
  rw [List.drop_eq_getElem_cons h1, h2]
theorem refV_blk (w : World) (v : V4) (d : Dsk) (t : TypeId) : Blk (w.alloc (.cells (match refV v d with | .agg cs => cs | _ => #[]) t)) w.heap.size t #[v.fs, v.dir, v.safe, v.chs, .int .i64 d.cap, .int .i64 d.ops, .int .i64 d.armed, .bool d.dead] := Blk.new w t _
set_option maxRecDepth 20000 in
set_option maxHeartbeats 1000000 in
theorem rfind_any {w : World} {v : V4} {d : Dsk} (h : RefD K w v d) (s : List UInt8) (hl : (d.dir.length : Int) ≤ 1000000) :
    Calls Tryz.prog 60 #[refV v d, .string (S s)] w fun e w' => e = .returned (.int .i64 (findI s d.dir)) ∧ Ext w w' := by
  obtain ⟨aF, cF, aD, cD, aS, cS, aC, cC, rfl⟩ := h.open_
  obtain ⟨_, _, e1, _, _, hd⟩ := h.dir.1
  injection e1 with e1 _ e3
  subst e1
  subst e3
  obtain ⟨r, hr⟩ : ∃ r, r = findI s d.dir := ⟨_, rfl⟩
  rw [← hr]
  have HR := Lib.hid hr.symm
  clear hr
  have HD := Lib.hid hd
  clear hd h
  obtain ⟨files, dir, safe, chs, cap, ops, armed, dead⟩ := d
  simp only [refV] at *
  generalize files.length = nF at *
  generalize safe.length = nS at *
  generalize chs.length = nC at *
  have W0 := Lib.hid ((Ext.refl w).alloc (.cells #[.slice aF nF cF, .slice aD dir.length cD, .slice aS nS cS, .slice aC nC cC, .int .i64 cap, .int .i64 ops, .int .i64 armed, .bool dead] 33))
  have c1 := (Blk.new w 33 #[.slice aF nF cF, .slice aD dir.length cD, .slice aS nS cS, .slice aC nC cC, .int .i64 cap, .int .i64 ops, .int .i64 armed, .bool dead]).cell 1
  have C1 := Lib.hid c1
  clear c1
  go_enter Tryz.func60, Tryz.ntmps60
  go_wp2
  generalize w.alloc (.cells #[.slice aF nF cF, .slice aD dir.length cD, .slice aS nS cS, .slice aC nC cC, .int .i64 cap, .int .i64 ops, .int .i64 armed, .bool dead] 33) = W at *
  go_loopw [5] (fun i wr => ∃ k : Nat, i = .int .i64 (k : Int) ∧ k ≤ dir.length ∧ RowKit.Hid (findI s (dir.drop k) = r) ∧ W = wr) (fun i _ => dir.length - (intOf i).toNat)
  case atStart => exact ⟨0, rfl, Nat.zero_le _, HR, rfl⟩
  case round =>
    obtain ⟨k, rfl, hk, HF, rfl⟩ := hrel
    have c1 := C1.out
    simp only [List.getElem?_toArray, List.getElem?_cons_succ, List.getElem?_cons_zero] at c1
    clear HR
    by_cases hlt : k < dir.length
    · have hI : (k : Int) < (dir.length : Int) := by omega
      obtain ⟨g, o, rfl, hc⟩ := HD.out (by omega)
      obtain ⟨x, hx⟩ : ∃ x, dir[k]? = some x := ⟨_, List.getElem?_eq_getElem hlt⟩
      have RA := rangeAt_ext (hc k x hx) W0.out
      have c2 := RA 0 _ rfl
      have c3 := RA 1 _ rfl
      rw [Nat.add_zero] at c2
      have HF2 := HF.out
      rw [drop_at hx, findI_cons] at HF2
      have HKM := Lib.hid hlt
      clear RA hc hx hlt hk HF
      obtain ⟨xs, xn⟩ := x
      dsimp only at *
      by_cases he : xs = s
      · subst he
        rw [if_pos rfl] at HF2
        have H2 := Lib.hid HF2
        clear HF2
        go_wp2
        go_ret
        exact ⟨by rw [← H2.out]; rfl, W0.out⟩
      · rw [if_neg he] at HF2
        have H2 := Lib.hid HF2
        have hb : (xs == s) = false := by simpa using he
        clear HF2
        go_wp2
        go_roundw
        case rel => exact ⟨k + 1, by go_num, by have := HKM.out; omega, H2, trivial⟩
        case measure => simp [intOf]; have := HKM.out; omega
    · obtain rfl : k = dir.length := by omega
      have HF2 := HF.out
      rw [List.drop_length, findI_nil] at HF2
      have H2 := Lib.hid HF2
      clear HF HF2 hk
      go_wp2
      go_ret
      exact ⟨by rw [← H2.out]; rfl, W0.out⟩

def sumT (d : Dsk) (l : List (List UInt8 × Nat)) : Int := (l.map fun p => ((d.file p.2).2.length : Int)).sum
theorem sumT_next (d : Dsk) {l : List (List UInt8 × Nat)} {k : Nat} {x : List UInt8 × Nat} (h : l[k]? = some x) : sumT d (l.take (k + 1)) = sumT d (l.take k) + ((d.file x.2).2.length : Int) := by
  unfold sumT
  rw [List.take_add_one, h, List.map_append, List.sum_append]
  simp
theorem sumT_le {d : Dsk} (hf : ∀ n, (d.file n).2.length ≤ 1000000) : ∀ l : List (List UInt8 × Nat), 0 ≤ sumT d l ∧ sumT d l ≤ 1000000 * l.length
  | [] => by simp [sumT]
  | p :: r => by
    have := sumT_le hf r
    have h1 := hf p.2
    unfold sumT at this ⊢
    rw [List.map_cons, List.sum_cons, List.length_cons]; omega
set_option maxRecDepth 20000 in
set_option maxHeartbeats 2000000 in
theorem rused_any {w : World} {v : V4} {d : Dsk} (h : RefD K w v d) (ok : d.Ok) (hl : (d.dir.length : Int) ≤ 1000000) :
    Calls Tryz.prog 38 #[refV v d] w fun e w' => e = .returned (.int .i64 d.used) ∧ Ext w w' := by
  obtain ⟨aF, cF, aD, cD, aS, cS, aC, cC, rfl⟩ := h.open_
  obtain ⟨_, _, e1, _, _, hd⟩ := h.dir.1
  injection e1 with e1 _ e3
  subst e1
  subst e3
  obtain ⟨_, _, e1, _, _, hf⟩ := h.fs.1
  injection e1 with e1 _ e3
  subst e1
  subst e3
  obtain ⟨sm, hsm⟩ : ∃ sm : List (List UInt8 × Nat) → Int, sm = sumT d := ⟨_, rfl⟩
  have hu : d.used = sm d.dir := by rw [hsm]; rfl
  have hbig : ∀ n, (d.file n).2.length ≤ 1000000 := fun n => (file_big ok n).2
  have HLE := Lib.hid (show ∀ l, 0 ≤ sm l ∧ sm l ≤ 1000000 * l.length by rw [hsm]; exact sumT_le hbig)
  have HNX := Lib.hid (show ∀ k x, d.dir[k]? = some x → sm (d.dir.take (k + 1)) = sm (d.dir.take k) + ((d.file x.2).2.length : Int) by rw [hsm]; exact fun k x hx => sumT_next d hx)
  have HDR := Lib.hid ok.dirN
  have HBG := Lib.hid hbig
  have HF0 := Lib.hid (show sm (d.dir.take 0) = 0 by rw [hsm]; rfl)
  have HF := Lib.hid (show ∀ n, n < d.files.length → d.files[n]? = some (d.file n) from fun n hn => by unfold Dsk.file; rw [List.getD_eq_getElem?_getD, List.getElem?_eq_getElem hn]; rfl)
  rw [hu]
  have HD := Lib.hid hd
  have HFS := Lib.hid hf
  clear hd h hf hsm hu ok hbig
  generalize hfile : d.file = fl at *
  clear hfile
  obtain ⟨files, dir, safe, chs, cap, ops, armed, dead⟩ := d
  simp only [refV] at *
  generalize safe.length = nS at *
  generalize chs.length = nC at *
  have W0 := Lib.hid ((Ext.refl w).alloc (.cells #[.slice aF files.length cF, .slice aD dir.length cD, .slice aS nS cS, .slice aC nC cC, .int .i64 cap, .int .i64 ops, .int .i64 armed, .bool dead] 33))
  have B0 := Lib.hid (Blk.new w 33 #[.slice aF files.length cF, .slice aD dir.length cD, .slice aS nS cS, .slice aC nC cC, .int .i64 cap, .int .i64 ops, .int .i64 armed, .bool dead])
  go_enter Tryz.func38, Tryz.ntmps38
  go_wp2
  generalize w.alloc (.cells #[.slice aF files.length cF, .slice aD dir.length cD, .slice aS nS cS, .slice aC nC cC, .int .i64 cap, .int .i64 ops, .int .i64 armed, .bool dead] 33) = W at *
  go_loopw [4, 3] (fun i n wr => ∃ k : Nat, i = .int .i64 (k : Int) ∧ k ≤ dir.length ∧ n = .int .i64 (sm (dir.take k)) ∧ Ext W wr) (fun i _ _ => dir.length - (intOf i).toNat)
  case atStart => exact ⟨0, rfl, Nat.zero_le _, by rw [HF0.out], Ext.refl _⟩
  case round =>
    obtain ⟨k, rfl, hk, rfl, hx⟩ := hrel
    have HX := Lib.hid hx
    have c1 : wr.cell? ⟨w.heap.size, 1, none⟩ = some (.slice aD dir.length cD) := (B0.out.ext hx).cell 1
    have c0 : wr.cell? ⟨w.heap.size, 0, none⟩ = some (.slice aF files.length cF) := (B0.out.ext hx).cell 0
    by_cases hlt : k < dir.length
    · have hI : (k : Int) < (dir.length : Int) := by omega
      obtain ⟨g, o, rfl, hc⟩ := HD.out (by omega)
      obtain ⟨x, hxk⟩ : ∃ x, dir[k]? = some x := ⟨_, List.getElem?_eq_getElem hlt⟩
      have hxn := (HDR.out x (List.mem_of_getElem? hxk)).2
      have hnx := HNX.out k x hxk
      have hle := HLE.out (dir.take k)
      have hll : (dir.take k).length ≤ dir.length := by rw [List.length_take]; omega
      obtain ⟨gf, of_, rfl, hcf⟩ := HFS.out (by omega)
      have XW := W0.out.trans hx
      have c2 := up_cell (rangeAt_ext (hc k x hxk) XW 1 _ rfl)
      have c3 := up_cell (rangeAt_ext (hcf x.2 _ (HF.out x.2 hxn)) XW 1 _ rfl)
      have c0 := up_cell c0
      have c1' := up_cell c1
      have hfl := HBG.out x.2
      obtain ⟨xs, xn⟩ := x
      dsimp only at *
      have hxi : (xn : Int) < (files.length : Int) := by omega
      have HKM := Lib.hid hlt
      generalize fl xn = f at *
      obtain ⟨f1, f2⟩ := f
      dsimp only at *
      generalize hs0 : sm (dir.take k) = s0 at *
      have ew : IntKind.i64.wrap (s0 + (f2.length : Int)) = s0 + (f2.length : Int) := by rw [IntKind.wrap_i64]; omega
      have HN := Lib.hid hnx
      have HS0 := Lib.hid hs0
      clear hc hxk hlt hk XW hcf hx hnx hs0 hle hll hxn
      go_wp2
      refine wp_region_up (by kernel_rfl) (by kernel_rfl) ?_
      repeat (go_big_quiet_step (fail))
      refine wpQuiet_nil ?_
      rintro _ ⟨z, rfl⟩
      have HX7 := Lib.hid (HX.out.trans z.ext)
      go_wp2
      go_roundw
      case rel => exact ⟨k + 1, by go_num, by have := HKM.out; omega, by rw [HN.out], HX7.out⟩
      case measure => simp [intOf]; have := HKM.out; omega
    · obtain rfl : k = dir.length := by omega
      rw [List.take_length]
      clear hk hx
      go_wp2
      go_ret
      exact ⟨rfl, W0.out.trans HX.out⟩
end Go.Proofs.YtfipfljiohdlhaaGreat
