/- The document's disk: Read, List. -/
import Derived.Test.YtfipfljiohdlhaaGreatDnK
import Derived.Test.YtfipfljiohdlhaaGreatDmA
namespace Go.Proofs.YtfipfljiohdlhaaGreat
set_option linter.unusedVariables false
set_option linter.unusedSimpArgs false
open Go.RowKit
attribute [local go_sem] S_size S_toList S_append S_extract S_beq S_bne S_empty S_nil
variable {K : List Nat}
set_option maxRecDepth 20000 in
set_option maxHeartbeats 2000000 in
theorem rread_any {w : World} {v : V4} {d : Dsk} (h : RefD K w v d) (ok : d.Ok) (s : List UInt8) (hl : (d.dir.length : Int) ≤ 1000000) :
    Calls Tryz.prog 40 #[refV v d, .string (S s)] w fun x w' => x = .returned (.tuple #[.string (S (d.read s).1), .int .i64 (d.read s).2]) ∧ Ext w w' := by
  obtain ⟨aF, cF, aD, cD, aS, cS, aC, cC, rfl⟩ := h.open_
  have H := Lib.hid h
  have qo := fun W (x : Ext w W) => ropen_any (h.ext x) s hl
  have HR := Lib.hid (show d.read s = if d.dead then (([], 200) : List UInt8 × Int) else match dGet s d.dir with | none => ([], 201) | some n => ((d.file n).2, 0) from by unfold Dsk.read; cases d.dead <;> cases dGet s d.dir <;> rfl)
  have HM := Lib.hid (fun n (hg : dGet s d.dir = some n) => ok.file_lt hg)
  have HFA := Lib.hid (fun n (hn : n < d.files.length) => file_at hn)
  obtain ⟨rr, hrr⟩ : ∃ r, r = d.read s := ⟨_, rfl⟩
  rw [← hrr] at HR ⊢
  generalize hfile : d.file = fl at *
  clear h ok hrr hfile
  obtain ⟨files, dir, safe, chs, cap, ops, armed, dead⟩ := d
  dsimp only at *
  have X := Lib.hid ((Ext.refl w).alloc (.cells #[.slice aF files.length cF, .slice aD dir.length cD, .slice aS safe.length cS, .slice aC chs.length cC, .int .i64 cap, .int .i64 ops, .int .i64 armed, .bool dead] 33))
  cases dead with
  | true =>
    simp only [if_true] at qo HR
    obtain rfl := HR.out
    have QO := Lib.hid qo
    clear qo HR
    simp only [refV] at *
    go_enter Tryz.func40, Tryz.ntmps40
    go_wp2_with fail
    refine (QO.out _ X.out).mono ?_
    rintro _ w1 ⟨rfl, x1⟩
    go_wp2
    go_ret2
    exact ⟨rfl, X.out.trans x1⟩
  | false =>
    cases hg : dGet s dir with
    | none =>
      simp only [hg, if_false, Bool.false_eq_true] at qo HR
      obtain rfl := HR.out
      have QO := Lib.hid qo
      clear qo HR hg
      simp only [refV] at *
      go_enter Tryz.func40, Tryz.ntmps40
      go_wp2_with fail
      refine (QO.out _ X.out).mono ?_
      rintro _ w1 ⟨rfl, x1⟩
      go_wp2
      go_ret2
      exact ⟨rfl, X.out.trans x1⟩
    | some n =>
      simp only [hg, if_false, Bool.false_eq_true] at qo HR
      obtain rfl := HR.out
      have hn := HM.out n hg
      have HFB := Lib.hid (HFA.out n hn)
      have HFL := Lib.hid (show 0 < files.length ∧ (n : Int) < (files.length : Int) from ⟨by omega, by omega⟩)
      have QO := Lib.hid qo
      clear qo HR hg HM HFA hn
      generalize fl n = f at *
      obtain ⟨f1, f2⟩ := f
      dsimp only
      have BD := Lib.hid (Blk.new w 33 #[.slice aF files.length cF, .slice aD dir.length cD, .slice aS safe.length cS, .slice aC chs.length cC, .int .i64 cap, .int .i64 ops, .int .i64 armed, .bool false])
      simp only [refV] at *
      go_enter Tryz.func40, Tryz.ntmps40
      go_wp2_with fail
      refine (QO.out _ X.out).mono ?_
      rintro _ w1 ⟨rfl, x1⟩
      replace BD := Lib.hid (BD.out.ext x1)
      replace X := Lib.hid (X.out.trans x1)
      clear x1
      have HF2 := Lib.hid (H.out.fs.ext X.out)
      obtain ⟨_, _, ef, _, _, hfs⟩ := HF2.out.1
      injection ef with e1 e2 e3
      subst e1
      subst e3
      obtain ⟨g, o, haF, hfx⟩ := hfs HFL.out.1
      have RA := hfx n _ HFB.out 1 _ rfl
      have c0 : w1.cell? ⟨w.heap.size, 0, none⟩ = some (.slice aF files.length cF) := BD.out.cell 0
      rw [haF] at c0
      have hni := HFL.out.2
      clear hfs hfx haF
      go_wp2
      go_ret2
      exact ⟨rfl, X.out⟩
set_option maxRecDepth 20000 in
set_option maxHeartbeats 2000000 in
theorem rlist_any {w : World} {v : V4} {d : Dsk} (h : RefD K w v d) (hl : (d.dir.length : Int) ≤ 1000000) :
    Calls Tryz.prog 36 #[refV v d] w fun x w' => ∃ v', x = .returned v' ∧ SW w' w.heap.size v' d.list ∧ Ext w w' := by
  obtain ⟨aF, cF, aD, cD, aS, cS, aC, cC, rfl⟩ := h.open_
  have HD := Lib.hid h.dir.1
  have HL := Lib.hid (show d.list = if d.dead then [] else d.dir.map (·.1) from rfl)
  obtain ⟨ls, hls⟩ : ∃ r, r = d.list := ⟨_, rfl⟩
  rw [← hls] at HL ⊢
  clear h hls
  obtain ⟨files, dir, safe, chs, cap, ops, armed, dead⟩ := d
  dsimp only at *
  simp only [refV]
  have X := Lib.hid ((Ext.refl w).alloc (.cells #[.slice aF files.length cF, .slice aD dir.length cD, .slice aS safe.length cS, .slice aC chs.length cC, .int .i64 cap, .int .i64 ops, .int .i64 armed, .bool dead] 33))
  cases dead with
  | true =>
    simp only [if_true] at HL
    obtain rfl := HL.out
    have c1 := (Blk.new w 33 #[.slice aF files.length cF, .slice aD dir.length cD, .slice aS safe.length cS, .slice aC chs.length cC, .int .i64 cap, .int .i64 ops, .int .i64 armed, .bool true]).cell 1
    have c7 := (Blk.new w 33 #[.slice aF files.length cF, .slice aD dir.length cD, .slice aS safe.length cS, .slice aC chs.length cC, .int .i64 cap, .int .i64 ops, .int .i64 armed, .bool true]).cell 7
    simp only [List.getElem?_toArray, List.getElem?_cons_succ, List.getElem?_cons_zero] at c1 c7
    go_enter Tryz.func36, Tryz.ntmps36
    go_wp2
    generalize w.alloc (.cells #[.slice aF files.length cF, .slice aD dir.length cD, .slice aS safe.length cS, .slice aC chs.length cC, .int .i64 cap, .int .i64 ops, .int .i64 armed, .bool true] 33) = W at *
    go_loopw [4, 3] (fun i o wr => i = .int .i64 0 ∧ o = .slice none 0 0 ∧ W = wr) (fun i _ _ => 0)
    case atStart => exact ⟨rfl, rfl, rfl⟩
    case round =>
      obtain ⟨rfl, rfl, rfl⟩ := hrel
      by_cases h0 : (0 : Int) < (dir.length : Int)
      · go_wp2
        go_ret
        exact ⟨_, rfl, RW.nil _ _ _, X.out⟩
      · go_wp2
        go_ret
        exact ⟨_, rfl, RW.nil _ _ _, X.out⟩
  | false =>
    simp only [Bool.false_eq_true, if_false] at HL
    obtain rfl := HL.out
    have BD := Lib.hid (Blk.new w 33 #[.slice aF files.length cF, .slice aD dir.length cD, .slice aS safe.length cS, .slice aC chs.length cC, .int .i64 cap, .int .i64 ops, .int .i64 armed, .bool false])
    go_enter Tryz.func36, Tryz.ntmps36
    go_wp2
    generalize w.alloc (.cells #[.slice aF files.length cF, .slice aD dir.length cD, .slice aS safe.length cS, .slice aC chs.length cC, .int .i64 cap, .int .i64 ops, .int .i64 armed, .bool false] 33) = W at *
    go_loopw [4, 3] (fun i o wr => ∃ k : Nat, i = .int .i64 (k : Int) ∧ k ≤ dir.length ∧ SW wr W.heap.size o ((dir.take k).map (·.1)) ∧ Ext W wr) (fun i _ _ => dir.length - (intOf i).toNat)
    case atStart => exact ⟨0, rfl, Nat.zero_le _, RW.nil _ _ _, Ext.refl _⟩
    case round =>
      obtain ⟨k, rfl, hk, hs, hx⟩ := hrel
      have HX := Lib.hid hx
      have HS := Lib.hid hs
      have c1 : wr.cell? ⟨w.heap.size, 1, none⟩ = some (.slice aD dir.length cD) := (BD.out.ext hx).cell 1
      have c7 : wr.cell? ⟨w.heap.size, 7, none⟩ = some (.bool false) := (BD.out.ext hx).cell 7
      by_cases hlt : k < dir.length
      · have hI : (k : Int) < (dir.length : Int) := by omega
        obtain ⟨_, _, ed, _, _, hd⟩ := HD.out
        injection ed with e1 e2 e3
        subst e1
        subst e3
        obtain ⟨g, o, haD, hdx⟩ := hd (by omega)
        rw [haD] at c1
        obtain ⟨x, hxk⟩ : ∃ x, dir[k]? = some x := ⟨_, List.getElem?_eq_getElem hlt⟩
        have RA := (rangeAt_ext (hdx k x hxk) (X.out.trans hx)) 0 _ rfl
        rw [Nat.add_zero] at RA
        have ET := Lib.hid (show (dir.take (k + 1)).map (·.1) = (dir.take k).map (·.1) ++ [x.1] by rw [List.take_add_one, hxk, List.map_append]; rfl)
        obtain ⟨v', w', hrun, p1, p2, p3⟩ := RW.app hs hx.size (P := Tryz.prog) (t := 39) (z := .string (S [])) (bytes := 16) Tryz.underlying39 (by kernel_rfl) rfl (.string (S x.1)) rfl (by rw [List.length_map, List.length_map, List.length_take]; omega) (by rw [List.length_map, List.length_map, List.length_take]; unfold maxLen; omega)
        have X2 := Lib.hid (show Ext W w' from Below.trans hx p2)
        have S2 := Lib.hid (show SW w' W.heap.size v' ((dir.take (k + 1)).map (·.1)) by
          unfold SW
          rw [ET.out, List.map_append]; exact p1)
        have HKM := Lib.hid hlt
        clear hd hdx haD hxk hs hx p1 p2 p3 hlt hk ET
        obtain ⟨xs, xn⟩ := x
        dsimp only at *
        go_wp2_with (at_builtin; refine wpList_app rfl (.tmp 17) (.tmp 24) 39 rfl rfl rfl rfl hrun ?_)
        go_roundw
        case rel => exact ⟨k + 1, by go_num, by have := HKM.out; omega, S2.out, X2.out⟩
        case measure => simp [intOf]; have := HKM.out; omega
      · obtain rfl : k = dir.length := by omega
        rw [List.take_length] at HS
        clear hs hk hx
        go_wp2
        go_ret
        exact ⟨_, rfl, RW.mono HS.out X.out.size, X.out.trans HX.out⟩
end Go.Proofs.YtfipfljiohdlhaaGreat
