/- Several texts in one. merged: DkS DkV DkW DkX -/
import Derived.Test.YtmjkfgpkohfmiaaGreatTgT
import Derived.Test.YtmjkfgpkohfmiaaGreatReadG
import Derived.LoopTactic
namespace Go.Proofs.YtmjkfgpkohfmiaaGreat
set_option linter.unusedVariables false
set_option linter.unusedSimpArgs false
open Go.RowKit

attribute [local go_sem] S_size S_toList S_append S_extract S_beq S_bne S_empty S_nil file_f0 file_f1

theorem blks_foldl (fb : List Nat) : ∀ (l : List (List UInt8 × List UInt8 × Option Nat)) (s : List (List UInt8 × Nat)), blks fb (l.foldl appC s) = (l.map (chB fb)).foldl appC (blks fb s)
  | [], _ => rfl
  | c :: r, s => by
    rw [List.foldl_cons, blks_foldl fb r, List.map_cons, List.foldl_cons]
    congr 1
    exact blks_dApply fb s c.1 c.2.1 c.2.2
theorem foldl_take {α β : Type} (f : β → α → β) (l : List α) (k : Nat) (hk : k < l.length) (b : β) : (l.take (k + 1)).foldl f b = f ((l.take k).foldl f b) l[k] := by
  rw [List.take_add_one, List.getElem?_eq_getElem hk, List.foldl_append]; rfl
theorem But.cell {K : List Nat} {w w' : World} (x : But K w w') {g i : Nat} (hlt : g < w.heap.size) (hg : g ∉ K) : w'.cell? ⟨g, i, none⟩ = w.cell? ⟨g, i, none⟩ := by
  unfold World.cell?
  rw [x.block g hlt hg]
theorem dGet_eq {s : List UInt8} {n : Nat} : ∀ {L : List (List UInt8 × Nat)}, L.Pairwise (fun p q => p.1 ≠ q.1) → (s, n) ∈ L → dGet s L = some n
  | [], _, h => by simp at h
  | q :: r, hp, h => by
    obtain ⟨h1, h2⟩ := List.pairwise_cons.1 hp
    unfold dGet
    rw [List.find?_cons]
    by_cases e : q.1 = s
    · rcases List.mem_cons.1 h with rfl | h
      · simp
      · exact absurd e (h1 _ h)
    · rw [show (q.1 == s) = false by simpa using e]
      rcases List.mem_cons.1 h with rfl | h
      · exact absurd rfl e
      · exact dGet_eq h2 h
theorem pw_blks {fb : List Nat} {L : List (List UInt8 × Nat)} (h : (blks fb L).Pairwise (fun p q => bytesBefore p.1 q.1 = true)) : L.Pairwise (fun p q => p.1 ≠ q.1) := by
  unfold blks at h
  rw [List.pairwise_map] at h
  exact before_ne h
def chV (k : Int) (cuts marks : Value) : Value := .agg #[.int .i64 k, cuts, marks]

set_option maxRecDepth 20000 in
set_option maxHeartbeats 4000000 in
theorem boot_any {w : World} {b : Nat} {d : Dsk} {fb : List Nat} {mn ms : Nat} {cv : Value} (h : MemD w b d fb mn ms cv) (ok : d.Ok) (hop : d.ops ≤ 1000000) (k : Int) {vc vm : Value} {cuts : List Int} {marks : List (List UInt8)}
    (hc : RR iC 1 w vc cuts) (hm : RR sC 1 w vm marks) (hcl : (cuts.length : Int) ≤ 9223372036854775807) (hml : (marks.length : Int) ≤ 9223372036854775807) (hmk : ∀ s ∈ marks, (s.length : Int) ≤ 9223372036854775807) :
    Calls Tryz.prog 13 #[.pointer (some ⟨b, 0, none⟩), .agg #[.int .i64 k, vc, vm]] w fun e w' => e = .returned (.int .i64 0) ∧ OpR w b (d.boot k cuts marks) fb mn ms cv w' := by
  have qu := Lib.hid (up_any (h.ext ((Ext.refl w).alloc (.cells #[.int .i64 k, vc, vm] 26))).dsk)
  have H1 := Lib.hid (h.ext ((Ext.refl w).alloc (.cells #[.int .i64 k, vc, vm] 26)))
  have GC := Lib.hid (Blk.new w 26 #[.int .i64 k, vc, vm])
  have H := Lib.hid h
  have OK := Lib.hid ok
  have HLT := Lib.hid h.lt
  obtain ⟨ca, cc, rfl, hnc, hcs⟩ := WR.shape chC_length h.chs
  rw [List.length_map] at *
  have c1 := H1.out.dsk.c1
  have dd : (if d.dead = true then (200 : Int) else 0) ≠ 1 := by split <;> decide
  obtain ⟨uv, huv⟩ : ∃ uv, uv = (if d.dead = true then (200 : Int) else 0) := ⟨_, rfl⟩
  rw [← huv] at qu dd
  have db : (uv == 1) = false := by simpa using dd
  clear huv hcs h ok
  go_enter Tryz.func13, Tryz.ntmps13
  go_wp2_with fail
  refine qu.out.mono ?_
  rintro _ w1 ⟨rfl, rfl⟩
  go_wp2_with fail
  refine Calls.mono (clone_any H1.out.safe) ?_
  rintro _ w2 ⟨rfl, hd2, x2⟩
  have HD2 := Lib.hid hd2
  have X2 := Lib.hid x2
  have M2 := Lib.hid (H1.out.ext x2)
  have G2 := Lib.hid (GC.out.ext x2)
  have L2 := Lib.hid (show (w.alloc (.cells #[.int .i64 k, vc, vm] 26)).heap.size < w2.heap.size from hd2.lt)
  clear hd2 x2 c1
  generalize hml2 : (w.alloc (.cells #[.int .i64 k, vc, vm] 26)).heap.size = ml at *
  go_wp2_with fail
  obtain ⟨kk, hkk⟩ : ∃ kk : Nat, kk = min k.toNat d.chs.length := ⟨_, rfl⟩
  have KK := Lib.hid hkk
  have hmx := max2_run k 0 (k.toNat : Int) (by omega)
  have hmn := min2_run (k.toNat : Int) (d.chs.length : Int) (kk : Int) (by omega)
  have hk1 : (kk : Int) ≤ (cc : Int) := by omega
  have hk2 : kk ≤ cc := by omega
  have ck := up_cell (G2.out.cell 0)
  have cc2 := up_cell (DskB.c2 M2.out.dsk)
  clear hkk
  generalize (k.toNat : Int) = kt at *
  refine wp_region_up (by kernel_rfl) (by kernel_rfl) ?_
  repeat (go_big_quiet_step (first | fail))
  refine wpQuiet_nil ?_
  rintro _ ⟨y, rfl⟩
  have XY := Lib.hid y.ext
  clear ck cc2 hmx hmn
  generalize y.val = w3 at *
  have M3 := Lib.hid (M2.out.ext XY.out)
  have HD3 := Lib.hid (HD2.out.ext XY.out)
  have G3 := Lib.hid (G2.out.ext XY.out)
  have MLN := Lib.hid (show ∀ x ∈ owns b mn ms (.slice ca d.chs.length cc) fb, x ∉ [ml] from fun x hx hm => by
    rw [List.mem_singleton] at hm
    have := HLT.out x hx
    have := World.size_alloc w (.cells #[.int .i64 k, vc, vm] 26)
    omega)
  have KLE := Lib.hid (show kk ≤ d.chs.length from by have := KK.out; omega)
  have hkb : (kk : Int) ≤ 100000000 := by have := KLE.out; have := OK.out.safeL; omega
  have CL := Lib.hid (show d.chs.length ≤ 100000000 from by have := OK.out.safeL; omega)
  have SL := Lib.hid (show d.safe.length ≤ 100000000 from by have := OK.out.safeL; omega)
  have HSZ := Lib.hid (show ∀ c : List UInt8 × List UInt8 × Option Nat, (Tryz.prog.info? 80).map (·.size) = some (chC c).length from fun c => by kernel_rfl)
  go_wp2_with fail
  go_loopw [36] (fun i wr => ∃ j : Nat, j ≤ kk ∧ i = .int .i64 (j : Int) ∧ HasDir wr ml (((d.chs.map (chB fb)).take j).foldl appC (blks fb d.safe)) ∧ (((d.chs.map (chB fb)).take j).foldl appC (blks fb d.safe)).length ≤ d.safe.length + j ∧ But [ml] w3 wr) (fun i _ => kk - (intOf i).toNat)
  case atStart => exact ⟨0, by omega, rfl, HD3.out, by simp [blks_length], But.refl _ _⟩
  case round =>
    obtain ⟨j, hj, rfl, hdj, hlj, hxj⟩ := hrel
    by_cases hlt : j < kk
    · have hji : (j : Int) < (kk : Int) := by omega
      have hjd : j < d.chs.length := by have := KLE.out; omega
      have hjl : j < (d.chs.map (chB fb)).length := by rw [List.length_map]; have := KLE.out; omega
      have HT := Lib.hid (foldl_take appC (d.chs.map (chB fb)) j hjl (blks fb d.safe))
      have hok := OK.out.chsN d.chs[j] (List.getElem_mem hjd)
      have hcw := MemD.chs (M3.out.but hxj MLN.out)
      obtain ⟨ca', cc', hce, _, hsh⟩ := WR.shape chC_length hcw
      injection hce with e1 e2 e3
      subst e1; subst e3
      obtain ⟨g, rfl, _, _, hrg, _⟩ := hsh (by omega)
      have hr := hrg j _ (List.getElem?_eq_getElem hjl)
      have hcc : chB fb d.chs[j] = (d.chs.map (chB fb))[j] := by rw [List.getElem_map]
      rw [← hcc] at hr HT
      have h64 : (chB fb d.chs[j]).1.length ≤ maxLen ∧ (chB fb d.chs[j]).2.1.length ≤ maxLen := by
        show d.chs[j].1.length ≤ maxLen ∧ d.chs[j].2.1.length ≤ maxLen
        have := hok.1; have := hok.2.1; unfold maxLen; omega
      generalize chB fb d.chs[j] = c at *
      have R := Lib.hid hr
      have H64 := Lib.hid h64
      have HDJ := Lib.hid hdj
      have HXJ := Lib.hid hxj
      have HLJ := Lib.hid hlj
      have MLt := Lib.hid hdj.lt
      have HSC := Lib.hid (HSZ.out c)
      clear hdj hxj hlj hcw hsh hrg hr hcc hok h64 e2
      generalize hfo : ((d.chs.map (chB fb)).take j).foldl appC (blks fb d.safe) = lj at *
      have q := Lib.hid (fun (W : World) (hW : HasDir W ml lj) => apply_any hW c.1 c.2.1 c.2.2 H64.out.1 H64.out.2 (by have := HLJ.out; have := SL.out; have := CL.out; have := KLE.out; unfold maxLen; omega))
      have HZ := Lib.hid (show (Tryz.prog.info? 80).map (·.size) = some (chC c).toArray.size by kernel_rfl)
      have HO1 := Lib.hid (show (chC c).toArray.all (·.oneCell') = true by obtain ⟨a, b, o⟩ := c; cases o <;> kernel_rfl)
      have B4 := Lib.hid (Blk.new wr 80 (chC c).toArray)
      have HS9 := Lib.hid (show (#[.string (S []), .string (S []), .pointer none] : Array Value).size = (chC c).toArray.size from rfl)
      go_wp2_with (first
        | (refine wpList_load_mid rfl 80 (.tmp 38) rfl g _ rfl (chC c) _ R.out Tryz.underlying80 rfl HSC.out ?_)
        | (refine wpList_store_new rfl 80 (.tmp 7) (.tmp 39) rfl rfl rfl HS9.out HZ.out HO1.out ?_)
        | (refine wpList_load_blk rfl 80 (.tmp 7) rfl rfl B4.out Tryz.underlying80 rfl HZ.out ?_)
        | fail)
      refine Calls.mono (q.out _ (HDJ.out.ext ((Ext.refl wr).alloc (.cells (chC c).toArray 80)))) ?_
      rintro _ w4 ⟨rfl, h4, x4⟩
      have H4 := Lib.hid h4
      have X4 := Lib.hid (show But [ml] w3 w4 from (HXJ.out.trans (But.of_ext ((Ext.refl wr).alloc _))).trans x4)
      have HLEN := Lib.hid (show (appC lj c).length ≤ d.safe.length + (j + 1) from by
        have h1 := HLJ.out
        obtain ⟨a1, a2, o⟩ := c
        cases o with
        | none =>
          show (if a2 = [] then lj else dDel a2 lj).length ≤ _
          split
          · omega
          · have := dDel_length a2 lj; omega
        | some n =>
          show (dPut a1 n (if a2 = [] then lj else dDel a2 lj)).length ≤ _
          have h3 := dPut_length a1 n (if a2 = [] then lj else dDel a2 lj)
          have h2 : (if a2 = [] then lj else dDel a2 lj).length ≤ lj.length := by
            split
            · exact Nat.le_refl _
            · exact dDel_length a2 lj
          omega)
      have HLT := Lib.hid hlt
      clear h4 x4 hlt
      go_wp2
      go_roundw
      case rel => exact ⟨j + 1, by have := HLT.out; omega, by go_num, by rw [HT.out]; exact H4.out, by rw [HT.out]; exact HLEN.out, X4.out⟩
      case measure => simp [intOf]; have := HLT.out; omega
    · obtain rfl : j = kk := by omega
      clear hlt hj
      have EL := Lib.hid (show ((d.chs.map (chB fb)).take j).foldl appC (blks fb d.safe) = blks fb (d.left k) from by
        unfold Dsk.left
        rw [blks_foldl, List.map_take]
        congr 1
        have := KK.out
        rcases Nat.le_total k.toNat d.chs.length with hl | hl
        · rw [this, Nat.min_eq_left hl]
        · rw [List.take_of_length_le (by rw [List.length_map]; omega), List.take_of_length_le (by rw [List.length_map]; omega)])
      rw [EL.out] at hdj hlj
      have HDJ := Lib.hid hdj
      have XJ := Lib.hid hxj
      have HLL := Lib.hid (show (blks fb (d.left k)).length ≤ 1000000 from by have := OK.out.safeL; have := KLE.out; omega)
      clear hdj hlj hxj
      go_wp2_with fail
      refine Calls.mono (names_any HDJ.out HLL.out) ?_
      rintro _ w5 ⟨v5, rfl, s5, _, x5⟩
      have X5 := Lib.hid (show But [ml] w3 w5 from XJ.out.trans (But.of_ext x5))
      have H5 := Lib.hid (HDJ.out.ext x5)
      have PW := Lib.hid (pw_blks HDJ.out.canon)
      have ONC := Lib.hid (left_once OK.out k)
      have NMD := Lib.hid (left_named OK.out k)
      have MLL := Lib.hid HDJ.out.lt
      obtain ⟨va, vcap, rfl, hvc, hvs⟩ := RW.shape s5
      have hxl : ((List.map (fun x => x.1) (blks fb (d.left k))).map fun s => Value.string (S s)).length = (d.left k).length := by simp [blks_length]
      rw [hxl] at hvs hvc ⊢
      have VS := Lib.hid hvs
      have LB := Lib.hid (show ((d.left k).length : Int) ≤ 1000000 from by have := HLL.out; rw [blks_length] at this; omega)
      have lb := LB.out
      have ST := Lib.hid (show BootS ml (d.left k) d.files fb cuts marks 0 0 d.files fb w5 from by
        have m5 := (M3.out.but X5.out MLN.out)
        have nod := m5.nod
        simp only [owns, List.nodup_cons, List.mem_cons, List.mem_append, not_or, List.nodup_append] at nod
        exact ⟨Nat.zero_le _, Nat.le_refl _, rfl, m5.len.symm, rfl, H5.out, m5.fls, nod.2.2.2.2.1, fun hm => MLN.out ml (by simp [owns, hm]) (by simp), fun x hx => .inl hx, OK.out.big⟩)
      generalize hLL : d.left k = LL at *
      clear s5 x5 hvs hvc hxl
      go_wp2_with fail
      go_loopw [8, 47] (fun lo i wr => ∃ (q j : Nat) (fs : List (List UInt8 × List UInt8)) (fb' : List Nat), i = .int .i64 (q : Int) ∧ lo = .int .i64 (j : Int) ∧ BootS ml LL d.files fb cuts marks q j fs fb' wr ∧ But [ml] w5 wr) (fun _ i _ => LL.length - (intOf i).toNat)
      case atStart => exact ⟨0, 0, _, _, rfl, rfl, ST.out, But.refl _ _⟩
      case round =>
        obtain ⟨q, j, fs, fb', rfl, rfl, hb, hx⟩ := hrel
        have HB := Lib.hid hb
        have HX := Lib.hid hx
        have hqi := hb.hi
        have hjq := hb.hj
        clear hb hx
        by_cases hlt : q < LL.length
        · have hli : (q : Int) < (LL.length : Int) := by omega
          have hji : (j : Int) ≤ (q : Int) := by omega
          obtain ⟨⟨nm, n⟩, hLq⟩ : ∃ p, LL[q]? = some p := ⟨_, List.getElem?_eq_getElem hlt⟩
          have hmem : (nm, n) ∈ LL := List.mem_of_getElem? hLq
          obtain ⟨g, rfl, hgB, hgl, hgc, _⟩ := VS.out (by omega)
          have hgm : g ∉ [ml] := by have := MLL.out; simp; omega
          have cs0 := hgc q hlt
          rw [← HX.out.cell hgl hgm (i := q)] at cs0
          have hxq : ((List.map (fun x => x.1) (blks fb LL)).map fun s => Value.string (S s))[q]? = some (.string (S nm)) := by
            rw [List.getElem?_map, List.getElem?_map]
            unfold blks
            rw [List.getElem?_map, hLq]; rfl
          rw [hxq] at cs0
          have hnd := NMD.out _ hmem
          have hnl : nm.length ≤ maxLen := by have hc1 : chk nm = 0 := hnd.1; have := chk_len hc1; unfold maxLen; omega
          have hnb : n < fb'.length := by rw [HB.out.blen, M2.out.len]; exact hnd.2
          have hget := HB.out.dir.get hnl
          rw [dGet_blks, dGet_eq PW.out hmem] at hget
          simp only [Option.map_some, ptrV] at hget
          obtain ⟨⟨fa, fc⟩, hf⟩ : ∃ f, f = fs.getD n ([], []) := ⟨_, rfl⟩
          have HBK := Lib.hid (show Blk wr (blkN fb' n) 84 #[.string (S fa), .string (S fc)] from by have := HB.out.fls n hnb; rw [← hf] at this; exact this)
          have HS := Lib.hid (show (Tryz.prog.info? 84).map (·.size) = some #[Value.string (S fa), .string (S fc)].size from fV_size (fa, fc))
          have QL := Lib.hid (fun w => floose_any fa fc w)
          have LQ := Lib.hid hLq
          have HF := Lib.hid hf.symm
          have HNL := Lib.hid hnl
          have HNB := Lib.hid (show n < fb.length by rw [← HB.out.blen]; exact hnb)
          have HLT := Lib.hid hlt
          clear hgc hxq hnd hmem hLq hf hnl hnb hgm hgl hgB
          by_cases hne : fa = fc
          · subst hne
            have hbb : (fa != fa) = false := by simp
            rw [hbb] at QL
            have HFI := Lib.hid (HB.out.firm LQ.out HF.out)
            clear hbb
            go_wp2_with (first | (refine wpList_load_blk rfl 84 (.tmp 55) rfl rfl HBK.out Tryz.underlying84 rfl HS.out ?_) | fail)
            refine (QL.out _).mono ?_
            rintro _ w6 ⟨rfl, x6⟩
            have X6 := Lib.hid (HX.out.trans (But.of_ext x6))
            have HB6 := Lib.hid (HFI.out.ext x6)
            clear x6 cs0 hget
            go_wp2
            go_roundw
            case rel => exact ⟨q + 1, j, fs, fb', by go_num, rfl, HB6.out, X6.out⟩
            case measure => simp [intOf]; have := HLT.out; omega
          · have hbb : (fa != fc) = true := by simpa using hne
            rw [hbb] at QL
            have HNE := Lib.hid hne
            clear hbb hne
            go_wp2_with (first | (refine wpList_load_blk rfl 84 (.tmp 55) rfl rfl HBK.out Tryz.underlying84 rfl HS.out ?_) | fail)
            refine (QL.out _).mono ?_
            rintro _ w6 ⟨rfl, x6⟩
            have X6 := Lib.hid x6
            clear x6 cs0 hget
            go_wp2_with fail
            have XW := Lib.hid (show Ext w w6 from ((((((Ext.refl w).alloc (.cells #[.int .i64 k, vc, vm] 26)).trans X2.out).trans XY.out).but (X5.out.trans HX.out) (fun x hx => by
              rw [List.mem_singleton] at hx
              have := World.size_alloc w (.cells #[.int .i64 k, vc, vm] 26)
              omega)).trans X6.out))
            have G6 := Lib.hid (show Blk w6 w.heap.size 26 #[.int .i64 k, vc, vm] from (G3.out.but (X5.out.trans HX.out) (by
              have := World.size_alloc w (.cells #[.int .i64 k, vc, vm] 26)
              simp; omega)).ext X6.out)
            have p1 := up_cell (G6.out.drew.cell 1)
            have p2 := up_cell (G6.out.drew.cell 2)
            have BK6 := Lib.hid ((HBK.out.ext X6.out).drew)
            have hjb : (j : Int) ≤ 9223372036854775807 := by omega
            have N1 := Lib.hid (fun x : Up w6.drew => show Calls Tryz.prog 42 #[vc, .int .i64 (j : Int)] x.val fun e w' => e = .returned (.int .i64 (cuts.getD j 0)) ∧ Ext x.val w' from (nth_int (RR.ext hc ((XW.out.drew).trans x.ext)) j hcl hjb).mono (fun e w' ⟨h1, h2⟩ => ⟨h1, h2 ▸ Ext.refl _⟩))
            have N2 := Lib.hid (fun x : Up w6.drew => show Calls Tryz.prog 43 #[vm, .int .i64 (j : Int)] x.val fun e w' => e = .returned (.string (S (marks.getD j []))) ∧ Ext x.val w' from (nth_str (RR.ext hm ((XW.out.drew).trans x.ext)) j hml hjb).mono (fun e w' ⟨h1, h2⟩ => ⟨h1, h2 ▸ Ext.refl _⟩))
            have hmm : ((marks.getD j []).length : Int) ≤ 9223372036854775807 := by
              rw [List.getD_eq_getElem?_getD]
              cases e : marks[j]? with
              | none => simp
              | some m => exact hmk m (List.mem_of_getElem? e)
            have hfbig := HB.out.big (fa, fc) (by rw [← HF.out, List.getD_eq_getElem?_getD, List.getElem?_eq_getElem (by rw [HB.out.flen]; exact HNB.out)]; exact List.getElem_mem _)
            have N3 := Lib.hid (fun w => fall_any fa fc (cuts.getD j 0) (marks.getD j []) w (by have := hfbig.1; simp only at this; omega) (by have := hfbig.2; simp only at this; omega) hmm)
            obtain ⟨cu, hcu⟩ : ∃ cu, cu = cuts.getD j 0 := ⟨_, rfl⟩
            obtain ⟨mk, hmk'⟩ : ∃ mk, mk = marks.getD j [] := ⟨_, rfl⟩
            obtain ⟨r, hr⟩ : ∃ r, r = leftL fa fc cu mk := ⟨_, rfl⟩
            rw [← hcu] at N1 N3
            rw [← hmk'] at N2 N3
            rw [← hr] at N3
            have RE := Lib.hid (And.intro hcu (And.intro hmk' hr))
            clear hcu hmk' hr hmm hfbig
            refine wp_region_lex _ rfl (by kernel_rfl) ?_
            iterate 2
              (refine lex_want (by kernel_rfl) (by kernel_rfl) (by kernel_rfl) rfl (fun _ _ _ _ h => h) (by kernel_rfl) (fun K hK => ?_)
               go_simp
               (refine hK _ ?_; clear hK K))
            refine lex_load_blk (by kernel_rfl) (by kernel_rfl) (by kernel_rfl) rfl (fun _ _ _ _ h => h) (by kernel_rfl) 84 (.tmp 60) rfl rfl BK6.out Tryz.underlying84 rfl HS.out ?_
            dsimp only [Act.put]
            simp only [List.setIfInBounds_toArray, List.set_cons_succ, List.set_cons_zero]
            iterate 3
              (refine lex_want (by kernel_rfl) (by kernel_rfl) (by kernel_rfl) rfl (fun _ _ _ _ h => h) (by kernel_rfl) (fun K hK => ?_)
               go_simp
               (refine hK _ ?_; clear hK K))
            (refine lex_want (by kernel_rfl) (by kernel_rfl) (by kernel_rfl) rfl (fun _ _ _ _ h => h) (by kernel_rfl) (fun K hK => ?_)
             go_simp
             (apply Exists.intro; refine ⟨fun x => ?_, hK _ ?_⟩; exact N1.out _; clear hK K))
            iterate 3
              (refine lex_want (by kernel_rfl) (by kernel_rfl) (by kernel_rfl) rfl (fun _ _ _ _ h => h) (by kernel_rfl) (fun K hK => ?_)
               go_simp
               (refine hK _ ?_; clear hK K))
            (refine lex_want (by kernel_rfl) (by kernel_rfl) (by kernel_rfl) rfl (fun _ _ _ _ h => h) (by kernel_rfl) (fun K hK => ?_)
             go_simp
             (apply Exists.intro; refine ⟨fun x => ?_, hK _ ?_⟩; exact N2.out _; clear hK K))
            (refine lex_want (by kernel_rfl) (by kernel_rfl) (by kernel_rfl) rfl (fun _ _ _ _ h => h) (by kernel_rfl) (fun K hK => ?_)
             go_simp
             (apply Exists.intro; refine ⟨fun x => ?_, hK _ ?_⟩; exact N3.out _; clear hK K))
            refine lex_only (by kernel_rfl) (by kernel_rfl) (fun xu K hK => ?_)
            go_simp
            refine hK.out _ _ ((Ext.refl _).alloc _) ?_
            clear hK K
            have BN := Lib.hid (Blk.new xu.val 84 #[.string (S []), .string (S [])])
            have EU := Lib.hid (((Ext.refl w6).drew.trans xu.ext).alloc (.cells #[.string (S []), .string (S [])] 84))
            have SU := Lib.hid (show w6.heap.size ≤ xu.val.heap.size from xu.ext.size)
            try dsimp only [Act.put]
            try simp only [List.setIfInBounds_toArray, List.set_cons_succ, List.set_cons_zero]
            generalize xu.val.heap.size = g7 at *
            generalize xu.val.alloc (.cells #[.string (S []), .string (S [])] 84) = w7 at *
            refine lex_last (by kernel_rfl) (by kernel_rfl) (by kernel_rfl) (by kernel_rfl) (by kernel_rfl) (fun xv K hK => ?_)
            have FS := Lib.hid (fV_size (r, r))
            have FO := Lib.hid (fV_one (r, r))
            refine wp_store_blk 84 (.tmp 12) (.tmp 70) rfl rfl (cs' := fV (r, r)) rfl (BN.out.ext xv.ext) rfl FS.out FO.out (hK _ _ (fun y => ?_))
            have h67 : w6.heap.size ≤ g7 := SU.out
            have EX := Lib.hid (show Ext w6 y.val from ((EU.out.trans xv.ext).setRow h67 (fV (r, r))).trans y.ext)
            have BR := Lib.hid (((BN.out.ext xv.ext).setRow (fV (r, r))).ext y.ext)
            clear hK K h67 p1 p2
            try dsimp only [Act.put]
            try simp only [List.setIfInBounds_toArray, List.set_cons_succ, List.set_cons_zero]
            generalize y.val = w8 at *
            have HD8 := Lib.hid (HB.out.dir.ext (X6.out.trans EX.out))
            have LD := Lib.hid (show (blks fb' LL).length < maxLen from by rw [blks_length]; have := LB.out; unfold maxLen; omega)
            go_wp2_with (first | (at_mapUpdate; refine wpList_dirPut _ rfl _ _ _ rfl rfl HD8.out LD.out (f := g7) rfl rfl HNL.out ?_; intro w9 h9 b9 s9; have H9 := Lib.hid h9; have B9 := Lib.hid b9; clear h9 b9 s9))
            have hg7 : wr.heap.size ≤ g7 := Nat.le_trans X6.out.size SU.out
            have hm7 : ml < g7 := by have := HB.out.dir.lt; omega
            have BX := Lib.hid (show But [ml] wr w9 from (But.of_ext (X6.out.trans EX.out)).trans B9.out)
            have BR9 := Lib.hid (BR.out.but B9.out (by simp; omega))
            have HB9 := Lib.hid (HB.out.fell ONC.out LQ.out HNB.out HF.out HNE.out hg7 BX.out H9.out hm7 (by rw [← RE.out.1, ← RE.out.2.1, ← RE.out.2.2]; exact BR9.out))
            clear hg7 hm7
            go_roundw
            case rel => exact ⟨q + 1, j + 1, _, _, by go_num, by go_num, HB9.out, HX.out.trans BX.out⟩
            case measure => simp [intOf]; have := HLT.out; omega
        · obtain rfl : q = LL.length := by omega
          clear hlt
          have DW := Lib.hid (MemD.dsk ((M3.out.but X5.out MLN.out).but HX.out MLN.out))
          have D0 := Lib.hid (DW.out.s0 ml)
          have D6 := Lib.hid (D0.out.s6 false)
          have D5 := Lib.hid (D6.out.s5 0)
          have e0 := DskB.c0 DW.out
          have f0 := DskB.fr DW.out 0
          have e6 := DskB.c6 D0.out
          have f6 := DskB.fr D0.out 6
          have e5 := DskB.c5 D6.out
          have f5 := DskB.fr D6.out 5
          have hbw : b < w.heap.size := HLT.out b (by simp [owns])
          have hmb : ml ≠ b := fun e => MLN.out b (by simp [owns]) (by simp [e])
          have xs : But [b] wr (((wr.setCell ⟨b, 0, none⟩ (.map (some ml))).setCell ⟨b, 6, none⟩ (.bool false)).setCell ⟨b, 5, none⟩ (.int .i64 0)) := (((But.refl [b] wr).set (List.mem_singleton.2 rfl) _).set (List.mem_singleton.2 rfl) _).set (List.mem_singleton.2 rfl) _
          have XS := Lib.hid xs
          have HDZ := Lib.hid (HB.out.dir.but xs (by simpa using hmb))
          have MLB := Lib.hid hmb
          clear xs hmb hbw
          go_wp2_with fail
          refine Calls.mono (settle_gen D5.out HDZ.out MLB.out) ?_
          rintro _ w9 ⟨rfl, x9, k9, n9, s9⟩
          have G := Lib.hid (And.intro x9 (And.intro k9 (And.intro n9 s9)))
          clear x9 k9 n9 s9
          go_wp2
          go_ret
          refine ⟨rfl, ?_⟩
          obtain ⟨x9, k9, n9, s9⟩ := G.out
          have hmlw : w.heap.size < ml := by
            have := World.size_alloc w (.cells #[.int .i64 k, vc, vm] 26)
            omega
          have EW : Ext w wr := (((((Ext.refl w).alloc (.cells #[.int .i64 k, vc, vm] 26)).trans X2.out).trans XY.out).but (X5.out.trans HX.out) (fun x hx => by
            rw [List.mem_singleton] at hx; omega))
          have hbw : b < w.heap.size := HLT.out b (by simp [owns])
          have xz : But [b] wr w9 := XS.out.trans x9
          have hsz : (((wr.setCell ⟨b, 0, none⟩ (.map (some ml))).setCell ⟨b, 6, none⟩ (.bool false)).setCell ⟨b, 5, none⟩ (.int .i64 0)).heap.size = wr.heap.size := by simp [World.setCell]
          have hmr := HB.out.dir.lt
          rw [hsz] at k9 s9
          have nod0 := H.out.nod
          simp only [owns, List.nodup_cons, List.mem_cons, List.mem_append, not_or] at nod0
          have hbf : ∀ x ∈ fb', x ≠ b := fun x hx e => by
            rcases HB.out.new x hx with h1 | h1
            · exact nod0.1.2.2.2 (e ▸ h1)
            · omega
          have hfe : fallAll cuts marks LL 0 d.files = fs := by
            have := HB.out.fall
            rw [List.drop_length] at this
            exact this
          have hfiles : (d.boot k cuts marks).files = fs := by
            show fallAll cuts marks (d.left k) 0 d.files = fs
            rw [hLL]; exact hfe
          have hlf := HB.out.lt
          refine ⟨(But.of_ext EW).trans (xz.more (by simp [owns])), fb', ml, wr.heap.size, .slice none 0 0, ?_, ?_⟩
          · refine ⟨k9, ?_, ?_, WR.nil _ _ _, fun m hm => ?_, by rw [hfiles, HB.out.flen, HB.out.blen], ?_⟩
            · show HasDir w9 ml (blks fb' (d.left k))
              rw [hLL]; exact n9
            · show HasDir w9 wr.heap.size (blks fb' (d.left k))
              rw [hLL]; exact s9
            · have := (HB.out.fls m hm).but xz (by simpa using hbf _ (blkN_mem hm))
              unfold Dsk.file
              rw [hfiles]
              exact this
            · simp only [owns, Value.ownBlock, Option.toList_none, List.nil_append, List.nodup_cons, List.mem_cons, not_or]
              exact ⟨⟨by omega, by omega, fun hm => hbf _ hm rfl⟩, ⟨by omega, HB.out.nml⟩, fun hm => by have := hlf _ hm; omega, HB.out.nod⟩
          · intro x hx
            simp only [owns, Value.ownBlock, Option.toList_none, List.nil_append, List.mem_cons] at hx
            rcases hx with rfl | rfl | rfl | hx
            · exact .inl (by simp [owns])
            · exact .inr (by omega)
            · exact .inr EW.size
            · rcases HB.out.new x hx with h1 | h1
              · exact .inl (by simp [owns, h1])
              · exact .inr (by omega)
end Go.Proofs.YtmjkfgpkohfmiaaGreat
namespace Go.Proofs.YtmjkfgpkohfmiaaGreat
set_option linter.unusedVariables false
set_option linter.unusedSimpArgs false

theorem dIns_perm {α : Type} (x : List UInt8 × α) : ∀ l, (dIns x l).Perm (x :: l)
  | [] => List.Perm.refl _
  | y :: r => by
    unfold dIns
    split
    · exact List.Perm.refl _
    · exact ((dIns_perm x r).cons y).trans (List.Perm.swap x y r)
theorem once_put {s : List UInt8} {n : Nat} {l : List (List UInt8 × Nat)} (h : Once l) (hn : ∀ p ∈ l, p.2 ≠ n) : Once (dPut s n l) := by
  unfold Once dPut at *
  have hs : (dDel s l).Sublist l := List.filter_sublist
  refine (((dIns_perm (s, n) (dDel s l)).map (·.2)).nodup_iff).2 ?_
  rw [List.map_cons, List.nodup_cons]
  refine ⟨fun hm => ?_, (hs.map _).nodup h⟩
  obtain ⟨p, hp, e⟩ := List.mem_map.1 hm
  exact hn p (hs.subset hp) e
theorem once_del {s : List UInt8} {l : List (List UInt8 × Nat)} (h : Once l) : Once (dDel s l) := by
  unfold Once at *
  exact ((List.filter_sublist (l := l)).map _).nodup h
theorem once_eq : ∀ {l : List (List UInt8 × Nat)}, Once l → ∀ {p q : List UInt8 × Nat}, p ∈ l → q ∈ l → p.2 = q.2 → p = q
  | [], _, _, _, h, _, _ => by simp at h
  | a :: r, h, p, q, hp, hq, e => by
    unfold Once at h
    rw [List.map_cons, List.nodup_cons] at h
    rcases List.mem_cons.1 hp with rfl | hp' <;> rcases List.mem_cons.1 hq with rfl | hq'
    · rfl
    · exact absurd (List.mem_map.2 ⟨q, hq', e.symm⟩) h.1
    · exact absurd (List.mem_map.2 ⟨p, hp', e⟩) h.1
    · exact once_eq h.2 hp' hq' e
theorem Chain.app : ∀ {s m : List (List UInt8 × Nat)} {cs : List (List UInt8 × List UInt8 × Option Nat)} (c : List UInt8 × List UInt8 × Option Nat), Chain s cs m → Once (appC m c) → Chain s (cs ++ [c]) (appC m c)
  | s, m, [], c, h, ho => ⟨h.1, by rw [h.2]; exact ⟨ho, rfl⟩⟩
  | s, m, a :: cs, c, h, ho => ⟨h.1, Chain.app c h.2 ho⟩
theorem Chain.last : ∀ {s m : List (List UInt8 × Nat)} {cs : List (List UInt8 × List UInt8 × Option Nat)}, Chain s cs m → Once m
  | s, m, [], h => h.2 ▸ h.1
  | s, m, a :: cs, h => Chain.last h.2
theorem appC_len (l : List (List UInt8 × Nat)) (c : List UInt8 × List UInt8 × Option Nat) : (appC l c).length ≤ l.length + 1 := by
  obtain ⟨t, f, o⟩ := c
  cases o with
  | none =>
    show (if f = [] then l else dDel f l).length ≤ _
    split
    · omega
    · have := dDel_length f l; omega
  | some n =>
    show (dPut t n (if f = [] then l else dDel f l)).length ≤ _
    have h3 := dPut_length t n (if f = [] then l else dDel f l)
    have h2 : (if f = [] then l else dDel f l).length ≤ l.length := by
      split
      · exact Nat.le_refl _
      · exact dDel_length f l
    omega
theorem Named.mono {l : List (List UInt8 × Nat)} {n m : Nat} (h : Named l n) (hm : n ≤ m) : Named l m := fun p hp => ⟨(h p hp).1, Nat.lt_of_lt_of_le (h p hp).2 hm⟩

theorem Dsk.Ok.new {cap : Int} (h1 : 0 ≤ cap) (h2 : cap ≤ 10000000) : (Dsk.new cap).Ok where
  dirN := fun p hp => by simp [Dsk.new] at hp
  safeN := fun p hp => by simp [Dsk.new] at hp
  chsN := fun p hp => by simp [Dsk.new] at hp
  chain := ⟨by simp [Once, Dsk.new], rfl⟩
  dirL := by simp [Dsk.new]
  safeL := by simp [Dsk.new]
  cap0 := h1
  cap1 := h2
  arm0 := by simp [Dsk.new]
  arm1 := by simp [Dsk.new]
  big := fun p hp => by simp [Dsk.new] at hp
section

variable {d : Dsk} (ok : d.Ok)

include ok

theorem Dsk.Ok.cnt : d.cnt.Ok where
  dirN := ok.dirN
  safeN := ok.safeN
  chsN := ok.chsN
  chain := ok.chain
  dirL := by have := ok.dirL; show (d.dir.length : Int) ≤ d.ops + 1; omega
  safeL := by have := ok.safeL; show (d.safe.length : Int) + d.chs.length ≤ d.ops + 1; omega
  cap0 := ok.cap0
  cap1 := ok.cap1
  arm0 := by show 0 ≤ max (d.armed - 1) 0; omega
  arm1 := by have := ok.arm1; show max (d.armed - 1) 0 ≤ _; omega
  big := ok.big
theorem Dsk.Ok.put {n : Nat} {f : List UInt8 × List UInt8} (hf : f.1.length ≤ 1000000 ∧ f.2.length ≤ 1000000) : (d.put n f).Ok where
  dirN := by have := ok.dirN; unfold Dsk.put; simpa using this
  safeN := by have := ok.safeN; unfold Dsk.put; simpa using this
  chsN := by have := ok.chsN; unfold Dsk.put; simpa using this
  chain := ok.chain
  dirL := ok.dirL
  safeL := ok.safeL
  cap0 := ok.cap0
  cap1 := ok.cap1
  arm0 := ok.arm0
  arm1 := ok.arm1
  big := fun g hg => by
    rcases List.mem_or_eq_of_mem_set hg with hg | rfl
    · exact ok.big g hg
    · exact hf
theorem Dsk.Ok.chg {c : List UInt8 × List UInt8 × Option Nat} (hc : c.1.length ≤ 64 ∧ c.2.1.length ≤ 64 ∧ (∀ n, c.2.2 = some n → chk c.1 = 0 ∧ n < d.files.length)) (ho : Once (appC d.dir c)) : (d.chg c).Ok where
  dirN := fun p hp => by
    rcases appC_mem hp with hp | ⟨e1, e2⟩
    · exact ok.dirN p hp
    · have := hc.2.2 _ e2; rw [e1]; exact this
  safeN := ok.safeN
  chsN := fun x hx => by
    rcases List.mem_append.1 hx with hx | hx
    · exact ok.chsN x hx
    · rw [List.mem_singleton] at hx; subst hx; exact hc
  chain := ok.chain.app c ho
  dirL := by have := ok.dirL; have := appC_len d.dir c; show ((appC d.dir c).length : Int) ≤ d.ops + 1; omega
  safeL := by have := ok.safeL; show (d.safe.length : Int) + (d.chs ++ [c]).length ≤ d.ops + 1; rw [List.length_append, List.length_singleton]; omega
  cap0 := ok.cap0
  cap1 := ok.cap1
  arm0 := by show 0 ≤ max (d.armed - 1) 0; omega
  arm1 := by have := ok.arm1; show max (d.armed - 1) 0 ≤ _; omega
  big := ok.big
end

end Go.Proofs.YtmjkfgpkohfmiaaGreat
namespace Go.Proofs.YtmjkfgpkohfmiaaGreat
set_option linter.unusedVariables false
set_option linter.unusedSimpArgs false

theorem chk_len64 {s : List UInt8} (h : chk s = 0) : s.length ≤ 64 := (chk_len h).2
theorem fcut_big {f : List UInt8 × List UInt8} {k : Int} (h1 : f.1.length ≤ 1000000) (h2 : f.2.length ≤ 1000000) : (fcut f k).1.1.length ≤ 1000000 ∧ (fcut f k).1.2.length ≤ 1000000 := by
  unfold fcut
  split
  · simp
  · refine ⟨h1, ?_⟩
    simp only [List.length_take]; omega
theorem fappend_big {f : List UInt8 × List UInt8} {s : List UInt8} (h1 : f.1.length ≤ 1000000) : (fappend f s).1.1.length ≤ 1000000 ∧ (fappend f s).1.2.length ≤ 1000000 := by
  unfold fappend
  split
  · simp
  · refine ⟨h1, ?_⟩
    simp only [List.length_append]; omega
theorem fallAll_big (cuts : List Int) (marks : List (List UInt8)) : ∀ (L : List (List UInt8 × Nat)) (k : Nat) (fs : List (List UInt8 × List UInt8)), (∀ f ∈ fs, f.1.length ≤ 1000000 ∧ f.2.length ≤ 1000000) →
    (fallAll cuts marks L k fs).length = fs.length ∧ ∀ f ∈ fallAll cuts marks L k fs, f.1.length ≤ 1000000 ∧ f.2.length ≤ 1000000
  | [], _, fs, h => ⟨rfl, h⟩
  | p :: r, k, fs, h => by
    unfold fallAll
    have hf : (fs.getD p.2 ([], [])).1.length ≤ 1000000 ∧ (fs.getD p.2 ([], [])).2.length ≤ 1000000 := by
      rw [List.getD_eq_getElem?_getD]
      cases e : fs[p.2]? with
      | none => simp
      | some f => exact h f (List.mem_of_getElem? e)
    simp only
    split
    · exact fallAll_big cuts marks r k fs h
    · have := fallAll_big cuts marks r (k + 1) (fs.set p.2 (leftL (fs.getD p.2 ([], [])).1 (fs.getD p.2 ([], [])).2 (cuts.getD k 0) (marks.getD k []), leftL (fs.getD p.2 ([], [])).1 (fs.getD p.2 ([], [])).2 (cuts.getD k 0) (marks.getD k []))) (fun f hf' => by
        rcases List.mem_or_eq_of_mem_set hf' with hf' | rfl
        · exact h f hf'
        · exact ⟨leftL_length _ _ _ _ hf.1 hf.2, leftL_length _ _ _ _ hf.1 hf.2⟩)
      rw [List.length_set] at this
      exact this
section

variable {d : Dsk} (ok : d.Ok)

include ok

theorem file_big (n : Nat) : (d.file n).1.length ≤ 1000000 ∧ (d.file n).2.length ≤ 1000000 := by
  unfold Dsk.file
  rw [List.getD_eq_getElem?_getD]
  cases e : d.files[n]? with
  | none => simp
  | some f => exact ok.big f (List.mem_of_getElem? e)
theorem Dsk.Ok.more : d.more.Ok where
  dirN := ok.dirN.mono (by simp [Dsk.more])
  safeN := ok.safeN.mono (by simp [Dsk.more])
  chsN := fun c hc => by
    obtain ⟨h1, h2, h3⟩ := ok.chsN c hc
    exact ⟨h1, h2, fun n e => ⟨(h3 n e).1, by have := (h3 n e).2; simp only [Dsk.more, List.length_append, List.length_singleton]; omega⟩⟩
  chain := ok.chain
  dirL := ok.dirL
  safeL := ok.safeL
  cap0 := ok.cap0
  cap1 := ok.cap1
  arm0 := ok.arm0
  arm1 := ok.arm1
  big := fun f hf => by
    rcases List.mem_append.1 hf with hf | hf
    · exact ok.big f hf
    · rw [List.mem_singleton] at hf; subst hf; simp
theorem Dsk.Ok.create (s : List UInt8) : (d.create s).1.Ok := by
  unfold Dsk.create
  split
  · exact ok
  split
  · exact ok
  split
  · exact ok
  split
  · exact ok
  · rename_i h1 h2 h3 h4
    have hc : chk s = 0 := by simpa using h2
    refine Dsk.Ok.chg (d := d.more) ok.more ⟨chk_len64 hc, by simp, fun n e => ?_⟩ (once_put ok.chain.last (fun p hp => ?_))
    · injection e with e; subst e
      exact ⟨hc, by simp [Dsk.more]⟩
    · have := (ok.dirN p hp).2; omega
theorem Dsk.Ok.append (s t : List UInt8) : (d.append s t).1.Ok := by
  unfold Dsk.append
  split
  · exact ok
  split
  · exact ok
  split
  · exact ok
  split
  · exact ok
  · exact ok.cnt.put (fappend_big (file_big ok _).1)
theorem Dsk.Ok.sync (s : List UInt8) : (d.sync s).1.Ok := by
  unfold Dsk.sync
  split
  · exact ok
  split
  · exact ok
  split
  · exact ok.cnt
  · exact ok.cnt.put ⟨(file_big ok _).2, (file_big ok _).2⟩
theorem Dsk.Ok.cut (s : List UInt8) (k : Int) : (d.cut s k).1.Ok := by
  unfold Dsk.cut
  split
  · exact ok
  split
  · exact ok
  split
  · exact ok
  · exact ok.cnt.put (fcut_big (file_big ok _).1 (file_big ok _).2)
theorem Dsk.Ok.remove (s : List UInt8) : (d.remove s).1.Ok := by
  unfold Dsk.remove
  split
  · exact ok
  split
  · exact ok
  · rename_i n hg
    have hm := dGet_mem hg
    refine ok.chg ⟨by simp, chk_len64 (ok.dirN _ hm).1, fun n e => by cases e⟩ ?_
    show Once (if s = [] then d.dir else dDel s d.dir)
    split
    · exact ok.chain.last
    · exact once_del ok.chain.last
theorem Dsk.Ok.rename (s t : List UInt8) : (d.rename s t).1.Ok := by
  unfold Dsk.rename
  split
  · exact ok
  split
  · exact ok
  split
  · exact ok
  split
  · exact ok
  · rename_i n hg h2 h3
    have hc : chk t = 0 := by simpa using h2
    have hm := dGet_mem hg
    have hs := (ok.dirN _ hm).1
    refine ok.chg ⟨chk_len64 hc, chk_len64 hs, fun m e => ?_⟩ ?_
    · injection e with e; subst e; exact ⟨hc, (ok.dirN _ hm).2⟩
    · show Once (dPut t n (if s = [] then d.dir else dDel s d.dir))
      have hne : s ≠ [] := fun e => by have := (chk_len hs).1; simp only at this; rw [e] at this; simp at this
      rw [if_neg hne]
      refine once_put (once_del ok.chain.last) (fun p hp e => ?_)
      have hp' := (List.mem_filter.1 hp)
      have := once_eq ok.chain.last hp'.1 hm e
      rw [this] at hp'
      simp at hp'
theorem Dsk.Ok.dirSync : d.dirSync.1.Ok := by
  unfold Dsk.dirSync
  split
  · exact ok
  split
  · exact ok.cnt
  · exact { ok.cnt with safeN := ok.dirN, chsN := fun c hc => by simp at hc, chain := ⟨ok.chain.last, rfl⟩, safeL := by have := ok.dirL; show (d.dir.length : Int) + (0 : Nat) ≤ d.ops + 1; omega }
theorem Dsk.Ok.arm (k : Int) (hk : k ≤ 9223372036854775807) : (d.arm k).1.Ok := by
  unfold Dsk.arm
  split
  · exact ok
  split
  · exact ok
  · exact { ok with arm0 := by show 0 ≤ k; omega, arm1 := hk }
theorem Dsk.Ok.off : d.off.Ok := { ok with arm0 := Int.le_refl _, arm1 := by show (0 : Int) ≤ _; omega }
theorem left_length (k : Int) : ((d.left k).length : Int) ≤ d.ops := by
  have h : ∀ (cs : List (List UInt8 × List UInt8 × Option Nat)) (l : List (List UInt8 × Nat)), (cs.foldl appC l).length ≤ l.length + cs.length := by
    intro cs
    induction cs with
    | nil => intro l; simp
    | cons c cs ih =>
      intro l
      rw [List.foldl_cons]
      have := ih (appC l c)
      have := appC_len l c
      simp only [List.length_cons]; omega
  have h1 := h (d.chs.take k.toNat) d.safe
  have h2 := ok.safeL
  rw [List.length_take] at h1
  unfold Dsk.left
  omega
theorem Dsk.Ok.boot (k : Int) (cuts : List Int) (marks : List (List UInt8)) : (d.boot k cuts marks).Ok := by
  have hf := fallAll_big cuts marks (d.left k) 0 d.files ok.big
  have hn : Named (d.left k) (d.boot k cuts marks).files.length := by
    show Named (d.left k) (fallAll cuts marks (d.left k) 0 d.files).length
    rw [hf.1]; exact left_named ok k
  exact { dirN := hn, safeN := hn, chsN := fun c hc => by simp [Dsk.boot] at hc, chain := ⟨left_once ok k, rfl⟩, dirL := left_length ok k, safeL := by have := left_length ok k; show ((d.left k).length : Int) + (0 : Nat) ≤ d.ops; omega, cap0 := ok.cap0, cap1 := ok.cap1, arm0 := Int.le_refl _, arm1 := by show (0 : Int) ≤ _; omega, big := hf.2 }
end

end Go.Proofs.YtmjkfgpkohfmiaaGreat
namespace Go.Proofs.YtmjkfgpkohfmiaaGreat
set_option linter.unusedVariables false
set_option linter.unusedSimpArgs false
open Go.RowKit

attribute [local go_sem] S_size S_toList S_append S_extract S_beq S_bne S_empty S_nil

structure ActD where
  kind : Int
  n : Int
  s : List UInt8
  t : List UInt8
  dir : Int
  vc : Value
  vm : Value
  cuts : List Int
  marks : List (List UInt8)
def actC (a : ActD) : List Value := [.int .i64 a.kind, .int .i64 a.n, .string (S a.s), .string (S a.t), .int .i64 a.dir, a.vc, a.vm]
structure ActW (w : World) (a : ActD) : Prop where
  cuts : RR iC 1 w a.vc a.cuts
  marks : RR sC 1 w a.vm a.marks
  sl : a.s.length ≤ maxLen
  tl : a.t.length ≤ maxLen
  cl : (a.cuts.length : Int) ≤ 9223372036854775807
  ml : (a.marks.length : Int) ≤ 9223372036854775807
  mkl : ∀ s ∈ a.marks, (s.length : Int) ≤ 9223372036854775807
  n1 : a.n ≤ 9223372036854775807
theorem ActW.ext {w w' : World} {a : ActD} (h : ActW w a) (x : Ext w w') : ActW w' a := { h with cuts := h.cuts.ext x, marks := h.marks.ext x }
def Dsk.act (d : Dsk) (a : ActD) : Dsk × Int :=
  if a.kind = 0 then d.create a.s else if a.kind = 1 then d.append a.s a.t else if a.kind = 2 then d.sync a.s else if a.kind = 3 then d.cut a.s a.n
  else if a.kind = 4 then d.rename a.s a.t else if a.kind = 5 then d.remove a.s else if a.kind = 6 then d.dirSync else if a.kind = 7 then d.arm a.n
  else if a.kind = 8 then (d.off, 0) else if a.kind = 9 then (d.boot a.dir a.cuts a.marks, 0) else (d, 0)
theorem Dsk.Ok.act {d : Dsk} (ok : d.Ok) {a : ActD} (hn : a.n ≤ 9223372036854775807) : (d.act a).1.Ok := by
  unfold Dsk.act
  split
  · exact ok.create _
  split
  · exact ok.append _ _
  split
  · exact ok.sync _
  split
  · exact ok.cut _ _
  split
  · exact ok.rename _ _
  split
  · exact ok.remove _
  split
  · exact ok.dirSync
  split
  · exact ok.arm _ hn
  split
  · exact ok.off
  split
  · exact ok.boot _ _ _
  · exact ok
theorem OpR.pre {w w1 w' : World} {b : Nat} {d' : Dsk} {fb : List Nat} {mn ms : Nat} {cv : Value} (x : Ext w w1) (h : OpR w1 b d' fb mn ms cv w') : OpR w b d' fb mn ms cv w' := by
  obtain ⟨h1, fb', mn', ms', cv', m, h2⟩ := h
  exact ⟨(But.of_ext x).trans h1, fb', mn', ms', cv', m, fun k hk => (h2 k hk).imp id (fun h => Nat.le_trans x.size h)⟩

/-- a disk that lies in K -/
def HasD (w : World) (b : Nat) (K : List Nat) (d : Dsk) : Prop := d.Ok ∧ ∃ fb mn ms cv, MemD w b d fb mn ms cv ∧ ∀ k ∈ owns b mn ms cv fb, k ∈ K
def Stp (K K' : List Nat) (w w' : World) : Prop := But K w w' ∧ ∀ k ∈ K', k ∈ K ∨ w.heap.size ≤ k
theorem Stp.refl (K : List Nat) (w : World) : Stp K K w w := ⟨But.refl _ _, fun k hk => .inl hk⟩
theorem Stp.of_ext {K : List Nat} {w w' : World} (x : Ext w w') : Stp K K w w' := ⟨But.of_ext x, fun k hk => .inl hk⟩
theorem OpR.has {w w' : World} {b : Nat} {K : List Nat} {d' : Dsk} {fb : List Nat} {mn ms : Nat} {cv : Value} (h : OpR w b d' fb mn ms cv w') (hK : ∀ k ∈ owns b mn ms cv fb, k ∈ K) (ok : d'.Ok) : ∃ K', HasD w' b K' d' ∧ Stp K K' w w' := by
  obtain ⟨h1, fb', mn', ms', cv', m, h2⟩ := h
  exact ⟨owns b mn' ms' cv' fb', ⟨ok, fb', mn', ms', cv', m, fun k hk => hk⟩, h1.more hK, fun k hk => (h2 k hk).imp (hK k) id⟩
theorem HasD.ext {w w' : World} {b : Nat} {K : List Nat} {d : Dsk} (h : HasD w b K d) (x : Ext w w') : HasD w' b K d := by
  obtain ⟨ok, fb, mn, ms, cv, m, hK⟩ := h
  exact ⟨ok, fb, mn, ms, cv, m.ext x, hK⟩

set_option maxRecDepth 20000 in
set_option maxHeartbeats 4000000 in
theorem do_mem {w : World} {b : Nat} {d : Dsk} {fb : List Nat} {mn ms : Nat} {cv : Value} (h : MemD w b d fb mn ms cv) (ok : d.Ok) (hop : d.ops ≤ 1000000) {a : ActD} (ha : ActW w a) :
    Calls Tryz.prog 16 #[.pointer (some ⟨b, 0, none⟩), .agg (actC a).toArray] w fun e w' => e = .returned (.int .i64 (d.act a).2) ∧ OpR w b (d.act a).1 fb mn ms cv w' := by
  obtain ⟨kind, n, s, t, dir, vc, vm, cuts, marks⟩ := a
  have X := (Ext.refl w).alloc (.cells (actC ⟨kind, n, s, t, dir, vc, vm, cuts, marks⟩).toArray 29)
  have XH := Lib.hid X
  have M := Lib.hid (h.ext X)
  have AW := Lib.hid (ha.ext X)
  have OK := Lib.hid ok
  have HOP := Lib.hid hop
  have HR := Lib.hid (OpR.same h X)
  have R4 := Lib.hid (show (w.alloc (.cells (actC ⟨kind, n, s, t, dir, vc, vm, cuts, marks⟩).toArray 29)).rangeAt w.heap.size 4 [.int .i64 dir, vc, vm] from fun j u hj => by
    rw [Blk.cell (Blk.new w 29 (actC ⟨kind, n, s, t, dir, vc, vm, cuts, marks⟩).toArray)]
    match j, hj with
    | 0, hj => exact hj
    | 1, hj => exact hj
    | 2, hj => exact hj)
  have RS := Lib.hid (show (Tryz.prog.info? 26).map (·.size) = some [Value.int .i64 dir, vc, vm].length by kernel_rfl)
  clear h ha ok X hop
  simp only [actC] at *
  by_cases h0 : kind = 0
  · subst h0
    have C := Lib.hid (create_any M.out OK.out (by have := HOP.out; omega) s AW.out.sl)
    go_enter Tryz.func16, Tryz.ntmps16
    go_wp2_with fail
    refine Calls.mono C.out ?_
    rintro _ w1 ⟨rfl, r1⟩
    have R1 := Lib.hid r1
    clear r1
    go_wp2
    go_ret
    exact ⟨rfl, OpR.pre XH.out R1.out⟩
  by_cases h1 : kind = 1
  · subst h1
    have C := Lib.hid (append_any M.out OK.out (by have := HOP.out; omega) s AW.out.sl t AW.out.tl)
    go_enter Tryz.func16, Tryz.ntmps16
    go_wp2_with fail
    refine Calls.mono C.out ?_
    rintro _ w1 ⟨rfl, r1⟩
    have R1 := Lib.hid r1
    clear r1
    go_wp2
    go_ret
    exact ⟨rfl, OpR.pre XH.out R1.out⟩
  by_cases h2 : kind = 2
  · subst h2
    have C := Lib.hid (sync_any M.out OK.out (by have := HOP.out; omega) s AW.out.sl)
    go_enter Tryz.func16, Tryz.ntmps16
    go_wp2_with fail
    refine Calls.mono C.out ?_
    rintro _ w1 ⟨rfl, r1⟩
    have R1 := Lib.hid r1
    clear r1
    go_wp2
    go_ret
    exact ⟨rfl, OpR.pre XH.out R1.out⟩
  by_cases h3 : kind = 3
  · subst h3
    have C := Lib.hid (cut_any M.out OK.out (by have := HOP.out; omega) s AW.out.sl n)
    go_enter Tryz.func16, Tryz.ntmps16
    go_wp2_with fail
    refine Calls.mono C.out ?_
    rintro _ w1 ⟨rfl, r1⟩
    have R1 := Lib.hid r1
    clear r1
    go_wp2
    go_ret
    exact ⟨rfl, OpR.pre XH.out R1.out⟩
  by_cases h4 : kind = 4
  · subst h4
    have C := Lib.hid (rename_any M.out OK.out (by have := HOP.out; omega) s t AW.out.sl AW.out.tl)
    go_enter Tryz.func16, Tryz.ntmps16
    go_wp2_with fail
    refine Calls.mono C.out ?_
    rintro _ w1 ⟨rfl, r1⟩
    have R1 := Lib.hid r1
    clear r1
    go_wp2
    go_ret
    exact ⟨rfl, OpR.pre XH.out R1.out⟩
  by_cases h5 : kind = 5
  · subst h5
    have C := Lib.hid (remove_any M.out OK.out (by have := HOP.out; omega) s AW.out.sl)
    go_enter Tryz.func16, Tryz.ntmps16
    go_wp2_with fail
    refine Calls.mono C.out ?_
    rintro _ w1 ⟨rfl, r1⟩
    have R1 := Lib.hid r1
    clear r1
    go_wp2
    go_ret
    exact ⟨rfl, OpR.pre XH.out R1.out⟩
  by_cases h6 : kind = 6
  · subst h6
    have C := Lib.hid (dirSync_any M.out OK.out (by have := HOP.out; omega))
    go_enter Tryz.func16, Tryz.ntmps16
    go_wp2_with fail
    refine Calls.mono C.out ?_
    rintro _ w1 ⟨rfl, r1⟩
    have R1 := Lib.hid r1
    clear r1
    go_wp2
    go_ret
    exact ⟨rfl, OpR.pre XH.out R1.out⟩
  by_cases h7 : kind = 7
  · subst h7
    have C := Lib.hid (arm_any M.out n)
    go_enter Tryz.func16, Tryz.ntmps16
    go_wp2_with fail
    refine Calls.mono C.out ?_
    rintro _ w1 ⟨rfl, r1⟩
    have R1 := Lib.hid r1
    clear r1
    go_wp2
    go_ret
    exact ⟨rfl, OpR.pre XH.out R1.out⟩
  by_cases h8 : kind = 8
  · subst h8
    have C := Lib.hid (off_any M.out)
    go_enter Tryz.func16, Tryz.ntmps16
    go_wp2_with fail
    refine Calls.mono C.out ?_
    rintro _ w1 ⟨rfl, r1⟩
    have R1 := Lib.hid r1
    clear r1
    go_wp2
    go_ret
    exact ⟨rfl, OpR.pre XH.out R1.out⟩
  by_cases h9 : kind = 9
  · subst h9
    have C := Lib.hid (boot_any M.out OK.out HOP.out dir AW.out.cuts AW.out.marks AW.out.cl AW.out.ml AW.out.mkl)
    go_enter Tryz.func16, Tryz.ntmps16
    go_wp2_with (refine wpList_load_mid rfl 26 (.tmp 66) rfl w.heap.size 4 rfl [.int .i64 dir, vc, vm] _ R4.out Tryz.underlying26 rfl RS.out ?_)
    refine Calls.mono C.out ?_
    rintro _ w1 ⟨rfl, r1⟩
    have R1 := Lib.hid r1
    clear r1
    go_wp2
    go_ret
    exact ⟨rfl, OpR.pre XH.out R1.out⟩
  · have E := Lib.hid (show d.act ⟨kind, n, s, t, dir, vc, vm, cuts, marks⟩ = (d, 0) by simp [Dsk.act, h0, h1, h2, h3, h4, h5, h6, h7, h8, h9])
    have b0 : (kind == 0) = false := by simpa using h0
    have b1 : (kind == 1) = false := by simpa using h1
    have b2 : (kind == 2) = false := by simpa using h2
    have b3 : (kind == 3) = false := by simpa using h3
    have b4 : (kind == 4) = false := by simpa using h4
    have b5 : (kind == 5) = false := by simpa using h5
    have b6 : (kind == 6) = false := by simpa using h6
    have b7 : (kind == 7) = false := by simpa using h7
    have b8 : (kind == 8) = false := by simpa using h8
    have b9 : (kind == 9) = false := by simpa using h9
    clear h0 h1 h2 h3 h4 h5 h6 h7 h8 h9
    go_enter Tryz.func16, Tryz.ntmps16
    go_wp2
    go_ret
    rw [E.out]
    exact ⟨rfl, HR.out⟩
end Go.Proofs.YtmjkfgpkohfmiaaGreat
