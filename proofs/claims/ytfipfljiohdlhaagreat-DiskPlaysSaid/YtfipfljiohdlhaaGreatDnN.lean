/- The document's disk: Boot, the walk. -/
import Derived.Test.YtfipfljiohdlhaaGreatDnM
namespace Go.Proofs.YtfipfljiohdlhaaGreat
set_option linter.unusedVariables false
set_option linter.unusedSimpArgs false
open Go.RowKit
attribute [local go_sem] S_size S_toList S_append S_extract S_beq S_bne S_empty S_nil
variable {K : List Nat}
theorem choice_size (a b c : Value) : (Tryz.prog.info? 41).map (·.size) = some (#[a, b, c] : Array Value).size := by kernel_rfl
set_option maxRecDepth 20000 in
set_option maxHeartbeats 16000000 in
theorem rboot_any {w : World} {v : V4} {d : Dsk} (hK : ∀ k ∈ K, k < w.heap.size) (h : RefD K w v d) (ok : d.Ok) (hch : ∀ c ∈ d.chs, c.2.2 = none → c.1 = []) (hop : d.ops ≤ 1000000) (hfl : d.files.length ≤ 1000000) (kd : Int) {vc vm : Value} {cuts : List Int} {marks : List (List UInt8)} (hc : RR iC 1 w vc cuts) (hm : RR sC 1 w vm marks)
    (hcl : (cuts.length : Int) ≤ 9223372036854775807) (hml : (marks.length : Int) ≤ 9223372036854775807) (hmk : ∀ s ∈ marks, (s.length : Int) ≤ 1000000000) :
    Calls Tryz.prog 30 #[refV v d, .agg #[.int .i64 kd, vc, vm]] w fun x w' => ∃ v', x = .returned (refV v' (d.boot kd cuts marks)) ∧ RefD K w' v' (d.boot kd cuts marks) ∧ Ext w w' := by
  obtain ⟨aF, cF, aD, cD, aS, cS, aC, cC, rfl⟩ := h.open_
  obtain ⟨ac, cc, hvc⟩ := rr_sl hc
  obtain ⟨am, cm, hvm⟩ := rr_sl hm
  subst hvc
  subst hvm
  have H := Lib.hid h
  have LE := Lib.hid (fun (k : Nat) h1 h2 h3 => lfD_end (d := d) (k := k) (dir := kd) h1 h2 h3)
  have LN := Lib.hid (fun (k : Nat) c (h : d.chs[k]? = some c) => lfD_next h)
  have hsl := ok.safeL
  have hchl : (d.chs.length : Int) ≤ 1000000 := by omega
  have LL := Lib.hid (show ∀ k, ((lfD d k).length : Int) ≤ 1000000 from fun k => by have := lfD_len d k; omega)
  have HCC := Lib.hid (show ∀ c ∈ d.chs, (c.2.2 = none → c.1 = []) ∧ (∀ n, c.2.2 = some n → c.1 ≠ []) from fun c hm => ⟨hch c hm, fun n e => by have := (chk_len ((ok.chsN c hm).2.2 n e).1).1; intro e2; rw [e2] at this; simp at this⟩)
  have LM := Lib.hid (left_named ok kd)
  have L0 := Lib.hid (show lfD d 0 = d.safe from rfl)
  have OKB := Lib.hid ok.big
  have HBT := Lib.hid (show d.boot kd cuts marks = { d with files := fallAll cuts marks (d.left kd) 0 d.files, dir := d.left kd, safe := d.left kd, chs := [], dead := false, armed := 0 } from rfl)
  have HLL := Lib.hid (show ((d.left kd).length : Int) ≤ 1000000 by have := left_length ok kd; omega)
  obtain ⟨db, hdb⟩ : ∃ db, db = d.boot kd cuts marks := ⟨_, rfl⟩
  rw [← hdb] at HBT ⊢
  have HM := Lib.hid hm
  have HK := Lib.hid hK
  clear hK
  have HC := Lib.hid hc
  have HMK := Lib.hid hmk
  generalize hL : d.left kd = L at *
  generalize hlf : lfD d = lf at *
  clear h hc hm hch ok hdb hsl hmk hL hlf
  obtain ⟨files, dir, safe, chs, cap, ops, armed, dead⟩ := d
  dsimp only at *

  have X0 := Lib.hid ((((Ext.refl w).alloc (.cells #[.slice aF files.length cF, .slice aD dir.length cD, .slice aS safe.length cS, .slice aC chs.length cC, .int .i64 cap, .int .i64 ops, .int .i64 armed, .bool dead] 33)).alloc (.cells #[.int .i64 kd, .slice ac cuts.length cc, .slice am marks.length cm] 41)).alloc (.cells #[.slice none 0 0, .slice none 0 0, .slice none 0 0, .slice none 0 0, .int .i64 0, .int .i64 0, .int .i64 0, .bool false] 33))
  have BD := Lib.hid (((Blk.new w 33 #[.slice aF files.length cF, .slice aD dir.length cD, .slice aS safe.length cS, .slice aC chs.length cC, .int .i64 cap, .int .i64 ops, .int .i64 armed, .bool dead]).alloc (.cells #[.int .i64 kd, .slice ac cuts.length cc, .slice am marks.length cm] 41)).alloc (.cells #[.slice none 0 0, .slice none 0 0, .slice none 0 0, .slice none 0 0, .int .i64 0, .int .i64 0, .int .i64 0, .bool false] 33))
  have bc := (Blk.new (w.alloc (.cells #[.slice aF files.length cF, .slice aD dir.length cD, .slice aS safe.length cS, .slice aC chs.length cC, .int .i64 cap, .int .i64 ops, .int .i64 armed, .bool dead] 33)) 41 #[.int .i64 kd, .slice ac cuts.length cc, .slice am marks.length cm]).alloc (.cells #[.slice none 0 0, .slice none 0 0, .slice none 0 0, .slice none 0 0, .int .i64 0, .int .i64 0, .int .i64 0, .bool false] 33)
  have br := Blk.new ((w.alloc (.cells #[.slice aF files.length cF, .slice aD dir.length cD, .slice aS safe.length cS, .slice aC chs.length cC, .int .i64 cap, .int .i64 ops, .int .i64 armed, .bool dead] 33)).alloc (.cells #[.int .i64 kd, .slice ac cuts.length cc, .slice am marks.length cm] 41)) 33 #[.slice none 0 0, .slice none 0 0, .slice none 0 0, .slice none 0 0, .int .i64 0, .int .i64 0, .int .i64 0, .bool false]
  simp only [World.size_alloc] at bc br
  have BC := Lib.hid bc
  have BR := Lib.hid br
  clear bc br
  simp only [refV] at *
  go_enter Tryz.func30, Tryz.ntmps30
  go_wp2_with fail
  generalize ((w.alloc (.cells #[.slice aF files.length cF, .slice aD dir.length cD, .slice aS safe.length cS, .slice aC chs.length cC, .int .i64 cap, .int .i64 ops, .int .i64 armed, .bool dead] 33)).alloc (.cells #[.int .i64 kd, .slice ac cuts.length cc, .slice am marks.length cm] 41)).alloc (.cells #[.slice none 0 0, .slice none 0 0, .slice none 0 0, .slice none 0 0, .int .i64 0, .int .i64 0, .int .i64 0, .bool false] 33) = W at *
  go_loopw [6, 5] (fun i v5 wr => ∃ k : Nat, i = .int .i64 (k : Int) ∧ k ≤ chs.length ∧ (k : Int) ≤ max kd 0 ∧ RowKit.Hid (RK K eC 2 wr v5 (lf k) ∧ Ext W wr)) (fun i _ _ => chs.length - (intOf i).toNat)
  case atStart => exact ⟨0, rfl, Nat.zero_le _, by omega, Lib.hid ⟨by rw [L0.out]; exact H.out.safe.ext X0.out, Ext.refl _⟩⟩
  case round =>
    obtain ⟨k, rfl, hk, hkd, HS⟩ := hrel
    have c3 : wr.cell? ⟨w.heap.size, 3, none⟩ = some (.slice aC chs.length cC) := (BD.out.ext HS.out.2).cell 3
    have d0 : wr.cell? ⟨w.heap.size + 1, 0, none⟩ = some (.int .i64 kd) := (BC.out.ext HS.out.2).cell 0
    by_cases hlt : k < chs.length
    · have hI : (k : Int) < (chs.length : Int) := by omega
      by_cases hkk : (k : Int) < kd
      · obtain ⟨_, _, ec, _, _, hcx⟩ := H.out.chs.1
        injection ec with e1 e2 e3
        subst e1
        subst e3
        obtain ⟨g, o, haC, hcx'⟩ := hcx (by omega)
        obtain ⟨c, hck⟩ : ∃ c, chs[k]? = some c := ⟨_, List.getElem?_eq_getElem hlt⟩
        have RA := Lib.hid (rangeAt_ext (hcx' k c hck) (X0.out.trans HS.out.2))
        rw [haC] at c3
        have ZA := Lib.hid (show (Tryz.prog.info? 100).map (·.size) = some (rC c).length from rc_size)
        have hcc := HCC.out c (List.mem_of_getElem? hck)
        have QC := Lib.hid (rchanged_any (fun k hk => Nat.lt_of_lt_of_le (HK.out k hk) (X0.out.trans HS.out.2).size) HS.out.1 (LL.out k) c hcc.1 hcc.2)
        have LNk := Lib.hid (LN.out k c hck)
        have HKM := Lib.hid (And.intro hlt hkk)
        obtain ⟨a5, c5, h5⟩ := rr_sl HS.out.1.1
        clear hcx hcx' haC hck hlt hk hcc
        subst h5
        go_wp2_with (refine wpList_load_mid rfl 100 (.tmp 31) rfl g _ rfl _ _ RA.out Tryz.underlying100 rfl ZA.out ?_; refine Held.go ?_)
        refine ⟨?_⟩
        go_wp2_with fail
        refine QC.out.mono ?_
        rintro _ w2 ⟨v2, rfl, r2, x2⟩
        have I2 := Lib.hid (show RK K eC 2 w2 v2 (lf (k + 1)) ∧ Ext W w2 from ⟨by rw [LNk.out]; exact r2, HS.out.2.trans x2⟩)
        clear r2 x2
        go_wp2_with fail
        go_roundw
        case rel => exact ⟨k + 1, by go_num, by have := HKM.out; omega, by have := HKM.out; omega, I2⟩
        case measure => simp [intOf]; have := HKM.out; omega
      · have HE := Lib.hid (LE.out k hk hkd (fun h => hkk h.2))
        clear hk hkd hlt
        have i1 := HS.out.1
        rw [HE.out] at i1
        have I1 := Lib.hid (And.intro i1 HS.out.2)
        clear i1
        obtain ⟨a5, c5, h5⟩ := rr_sl I1.out.1.1
        subst h5
        have J0 := Lib.hid (show RBoot K w (.slice a5 L.length c5) L ⟨files, dir, safe, chs, cap, ops, armed, dead⟩ cuts marks kd (.slice ac cuts.length cc) (.slice am marks.length cm) ⟨.slice aF files.length cF, .slice aD dir.length cD, .slice aS safe.length cS, .slice aC chs.length cC⟩ 0 0 files wr from ⟨X0.out.trans I1.out.2, H.out.ext (X0.out.trans I1.out.2), BD.out.ext I1.out.2, BC.out.ext I1.out.2, BR.out.ext I1.out.2, I1.out.1, rfl, rfl, Nat.le_refl _, OKB.out⟩)
        clear HS HE BD BC BR I1 X0 H LE LN LL HCC L0
        have hLL := HLL.out
        go_wp2_with fail
        clear c3 d0
        go_loopw [8, 7] (fun i j wq => ∃ (m n : Nat) (v : V4) (fs : List (List UInt8 × List UInt8)), i = .int .i64 (m : Int) ∧ j = .int .i64 (n : Int) ∧ m ≤ L.length ∧ RowKit.Hid (RBoot K w (.slice a5 L.length c5) L ⟨files, dir, safe, chs, cap, ops, armed, dead⟩ cuts marks kd (.slice ac cuts.length cc) (.slice am marks.length cm) v m n fs wq)) (fun i _ _ => L.length - (intOf i).toNat)
        case atStart => exact ⟨0, 0, _, _, rfl, rfl, Nat.zero_le _, J0⟩
        case round =>
          obtain ⟨m, n, v, fs, rfl, rfl, hm, J⟩ := hrel
          clear J0
          obtain ⟨bF, eF, bD, eD, bS, eS, bC, eC', hv⟩ := J.out.ref.open_
          dsimp only at hv
          subst hv
          by_cases hlt : m < L.length
          · have hI : (m : Int) < (L.length : Int) := by omega
            obtain ⟨x, hx⟩ : ∃ x, L[m]? = some x := ⟨_, List.getElem?_eq_getElem hlt⟩
            have hxn : x.2 < files.length := (LM.out x (List.mem_of_getElem? hx)).2
            obtain ⟨_, _, el, _, _, hlx⟩ := J.out.dirs.1
            injection el with e1 e2 e3
            subst e1
            subst e3
            obtain ⟨g5, o5, rfl, hlx'⟩ := hlx (by omega)
            have RX : wr.cell? ⟨g5, o5 + m * 2 + 1, none⟩ = some (.int .i64 (x.2 : Int)) := hlx' m x hx 1 _ rfl
            have hfn : x.2 < fs.length := by rw [J.out.len]; exact hxn
            obtain ⟨_, _, ef, _, _, hfx⟩ := J.out.ref.fs.1
            injection ef with e1 e2 e3
            subst e1
            subst e3
            obtain ⟨gf, of_, hbF, hfx'⟩ := hfx (by show 0 < fs.length; omega)
            have hfa : fs[x.2]? = some (fs.getD x.2 ([], [])) := by rw [List.getD_eq_getElem?_getD, List.getElem?_eq_getElem hfn]; rfl
            have RF := Lib.hid (rangeAt_drew (hfx' x.2 _ hfa))
            have hbig := J.out.big _ (List.mem_of_getElem? hfa)
            have c0 : wr.cell? ⟨w.heap.size, 0, none⟩ = some (.slice bF fs.length eF) := J.out.bd.cell 0
            rw [hbF] at c0
            have u0 := up_cell (W := wr.drew) c0
            have uX := up_cell (W := wr.drew) RX
            have hxi : (x.2 : Int) < (fs.length : Int) := by omega
            have HXK := Lib.hid hx
            have HFN := Lib.hid hfn
            have HRX := Lib.hid RX
            have HKM := Lib.hid hlt
            obtain ⟨⟨fa, fc⟩, hff⟩ : ∃ f, f = fs.getD x.2 ([], []) := ⟨_, rfl⟩
            rw [← hff] at RF hbig
            have HFF := Lib.hid hff.symm
            clear hlx hlx' hfx hfx' hbF hx hxn hlt hff c0 RX hfn hfa
            obtain ⟨xs, xn⟩ := x
            dsimp only at *
            go_wp2_with fail
            refine wp_region_lex _ rfl (by kernel_rfl) ?_
            dsimp only [List.length_cons, List.length_nil]
            iterate 8
              (refine lex_want (by kernel_rfl) (by kernel_rfl) (by kernel_rfl) (by kernel_rfl) (fun _ _ _ _ h => h) (by kernel_rfl) (fun K hK => ?_)
               go_simp
               (refine hK _ ?_; clear hK K))
            refine lex_load_range (by kernel_rfl) (by kernel_rfl) (by kernel_rfl) (by kernel_rfl) (fun _ _ _ _ h => h) (by kernel_rfl) 95 (.tmp 47) rfl rfl RF.out Tryz.underlying95 rfl rfile_size ?_
            refine lex_only (by kernel_rfl) (by kernel_rfl) (fun xu K hK => ?_)
            go_simp
            refine hK.out _ _ ((Ext.refl _).alloc _) ?_
            clear hK K
            refine lex_last (by kernel_rfl) (by kernel_rfl) (by kernel_rfl) (by kernel_rfl) (by kernel_rfl) (fun xv K hK => ?_)
            have bz := (Blk.new xu.val 95 #[.string (S []), .string (S [])]).ext xv.ext
            refine wp_store_blk 95 (.tmp 9) (.tmp 48) rfl rfl rfl bz rfl rfile_size (fC_all (fa, fc)) (hK _ _ (fun y => ?_))
            try dsimp only [Act.put]
            try simp only [List.setIfInBounds_toArray, List.set_cons_succ, List.set_cons_zero]
            have BFi := Lib.hid ((bz.setRow (fC (fa, fc)).toArray).ext y.ext)
            have hM := Lib.hid (show wr.heap.size ≤ xu.val.heap.size from xu.ext.le)
            have y7 : Ext wr y.val := Ext.trans (Ext.setRow (((Ext.trans (Ext.refl wr).drew xu.ext).alloc _).trans xv.ext) hM.out (fC (fa, fc)).toArray) y.ext
            have J7 := Lib.hid (J.out.to y7)
            have RX7 := Lib.hid (Go.cell_later y7 HRX.out)
            have hgm := Lib.hid (Nat.lt_of_lt_of_le J.out.br.lt hM.out)
            clear hK K bz y7 u0 uX RF J HRX hM
            generalize y.val = w7 at *
            generalize xu.val.heap.size = gm at *
            clear y xv xu
            have e0 : w7.cell? ⟨gm, 0, none⟩ = some (.string (S fa)) := BFi.out.cell 0
            have e1 : w7.cell? ⟨gm, 1, none⟩ = some (.string (S fc)) := BFi.out.cell 1
            by_cases hac : fa = fc
            · subst hac
              have J8 := Lib.hid (J7.out.firm HXK.out HFF.out)
              have hb : (fa == fa) = true := by simp
              go_wp2_with fail
              go_roundw
              case rel => exact ⟨m + 1, n, _, fs, by go_num, rfl, by have := HKM.out; omega, J8⟩
              case measure => simp [intOf]; have := HKM.out; omega
            · have hb : (fa == fc) = false := by simpa using hac
              have HAC := Lib.hid hac
              have e6 : w7.cell? ⟨w.heap.size + 1, 1, none⟩ = some (.slice ac cuts.length cc) := J7.out.bc.cell 1
              have e7 : w7.cell? ⟨w.heap.size + 1, 2, none⟩ = some (.slice am marks.length cm) := J7.out.bc.cell 2
              have hnm := Lib.hid J7.out.hj
              have HCW := Lib.hid (HC.out.ext J7.out.ext)
              have HMW := Lib.hid (HM.out.ext J7.out.ext)
              by_cases hcn : n < cuts.length
              · obtain ⟨cv, hcv⟩ : ∃ cv, cuts[n]? = some cv := ⟨_, List.getElem?_eq_getElem hcn⟩
                obtain ⟨_, _, e', hsc⟩ := HCW.out.one
                injection e' with e'1 _ e'3
                subst e'1
                subst e'3
                obtain ⟨gc, oc, hac', hsc'⟩ := hsc (by omega)
                have u1 := hsc' n cv hcv _ rfl
                rw [hac'] at e6
                have CV := Lib.hid (show cuts.getD n 0 = cv by rw [List.getD_eq_getElem?_getD, hcv]; rfl)
                have hni : (n : Int) < (cuts.length : Int) := by omega
                clear hsc hsc' hac' hcv hcn
                by_cases hmn : n < marks.length
                · obtain ⟨mk, hmv⟩ : ∃ mk, marks[n]? = some mk := ⟨_, List.getElem?_eq_getElem hmn⟩
                  obtain ⟨_, _, e', hsm⟩ := HMW.out.one
                  injection e' with e'1 _ e'3
                  subst e'1
                  subst e'3
                  obtain ⟨gk, ok, ham, hsm'⟩ := hsm (by omega)
                  have u2 := hsm' n mk hmv _ rfl
                  rw [ham] at e7
                  have MV := Lib.hid (show marks.getD n [] = mk by rw [List.getD_eq_getElem?_getD, hmv]; rfl)
                  have hmi : (n : Int) < (marks.length : Int) := by omega
                  have hml2 := HMK.out mk (List.mem_of_getElem? hmv)
                  clear hsm hsm' ham hmv hmn
                  have QF := Lib.hid (show ∀ W, Calls Tryz.prog 70 #[.agg (fC (fa, fc)).toArray, .int .i64 cv, .string (S mk)] W (fun e w' => e = .returned (.agg #[.string (S (leftL fa fc cv mk)), .string (S (leftL fa fc cv mk))]) ∧ Ext W w') from fun W => rfall_any fa fc cv mk W (by omega) (by omega) hml2)
                  obtain ⟨r, hr⟩ : ∃ r, r = leftL fa fc cv mk := ⟨_, rfl⟩
                  rw [← hr] at QF
                  have HR := Lib.hid hr
                  clear hr
                  have QP := Lib.hid (fun W (x : Ext w7 W) => rput_any (fun k hk => Nat.lt_of_lt_of_le (HK.out k hk) (J7.out.ext.trans x).size) (J7.out.ref.ext x) xn HFN.out (by show fs.length ≤ _; have := J7.out.len; dsimp only at this; omega) (r, r))
                  simp only [refV, Dsk.put] at QP
                  have u4 := up_cell (W := w7.drew) RX7.out
                  have DS7 := Lib.hid (show (Tryz.prog.info? 33).map (·.size) = some (#[.slice bF fs.length eF, .slice bD dir.length eD, .slice bS safe.length eS, .slice bC chs.length eC', .int .i64 cap, .int .i64 ops, .int .i64 armed, .bool dead] : Array Value).size from rdisk_size)
                  have BD7 := Lib.hid J7.out.bd.drew
                  have BF7 := Lib.hid BFi.out.drew
                  go_wp2_with fail
                  refine wp_region_lex _ rfl (by kernel_rfl) ?_
                  dsimp only [List.length_cons, List.length_nil]
                  refine lex_load_blk (by kernel_rfl) (by kernel_rfl) (by kernel_rfl) (by kernel_rfl) (fun _ _ _ _ h => h) (by kernel_rfl) 33 (.tmp 2) rfl rfl BD7.out Tryz.underlying33 rfl DS7.out ?_
                  iterate 5
                    (refine lex_want (by kernel_rfl) (by kernel_rfl) (by kernel_rfl) (by kernel_rfl) (fun _ _ _ _ h => h) (by kernel_rfl) (fun K hK => ?_)
                     go_simp
                     (refine hK _ ?_; clear hK K))
                  refine lex_load_blk (by kernel_rfl) (by kernel_rfl) (by kernel_rfl) (by kernel_rfl) (fun _ _ _ _ h => h) (by kernel_rfl) 95 (.tmp 9) rfl rfl BF7.out Tryz.underlying95 rfl rfile_size ?_
                  try dsimp only [Act.put]
                  try simp only [List.setIfInBounds_toArray, List.set_cons_succ, List.set_cons_zero]
                  iterate 2
                    (refine lex_want (by kernel_rfl) (by kernel_rfl) (by kernel_rfl) (by kernel_rfl) (fun _ _ _ _ h => h) (by kernel_rfl) (fun K hK => ?_)
                     go_simp
                     (refine hK _ ?_; clear hK K))
                  (refine lex_want (by kernel_rfl) (by kernel_rfl) (by kernel_rfl) (by kernel_rfl) (fun _ _ _ _ h => h) (by kernel_rfl) (fun K hK => ?_)
                   go_simp
                   apply Exists.intro
                   refine ⟨fun _ => ?_, hK _ ?_⟩
                   (go_at_call 70; (with_reducible exact QF.out _))
                   clear hK K)
                  refine lex_only (by kernel_rfl) (by kernel_rfl) (fun x K hK => ?_)
                  go_simp
                  refine (QP.out _ ((Ext.refl w7).drew.trans x.ext)).mono ?_
                  rintro _ w9 ⟨v9, rfl, r9, x9⟩
                  refine hK.out _ _ x9 ?_
                  have y9 := Ext.trans (Ext.trans (Ext.refl w7).drew x.ext) x9
                  have R9 := Lib.hid r9
                  obtain ⟨a1x, c1x, a2x, c2x, a3x, c3x, a4x, c4x, hv9⟩ := r9.open_
                  dsimp only at hv9
                  subst hv9
                  dsimp only
                  have Y9 := Lib.hid y9
                  clear hK K x9 r9 y9 x
                  refine lex_last (by kernel_rfl) (by kernel_rfl) (by kernel_rfl) (by kernel_rfl) (by kernel_rfl) (fun xv K hK => ?_)
                  have J9 := Lib.hid (J7.out.to (Y9.out.trans xv.ext))
                  have DO9 := disk_all _ _ _ _ (sl_ex a1x (fs.set xn (r, r)).length c1x) (sl_ex a2x dir.length c2x) (sl_ex a3x safe.length c3x) (sl_ex a4x chs.length c4x) cap ops armed dead
                  refine wp_store_blk 33 (.tmp 2) (.tmp 84) rfl rfl rfl J9.out.bd rfl rdisk_size DO9 (hK _ _ (fun y => ?_))
                  try dsimp only [Act.put]
                  try simp only [List.setIfInBounds_toArray, List.set_cons_succ, List.set_cons_zero]
                  have hrr : r = leftL fa fc (cuts.getD n 0) (marks.getD n []) := by rw [CV.out, MV.out]; exact HR.out
                  have R9x := R9.out.ext xv.ext
                  have J10 := Lib.hid (J7.out.fell HXK.out HFF.out HAC.out hrr (Y9.out.trans xv.ext) R9x y.ext)
                  clear hK K
                  generalize y.val = w10 at *
                  have hnb : (n : Int) ≤ 1000000 := by have := hnm.out; have := HKM.out; have := HLL.out; omega
                  go_wp2_with fail
                  go_roundw
                  case rel => exact ⟨m + 1, n + 1, _, _, by go_num, by go_num, by have := HKM.out; omega, J10⟩
                  case measure => simp [intOf]; have := HKM.out; omega
                · obtain ⟨mk, hmv⟩ : ∃ mk : List UInt8, mk = [] := ⟨_, rfl⟩
                  have MV := Lib.hid (show marks.getD n [] = mk by rw [List.getD_eq_getElem?_getD, List.getElem?_eq_none (by omega), hmv]; rfl)
                  have hmi : (marks.length : Int) ≤ (n : Int) := by omega
                  have hml2 : (mk.length : Int) ≤ 1000000000 := by rw [hmv]; simp
                  subst hmv
                  clear hmn
                  have QF := Lib.hid (show ∀ W, Calls Tryz.prog 70 #[.agg (fC (fa, fc)).toArray, .int .i64 cv, .string (S ([] : List UInt8))] W (fun e w' => e = .returned (.agg #[.string (S (leftL fa fc cv ([] : List UInt8))), .string (S (leftL fa fc cv ([] : List UInt8)))]) ∧ Ext W w') from fun W => rfall_any fa fc cv ([] : List UInt8) W (by omega) (by omega) hml2)
                  obtain ⟨r, hr⟩ : ∃ r, r = leftL fa fc cv ([] : List UInt8) := ⟨_, rfl⟩
                  rw [← hr] at QF
                  have HR := Lib.hid hr
                  clear hr
                  have QP := Lib.hid (fun W (x : Ext w7 W) => rput_any (fun k hk => Nat.lt_of_lt_of_le (HK.out k hk) (J7.out.ext.trans x).size) (J7.out.ref.ext x) xn HFN.out (by show fs.length ≤ _; have := J7.out.len; dsimp only at this; omega) (r, r))
                  simp only [refV, Dsk.put] at QP
                  have u4 := up_cell (W := w7.drew) RX7.out
                  have DS7 := Lib.hid (show (Tryz.prog.info? 33).map (·.size) = some (#[.slice bF fs.length eF, .slice bD dir.length eD, .slice bS safe.length eS, .slice bC chs.length eC', .int .i64 cap, .int .i64 ops, .int .i64 armed, .bool dead] : Array Value).size from rdisk_size)
                  have BD7 := Lib.hid J7.out.bd.drew
                  have BF7 := Lib.hid BFi.out.drew
                  go_wp2_with fail
                  refine wp_region_lex _ rfl (by kernel_rfl) ?_
                  dsimp only [List.length_cons, List.length_nil]
                  refine lex_load_blk (by kernel_rfl) (by kernel_rfl) (by kernel_rfl) (by kernel_rfl) (fun _ _ _ _ h => h) (by kernel_rfl) 33 (.tmp 2) rfl rfl BD7.out Tryz.underlying33 rfl DS7.out ?_
                  iterate 5
                    (refine lex_want (by kernel_rfl) (by kernel_rfl) (by kernel_rfl) (by kernel_rfl) (fun _ _ _ _ h => h) (by kernel_rfl) (fun K hK => ?_)
                     go_simp
                     (refine hK _ ?_; clear hK K))
                  refine lex_load_blk (by kernel_rfl) (by kernel_rfl) (by kernel_rfl) (by kernel_rfl) (fun _ _ _ _ h => h) (by kernel_rfl) 95 (.tmp 9) rfl rfl BF7.out Tryz.underlying95 rfl rfile_size ?_
                  try dsimp only [Act.put]
                  try simp only [List.setIfInBounds_toArray, List.set_cons_succ, List.set_cons_zero]
                  iterate 2
                    (refine lex_want (by kernel_rfl) (by kernel_rfl) (by kernel_rfl) (by kernel_rfl) (fun _ _ _ _ h => h) (by kernel_rfl) (fun K hK => ?_)
                     go_simp
                     (refine hK _ ?_; clear hK K))
                  (refine lex_want (by kernel_rfl) (by kernel_rfl) (by kernel_rfl) (by kernel_rfl) (fun _ _ _ _ h => h) (by kernel_rfl) (fun K hK => ?_)
                   go_simp
                   apply Exists.intro
                   refine ⟨fun _ => ?_, hK _ ?_⟩
                   (go_at_call 70; (with_reducible exact QF.out _))
                   clear hK K)
                  refine lex_only (by kernel_rfl) (by kernel_rfl) (fun x K hK => ?_)
                  go_simp
                  refine (QP.out _ ((Ext.refl w7).drew.trans x.ext)).mono ?_
                  rintro _ w9 ⟨v9, rfl, r9, x9⟩
                  refine hK.out _ _ x9 ?_
                  have y9 := Ext.trans (Ext.trans (Ext.refl w7).drew x.ext) x9
                  have R9 := Lib.hid r9
                  obtain ⟨a1x, c1x, a2x, c2x, a3x, c3x, a4x, c4x, hv9⟩ := r9.open_
                  dsimp only at hv9
                  subst hv9
                  dsimp only
                  have Y9 := Lib.hid y9
                  clear hK K x9 r9 y9 x
                  refine lex_last (by kernel_rfl) (by kernel_rfl) (by kernel_rfl) (by kernel_rfl) (by kernel_rfl) (fun xv K hK => ?_)
                  have J9 := Lib.hid (J7.out.to (Y9.out.trans xv.ext))
                  have DO9 := disk_all _ _ _ _ (sl_ex a1x (fs.set xn (r, r)).length c1x) (sl_ex a2x dir.length c2x) (sl_ex a3x safe.length c3x) (sl_ex a4x chs.length c4x) cap ops armed dead
                  refine wp_store_blk 33 (.tmp 2) (.tmp 84) rfl rfl rfl J9.out.bd rfl rdisk_size DO9 (hK _ _ (fun y => ?_))
                  try dsimp only [Act.put]
                  try simp only [List.setIfInBounds_toArray, List.set_cons_succ, List.set_cons_zero]
                  have hrr : r = leftL fa fc (cuts.getD n 0) (marks.getD n []) := by rw [CV.out, MV.out]; exact HR.out
                  have R9x := R9.out.ext xv.ext
                  have J10 := Lib.hid (J7.out.fell HXK.out HFF.out HAC.out hrr (Y9.out.trans xv.ext) R9x y.ext)
                  clear hK K
                  generalize y.val = w10 at *
                  have hnb : (n : Int) ≤ 1000000 := by have := hnm.out; have := HKM.out; have := HLL.out; omega
                  go_wp2_with fail
                  go_roundw
                  case rel => exact ⟨m + 1, n + 1, _, _, by go_num, by go_num, by have := HKM.out; omega, J10⟩
                  case measure => simp [intOf]; have := HKM.out; omega
              · obtain ⟨cv, hcv⟩ : ∃ cv : Int, cv = 0 := ⟨_, rfl⟩
                have CV := Lib.hid (show cuts.getD n 0 = cv by rw [List.getD_eq_getElem?_getD, List.getElem?_eq_none (by omega), hcv]; rfl)
                have hni : (cuts.length : Int) ≤ (n : Int) := by omega
                subst hcv
                clear hcn
                by_cases hmn : n < marks.length
                · obtain ⟨mk, hmv⟩ : ∃ mk, marks[n]? = some mk := ⟨_, List.getElem?_eq_getElem hmn⟩
                  obtain ⟨_, _, e', hsm⟩ := HMW.out.one
                  injection e' with e'1 _ e'3
                  subst e'1
                  subst e'3
                  obtain ⟨gk, ok, ham, hsm'⟩ := hsm (by omega)
                  have u2 := hsm' n mk hmv _ rfl
                  rw [ham] at e7
                  have MV := Lib.hid (show marks.getD n [] = mk by rw [List.getD_eq_getElem?_getD, hmv]; rfl)
                  have hmi : (n : Int) < (marks.length : Int) := by omega
                  have hml2 := HMK.out mk (List.mem_of_getElem? hmv)
                  clear hsm hsm' ham hmv hmn
                  have QF := Lib.hid (show ∀ W, Calls Tryz.prog 70 #[.agg (fC (fa, fc)).toArray, .int .i64 (0 : Int), .string (S mk)] W (fun e w' => e = .returned (.agg #[.string (S (leftL fa fc (0 : Int) mk)), .string (S (leftL fa fc (0 : Int) mk))]) ∧ Ext W w') from fun W => rfall_any fa fc (0 : Int) mk W (by omega) (by omega) hml2)
                  obtain ⟨r, hr⟩ : ∃ r, r = leftL fa fc (0 : Int) mk := ⟨_, rfl⟩
                  rw [← hr] at QF
                  have HR := Lib.hid hr
                  clear hr
                  have QP := Lib.hid (fun W (x : Ext w7 W) => rput_any (fun k hk => Nat.lt_of_lt_of_le (HK.out k hk) (J7.out.ext.trans x).size) (J7.out.ref.ext x) xn HFN.out (by show fs.length ≤ _; have := J7.out.len; dsimp only at this; omega) (r, r))
                  simp only [refV, Dsk.put] at QP
                  have u4 := up_cell (W := w7.drew) RX7.out
                  have DS7 := Lib.hid (show (Tryz.prog.info? 33).map (·.size) = some (#[.slice bF fs.length eF, .slice bD dir.length eD, .slice bS safe.length eS, .slice bC chs.length eC', .int .i64 cap, .int .i64 ops, .int .i64 armed, .bool dead] : Array Value).size from rdisk_size)
                  have BD7 := Lib.hid J7.out.bd.drew
                  have BF7 := Lib.hid BFi.out.drew
                  go_wp2_with fail
                  refine wp_region_lex _ rfl (by kernel_rfl) ?_
                  dsimp only [List.length_cons, List.length_nil]
                  refine lex_load_blk (by kernel_rfl) (by kernel_rfl) (by kernel_rfl) (by kernel_rfl) (fun _ _ _ _ h => h) (by kernel_rfl) 33 (.tmp 2) rfl rfl BD7.out Tryz.underlying33 rfl DS7.out ?_
                  iterate 5
                    (refine lex_want (by kernel_rfl) (by kernel_rfl) (by kernel_rfl) (by kernel_rfl) (fun _ _ _ _ h => h) (by kernel_rfl) (fun K hK => ?_)
                     go_simp
                     (refine hK _ ?_; clear hK K))
                  refine lex_load_blk (by kernel_rfl) (by kernel_rfl) (by kernel_rfl) (by kernel_rfl) (fun _ _ _ _ h => h) (by kernel_rfl) 95 (.tmp 9) rfl rfl BF7.out Tryz.underlying95 rfl rfile_size ?_
                  try dsimp only [Act.put]
                  try simp only [List.setIfInBounds_toArray, List.set_cons_succ, List.set_cons_zero]
                  iterate 2
                    (refine lex_want (by kernel_rfl) (by kernel_rfl) (by kernel_rfl) (by kernel_rfl) (fun _ _ _ _ h => h) (by kernel_rfl) (fun K hK => ?_)
                     go_simp
                     (refine hK _ ?_; clear hK K))
                  (refine lex_want (by kernel_rfl) (by kernel_rfl) (by kernel_rfl) (by kernel_rfl) (fun _ _ _ _ h => h) (by kernel_rfl) (fun K hK => ?_)
                   go_simp
                   apply Exists.intro
                   refine ⟨fun _ => ?_, hK _ ?_⟩
                   (go_at_call 70; (with_reducible exact QF.out _))
                   clear hK K)
                  refine lex_only (by kernel_rfl) (by kernel_rfl) (fun x K hK => ?_)
                  go_simp
                  refine (QP.out _ ((Ext.refl w7).drew.trans x.ext)).mono ?_
                  rintro _ w9 ⟨v9, rfl, r9, x9⟩
                  refine hK.out _ _ x9 ?_
                  have y9 := Ext.trans (Ext.trans (Ext.refl w7).drew x.ext) x9
                  have R9 := Lib.hid r9
                  obtain ⟨a1x, c1x, a2x, c2x, a3x, c3x, a4x, c4x, hv9⟩ := r9.open_
                  dsimp only at hv9
                  subst hv9
                  dsimp only
                  have Y9 := Lib.hid y9
                  clear hK K x9 r9 y9 x
                  refine lex_last (by kernel_rfl) (by kernel_rfl) (by kernel_rfl) (by kernel_rfl) (by kernel_rfl) (fun xv K hK => ?_)
                  have J9 := Lib.hid (J7.out.to (Y9.out.trans xv.ext))
                  have DO9 := disk_all _ _ _ _ (sl_ex a1x (fs.set xn (r, r)).length c1x) (sl_ex a2x dir.length c2x) (sl_ex a3x safe.length c3x) (sl_ex a4x chs.length c4x) cap ops armed dead
                  refine wp_store_blk 33 (.tmp 2) (.tmp 84) rfl rfl rfl J9.out.bd rfl rdisk_size DO9 (hK _ _ (fun y => ?_))
                  try dsimp only [Act.put]
                  try simp only [List.setIfInBounds_toArray, List.set_cons_succ, List.set_cons_zero]
                  have hrr : r = leftL fa fc (cuts.getD n 0) (marks.getD n []) := by rw [CV.out, MV.out]; exact HR.out
                  have R9x := R9.out.ext xv.ext
                  have J10 := Lib.hid (J7.out.fell HXK.out HFF.out HAC.out hrr (Y9.out.trans xv.ext) R9x y.ext)
                  clear hK K
                  generalize y.val = w10 at *
                  have hnb : (n : Int) ≤ 1000000 := by have := hnm.out; have := HKM.out; have := HLL.out; omega
                  go_wp2_with fail
                  go_roundw
                  case rel => exact ⟨m + 1, n + 1, _, _, by go_num, by go_num, by have := HKM.out; omega, J10⟩
                  case measure => simp [intOf]; have := HKM.out; omega
                · obtain ⟨mk, hmv⟩ : ∃ mk : List UInt8, mk = [] := ⟨_, rfl⟩
                  have MV := Lib.hid (show marks.getD n [] = mk by rw [List.getD_eq_getElem?_getD, List.getElem?_eq_none (by omega), hmv]; rfl)
                  have hmi : (marks.length : Int) ≤ (n : Int) := by omega
                  have hml2 : (mk.length : Int) ≤ 1000000000 := by rw [hmv]; simp
                  subst hmv
                  clear hmn
                  have QF := Lib.hid (show ∀ W, Calls Tryz.prog 70 #[.agg (fC (fa, fc)).toArray, .int .i64 (0 : Int), .string (S ([] : List UInt8))] W (fun e w' => e = .returned (.agg #[.string (S (leftL fa fc (0 : Int) ([] : List UInt8))), .string (S (leftL fa fc (0 : Int) ([] : List UInt8)))]) ∧ Ext W w') from fun W => rfall_any fa fc (0 : Int) ([] : List UInt8) W (by omega) (by omega) hml2)
                  obtain ⟨r, hr⟩ : ∃ r, r = leftL fa fc (0 : Int) ([] : List UInt8) := ⟨_, rfl⟩
                  rw [← hr] at QF
                  have HR := Lib.hid hr
                  clear hr
                  have QP := Lib.hid (fun W (x : Ext w7 W) => rput_any (fun k hk => Nat.lt_of_lt_of_le (HK.out k hk) (J7.out.ext.trans x).size) (J7.out.ref.ext x) xn HFN.out (by show fs.length ≤ _; have := J7.out.len; dsimp only at this; omega) (r, r))
                  simp only [refV, Dsk.put] at QP
                  have u4 := up_cell (W := w7.drew) RX7.out
                  have DS7 := Lib.hid (show (Tryz.prog.info? 33).map (·.size) = some (#[.slice bF fs.length eF, .slice bD dir.length eD, .slice bS safe.length eS, .slice bC chs.length eC', .int .i64 cap, .int .i64 ops, .int .i64 armed, .bool dead] : Array Value).size from rdisk_size)
                  have BD7 := Lib.hid J7.out.bd.drew
                  have BF7 := Lib.hid BFi.out.drew
                  go_wp2_with fail
                  refine wp_region_lex _ rfl (by kernel_rfl) ?_
                  dsimp only [List.length_cons, List.length_nil]
                  refine lex_load_blk (by kernel_rfl) (by kernel_rfl) (by kernel_rfl) (by kernel_rfl) (fun _ _ _ _ h => h) (by kernel_rfl) 33 (.tmp 2) rfl rfl BD7.out Tryz.underlying33 rfl DS7.out ?_
                  iterate 5
                    (refine lex_want (by kernel_rfl) (by kernel_rfl) (by kernel_rfl) (by kernel_rfl) (fun _ _ _ _ h => h) (by kernel_rfl) (fun K hK => ?_)
                     go_simp
                     (refine hK _ ?_; clear hK K))
                  refine lex_load_blk (by kernel_rfl) (by kernel_rfl) (by kernel_rfl) (by kernel_rfl) (fun _ _ _ _ h => h) (by kernel_rfl) 95 (.tmp 9) rfl rfl BF7.out Tryz.underlying95 rfl rfile_size ?_
                  try dsimp only [Act.put]
                  try simp only [List.setIfInBounds_toArray, List.set_cons_succ, List.set_cons_zero]
                  iterate 2
                    (refine lex_want (by kernel_rfl) (by kernel_rfl) (by kernel_rfl) (by kernel_rfl) (fun _ _ _ _ h => h) (by kernel_rfl) (fun K hK => ?_)
                     go_simp
                     (refine hK _ ?_; clear hK K))
                  (refine lex_want (by kernel_rfl) (by kernel_rfl) (by kernel_rfl) (by kernel_rfl) (fun _ _ _ _ h => h) (by kernel_rfl) (fun K hK => ?_)
                   go_simp
                   apply Exists.intro
                   refine ⟨fun _ => ?_, hK _ ?_⟩
                   (go_at_call 70; (with_reducible exact QF.out _))
                   clear hK K)
                  refine lex_only (by kernel_rfl) (by kernel_rfl) (fun x K hK => ?_)
                  go_simp
                  refine (QP.out _ ((Ext.refl w7).drew.trans x.ext)).mono ?_
                  rintro _ w9 ⟨v9, rfl, r9, x9⟩
                  refine hK.out _ _ x9 ?_
                  have y9 := Ext.trans (Ext.trans (Ext.refl w7).drew x.ext) x9
                  have R9 := Lib.hid r9
                  obtain ⟨a1x, c1x, a2x, c2x, a3x, c3x, a4x, c4x, hv9⟩ := r9.open_
                  dsimp only at hv9
                  subst hv9
                  dsimp only
                  have Y9 := Lib.hid y9
                  clear hK K x9 r9 y9 x
                  refine lex_last (by kernel_rfl) (by kernel_rfl) (by kernel_rfl) (by kernel_rfl) (by kernel_rfl) (fun xv K hK => ?_)
                  have J9 := Lib.hid (J7.out.to (Y9.out.trans xv.ext))
                  have DO9 := disk_all _ _ _ _ (sl_ex a1x (fs.set xn (r, r)).length c1x) (sl_ex a2x dir.length c2x) (sl_ex a3x safe.length c3x) (sl_ex a4x chs.length c4x) cap ops armed dead
                  refine wp_store_blk 33 (.tmp 2) (.tmp 84) rfl rfl rfl J9.out.bd rfl rdisk_size DO9 (hK _ _ (fun y => ?_))
                  try dsimp only [Act.put]
                  try simp only [List.setIfInBounds_toArray, List.set_cons_succ, List.set_cons_zero]
                  have hrr : r = leftL fa fc (cuts.getD n 0) (marks.getD n []) := by rw [CV.out, MV.out]; exact HR.out
                  have R9x := R9.out.ext xv.ext
                  have J10 := Lib.hid (J7.out.fell HXK.out HFF.out HAC.out hrr (Y9.out.trans xv.ext) R9x y.ext)
                  clear hK K
                  generalize y.val = w10 at *
                  have hnb : (n : Int) ≤ 1000000 := by have := hnm.out; have := HKM.out; have := HLL.out; omega
                  go_wp2_with fail
                  go_roundw
                  case rel => exact ⟨m + 1, n + 1, _, _, by go_num, by go_num, by have := HKM.out; omega, J10⟩
                  case measure => simp [intOf]; have := HKM.out; omega
          · obtain rfl : m = L.length := by omega
            have FA := Lib.hid (show fallAll cuts marks L 0 files = fs from by rw [J.out.fall, List.drop_length]; rfl)
            have HB := Lib.hid HBT.out
            clear hm
            have X5 := Lib.hid J.out.ext
            have NS := J.out.nostr
            have bx := (((((But.refl [w.heap.size] wr).set (p := ⟨w.heap.size, 1, none⟩) (by simp) (.slice a5 L.length c5)).set (p := ⟨w.heap.size, 2, none⟩) (by simp) (.slice a5 L.length c5)).set (p := ⟨w.heap.size, 3, none⟩) (by simp) (.slice none 0 0)).set (p := ⟨w.heap.size, 7, none⟩) (by simp) (.bool false)).set (p := ⟨w.heap.size, 6, none⟩) (by simp) (.int .i64 0)
            have bd := ((((J.out.bd.set_ 1 (.slice a5 L.length c5)).set_ 2 (.slice a5 L.length c5)).set_ 3 (.slice none 0 0)).set_ 7 (.bool false)).set_ 6 (.int .i64 0)
            simp only [List.setIfInBounds_toArray, List.set_cons_succ, List.set_cons_zero] at bd
            have br := J.out.br.but bx (by simp; omega)
            have rf := J.out.ref.fs.butG fC_str J.out.bd NS bx
            have rl := J.out.dirs.butG eC_str J.out.bd NS bx
            have x7 := ((((X5.out.set (p := ⟨w.heap.size, 1, none⟩) (Nat.le_refl _) (.slice a5 L.length c5)).set (p := ⟨w.heap.size, 2, none⟩) (Nat.le_refl _) (.slice a5 L.length c5)).set (p := ⟨w.heap.size, 3, none⟩) (Nat.le_refl _) (.slice none 0 0)).set (p := ⟨w.heap.size, 7, none⟩) (Nat.le_refl _) (.bool false)).set (p := ⟨w.heap.size, 6, none⟩) (Nat.le_refl _) (.int .i64 0)
            have c1 : wr.cell? ⟨w.heap.size, 1, none⟩ = some (.slice bD dir.length eD) := J.out.bd.cell 1
            have c2 : wr.cell? ⟨w.heap.size, 2, none⟩ = some (.slice bS safe.length eS) := J.out.bd.cell 2
            have c3 : wr.cell? ⟨w.heap.size, 3, none⟩ = some (.slice bC chs.length eC') := J.out.bd.cell 3
            have c6 : wr.cell? ⟨w.heap.size, 6, none⟩ = some (.int .i64 armed) := J.out.bd.cell 6
            have c7 : wr.cell? ⟨w.heap.size, 7, none⟩ = some (.bool dead) := J.out.bd.cell 7
            have f1 := J.out.bd.frozen 1
            have f2 := J.out.bd.frozen 2
            have f3 := J.out.bd.frozen 3
            have f6 := J.out.bd.frozen 6
            have f7 := J.out.bd.frozen 7
            have BD := Lib.hid bd
            have BR := Lib.hid br
            have RF := Lib.hid rf
            have RL := Lib.hid rl
            have X7 := Lib.hid x7
            have DS := Lib.hid (show (Tryz.prog.info? 33).map (·.size) = some (#[.slice bF fs.length eF, .slice a5 L.length c5, .slice a5 L.length c5, .slice none 0 0, .int .i64 cap, .int .i64 ops, .int .i64 0, .bool false] : Array Value).size from rdisk_size)
            have DO := Lib.hid (disk_all _ _ _ _ (sl_ex bF fs.length eF) (sl_ex a5 L.length c5) (sl_ex a5 L.length c5) (sl_ex none 0 0) cap ops 0 false)
            clear bd br rf rl x7 bx NS J
            go_wp2_with (refine wpList_hold 94 rfl ?_)
            refine ⟨?_⟩
            generalize ((((wr.setCell ⟨w.heap.size, 1, none⟩ (.slice a5 L.length c5)).setCell ⟨w.heap.size, 2, none⟩ (.slice a5 L.length c5)).setCell ⟨w.heap.size, 3, none⟩ (.slice none 0 0)).setCell ⟨w.heap.size, 7, none⟩ (.bool false)).setCell ⟨w.heap.size, 6, none⟩ (.int .i64 0) = W9 at *
            clear c1 c2 c3 c6 c7 f1 f2 f3 f6 f7
            refine wpList_load_blk rfl 33 (.tmp 2) rfl rfl BD.out Tryz.underlying33 rfl DS.out ?_
            go_wp2_with (refine wpList_store_blk rfl 33 (.tmp 4) (.tmp 94) rfl rfl rfl BR.out rfl DS.out DO.out ?_; refine Held.go ?_)
            refine ⟨?_⟩
            go_wp2
            have bx2 := But.row1 W9 (w.heap.size + 1 + 1) #[.slice bF fs.length eF, .slice a5 L.length c5, .slice a5 L.length c5, .slice none 0 0, .int .i64 cap, .int .i64 ops, .int .i64 0, .bool false]
            refine bodyPost_ret (results_cell_row rfl _ _ (w.heap.size + 1 + 1) _ _ (0, 0) _ rfl (BR.out.setRow _) Tryz.underlying33 rfl DS.out) rfl ⟨⟨.slice bF fs.length eF, .slice a5 L.length c5, .slice a5 L.length c5, .slice none 0 0⟩, ?_, ?_, X7.out.setRow (by omega) _⟩
            · rw [HB.out]
            · rw [HB.out]
              exact ⟨by rw [FA.out]; exact RF.out.butG fC_str BR.out zero_nostr bx2, RL.out.butG eC_str BR.out zero_nostr bx2, RL.out.butG eC_str BR.out zero_nostr bx2, RK.nil _⟩
    · have HE := Lib.hid (LE.out k hk hkd (fun h => hlt h.1))
      have hI : (chs.length : Int) ≤ (k : Int) := by omega
      clear hk hkd hlt
      have i1 := HS.out.1
      rw [HE.out] at i1
      have I1 := Lib.hid (And.intro i1 HS.out.2)
      clear i1
      obtain ⟨a5, c5, h5⟩ := rr_sl I1.out.1.1
      subst h5
      have J0 := Lib.hid (show RBoot K w (.slice a5 L.length c5) L ⟨files, dir, safe, chs, cap, ops, armed, dead⟩ cuts marks kd (.slice ac cuts.length cc) (.slice am marks.length cm) ⟨.slice aF files.length cF, .slice aD dir.length cD, .slice aS safe.length cS, .slice aC chs.length cC⟩ 0 0 files wr from ⟨X0.out.trans I1.out.2, H.out.ext (X0.out.trans I1.out.2), BD.out.ext I1.out.2, BC.out.ext I1.out.2, BR.out.ext I1.out.2, I1.out.1, rfl, rfl, Nat.le_refl _, OKB.out⟩)
      clear HS HE BD BC BR I1 X0 H LE LN LL HCC L0
      have hLL := HLL.out
      go_wp2_with fail
      clear c3 d0
      go_loopw [8, 7] (fun i j wq => ∃ (m n : Nat) (v : V4) (fs : List (List UInt8 × List UInt8)), i = .int .i64 (m : Int) ∧ j = .int .i64 (n : Int) ∧ m ≤ L.length ∧ RowKit.Hid (RBoot K w (.slice a5 L.length c5) L ⟨files, dir, safe, chs, cap, ops, armed, dead⟩ cuts marks kd (.slice ac cuts.length cc) (.slice am marks.length cm) v m n fs wq)) (fun i _ _ => L.length - (intOf i).toNat)
      case atStart => exact ⟨0, 0, _, _, rfl, rfl, Nat.zero_le _, J0⟩
      case round =>
        obtain ⟨m, n, v, fs, rfl, rfl, hm, J⟩ := hrel
        clear J0
        obtain ⟨bF, eF, bD, eD, bS, eS, bC, eC', hv⟩ := J.out.ref.open_
        dsimp only at hv
        subst hv
        by_cases hlt : m < L.length
        · have hI : (m : Int) < (L.length : Int) := by omega
          obtain ⟨x, hx⟩ : ∃ x, L[m]? = some x := ⟨_, List.getElem?_eq_getElem hlt⟩
          have hxn : x.2 < files.length := (LM.out x (List.mem_of_getElem? hx)).2
          obtain ⟨_, _, el, _, _, hlx⟩ := J.out.dirs.1
          injection el with e1 e2 e3
          subst e1
          subst e3
          obtain ⟨g5, o5, rfl, hlx'⟩ := hlx (by omega)
          have RX : wr.cell? ⟨g5, o5 + m * 2 + 1, none⟩ = some (.int .i64 (x.2 : Int)) := hlx' m x hx 1 _ rfl
          have hfn : x.2 < fs.length := by rw [J.out.len]; exact hxn
          obtain ⟨_, _, ef, _, _, hfx⟩ := J.out.ref.fs.1
          injection ef with e1 e2 e3
          subst e1
          subst e3
          obtain ⟨gf, of_, hbF, hfx'⟩ := hfx (by show 0 < fs.length; omega)
          have hfa : fs[x.2]? = some (fs.getD x.2 ([], [])) := by rw [List.getD_eq_getElem?_getD, List.getElem?_eq_getElem hfn]; rfl
          have RF := Lib.hid (rangeAt_drew (hfx' x.2 _ hfa))
          have hbig := J.out.big _ (List.mem_of_getElem? hfa)
          have c0 : wr.cell? ⟨w.heap.size, 0, none⟩ = some (.slice bF fs.length eF) := J.out.bd.cell 0
          rw [hbF] at c0
          have u0 := up_cell (W := wr.drew) c0
          have uX := up_cell (W := wr.drew) RX
          have hxi : (x.2 : Int) < (fs.length : Int) := by omega
          have HXK := Lib.hid hx
          have HFN := Lib.hid hfn
          have HRX := Lib.hid RX
          have HKM := Lib.hid hlt
          obtain ⟨⟨fa, fc⟩, hff⟩ : ∃ f, f = fs.getD x.2 ([], []) := ⟨_, rfl⟩
          rw [← hff] at RF hbig
          have HFF := Lib.hid hff.symm
          clear hlx hlx' hfx hfx' hbF hx hxn hlt hff c0 RX hfn hfa
          obtain ⟨xs, xn⟩ := x
          dsimp only at *
          go_wp2_with fail
          refine wp_region_lex _ rfl (by kernel_rfl) ?_
          dsimp only [List.length_cons, List.length_nil]
          iterate 8
            (refine lex_want (by kernel_rfl) (by kernel_rfl) (by kernel_rfl) (by kernel_rfl) (fun _ _ _ _ h => h) (by kernel_rfl) (fun K hK => ?_)
             go_simp
             (refine hK _ ?_; clear hK K))
          refine lex_load_range (by kernel_rfl) (by kernel_rfl) (by kernel_rfl) (by kernel_rfl) (fun _ _ _ _ h => h) (by kernel_rfl) 95 (.tmp 47) rfl rfl RF.out Tryz.underlying95 rfl rfile_size ?_
          refine lex_only (by kernel_rfl) (by kernel_rfl) (fun xu K hK => ?_)
          go_simp
          refine hK.out _ _ ((Ext.refl _).alloc _) ?_
          clear hK K
          refine lex_last (by kernel_rfl) (by kernel_rfl) (by kernel_rfl) (by kernel_rfl) (by kernel_rfl) (fun xv K hK => ?_)
          have bz := (Blk.new xu.val 95 #[.string (S []), .string (S [])]).ext xv.ext
          refine wp_store_blk 95 (.tmp 9) (.tmp 48) rfl rfl rfl bz rfl rfile_size (fC_all (fa, fc)) (hK _ _ (fun y => ?_))
          try dsimp only [Act.put]
          try simp only [List.setIfInBounds_toArray, List.set_cons_succ, List.set_cons_zero]
          have BFi := Lib.hid ((bz.setRow (fC (fa, fc)).toArray).ext y.ext)
          have hM := Lib.hid (show wr.heap.size ≤ xu.val.heap.size from xu.ext.le)
          have y7 : Ext wr y.val := Ext.trans (Ext.setRow (((Ext.trans (Ext.refl wr).drew xu.ext).alloc _).trans xv.ext) hM.out (fC (fa, fc)).toArray) y.ext
          have J7 := Lib.hid (J.out.to y7)
          have RX7 := Lib.hid (Go.cell_later y7 HRX.out)
          have hgm := Lib.hid (Nat.lt_of_lt_of_le J.out.br.lt hM.out)
          clear hK K bz y7 u0 uX RF J HRX hM
          generalize y.val = w7 at *
          generalize xu.val.heap.size = gm at *
          clear y xv xu
          have e0 : w7.cell? ⟨gm, 0, none⟩ = some (.string (S fa)) := BFi.out.cell 0
          have e1 : w7.cell? ⟨gm, 1, none⟩ = some (.string (S fc)) := BFi.out.cell 1
          by_cases hac : fa = fc
          · subst hac
            have J8 := Lib.hid (J7.out.firm HXK.out HFF.out)
            have hb : (fa == fa) = true := by simp
            go_wp2_with fail
            go_roundw
            case rel => exact ⟨m + 1, n, _, fs, by go_num, rfl, by have := HKM.out; omega, J8⟩
            case measure => simp [intOf]; have := HKM.out; omega
          · have hb : (fa == fc) = false := by simpa using hac
            have HAC := Lib.hid hac
            have e6 : w7.cell? ⟨w.heap.size + 1, 1, none⟩ = some (.slice ac cuts.length cc) := J7.out.bc.cell 1
            have e7 : w7.cell? ⟨w.heap.size + 1, 2, none⟩ = some (.slice am marks.length cm) := J7.out.bc.cell 2
            have hnm := Lib.hid J7.out.hj
            have HCW := Lib.hid (HC.out.ext J7.out.ext)
            have HMW := Lib.hid (HM.out.ext J7.out.ext)
            by_cases hcn : n < cuts.length
            · obtain ⟨cv, hcv⟩ : ∃ cv, cuts[n]? = some cv := ⟨_, List.getElem?_eq_getElem hcn⟩
              obtain ⟨_, _, e', hsc⟩ := HCW.out.one
              injection e' with e'1 _ e'3
              subst e'1
              subst e'3
              obtain ⟨gc, oc, hac', hsc'⟩ := hsc (by omega)
              have u1 := hsc' n cv hcv _ rfl
              rw [hac'] at e6
              have CV := Lib.hid (show cuts.getD n 0 = cv by rw [List.getD_eq_getElem?_getD, hcv]; rfl)
              have hni : (n : Int) < (cuts.length : Int) := by omega
              clear hsc hsc' hac' hcv hcn
              by_cases hmn : n < marks.length
              · obtain ⟨mk, hmv⟩ : ∃ mk, marks[n]? = some mk := ⟨_, List.getElem?_eq_getElem hmn⟩
                obtain ⟨_, _, e', hsm⟩ := HMW.out.one
                injection e' with e'1 _ e'3
                subst e'1
                subst e'3
                obtain ⟨gk, ok, ham, hsm'⟩ := hsm (by omega)
                have u2 := hsm' n mk hmv _ rfl
                rw [ham] at e7
                have MV := Lib.hid (show marks.getD n [] = mk by rw [List.getD_eq_getElem?_getD, hmv]; rfl)
                have hmi : (n : Int) < (marks.length : Int) := by omega
                have hml2 := HMK.out mk (List.mem_of_getElem? hmv)
                clear hsm hsm' ham hmv hmn
                have QF := Lib.hid (show ∀ W, Calls Tryz.prog 70 #[.agg (fC (fa, fc)).toArray, .int .i64 cv, .string (S mk)] W (fun e w' => e = .returned (.agg #[.string (S (leftL fa fc cv mk)), .string (S (leftL fa fc cv mk))]) ∧ Ext W w') from fun W => rfall_any fa fc cv mk W (by omega) (by omega) hml2)
                obtain ⟨r, hr⟩ : ∃ r, r = leftL fa fc cv mk := ⟨_, rfl⟩
                rw [← hr] at QF
                have HR := Lib.hid hr
                clear hr
                have QP := Lib.hid (fun W (x : Ext w7 W) => rput_any (fun k hk => Nat.lt_of_lt_of_le (HK.out k hk) (J7.out.ext.trans x).size) (J7.out.ref.ext x) xn HFN.out (by show fs.length ≤ _; have := J7.out.len; dsimp only at this; omega) (r, r))
                simp only [refV, Dsk.put] at QP
                have u4 := up_cell (W := w7.drew) RX7.out
                have DS7 := Lib.hid (show (Tryz.prog.info? 33).map (·.size) = some (#[.slice bF fs.length eF, .slice bD dir.length eD, .slice bS safe.length eS, .slice bC chs.length eC', .int .i64 cap, .int .i64 ops, .int .i64 armed, .bool dead] : Array Value).size from rdisk_size)
                have BD7 := Lib.hid J7.out.bd.drew
                have BF7 := Lib.hid BFi.out.drew
                go_wp2_with fail
                refine wp_region_lex _ rfl (by kernel_rfl) ?_
                dsimp only [List.length_cons, List.length_nil]
                refine lex_load_blk (by kernel_rfl) (by kernel_rfl) (by kernel_rfl) (by kernel_rfl) (fun _ _ _ _ h => h) (by kernel_rfl) 33 (.tmp 2) rfl rfl BD7.out Tryz.underlying33 rfl DS7.out ?_
                iterate 5
                  (refine lex_want (by kernel_rfl) (by kernel_rfl) (by kernel_rfl) (by kernel_rfl) (fun _ _ _ _ h => h) (by kernel_rfl) (fun K hK => ?_)
                   go_simp
                   (refine hK _ ?_; clear hK K))
                refine lex_load_blk (by kernel_rfl) (by kernel_rfl) (by kernel_rfl) (by kernel_rfl) (fun _ _ _ _ h => h) (by kernel_rfl) 95 (.tmp 9) rfl rfl BF7.out Tryz.underlying95 rfl rfile_size ?_
                try dsimp only [Act.put]
                try simp only [List.setIfInBounds_toArray, List.set_cons_succ, List.set_cons_zero]
                iterate 2
                  (refine lex_want (by kernel_rfl) (by kernel_rfl) (by kernel_rfl) (by kernel_rfl) (fun _ _ _ _ h => h) (by kernel_rfl) (fun K hK => ?_)
                   go_simp
                   (refine hK _ ?_; clear hK K))
                (refine lex_want (by kernel_rfl) (by kernel_rfl) (by kernel_rfl) (by kernel_rfl) (fun _ _ _ _ h => h) (by kernel_rfl) (fun K hK => ?_)
                 go_simp
                 apply Exists.intro
                 refine ⟨fun _ => ?_, hK _ ?_⟩
                 (go_at_call 70; (with_reducible exact QF.out _))
                 clear hK K)
                refine lex_only (by kernel_rfl) (by kernel_rfl) (fun x K hK => ?_)
                go_simp
                refine (QP.out _ ((Ext.refl w7).drew.trans x.ext)).mono ?_
                rintro _ w9 ⟨v9, rfl, r9, x9⟩
                refine hK.out _ _ x9 ?_
                have y9 := Ext.trans (Ext.trans (Ext.refl w7).drew x.ext) x9
                have R9 := Lib.hid r9
                obtain ⟨a1x, c1x, a2x, c2x, a3x, c3x, a4x, c4x, hv9⟩ := r9.open_
                dsimp only at hv9
                subst hv9
                dsimp only
                have Y9 := Lib.hid y9
                clear hK K x9 r9 y9 x
                refine lex_last (by kernel_rfl) (by kernel_rfl) (by kernel_rfl) (by kernel_rfl) (by kernel_rfl) (fun xv K hK => ?_)
                have J9 := Lib.hid (J7.out.to (Y9.out.trans xv.ext))
                have DO9 := disk_all _ _ _ _ (sl_ex a1x (fs.set xn (r, r)).length c1x) (sl_ex a2x dir.length c2x) (sl_ex a3x safe.length c3x) (sl_ex a4x chs.length c4x) cap ops armed dead
                refine wp_store_blk 33 (.tmp 2) (.tmp 84) rfl rfl rfl J9.out.bd rfl rdisk_size DO9 (hK _ _ (fun y => ?_))
                try dsimp only [Act.put]
                try simp only [List.setIfInBounds_toArray, List.set_cons_succ, List.set_cons_zero]
                have hrr : r = leftL fa fc (cuts.getD n 0) (marks.getD n []) := by rw [CV.out, MV.out]; exact HR.out
                have R9x := R9.out.ext xv.ext
                have J10 := Lib.hid (J7.out.fell HXK.out HFF.out HAC.out hrr (Y9.out.trans xv.ext) R9x y.ext)
                clear hK K
                generalize y.val = w10 at *
                have hnb : (n : Int) ≤ 1000000 := by have := hnm.out; have := HKM.out; have := HLL.out; omega
                go_wp2_with fail
                go_roundw
                case rel => exact ⟨m + 1, n + 1, _, _, by go_num, by go_num, by have := HKM.out; omega, J10⟩
                case measure => simp [intOf]; have := HKM.out; omega
              · obtain ⟨mk, hmv⟩ : ∃ mk : List UInt8, mk = [] := ⟨_, rfl⟩
                have MV := Lib.hid (show marks.getD n [] = mk by rw [List.getD_eq_getElem?_getD, List.getElem?_eq_none (by omega), hmv]; rfl)
                have hmi : (marks.length : Int) ≤ (n : Int) := by omega
                have hml2 : (mk.length : Int) ≤ 1000000000 := by rw [hmv]; simp
                subst hmv
                clear hmn
                have QF := Lib.hid (show ∀ W, Calls Tryz.prog 70 #[.agg (fC (fa, fc)).toArray, .int .i64 cv, .string (S ([] : List UInt8))] W (fun e w' => e = .returned (.agg #[.string (S (leftL fa fc cv ([] : List UInt8))), .string (S (leftL fa fc cv ([] : List UInt8)))]) ∧ Ext W w') from fun W => rfall_any fa fc cv ([] : List UInt8) W (by omega) (by omega) hml2)
                obtain ⟨r, hr⟩ : ∃ r, r = leftL fa fc cv ([] : List UInt8) := ⟨_, rfl⟩
                rw [← hr] at QF
                have HR := Lib.hid hr
                clear hr
                have QP := Lib.hid (fun W (x : Ext w7 W) => rput_any (fun k hk => Nat.lt_of_lt_of_le (HK.out k hk) (J7.out.ext.trans x).size) (J7.out.ref.ext x) xn HFN.out (by show fs.length ≤ _; have := J7.out.len; dsimp only at this; omega) (r, r))
                simp only [refV, Dsk.put] at QP
                have u4 := up_cell (W := w7.drew) RX7.out
                have DS7 := Lib.hid (show (Tryz.prog.info? 33).map (·.size) = some (#[.slice bF fs.length eF, .slice bD dir.length eD, .slice bS safe.length eS, .slice bC chs.length eC', .int .i64 cap, .int .i64 ops, .int .i64 armed, .bool dead] : Array Value).size from rdisk_size)
                have BD7 := Lib.hid J7.out.bd.drew
                have BF7 := Lib.hid BFi.out.drew
                go_wp2_with fail
                refine wp_region_lex _ rfl (by kernel_rfl) ?_
                dsimp only [List.length_cons, List.length_nil]
                refine lex_load_blk (by kernel_rfl) (by kernel_rfl) (by kernel_rfl) (by kernel_rfl) (fun _ _ _ _ h => h) (by kernel_rfl) 33 (.tmp 2) rfl rfl BD7.out Tryz.underlying33 rfl DS7.out ?_
                iterate 5
                  (refine lex_want (by kernel_rfl) (by kernel_rfl) (by kernel_rfl) (by kernel_rfl) (fun _ _ _ _ h => h) (by kernel_rfl) (fun K hK => ?_)
                   go_simp
                   (refine hK _ ?_; clear hK K))
                refine lex_load_blk (by kernel_rfl) (by kernel_rfl) (by kernel_rfl) (by kernel_rfl) (fun _ _ _ _ h => h) (by kernel_rfl) 95 (.tmp 9) rfl rfl BF7.out Tryz.underlying95 rfl rfile_size ?_
                try dsimp only [Act.put]
                try simp only [List.setIfInBounds_toArray, List.set_cons_succ, List.set_cons_zero]
                iterate 2
                  (refine lex_want (by kernel_rfl) (by kernel_rfl) (by kernel_rfl) (by kernel_rfl) (fun _ _ _ _ h => h) (by kernel_rfl) (fun K hK => ?_)
                   go_simp
                   (refine hK _ ?_; clear hK K))
                (refine lex_want (by kernel_rfl) (by kernel_rfl) (by kernel_rfl) (by kernel_rfl) (fun _ _ _ _ h => h) (by kernel_rfl) (fun K hK => ?_)
                 go_simp
                 apply Exists.intro
                 refine ⟨fun _ => ?_, hK _ ?_⟩
                 (go_at_call 70; (with_reducible exact QF.out _))
                 clear hK K)
                refine lex_only (by kernel_rfl) (by kernel_rfl) (fun x K hK => ?_)
                go_simp
                refine (QP.out _ ((Ext.refl w7).drew.trans x.ext)).mono ?_
                rintro _ w9 ⟨v9, rfl, r9, x9⟩
                refine hK.out _ _ x9 ?_
                have y9 := Ext.trans (Ext.trans (Ext.refl w7).drew x.ext) x9
                have R9 := Lib.hid r9
                obtain ⟨a1x, c1x, a2x, c2x, a3x, c3x, a4x, c4x, hv9⟩ := r9.open_
                dsimp only at hv9
                subst hv9
                dsimp only
                have Y9 := Lib.hid y9
                clear hK K x9 r9 y9 x
                refine lex_last (by kernel_rfl) (by kernel_rfl) (by kernel_rfl) (by kernel_rfl) (by kernel_rfl) (fun xv K hK => ?_)
                have J9 := Lib.hid (J7.out.to (Y9.out.trans xv.ext))
                have DO9 := disk_all _ _ _ _ (sl_ex a1x (fs.set xn (r, r)).length c1x) (sl_ex a2x dir.length c2x) (sl_ex a3x safe.length c3x) (sl_ex a4x chs.length c4x) cap ops armed dead
                refine wp_store_blk 33 (.tmp 2) (.tmp 84) rfl rfl rfl J9.out.bd rfl rdisk_size DO9 (hK _ _ (fun y => ?_))
                try dsimp only [Act.put]
                try simp only [List.setIfInBounds_toArray, List.set_cons_succ, List.set_cons_zero]
                have hrr : r = leftL fa fc (cuts.getD n 0) (marks.getD n []) := by rw [CV.out, MV.out]; exact HR.out
                have R9x := R9.out.ext xv.ext
                have J10 := Lib.hid (J7.out.fell HXK.out HFF.out HAC.out hrr (Y9.out.trans xv.ext) R9x y.ext)
                clear hK K
                generalize y.val = w10 at *
                have hnb : (n : Int) ≤ 1000000 := by have := hnm.out; have := HKM.out; have := HLL.out; omega
                go_wp2_with fail
                go_roundw
                case rel => exact ⟨m + 1, n + 1, _, _, by go_num, by go_num, by have := HKM.out; omega, J10⟩
                case measure => simp [intOf]; have := HKM.out; omega
            · obtain ⟨cv, hcv⟩ : ∃ cv : Int, cv = 0 := ⟨_, rfl⟩
              have CV := Lib.hid (show cuts.getD n 0 = cv by rw [List.getD_eq_getElem?_getD, List.getElem?_eq_none (by omega), hcv]; rfl)
              have hni : (cuts.length : Int) ≤ (n : Int) := by omega
              subst hcv
              clear hcn
              by_cases hmn : n < marks.length
              · obtain ⟨mk, hmv⟩ : ∃ mk, marks[n]? = some mk := ⟨_, List.getElem?_eq_getElem hmn⟩
                obtain ⟨_, _, e', hsm⟩ := HMW.out.one
                injection e' with e'1 _ e'3
                subst e'1
                subst e'3
                obtain ⟨gk, ok, ham, hsm'⟩ := hsm (by omega)
                have u2 := hsm' n mk hmv _ rfl
                rw [ham] at e7
                have MV := Lib.hid (show marks.getD n [] = mk by rw [List.getD_eq_getElem?_getD, hmv]; rfl)
                have hmi : (n : Int) < (marks.length : Int) := by omega
                have hml2 := HMK.out mk (List.mem_of_getElem? hmv)
                clear hsm hsm' ham hmv hmn
                have QF := Lib.hid (show ∀ W, Calls Tryz.prog 70 #[.agg (fC (fa, fc)).toArray, .int .i64 (0 : Int), .string (S mk)] W (fun e w' => e = .returned (.agg #[.string (S (leftL fa fc (0 : Int) mk)), .string (S (leftL fa fc (0 : Int) mk))]) ∧ Ext W w') from fun W => rfall_any fa fc (0 : Int) mk W (by omega) (by omega) hml2)
                obtain ⟨r, hr⟩ : ∃ r, r = leftL fa fc (0 : Int) mk := ⟨_, rfl⟩
                rw [← hr] at QF
                have HR := Lib.hid hr
                clear hr
                have QP := Lib.hid (fun W (x : Ext w7 W) => rput_any (fun k hk => Nat.lt_of_lt_of_le (HK.out k hk) (J7.out.ext.trans x).size) (J7.out.ref.ext x) xn HFN.out (by show fs.length ≤ _; have := J7.out.len; dsimp only at this; omega) (r, r))
                simp only [refV, Dsk.put] at QP
                have u4 := up_cell (W := w7.drew) RX7.out
                have DS7 := Lib.hid (show (Tryz.prog.info? 33).map (·.size) = some (#[.slice bF fs.length eF, .slice bD dir.length eD, .slice bS safe.length eS, .slice bC chs.length eC', .int .i64 cap, .int .i64 ops, .int .i64 armed, .bool dead] : Array Value).size from rdisk_size)
                have BD7 := Lib.hid J7.out.bd.drew
                have BF7 := Lib.hid BFi.out.drew
                go_wp2_with fail
                refine wp_region_lex _ rfl (by kernel_rfl) ?_
                dsimp only [List.length_cons, List.length_nil]
                refine lex_load_blk (by kernel_rfl) (by kernel_rfl) (by kernel_rfl) (by kernel_rfl) (fun _ _ _ _ h => h) (by kernel_rfl) 33 (.tmp 2) rfl rfl BD7.out Tryz.underlying33 rfl DS7.out ?_
                iterate 5
                  (refine lex_want (by kernel_rfl) (by kernel_rfl) (by kernel_rfl) (by kernel_rfl) (fun _ _ _ _ h => h) (by kernel_rfl) (fun K hK => ?_)
                   go_simp
                   (refine hK _ ?_; clear hK K))
                refine lex_load_blk (by kernel_rfl) (by kernel_rfl) (by kernel_rfl) (by kernel_rfl) (fun _ _ _ _ h => h) (by kernel_rfl) 95 (.tmp 9) rfl rfl BF7.out Tryz.underlying95 rfl rfile_size ?_
                try dsimp only [Act.put]
                try simp only [List.setIfInBounds_toArray, List.set_cons_succ, List.set_cons_zero]
                iterate 2
                  (refine lex_want (by kernel_rfl) (by kernel_rfl) (by kernel_rfl) (by kernel_rfl) (fun _ _ _ _ h => h) (by kernel_rfl) (fun K hK => ?_)
                   go_simp
                   (refine hK _ ?_; clear hK K))
                (refine lex_want (by kernel_rfl) (by kernel_rfl) (by kernel_rfl) (by kernel_rfl) (fun _ _ _ _ h => h) (by kernel_rfl) (fun K hK => ?_)
                 go_simp
                 apply Exists.intro
                 refine ⟨fun _ => ?_, hK _ ?_⟩
                 (go_at_call 70; (with_reducible exact QF.out _))
                 clear hK K)
                refine lex_only (by kernel_rfl) (by kernel_rfl) (fun x K hK => ?_)
                go_simp
                refine (QP.out _ ((Ext.refl w7).drew.trans x.ext)).mono ?_
                rintro _ w9 ⟨v9, rfl, r9, x9⟩
                refine hK.out _ _ x9 ?_
                have y9 := Ext.trans (Ext.trans (Ext.refl w7).drew x.ext) x9
                have R9 := Lib.hid r9
                obtain ⟨a1x, c1x, a2x, c2x, a3x, c3x, a4x, c4x, hv9⟩ := r9.open_
                dsimp only at hv9
                subst hv9
                dsimp only
                have Y9 := Lib.hid y9
                clear hK K x9 r9 y9 x
                refine lex_last (by kernel_rfl) (by kernel_rfl) (by kernel_rfl) (by kernel_rfl) (by kernel_rfl) (fun xv K hK => ?_)
                have J9 := Lib.hid (J7.out.to (Y9.out.trans xv.ext))
                have DO9 := disk_all _ _ _ _ (sl_ex a1x (fs.set xn (r, r)).length c1x) (sl_ex a2x dir.length c2x) (sl_ex a3x safe.length c3x) (sl_ex a4x chs.length c4x) cap ops armed dead
                refine wp_store_blk 33 (.tmp 2) (.tmp 84) rfl rfl rfl J9.out.bd rfl rdisk_size DO9 (hK _ _ (fun y => ?_))
                try dsimp only [Act.put]
                try simp only [List.setIfInBounds_toArray, List.set_cons_succ, List.set_cons_zero]
                have hrr : r = leftL fa fc (cuts.getD n 0) (marks.getD n []) := by rw [CV.out, MV.out]; exact HR.out
                have R9x := R9.out.ext xv.ext
                have J10 := Lib.hid (J7.out.fell HXK.out HFF.out HAC.out hrr (Y9.out.trans xv.ext) R9x y.ext)
                clear hK K
                generalize y.val = w10 at *
                have hnb : (n : Int) ≤ 1000000 := by have := hnm.out; have := HKM.out; have := HLL.out; omega
                go_wp2_with fail
                go_roundw
                case rel => exact ⟨m + 1, n + 1, _, _, by go_num, by go_num, by have := HKM.out; omega, J10⟩
                case measure => simp [intOf]; have := HKM.out; omega
              · obtain ⟨mk, hmv⟩ : ∃ mk : List UInt8, mk = [] := ⟨_, rfl⟩
                have MV := Lib.hid (show marks.getD n [] = mk by rw [List.getD_eq_getElem?_getD, List.getElem?_eq_none (by omega), hmv]; rfl)
                have hmi : (marks.length : Int) ≤ (n : Int) := by omega
                have hml2 : (mk.length : Int) ≤ 1000000000 := by rw [hmv]; simp
                subst hmv
                clear hmn
                have QF := Lib.hid (show ∀ W, Calls Tryz.prog 70 #[.agg (fC (fa, fc)).toArray, .int .i64 (0 : Int), .string (S ([] : List UInt8))] W (fun e w' => e = .returned (.agg #[.string (S (leftL fa fc (0 : Int) ([] : List UInt8))), .string (S (leftL fa fc (0 : Int) ([] : List UInt8)))]) ∧ Ext W w') from fun W => rfall_any fa fc (0 : Int) ([] : List UInt8) W (by omega) (by omega) hml2)
                obtain ⟨r, hr⟩ : ∃ r, r = leftL fa fc (0 : Int) ([] : List UInt8) := ⟨_, rfl⟩
                rw [← hr] at QF
                have HR := Lib.hid hr
                clear hr
                have QP := Lib.hid (fun W (x : Ext w7 W) => rput_any (fun k hk => Nat.lt_of_lt_of_le (HK.out k hk) (J7.out.ext.trans x).size) (J7.out.ref.ext x) xn HFN.out (by show fs.length ≤ _; have := J7.out.len; dsimp only at this; omega) (r, r))
                simp only [refV, Dsk.put] at QP
                have u4 := up_cell (W := w7.drew) RX7.out
                have DS7 := Lib.hid (show (Tryz.prog.info? 33).map (·.size) = some (#[.slice bF fs.length eF, .slice bD dir.length eD, .slice bS safe.length eS, .slice bC chs.length eC', .int .i64 cap, .int .i64 ops, .int .i64 armed, .bool dead] : Array Value).size from rdisk_size)
                have BD7 := Lib.hid J7.out.bd.drew
                have BF7 := Lib.hid BFi.out.drew
                go_wp2_with fail
                refine wp_region_lex _ rfl (by kernel_rfl) ?_
                dsimp only [List.length_cons, List.length_nil]
                refine lex_load_blk (by kernel_rfl) (by kernel_rfl) (by kernel_rfl) (by kernel_rfl) (fun _ _ _ _ h => h) (by kernel_rfl) 33 (.tmp 2) rfl rfl BD7.out Tryz.underlying33 rfl DS7.out ?_
                iterate 5
                  (refine lex_want (by kernel_rfl) (by kernel_rfl) (by kernel_rfl) (by kernel_rfl) (fun _ _ _ _ h => h) (by kernel_rfl) (fun K hK => ?_)
                   go_simp
                   (refine hK _ ?_; clear hK K))
                refine lex_load_blk (by kernel_rfl) (by kernel_rfl) (by kernel_rfl) (by kernel_rfl) (fun _ _ _ _ h => h) (by kernel_rfl) 95 (.tmp 9) rfl rfl BF7.out Tryz.underlying95 rfl rfile_size ?_
                try dsimp only [Act.put]
                try simp only [List.setIfInBounds_toArray, List.set_cons_succ, List.set_cons_zero]
                iterate 2
                  (refine lex_want (by kernel_rfl) (by kernel_rfl) (by kernel_rfl) (by kernel_rfl) (fun _ _ _ _ h => h) (by kernel_rfl) (fun K hK => ?_)
                   go_simp
                   (refine hK _ ?_; clear hK K))
                (refine lex_want (by kernel_rfl) (by kernel_rfl) (by kernel_rfl) (by kernel_rfl) (fun _ _ _ _ h => h) (by kernel_rfl) (fun K hK => ?_)
                 go_simp
                 apply Exists.intro
                 refine ⟨fun _ => ?_, hK _ ?_⟩
                 (go_at_call 70; (with_reducible exact QF.out _))
                 clear hK K)
                refine lex_only (by kernel_rfl) (by kernel_rfl) (fun x K hK => ?_)
                go_simp
                refine (QP.out _ ((Ext.refl w7).drew.trans x.ext)).mono ?_
                rintro _ w9 ⟨v9, rfl, r9, x9⟩
                refine hK.out _ _ x9 ?_
                have y9 := Ext.trans (Ext.trans (Ext.refl w7).drew x.ext) x9
                have R9 := Lib.hid r9
                obtain ⟨a1x, c1x, a2x, c2x, a3x, c3x, a4x, c4x, hv9⟩ := r9.open_
                dsimp only at hv9
                subst hv9
                dsimp only
                have Y9 := Lib.hid y9
                clear hK K x9 r9 y9 x
                refine lex_last (by kernel_rfl) (by kernel_rfl) (by kernel_rfl) (by kernel_rfl) (by kernel_rfl) (fun xv K hK => ?_)
                have J9 := Lib.hid (J7.out.to (Y9.out.trans xv.ext))
                have DO9 := disk_all _ _ _ _ (sl_ex a1x (fs.set xn (r, r)).length c1x) (sl_ex a2x dir.length c2x) (sl_ex a3x safe.length c3x) (sl_ex a4x chs.length c4x) cap ops armed dead
                refine wp_store_blk 33 (.tmp 2) (.tmp 84) rfl rfl rfl J9.out.bd rfl rdisk_size DO9 (hK _ _ (fun y => ?_))
                try dsimp only [Act.put]
                try simp only [List.setIfInBounds_toArray, List.set_cons_succ, List.set_cons_zero]
                have hrr : r = leftL fa fc (cuts.getD n 0) (marks.getD n []) := by rw [CV.out, MV.out]; exact HR.out
                have R9x := R9.out.ext xv.ext
                have J10 := Lib.hid (J7.out.fell HXK.out HFF.out HAC.out hrr (Y9.out.trans xv.ext) R9x y.ext)
                clear hK K
                generalize y.val = w10 at *
                have hnb : (n : Int) ≤ 1000000 := by have := hnm.out; have := HKM.out; have := HLL.out; omega
                go_wp2_with fail
                go_roundw
                case rel => exact ⟨m + 1, n + 1, _, _, by go_num, by go_num, by have := HKM.out; omega, J10⟩
                case measure => simp [intOf]; have := HKM.out; omega
        · obtain rfl : m = L.length := by omega
          have FA := Lib.hid (show fallAll cuts marks L 0 files = fs from by rw [J.out.fall, List.drop_length]; rfl)
          have HB := Lib.hid HBT.out
          clear hm
          have X5 := Lib.hid J.out.ext
          have NS := J.out.nostr
          have bx := (((((But.refl [w.heap.size] wr).set (p := ⟨w.heap.size, 1, none⟩) (by simp) (.slice a5 L.length c5)).set (p := ⟨w.heap.size, 2, none⟩) (by simp) (.slice a5 L.length c5)).set (p := ⟨w.heap.size, 3, none⟩) (by simp) (.slice none 0 0)).set (p := ⟨w.heap.size, 7, none⟩) (by simp) (.bool false)).set (p := ⟨w.heap.size, 6, none⟩) (by simp) (.int .i64 0)
          have bd := ((((J.out.bd.set_ 1 (.slice a5 L.length c5)).set_ 2 (.slice a5 L.length c5)).set_ 3 (.slice none 0 0)).set_ 7 (.bool false)).set_ 6 (.int .i64 0)
          simp only [List.setIfInBounds_toArray, List.set_cons_succ, List.set_cons_zero] at bd
          have br := J.out.br.but bx (by simp; omega)
          have rf := J.out.ref.fs.butG fC_str J.out.bd NS bx
          have rl := J.out.dirs.butG eC_str J.out.bd NS bx
          have x7 := ((((X5.out.set (p := ⟨w.heap.size, 1, none⟩) (Nat.le_refl _) (.slice a5 L.length c5)).set (p := ⟨w.heap.size, 2, none⟩) (Nat.le_refl _) (.slice a5 L.length c5)).set (p := ⟨w.heap.size, 3, none⟩) (Nat.le_refl _) (.slice none 0 0)).set (p := ⟨w.heap.size, 7, none⟩) (Nat.le_refl _) (.bool false)).set (p := ⟨w.heap.size, 6, none⟩) (Nat.le_refl _) (.int .i64 0)
          have c1 : wr.cell? ⟨w.heap.size, 1, none⟩ = some (.slice bD dir.length eD) := J.out.bd.cell 1
          have c2 : wr.cell? ⟨w.heap.size, 2, none⟩ = some (.slice bS safe.length eS) := J.out.bd.cell 2
          have c3 : wr.cell? ⟨w.heap.size, 3, none⟩ = some (.slice bC chs.length eC') := J.out.bd.cell 3
          have c6 : wr.cell? ⟨w.heap.size, 6, none⟩ = some (.int .i64 armed) := J.out.bd.cell 6
          have c7 : wr.cell? ⟨w.heap.size, 7, none⟩ = some (.bool dead) := J.out.bd.cell 7
          have f1 := J.out.bd.frozen 1
          have f2 := J.out.bd.frozen 2
          have f3 := J.out.bd.frozen 3
          have f6 := J.out.bd.frozen 6
          have f7 := J.out.bd.frozen 7
          have BD := Lib.hid bd
          have BR := Lib.hid br
          have RF := Lib.hid rf
          have RL := Lib.hid rl
          have X7 := Lib.hid x7
          have DS := Lib.hid (show (Tryz.prog.info? 33).map (·.size) = some (#[.slice bF fs.length eF, .slice a5 L.length c5, .slice a5 L.length c5, .slice none 0 0, .int .i64 cap, .int .i64 ops, .int .i64 0, .bool false] : Array Value).size from rdisk_size)
          have DO := Lib.hid (disk_all _ _ _ _ (sl_ex bF fs.length eF) (sl_ex a5 L.length c5) (sl_ex a5 L.length c5) (sl_ex none 0 0) cap ops 0 false)
          clear bd br rf rl x7 bx NS J
          go_wp2_with (refine wpList_hold 94 rfl ?_)
          refine ⟨?_⟩
          generalize ((((wr.setCell ⟨w.heap.size, 1, none⟩ (.slice a5 L.length c5)).setCell ⟨w.heap.size, 2, none⟩ (.slice a5 L.length c5)).setCell ⟨w.heap.size, 3, none⟩ (.slice none 0 0)).setCell ⟨w.heap.size, 7, none⟩ (.bool false)).setCell ⟨w.heap.size, 6, none⟩ (.int .i64 0) = W9 at *
          clear c1 c2 c3 c6 c7 f1 f2 f3 f6 f7
          refine wpList_load_blk rfl 33 (.tmp 2) rfl rfl BD.out Tryz.underlying33 rfl DS.out ?_
          go_wp2_with (refine wpList_store_blk rfl 33 (.tmp 4) (.tmp 94) rfl rfl rfl BR.out rfl DS.out DO.out ?_; refine Held.go ?_)
          refine ⟨?_⟩
          go_wp2
          have bx2 := But.row1 W9 (w.heap.size + 1 + 1) #[.slice bF fs.length eF, .slice a5 L.length c5, .slice a5 L.length c5, .slice none 0 0, .int .i64 cap, .int .i64 ops, .int .i64 0, .bool false]
          refine bodyPost_ret (results_cell_row rfl _ _ (w.heap.size + 1 + 1) _ _ (0, 0) _ rfl (BR.out.setRow _) Tryz.underlying33 rfl DS.out) rfl ⟨⟨.slice bF fs.length eF, .slice a5 L.length c5, .slice a5 L.length c5, .slice none 0 0⟩, ?_, ?_, X7.out.setRow (by omega) _⟩
          · rw [HB.out]
          · rw [HB.out]
            exact ⟨by rw [FA.out]; exact RF.out.butG fC_str BR.out zero_nostr bx2, RL.out.butG eC_str BR.out zero_nostr bx2, RL.out.butG eC_str BR.out zero_nostr bx2, RK.nil _⟩
end Go.Proofs.YtfipfljiohdlhaaGreat
