/- Several texts in one. merged: TnE TnF TnK TnH TnI -/
import Derived.Test.YtmjkfgpkohfmiaaGreatMgAe
import Derived.Test.YtmjkfgpkohfmiaaGreatMgAk
import Derived.Test.YtmjkfgpkohfmiaaGreatMgAa
import Derived.Sort.OwnSorted
namespace Go.Proofs.YtmjkfgpkohfmiaaGreat
set_option linter.unusedVariables false
set_option linter.unusedSimpArgs false
open Go.RowKit

attribute [local go_sem] S_size S_toList S_append S_extract S_beq S_bne S_empty S_nil

theorem manB_short {m : Man} (h : maniP m = true) : (manB m).length ≤ 9050 := by
  have h1 := rowP_len (mani_row h).2.1
  have h2 := puts_len (manK m m.ents.length)
  rw [manK_length m _ (Nat.le_refl _)] at h2
  unfold manB
  rw [if_pos h]; omega
/-- the manifest's file -/
def manT (m : Man) : List UInt8 := frameB 4 (manB m)
theorem manT_len {m : Man} (h : maniP m = true) : (manT m).length ≤ 9059 := by
  have := manB_short h
  unfold manT
  rw [frameB_length]; omega
def Dsk.saveM (d : Dsk) (m : Man) : Dsk × Int := if maniP m = true then d.save (manT m) else (d, 250)
theorem save_ops (d : Dsk) (t : List UInt8) : (d.save t).1.ops ≤ d.ops + 6 := by
  have h1 := begun_ops d
  have h2 := laid_ops d.begun.1 t
  have h3 := rename_ops (d.begun.1.laid t).1 tmpN maniN
  have h4 : ((d.begun.1.laid t).1.rename tmpN maniN).1.dirSync.1.ops ≤ ((d.begun.1.laid t).1.rename tmpN maniN).1.ops + 1 := by
    unfold Dsk.dirSync
    (repeat' split) <;> simp only [Dsk.cnt] <;> omega
  unfold Dsk.save
  (repeat' split) <;> omega
set_option maxRecDepth 20000 in
set_option maxHeartbeats 4000000 in
theorem save_any {w : World} {b : Nat} {K : List Nat} {d : Dsk} (h : Has w b K d) (hop : d.ops ≤ 800000) (m : Man) (v : Value) (hr : RR entC 9 w v m.ents) :
    Calls Tryz.prog 8 #[.pointer (some ⟨b, 0, none⟩), .agg (manC m v)] w fun e w' => e = .returned (.int .i64 (d.saveM m).2) ∧ ∃ K', Has w' b K' (d.saveM m).1 ∧ Stp K K' w w' := by
  have X0 := Lib.hid ((Ext.refl w).alloc (.cells (manC m v) 39))
  have QE := Lib.hid (mEncode_any m v _ (hr.ext X0.out))
  have H0 := Lib.hid (h.ext X0.out)
  have B1 := Lib.hid (Blk.new w 39 (manC m v))
  have MS := Lib.hid (show (Tryz.prog.info? 39).map (·.size) = some (manC m v).size from man_size)
  clear hr h
  cases hp : maniP m with
  | false =>
    rw [hp] at QE
    rw [show d.saveM m = (d, 250) by unfold Dsk.saveM; rw [hp]; rfl]
    simp only [errI, Bool.false_eq_true, if_false] at QE
    clear hp
    generalize manC m v = mc at *
    generalize manB m = mb at *
    go_enter Tryz.func8, Tryz.ntmps8
    go_wp2_with (refine wpList_load_blk rfl 39 (.tmp 3) rfl rfl B1.out Tryz.underlying39 rfl MS.out ?_; refine Held.go ?_)
    refine ⟨?_⟩
    go_wp2_with fail
    refine Calls.mono QE.out ?_
    rintro _ w1 ⟨rfl, x1⟩
    have X1 := Lib.hid x1
    clear x1
    go_wp2
    go_ret
    exact ⟨rfl, K, H0.out.ext X1.out, Stp.of_ext (X0.out.trans X1.out)⟩
  | true =>
    have hbl := manB_short hp
    have ML := Lib.hid (manT_len hp)
    have PE := Lib.hid (show putFE 4 (manB m).length = 0 by unfold putFE; rw [if_pos (by decide), if_pos (by omega)])
    have PB := Lib.hid (show putB 4 (manB m) = manT m by unfold putB; rw [PE.out]; rfl)
    have QP := Lib.hid (fun w => fPut_any 4 (manB m) w (by omega))
    rw [PE.out, PB.out] at QP
    rw [hp] at QE
    rw [show d.saveM m = d.save (manT m) by unfold Dsk.saveM; rw [if_pos hp]]
    simp only [errI, if_true] at QE
    clear hp PE PB hbl
    generalize manT m = t at *
    generalize manC m v = mc at *
    generalize manB m = mb at *
    obtain ⟨r, hr⟩ : ∃ r, r = d.save t := ⟨_, rfl⟩
    rw [← hr]
    have R1 := Lib.hid (show ¬ d.begun.2 = 0 → r = d.begun from fun hm => by rw [hr]; unfold Dsk.save; rw [if_neg hm])
    have R2 := Lib.hid (show d.begun.2 = 0 → ¬ (d.begun.1.laid t).2 = 0 → r = d.begun.1.laid t from fun h1 hm => by rw [hr]; unfold Dsk.save; rw [if_pos h1, if_neg hm])
    have R3 := Lib.hid (show d.begun.2 = 0 → (d.begun.1.laid t).2 = 0 → ¬ ((d.begun.1.laid t).1.rename tmpN maniN).2 = 0 → r = (d.begun.1.laid t).1.rename tmpN maniN from fun h1 h2 hm => by rw [hr]; unfold Dsk.save; rw [if_pos h1, if_pos h2, if_neg hm])
    have R4 := Lib.hid (show d.begun.2 = 0 → (d.begun.1.laid t).2 = 0 → ((d.begun.1.laid t).1.rename tmpN maniN).2 = 0 → r = ((d.begun.1.laid t).1.rename tmpN maniN).1.dirSync from fun h1 h2 hm => by rw [hr]; unfold Dsk.save; rw [if_pos h1, if_pos h2, if_pos hm])
    clear hr
    have O1 := Lib.hid (begun_ops d)
    have O2 := Lib.hid (laid_ops d.begun.1 t)
    have O3 := Lib.hid (rename_ops (d.begun.1.laid t).1 tmpN maniN)
    have hmf : ∀ (fn : Fn) (first cap : Array Value) (w : World), (Instr.makeFunc fn first cap).run Tryz.prog w = .ok (.func fn first cap) w := fun _ _ _ _ => rfl
    go_enter Tryz.func8, Tryz.ntmps8
    go_wp2_with (refine wpList_load_blk rfl 39 (.tmp 3) rfl rfl B1.out Tryz.underlying39 rfl MS.out ?_; refine Held.go ?_)
    refine ⟨?_⟩
    go_wp2_with fail
    refine Calls.mono QE.out ?_
    rintro _ w1 ⟨rfl, x1⟩
    have X1 := Lib.hid (X0.out.trans x1)
    have H1 := Lib.hid (H0.out.ext x1)
    clear x1 X0 H0 B1
    go_wp2_with fail
    refine (QP.out _).mono ?_
    rintro _ w2 ⟨rfl, x2⟩
    have X2 := Lib.hid (X1.out.trans x2)
    have H2 := Lib.hid (H1.out.ext x2)
    clear x2 X1 H1
    go_wp2_with fail
    refine (begun_any H2.out (by omega)).mono ?_
    rintro _ w3 ⟨rfl, K3, h3, st3⟩
    have H3 := Lib.hid h3
    have S3 := Lib.hid ((Stp.of_ext X2.out).trans st3)
    clear h3 st3
    by_cases hz : d.begun.2 = 0
    case neg =>
      have e := R1.out hz
      rw [← e] at hz
      rw [show d.begun.2 = r.2 from by rw [e]]
      have I3 := Lib.hid (show Has w3 b K3 r.1 from by rw [e]; exact H3.out)
      clear e R2 R3 R4
      go_wp2
      go_ret
      exact ⟨rfl, K3, I3.out, S3.out⟩
    have Z1 := Lib.hid hz
    rw [hz]
    clear hz
    go_wp2_with fail
    refine (laid_any H3.out (by have := O1.out; omega) t (by have := ML.out; unfold maxLen; omega)).mono ?_
    rintro _ w4 ⟨rfl, K4, h4, st4⟩
    have H4 := Lib.hid h4
    have S4 := Lib.hid (S3.out.trans st4)
    clear h4 st4 H3 S3
    by_cases hz : (d.begun.1.laid t).2 = 0
    case neg =>
      have e := R2.out Z1.out hz
      rw [← e] at hz
      rw [show (d.begun.1.laid t).2 = r.2 from by rw [e]]
      have I3 := Lib.hid (show Has w4 b K4 r.1 from by rw [e]; exact H4.out)
      clear e R1 R3 R4
      go_wp2
      go_ret
      exact ⟨rfl, K4, I3.out, S4.out⟩
    have Z2 := Lib.hid hz
    rw [hz]
    clear hz
    go_wp2_with fail
    refine (temp_any _).mono ?_
    rintro _ w5 ⟨rfl, rfl⟩
    go_wp2_with fail
    refine (manifest_any _).mono ?_
    rintro _ w5 ⟨rfl, rfl⟩
    go_wp2_with fail
    refine (has_rename H4.out (by have := O1.out; have := O2.out; omega) tmpN tmp_max maniN maniN_max).mono ?_
    rintro _ w5 ⟨rfl, K5, h5, st5⟩
    have H5 := Lib.hid h5
    have S5 := Lib.hid (S4.out.trans st5)
    clear h5 st5 H4 S4
    by_cases hz : ((d.begun.1.laid t).1.rename tmpN maniN).2 = 0
    case neg =>
      have e := R3.out Z1.out Z2.out hz
      rw [← e] at hz
      rw [show ((d.begun.1.laid t).1.rename tmpN maniN).2 = r.2 from by rw [e]]
      have I3 := Lib.hid (show Has w5 b K5 r.1 from by rw [e]; exact H5.out)
      clear e R1 R2 R4
      go_wp2
      go_ret
      exact ⟨rfl, K5, I3.out, S5.out⟩
    have e := R4.out Z1.out Z2.out hz
    rw [hz]
    clear hz
    go_wp2_with fail
    refine (has_dirSync H5.out (by have := O1.out; have := O2.out; have := O3.out; omega)).mono ?_
    rintro _ w6 ⟨rfl, K6, h6, st6⟩
    rw [← e] at h6 ⊢
    clear e R1 R2 R3
    go_wp2
    go_ret
    exact ⟨rfl, K6, h6, S5.out.trans st6⟩
end Go.Proofs.YtmjkfgpkohfmiaaGreat
namespace Go.Proofs.YtmjkfgpkohfmiaaGreat
set_option linter.unusedVariables false
set_option linter.unusedSimpArgs false
open Go.RowKit

attribute [local go_sem] S_size S_toList S_append S_extract S_beq S_bne S_empty S_nil man_zero man_build0 frame_zero

/-- the manifest that is loaded, and what is told -/
def loadT (s : List UInt8) : Man × Int :=
  if getE s 0 = 0 then
    if (getF s 0).kind = 4 ∧ (getF s 0).to = (s.length : Int) then (xM (decM (getF s 0).body), xE (decM (getF s 0).body)) else (zM, 250)
  else (zM, getE s 0)
def Dsk.loadM (d : Dsk) : Man × Int := if (d.read maniN).2 = 0 then loadT (d.read maniN).1 else (zM, (d.read maniN).2)
/-- a manifest's file tells it -/
theorem load_manT {m : Man} (h : maniP m = true) : loadT (manT m) = (m, 0) := by
  have hs := manB_short h
  have hf := frame_here [] 4 (manB m) [] (by decide) (by omega)
  simp only [List.nil_append, List.append_nil, List.length_nil] at hf
  unfold loadT
  rw [show ((0 : Nat) : Int) = 0 from rfl] at hf
  unfold manT
  rw [if_pos hf.1, hf.2, frameB_length, decM_manB h, if_pos ⟨rfl, by simp only; omega⟩]
  rfl
theorem getF_body (l : List UInt8) (a : Int) : (getF l a).body.length ≤ l.length := by
  unfold getF
  split
  · simp only [List.length_drop, List.length_take]; omega
  · simp
theorem man_oneS (m : Man) (a : Option Addr) (n c : Nat) : (manC m (.slice a n c)).all (·.oneCell') = true := by kernel_rfl
theorem RR.but {α : Type} {f : α → List Value} {n : Nat} {w w' : World} {v : Value} {l : List α} {K : List Nat} (h : RR f n w v l) (hf : ∀ x, (f x).length = n) (h0 : 0 < n) (x : But K w w') (hK : ∀ k, v.ownBlock = some k → k ∉ K) : RR f n w' v l := by
  obtain ⟨a, c, rfl, h0', hn, h2⟩ := h
  refine ⟨a, c, rfl, h0', hn, fun hl => ?_⟩
  obtain ⟨g, o, rfl, h4⟩ := h2 hl
  refine ⟨g, o, rfl, fun k y hk j u hu => ?_⟩
  have hc := h4 k y hk j u hu
  have hlt : g < w.heap.size := by
    rcases Nat.lt_or_ge g w.heap.size with h | h
    · exact h
    · unfold World.cell? at hc; simp [h] at hc
  unfold World.cell? at hc ⊢
  rw [x.block g hlt (hK g rfl)]
  exact hc
/-- rows of longer elements do not lie in a short block -/
theorem RR.far {α : Type} {f : α → List Value} {n : Nat} {w : World} {v : Value} {l : List α} (h : RR f n w v l) (hf : ∀ x, (f x).length = n) {g : Nat} {t : TypeId} {cs : Array Value} (hb : Blk w g t cs) (hs : cs.size < n) (cs' : Array Value) : RR f n (w.setRow g cs') v l := by
  obtain ⟨a, c, h1, h0, hn, h2⟩ := h
  refine ⟨a, c, h1, h0, hn, fun hl => ?_⟩
  obtain ⟨g', o, h3, h4⟩ := h2 hl
  have hne : g ≠ g' := by
    rintro rfl
    obtain ⟨x, hx⟩ : ∃ x, l[0]? = some x := ⟨_, List.getElem?_eq_getElem hl⟩
    have hr := h4 0 x hx
    have hj : cs.size < (f x).length := by rw [hf]; exact hs
    have := hr cs.size _ (List.getElem?_eq_getElem hj)
    rw [hb.cell, Array.getElem?_eq_none (by omega)] at this
    cases this
  refine ⟨g', o, h3, fun k x hk j u hu => ?_⟩
  have := h4 k x hk j u hu
  rw [← this]
  unfold World.cell?
  rw [setRow_other w g g' cs' (fun e => hne e.symm)]
set_option maxRecDepth 20000 in
set_option maxHeartbeats 4000000 in
theorem load_any {w : World} {b : Nat} {K : List Nat} {d : Dsk} (h : Has w b K d) (hop : d.ops ≤ 1000000) :
    Calls Tryz.prog 14 #[.pointer (some ⟨b, 0, none⟩)] w fun e w' => ∃ u, e = .returned (.tuple #[.agg (manC d.loadM.1 u), .int .i64 d.loadM.2]) ∧ Ext w w' ∧ RR entC 9 w' u d.loadM.1.ents ∧ ∀ k, u.ownBlock = some k → w.heap.size ≤ k := by
  obtain ⟨r, hr⟩ : ∃ r, r = d.loadM := ⟨_, rfl⟩
  rw [← hr]
  have RL := read_len h.ok maniN
  have R1 := Lib.hid (show ¬ (d.read maniN).2 = 0 → r = (zM, (d.read maniN).2) from fun hm => by rw [hr]; unfold Dsk.loadM; rw [if_neg hm])
  have R2 := Lib.hid (show (d.read maniN).2 = 0 → r = loadT (d.read maniN).1 from fun hm => by rw [hr]; unfold Dsk.loadM; rw [if_pos hm])
  clear hr
  have X0 := Lib.hid ((Ext.refl w).alloc (.cells #[.int .i64 0, .int .i64 0, .int .i64 0, .int .i64 0, .slice none 0 0] 39))
  have B0 := Lib.hid (Blk.new w 39 #[.int .i64 0, .int .i64 0, .int .i64 0, .int .i64 0, .slice none 0 0])
  have MS := Lib.hid (show (Tryz.prog.info? 39).map (·.size) = some 5 from man_size)
  have QR := Lib.hid (has_read (h.ext X0.out) hop maniN maniN_max)
  generalize d.read maniN = rd at *
  obtain ⟨s, z⟩ := rd
  dsimp only at *
  go_enter Tryz.func14, Tryz.ntmps14
  go_wp2_with fail
  refine (manifest_any _).mono ?_
  rintro _ w1 ⟨rfl, rfl⟩
  go_wp2_with fail
  refine Calls.mono QR.out ?_
  rintro _ w1 ⟨rfl, rfl⟩
  by_cases hz : z = 0
  case neg =>
    have e := R1.out hz
    subst e
    go_wp2_with (refine wpList_store_blk rfl 39 (.tmp 2) (.tmp 15) rfl rfl rfl B0.out rfl MS.out (by kernel_rfl) ?_)
    exact bodyPost_ret (results_row_tmp rfl _ _ w.heap.size _ _ (0, 0) _ rfl (B0.out.setRow #[.int .i64 0, .int .i64 0, .int .i64 0, .int .i64 0, .slice none 0 0]) Tryz.underlying39 rfl MS.out) rfl ⟨.slice none 0 0, rfl, X0.out.setRow (Nat.le_refl _) _, RR.nil _, fun k hk => by cases hk⟩
  subst hz
  have hr := R2.out rfl
  have BD := Lib.hid (getF_body s 0)
  have R3 := Lib.hid (show ¬ getE s 0 = 0 → r = (zM, getE s 0) from fun hm => by rw [hr]; unfold loadT; rw [if_neg hm])
  have R4 := Lib.hid (show getE s 0 = 0 → ¬ ((getF s 0).kind = 4 ∧ (getF s 0).to = (s.length : Int)) → r = (zM, 250) from fun h1 hm => by rw [hr]; unfold loadT; rw [if_pos h1, if_neg hm])
  have R5 := Lib.hid (show getE s 0 = 0 → (getF s 0).kind = 4 → (getF s 0).to = (s.length : Int) → r = (xM (decM (getF s 0).body), xE (decM (getF s 0).body)) from fun h1 h2 h3 => by rw [hr]; unfold loadT; rw [if_pos h1, if_pos ⟨h2, h3⟩])
  clear hr R1 R2
  have QG := Lib.hid (fun w => fGet_any s 0 w (by omega))
  generalize getF s 0 = f at *
  generalize getE s 0 = ge at *
  obtain ⟨fk, fb, fa, ft⟩ := f
  dsimp only [f4C] at *
  go_wp2_with fail
  refine (QG.out _).mono ?_
  rintro _ w2 ⟨rfl, x2⟩
  have X2 := Lib.hid (X0.out.trans x2)
  have B2 := Lib.hid (B0.out.ext x2)
  clear x2 X0 B0 QR QG h
  have X3 := Lib.hid (X2.out.alloc (.cells #[.int .i64 fk, .string (S fb), .int .i64 fa, .int .i64 ft] 89))
  have B3 := Lib.hid (B2.out.alloc (.cells #[.int .i64 fk, .string (S fb), .int .i64 fa, .int .i64 ft] 89))
  have F2 := Blk.new w2 89 #[.int .i64 fk, .string (S fb), .int .i64 fa, .int .i64 ft]
  have F0 := F2.cell 0
  have F1 := F2.cell 1
  have F3 := F2.cell 3
  simp at F0 F1 F3
  clear X2 B2 F2
  by_cases hz : ge = 0
  case neg =>
    have e := R3.out hz
    subst e
    clear F0 F1 F3
    go_wp2_with (refine wpList_store_new rfl 89 (.tmp 6) (.tmp 20) rfl rfl rfl rfl frame_size (by kernel_rfl) ?_; refine Held.go ?_)
    refine ⟨?_⟩
    go_wp2_with (refine wpList_store_blk rfl 39 (.tmp 2) (.tmp 24) rfl rfl rfl B3.out rfl MS.out (by kernel_rfl) ?_)
    exact bodyPost_ret (results_row_tmp rfl _ _ w.heap.size _ _ (0, 0) _ rfl (B3.out.setRow #[.int .i64 0, .int .i64 0, .int .i64 0, .int .i64 0, .slice none 0 0]) Tryz.underlying39 rfl MS.out) rfl ⟨.slice none 0 0, rfl, X3.out.setRow (Nat.le_refl _) _, RR.nil _, fun k hk => by cases hk⟩
  subst hz
  go_wp2_with (refine wpList_store_new rfl 89 (.tmp 6) (.tmp 20) rfl rfl rfl rfl frame_size (by kernel_rfl) ?_; refine Held.go ?_)
  refine ⟨?_⟩
  by_cases h4 : fk = 4
  case neg =>
    have e := R4.out (by trivial) (fun h => h4 h.1)
    subst e
    have b4 : (fk != 4) = true := by simpa using h4
    go_wp2_with (refine wpList_store_blk rfl 39 (.tmp 2) (.tmp 36) rfl rfl rfl B3.out rfl MS.out (by kernel_rfl) ?_)
    exact bodyPost_ret (results_row_tmp rfl _ _ w.heap.size _ _ (0, 0) _ rfl (B3.out.setRow #[.int .i64 0, .int .i64 0, .int .i64 0, .int .i64 0, .slice none 0 0]) Tryz.underlying39 rfl MS.out) rfl ⟨.slice none 0 0, rfl, X3.out.setRow (Nat.le_refl _) _, RR.nil _, fun k hk => by cases hk⟩
  subst h4
  by_cases ht : ft = (s.length : Int)
  case neg =>
    have e := R4.out (by trivial) (fun h => ht h.2)
    subst e
    have b4 : (ft != (s.length : Int)) = true := by simpa using ht
    go_wp2_with (refine wpList_store_blk rfl 39 (.tmp 2) (.tmp 36) rfl rfl rfl B3.out rfl MS.out (by kernel_rfl) ?_)
    exact bodyPost_ret (results_row_tmp rfl _ _ w.heap.size _ _ (0, 0) _ rfl (B3.out.setRow #[.int .i64 0, .int .i64 0, .int .i64 0, .int .i64 0, .slice none 0 0]) Tryz.underlying39 rfl MS.out) rfl ⟨.slice none 0 0, rfl, X3.out.setRow (Nat.le_refl _) _, RR.nil _, fun k hk => by cases hk⟩
  have e := R5.out (by trivial) (by trivial) ht
  subst ht
  have HE := Lib.hid e
  have b4 : ((s.length : Int) != (s.length : Int)) = false := by simp
  have QD := Lib.hid (fun w => mDecode_any fb w (by have := BD.out; omega))
  clear e R3 R4 R5
  go_wp2_with fail
  refine (QD.out _).mono ?_
  rintro _ w3 ⟨u, rfl, x3, rr, fr⟩
  have FR := Lib.hid (fun k hk => Nat.le_trans X3.out.size (fr k hk))
  clear fr
  have e := HE.out
  obtain ⟨a, n, c, rfl⟩ : ∃ a n c, u = .slice a n c := by obtain ⟨a, c, h1, _⟩ := rr; exact ⟨a, _, c, h1⟩
  have e1 : xM (decM fb) = r.1 := by rw [e]
  have e2 : xE (decM fb) = r.2 := by rw [e]
  rw [e1] at rr ⊢
  rw [e2]
  have X4 := Lib.hid (X3.out.trans x3)
  have B4 := Lib.hid (B3.out.ext x3)
  have RRu := Lib.hid rr
  have MS' := Lib.hid (show (Tryz.prog.info? 39).map (·.size) = some (manC r.1 (.slice a n c)).size from man_size)
  have ON := Lib.hid (man_oneS r.1 a n c)
  have SZ := Lib.hid (show (#[.int .i64 0, .int .i64 0, .int .i64 0, .int .i64 0, .slice none 0 0] : Array Value).size = (manC r.1 (.slice a n c)).size from rfl)
  clear e e1 e2 rr x3 X3 B3 QD HE F0 F1 F3
  obtain ⟨mc, hmc⟩ : ∃ mc, mc = manC r.1 (.slice a n c) := ⟨_, rfl⟩
  rw [← hmc] at MS' ON SZ ⊢
  have HM := Lib.hid hmc
  clear hmc
  go_wp2_with (refine wpList_store_blk rfl 39 (.tmp 2) (.tmp 40) rfl rfl rfl B4.out SZ.out MS'.out ON.out ?_)
  exact bodyPost_ret (results_row_tmp rfl _ _ w.heap.size _ _ (0, 0) _ rfl (B4.out.setRow mc) Tryz.underlying39 rfl MS'.out) rfl ⟨.slice a n c, by rw [HM.out]; rfl, X4.out.setRow (Nat.le_refl _) _, RRu.out.far entC_length B4.out (by simp) mc, FR.out⟩
end Go.Proofs.YtmjkfgpkohfmiaaGreat
namespace Go.Proofs.YtmjkfgpkohfmiaaGreat
set_option linter.unusedVariables false
set_option linter.unusedSimpArgs false
set_option linter.unusedSectionVars false
open Go.RowKit

/-- the directory: no manifest, or the manifest alone -/
def Lone (L : List (List UInt8 × Nat)) : Prop := L = [] ∨ ∃ n, L = [(maniN, n)]
theorem chk_tmp : chk tmpN = 0 := by decide +kernel
theorem chk_mani : chk maniN = 0 := by decide +kernel
theorem tmp_ne : tmpN ≠ maniN := by decide +kernel
section
variable {L : List (List UInt8 × Nat)} (hL : Lone L)
include hL
theorem lone_tmp : tmpN ∉ L.map (·.1) := by
  rcases hL with rfl | ⟨n, rfl⟩
  · simp
  · simp only [List.map_cons, List.map_nil, List.mem_singleton]; exact tmp_ne
theorem lone_get : dGet tmpN L = none := by
  rcases hL with rfl | ⟨n, rfl⟩ <;> rfl
theorem lone_len : L.length ≤ 1 := by
  rcases hL with rfl | ⟨n, rfl⟩ <;> simp
theorem lone_put (m : Nat) : appC L (tmpN, [], some m) = L ++ [(tmpN, m)] := by
  rcases hL with rfl | ⟨n, rfl⟩ <;> rfl
theorem lone_get2 (m : Nat) : dGet tmpN (L ++ [(tmpN, m)]) = some m := by
  rcases hL with rfl | ⟨n, rfl⟩ <;> rfl
theorem lone_ren (m : Nat) : appC (L ++ [(tmpN, m)]) (maniN, tmpN, some m) = [(maniN, m)] := by
  rcases hL with rfl | ⟨n, rfl⟩ <;> rfl
end
def tl (a : Int) : Int := if a = 1 then 200 else 0
def dn (a : Int) : Int := max (a - 1) 0
section
variable {L : List (List UInt8 × Nat)} (hL : Lone L) (fs : List (List UInt8 × List UInt8)) (c o a : Int) (T : List UInt8)
include hL
theorem st_begun : (⟨fs, L, L, [], c, o, a, false⟩ : Dsk).begun = (⟨fs, L, L, [], c, o, a, false⟩, 0) := by
  unfold Dsk.begun
  exact if_neg (lone_tmp hL)
theorem st_create : (⟨fs, L, L, [], c, o, a, false⟩ : Dsk).create tmpN = (⟨fs ++ [([], [])], L ++ [(tmpN, fs.length)], L, [(tmpN, [], some fs.length)], c, o + 1, dn a, a == 1⟩, tl a) := by
  have := lone_len hL
  unfold Dsk.create
  rw [if_neg (by simp), if_neg (by rw [chk_tmp]; simp), if_neg (by simp only; rw [lone_get hL]; simp), if_neg (by simp only; omega)]
  unfold Dsk.chg Dsk.cnt Dsk.tld
  simp only [lone_put hL, List.nil_append]
  rfl
theorem st_append (C : List (List UInt8 × List UInt8 × Option Nat)) (h1 : (T.length : Int) ≤ 1000000) (h2 : (⟨fs ++ [([], [])], L ++ [(tmpN, fs.length)], L, C, c, o, a, false⟩ : Dsk).used + T.length ≤ c) :
    (⟨fs ++ [([], [])], L ++ [(tmpN, fs.length)], L, C, c, o, a, false⟩ : Dsk).append tmpN T = (⟨fs ++ [([], T)], L ++ [(tmpN, fs.length)], L, C, c, o + 1, dn a, a == 1⟩, tl a) := by
  have e : (⟨fs ++ [([], [])], L ++ [(tmpN, fs.length)], L, C, c, o, a, false⟩ : Dsk).file fs.length = ([], []) := by unfold Dsk.file; simp
  have ea : fappend ([], []) T = (([], T), 0) := by
    unfold fappend
    rw [if_neg (by simp only [List.length_nil]; omega)]; simp
  unfold Dsk.append
  rw [if_neg (by simp)]
  simp only [lone_get2 hL, e, ea]
  rw [if_neg (by simp), if_neg (by omega)]
  unfold Dsk.put Dsk.cnt Dsk.tld
  simp only [List.set_append_right _ _ (Nat.le_refl _), Nat.sub_self, List.set_cons_zero]
  rfl
theorem st_sync (C : List (List UInt8 × List UInt8 × Option Nat)) :
    (⟨fs ++ [([], T)], L ++ [(tmpN, fs.length)], L, C, c, o, a, false⟩ : Dsk).sync tmpN = if a = 1 then (⟨fs ++ [([], T)], L ++ [(tmpN, fs.length)], L, C, c, o + 1, dn a, a == 1⟩, 200) else (⟨fs ++ [(T, T)], L ++ [(tmpN, fs.length)], L, C, c, o + 1, dn a, a == 1⟩, 0) := by
  have e : (⟨fs ++ [([], T)], L ++ [(tmpN, fs.length)], L, C, c, o, a, false⟩ : Dsk).file fs.length = ([], T) := by unfold Dsk.file; simp
  unfold Dsk.sync
  rw [if_neg (by simp)]
  simp only [lone_get2 hL, e]
  split
  · rfl
  · unfold Dsk.put Dsk.cnt
    simp only [List.set_append_right _ _ (Nat.le_refl _), Nat.sub_self, List.set_cons_zero]
    rfl
theorem st_rename (C : List (List UInt8 × List UInt8 × Option Nat)) (fs2 : List (List UInt8 × List UInt8)) :
    (⟨fs2, L ++ [(tmpN, fs.length)], L, C, c, o, a, false⟩ : Dsk).rename tmpN maniN = (⟨fs2, [(maniN, fs.length)], L, C ++ [(maniN, tmpN, some fs.length)], c, o + 1, dn a, a == 1⟩, tl a) := by
  unfold Dsk.rename
  rw [if_neg (by simp)]
  simp only [lone_get2 hL]
  rw [if_neg (by rw [chk_mani]; simp), if_neg tmp_ne]
  unfold Dsk.chg Dsk.cnt Dsk.tld
  simp only [lone_ren hL]
  rfl
theorem st_dirSync (C : List (List UInt8 × List UInt8 × Option Nat)) (fs2 : List (List UInt8 × List UInt8)) (D : List (List UInt8 × Nat)) :
    (⟨fs2, D, L, C, c, o, a, false⟩ : Dsk).dirSync = if a = 1 then (⟨fs2, D, L, C, c, o + 1, dn a, a == 1⟩, 200) else (⟨fs2, D, D, [], c, o + 1, dn a, a == 1⟩, 0) := by
  unfold Dsk.dirSync
  rw [if_neg (by simp)]
  simp only
  split <;> rfl
end
/-- the manifest alone is there, and holds a text -/
structure HoldD (d : Dsk) (n : Nat) (T : List UInt8) : Prop where
  dead : d.dead = false
  dir : d.dir = [(maniN, n)]
  safe : d.safe = [(maniN, n)]
  chs : d.chs = []
  lt : n < d.files.length
  file : d.file n = (T, T)
/-- whatever is left of the directory, the manifest holds one of two texts -/
def Fell (d : Dsk) (T0 T : List UInt8) : Prop := ∀ k : Int, ∃ i, dGet maniN (d.left k) = some i ∧ (d.file i = (T0, T0) ∨ d.file i = (T, T))
theorem HoldD.fell {d : Dsk} {n : Nat} {T : List UInt8} (h : HoldD d n T) : Fell d T T := fun k => by
  refine ⟨n, ?_, .inl h.file⟩
  unfold Dsk.left
  rw [h.chs, List.take_nil, h.safe]
  rfl
theorem file_app {fs : List (List UInt8 × List UInt8)} {n : Nat} (hn : n < fs.length) (x : List UInt8 × List UInt8) : (fs ++ [x]).getD n ([], []) = fs.getD n ([], []) := by
  rw [List.getD_eq_getElem?_getD, List.getD_eq_getElem?_getD, List.getElem?_append_left hn]
theorem file_last (fs : List (List UInt8 × List UInt8)) (x : List UInt8 × List UInt8) : (fs ++ [x]).getD fs.length ([], []) = x := by simp
theorem fell_one {fs : List (List UInt8 × List UInt8)} {n : Nat} {T0 T : List UInt8} (hn : n < fs.length) (hf : fs.getD n ([], []) = (T0, T0)) (x : List UInt8 × List UInt8) (D : List (List UInt8 × Nat)) (c o a : Int) (b : Bool) :
    Fell ⟨fs ++ [x], D, [(maniN, n)], [(tmpN, [], some fs.length)], c, o, a, b⟩ T0 T := fun k => by
  refine ⟨n, ?_, .inl ((file_app hn x).trans hf)⟩
  unfold Dsk.left
  simp only
  cases k.toNat with
  | zero => rfl
  | succ j => rw [List.take_succ_cons, List.take_nil]; rfl
theorem fell_two {fs : List (List UInt8 × List UInt8)} {n : Nat} {T0 T : List UInt8} (hn : n < fs.length) (hf : fs.getD n ([], []) = (T0, T0)) (D : List (List UInt8 × Nat)) (c o a : Int) (b : Bool) :
    Fell ⟨fs ++ [(T, T)], D, [(maniN, n)], [(tmpN, [], some fs.length), (maniN, tmpN, some fs.length)], c, o, a, b⟩ T0 T := fun k => by
  unfold Dsk.left
  simp only
  cases k.toNat with
  | zero => exact ⟨n, rfl, .inl ((file_app hn _).trans hf)⟩
  | succ j =>
    cases j with
    | zero => exact ⟨n, rfl, .inl ((file_app hn _).trans hf)⟩
    | succ i => rw [List.take_succ_cons, List.take_succ_cons, List.take_nil]; exact ⟨fs.length, rfl, .inr (file_last fs _)⟩
theorem used_tmp {fs : List (List UInt8 × List UInt8)} {n : Nat} {T0 : List UInt8} (hn : n < fs.length) (hf : fs.getD n ([], []) = (T0, T0)) (S : List (List UInt8 × Nat)) (C : List (List UInt8 × List UInt8 × Option Nat)) (c o a : Int) (b : Bool) :
    (⟨fs ++ [([], [])], [(maniN, n)] ++ [(tmpN, fs.length)], S, C, c, o, a, b⟩ : Dsk).used = T0.length := by
  unfold Dsk.used Dsk.file
  simp only [List.cons_append, List.nil_append, List.map_cons, List.map_nil, file_app hn, hf, file_last, List.sum_cons, List.sum_nil, List.length_nil]
  omega
theorem used_tmp0 (fs : List (List UInt8 × List UInt8)) (S : List (List UInt8 × Nat)) (C : List (List UInt8 × List UInt8 × Option Nat)) (c o a : Int) (b : Bool) :
    (⟨fs ++ [([], [])], [] ++ [(tmpN, fs.length)], S, C, c, o, a, b⟩ : Dsk).used = 0 := by
  unfold Dsk.used Dsk.file
  simp only [List.nil_append, List.map_cons, List.map_nil, file_last, List.sum_cons, List.sum_nil, List.length_nil]
  omega
/-- where the power does not go -/
theorem save_runs {L : List (List UInt8 × Nat)} (hL : Lone L) (fs : List (List UInt8 × List UInt8)) (c o a : Int) (T : List UInt8) (h1 : (T.length : Int) ≤ 1000000)
    (h2 : ∀ o a, (⟨fs ++ [([], [])], L ++ [(tmpN, fs.length)], L, [(tmpN, [], some fs.length)], c, o, a, false⟩ : Dsk).used + T.length ≤ c) (a1 : a ≠ 1) (a2 : dn a ≠ 1) (a3 : dn (dn a) ≠ 1) (a4 : dn (dn (dn a)) ≠ 1) (a5 : dn (dn (dn (dn a))) ≠ 1) :
    (⟨fs, L, L, [], c, o, a, false⟩ : Dsk).save T = (⟨fs ++ [(T, T)], [(maniN, fs.length)], [(maniN, fs.length)], [], c, o + 1 + 1 + 1 + 1 + 1, dn (dn (dn (dn (dn a)))), false⟩, 0) := by
  have t1 : tl a = 0 := if_neg a1
  have t2 : tl (dn a) = 0 := if_neg a2
  have t4 : tl (dn (dn (dn a))) = 0 := if_neg a4
  have b1 : (a == 1) = false := by simpa using a1
  have b2 : (dn a == 1) = false := by simpa using a2
  have b3 : (dn (dn a) == 1) = false := by simpa using a3
  have b4 : (dn (dn (dn a)) == 1) = false := by simpa using a4
  have b5 : (dn (dn (dn (dn a))) == 1) = false := by simpa using a5
  unfold Dsk.save Dsk.laid
  simp only [st_begun hL, st_create hL, t1, b1, if_true, st_append hL fs c _ _ T _ h1 (h2 _ _), t2, b2, st_sync hL, if_neg a3, b3, st_rename hL, t4, b4, st_dirSync hL, if_neg a5, b5]
theorem save_law {d : Dsk} {n : Nat} {T0 T : List UInt8} (h : HoldD d n T0) (h1 : (T.length : Int) ≤ 1000000) (h2 : (T0.length : Int) + T.length ≤ d.cap) :
    ((d.save T).2 = 0 ∧ (∃ n', HoldD (d.save T).1 n' T) ∧ (d.save T).1.cap = d.cap ∧ (d.save T).1.ops ≤ d.ops + 5) ∨ ((d.save T).2 = 200 ∧ Fell (d.save T).1 T0 T) := by
  obtain ⟨fs, D, S, C, c, o, a, b⟩ := d
  obtain ⟨e1, e2, e3, e4, hn, hf⟩ := h
  dsimp only at e1 e2 e3 e4 hn h2
  subst e1 e2 e3 e4
  have hf : fs.getD n ([], []) = (T0, T0) := hf
  have hL : Lone [(maniN, n)] := .inr ⟨n, rfl⟩
  have hu : ∀ o a, (⟨fs ++ [([], [])], [(maniN, n)] ++ [(tmpN, fs.length)], [(maniN, n)], [(tmpN, [], some fs.length)], c, o, a, false⟩ : Dsk).used + T.length ≤ c := fun o a => by
    rw [used_tmp hn hf]; exact h2
  by_cases a1 : a = 1
  · refine .inr ?_
    unfold Dsk.save Dsk.laid
    have t : tl a = 200 := if_pos a1
    simp only [st_begun hL, st_create hL, t, if_true, show ¬ (200 : Int) = 0 by decide, if_false]
    exact ⟨trivial, fell_one hn hf _ _ _ _ _ _⟩
  have b1 : (a == 1) = false := by simpa using a1
  have t1 : tl a = 0 := if_neg a1
  by_cases a2 : dn a = 1
  · refine .inr ?_
    unfold Dsk.save Dsk.laid
    have t : tl (dn a) = 200 := if_pos a2
    simp only [st_begun hL, st_create hL, t1, b1, st_append hL fs c _ _ T _ h1 (hu _ _), t, if_true, show ¬ (200 : Int) = 0 by decide, if_false]
    exact ⟨trivial, fell_one hn hf _ _ _ _ _ _⟩
  have b2 : (dn a == 1) = false := by simpa using a2
  have t2 : tl (dn a) = 0 := if_neg a2
  by_cases a3 : dn (dn a) = 1
  · refine .inr ?_
    unfold Dsk.save Dsk.laid
    simp only [st_begun hL, st_create hL, t1, b1, st_append hL fs c _ _ T _ h1 (hu _ _), t2, b2, st_sync hL, if_pos a3, if_true, show ¬ (200 : Int) = 0 by decide, if_false]
    exact ⟨trivial, fell_one hn hf _ _ _ _ _ _⟩
  have b3 : (dn (dn a) == 1) = false := by simpa using a3
  by_cases a4 : dn (dn (dn a)) = 1
  · refine .inr ?_
    unfold Dsk.save Dsk.laid
    have t : tl (dn (dn (dn a))) = 200 := if_pos a4
    simp only [st_begun hL, st_create hL, t1, b1, st_append hL fs c _ _ T _ h1 (hu _ _), t2, b2, st_sync hL, if_neg a3, b3, st_rename hL, t, if_true, show ¬ (200 : Int) = 0 by decide, if_false]
    exact ⟨trivial, fell_two hn hf _ _ _ _ _⟩
  have b4 : (dn (dn (dn a)) == 1) = false := by simpa using a4
  have t4 : tl (dn (dn (dn a))) = 0 := if_neg a4
  by_cases a5 : dn (dn (dn (dn a))) = 1
  · refine .inr ?_
    unfold Dsk.save Dsk.laid
    simp only [st_begun hL, st_create hL, t1, b1, st_append hL fs c _ _ T _ h1 (hu _ _), t2, b2, st_sync hL, if_neg a3, b3, st_rename hL, t4, b4, st_dirSync hL, if_pos a5, if_true, show ¬ (200 : Int) = 0 by decide, if_false]
    exact ⟨trivial, fell_two hn hf _ _ _ _ _⟩
  refine .inl ?_
  rw [save_runs hL fs c o a T h1 hu a1 a2 a3 a4 a5]
  refine ⟨rfl, ⟨fs.length, ⟨rfl, rfl, rfl, rfl, by simp, file_last fs _⟩⟩, rfl, ?_⟩
  show o + 1 + 1 + 1 + 1 + 1 ≤ o + 5
  omega
theorem save_new (c : Int) (T : List UInt8) (h1 : (T.length : Int) ≤ 1000000) (h2 : (T.length : Int) ≤ c) :
    (Dsk.new c).save T = (⟨[(T, T)], [(maniN, 0)], [(maniN, 0)], [], c, 5, 0, false⟩, 0) := by
  have := save_runs (.inl rfl) [] c 0 0 T h1 (fun o a => by rw [used_tmp0]; omega) (by decide) (by decide) (by decide) (by decide) (by decide)
  exact this
theorem fallAll_one (cuts : List Int) (marks : List (List UInt8)) (i : Nat) (x : List UInt8) : ∀ (L : List (List UInt8 × Nat)) (k : Nat) (fs : List (List UInt8 × List UInt8)), fs.getD i ([], []) = (x, x) → (fallAll cuts marks L k fs).getD i ([], []) = (x, x)
  | [], _, _, h => h
  | p :: r, k, fs, h => by
    unfold fallAll
    simp only
    split
    · exact fallAll_one cuts marks i x r k fs h
    · rename_i hne
      refine fallAll_one cuts marks i x r (k + 1) _ ?_
      by_cases e : p.2 = i
      · rw [e, h] at hne; exact absurd rfl hne
      · rw [List.getD_eq_getElem?_getD, List.getElem?_set_ne e, ← List.getD_eq_getElem?_getD]; exact h
/-- behind the fall one of the two texts is read -/
theorem Fell.read {d : Dsk} {T0 T : List UInt8} (h : Fell d T0 T) (k : Int) (cuts : List Int) (marks : List (List UInt8)) : (d.off.boot k cuts marks).read maniN = (T0, 0) ∨ (d.off.boot k cuts marks).read maniN = (T, 0) := by
  obtain ⟨i, hi, hf⟩ := h k
  have e : (d.off.boot k cuts marks).read maniN = (((d.off.boot k cuts marks).file i).2, 0) := by
    unfold Dsk.read
    rw [if_neg (by simp [Dsk.boot]), show (d.off.boot k cuts marks).dir = d.left k from rfl, hi]
  rw [e]
  rcases hf with hf | hf
  · exact .inl (by rw [show (d.off.boot k cuts marks).file i = (T0, T0) from fallAll_one cuts marks i T0 _ 0 _ hf])
  · exact .inr (by rw [show (d.off.boot k cuts marks).file i = (T, T) from fallAll_one cuts marks i T _ 0 _ hf])
theorem load_of {d : Dsk} {m : Man} (hp : maniP m = true) (h : d.read maniN = (manT m, 0)) : d.loadM = (m, 0) := by
  unfold Dsk.loadM
  rw [h, if_pos rfl]
  exact load_manT hp
end Go.Proofs.YtmjkfgpkohfmiaaGreat
namespace Go.Proofs.YtmjkfgpkohfmiaaGreat
set_option linter.unusedVariables false
set_option linter.unusedSimpArgs false
open Go.RowKit

attribute [local go_sem] S_size S_toList S_append S_extract S_beq S_bne S_empty S_nil

/-- so many digits, from the right -/
def digR (n : Nat) : Nat → List UInt8
  | 0 => []
  | k + 1 => UInt8.ofNat (48 + n / 10 ^ k % 10) :: digR n k
def rowD (n k : Nat) : List UInt8 := List.replicate (6 - k) 0 ++ digR n k
def num6 (n : Nat) : List UInt8 := digR n 6
theorem digR_length (n : Nat) : ∀ k, (digR n k).length = k
  | 0 => rfl
  | k + 1 => by rw [digR, List.length_cons, digR_length n k]
theorem rowD_length (n k : Nat) (hk : k ≤ 6) : (rowD n k).length = 6 := by
  unfold rowD; rw [List.length_append, List.length_replicate, digR_length]; omega
theorem rowD_set (n k : Nat) (hk : k < 6) : (rowD n k).set (5 - k) (UInt8.ofNat (48 + n / 10 ^ k % 10)) = rowD n (k + 1) := by
  unfold rowD
  rw [show 6 - k = (5 - k) + 1 by omega, show 6 - (k + 1) = 5 - k by omega, List.replicate_succ', List.append_assoc, List.set_append_right _ _ (by simp), List.length_replicate, Nat.sub_self]
  rfl
theorem make6 (w : World) : (Instr.makeSlice 105 (.int .i64 6) (.int .i64 6)).run Tryz.prog w = .ok (.slice (some ⟨w.heap.size, 0, none⟩) 6 6) (w.alloc (.cells (b8s [0, 0, 0, 0, 0, 0]).toArray 5)) := by kernel_rfl
theorem bw6_new (w : World) : BW (w.alloc (.cells (b8s [0, 0, 0, 0, 0, 0]).toArray 5)) w.heap.size (.slice (some ⟨w.heap.size, 0, none⟩) 6 6) [0, 0, 0, 0, 0, 0] :=
  ⟨rfl, .inr ⟨w.heap.size, 6, _, rfl, Nat.le_refl _, Blk.new w _ _, by decide, by decide, rfl, rfl⟩⟩
theorem bw6_set {w : World} {B g k : Nat} {l : List UInt8} (h : BW w B (.slice (some ⟨g, 0, none⟩) 6 6) l) (hl : l.length = 6) (b : UInt8) : BW (w.setCell ⟨g, k, none⟩ (.int .u8 (U8 b))) B (.slice (some ⟨g, 0, none⟩) 6 6) (l.set k b) := by
  unfold BW at h ⊢
  have e : (6 : Nat) = (b8s l).length := by rw [b8s_length, hl]
  have h2 : RW w B 5 (.slice (some ⟨g, 0, none⟩) (b8s l).length 6) (b8s l) := by rw [← e]; exact h
  have := h2.set k (.int .u8 (U8 b))
  rw [← e] at this
  rw [show b8s (l.set k b) = (b8s l).set k (.int .u8 (U8 b)) by unfold b8s; rw [List.map_set]]
  exact this
theorem bw6_cell {w : World} {B g : Nat} {l : List UInt8} (h : BW w B (.slice (some ⟨g, 0, none⟩) 6 6) l) (hl : l.length = 6) {k : Nat} (hk : k < 6) : w.cell? ⟨g, k, none⟩ = some (.int .u8 (U8 (l.getD k 0))) ∧ w.frozen? ⟨g, k, none⟩ = false := by
  obtain ⟨a, c, e, _, h2⟩ := h.shape
  injection e with e1 e2 e3
  obtain ⟨g', e4, _, _, h5, h6⟩ := h2 (by omega)
  rw [e4] at e1
  injection e1 with e1
  injection e1 with e1
  subst e1
  exact ⟨h5 k (by omega), h6 k⟩
set_option maxRecDepth 20000 in
set_option maxHeartbeats 1000000 in
theorem number_any (n : Nat) (hn : n ≤ 999999) (w : World) :
    Calls Tryz.prog 93 #[.int .i64 (n : Int)] w fun e w' => e = .returned (.string (S (num6 n))) ∧ Ext w w' := by
  have hmk := make6
  have R0 := Lib.hid (bw6_new w)
  have X0 := Lib.hid ((Ext.refl w).alloc (.cells (b8s [0, 0, 0, 0, 0, 0]).toArray 5))
  go_enter Tryz.func93, Tryz.ntmps93
  go_wp2
  clear hmk
  go_loopw [4, 0] (fun i m wr => ∃ k : Nat, i = .int .i64 (5 - (k : Int)) ∧ k ≤ 6 ∧ m = .int .i64 ((n / 10 ^ k : Nat) : Int) ∧ RowKit.Hid (Ext w wr ∧ BW wr w.heap.size (.slice (some ⟨w.heap.size, 0, none⟩) 6 6) (rowD n k))) (fun i _ _ => (intOf i + 1).toNat)
  case atStart => exact ⟨0, rfl, by omega, by simp, Lib.hid ⟨X0.out, R0.out⟩⟩
  case round =>
    obtain ⟨k, rfl, hk, rfl, HS⟩ := hrel
    clear X0 R0
    by_cases hlt : k < 6
    · obtain ⟨q, hq⟩ : ∃ q, q = n / 10 ^ k := ⟨_, rfl⟩
      have hql : q ≤ 999999 := by rw [hq]; exact Nat.le_trans (Nat.div_le_self _ _) hn
      have q2 : n / 10 ^ (k + 1) = q / 10 := by rw [hq, Nat.pow_succ, Nat.div_div_eq_div_mul]
      have f1 := (bw6_cell HS.out.2 (rowD_length n k hk) (k := 5 - k) (by omega)).2
      have c1 := (bw6_cell HS.out.2 (rowD_length n k hk) (k := 5 - k) (by omega)).1
      have s2 := bw6_set (k := 5 - k) HS.out.2 (rowD_length n k hk) (UInt8.ofNat (48 + n / 10 ^ k % 10))
      rw [rowD_set n k hlt, ← hq, show U8 (UInt8.ofNat (48 + q % 10)) = 48 + (q : Int) % 10 by unfold U8; rw [UInt8.toNat_ofNat']; omega] at s2
      have X2 := Lib.hid (Below.setCell (p := ⟨w.heap.size, 5 - k, none⟩) HS.out.1 (by simp) (.int .u8 (48 + (q : Int) % 10)))
      have S2 := Lib.hid s2
      have Q2 := Lib.hid q2
      rw [← hq]
      clear hq s2 q2
      go_wp2
      go_roundw
      case rel => exact ⟨k + 1, by congr 1; omega, by omega, by rw [Q2.out]; congr 1, Lib.hid ⟨X2.out, S2.out⟩⟩
      case measure => simp [intOf]; omega
    · obtain rfl : k = 6 := by omega
      have cv := HS.out.2.str (by rw [rowD_length n 6 (by omega)]; omega)
      have HN := Lib.hid (show rowD n 6 = num6 n from rfl)
      go_wp2
      go_ret
      exact ⟨by simp [HN.out], HS.out.1⟩
def mayP (n : Int) : Bool := decide (1 ≤ n ∧ n ≤ 999999)
def segP (id gen : Int) : Bool := mayP id && mayP gen
def segB (id gen : Int) : List UInt8 := if segP id gen then [115, 101, 103, 45] ++ num6 id.toNat ++ [45] ++ num6 gen.toNat ++ [46, 108, 111, 103] else []
theorem num6_length (n : Nat) : (num6 n).length = 6 := digR_length n 6
set_option maxRecDepth 20000 in
set_option maxHeartbeats 1000000 in
theorem may_any (n : Int) (w : World) : Calls Tryz.prog 92 #[.int .i64 n] w fun e w' => e = .returned (.bool (mayP n)) ∧ w = w' := by
  by_cases h1 : 1 ≤ n
  · by_cases h2 : n ≤ 999999
    · rw [show mayP n = true from decide_eq_true ⟨h1, h2⟩]
      go_enter Tryz.func92, Tryz.ntmps92
      go_wp2
      go_ret
      exact ⟨rfl, rfl⟩
    · rw [show mayP n = false from decide_eq_false (fun h => h2 h.2)]
      go_enter Tryz.func92, Tryz.ntmps92
      go_wp2
      go_ret
      exact ⟨rfl, rfl⟩
  · rw [show mayP n = false from decide_eq_false (fun h => h1 h.1)]
    go_enter Tryz.func92, Tryz.ntmps92
    go_wp2
    go_ret
    exact ⟨rfl, rfl⟩
theorem seg_front : ({ data := #[115, 101, 103, 45] } : ByteArray) = S [115, 101, 103, 45] := rfl
theorem seg_mid : ({ data := #[45] } : ByteArray) = S [45] := rfl
theorem seg_end : ({ data := #[46, 108, 111, 103] } : ByteArray) = S [46, 108, 111, 103] := rfl
attribute [local go_sem] seg_front seg_mid seg_end
set_option maxRecDepth 20000 in
set_option maxHeartbeats 2000000 in
theorem segment_any (id gen : Int) (w : World) : Calls Tryz.prog 58 #[.int .i64 id, .int .i64 gen] w fun e w' => e = .returned (.tuple #[.string (S (segB id gen)), .int .i64 (if segP id gen then 0 else 2)]) ∧ Ext w w' := by
  cases h1 : mayP id with
  | false =>
    have Q1 := Lib.hid (fun w => may_any id w)
    rw [h1] at Q1
    rw [show segB id gen = [] by unfold segB segP; rw [h1]; rfl, show segP id gen = false by unfold segP; rw [h1]; rfl]
    go_enter Tryz.func58, Tryz.ntmps58
    go_wp2_with fail
    refine (Q1.out _).mono ?_
    rintro _ w' ⟨rfl, rfl⟩
    go_wp2
    exact bodyPost_ret (results_tmp2 rfl _ _ _) rfl ⟨rfl, Ext.refl _⟩
  | true =>
    cases h2 : mayP gen with
    | false =>
      have Q1 := Lib.hid (fun w => may_any id w)
      have Q2 := Lib.hid (fun w => may_any gen w)
      rw [h1] at Q1
      rw [h2] at Q2
      rw [show segB id gen = [] by unfold segB segP; rw [h1, h2]; rfl, show segP id gen = false by unfold segP; rw [h1, h2]; rfl]
      go_enter Tryz.func58, Tryz.ntmps58
      go_wp2_with fail
      refine (Q1.out _).mono ?_
      rintro _ w' ⟨rfl, rfl⟩
      go_wp2_with fail
      refine (Q2.out _).mono ?_
      rintro _ w' ⟨rfl, rfl⟩
      go_wp2
      exact bodyPost_ret (results_tmp2 rfl _ _ _) rfl ⟨rfl, Ext.refl _⟩
    | true =>
      have Q1 := Lib.hid (fun w => may_any id w)
      have Q2 := Lib.hid (fun w => may_any gen w)
      rw [h1] at Q1
      rw [h2] at Q2
      rw [show segP id gen = true by unfold segP; rw [h1, h2]; rfl]
      have m1 := of_decide_eq_true h1
      have m2 := of_decide_eq_true h2
      have SB := Lib.hid (show segB id gen = [115, 101, 103, 45] ++ num6 id.toNat ++ [45] ++ num6 gen.toNat ++ [46, 108, 111, 103] by unfold segB segP; rw [h1, h2]; rfl)
      obtain ⟨i, rfl⟩ : ∃ i : Nat, id = (i : Int) := ⟨id.toNat, by omega⟩
      obtain ⟨g, rfl⟩ : ∃ g : Nat, gen = (g : Int) := ⟨gen.toNat, by omega⟩
      have Q3 := Lib.hid (fun w => number_any i (by omega) w)
      have Q4 := Lib.hid (fun w => number_any g (by omega) w)
      rw [Int.toNat_natCast, Int.toNat_natCast] at SB
      have l1 := num6_length i
      have l2 := num6_length g
      clear h1 h2 m1 m2
      generalize num6 i = x at *
      generalize num6 g = y at *
      go_enter Tryz.func58, Tryz.ntmps58
      go_wp2_with fail
      refine (Q1.out _).mono ?_
      rintro _ w' ⟨rfl, rfl⟩
      go_wp2_with fail
      refine (Q2.out _).mono ?_
      rintro _ w' ⟨rfl, rfl⟩
      go_wp2_with fail
      refine (Q3.out _).mono ?_
      rintro _ w1 ⟨rfl, x1⟩
      have X1 := Lib.hid x1
      clear x1
      go_wp2_with fail
      refine (Q4.out _).mono ?_
      rintro _ w2 ⟨rfl, x2⟩
      have X2 := Lib.hid (X1.out.trans x2)
      clear x2
      go_wp2
      exact bodyPost_ret (results_tmp2 rfl _ _ _) rfl ⟨by rw [SB.out]; simp, X2.out⟩
end Go.Proofs.YtmjkfgpkohfmiaaGreat
namespace Go.Proofs.YtmjkfgpkohfmiaaGreat
set_option linter.unusedVariables false
set_option linter.unusedSimpArgs false
open Go.RowKit Go.Shelf Go.Sort

attribute [local go_sem] S_size S_toList S_append S_extract S_beq S_bne S_empty S_nil

def sortS (l : List (List UInt8)) : List (List UInt8) := l.mergeSort fun x y => decide (x ≤ y)
theorem sortS_length (l : List (List UInt8)) : (sortS l).length = l.length := List.length_mergeSort l
theorem sortS_own (v : Value) (l : List (List UInt8)) (B : Nat) (w : World) (h : SW w B v l) (h0 : 0 < l.length) (hl : (l.length : Int) ≤ 1000000000) :
    Calls Tryz.prog 59 #[v] w fun e w' => e = .returned (.tuple #[]) ∧ SW w' B v (sortS l) ∧ w.grownBy w' v.ownBlock := by
  obtain ⟨g, cap, cur, rfl, hB, hb, h1, h2, h3, h4⟩ : ∃ g cap cur, v = .slice (some ⟨g, 0, none⟩) l.length cap ∧ B ≤ g ∧ w.heap[g]? = some (.cells cur 9 (0, 0)) ∧ l.length ≤ cap ∧ cap ≤ maxLen ∧ cur.size = cap * 1 ∧ cur.toList.take l.length = l.map encStr := by
    rcases h.2 with ⟨e1, e2⟩ | ⟨g, cap, cur, e1, hB, hb, h1, h2, h3, h4⟩
    · rw [List.length_map] at e2; omega
    · rw [List.length_map] at *
      exact ⟨g, cap, cur, e1, hB, hb, h1, h2, h3, by rw [Nat.mul_one] at h4; exact h4⟩
  have q := AnyM.slices_Sort_string laySort g 0 cap l w (holds_of_block hb h4) (Array.getElem?_eq_some_iff.1 hb).1 (by omega)
  change Calls Tryz.prog 59 _ _ _ at q
  refine q.mono ?_
  rintro e w' ⟨rfl, n, os, rfl⟩
  refine ⟨rfl, ?_, grownBy_sorted _⟩
  have := ownsRow_sorted (n := n) (os := os) (base := B) (ts := sortS l) (sortS_length l) hB hb h1 h2 h3
  unfold SW RW
  rw [List.length_map, sortS_length]
  exact this
def segsL (l : List E9) : List (List UInt8) := l.filterMap fun e => if segP e.id e.gen then some (segB e.id e.gen) else none
def namesL (l : List E9) : List (List UInt8) := maniN :: segsL l
theorem namesL_len (l : List E9) : (namesL l).length ≤ l.length + 1 := by
  unfold namesL segsL
  rw [List.length_cons]
  have := List.length_filterMap_le (fun e : E9 => if segP e.id e.gen then some (segB e.id e.gen) else none) l
  omega
theorem namesL_step {l : List E9} {k : Nat} {e : E9} (h : l[k]? = some e) : namesL (l.take (k + 1)) = if segP e.id e.gen then namesL (l.take k) ++ [segB e.id e.gen] else namesL (l.take k) := by
  unfold namesL segsL
  rw [List.take_add_one, h, List.filterMap_append]
  by_cases hs : segP e.id e.gen = true <;> simp [hs]
theorem SW.lit (w : World) (B : Nat) (s : List UInt8) (hB : B ≤ w.heap.size) : SW (w.alloc (.cells #[.string (S s)] 9)) B (.slice (some ⟨w.heap.size, 0, none⟩) 1 1) [s] :=
  ⟨rfl, .inr ⟨w.heap.size, 1, _, rfl, hB, Blk.new w _ _, Nat.le_refl _, by show 1 ≤ maxLen; unfold maxLen; omega, rfl, rfl⟩⟩
theorem str_info : (Tryz.prog.info? 9).map (fun i => (i.zero, i.size, i.bytes)) = some (some (.string (S [])), 1, 16) := by kernel_rfl
theorem SW.app {w : World} {B : Nat} {v : Value} {l : List (List UInt8)} (h : SW w B v l) (hB : B ≤ w.heap.size) (s : List UInt8) (hl : l.length ≤ 1000000) :
    ∃ v' w', (Builtin.append_ #[24, 24] 24 #[v, .slice (some ⟨w.heap.size, 0, none⟩) 1 1]).run Tryz.prog (w.alloc (.cells #[.string (S s)] 9)) = .ok v' w' ∧ SW w' B v' (l ++ [s]) ∧ Below B w w' := by
  obtain ⟨v', w', h1, h2, h3, _⟩ := RW.app h hB (P := Tryz.prog) (t := 24) Tryz.underlying24 str_info rfl (.string (S s)) rfl (by rw [List.length_map]; omega) (by rw [List.length_map]; unfold maxLen; omega)
  exact ⟨v', w', h1, by unfold SW; rw [List.map_append]; exact h2, h3⟩
set_option maxRecDepth 20000 in
set_option maxHeartbeats 4000000 in
theorem names_of (m : Man) (u : Value) (w : World) (hr : RR entC 9 w u m.ents) (hl : (m.ents.length : Int) ≤ 900000) :
    Calls Tryz.prog 23 #[.agg (manC m u)] w fun e w' => ∃ v, e = .returned v ∧ SW w' w.heap.size v (sortS (namesL m.ents)) ∧ Ext w w' := by
  obtain ⟨mg, mn, mw, mf, l⟩ := m
  dsimp only [manC] at *
  obtain ⟨a, c, rfl, h0, hn, hS⟩ := hr
  have HS := Lib.hid hS
  have X0 := Lib.hid ((Ext.refl w).alloc (.cells #[.int .i64 mg, .int .i64 mn, .int .i64 mw, .int .i64 mf, .slice a l.length c] 39))
  have B0 := Blk.new w 39 #[.int .i64 mg, .int .i64 mn, .int .i64 mw, .int .i64 mf, .slice a l.length c]
  have c4 := (B0.alloc (.cells #[.string (S maniN)] 9)).cell 4
  simp at c4
  have X1 := Lib.hid (X0.out.alloc (.cells #[.string (S maniN)] 9))
  have SL := SW.lit (w.alloc (.cells #[.int .i64 mg, .int .i64 mn, .int .i64 mw, .int .i64 mf, .slice a l.length c] 39)) w.heap.size maniN X0.out.size
  rw [World.size_alloc] at SL
  have SL := Lib.hid SL
  clear hS h0 hn B0 X0
  go_enter Tryz.func23, Tryz.ntmps23
  go_wp2_with fail
  refine (manifest_any _).mono ?_
  rintro _ w1 ⟨rfl, rfl⟩
  go_wp2_with fail
  clear c4
  have I0 := Lib.hid (show Ext w ((w.alloc (.cells #[.int .i64 mg, .int .i64 mn, .int .i64 mw, .int .i64 mf, .slice a l.length c] 39)).alloc (.cells #[.string (S maniN)] 9)) ∧ SW ((w.alloc (.cells #[.int .i64 mg, .int .i64 mn, .int .i64 mw, .int .i64 mf, .slice a l.length c] 39)).alloc (.cells #[.string (S maniN)] 9)) w.heap.size (.slice (some ⟨w.heap.size + 1, 0, none⟩) 1 1) (namesL (l.take 0)) from ⟨X1.out, SL.out⟩)
  clear SL X1
  go_loopw [13, 3] (fun i v wr => ∃ k : Nat, i = .int .i64 (k : Int) ∧ k ≤ l.length ∧ RowKit.Hid (Ext w wr ∧ SW wr w.heap.size v (namesL (l.take k)))) (fun i _ _ => l.length - (intOf i).toNat)
  case atStart => exact ⟨0, rfl, Nat.zero_le _, I0⟩
  case round =>
    obtain ⟨k, rfl, hk, HW⟩ := hrel
    clear I0
    by_cases hlt : k < l.length
    · obtain ⟨g, o, rfl, hcells⟩ := HS.out (by omega)
      have hI : (k : Int) < (l.length : Int) := by omega
      obtain ⟨e, he⟩ : ∃ e, l[k]? = some e := ⟨_, List.getElem?_eq_getElem hlt⟩
      have R := Lib.hid (rangeAt_ext (hcells k e he) HW.out.1)
      have ST := Lib.hid (namesL_step he)
      have LK := Lib.hid (show (namesL (l.take k)).length ≤ 1000000 by have := namesL_len (l.take k); rw [List.length_take] at this; omega)
      have EZ := Lib.hid (show (Tryz.prog.info? 73).map (·.size) = some 9 from ent_size)
      have HKM := Lib.hid hlt
      clear hcells he hk hlt
      obtain ⟨id, gn, fs, sld, ct, bk, ey, lt, bt⟩ := e
      dsimp only [entC] at *
      have QS := Lib.hid (fun w => segment_any id gn w)
      have X2 := Lib.hid (HW.out.1.alloc (.cells #[.int .i64 id, .int .i64 gn, .int .i64 fs, .bool sld, .int .i64 ct, .int .i64 bk, .int .i64 ey, .int .i64 lt, .int .i64 bt] 73))
      have BE := Blk.new wr 73 #[.int .i64 id, .int .i64 gn, .int .i64 fs, .bool sld, .int .i64 ct, .int .i64 bk, .int .i64 ey, .int .i64 lt, .int .i64 bt]
      have e0 := BE.cell 0
      have e1 := BE.cell 1
      simp at e0 e1
      have W2 := Lib.hid (HW.out.2.alloc (.cells #[.int .i64 id, .int .i64 gn, .int .i64 fs, .bool sld, .int .i64 ct, .int .i64 bk, .int .i64 ey, .int .i64 lt, .int .i64 bt] 73))
      clear BE HW
      go_wp2_with (refine wpList_load_mid rfl 73 (.tmp 15) rfl g _ rfl [.int .i64 id, .int .i64 gn, .int .i64 fs, .bool sld, .int .i64 ct, .int .i64 bk, .int .i64 ey, .int .i64 lt, .int .i64 bt] _ R.out Tryz.underlying73 rfl EZ.out ?_; refine Held.go ?_)
      refine ⟨?_⟩
      go_wp2_with (refine wpList_store_new rfl 73 (.tmp 5) (.tmp 16) rfl rfl rfl rfl EZ.out (by kernel_rfl) ?_; refine Held.go ?_)
      refine ⟨?_⟩
      go_wp2_with fail
      refine (QS.out _).mono ?_
      rintro _ w2 ⟨rfl, x2⟩
      have X3 := Lib.hid (X2.out.trans x2)
      have W3 := Lib.hid (RW.ext W2.out x2)
      clear x2 X2 W2 QS R e0 e1
      cases hs : segP id gn with
      | false =>
        have ST2 := Lib.hid (show namesL (l.take (k + 1)) = namesL (l.take k) from by rw [ST.out]; simp [hs])
        clear ST hs
        simp only [Bool.false_eq_true, if_false]
        go_wp2_with fail
        go_roundw
        case rel => exact ⟨k + 1, by go_num, by have := HKM.out; omega, Lib.hid ⟨X3.out, by rw [ST2.out]; exact W3.out⟩⟩
        case measure => simp [intOf]; have := HKM.out; omega
      | true =>
        have ST2 := Lib.hid (show namesL (l.take (k + 1)) = namesL (l.take k) ++ [segB id gn] from by rw [ST.out]; simp [hs])
        obtain ⟨v', w', hrun, p1, p2⟩ := SW.app W3.out X3.out.size (segB id gn) LK.out
        have X4 := Lib.hid (show Ext w w' from Below.trans X3.out p2)
        have W4 := Lib.hid p1
        clear ST hs p1 p2
        simp only [if_true]
        go_wp2_with (at_builtin; refine wpList_app rfl (.tmp 29) (.tmp 31) 24 rfl rfl rfl rfl hrun ?_)
        go_roundw
        case rel => exact ⟨k + 1, by go_num, by have := HKM.out; omega, Lib.hid ⟨X4.out, by rw [ST2.out]; exact W4.out⟩⟩
        case measure => simp [intOf]; have := HKM.out; omega
    · obtain rfl : k = l.length := by omega
      have LK := Lib.hid (namesL_len l)
      rw [List.take_length] at HW
      have QS := Lib.hid (fun (v : Value) (h : SW wr w.heap.size v (namesL l)) => sortS_own v (namesL l) w.heap.size wr h (by unfold namesL; rw [List.length_cons]; omega) (by have := LK.out; omega))
      clear hk
      go_wp2_with fail
      refine Calls.mono (QS.out _ HW.out.2) ?_
      rintro _ w2 ⟨rfl, sw2, gb⟩
      have X3 := Lib.hid (HW.out.1.grown gb (fun j hj => (World.ownsRow.lt HW.out.2 j hj).1))
      have W3 := Lib.hid sw2
      clear sw2 gb QS HW
      go_wp2
      go_ret
      exact ⟨_, rfl, W3.out, X3.out⟩
theorem ent_rr {w : World} {g : Nat} {e : E9} {t : TypeId} (h : Blk w g t (entC e).toArray) : RR entC 9 w (.slice (some ⟨g, 0, none⟩) 1 1) [e] := by
  refine ⟨_, _, rfl, by simp, (fun e => by cases e), fun _ => ⟨g, 0, rfl, fun k x hk j u hu => ?_⟩⟩
  match k, hk with
  | 0, hk =>
    injection hk with hk
    subst hk
    simp only [Nat.zero_mul, Nat.zero_add]
    rw [h.cell]
    simpa using hu
def first26 : Man := ⟨1, 2, 0, 1, [⟨1, 1, 1, false, 0, 0, 0, 0, 0⟩]⟩
theorem first_may : maniP first26 = true := by decide +kernel
set_option maxRecDepth 20000 in
set_option maxHeartbeats 4000000 in
theorem first_any (w : World) : Calls Tryz.prog 9 #[] w fun e w' => ∃ u, e = .returned (.agg (manC first26 u)) ∧ RR entC 9 w' u first26.ents ∧ Ext w w' := by
  have B1 := Lib.hid ((Blk.new w 39 #[.int .i64 1, .int .i64 2, .int .i64 0, .int .i64 1, .slice (some ⟨w.heap.size + 1, 0, none⟩) 1 1]).alloc (.cells #[.int .i64 1, .int .i64 1, .int .i64 1, .bool false, .int .i64 0, .int .i64 0, .int .i64 0, .int .i64 0, .int .i64 0] 73))
  have e := Blk.new (w.alloc (.cells #[.int .i64 1, .int .i64 2, .int .i64 0, .int .i64 1, .slice (some ⟨w.heap.size + 1, 0, none⟩) 1 1] 39)) 73 (entC ⟨1, 1, 1, false, 0, 0, 0, 0, 0⟩).toArray
  rw [World.size_alloc] at e
  have RE := Lib.hid (ent_rr e)
  clear e
  have MS := Lib.hid (show (Tryz.prog.info? 39).map (·.size) = some 5 from man_size)
  go_enter Tryz.func9, Tryz.ntmps9
  go_wp2_with fail
  exact bodyPost_ret (results_cell_row rfl _ _ w.heap.size _ _ (0, 0) _ rfl B1.out Tryz.underlying39 rfl MS.out) rfl ⟨.slice (some ⟨w.heap.size + 1, 0, none⟩) 1 1, rfl, RE.out, ((Ext.refl w).alloc _).alloc _⟩
end Go.Proofs.YtmjkfgpkohfmiaaGreat
