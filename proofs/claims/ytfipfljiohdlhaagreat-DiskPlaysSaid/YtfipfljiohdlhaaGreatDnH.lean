/- The document's disk: change. -/
import Derived.Test.YtfipfljiohdlhaaGreatDnG
namespace Go.Proofs.YtfipfljiohdlhaaGreat
set_option linter.unusedVariables false
set_option linter.unusedSimpArgs false
open Go.RowKit
attribute [local go_sem] S_size S_toList S_append S_extract S_beq S_bne S_empty S_nil
variable {K : List Nat}

/-- a slice whose elements begin with a text is not in a block that has none -/
theorem RR.butG {α : Type} {f : α → List Value} {s : Nat} {w w' : World} {v : Value} {l : List α} {g : Nat} {t : TypeId} {cs : Array Value} (h : RR f s w v l) (hf : ∀ x, ∃ z, (f x)[0]? = some (.string z)) (hb : Blk w g t cs) (hcs : ∀ (i : Nat) (z : ByteArray), cs[i]? ≠ some (Value.string z)) (x : But [g] w w') : RR f s w' v l := by
  obtain ⟨a, c, rfl, h0, hn, h2⟩ := h
  refine ⟨a, c, rfl, h0, hn, fun hl => ?_⟩
  obtain ⟨g', o, e, h4⟩ := h2 hl
  refine ⟨g', o, e, fun k y hk j u hu => ?_⟩
  have hne : g' ≠ g := by
    rintro rfl
    obtain ⟨z, hz⟩ := hf l[0]
    have := h4 0 l[0] (List.getElem?_eq_getElem hl) 0 _ hz
    rw [hb.cell] at this
    exact hcs _ _ this
  have := h4 k y hk j u hu
  rw [x.cell (World.block_lt_of_cell? w _ this) (by simpa using hne)]
  exact this
theorem RK.butG {α : Type} {K : List Nat} {f : α → List Value} {s : Nat} {w w' : World} {v : Value} {l : List α} {g : Nat} {t : TypeId} {cs : Array Value} (h : RK K f s w v l) (hf : ∀ x, ∃ z, (f x)[0]? = some (.string z)) (hb : Blk w g t cs) (hcs : ∀ (i : Nat) (z : ByteArray), cs[i]? ≠ some (Value.string z)) (x : But [g] w w') : RK K f s w' v l := ⟨h.1.butG hf hb hcs x, h.2⟩
theorem But.rowd {K : List Nat} {a b : World} (h : But K a b) {k : Nat} (hk : k ∈ K) (cs : Array Value) : But K a (b.setRow k cs) :=
  h.trans ⟨rfl, rfl, rfl, by simp, fun i _ hi => setRow_other b k i cs (fun e => hi (e ▸ hk))⟩
theorem eC_str (x : List UInt8 × Nat) : ∃ z, (eC x)[0]? = some (.string z) := ⟨_, rfl⟩
theorem fC_str (x : List UInt8 × List UInt8) : ∃ z, (fC x)[0]? = some (.string z) := ⟨_, rfl⟩
theorem rC_str (x : List UInt8 × List UInt8 × Option Nat) : ∃ z, (rC x)[0]? = some (.string z) := ⟨_, rfl⟩
/-- no text lies in a disk's block -/
theorem dsk_nostr (v1 v2 v3 v4 : Value) (h1 : ∃ a n c, v1 = .slice a n c) (h2 : ∃ a n c, v2 = .slice a n c) (h3 : ∃ a n c, v3 = .slice a n c) (h4 : ∃ a n c, v4 = .slice a n c) (i1 i2 i3 : Int) (b : Bool) : ∀ (i : Nat) (z : ByteArray), (#[v1, v2, v3, v4, .int .i64 i1, .int .i64 i2, .int .i64 i3, .bool b] : Array Value)[i]? ≠ some (Value.string z) := by
  obtain ⟨_, _, _, rfl⟩ := h1
  obtain ⟨_, _, _, rfl⟩ := h2
  obtain ⟨_, _, _, rfl⟩ := h3
  obtain ⟨_, _, _, rfl⟩ := h4
  intro i z
  rcases i with _ | _ | _ | _ | _ | _ | _ | _ | i <;> simp
theorem sl_ex (a : Option Addr) (n c : Nat) : ∃ a' n' c', Value.slice a n c = .slice a' n' c' := ⟨_, _, _, rfl⟩
theorem rC_len (x : List UInt8 × List UInt8 × Option Nat) : (rC x).length = 3 := rfl
theorem rC_one (x : List UInt8 × List UInt8 × Option Nat) : ∀ u ∈ rC x, u.oneCell' = true := by
  intro u hu
  simp only [rC, List.mem_cons, List.not_mem_nil, or_false] at hu
  rcases hu with rfl | rfl | rfl <;> rfl
theorem rchg_info : (Tryz.prog.info? 100).map (fun i => (i.zero, i.size, i.bytes)) = some (some (.agg #[.string (S []), .string (S []), .int .i64 0]), 3, 40) := by kernel_rfl
theorem run_bs0c (w : World) : (Instr.buildSlice 31 0 #[]).run Tryz.prog w = .ok (.slice (some ⟨w.heap.size, 0, none⟩) 0 0) (w.alloc (.cells #[] 100)) := by kernel_rfl
theorem run_bs1k (x : List UInt8 × List UInt8 × Option Nat) (w : World) : (Instr.buildSlice 31 1 #[(0, .agg (rC x).toArray)]).run Tryz.prog w = .ok (.slice (some ⟨w.heap.size, 0, none⟩) 1 1) (w.alloc (.cells (rC x).toArray 100)) := by kernel_rfl
set_option maxRecDepth 20000 in
set_option maxHeartbeats 4000000 in
theorem rchange_any {w : World} {v : V4} {d : Dsk} (hK : ∀ k ∈ K, k < w.heap.size) (h : RefD K w v d) (hd : d.dead = false) (ho : 0 ≤ d.ops ∧ d.ops ≤ 100000000) (ha : 0 ≤ d.armed ∧ d.armed ≤ 9223372036854775807) (c : List UInt8 × List UInt8 × Option Nat) (h0 : c.2.2 = none → c.1 = []) (h1 : ∀ n, c.2.2 = some n → c.1 ≠ [])
    (hl : (d.dir.length : Int) ≤ 1000000) (hcl : d.chs.length ≤ 1000000) :
    Calls Tryz.prog 61 #[refV v d, .agg (rC c).toArray] w fun e w' => ∃ v', e = .returned (.tuple #[refV v' (d.chg c), .int .i64 d.tld]) ∧ RefD K w' v' (d.chg c) ∧ Ext w w' := by
  have Q1 := Lib.hid (fun W (x : Ext w W) => counted_any (h.ext x) hd ho ha)
  have Q2 := Lib.hid (fun W (x : Ext w W) => rchanged_any (fun k hk => Nat.lt_of_lt_of_le (hK k hk) x.size) (h.dir.ext x) hl c h0 h1)
  have HK := Lib.hid hK
  clear hK
  obtain ⟨aF, cF, aD, cD, aS, cS, aC, cC, rfl⟩ := h.open_
  have H := Lib.hid h
  have HT := Lib.hid (tld_told d)
  have CH := Lib.hid (show refV ⟨.slice aF d.files.length cF, .slice aD d.dir.length cD, .slice aS d.safe.length cS, .slice aC d.chs.length cC⟩ d.cnt = .agg #[.slice aF d.files.length cF, .slice aD d.dir.length cD, .slice aS d.safe.length cS, .slice aC d.chs.length cC, .int .i64 d.cap, .int .i64 d.cnt.ops, .int .i64 d.cnt.armed, .bool d.cnt.dead] from rfl)
  have CG := Lib.hid (show ∀ v1 v2, refV ⟨.slice aF d.files.length cF, v1, .slice aS d.safe.length cS, v2⟩ (d.chg c) = .agg #[.slice aF d.files.length cF, v1, .slice aS d.safe.length cS, v2, .int .i64 d.cap, .int .i64 d.cnt.ops, .int .i64 d.cnt.armed, .bool d.cnt.dead] from fun _ _ => rfl)
  have CR := Lib.hid (show ∀ (W : World) (v1 v2 : Value), Ext w W → RK K eC 2 W v1 (appC d.dir c) → RK K rC 3 W v2 (d.chs ++ [c]) → RefD K W ⟨.slice aF d.files.length cF, v1, .slice aS d.safe.length cS, v2⟩ (d.chg c) from fun W v1 v2 x r1 r2 => ⟨H.out.fs.ext x, r1, H.out.safe.ext x, r2⟩)
  rw [CH.out] at Q1
  have HC := Lib.hid h.chs.1
  clear h CH
  rw [← HT.out]
  clear HT
  obtain ⟨te, hte⟩ : ∃ te : Int, te = if (d.armed == 1) = true then 200 else 0 := ⟨_, rfl⟩
  rw [← hte]
  have QT := Lib.hid (fun W => told_any (d.armed == 1) W)
  rw [← hte] at QT
  clear hte
  simp only [refV] at *
  generalize d.cnt.ops = o1 at *
  generalize d.cnt.armed = a1 at *
  generalize d.cnt.dead = dd at *
  generalize d.ops = o0 at *
  generalize (d.armed == 1) = last at *
  generalize d.armed = a0 at *
  generalize d.cap = cap at *
  generalize d.dead = dd0 at *
  subst hd
  have X3 := Lib.hid ((((Ext.refl w).alloc (.cells #[.slice aF d.files.length cF, .slice aD d.dir.length cD, .slice aS d.safe.length cS, .slice aC d.chs.length cC, .int .i64 cap, .int .i64 o0, .int .i64 a0, .bool false] 33)).alloc (.cells (rC c).toArray 100)).alloc (.cells #[.slice none 0 0, .slice none 0 0, .slice none 0 0, .slice none 0 0, .int .i64 0, .int .i64 0, .int .i64 0, .bool false] 33))
  have B2 := Lib.hid (((Blk.new w 33 #[.slice aF d.files.length cF, .slice aD d.dir.length cD, .slice aS d.safe.length cS, .slice aC d.chs.length cC, .int .i64 cap, .int .i64 o0, .int .i64 a0, .bool false]).alloc (.cells (rC c).toArray 100)).alloc (.cells #[.slice none 0 0, .slice none 0 0, .slice none 0 0, .slice none 0 0, .int .i64 0, .int .i64 0, .int .i64 0, .bool false] 33))
  have b3 := (Blk.new (w.alloc (.cells #[.slice aF d.files.length cF, .slice aD d.dir.length cD, .slice aS d.safe.length cS, .slice aC d.chs.length cC, .int .i64 cap, .int .i64 o0, .int .i64 a0, .bool false] 33)) 100 (rC c).toArray).alloc (.cells #[.slice none 0 0, .slice none 0 0, .slice none 0 0, .slice none 0 0, .int .i64 0, .int .i64 0, .int .i64 0, .bool false] 33)
  have b4 := Blk.new ((w.alloc (.cells #[.slice aF d.files.length cF, .slice aD d.dir.length cD, .slice aS d.safe.length cS, .slice aC d.chs.length cC, .int .i64 cap, .int .i64 o0, .int .i64 a0, .bool false] 33)).alloc (.cells (rC c).toArray 100)) 33 #[.slice none 0 0, .slice none 0 0, .slice none 0 0, .slice none 0 0, .int .i64 0, .int .i64 0, .int .i64 0, .bool false]
  simp only [World.size_alloc] at b3 b4
  have B3 := Lib.hid b3
  have B4 := Lib.hid b4
  clear b3 b4
  have DS := Lib.hid rdisk_size
  have CS := Lib.hid (show (Tryz.prog.info? 100).map (·.size) = some (rC c).toArray.size from rc_size)
  have CO := Lib.hid (rC_one c)
  have DO := Lib.hid (show #[Value.slice aF d.files.length cF, .slice aD d.dir.length cD, .slice aS d.safe.length cS, .slice aC d.chs.length cC, .int .i64 cap, .int .i64 o1, .int .i64 a1, .bool dd].all (·.oneCell') = true by kernel_rfl)
  generalize hL : (rC c).toArray = L at *
  have HL := Lib.hid hL
  clear hL
  go_enter Tryz.func61, Tryz.ntmps61
  go_wp2_with fail
  refine (Q1.out _ X3.out).mono ?_
  rintro _ w1 ⟨rfl, x1⟩
  have C2 := Lib.hid (B2.out.ext x1)
  have C3 := Lib.hid (B3.out.ext x1)
  have C4 := Lib.hid (B4.out.ext x1)
  have Y1 := Lib.hid (X3.out.trans x1)
  clear x1 X3 B2 B3 B4 Q1
  go_wp2_with (refine wpList_store_blk rfl 33 (.tmp 2) (.tmp 10) rfl rfl rfl C2.out rfl DS.out DO.out ?_; refine Held.go ?_)
  refine ⟨?_⟩
  have D2 := Lib.hid (C2.out.setRow #[Value.slice aF d.files.length cF, .slice aD d.dir.length cD, .slice aS d.safe.length cS, .slice aC d.chs.length cC, .int .i64 cap, .int .i64 o1, .int .i64 a1, .bool dd])
  have D3 := Lib.hid (C3.out.setRow_far (k := w.heap.size) (by omega) #[Value.slice aF d.files.length cF, .slice aD d.dir.length cD, .slice aS d.safe.length cS, .slice aC d.chs.length cC, .int .i64 cap, .int .i64 o1, .int .i64 a1, .bool dd])
  have D4 := Lib.hid (C4.out.setRow_far (k := w.heap.size) (by omega) #[Value.slice aF d.files.length cF, .slice aD d.dir.length cD, .slice aS d.safe.length cS, .slice aC d.chs.length cC, .int .i64 cap, .int .i64 o1, .int .i64 a1, .bool dd])
  have Y2 := Lib.hid (Y1.out.setRow (Nat.le_refl _) #[Value.slice aF d.files.length cF, .slice aD d.dir.length cD, .slice aS d.safe.length cS, .slice aC d.chs.length cC, .int .i64 cap, .int .i64 o1, .int .i64 a1, .bool dd])
  generalize w1.setRow w.heap.size #[Value.slice aF d.files.length cF, .slice aD d.dir.length cD, .slice aS d.safe.length cS, .slice aC d.chs.length cC, .int .i64 cap, .int .i64 o1, .int .i64 a1, .bool dd] = w2 at *
  clear C2 C3 C4 Y1
  have c1 : w2.cell? ⟨w.heap.size, 1, none⟩ = some (.slice aD d.dir.length cD) := D2.out.cell 1
  go_wp2_with (refine wpList_load_blk rfl 100 (.tmp 3) rfl rfl D3.out Tryz.underlying100 rfl CS.out ?_; refine Held.go ?_)
  refine ⟨?_⟩
  go_wp2_with fail
  refine (Q2.out _ Y2.out).mono ?_
  rintro _ w3 ⟨v1, rfl, r1, x3⟩
  obtain ⟨a1', c1', rfl⟩ := rr_sl r1.1
  have c1 := (D2.out.ext x3).cell 1
  have f1 := (D2.out.ext x3).frozen 1
  have E2 := Lib.hid (Blk.set_ (D2.out.ext x3) 1 (.slice a1' (appC d.dir c).length c1'))
  have E3 := Lib.hid ((D3.out.ext x3).far (p := ⟨w.heap.size, 1, none⟩) (by simp) (.slice a1' (appC d.dir c).length c1'))
  have E4 := Lib.hid ((D4.out.ext x3).far (p := ⟨w.heap.size, 1, none⟩) (by simp; omega) (.slice a1' (appC d.dir c).length c1'))
  have Y3 := Lib.hid ((Y2.out.trans x3).set (p := ⟨w.heap.size, 1, none⟩) (Nat.le_refl _) (.slice a1' (appC d.dir c).length c1'))
  have NS := Lib.hid (dsk_nostr _ _ _ _ (sl_ex aF d.files.length cF) (sl_ex aD d.dir.length cD) (sl_ex aS d.safe.length cS) (sl_ex aC d.chs.length cC) cap o1 a1 dd)
  have R1 := Lib.hid (RK.butG r1 eC_str (D2.out.ext x3) NS.out ((But.refl [w.heap.size] w3).set (p := ⟨w.heap.size, 1, none⟩) (by simp) (.slice a1' (appC d.dir c).length c1')))
  clear r1 x3 D2 D3 D4 Y2 Q2 NS
  go_wp2_with fail
  have e2 := E2.out
  simp only [List.setIfInBounds_toArray, List.set_cons_succ, List.set_cons_zero] at e2
  have F2 := Lib.hid e2
  clear e2 E2 c1 f1
  generalize w3.setCell ⟨w.heap.size, 1, none⟩ (.slice a1' (appC d.dir c).length c1') = w4 at *
  generalize (appC d.dir c).length = n1' at *
  have X4 := Lib.hid (Ext.refl w4).drew
  have c3 := up_cell (W := w4.drew) (show w4.drew.cell? ⟨w.heap.size, 3, none⟩ = some (.slice aC d.chs.length cC) from F2.out.cell 3)
  have HCW := Lib.hid (HC.out.ext Y3.out.drew)
  have F2 := Lib.hid F2.out.drew
  have F3 := Lib.hid E3.out.drew
  have F4 := Lib.hid E4.out.drew
  have Y4 := Lib.hid Y3.out.drew
  have HKZ := Lib.hid (show ∀ k ∈ K, k < w4.drew.heap.size from fun k hk => Nat.lt_of_lt_of_le (HK.out k hk) Y4.out.size)
  have R4 := Lib.hid (R1.out.ext X4.out)
  refine wp_region_v [] _ rfl (by kernel_rfl) ?_
  dsimp only [List.length_cons, List.length_nil]
  generalize w4.drew = Z at *
  clear E3 E4 Y3 R1 X4
  refine v_late ?_
  iterate 2
    (refine v_want (by kernel_rfl) (by kernel_rfl) (by kernel_rfl) (fun _ _ _ _ h => h) (by kernel_rfl) (by kernel_rfl) (fun K hK => ?_)
     go_simp
     (refine hK _ ?_; clear hK K))
  refine v_late ?_
  refine v_load (by kernel_rfl) (by kernel_rfl) (by kernel_rfl) (fun _ _ _ _ h => h) (by kernel_rfl) (by kernel_rfl) 100 (.tmp 3) rfl rfl F3.out Tryz.underlying100 rfl CS.out ?_
  dsimp only [Act.put]
  simp only [List.setIfInBounds_toArray, List.set_cons_succ, List.set_cons_zero]
  refine v_late ?_
  refine v_late ?_
  refine v_rest ?_
  refine v_abc (m := 1) (te := 100) (csA := #[]) (csC := L) (iA := 0) (iB := 3) (iC := 5)
    (fun v w' => WR rC 3 w' Z.heap.size 100 v d.chs) rfl rfl rfl rfl rfl rfl (fun d h => by cases h; decide) (fun d h => by cases h; decide)
    (by kernel_rfl) (by kernel_rfl) (by kernel_rfl) (by kernel_rfl) (by kernel_rfl) (by decide) (by decide)
    (fun v w w' h hx => WR.ext h hx)
    (fun u => ⟨BsAt.of (vs := #[]) 31 #[] rfl rfl run_bs0c, BsAt.of (vs := #[]) 31 #[] rfl rfl run_bs0c⟩)
    (fun gA u a' ha w' hx hle hb => ?_)
    (fun gA v a' ha => ?_)
    (fun gA gC v1 w5 x5 h5 hb => ?_)
  · obtain ⟨v', w'', p1, p2, p3⟩ := WR.app0 (B := Z.heap.size) rC_len (by decide) rC_one hb hle (HCW.out.ext hx) hx.le (P := Tryz.prog) (t := 31) Tryz.underlying31 rchg_info rfl (by omega) (by unfold maxLen; omega)
    refine ⟨v', w'', ?_, p3, p2⟩
    rcases ha with rfl | rfl <;> exact exec_app (.tmp 17) (.tmp 19) 31 rfl rfl rfl rfl p1
  · rcases ha with rfl | rfl | rfl <;> exact BsAt.of (vs := #[(0, .agg L)]) 31 _ rfl rfl (fun W => by rw [← HL.out]; exact run_bs1k c W)
  · refine v_app 6 23 (.tmp 20) (.tmp 22) 31 (fun v' W w' => WR rC 3 w' Z.heap.size 100 v' (d.chs ++ [c]) ∧ Ext Z w') (by kernel_rfl) rfl rfl rfl rfl rfl rfl rfl (.inl (by kernel_rfl)) (fun W x => ?_) (fun v2 W2 w6 x2 h2 => ?_)
    · obtain ⟨v1', w1', p1, p2, p3, _⟩ := WR.app1 rC_len (by decide) rC_one (WR.ext h5 x) (x := c) (by rw [HL.out]; exact hb.ext x) (x5.trans x).le (P := Tryz.prog) (t := 31) Tryz.underlying31 rchg_info rfl (by omega) (by unfold maxLen; omega)
      exact ⟨_, _, p1, p2, Below.trans (x5.trans x) (WR.belowO (WR.ext h5 x) (x5.trans x).le p3)⟩
    have E5 := Lib.hid h2.1
    have X5 := Lib.hid h2.2
    obtain ⟨a2, c2, e2, _, _⟩ := WR.shape rC_len h2.1
    generalize (d.chs ++ [c]).length = n2 at e2
    subst e2
    clear h2 x2 h5 hb x5 HCW c3
    dsimp only [Act.put]
    simp only [List.setIfInBounds_toArray, List.set_cons_succ, List.set_cons_zero]
    refine v_one 7 (by kernel_rfl) rfl (by kernel_rfl) fun y1 K hK => ?_
    go_simp
    refine hK _ _ (fun _ => Ext.refl _) ?_
    clear hK K
    refine v_one 8 (by kernel_rfl) rfl (by kernel_rfl) fun y2 K hK => ?_
    have X6 := Lib.hid ((X5.out.trans y1.ext).trans y2.ext)
    have c3 : y2.val.cell? ⟨w.heap.size, 3, none⟩ = some (.slice aC d.chs.length cC) := (F2.out.ext X6.out).cell 3
    have f3 := (F2.out.ext X6.out).frozen 3
    go_simp
    refine hK _ _ (fun h0 => (Bool.false_ne_true (h0.symm.trans (by kernel_rfl))).elim) ?_
    clear hK K
    refine v_done (by kernel_rfl) (fun y3 => ?_)
    have g2 := (Blk.set_ (F2.out.ext X6.out) 3 (.slice a2 n2 c2)).ext y3.ext
    simp only [List.setIfInBounds_toArray, List.set_cons_succ, List.set_cons_zero] at g2
    have G2 := Lib.hid g2
    have G4 := Lib.hid (((F4.out.ext X6.out).far (p := ⟨w.heap.size, 3, none⟩) (by simp; omega) (.slice a2 n2 c2)).ext y3.ext)
    have Y6 := Lib.hid (((Y4.out.trans X6.out).set (p := ⟨w.heap.size, 3, none⟩) (Nat.le_refl _) (.slice a2 n2 c2)).trans y3.ext)
    have NS2 := Lib.hid (dsk_nostr _ _ _ _ (sl_ex aF d.files.length cF) (sl_ex a1' n1' c1') (sl_ex aS d.safe.length cS) (sl_ex aC d.chs.length cC) cap o1 a1 dd)
    have RD := Lib.hid ((RK.butG (R4.out.ext X6.out) eC_str (F2.out.ext X6.out) NS2.out ((But.refl [w.heap.size] y2.val).set (p := ⟨w.heap.size, 3, none⟩) (by simp) (.slice a2 n2 c2))).ext y3.ext)
    have RC := Lib.hid ((RK.butG ((WR.rk rC_len E5.out HKZ.out).ext (y1.ext.trans y2.ext)) rC_str (F2.out.ext X6.out) NS2.out ((But.refl [w.heap.size] y2.val).set (p := ⟨w.heap.size, 3, none⟩) (by simp) (.slice a2 n2 c2))).ext y3.ext)
    clear g2 c3 f3 X6 X5 E5 F2 F3 F4 Y4 R4
    generalize y3.val = W6 at *
    go_wp2_with fail
    refine wp_region_lex _ rfl (by kernel_rfl) ?_
    dsimp only [List.length_cons, List.length_nil]
    have DS6 := Lib.hid (show (Tryz.prog.info? 33).map (·.size) = some #[Value.slice aF d.files.length cF, .slice a1' n1' c1', .slice aS d.safe.length cS, .slice a2 n2 c2, .int .i64 cap, .int .i64 o1, .int .i64 a1, .bool dd].size from rdisk_size)
    have DO6 := Lib.hid (show #[Value.slice aF d.files.length cF, .slice a1' n1' c1', .slice aS d.safe.length cS, .slice a2 n2 c2, .int .i64 cap, .int .i64 o1, .int .i64 a1, .bool dd].all (·.oneCell') = true by kernel_rfl)
    refine lex_load_blk (by kernel_rfl) (by kernel_rfl) (by kernel_rfl) (by kernel_rfl) (fun _ _ _ _ h => h) (by kernel_rfl) 33 (.tmp 2) rfl rfl G2.out.drew Tryz.underlying33 rfl DS6.out ?_
    (refine lex_want (by kernel_rfl) (by kernel_rfl) (by kernel_rfl) (by kernel_rfl) (fun _ _ _ _ h => h) (by kernel_rfl) (fun K hK => ?_)
     go_simp
     (refine hK _ ?_; clear hK K))
    (refine lex_want (by kernel_rfl) (by kernel_rfl) (by kernel_rfl) (by kernel_rfl) (fun _ _ _ _ h => h) (by kernel_rfl) (fun K hK => ?_)
     go_simp
     apply Exists.intro
     refine ⟨fun _ => ?_, hK _ ?_⟩
     (go_at_call 66; (with_reducible exact QT.out _))
     clear hK K)
    try dsimp only [Act.put]
    try simp only [List.setIfInBounds_toArray, List.set_cons_succ, List.set_cons_zero]
    refine lex_tail (by kernel_rfl) (by kernel_rfl) (by kernel_rfl) (by kernel_rfl) (fun x K hK => ?_)
    refine wp_store_blk 33 (.tmp 4) (.tmp 25) rfl rfl rfl (G4.out.drew.ext x.ext) rfl DS6.out DO6.out (hK _ _ ?_)
    clear hK K
    (refine lex_want (by kernel_rfl) (by kernel_rfl) (by kernel_rfl) (by kernel_rfl) (fun _ _ _ _ h => h) (by kernel_rfl) (fun K hK => ?_)
     go_simp
     (refine hK _ ?_; clear hK K))
    refine lex_done (by kernel_rfl) (fun y => ?_)
    go_wp2
    have NS4 := dsk_nostr _ _ _ _ (sl_ex none 0 0) (sl_ex none 0 0) (sl_ex none 0 0) (sl_ex none 0 0) 0 0 0 false
    have GX := G4.out.drew.ext x.ext
    have BX := (But.refl [w.heap.size + 1 + 1] x.val).rowd (k := w.heap.size + 1 + 1) (by simp) #[Value.slice aF d.files.length cF, .slice a1' n1' c1', .slice aS d.safe.length cS, .slice a2 n2 c2, .int .i64 cap, .int .i64 o1, .int .i64 a1, .bool dd]
    have XF := (((Y6.out.drew).trans x.ext).setRow (g := w.heap.size + 1 + 1) (by omega) #[Value.slice aF d.files.length cF, .slice a1' n1' c1', .slice aS d.safe.length cS, .slice a2 n2 c2, .int .i64 cap, .int .i64 o1, .int .i64 a1, .bool dd]).trans y.ext
    exact bodyPost_ret (results_row_tmp rfl _ _ (w.heap.size + 1 + 1) _ _ (0, 0) _ rfl ((GX.setRow _).ext y.ext) Tryz.underlying33 rfl DS6.out) rfl ⟨⟨.slice aF d.files.length cF, .slice a1' n1' c1', .slice aS d.safe.length cS, .slice a2 n2 c2⟩, by rw [CG.out]; rfl, CR.out _ _ _ XF ((RK.butG (RD.out.ext ((Ext.refl W6).drew.trans x.ext)) eC_str GX NS4 BX).ext y.ext) ((RK.butG (RC.out.ext ((Ext.refl W6).drew.trans x.ext)) rC_str GX NS4 BX).ext y.ext), XF⟩
end Go.Proofs.YtfipfljiohdlhaaGreat
