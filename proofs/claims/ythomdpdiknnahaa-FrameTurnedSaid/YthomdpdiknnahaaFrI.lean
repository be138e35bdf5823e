/- frame: Scan. -/
import Derived.Test.YthomdpdiknnahaaFrH
import Derived.Test.YthomdpdiknnahaaSerV
namespace Go.Proofs.Ythomdpdiknnahaa
set_option linter.unusedVariables false
set_option linter.unusedSimpArgs false
open Go.RowKit Go.Shelf
attribute [local go_sem] S_size S_toList S_append S_extract S_beq S_bne S_empty S_nil

/-- the place behind frames -/
def atOf (a : Int) (pre : List F4) : Int := match pre.getLast? with | none => a | some f => f.to
theorem atOf_snoc (a : Int) (pre : List F4) (f : F4) : atOf a (pre ++ [f]) = f.to := by simp [atOf]
theorem scanN_at (l : List UInt8) : ∀ (n : Nat) (a : Int), (scanN n l a).2 = atOf a (scanN n l a).1 := by
  intro n
  induction n with
  | zero => intro a; rfl
  | succ n ih =>
    intro a
    unfold scanN
    split
    · show (scanN n l (getF l a).to).2 = atOf a (getF l a :: (scanN n l (getF l a).to).1)
      rw [ih]
      unfold atOf
      cases h : (scanN n l (getF l a).to).1 with
      | nil => simp
      | cons x xs => simp [List.getLast?_cons]
    · rfl
theorem scan_at (l : List UInt8) (a : Int) : (scan l a).2 = atOf a (scan l a).1 := scanN_at l _ a
theorem scanN_len (l : List UInt8) : ∀ (n : Nat) (a : Int), (scanN n l a).1 = [] ∨ ((0 ≤ a) ∧ a + 9 * ((scanN n l a).1.length : Int) ≤ (l.length : Int)) := by
  intro n
  induction n with
  | zero => intro a; exact .inl rfl
  | succ n ih =>
    intro a
    unfold scanN
    split
    · rename_i h
      have hz := get_zero h
      refine .inr ⟨hz.1, ?_⟩
      show a + 9 * (((getF l a :: (scanN n l (getF l a).to).1).length : Nat) : Int) ≤ _
      rw [List.length_cons]
      rcases ih (getF l a).to with h1 | ⟨_, h1⟩
      · rw [h1]; simp; omega
      · omega
    · exact .inl rfl
theorem scan_len (l : List UInt8) (a : Int) : (((scan l a).1.length : Nat) : Int) ≤ (l.length : Int) := by
  rcases scanN_len l (l.length + 1 - a.toNat) a with h | ⟨h0, h1⟩
  · unfold scan; rw [h]; simp
  · unfold scan; omega

/-- what the loop of Scan holds -/
def ScanI (a : Int) (w : World) (pre : List F4) (W : World) : Prop :=
  ∃ v, Blk W w.heap.size 3 #[.int .i64 (atOf a pre)] ∧ Blk W (w.heap.size + 1) 36 #[v] ∧ FW W (w.heap.size + 4) v pre ∧ (∃ y, Blk W (w.heap.size + 3) 3 #[y]) ∧ Ext w W
theorem ScanI.ext {a : Int} {w A B : World} {pre : List F4} (h : ScanI a w pre A) (hx : Ext A B) : ScanI a w pre B := by
  obtain ⟨v, h1, h2, h3, ⟨y, h4⟩, h5⟩ := h
  exact ⟨v, h1.ext hx, h2.ext hx, WR.ext h3 hx, ⟨y, h4.ext hx⟩, h5.trans hx⟩
theorem ScanI.set_ {a : Int} {w A : World} {pre : List F4} (h : ScanI a w pre A) (u : Value) : ScanI a w pre (A.setCell ⟨w.heap.size + 3, 0, none⟩ u) := by
  obtain ⟨v, h1, h2, h3, ⟨y, h4⟩, h5⟩ := h
  exact ⟨v, h1.far (p := ⟨w.heap.size + 3, 0, none⟩) (show w.heap.size ≠ w.heap.size + 3 by omega) u, h2.far (p := ⟨w.heap.size + 3, 0, none⟩) (show w.heap.size + 1 ≠ w.heap.size + 3 by omega) u, ownsRow_setCell_below h3 (show w.heap.size + 3 < w.heap.size + 4 by omega) u, ⟨u, h4.set_ 0 u⟩, h5.set (show w.heap.size ≤ w.heap.size + 3 by omega) u⟩
theorem ScanI.put {a : Int} {w A : World} {pre : List F4} (h : ScanI a w pre A) {l : Nat} {o o' : Obj} (hl : w.heap.size ≤ l) (hi : A.heap[l]? = some o) (ho : o.isCells = false) : ScanI a w pre (A.putObj l o') := by
  obtain ⟨v, h1, h2, h3, ⟨y, h4⟩, h5⟩ := h
  exact ⟨v, put_cells hi ho h1, put_cells hi ho h2, WR.put h3 hi ho, ⟨y, put_cells hi ho h4⟩, h5.put hl o'⟩
theorem ScanI.oc {a : Int} {w A : World} {pre : List F4} (h : ScanI a w pre A) : OcS (w.heap.size + 1) A := by
  obtain ⟨v, _, h2, h3, _⟩ := h
  exact ⟨v, h2.cell 0, fun k hk => (World.ownsRow.lt h3 k hk).2⟩
/-- the frame of a round of Scan's loop, the variable's block being Bx -/
def scanAct (l : List UInt8) (a : Int) (w : World) (Bx : Nat) (f : F4) : Act :=
  { tmps := #[.string (S l), .int .i64 a, undef, .pointer (some ⟨w.heap.size, 0, none⟩), .slice none 0 0, .int .i64 0, .pointer (some ⟨w.heap.size + 1, 0, none⟩),
      .pointer (some ⟨Bx, 0, none⟩), .string (S l), .int .i64 a, .func (.func 34) #[] #[.pointer (some ⟨w.heap.size + 1 + 1, 0, none⟩), .pointer (some ⟨w.heap.size + 1 + 1 + 1, 0, none⟩)],
      .agg (f4C f).toArray, undef, undef, undef, undef, undef, undef, undef, undef], defers := [] }
def ScanA (l : List UInt8) (a : Int) (w : World) (f : F4) (a' : Act) (W : World) : Prop :=
  ∃ Bx v, Blk W Bx 31 (f4C f).toArray ∧ W.cell? ⟨w.heap.size + 1, 0, none⟩ = some v ∧ v.ownBlock ≠ some Bx ∧ w.heap.size + 4 ≤ Bx ∧ a' = scanAct l a w Bx f
theorem ScanA.put {l : List UInt8} {a : Int} {w A : World} {f : F4} {a' : Act} (h : ScanA l a w f a' A) {i : Nat} {o o' : Obj} (hi : A.heap[i]? = some o) (ho : o.isCells = false) : ScanA l a w f a' (A.putObj i o') := by
  obtain ⟨Bx, v, h1, h2, h3, h4, h5⟩ := h
  exact ⟨Bx, v, put_cells hi ho h1, put_cell hi ho h2, h3, h4, h5⟩
theorem blk_rr1f {w : World} {g : Nat} {t : TypeId} {a : F4} (h : Blk w g t (f4C a).toArray) : RR f4C 4 w (.slice (some ⟨g, 0, none⟩) 1 1) [a] :=
  WR.rr (B := 0) f4C_length ⟨by simp [f4C_length], .inr ⟨g, 1, _, rfl, Nat.zero_le _, h, Nat.le_refl _, by unfold maxLen; omega, by simp [f4C_length], by
    have : ([a].length * 4) = (f4C a).length := by simp [f4C_length]
    rw [this, List.take_length]
    simp⟩⟩
attribute [local go_sem] Oper.semAt_some frame_zero
set_option maxRecDepth 20000 in
set_option maxHeartbeats 8000000 in
theorem fScan_any (l : List UInt8) (a : Int) (w : World) (hl : (l.length : Int) ≤ 1000000000) :
    Calls Try.prog 14 #[.string (S l), .int .i64 a] w fun e w' => ∃ v', e = .returned (.tuple #[v', .int .i64 (scan l a).2]) ∧ Ext w w' ∧ FW w' w.heap.size v' (scan l a).1 := by
  refine (callsIn_wide (n := 0)).1 ?_
  refine callsIn_of_wp_marks Try.func14 rfl trivial ?_ rfl
  simp only [Try.ntmps14, List.size_toArray, List.length_cons, List.length_nil, Nat.reduceAdd, Nat.reduceSub, Array.replicate_succ, Array.replicate_zero, List.push_toArray, List.append_toArray, List.nil_append, List.cons_append]
  gi_wp2_with fail
  refine ⟨trivial, rfl, (callsIn_wide.2 (frames_any _ _ _)).mono ?_⟩
  rintro _ _ ⟨rfl, rfl⟩
  gi_wp2_with fail
  have FZ := fun f : F4 => (show (#[.int .i64 0, .string (S []), .int .i64 0, .int .i64 0] : Array Value).size = (f4C f).toArray.size from rfl)
  have FS := fun f : F4 => (show (Try.prog.info? 31).map (·.size) = some (f4C f).toArray.size from frame_size)
  have x0 : Ext w ((((w.alloc (.cells #[.int .i64 a] 3)).alloc (.cells #[.slice none 0 0] 36)).alloc (.cells #[.string (S l)] 9)).alloc (.cells #[.int .i64 a] 3)) := ((((Ext.refl w).alloc _).alloc _).alloc _).alloc _
  have bA := (((Blk.new w 3 #[.int .i64 a]).alloc (.cells #[.slice none 0 0] 36)).alloc (.cells #[.string (S l)] 9)).alloc (.cells #[.int .i64 a] 3)
  have bO := ((Blk.new (w.alloc (.cells #[.int .i64 a] 3)) 36 #[.slice none 0 0]).alloc (.cells #[.string (S l)] 9)).alloc (.cells #[.int .i64 a] 3)
  have bS := (Blk.new ((w.alloc (.cells #[.int .i64 a] 3)).alloc (.cells #[.slice none 0 0] 36)) 9 #[.string (S l)]).alloc (.cells #[.int .i64 a] 3)
  have bB := Blk.new (((w.alloc (.cells #[.int .i64 a] 3)).alloc (.cells #[.slice none 0 0] 36)).alloc (.cells #[.string (S l)] 9)) 3 #[.int .i64 a]
  have hsz : ((((w.alloc (.cells #[.int .i64 a] 3)).alloc (.cells #[.slice none 0 0] 36)).alloc (.cells #[.string (S l)] 9)).alloc (.cells #[.int .i64 a] 3)).heap.size = w.heap.size + 4 := by simp only [World.size_alloc]
  simp only [World.size_alloc] at bO bS bB
  generalize ((((w.alloc (.cells #[.int .i64 a] 3)).alloc (.cells #[.slice none 0 0] 36)).alloc (.cells #[.string (S l)] 9)).alloc (.cells #[.int .i64 a] 3)) = W0 at *
  have hI0 : ScanI a w [] W0 := ⟨_, bA, bO, WR.nil _ _ _, ⟨_, bB⟩, x0⟩
  refine wpIn_range_state (gf := 34) (lb := #[.pointer (some ⟨w.heap.size + 1 + 1, 0, none⟩), .pointer (some ⟨w.heap.size + 1 + 1 + 1, 0, none⟩)]) rfl (enters_of Try.func34 (by kernel_rfl) rfl)
    (iter_state l a (w.heap.size + 1 + 1) (w.heap.size + 1 + 1 + 1) w.heap.size (w.heap.size + 1) W0 hl bS bB (by omega) (by omega) (by omega) (by omega) (by omega) (by omega) (by omega)) (fun _ => rfl) KpS.pre KpS.put KpS.post
    (ScanI a w) (fun s A B h hx => h.ext hx) (fun s A v h => h.set_ v) (fun s W i o o' hi h1 h2 h => h.put (by omega) h1 h2) (fun s A h => h.oc) hI0
    (ScanA l a w) (fun x a' W i o o' h1 h2 h => h.put h1 h2) ?assign ?body ?done
  case assign =>
    intro lp pre x W K hI hK
    obtain ⟨v, h1, h2, h3, ⟨y, h4⟩, h5⟩ := hI
    have hKK := hK _ _ ((Ext.refl W).alloc (.cells (f4C x).toArray 31)) ⟨W.heap.size, v, Blk.new W _ _, Go.cell_later ((Ext.refl W).alloc _) (h2.cell 0), (fun h => absurd (World.ownsRow.lt h3 _ h).2 (Nat.lt_irrefl _)), (by have := h4.lt; omega), rfl⟩
    unfold scanAct at hKK
    have HKK := Lib.hid hKK
    have FZ := Lib.hid (FZ x)
    have FS := Lib.hid (FS x)
    have FO := Lib.hid (f4C_all x)
    clear hKK hK h1 h2 h3 h4 h5 bA bO bS bB hI0 x0
    generalize f4C x = fc at *
    simp only [List.zip_toArray, List.zip_cons_cons, List.zip_nil_right, List.foldl_toArray', List.foldl_toArray, List.foldl_cons, List.foldl_nil, List.setIfInBounds_toArray, List.set_cons_succ, List.set_cons_zero]
    gi_wp2_with (refine wpListIn_store_newR (cs' := fc.toArray) rfl 31 (.tmp 7) (.tmp 11) rfl rfl rfl FZ.out FS.out FO.out ?_)
    exact HKK.out
  case body =>
    rintro lp pre x a' W hpre ⟨v, h1, h2, h3, ⟨y, h4⟩, h5⟩ ⟨Bx, v2, b1, b2, b3, b4, rfl⟩
    have hv2 : v2 = v := by
      have := h2.cell 0
      rw [b2] at this
      injection this
    subst hv2
    have hpl : pre.length ≤ 1000000000 := by
      have e1 := hpre.length_le
      have e2 := scan_len l a
      rw [List.length_append, List.length_singleton] at e1
      omega
    have FSx := FS x
    have nA : v2.ownBlock ≠ some w.heap.size := fun e => by have := (World.ownsRow.lt h3 _ e).1; omega
    have nO : v2.ownBlock ≠ some (w.heap.size + 1) := fun e => by have := (World.ownsRow.lt h3 _ e).1; omega
    have nB : v2.ownBlock ≠ some (w.heap.size + 3) := fun e => by have := (World.ownsRow.lt h3 _ e).1; omega
    have hsW := h4.lt
    have load3 : ∀ (A : World) (a : Act), Blk A Bx 31 (f4C x).toArray → a.eval (.tmp 16) = .pointer (some ⟨Bx, 3, none⟩) → ∀ o : Oper, o.op = .load 3 (.tmp 16) → (execOp a.eval o).run Try.prog A = .ok (.value (.int .i64 x.to)) A := by
      intro A a hb ha o ho
      have c3 : A.cell? ⟨Bx, 3, none⟩ = some (.int .i64 x.to) := hb.cell 3
      refine exec_load1 (.tmp 16) ho ha ?_
      go_simp
    unfold scanAct
    gi_wp2_with fail
    refine wpIn_region_v [4, 5] _ rfl (by kernel_rfl) (by rintro ⟨_, _, h, _⟩; cases h) (by kernel_rfl) ?_
    dsimp only [List.length_cons, List.length_nil]
    have c2 : ∀ X : Up W.drew, X.val.cell? ⟨w.heap.size + 1, 0, none⟩ = some v2 := fun X => (h2.ext ((Ext.drew (Ext.refl W)).trans X.ext)).cell 0
    (refine v_want (by kernel_rfl) (by kernel_rfl) (by kernel_rfl) (fun _ _ _ _ h => h) (by kernel_rfl) (by kernel_rfl) (fun K hK => ?_)
     go_simp
     (refine hK _ ?_; clear hK K))
    refine v_load (by kernel_rfl) (by kernel_rfl) (by kernel_rfl) (fun _ _ _ _ h => h) (by kernel_rfl) (by kernel_rfl) 31 (.tmp 7) rfl rfl (b1.ext (Ext.drew (Ext.refl _))) Try.underlying31 rfl FSx ?_
    dsimp only [Act.put]
    simp only [List.setIfInBounds_toArray, List.set_cons_succ, List.set_cons_zero]
    refine v_late ?_
    refine v_late ?_
    (refine v_pure (by kernel_rfl) (by kernel_rfl) (by kernel_rfl) (fun _ _ _ _ h => h) (by kernel_rfl) (fun K hK => ?_)
     go_simp
     (refine hK _ ?_; clear hK K))
    refine v_late ?_
    refine v_late ?_
    refine v_late ?_
    refine v_rest ?_
    refine v_ser (iC := 5) (.int .i64 x.to) rfl rfl ?_
    refine SerV.step 2 (fun X => load3 _ _ (b1.ext ((Ext.drew (Ext.refl W)).trans X.ext)) rfl _ rfl) (.inl (by kernel_rfl)) (by kernel_rfl) rfl rfl (by decide) (fun d h => by cases h; decide) (fun X => ?_)
    have xX : Ext W X.val := (Ext.drew (Ext.refl W)).trans X.ext
    refine ⟨.slice (some ⟨X.val.heap.size, 0, none⟩) 1 1, X.val.alloc (.cells (f4C x).toArray 31), fun b hb => .inl ?_, fun _ => (Ext.refl _).alloc _, ?_⟩
    · rcases hb with rfl | rfl <;> exact (BsAt.of (vs := #[(0, .agg (f4C x).toArray)]) 36 _ rfl rfl (run_bs1f x)) X.val
    have x1 : Ext W (X.val.alloc (.cells (f4C x).toArray 31)) := xX.alloc _
    have bG := Blk.new X.val 31 (f4C x).toArray
    refine SerV.step 3 (fun Y => load3 _ _ (b1.ext (x1.trans Y.ext)) rfl _ rfl) (.inl (by kernel_rfl)) (by kernel_rfl) rfl rfl (by decide) (fun d h => by cases h; decide) (fun Y => ?_)
    have xY := x1.trans Y.ext
    obtain ⟨v1, w1, p1, p2, p3⟩ := WR.appS f4C_length (by omega) f4C_one (WR.ext h3 xY) (blk_rr1f (bG.ext Y.ext)) (by have := xY.size; omega) (P := Try.prog) (t := 36) Try.underlying36 frame_info rfl (by simp only [List.length_singleton]; omega) (by unfold maxLen; simp only [List.length_singleton]; omega)
    have g1 : W.grownBy w1 v2.ownBlock := ext_grownBy xY p3
    refine ⟨v1, w1, fun b hb => .inl ?_, (fun h0 => by have h9 := h0.symm.trans (by kernel_rfl : _ = true); cases h9), ?_⟩
    · rcases hb with rfl | rfl <;> exact exec_app (.tmp 12) (.tmp 14) 36 rfl rfl rfl rfl p1
    have hv1 : v1.cells = #[v1] ∧ v1.oneCell' = true := by
      rcases p2.2 with ⟨rfl, _⟩ | ⟨_, _, _, rfl, _⟩ <;> exact ⟨rfl, rfl⟩
    refine SerV.step 6 (fun Z => load3 _ _ ((grownBy_blk g1 b1 b3).ext Z.ext) rfl _ rfl) (.inr (by kernel_rfl)) (by kernel_rfl) rfl rfl (by decide) (fun d h => by cases h) (fun Z => ?_)
    have g2 := grownBy_ext g1 Z.ext
    refine ⟨undef, Z.val.setCell ⟨w.heap.size + 1, 0, none⟩ v1, fun b hb => .inr ⟨rfl, ?_⟩, (fun h0 => by have h9 := h0.symm.trans (by kernel_rfl : _ = true); cases h9), ?_⟩
    · rcases hb with rfl | rfl <;> exact exec_store1 (.tmp 6) (.tmp 15) rfl rfl rfl (grownBy_blk g2 h2 nO) hv1.1 hv1.2 (by kernel_rfl)
    have hZ : ∀ k t cs, Blk W k t cs → v2.ownBlock ≠ some k → k ≠ w.heap.size + 1 → Blk (Z.val.setCell ⟨w.heap.size + 1, 0, none⟩ v1) k t cs := fun k t cs hb hk hn => (grownBy_blk g2 hb hk).far (p := ⟨w.heap.size + 1, 0, none⟩) hn v1
    refine SerV.last (fun U => load3 _ _ ((hZ _ _ _ b1 b3 (by omega)).ext U.ext) rfl _ rfl) (by kernel_rfl) ?_
    refine v_one 7 (by kernel_rfl) rfl (by kernel_rfl) fun T K hK => ?_
    have bA1 := (hZ _ _ _ h1 nA (by omega)).ext T.ext
    unfold Oper.wp
    rw [exec_store1 (P := Try.prog) (o := _) (t := 3) (v := .int .i64 x.to) (.tmp 3) (.tmp 17) rfl rfl rfl bA1 rfl rfl (by kernel_rfl)]
    refine hK _ _ (fun h0 => by have h9 := h0.symm.trans (by kernel_rfl : _ = true); cases h9) ?_
    refine v_done (by kernel_rfl) fun V => ?_
    have hV : ∀ k t cs, Blk W k t cs → v2.ownBlock ≠ some k → k ≠ w.heap.size + 1 → k ≠ w.heap.size → Blk V.val k t cs := fun k t cs hb hk hn hm => (((hZ k t cs hb hk hn).ext T.ext).far (p := ⟨w.heap.size, 0, none⟩) hm _).ext V.ext
    refine ⟨rfl, ?_, ?_, ?_⟩
    · exact ((((KeepsOthers.of_grownBy g2 (WR.isCells h3)).trans (KeepsOthers.setCell _ _ _)).trans (KeepsOthers.ext T.ext)).trans (KeepsOthers.setCell _ _ _)).trans (KeepsOthers.ext V.ext)
    · intro k t cs v hc hb n1 n2 hn
      rw [b2] at hc
      obtain rfl := Option.some.inj hc
      refine hV k t cs hb ?_ n2 n1
      intro e
      rcases hn with hn | hn
      · obtain ⟨cur, hcur⟩ := WR.typed h3 k e
        exact hn (hb.type hcur)
      · exact hn e
    · refine ⟨v1, ?_, ?_, ?_, ⟨y, hV _ _ _ h4 nB (by omega) (by omega)⟩, ?_⟩
      · rw [atOf_snoc]
        exact ((bA1.set_ 0 _).ext V.ext)
      · exact ((((grownBy_blk g2 h2 nO).set_ 0 v1).ext T.ext).far (p := ⟨w.heap.size, 0, none⟩) (show w.heap.size + 1 ≠ w.heap.size by omega) _).ext V.ext
      · exact WR.ext (ownsRow_setCell_below (WR.ext (ownsRow_setCell_below (WR.ext p2 Z.ext) (show w.heap.size + 1 < w.heap.size + 4 by omega) v1) T.ext) (show w.heap.size < w.heap.size + 4 by omega) _) V.ext
      · exact ((((h5.grown g2 (fun k e => by have := (World.ownsRow.lt h3 _ e).1; omega)).set (p := ⟨w.heap.size + 1, 0, none⟩) (show w.heap.size ≤ w.heap.size + 1 by omega) v1).trans T.ext).set (p := ⟨w.heap.size, 0, none⟩) (Nat.le_refl _) _).trans V.ext
  case done =>
    rintro D W hD ⟨v, h1, h2, h3, ⟨y, h4⟩, h5⟩ hd
    gi_wp2_with fail
    refine wpIn_wide.2 ?_
    have c1 : ∀ X : Up W, X.val.cell? ⟨w.heap.size, 0, none⟩ = some (.int .i64 (atOf a (scan l a).1)) := fun X => (h1.ext X.ext).cell 0
    have c2 : ∀ X : Up W, X.val.cell? ⟨w.heap.size + 1, 0, none⟩ = some v := fun X => (h2.ext X.ext).cell 0
    refine wp_region_up (by kernel_rfl) (by kernel_rfl) ?_
    iterate 4 quiet_step (fail)
    refine wpQuiet_nil ?_
    rintro _ ⟨V, rfl⟩
    have hdV : V.val.heap[D]? = some (Obj.deferred (some [])) := (V.ext.block D (Array.getElem?_eq_some_iff.1 hd).1).trans hd
    have H1 := Lib.hid (h5.trans V.ext)
    have H3 := Lib.hid (WR.ext h3 V.ext)
    have HAT := Lib.hid (scan_at l a)
    clear h1 h2 h3 h4 h5 c1 c2 bA bO bS bB hI0 x0 hl
    gi_wp2_with fail
    refine ⟨by simp, .inl ⟨_, _, rfl, run_takeDeferred hdV, ?_⟩⟩
    refine ⟨_, results_tmp2 rfl _ _ _, ?_⟩
    refine ⟨_, by rw [HAT.out]; rfl, (Ext.put H1.out (by omega) _), ?_⟩
    exact WR.put (H3.out.mono (by omega)) hdV rfl
end Go.Proofs.Ythomdpdiknnahaa
