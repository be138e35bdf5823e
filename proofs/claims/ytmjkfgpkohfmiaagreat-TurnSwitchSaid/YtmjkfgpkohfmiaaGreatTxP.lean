/- TurnSwitch: plain facts; laws of regions. -/
import Derived.Test.YtmjkfgpkohfmiaaGreatMgAh
import Derived.Test.YtmjkfgpkohfmiaaGreatMgAf
import Derived.Test.YtmjkfgpkohfmiaaGreatMgAg
import Derived.Test.YtmjkfgpkohfmiaaGreatAppV
namespace Go.Proofs.YtmjkfgpkohfmiaaGreat
set_option linter.unusedVariables false
set_option linter.unusedSimpArgs false
open Go.RowKit

section

variable {P : Program} {ops : Array Oper} {Q : Exit → Act → World → Prop} {md : Region.Mode} {S : List Nat}

/-- a whole struct is loaded out of the middle of a block -/
theorem v_load_mid {listed : Array Bool} {k fuel : Nat} {a : Act} {w : World} {oi : Oper} {rest : List Oper} (hs : Region.noSelect ops = true) (hf : Region.free md ops listed k = true)
    (hr : (Region.ready md ops listed).contains k = true) (hQ : ∀ v, ∀ c a w, Q (.panic c) (a.put oi.dst v) w → Q (.panic c) a w)
    (hw : Region.wanted oi (yielded ops a.tmps) = true) (hS : S.contains k = false) (ty : TypeId) (x : Operand) (ho : oi.op = .load ty x)
    {g i : Nat} (hx : a.eval x = .pointer (some ⟨g, i, none⟩)) {cs : List Value} {d : TypeDesc} (hg : w.rangeAt g i cs)
    (hu : P.underlying ty = some d) (hd : d.isRow = true) (hsz : (P.info? ty).map (·.size) = some cs.length)
    (h : OutV P md ops Q S fuel (listed.setIfInBounds k true) (k + 1) rest (a.put oi.dst (.agg cs.toArray)) w) : OutV P md ops Q S (fuel + 1) listed k (oi :: rest) a w :=
  v_want hs hf hr hQ hw hS fun K hK => by
    refine ⟨.agg cs.toArray, fun y => ?_, hK _ h⟩
    unfold upAt
    simp only [execOp, ho, hx, Instr.loadAt, Instr.sureAddr, Sem.run_bind, Sem.run_pure, Result.andThen_ok, run_loadVar_mid y.val g i ty cs d (rangeAt_ext hg y.ext) hu hd hsz]
    exact ⟨rfl, rfl⟩
/-- one of two comes up -/
theorem v_fork {fuel : Nat} {listed : Array Bool} {a : Act} {w : World} (i j : Nat) {oi oj : Oper} (hr : Region.ready md ops listed = [i, j]) (hi : ops[i]? = some oi) (hj : ops[j]? = some oj)
    (wi : Region.wanted oi (yielded ops a.tmps) = true) (wj : Region.wanted oj (yielded ops a.tmps) = true)
    (h1 : ∀ x : Up w, ∀ K : Act → World → Prop, (∀ a' w', (lastS md ops S i = false → Ext x.val w') → wpAnyV P md ops Q S fuel (listed.setIfInBounds i true) a' w' → K a' w') → oi.wp P a x.val K Q)
    (h2 : ∀ x : Up w, ∀ K : Act → World → Prop, (∀ a' w', (lastS md ops S j = false → Ext x.val w') → wpAnyV P md ops Q S fuel (listed.setIfInBounds j true) a' w' → K a' w') → oj.wp P a x.val K Q) :
    wpAnyV P md ops Q S (fuel + 1) listed a w :=
  v_all [i, j] hr (by simp) fun m hm x K hK => by
    have hm : m = i ∨ m = j := by simpa using hm
    rcases hm with rfl | rfl
    · exact wpOp_wp hi wi (h1 x K hK)
    · exact wpOp_wp hj wj (h2 x K hK)
end

theorem has_arm {w : World} {b : Nat} {K : List Nat} {d : Dsk} (h : Has w b K d) (k : Int) (hk : k ≤ 9223372036854775807) : Calls Tryz.prog 10 #[.pointer (some ⟨b, 0, none⟩), .int .i64 k] w fun e w' => e = .returned (.int .i64 (d.arm k).2) ∧ ∃ K', Has w' b K' (d.arm k).1 ∧ Stp K K' w w' := by
  obtain ⟨ok, fb, mn, ms, cv, m, rfl⟩ := h
  exact (arm_any m k).mono (fun _ w' ⟨h1, h2⟩ => ⟨h1, h2.own (ok.arm k hk)⟩)
/-- the disk before the i-th manifest is saved -/
structure Sw (m : Man) (k : Nat) (d : Dsk) : Prop where
  hold : ∃ n, HoldD d n (manT m)
  may : maniP m = true
  cap : d.cap = 1000000
  ops : d.ops ≤ 10 + 6 * k
theorem sw_first (arm : Int) (h : 1 ≤ arm) : ((⟨[(firstT, firstT)], [(maniN, 0)], [(maniN, 0)], [], 1000000, 5, 0, false⟩ : Dsk).arm arm).2 = 0 ∧ Sw first26 0 ((⟨[(firstT, firstT)], [(maniN, 0)], [(maniN, 0)], [], 1000000, 5, 0, false⟩ : Dsk).arm arm).1 := by
  unfold Dsk.arm
  rw [if_neg (by simp), if_neg (by omega)]
  exact ⟨rfl, ⟨0, rfl, rfl, rfl, rfl, by simp, rfl⟩, first_may, rfl, by show (5 : Int) ≤ _; omega⟩
theorem jx1 : (Dsk.new 1000000).saveM first26 = (⟨[(firstT, firstT)], [(maniN, 0)], [(maniN, 0)], [], 1000000, 5, 0, false⟩, 0) := by
  have := first_len
  unfold Dsk.saveM
  rw [if_pos first_may]
  exact save_new 1000000 firstT (by omega) (by omega)
theorem Sw.le {m : Man} {k j : Nat} {d : Dsk} (h : Sw m k d) (hj : k ≤ j) : Sw m j d := ⟨h.hold, h.may, h.cap, by have := h.ops; omega⟩
theorem Sw.save {m0 m : Man} {k : Nat} {d : Dsk} (h : Sw m0 k d) (hp : maniP m = true) :
    ((d.saveM m).2 = 0 ∧ Sw m (k + 1) (d.saveM m).1) ∨ ((d.saveM m).2 = 200 ∧ Fell (d.saveM m).1 (manT m0) (manT m) ∧ (d.saveM m).1.ops ≤ 20 + 6 * k) := by
  obtain ⟨⟨n, hd⟩, h1, h2, h3⟩ := h
  have l0 := manT_len h1
  have l1 := manT_len hp
  have so := save_ops d (manT m)
  unfold Dsk.saveM
  rw [if_pos hp]
  rcases save_law hd (T := manT m) (by omega) (by rw [h2]; omega) with ⟨a, b, c, e⟩ | ⟨a, b⟩
  · exact .inl ⟨a, b, hp, c.trans h2, by omega⟩
  · exact .inr ⟨a, b, by omega⟩
theorem Sw.fell {m : Man} {k : Nat} {d : Dsk} (h : Sw m k d) : Fell d (manT m) (manT m) := by
  obtain ⟨⟨n, hd⟩, _⟩ := h
  exact hd.fell
/-- what is loaded in the end -/
theorem fell_load {d : Dsk} {m0 m : Man} (h : Fell d (manT m0) (manT m)) (h0 : maniP m0 = true) (h1 : maniP m = true) (k : Int) (cuts : List Int) (marks : List (List UInt8)) :
    (d.off.boot k cuts marks).loadM = (m0, 0) ∨ (d.off.boot k cuts marks).loadM = (m, 0) := by
  rcases h.read k cuts marks with e | e
  · exact .inl (load_of h0 e)
  · exact .inr (load_of h1 e)
theorem sameMan_refl (m : Man) : sameMan m m = true := by unfold sameMan; simp
theorem mani_ents {m : Man} (h : maniP m = true) : 0 < m.ents.length := by
  have := rowP_len (mani_row h).2.1
  omega
set_option maxRecDepth 20000 in
set_option maxHeartbeats 4000000 in
theorem first_new (w : World) : Calls Tryz.prog 9 #[] w fun e w' => ∃ a c, e = .returned (.agg (manC first26 (.slice a 1 c))) ∧ RR entC 9 w' (.slice a 1 c) first26.ents ∧ Ext w w' ∧ ∀ k, (Value.slice a 1 c).ownBlock = some k → w.heap.size ≤ k := by
  have B1 := Lib.hid ((Blk.new w 39 #[.int .i64 1, .int .i64 2, .int .i64 0, .int .i64 1, .slice (some ⟨w.heap.size + 1, 0, none⟩) 1 1]).alloc (.cells #[.int .i64 1, .int .i64 1, .int .i64 1, .bool false, .int .i64 0, .int .i64 0, .int .i64 0, .int .i64 0, .int .i64 0] 73))
  have e := Blk.new (w.alloc (.cells #[.int .i64 1, .int .i64 2, .int .i64 0, .int .i64 1, .slice (some ⟨w.heap.size + 1, 0, none⟩) 1 1] 39)) 73 (entC ⟨1, 1, 1, false, 0, 0, 0, 0, 0⟩).toArray
  rw [World.size_alloc] at e
  have RE := Lib.hid (ent_rr e)
  clear e
  have MS := Lib.hid (show (Tryz.prog.info? 39).map (·.size) = some 5 from man_size)
  go_enter Tryz.func9, Tryz.ntmps9
  go_wp2_with fail
  exact bodyPost_ret (results_cell_row rfl _ _ w.heap.size _ _ (0, 0) _ rfl B1.out Tryz.underlying39 rfl MS.out) rfl ⟨some ⟨w.heap.size + 1, 0, none⟩, 1, rfl, RE.out, ((Ext.refl w).alloc _).alloc _, fun k hk => by injection hk with hk; subst hk; show w.heap.size ≤ w.heap.size + 1; omega⟩
theorem ER.of {W w : World} {K : List Nat} {v : Value} {l : List E9} (h : RR entC 9 W v l) (h0 : 0 < l.length) (x : Stp [] K W w) : ER K w v l :=
  ER.stp (K := []) ⟨h, fun k hk => ⟨by simp, h.ltB h0 hk⟩⟩ x
theorem ER.shape {K : List Nat} {w : World} {v : Value} {l : List E9} (h : ER K w v l) : ∃ a c, v = .slice a l.length c := by
  obtain ⟨⟨a, c, e, _⟩, _⟩ := h
  exact ⟨a, c, e⟩
theorem ER.far {K : List Nat} {w : World} {v : Value} {l : List E9} (h : ER K w v l) {g : Nat} {t : TypeId} {cs : Array Value} (hb : Blk w g t cs) (hs : cs.size < 9) (cs' : Array Value) : ER K (w.setRow g cs') v l :=
  ⟨h.1.far entC_length hb hs cs', fun k hk => ⟨(h.2 k hk).1, by have := (h.2 k hk).2; simpa using this⟩⟩
/-- the disk, and the two manifests that the law holds -/
structure SwM (W w : World) (b g9 g10 : Nat) (K : List Nat) (d : Dsk) (mo mn : MD) : Prop where
  has : Has w b K d
  stp : Stp [] K W w
  b9 : Blk w g9 39 (manC mo.m mo.u)
  b10 : Blk w g10 39 (manC mn.m mn.u)
  n9 : g9 ∉ K
  n10 : g10 ∉ K
  ne : g9 ≠ g10
  l9 : W.heap.size ≤ g9
  l10 : W.heap.size ≤ g10
  e9 : ER K w mo.u mo.m.ents
  e10 : ER K w mn.u mn.m.ents
  p9 : maniP mo.m = true
  p10 : maniP mn.m = true
theorem SwM.turn {W w w' : World} {b g9 g10 : Nat} {K K' : List Nat} {d d' : Dsk} {mo mn : MD} (h : SwM W w b g9 g10 K d mo mn) (hd : Has w' b K' d') (x : Stp K K' w w') : SwM W w' b g9 g10 K' d' mo mn where
  has := hd
  stp := h.stp.trans x
  b9 := h.b9.but x.1 h.n9
  b10 := h.b10.but x.1 h.n10
  n9 := fun hm => (x.2 _ hm).elim h.n9 (fun h2 => by have := h.b9.lt; omega)
  n10 := fun hm => (x.2 _ hm).elim h.n10 (fun h2 => by have := h.b10.lt; omega)
  ne := h.ne
  l9 := h.l9
  l10 := h.l10
  e9 := h.e9.stp x
  e10 := h.e10.stp x
  p9 := h.p9
  p10 := h.p10
theorem SwM.ext {W w w' : World} {b g9 g10 : Nat} {K : List Nat} {d : Dsk} {mo mn : MD} (h : SwM W w b g9 g10 K d mo mn) (x : Ext w w') : SwM W w' b g9 g10 K d mo mn := h.turn (h.has.ext x) (Stp.of_ext x)
theorem has_row {w : World} {b g : Nat} {K : List Nat} {d : Dsk} (h : Has w b K d) (hg : g ∉ K) (cs : Array Value) : Has (w.setRow g cs) b K d :=
  h.but (G := [g]) (But.setRow (But.refl _ w) (List.mem_singleton.2 rfl) cs) (fun k hk hm => hg (List.mem_singleton.1 hm ▸ hk))
theorem SwM.set9 {W w : World} {b g9 g10 : Nat} {K : List Nat} {d : Dsk} {mo mn : MD} (h : SwM W w b g9 g10 K d mo mn) {x : MD} (e : ER K w x.u x.m.ents) (p : maniP x.m = true) : SwM W (w.setRow g9 (manC x.m x.u)) b g9 g10 K d x mn where
  has := has_row h.has h.n9 _
  stp := ⟨But.of_ext (Ext.setRow h.stp.ext h.l9 _), h.stp.2⟩
  b9 := h.b9.setRow _
  b10 := h.b10.setRow_far (fun e => h.ne e.symm) _
  n9 := h.n9
  n10 := h.n10
  ne := h.ne
  l9 := h.l9
  l10 := h.l10
  e9 := e.far h.b9 (by show 5 < 9; omega) _
  e10 := h.e10.far h.b9 (by show 5 < 9; omega) _
  p9 := p
  p10 := h.p10
theorem SwM.set10 {W w : World} {b g9 g10 : Nat} {K : List Nat} {d : Dsk} {mo mn : MD} (h : SwM W w b g9 g10 K d mo mn) {x : MD} (e : ER K w x.u x.m.ents) (p : maniP x.m = true) : SwM W (w.setRow g10 (manC x.m x.u)) b g9 g10 K d mo x where
  has := has_row h.has h.n10 _
  stp := ⟨But.of_ext (Ext.setRow h.stp.ext h.l10 _), h.stp.2⟩
  b9 := h.b9.setRow_far h.ne _
  b10 := h.b10.setRow _
  n9 := h.n9
  n10 := h.n10
  ne := h.ne
  l9 := h.l9
  l10 := h.l10
  e9 := h.e9.far h.b10 (by show 5 < 9; omega) _
  e10 := e.far h.b10 (by show 5 < 9; omega) _
  p9 := h.p9
  p10 := p
end Go.Proofs.YtmjkfgpkohfmiaaGreat
