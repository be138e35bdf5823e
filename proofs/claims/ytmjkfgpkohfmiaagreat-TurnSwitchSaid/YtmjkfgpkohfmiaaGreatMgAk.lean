/- Several texts in one. merged: App3 TsD TsP -/
import Derived.Test.YtmjkfgpkohfmiaaGreatApp3G
import Derived.Test.YtmjkfgpkohfmiaaGreatRead
import Derived.Test.YtmjkfgpkohfmiaaGreatAnyV
import Derived.Test.YtmjkfgpkohfmiaaGreatMgAc
import Derived.Test.YtmjkfgpkohfmiaaGreatTgJ
import Derived.Test.YtmjkfgpkohfmiaaGreatMgAj
namespace Go.Proofs.YtmjkfgpkohfmiaaGreat
set_option linter.unusedVariables false
set_option linter.unusedSimpArgs false
open Go.RowKit

section
variable {w w' : World} {v u : Value} {l m : List Int} {B : Nat}
theorem run_bs0 (w : World) : (Instr.buildSlice 23 0 #[]).run Tryz.prog w = .ok (.slice (some ⟨w.heap.size, 0, none⟩) 0 0) (w.alloc (.cells #[] 3)) := by kernel_rfl
theorem run_bs1i (x : Int) (w : World) : (Instr.buildSlice 23 1 #[(0, .int .i64 x)]).run Tryz.prog w = .ok (.slice (some ⟨w.heap.size, 0, none⟩) 1 1) (w.alloc (.cells #[.int .i64 x] 3)) := by kernel_rfl
theorem IW.app0 {g : Nat} (hb : Blk w g 3 #[]) (hBg : B ≤ g) (hr : RI w u m) (hB : B ≤ w.heap.size) (hl : (m.length : Int) ≤ 1000000000) :
    ∃ v' w', (Builtin.append_ #[23, 23] 23 #[.slice (some ⟨g, 0, none⟩) 0 0, u]).run Tryz.prog w = .ok v' w' ∧ IW w' B v' m ∧ Ext w w' := by
  obtain ⟨v', w', h1, h2, h3⟩ := WR.app0 (B := B) intC_length (by decide) intC_one hb hBg hr hB (P := Tryz.prog) (t := 23) Tryz.underlying23 int_info rfl (by omega) (by unfold maxLen; omega)
  exact ⟨v', w', h1, IW_WR.2 h2, h3⟩
theorem RI.one {g : Nat} {x : Int} (h : Blk w g 3 #[.int .i64 x]) : RI w (.slice (some ⟨g, 0, none⟩) 1 1) [x] :=
  RI.of (l := [x]) (by simp) (fun k hk => by
    obtain rfl : k = 0 := by simpa using hk
    rw [h.cell]; rfl)
end
end Go.Proofs.YtmjkfgpkohfmiaaGreat
namespace Go.Proofs.YtmjkfgpkohfmiaaGreat
set_option linter.unusedVariables false
set_option linter.unusedSimpArgs false
open Go.RowKit

def sI (b : Bool) : Int := if b then 1 else 0
def e9L (e : E9) : List Int := [e.id, e.gen, e.fst, sI e.sld, e.cnt, e.blk, e.early, e.late, e.bytes]
def manK (m : Man) (k : Nat) : List Int := m.gen :: m.next :: m.now :: m.floor :: (m.ents.length : Int) :: (m.ents.take k).flatMap e9L
/-- a manifest's bytes -/
def manB (m : Man) : List UInt8 := if maniP m then putsL (manK m m.ents.length) else []
theorem putsL_app (a b : List Int) : putsL (a ++ b) = putsL a ++ putsL b := List.flatMap_append
theorem e9L_length (l : List E9) : (l.flatMap e9L).length = 9 * l.length := by
  induction l with
  | nil => rfl
  | cons m l ih => rw [List.flatMap_cons, List.length_append, ih, List.length_cons, show (e9L m).length = 9 from rfl]; omega
theorem manK_length (m : Man) (k : Nat) (hk : k ≤ m.ents.length) : (manK m k).length = 5 + 9 * k := by
  unfold manK
  simp only [List.length_cons]
  rw [e9L_length, List.length_take, Nat.min_eq_left hk]; omega
theorem take_more9 (l : List E9) (k : Nat) (hk : k < l.length) : l.take (k + 1) = l.take k ++ [l.getD k default] := by
  rw [List.take_add_one, List.getElem?_eq_getElem hk, List.getD_eq_getElem?_getD, List.getElem?_eq_getElem hk]; rfl
theorem manK_more (m : Man) (k : Nat) (hk : k < m.ents.length) : manK m (k + 1) = manK m k ++ e9L (m.ents.getD k default) := by
  unfold manK
  rw [take_more9 m.ents k hk, List.flatMap_append, List.flatMap_cons, List.flatMap_nil, List.append_nil]
  rfl
theorem e9L_nn {e : E9} (h : entP e = true) : ∀ x ∈ e9L e, 0 ≤ x ∧ x ≤ 9223372036854775807 := by
  unfold entP at h
  rw [Bool.and_eq_true] at h
  obtain ⟨h1, h2⟩ := h
  have h1 : headD e.id e.gen e.fst := by simpa [headP] using h1
  obtain ⟨p1, p2, p3⟩ := h1
  have hs : sI e.sld = 0 ∨ sI e.sld = 1 := by cases e.sld <;> simp [sI]
  intro x hx
  simp only [e9L, List.mem_cons, List.not_mem_nil, or_false] at hx
  by_cases hsl : e.sld = true
  · rw [if_pos hsl] at h2
    have h2 : sealD e.fst e.cnt e.blk e.early e.late e.bytes := by simpa [sealP] using h2
    obtain ⟨q1, q2, q3, q4, q5, q6, q7, q8, q9, q10⟩ := h2
    rcases hx with rfl | rfl | rfl | rfl | rfl | rfl | rfl | rfl | rfl <;> omega
  · rw [if_neg hsl] at h2
    have h2 : openD e.cnt e.blk e.early e.late e.bytes := by simpa [openP] using h2
    obtain ⟨q1, q2, q3, q4, q5⟩ := h2
    rcases hx with rfl | rfl | rfl | rfl | rfl | rfl | rfl | rfl | rfl <;> omega
theorem manK_nn {m : Man} (h : maniP m = true) : ∀ x ∈ manK m m.ents.length, 0 ≤ x ∧ x ≤ 9223372036854775807 := by
  obtain ⟨⟨h1, h2, h3, h4⟩, hr, ⟨h5, h6, h7⟩, -⟩ := mani_row h
  have hl := rowP_len hr
  have h8 := e9L_nn (row_ent hr (i := 0) (by omega))
  have h9 := e9L_nn (row_ent hr (i := m.ents.length - 1) (by omega))
  have hf := h8 (fstOf m.ents).fst (by simp [e9L, fstOf])
  have hli := h9 (lastOf m.ents).id (by simp [e9L, lastOf])
  intro x hx
  unfold manK at hx
  simp only [List.mem_cons, List.take_length] at hx
  rcases hx with rfl | rfl | rfl | rfl | rfl | hx
  · omega
  · omega
  · omega
  · omega
  · omega
  · obtain ⟨e, he, hx⟩ := List.mem_flatMap.1 hx
    obtain ⟨i, hi, rfl⟩ := List.getElem_of_mem he
    have := row_ent hr hi
    rw [List.getD_eq_getElem?_getD, List.getElem?_eq_getElem hi] at this
    exact e9L_nn this x hx
theorem ri_lit (l : List Int) (n : Nat) (hn : l.length = n) (w : World) (cs : Array Value) (hcs : cs.toList = ints l) (hl : l.length ≤ 1000000000) : RI (w.alloc (.cells cs 3)) (.slice (some ⟨w.heap.size, 0, none⟩) n n) l := (IW.lit w l hl n hn cs hcs).ri
theorem run_bs5i (a b c d e : Int) (w : World) : (Instr.buildSlice 23 5 #[(0, .int .i64 a), (1, .int .i64 b), (2, .int .i64 c), (3, .int .i64 d), (4, .int .i64 e)]).run Tryz.prog w = .ok (.slice (some ⟨w.heap.size, 0, none⟩) 5 5) (w.alloc (.cells #[.int .i64 a, .int .i64 b, .int .i64 c, .int .i64 d, .int .i64 e] 3)) := by kernel_rfl
theorem run_bs9i (a b c d e f g h i : Int) (w : World) : (Instr.buildSlice 23 9 #[(0, .int .i64 a), (1, .int .i64 b), (2, .int .i64 c), (3, .int .i64 d), (4, .int .i64 e), (5, .int .i64 f), (6, .int .i64 g), (7, .int .i64 h), (8, .int .i64 i)]).run Tryz.prog w = .ok (.slice (some ⟨w.heap.size, 0, none⟩) 9 9) (w.alloc (.cells #[.int .i64 a, .int .i64 b, .int .i64 c, .int .i64 d, .int .i64 e, .int .i64 f, .int .i64 g, .int .i64 h, .int .i64 i] 3)) := by kernel_rfl
theorem ent_zero9' (w : World) : (zeroValue 73).run Tryz.prog w = .ok (.agg #[.int .i64 0, .int .i64 0, .int .i64 0, .bool false, .int .i64 0, .int .i64 0, .int .i64 0, .int .i64 0, .int .i64 0]) w := by kernel_rfl
theorem IW.ge' {w : World} {B : Nat} {v : Value} {l : List Int} (h : IW w B v l) : ∀ k, v.ownBlock = some k → B ≤ k := fun k hk => (World.ownsRow.lt h k hk).1

section

attribute [local go_sem] S_size S_toList

end

section

attribute [local go_sem] S_size S_toList S_append S_extract S_beq S_bne S_empty S_nil ent_zero9'

set_option maxRecDepth 20000 in
set_option maxHeartbeats 8000000 in
theorem mEncode_any (m : Man) (v : Value) (w : World) (hr : RR entC 9 w v m.ents) :
    Calls Tryz.prog 25 #[.agg (manC m v)] w fun e w' => e = .returned (.tuple #[.string (S (manB m)), .int .i64 (errI (maniP m) 250)]) ∧ Ext w w' := by
  have QC := Lib.hid (fun w h => mCheck_any m v w h)
  have X0 := Lib.hid ((Ext.refl w).alloc (.cells (manC m v) 39))
  have R0 := Lib.hid (hr.ext X0.out)
  have B1 := Lib.hid (Blk.new w 39 (manC m v))
  have MS := Lib.hid (show (Tryz.prog.info? 39).map (·.size) = some (manC m v).size from man_size)
  cases hp : maniP m with
  | false =>
    have HH := Lib.hid (show manB m = [] by unfold manB; rw [hp]; rfl)
    rw [hp] at QC
    simp only [errI, Bool.false_eq_true, if_false] at QC ⊢
    clear hp hr
    generalize manC m v = mc at *
    go_enter Tryz.func25, Tryz.ntmps25
    go_wp2_with (refine wpList_load_blk rfl 39 (.tmp 1) rfl rfl B1.out Tryz.underlying39 rfl MS.out ?_; refine Held.go ?_)
    refine ⟨?_⟩
    go_wp2_with fail
    refine (QC.out _ R0.out).mono ?_
    rintro _ w1 ⟨rfl, x1⟩
    have X1 := Lib.hid (X0.out.trans x1)
    clear x1
    go_wp2
    exact bodyPost_ret (results_tmp2 rfl _ _ _) rfl ⟨by rw [HH.out]; rfl, X1.out⟩
  | true =>
    have HH := Lib.hid (show manB m = putsL (manK m m.ents.length) by unfold manB; rw [hp]; rfl)
    have HN := Lib.hid (manK_nn hp)
    have hrow := (mani_row hp).2.1
    have hlen := rowP_len hrow
    have HE := Lib.hid (fun i hi => row_ent hrow (i := i) hi)
    rw [hp] at QC
    simp only [errI, if_true] at QC ⊢
    obtain ⟨a, c, rfl, _, _, hs⟩ := hr
    have HS := Lib.hid hs
    have QC := Lib.hid (QC.out _ R0.out)
    have C0 := Lib.hid (show (manC m (.slice a m.ents.length c))[0]? = some (.int .i64 m.gen) from rfl)
    have C1 := Lib.hid (show (manC m (.slice a m.ents.length c))[1]? = some (.int .i64 m.next) from rfl)
    have C2 := Lib.hid (show (manC m (.slice a m.ents.length c))[2]? = some (.int .i64 m.now) from rfl)
    have C3 := Lib.hid (show (manC m (.slice a m.ents.length c))[3]? = some (.int .i64 m.floor) from rfl)
    have C4 := Lib.hid (show (manC m (.slice a m.ents.length c))[4]? = some (.slice a m.ents.length c) from rfl)
    have HLEN := Lib.hid hlen
    have HK0 := Lib.hid (show manK m 0 = [m.gen, m.next, m.now, m.floor, (m.ents.length : Int)] from rfl)
    clear hp hs hrow hlen
    generalize manC m (.slice a m.ents.length c) = mc at *
    go_enter Tryz.func25, Tryz.ntmps25
    go_wp2_with (refine wpList_load_blk rfl 39 (.tmp 1) rfl rfl B1.out Tryz.underlying39 rfl MS.out ?_; refine Held.go ?_)
    refine ⟨?_⟩
    go_wp2_with fail
    refine QC.out.mono ?_
    rintro _ w1 ⟨rfl, x1⟩
    have b1 := B1.out.ext x1
    have c0 := (b1.cell 0).trans C0.out
    have c1 := (b1.cell 1).trans C1.out
    have c2 := (b1.cell 2).trans C2.out
    have c3 := (b1.cell 3).trans C3.out
    have c4 := (b1.cell 4).trans C4.out
    have X1 := Lib.hid (X0.out.trans x1)
    have HB1 := Lib.hid b1
    generalize hgen : m.gen = gen at *
    generalize hnext : m.next = next at *
    generalize hnow : m.now = now at *
    generalize hfloor : m.floor = floor at *
    clear b1 x1 QC hgen hnext hnow hfloor
    go_wp2_with (refine wpList_bs (vs := #[(0, .int .i64 gen), (1, .int .i64 next), (2, .int .i64 now), (3, .int .i64 floor), (4, .int .i64 (m.ents.length : Int))]) rfl 23 5 _ rfl rfl (run_bs5i _ _ _ _ _ _) ?_; refine Held.go ?_)
    refine ⟨?_⟩
    clear c0 c1 c2 c3
    have x2 : Ext w (w1.alloc (.cells #[.int .i64 gen, .int .i64 next, .int .i64 now, .int .i64 floor, .int .i64 (m.ents.length : Int)] 3)) := X1.out.alloc _
    have I0 := Lib.hid (show IW (w1.alloc (.cells #[.int .i64 gen, .int .i64 next, .int .i64 now, .int .i64 floor, .int .i64 (m.ents.length : Int)] 3)) w.heap.size (.slice (some ⟨w1.heap.size, 0, none⟩) 5 5) (manK m 0) from by
      rw [HK0.out]
      exact (IW.lit w1 [gen, next, now, floor, (m.ents.length : Int)] (by simp) 5 rfl _ rfl).mono X1.out.le)
    have HB1 := Lib.hid (HB1.out.alloc (.cells #[.int .i64 gen, .int .i64 next, .int .i64 now, .int .i64 floor, .int .i64 (m.ents.length : Int)] 3))
    have c4 := (HB1.out.cell 4).trans C4.out
    have X2 := Lib.hid x2
    clear x2
    generalize w1.alloc (.cells #[.int .i64 gen, .int .i64 next, .int .i64 now, .int .i64 floor, .int .i64 (m.ents.length : Int)] 3) = w2 at *
    go_wp2
    clear c4
    go_loopw [5, 34] (fun v i wr => ∃ k : Nat, i = .int .i64 (k : Int) ∧ k ≤ m.ents.length ∧ IW wr w.heap.size v (manK m k) ∧ Ext w wr) (fun _ i _ => m.ents.length - (intOf i).toNat)
    case atStart => exact ⟨0, rfl, Nat.zero_le _, I0.out, X2.out⟩
    case round =>
      obtain ⟨k, rfl, hk, hw, hx⟩ := hrel
      by_cases hlt : k < m.ents.length
      · obtain ⟨g, o, rfl, hcells⟩ := HS.out (by omega)
        have hI : (k : Int) < (m.ents.length : Int) := by omega
        have R := Lib.hid (rangeAt_ext (hcells k _ (ent_at hlt)) hx)
        have hmore := manK_more m k hlt
        have hfl := manK_length m k hk
        have hlen := HLEN.out
        clear hcells
        generalize m.ents.getD k default = e at *
        obtain ⟨id, gn, fs, sld, ct, bk, ey, lt, bt⟩ := e
        cases sld with
        | false =>

          have hmore : manK m (k + 1) = manK m k ++ [id, gn, fs, 0, ct, bk, ey, lt, bt] := hmore
          have hx2 : Ext w ((wr.alloc (.cells #[.int .i64 id, .int .i64 gn, .int .i64 fs, .bool false, .int .i64 ct, .int .i64 bk, .int .i64 ey, .int .i64 lt, .int .i64 bt] 73)).alloc (.cells #[.int .i64 id, .int .i64 gn, .int .i64 fs, .int .i64 0, .int .i64 ct, .int .i64 bk, .int .i64 ey, .int .i64 lt, .int .i64 bt] 3)) := (hx.alloc _).alloc _
          obtain ⟨v', w', p1, p2, p3⟩ := IW.appS (hw.ext (((Ext.refl wr).alloc (.cells #[.int .i64 id, .int .i64 gn, .int .i64 fs, .bool false, .int .i64 ct, .int .i64 bk, .int .i64 ey, .int .i64 lt, .int .i64 bt] 73)).alloc (.cells #[.int .i64 id, .int .i64 gn, .int .i64 fs, .int .i64 0, .int .i64 ct, .int .i64 bk, .int .i64 ey, .int .i64 lt, .int .i64 bt] 3)))
            (ri_lit [id, gn, fs, 0, ct, bk, ey, lt, bt] 9 rfl (wr.alloc (.cells #[.int .i64 id, .int .i64 gn, .int .i64 fs, .bool false, .int .i64 ct, .int .i64 bk, .int .i64 ey, .int .i64 lt, .int .i64 bt] 73)) #[.int .i64 id, .int .i64 gn, .int .i64 fs, .int .i64 0, .int .i64 ct, .int .i64 bk, .int .i64 ey, .int .i64 lt, .int .i64 bt] rfl (by simp)) hx2.size (by rw [hfl]; simp; omega)
          rw [← hmore] at p2
          have P2 := Lib.hid p2
          have HX := Lib.hid (hx2.grown p3 (fun j hj => hw.ge j hj))
          have EZ := Lib.hid (show (Tryz.prog.info? 73).map (·.size) = some 9 from ent_size)
          rw [World.size_alloc] at p1
          clear hmore p2 p3 hx2 hx hfl
          obtain ⟨gv, cv, rfl, _, _⟩ := hw.shape
          obtain ⟨g2, c2, rfl, _, _⟩ := P2.out.shape
          generalize (manK m k).length = n1 at *
          generalize (manK m (k + 1)).length = n2 at *
          clear hw
          go_wp2_with (refine wpList_load_mid rfl 73 (.tmp 36) rfl g _ rfl [.int .i64 id, .int .i64 gn, .int .i64 fs, .bool false, .int .i64 ct, .int .i64 bk, .int .i64 ey, .int .i64 lt, .int .i64 bt] _ R.out Tryz.underlying73 rfl EZ.out ?_; refine Held.go ?_)
          refine ⟨?_⟩
          go_wp2_with (refine wpList_store_new rfl 73 (.tmp 7) (.tmp 37) rfl rfl rfl rfl EZ.out (by kernel_rfl) ?_; refine Held.go ?_)
          refine ⟨?_⟩
          go_wp2_with (refine wpList_bs (vs := #[(0, .int .i64 id), (1, .int .i64 gn), (2, .int .i64 fs), (3, .int .i64 0), (4, .int .i64 ct), (5, .int .i64 bk), (6, .int .i64 ey), (7, .int .i64 lt), (8, .int .i64 bt)]) rfl 23 9 _ rfl rfl (run_bs9i _ _ _ _ _ _ _ _ _ _) ?_; refine Held.go ?_)
          refine ⟨?_⟩
          go_wp2_with (at_builtin; refine wpList_app rfl (.tmp 40) (.tmp 61) 23 rfl rfl rfl rfl p1 ?_; refine Held.go ?_)
          refine ⟨?_⟩
          go_wp2
          go_roundw
          case rel => exact ⟨k + 1, by go_num, by omega, P2.out, HX.out⟩
          case measure => simp [intOf]; omega
        | true =>
          have hmore : manK m (k + 1) = manK m k ++ [id, gn, fs, 1, ct, bk, ey, lt, bt] := hmore
          have hx2 : Ext w ((wr.alloc (.cells #[.int .i64 id, .int .i64 gn, .int .i64 fs, .bool true, .int .i64 ct, .int .i64 bk, .int .i64 ey, .int .i64 lt, .int .i64 bt] 73)).alloc (.cells #[.int .i64 id, .int .i64 gn, .int .i64 fs, .int .i64 1, .int .i64 ct, .int .i64 bk, .int .i64 ey, .int .i64 lt, .int .i64 bt] 3)) := (hx.alloc _).alloc _
          obtain ⟨v', w', p1, p2, p3⟩ := IW.appS (hw.ext (((Ext.refl wr).alloc (.cells #[.int .i64 id, .int .i64 gn, .int .i64 fs, .bool true, .int .i64 ct, .int .i64 bk, .int .i64 ey, .int .i64 lt, .int .i64 bt] 73)).alloc (.cells #[.int .i64 id, .int .i64 gn, .int .i64 fs, .int .i64 1, .int .i64 ct, .int .i64 bk, .int .i64 ey, .int .i64 lt, .int .i64 bt] 3)))
            (ri_lit [id, gn, fs, 1, ct, bk, ey, lt, bt] 9 rfl (wr.alloc (.cells #[.int .i64 id, .int .i64 gn, .int .i64 fs, .bool true, .int .i64 ct, .int .i64 bk, .int .i64 ey, .int .i64 lt, .int .i64 bt] 73)) #[.int .i64 id, .int .i64 gn, .int .i64 fs, .int .i64 1, .int .i64 ct, .int .i64 bk, .int .i64 ey, .int .i64 lt, .int .i64 bt] rfl (by simp)) hx2.size (by rw [hfl]; simp; omega)
          rw [← hmore] at p2
          have P2 := Lib.hid p2
          have HX := Lib.hid (hx2.grown p3 (fun j hj => hw.ge j hj))
          have EZ := Lib.hid (show (Tryz.prog.info? 73).map (·.size) = some 9 from ent_size)
          rw [World.size_alloc] at p1
          clear hmore p2 p3 hx2 hx hfl
          obtain ⟨gv, cv, rfl, _, _⟩ := hw.shape
          obtain ⟨g2, c2, rfl, _, _⟩ := P2.out.shape
          generalize (manK m k).length = n1 at *
          generalize (manK m (k + 1)).length = n2 at *
          clear hw
          go_wp2_with (refine wpList_load_mid rfl 73 (.tmp 36) rfl g _ rfl [.int .i64 id, .int .i64 gn, .int .i64 fs, .bool true, .int .i64 ct, .int .i64 bk, .int .i64 ey, .int .i64 lt, .int .i64 bt] _ R.out Tryz.underlying73 rfl EZ.out ?_; refine Held.go ?_)
          refine ⟨?_⟩
          go_wp2_with (refine wpList_store_new rfl 73 (.tmp 7) (.tmp 37) rfl rfl rfl rfl EZ.out (by kernel_rfl) ?_; refine Held.go ?_)
          refine ⟨?_⟩
          go_wp2_with (refine wpList_bs (vs := #[(0, .int .i64 id), (1, .int .i64 gn), (2, .int .i64 fs), (3, .int .i64 1), (4, .int .i64 ct), (5, .int .i64 bk), (6, .int .i64 ey), (7, .int .i64 lt), (8, .int .i64 bt)]) rfl 23 9 _ rfl rfl (run_bs9i _ _ _ _ _ _ _ _ _ _) ?_; refine Held.go ?_)
          refine ⟨?_⟩
          go_wp2_with (at_builtin; refine wpList_app rfl (.tmp 40) (.tmp 61) 23 rfl rfl rfl rfl p1 ?_; refine Held.go ?_)
          refine ⟨?_⟩
          go_wp2
          go_roundw
          case rel => exact ⟨k + 1, by go_num, by omega, P2.out, HX.out⟩
          case measure => simp [intOf]; omega
      · have e : k = m.ents.length := by omega
        subst e
        have hI : ¬ (m.ents.length : Int) < (m.ents.length : Int) := by omega
        have hlen := HLEN.out
        have hLl := manK_length m m.ents.length (Nat.le_refl _)
        have HNN := Lib.hid (fun k (h : k < (manK m m.ents.length).length) => HN.out ((manK m m.ents.length).getD k 0) (by rw [List.getD_eq_getElem?_getD, List.getElem?_eq_getElem h]; exact List.getElem_mem _))
        have hbig : ((manK m m.ents.length).length : Int) ≤ 905 := by omega
        obtain ⟨ga, ca, rfl, hlc, _, hsh⟩ := hw.ri.shape
        have HSH := Lib.hid hsh
        have HX := Lib.hid hx
        obtain ⟨W5, hW5⟩ : ∃ W, W = wr := ⟨_, rfl⟩
        subst hW5
        have B0 := Lib.hid (show SB (W5.alloc (.cells #[.pointer none, .slice none 0 0] 107)) W5.heap.size W5.heap.size (putsL ((manK m m.ents.length).take 0)) from Lib.fresh_isBuilder _ _ W5)
        have X3 := Lib.hid ((Ext.refl W5).alloc (.cells #[.pointer none, .slice none 0 0] 107))
        clear hw hsh hx hLl hlen hk hlt
        generalize manK m m.ents.length = l at *
        go_wp2
        go_loopw [66] (fun i w3 => ∃ k : Nat, k ≤ l.length ∧ i = .int .i64 (k : Int) ∧ SB w3 W5.heap.size W5.heap.size (putsL (l.take k)) ∧ Ext W5 w3) (fun i _ => l.length - (intOf i).toNat)
        case atStart => exact ⟨0, by omega, rfl, B0.out, X3.out⟩
        case round =>
          obtain ⟨k, hk, rfl, hb, hx⟩ := hrel
          clear B0 X3
          by_cases hlt : k < l.length
          · obtain ⟨g, o, rfl, hcell⟩ := HSH.out (by omega)
            have cx := Go.cell_later hx (hcell k hlt)
            have hki : (k : Int) < (l.length : Int) := by omega
            have hci : (l.length : Int) ≤ (ca : Int) := by omega
            have hnk := HNN.out k hlt
            have QP := vput_any (l.getD k 0) wr (by omega)
            rw [putE_nn hnk.1] at QP
            have QP := Lib.hid QP
            have HB := Lib.hid hb
            have HX3 := Lib.hid hx
            have HST := Lib.hid (puts_snoc l k hlt)
            have hl1 := puts_len (l.take k)
            have hl2 := putI_len (l.getD k 0)
            rw [List.length_take] at hl1
            have HLL := Lib.hid (show (putsL (l.take k)).length + (putI (l.getD k 0)).length ≤ 1000000000 by omega)
            clear hb hx hcell hl1 hl2
            generalize putI (l.getD k 0) = q at *
            generalize l.getD k 0 = x at *
            go_wp2_with fail
            refine (QP.out).mono ?_
            rintro _ w4 ⟨rfl, x4⟩
            have HB1 := Lib.hid (HB.out.ext x4)
            have HX4 := Lib.hid (HX3.out.trans x4)
            clear x4
            have QW := Lib.hid (ws_any W5.heap.size W5.heap.size (putsL (l.take k)) q w4 HB1.out HLL.out HX4.out.le)
            go_wp2_with fail
            refine (QW.out).mono ?_
            rintro _ w5 ⟨rfl, h5, x5⟩
            rw [HST.out] at h5
            have HB2 := Lib.hid h5
            have HX5 := Lib.hid (show Ext W5 w5 from Below.trans HX4.out x5)
            clear h5 x5
            go_wp2
            go_roundw
            case rel => exact ⟨k + 1, by omega, by go_num, HB2.out, HX5.out⟩
            case measure => simp [intOf]; omega
          · have e : k = l.length := by omega
            subst e
            rw [List.take_length] at hb
            have QS := Lib.hid (st_any W5.heap.size W5.heap.size (putsL l) wr hb hx.le)
            have HX3 := Lib.hid hx
            clear hb hx
            go_wp2_with fail
            refine (QS.out).mono ?_
            rintro _ w5 ⟨rfl, x5⟩
            have HX5 := Lib.hid (show Ext W5 w5 from Below.trans HX3.out x5)
            go_wp2
            go_ret2
            exact ⟨by rw [HH.out]; rfl, HX.out.trans HX5.out⟩
end

end Go.Proofs.YtmjkfgpkohfmiaaGreat
namespace Go.Proofs.YtmjkfgpkohfmiaaGreat
set_option linter.unusedVariables false
set_option linter.unusedSimpArgs false
open Go.RowKit

theorem putF_up : ∀ (f n : Nat), n < 128 ^ (f + 1) → putF (f + 1) n = putF f n
  | 0, n, h => by
    have : n < 128 := by simpa using h
    rw [putF_small this, putF_small this]
  | f + 1, n, h => by
    by_cases hn : n < 128
    · rw [putF_small hn, putF_small hn]
    · rw [putF_more hn, putF_more hn, putF_up f (n / 128) (div128 h)]
theorem putN_8 {n : Nat} (h : n < 9223372036854775808) : putN n = putF 8 n := putF_up 8 n (by rw [show 128 ^ 9 = 9223372036854775808 by decide]; exact h)
/-- a number that stands somewhere -/
theorem takeN_put {n : Nat} (h : n < 9223372036854775808) (p r : List UInt8) : takeN (p ++ (putN n ++ r)) ((p.length : Nat) : Int) = .ok (n, (putN n).length) := by
  rw [takeN_in _ _ (by rw [List.length_append]; omega), List.drop_left, putN_8 h]
  exact get_put 8 0 n r (by rw [show 128 ^ 9 = 9223372036854775808 by decide]; exact h) (fun h => by omega)
theorem put_takeN {s : List UInt8} {a n k : Nat} (h : takeN s (a : Int) = .ok (n, k)) : putN n = (s.drop a).take k := by
  have h1 := takeN_ok h
  rw [takeN_in _ _ (by omega)] at h
  rw [putN_8 h1.2.2.1]
  exact (put_get 8 0 _ n k h).2
theorem putsL_cons (x : Int) (l : List Int) : putsL (x :: l) = putI x ++ putsL l := rfl
theorem putI_ofNat (n : Nat) : putI (n : Int) = putN n := (putI_nat n).1
/-- numbers that stand somewhere -/
theorem numsR_put : ∀ (l : List Nat) (p r : List UInt8), (∀ x ∈ l, x < 9223372036854775808) → numsR (p ++ (putsL (toI' l) ++ r)) l.length p.length = .ok (l, p.length + (putsL (toI' l)).length)
  | [], p, r, h => rfl
  | x :: l, p, r, h => by
    have hx := takeN_put (h x (List.mem_cons_self ..)) p (putsL (toI' l) ++ r)
    have e : putsL (toI' (x :: l)) = putN x ++ putsL (toI' l) := by
      show putsL ((x : Int) :: toI' l) = _
      rw [putsL_cons, putI_ofNat]
    rw [e, List.append_assoc, List.length_cons, numsR_ok hx]
    have ih := numsR_put l (p ++ putN x) r (fun y hy => h y (List.mem_cons_of_mem _ hy))
    rw [List.append_assoc, List.length_append] at ih
    rw [ih]
    show Except.ok _ = Except.ok _
    rw [List.length_append, Nat.add_assoc]; rfl
theorem take_two (s : List UInt8) (a k j : Nat) : (s.drop a).take k ++ (s.drop (a + k)).take j = (s.drop a).take (k + j) := by
  rw [List.take_add, List.drop_drop]
theorem put_numsR {s : List UInt8} : ∀ {n a t : Nat} {l : List Nat}, numsR s n a = .ok (l, t) → a ≤ t ∧ putsL (toI' l) = (s.drop a).take (t - a)
  | 0, a, t, l, h => by
    injection h with h
    injection h with h1 h2
    subst h1; subst h2
    exact ⟨Nat.le_refl _, by rw [Nat.sub_self, List.take_zero]; rfl⟩
  | n + 1, a, t, l, h => by
    cases ht : takeN s (a : Int) with
    | error e => rw [numsR_err ht] at h; cases h
    | ok q =>
      obtain ⟨x, k⟩ := q
      rw [numsR_ok ht] at h
      cases hr : numsR s n (a + k) with
      | error e => rw [hr] at h; cases h
      | ok q =>
        obtain ⟨l', t'⟩ := q
        rw [hr] at h
        injection h with h
        injection h with h2 h3
        subst h2; subst h3
        obtain ⟨i1, i2⟩ := put_numsR hr
        refine ⟨by omega, ?_⟩
        show putsL ((x : Int) :: toI' l') = _
        rw [putsL_cons, putI_ofNat, put_takeN ht, i2, take_two]
        congr 1; omega
theorem toI'_nat {l : List Int} (h : ∀ x ∈ l, 0 ≤ x) : toI' (l.map Int.toNat) = l := by
  unfold toI'
  rw [List.map_map]
  conv => rhs; rw [← List.map_id l]
  exact List.map_congr_left fun x hx => by have := h x hx; show ((x.toNat : Nat) : Int) = x; omega
theorem nat_lt {l : List Int} (h : ∀ x ∈ l, 0 ≤ x ∧ x ≤ 9223372036854775807) : ∀ x ∈ l.map Int.toNat, x < 9223372036854775808 := by
  intro x hx
  obtain ⟨y, hy, rfl⟩ := List.mem_map.1 hx
  have := h y hy; omega
/-- whole numbers that stand somewhere -/
theorem numsR_putI (l : List Int) (p r : List UInt8) (h : ∀ x ∈ l, 0 ≤ x ∧ x ≤ 9223372036854775807) : numsR (p ++ (putsL l ++ r)) l.length p.length = .ok (l.map Int.toNat, p.length + (putsL l).length) := by
  have := numsR_put (l.map Int.toNat) p r (nat_lt h)
  rw [toI'_nat (fun x hx => (h x hx).1), List.length_map] at this
  exact this


/-- nine numbers are numbers, of which the fourth is a flag -/
theorem nine_nums {s : List UInt8} : ∀ {n i a t : Nat} {l : List Nat}, nineL s n i a = .ok (l, t) → numsR s n a = .ok (l, t) ∧ (∀ j, i + j = 3 → l.getD j 0 ≤ 1)
  | 0, i, a, t, l, h => by
    injection h with h
    injection h with h1 h2
    subst h1; subst h2
    exact ⟨rfl, fun j _ => by simp⟩
  | n + 1, i, a, t, l, h => by
    cases ht : takeN s (a : Int) with
    | error e => rw [nineL_err ht] at h; cases h
    | ok q =>
      obtain ⟨x, k⟩ := q
      by_cases h3 : i = 3 ∧ 1 < x
      · obtain ⟨rfl, h3⟩ := h3
        rw [nineL_bad ht h3] at h; cases h
      · rw [nineL_ok ht h3] at h
        cases hr : nineL s n (i + 1) (a + k) with
        | error e => rw [hr] at h; cases h
        | ok q =>
          obtain ⟨l', t'⟩ := q
          rw [hr] at h
          injection h with h
          injection h with h1 h2
          subst h1; subst h2
          obtain ⟨i1, i2⟩ := nine_nums hr
          refine ⟨by rw [numsR_ok ht, i1]; rfl, fun j hj => ?_⟩
          cases j with
          | zero => show x ≤ 1; omega
          | succ j => exact i2 j (by omega)
theorem nums_nine {s : List UInt8} : ∀ {n i a t : Nat} {l : List Nat}, numsR s n a = .ok (l, t) → (∀ j, i + j = 3 → l.getD j 0 ≤ 1) → nineL s n i a = .ok (l, t)
  | 0, i, a, t, l, h, h3 => h
  | n + 1, i, a, t, l, h, h3 => by
    cases ht : takeN s (a : Int) with
    | error e => rw [numsR_err ht] at h; cases h
    | ok q =>
      obtain ⟨x, k⟩ := q
      rw [numsR_ok ht] at h
      cases hr : numsR s n (a + k) with
      | error e => rw [hr] at h; cases h
      | ok q =>
        obtain ⟨l', t'⟩ := q
        rw [hr] at h
        injection h with h
        injection h with h1 h2
        subst h1; subst h2
        have hx : ¬ (i = 3 ∧ 1 < x) := fun ⟨e, hx⟩ => by
          have : x ≤ 1 := h3 0 (by omega)
          omega
        rw [nineL_ok ht hx, nums_nine hr (fun j hj => h3 (j + 1) (by omega))]
        rfl
theorem e9L_flag (e : E9) : ((e9L e).map Int.toNat).getD 3 0 ≤ 1 := by
  show (sI e.sld).toNat ≤ 1
  cases e.sld <;> decide
theorem mkE_e9 {e : E9} (h : entP e = true) : mkE ((e9L e).map Int.toNat) = e := by
  have hn := e9L_nn h
  obtain ⟨a, b, c, s, d, f, g, i, j⟩ := e
  have q : ∀ x : Int, x ∈ e9L ⟨a, b, c, s, d, f, g, i, j⟩ → ((x.toNat : Nat) : Int) = x := fun x hx => by have := hn x hx; omega
  show E9.mk ((a.toNat : Nat) : Int) ((b.toNat : Nat) : Int) ((c.toNat : Nat) : Int) (decide ((sI s).toNat = 1)) ((d.toNat : Nat) : Int) ((f.toNat : Nat) : Int) ((g.toNat : Nat) : Int) ((i.toNat : Nat) : Int) ((j.toNat : Nat) : Int) = _
  rw [q a (by simp [e9L]), q b (by simp [e9L]), q c (by simp [e9L]), q d (by simp [e9L]), q f (by simp [e9L]), q g (by simp [e9L]), q i (by simp [e9L]), q j (by simp [e9L])]
  have : decide ((sI s).toNat = 1) = s := by cases s <;> rfl
  rw [this]
theorem e9_mkE {l : List Nat} (hl : l.length = 9) (h3 : l.getD 3 0 ≤ 1) : e9L (mkE l) = toI' l := by
  match l, hl with
  | [a, b, c, d, e, f, g, i, j], _ =>
    have h3 : d ≤ 1 := h3
    show [((a : Nat) : Int), (b : Int), (c : Int), sI (decide (d = 1)), (e : Int), (f : Int), (g : Int), (i : Int), (j : Int)] = [((a : Nat) : Int), (b : Int), (c : Int), (d : Int), (e : Int), (f : Int), (g : Int), (i : Int), (j : Int)]
    have : sI (decide (d = 1)) = (d : Int) := by
      rcases (by omega : d = 0 ∨ d = 1) with rfl | rfl <;> rfl
    rw [this]
/-- entries that stand somewhere -/
theorem ents_put : ∀ (l : List E9) (p r : List UInt8), (∀ e ∈ l, entP e = true) → entsR (p ++ (putsL (l.flatMap e9L) ++ r)) l.length p.length = .ok (l, p.length + (putsL (l.flatMap e9L)).length)
  | [], p, r, h => rfl
  | m :: l, p, r, h => by
    have hm := h m (List.mem_cons_self ..)
    have hn := numsR_putI (e9L m) p (putsL (l.flatMap e9L) ++ r) (e9L_nn hm)
    have e : putsL ((m :: l).flatMap e9L) = putsL (e9L m) ++ putsL (l.flatMap e9L) := by
      rw [List.flatMap_cons]; exact List.flatMap_append
    rw [show (e9L m).length = 9 from rfl] at hn
    have hn := nums_nine (i := 0) hn (fun j hj => by
      have hj3 : j = 3 := by omega
      rw [hj3]; exact e9L_flag m)
    rw [e, List.append_assoc, List.length_cons, entsR_ok hn, mkE_e9 hm]
    have ih := ents_put l (p ++ putsL (e9L m)) r (fun y hy => h y (List.mem_cons_of_mem _ hy))
    rw [List.append_assoc, List.length_append] at ih
    rw [ih]
    show Except.ok _ = Except.ok _
    rw [List.length_append, Nat.add_assoc]; rfl
theorem put_ents {s : List UInt8} : ∀ {n a t : Nat} {l : List E9}, a ≤ s.length → entsR s n a = .ok (l, t) → l.length = n ∧ a ≤ t ∧ t ≤ s.length ∧ putsL (l.flatMap e9L) = (s.drop a).take (t - a)
  | 0, a, t, l, ha, h => by
    injection h with h
    injection h with h1 h2
    subst h1; subst h2
    exact ⟨rfl, Nat.le_refl _, ha, by rw [Nat.sub_self, List.take_zero]; rfl⟩
  | n + 1, a, t, l, ha, h => by
    cases ht : nineL s 9 0 a with
    | error e => rw [entsR_err ht] at h; cases h
    | ok q =>
      obtain ⟨x, k⟩ := q
      rw [entsR_ok ht] at h
      obtain ⟨hq1, hq2⟩ := nine_nums ht
      have hx := nums_len ha hq1
      have hq := put_numsR hq1
      cases hr : entsR s n k with
      | error e => rw [hr] at h; cases h
      | ok q =>
        obtain ⟨l', t'⟩ := q
        rw [hr] at h
        injection h with h
        injection h with h2 h3
        subst h2; subst h3
        obtain ⟨i1, i2, i3, i4⟩ := put_ents hx.2.2.1 hr
        refine ⟨by rw [List.length_append, i1, List.length_singleton]; omega, by omega, i3, ?_⟩
        rw [List.flatMap_append, putsL_app, i4, List.flatMap_singleton, e9_mkE hx.1 (hq2 3 rfl), hq.2]
        have e := take_two s a (k - a) (t' - k)
        rw [show a + (k - a) = k by omega] at e
        rw [e]
        congr 1; omega
theorem row_all {l : List E9} (h : rowP l = true) : ∀ e ∈ l, entP e = true := by
  intro e he
  obtain ⟨i, hi, rfl⟩ := List.getElem_of_mem he
  have := row_ent h hi
  rw [List.getD_eq_getElem?_getD, List.getElem?_eq_getElem hi] at this
  exact this
theorem manB_eq {m : Man} (h : maniP m = true) : manB m = putsL [m.gen, m.next, m.now, m.floor, (m.ents.length : Int)] ++ putsL (m.ents.flatMap e9L) := by
  unfold manB manK
  rw [if_pos h, List.take_length, ← putsL_app]; rfl
/-- a manifest comes back of its bytes -/
theorem decM_manB {m : Man} (h : maniP m = true) : decM (manB m) = .ok m := by
  have hmr := mani_row h
  have hl := rowP_len hmr.2.1
  have hnn := manK_nn h
  have hh : ∀ x ∈ [m.gen, m.next, m.now, m.floor, (m.ents.length : Int)], 0 ≤ x ∧ x ≤ 9223372036854775807 := fun x hx => hnn x (by
    unfold manK
    simp only [List.mem_cons, List.not_mem_nil, or_false] at hx
    rcases hx with rfl | rfl | rfl | rfl | rfl <;> simp)
  have hn := numsR_putI [m.gen, m.next, m.now, m.floor, (m.ents.length : Int)] [] (putsL (m.ents.flatMap e9L)) hh
  rw [List.nil_append, ← manB_eq h] at hn
  have hn : numsR (manB m) 5 0 = .ok ([m.gen.toNat, m.next.toNat, m.now.toNat, m.floor.toNat, m.ents.length], (putsL [m.gen, m.next, m.now, m.floor, (m.ents.length : Int)]).length) := by
    have := hn
    rw [show ([] : List UInt8).length = 0 from rfl, Nat.zero_add] at this
    exact this
  have he := ents_put m.ents (putsL [m.gen, m.next, m.now, m.floor, (m.ents.length : Int)]) [] (row_all hmr.2.1)
  rw [List.append_nil, ← manB_eq h] at he
  have hd := decR_ok hn (by show ((m.ents.length : Nat) : Int) ≤ 100; omega) he (by rw [manB_eq h, List.length_append])
  have e1 := hh m.gen (by simp)
  have e2 := hh m.next (by simp)
  have e3 := hh m.now (by simp)
  have e4 := hh m.floor (by simp)
  have hm : (⟨((m.gen.toNat : Nat) : Int), ((m.next.toNat : Nat) : Int), ((m.now.toNat : Nat) : Int), ((m.floor.toNat : Nat) : Int), m.ents⟩ : Man) = m := by
    obtain ⟨a, b, c, d, l⟩ := m
    simp only at *
    rw [show ((a.toNat : Nat) : Int) = a by omega, show ((b.toNat : Nat) : Int) = b by omega, show ((c.toNat : Nat) : Int) = c by omega, show ((d.toNat : Nat) : Int) = d by omega]
  have hd : decR (manB m) = .ok m := by rw [hd]; exact congrArg Except.ok hm
  unfold decM
  rw [hd]
  show (if maniP m then _ else _) = _
  rw [if_pos h]
/-- bytes that are a manifest's are what it is put as -/
theorem manB_decM {s : List UInt8} {m : Man} (h : decM s = .ok m) : maniP m = true ∧ manB m = s := by
  unfold decM at h
  cases hd : decR s with
  | error e => rw [hd] at h; cases h
  | ok q =>
    rw [hd] at h
    have h : (if maniP q then Except.ok q else Except.error (250 : Int)) = Except.ok m := h
    by_cases hp : maniP q = true
    · rw [if_pos hp] at h
      injection h with h
      subst h
      refine ⟨hp, ?_⟩
      cases hn : numsR s 5 0 with
      | error e => rw [decR_nums hn] at hd; cases hd
      | ok u =>
        obtain ⟨l, a⟩ := u
        by_cases hb : ((l.getD 4 0 : Nat) : Int) ≤ 100
        · cases he : entsR s (l.getD 4 0) a with
          | error e => rw [decR_err hn hb he] at hd; cases hd
          | ok u =>
            obtain ⟨es, b⟩ := u
            by_cases ht : b = s.length
            · have hnl := nums_len (Nat.zero_le _) hn
              have hpn := put_numsR hn
              have hpe := put_ents hnl.2.2.1 he
              rw [decR_ok hn hb he ht] at hd
              injection hd with hd
              subst hd
              rw [manB_eq hp]
              obtain ⟨i1, i2, i3, i4⟩ := hpe
              obtain ⟨x, y, z, u, v, rfl⟩ : ∃ x y z u v, l = [x, y, z, u, v] := by
                match l, hnl.1 with
                | [x, y, z, u, v], _ => exact ⟨x, y, z, u, v, rfl⟩
              have e5 : es.length = v := i1
              have hx : putsL [((x : Nat) : Int), (y : Int), (z : Int), (u : Int), (es.length : Int)] = s.take a := by
                rw [e5]
                have := hpn.2
                rw [List.drop_zero, Nat.sub_zero] at this
                exact this
              show putsL [((x : Nat) : Int), (y : Int), (z : Int), (u : Int), (es.length : Int)] ++ putsL (es.flatMap e9L) = s
              rw [hx, i4, ht, show (s.drop a).take (s.length - a) = s.drop a from List.take_of_length_le (by simp)]
              exact List.take_append_drop a s
            · rw [decR_rest hn hb he ht] at hd; cases hd
        · rw [decR_big hn hb] at hd; cases hd
    · rw [if_neg hp] at h; cases h
end Go.Proofs.YtmjkfgpkohfmiaaGreat
