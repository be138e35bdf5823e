/- manifests' bytes (plain); mani.Encode; varveref25.put, Encode. (Printed by wip/tools/mad.py.) -/
import Derived.Test.YtcagcepbnkageaaMaC
import Derived.Test.YtcagcepbnkageaaMgJ
import Derived.Test.YtcagcepbnkageaaApp3
namespace Go.Proofs.Ytcagcepbnkageaa
set_option linter.unusedVariables false
set_option linter.unusedSimpArgs false
open Go.RowKit

def sI (b : Bool) : Int := if b then 1 else 0
def e9L (e : E9) : List Int := [e.id, e.gen, e.fst, sI e.sld, e.cnt, e.blk, e.early, e.late, e.bytes]
def manK (m : Man) (k : Nat) : List Int := m.gen :: m.next :: m.now :: m.floor :: (m.ents.length : Int) :: (m.ents.take k).flatMap e9L
/-- a manifest's bytes -/
def manB (m : Man) : List UInt8 := if maniP m then putsL (manK m m.ents.length) else []
theorem putsL_app (a b : List Int) : putsL (a ++ b) = putsL a ++ putsL b := List.flatMap_append
theorem e9L_length (l : List E9) : (l.flatMap e9L).length = 9 * l.length := by
  induction l with
  | nil => rfl
  | cons m l ih => rw [List.flatMap_cons, List.length_append, ih, List.length_cons, show (e9L m).length = 9 from rfl]; omega
theorem manK_length (m : Man) (k : Nat) (hk : k ≤ m.ents.length) : (manK m k).length = 5 + 9 * k := by
  unfold manK
  simp only [List.length_cons]
  rw [e9L_length, List.length_take, Nat.min_eq_left hk]; omega
theorem take_more9 (l : List E9) (k : Nat) (hk : k < l.length) : l.take (k + 1) = l.take k ++ [l.getD k default] := by
  rw [List.take_add_one, List.getElem?_eq_getElem hk, List.getD_eq_getElem?_getD, List.getElem?_eq_getElem hk]; rfl
theorem manK_more (m : Man) (k : Nat) (hk : k < m.ents.length) : manK m (k + 1) = manK m k ++ e9L (m.ents.getD k default) := by
  unfold manK
  rw [take_more9 m.ents k hk, List.flatMap_append, List.flatMap_cons, List.flatMap_nil, List.append_nil]
  rfl
theorem e9L_nn {e : E9} (h : entP e = true) : ∀ x ∈ e9L e, 0 ≤ x ∧ x ≤ 9223372036854775807 := by
  unfold entP at h
  rw [Bool.and_eq_true] at h
  obtain ⟨h1, h2⟩ := h
  have h1 : headD e.id e.gen e.fst := by simpa [headP] using h1
  obtain ⟨p1, p2, p3⟩ := h1
  have hs : sI e.sld = 0 ∨ sI e.sld = 1 := by cases e.sld <;> simp [sI]
  intro x hx
  simp only [e9L, List.mem_cons, List.not_mem_nil, or_false] at hx
  by_cases hsl : e.sld = true
  · rw [if_pos hsl] at h2
    have h2 : sealD e.fst e.cnt e.blk e.early e.late e.bytes := by simpa [sealP] using h2
    obtain ⟨q1, q2, q3, q4, q5, q6, q7, q8, q9, q10⟩ := h2
    rcases hx with rfl | rfl | rfl | rfl | rfl | rfl | rfl | rfl | rfl <;> omega
  · rw [if_neg hsl] at h2
    have h2 : openD e.cnt e.blk e.early e.late e.bytes := by simpa [openP] using h2
    obtain ⟨q1, q2, q3, q4, q5⟩ := h2
    rcases hx with rfl | rfl | rfl | rfl | rfl | rfl | rfl | rfl | rfl <;> omega
theorem manK_nn {m : Man} (h : maniP m = true) : ∀ x ∈ manK m m.ents.length, 0 ≤ x ∧ x ≤ 9223372036854775807 := by
  obtain ⟨⟨h1, h2, h3, h4⟩, hr, ⟨h5, h6, h7⟩, -⟩ := mani_row h
  have hl := rowP_len hr
  have h8 := e9L_nn (row_ent hr (i := 0) (by omega))
  have h9 := e9L_nn (row_ent hr (i := m.ents.length - 1) (by omega))
  have hf := h8 (fstOf m.ents).fst (by simp [e9L, fstOf])
  have hli := h9 (lastOf m.ents).id (by simp [e9L, lastOf])
  intro x hx
  unfold manK at hx
  simp only [List.mem_cons, List.take_length] at hx
  rcases hx with rfl | rfl | rfl | rfl | rfl | hx
  · omega
  · omega
  · omega
  · omega
  · omega
  · obtain ⟨e, he, hx⟩ := List.mem_flatMap.1 hx
    obtain ⟨i, hi, rfl⟩ := List.getElem_of_mem he
    have := row_ent hr hi
    rw [List.getD_eq_getElem?_getD, List.getElem?_eq_getElem hi] at this
    exact e9L_nn this x hx
theorem ri_lit (l : List Int) (n : Nat) (hn : l.length = n) (w : World) (cs : Array Value) (hcs : cs.toList = ints l) (hl : l.length ≤ 1000000000) : RI (w.alloc (.cells cs 3)) (.slice (some ⟨w.heap.size, 0, none⟩) n n) l := (IW.lit w l hl n hn cs hcs).ri
theorem run_bs5i (a b c d e : Int) (w : World) : (Instr.buildSlice 51 5 #[(0, .int .i64 a), (1, .int .i64 b), (2, .int .i64 c), (3, .int .i64 d), (4, .int .i64 e)]).run Try.prog w = .ok (.slice (some ⟨w.heap.size, 0, none⟩) 5 5) (w.alloc (.cells #[.int .i64 a, .int .i64 b, .int .i64 c, .int .i64 d, .int .i64 e] 3)) := by kernel_rfl
theorem run_bs9i (a b c d e f g h i : Int) (w : World) : (Instr.buildSlice 51 9 #[(0, .int .i64 a), (1, .int .i64 b), (2, .int .i64 c), (3, .int .i64 d), (4, .int .i64 e), (5, .int .i64 f), (6, .int .i64 g), (7, .int .i64 h), (8, .int .i64 i)]).run Try.prog w = .ok (.slice (some ⟨w.heap.size, 0, none⟩) 9 9) (w.alloc (.cells #[.int .i64 a, .int .i64 b, .int .i64 c, .int .i64 d, .int .i64 e, .int .i64 f, .int .i64 g, .int .i64 h, .int .i64 i] 3)) := by kernel_rfl
theorem ent_zero9' (w : World) : (zeroValue 49).run Try.prog w = .ok (.agg #[.int .i64 0, .int .i64 0, .int .i64 0, .bool false, .int .i64 0, .int .i64 0, .int .i64 0, .int .i64 0, .int .i64 0]) w := by kernel_rfl
theorem IW.ge' {w : World} {B : Nat} {v : Value} {l : List Int} (h : IW w B v l) : ∀ k, v.ownBlock = some k → B ≤ k := fun k hk => (World.ownsRow.lt h k hk).1

section
attribute [local go_sem] S_size S_toList
set_option maxRecDepth 20000 in
set_option maxHeartbeats 4000000 in
theorem rputs_any (l : List Int) (v : Value) (w : World) (hr : RI w v l) (hl : (l.length : Int) ≤ 10000) (hnn : ∀ x ∈ l, 0 ≤ x ∧ x ≤ 9223372036854775807) :
    Calls Try.prog 24 #[v] w fun e w' => e = .returned (.string (S (putsL l))) ∧ Ext w w' := by
  obtain ⟨a, c, rfl, hlc, _, hsh⟩ := hr.shape
  have HS := Lib.hid hsh
  have HNN := Lib.hid (fun k (h : k < l.length) => hnn (l.getD k 0) (by rw [List.getD_eq_getElem?_getD, List.getElem?_eq_getElem h]; exact List.getElem_mem _))
  clear hsh hr hnn
  go_enter Try.func24, Try.ntmps24
  go_wp2
  go_loopw [3, 4] (fun s i wr => ∃ k : Nat, k ≤ l.length ∧ i = .int .i64 (k : Int) ∧ s = .string (S (putsL (l.take k))) ∧ Ext w wr) (fun _ i _ => l.length - (intOf i).toNat)
  case atStart => exact ⟨0, by omega, rfl, rfl, Ext.refl _⟩
  case round =>
    obtain ⟨k, hk, rfl, rfl, hx⟩ := hrel
    have HX := Lib.hid hx
    by_cases hlt : k < l.length
    · obtain ⟨g, o, rfl, hcell⟩ := HS.out (by omega)
      have cx := Go.cell_later hx (hcell k hlt)
      have hki : (k : Int) < (l.length : Int) := by omega
      have hci : (l.length : Int) ≤ (c : Int) := by omega
      have hnk := HNN.out k hlt
      have QP := rput_any (l.getD k 0) wr (by omega)
      have QP := Lib.hid QP
      have HST := Lib.hid (puts_snoc l k hlt)
      have hl1 := puts_len (l.take k)
      have hl2 := putI_len (l.getD k 0)
      rw [List.length_take] at hl1
      have hcat := fun w => run_cat (P := Try.prog) (putsL (l.take k)) (putI (l.getD k 0)) (by omega) w
      rw [HST.out] at hcat
      clear hx hcell
      generalize putI (l.getD k 0) = m at *
      generalize putE (l.getD k 0) = pe at *
      generalize l.getD k 0 = x at *
      generalize putsL (l.take k) = p at *
      generalize hq : putsL (l.take (k + 1)) = q at *
      have HQ := Lib.hid hq
      clear hq
      go_wp2_with fail
      refine (QP.out).mono ?_
      rintro _ w1 ⟨rfl, x1⟩
      have HX1 := Lib.hid (HX.out.trans x1)
      have hmm := HST.out
      clear x1
      go_wp2
      go_roundw
      case rel => exact ⟨k + 1, by omega, by go_num, by first | rw [HQ.out] | rw [HQ.out, HST.out], HX1.out⟩
      case measure => simp [intOf]; omega
    · have e : k = l.length := by omega
      subst e
      rw [List.take_length]
      generalize hp : putsL l = p at *
      have HP := Lib.hid hp
      clear hx hp
      go_wp2
      go_ret
      exact ⟨by rw [HP.out]; rfl, HX.out⟩
end

section
attribute [local go_sem] S_size S_toList S_append S_extract S_beq S_bne S_empty S_nil ent_zero9'
set_option maxRecDepth 20000 in
set_option maxHeartbeats 8000000 in
theorem mEncode_any (m : Man) (v : Value) (w : World) (hr : RR entC 9 w v m.ents) :
    Calls Try.prog 9 #[.agg (manC m v)] w fun e w' => e = .returned (.tuple #[.string (S (manB m)), .int .i64 (errI (maniP m) 250)]) ∧ Ext w w' := by
  have QC := Lib.hid (fun w h => mCheck_any m v w h)
  have X0 := Lib.hid ((Ext.refl w).alloc (.cells (manC m v) 24))
  have R0 := Lib.hid (hr.ext X0.out)
  have B1 := Lib.hid (Blk.new w 24 (manC m v))
  have MS := Lib.hid (show (Try.prog.info? 24).map (·.size) = some (manC m v).size from man_size)
  cases hp : maniP m with
  | false =>
    have HH := Lib.hid (show manB m = [] by unfold manB; rw [hp]; rfl)
    rw [hp] at QC
    simp only [errI, Bool.false_eq_true, if_false] at QC ⊢
    clear hp hr
    generalize manC m v = mc at *
    go_enter Try.func9, Try.ntmps9
    go_wp2_with (refine wpList_load_blk rfl 24 (.tmp 1) rfl rfl B1.out Try.underlying24 rfl MS.out ?_; refine Held.go ?_)
    refine ⟨?_⟩
    go_wp2_with fail
    refine (QC.out _ R0.out).mono ?_
    rintro _ w1 ⟨rfl, x1⟩
    have X1 := Lib.hid (X0.out.trans x1)
    clear x1
    go_wp2
    exact bodyPost_ret (results_tmp2 rfl _ _ _) rfl ⟨by rw [HH.out]; rfl, X1.out⟩
  | true =>
    have HH := Lib.hid (show manB m = putsL (manK m m.ents.length) by unfold manB; rw [hp]; rfl)
    have HN := Lib.hid (manK_nn hp)
    have hrow := (mani_row hp).2.1
    have hlen := rowP_len hrow
    have HE := Lib.hid (fun i hi => row_ent hrow (i := i) hi)
    rw [hp] at QC
    simp only [errI, if_true] at QC ⊢
    obtain ⟨a, c, rfl, _, _, hs⟩ := hr
    have HS := Lib.hid hs
    have QC := Lib.hid (QC.out _ R0.out)
    have C0 := Lib.hid (show (manC m (.slice a m.ents.length c))[0]? = some (.int .i64 m.gen) from rfl)
    have C1 := Lib.hid (show (manC m (.slice a m.ents.length c))[1]? = some (.int .i64 m.next) from rfl)
    have C2 := Lib.hid (show (manC m (.slice a m.ents.length c))[2]? = some (.int .i64 m.now) from rfl)
    have C3 := Lib.hid (show (manC m (.slice a m.ents.length c))[3]? = some (.int .i64 m.floor) from rfl)
    have C4 := Lib.hid (show (manC m (.slice a m.ents.length c))[4]? = some (.slice a m.ents.length c) from rfl)
    have HLEN := Lib.hid hlen
    have HK0 := Lib.hid (show manK m 0 = [m.gen, m.next, m.now, m.floor, (m.ents.length : Int)] from rfl)
    clear hp hs hrow hlen
    generalize manC m (.slice a m.ents.length c) = mc at *
    go_enter Try.func9, Try.ntmps9
    go_wp2_with (refine wpList_load_blk rfl 24 (.tmp 1) rfl rfl B1.out Try.underlying24 rfl MS.out ?_; refine Held.go ?_)
    refine ⟨?_⟩
    go_wp2_with fail
    refine QC.out.mono ?_
    rintro _ w1 ⟨rfl, x1⟩
    have b1 := B1.out.ext x1
    have c0 := (b1.cell 0).trans C0.out
    have c1 := (b1.cell 1).trans C1.out
    have c2 := (b1.cell 2).trans C2.out
    have c3 := (b1.cell 3).trans C3.out
    have c4 := (b1.cell 4).trans C4.out
    have X1 := Lib.hid (X0.out.trans x1)
    have HB1 := Lib.hid b1
    generalize hgen : m.gen = gen at *
    generalize hnext : m.next = next at *
    generalize hnow : m.now = now at *
    generalize hfloor : m.floor = floor at *
    clear b1 x1 QC hgen hnext hnow hfloor
    go_wp2_with (refine wpList_bs (vs := #[(0, .int .i64 gen), (1, .int .i64 next), (2, .int .i64 now), (3, .int .i64 floor), (4, .int .i64 (m.ents.length : Int))]) rfl 51 5 _ rfl rfl (run_bs5i _ _ _ _ _ _) ?_; refine Held.go ?_)
    refine ⟨?_⟩
    clear c0 c1 c2 c3
    have x2 : Ext w (w1.alloc (.cells #[.int .i64 gen, .int .i64 next, .int .i64 now, .int .i64 floor, .int .i64 (m.ents.length : Int)] 3)) := X1.out.alloc _
    have I0 := Lib.hid (show IW (w1.alloc (.cells #[.int .i64 gen, .int .i64 next, .int .i64 now, .int .i64 floor, .int .i64 (m.ents.length : Int)] 3)) w.heap.size (.slice (some ⟨w1.heap.size, 0, none⟩) 5 5) (manK m 0) from by
      rw [HK0.out]
      exact (IW.lit w1 [gen, next, now, floor, (m.ents.length : Int)] (by simp) 5 rfl _ rfl).mono X1.out.le)
    have HB1 := Lib.hid (HB1.out.alloc (.cells #[.int .i64 gen, .int .i64 next, .int .i64 now, .int .i64 floor, .int .i64 (m.ents.length : Int)] 3))
    have c4 := (HB1.out.cell 4).trans C4.out
    have X2 := Lib.hid x2
    clear x2
    generalize w1.alloc (.cells #[.int .i64 gen, .int .i64 next, .int .i64 now, .int .i64 floor, .int .i64 (m.ents.length : Int)] 3) = w2 at *
    go_wp2
    clear c4
    go_loopw [5, 34] (fun v i wr => ∃ k : Nat, i = .int .i64 (k : Int) ∧ k ≤ m.ents.length ∧ IW wr w.heap.size v (manK m k) ∧ Ext w wr) (fun _ i _ => m.ents.length - (intOf i).toNat)
    case atStart => exact ⟨0, rfl, Nat.zero_le _, I0.out, X2.out⟩
    case round =>
      obtain ⟨k, rfl, hk, hw, hx⟩ := hrel
      by_cases hlt : k < m.ents.length
      · obtain ⟨g, o, rfl, hcells⟩ := HS.out (by omega)
        have hI : (k : Int) < (m.ents.length : Int) := by omega
        have R := Lib.hid (rangeAt_ext (hcells k _ (ent_at hlt)) hx)
        have hmore := manK_more m k hlt
        have hfl := manK_length m k hk
        have hlen := HLEN.out
        clear hcells
        generalize m.ents.getD k default = e at *
        obtain ⟨id, gn, fs, sld, ct, bk, ey, lt, bt⟩ := e
        cases sld with
        | false =>

          have hmore : manK m (k + 1) = manK m k ++ [id, gn, fs, 0, ct, bk, ey, lt, bt] := hmore
          have hx2 : Ext w ((wr.alloc (.cells #[.int .i64 id, .int .i64 gn, .int .i64 fs, .bool false, .int .i64 ct, .int .i64 bk, .int .i64 ey, .int .i64 lt, .int .i64 bt] 49)).alloc (.cells #[.int .i64 id, .int .i64 gn, .int .i64 fs, .int .i64 0, .int .i64 ct, .int .i64 bk, .int .i64 ey, .int .i64 lt, .int .i64 bt] 3)) := (hx.alloc _).alloc _
          obtain ⟨v', w', p1, p2, p3⟩ := IW.appS (hw.ext (((Ext.refl wr).alloc (.cells #[.int .i64 id, .int .i64 gn, .int .i64 fs, .bool false, .int .i64 ct, .int .i64 bk, .int .i64 ey, .int .i64 lt, .int .i64 bt] 49)).alloc (.cells #[.int .i64 id, .int .i64 gn, .int .i64 fs, .int .i64 0, .int .i64 ct, .int .i64 bk, .int .i64 ey, .int .i64 lt, .int .i64 bt] 3)))
            (ri_lit [id, gn, fs, 0, ct, bk, ey, lt, bt] 9 rfl (wr.alloc (.cells #[.int .i64 id, .int .i64 gn, .int .i64 fs, .bool false, .int .i64 ct, .int .i64 bk, .int .i64 ey, .int .i64 lt, .int .i64 bt] 49)) #[.int .i64 id, .int .i64 gn, .int .i64 fs, .int .i64 0, .int .i64 ct, .int .i64 bk, .int .i64 ey, .int .i64 lt, .int .i64 bt] rfl (by simp)) hx2.size (by rw [hfl]; simp; omega)
          rw [← hmore] at p2
          have P2 := Lib.hid p2
          have HX := Lib.hid (hx2.grown p3 (fun j hj => hw.ge j hj))
          have EZ := Lib.hid (show (Try.prog.info? 49).map (·.size) = some 9 from ent_size)
          rw [World.size_alloc] at p1
          clear hmore p2 p3 hx2 hx hfl
          obtain ⟨gv, cv, rfl, _, _⟩ := hw.shape
          obtain ⟨g2, c2, rfl, _, _⟩ := P2.out.shape
          generalize (manK m k).length = n1 at *
          generalize (manK m (k + 1)).length = n2 at *
          clear hw
          go_wp2_with (refine wpList_load_mid rfl 49 (.tmp 36) rfl g _ rfl [.int .i64 id, .int .i64 gn, .int .i64 fs, .bool false, .int .i64 ct, .int .i64 bk, .int .i64 ey, .int .i64 lt, .int .i64 bt] _ R.out Try.underlying49 rfl EZ.out ?_; refine Held.go ?_)
          refine ⟨?_⟩
          go_wp2_with (refine wpList_store_new rfl 49 (.tmp 7) (.tmp 37) rfl rfl rfl rfl EZ.out (by kernel_rfl) ?_; refine Held.go ?_)
          refine ⟨?_⟩
          go_wp2_with (refine wpList_bs (vs := #[(0, .int .i64 id), (1, .int .i64 gn), (2, .int .i64 fs), (3, .int .i64 0), (4, .int .i64 ct), (5, .int .i64 bk), (6, .int .i64 ey), (7, .int .i64 lt), (8, .int .i64 bt)]) rfl 51 9 _ rfl rfl (run_bs9i _ _ _ _ _ _ _ _ _ _) ?_; refine Held.go ?_)
          refine ⟨?_⟩
          go_wp2_with (at_builtin; refine wpList_app rfl (.tmp 40) (.tmp 61) 51 rfl rfl rfl rfl p1 ?_; refine Held.go ?_)
          refine ⟨?_⟩
          go_wp2
          go_roundw
          case rel => exact ⟨k + 1, by go_num, by omega, P2.out, HX.out⟩
          case measure => simp [intOf]; omega
        | true =>
          have hmore : manK m (k + 1) = manK m k ++ [id, gn, fs, 1, ct, bk, ey, lt, bt] := hmore
          have hx2 : Ext w ((wr.alloc (.cells #[.int .i64 id, .int .i64 gn, .int .i64 fs, .bool true, .int .i64 ct, .int .i64 bk, .int .i64 ey, .int .i64 lt, .int .i64 bt] 49)).alloc (.cells #[.int .i64 id, .int .i64 gn, .int .i64 fs, .int .i64 1, .int .i64 ct, .int .i64 bk, .int .i64 ey, .int .i64 lt, .int .i64 bt] 3)) := (hx.alloc _).alloc _
          obtain ⟨v', w', p1, p2, p3⟩ := IW.appS (hw.ext (((Ext.refl wr).alloc (.cells #[.int .i64 id, .int .i64 gn, .int .i64 fs, .bool true, .int .i64 ct, .int .i64 bk, .int .i64 ey, .int .i64 lt, .int .i64 bt] 49)).alloc (.cells #[.int .i64 id, .int .i64 gn, .int .i64 fs, .int .i64 1, .int .i64 ct, .int .i64 bk, .int .i64 ey, .int .i64 lt, .int .i64 bt] 3)))
            (ri_lit [id, gn, fs, 1, ct, bk, ey, lt, bt] 9 rfl (wr.alloc (.cells #[.int .i64 id, .int .i64 gn, .int .i64 fs, .bool true, .int .i64 ct, .int .i64 bk, .int .i64 ey, .int .i64 lt, .int .i64 bt] 49)) #[.int .i64 id, .int .i64 gn, .int .i64 fs, .int .i64 1, .int .i64 ct, .int .i64 bk, .int .i64 ey, .int .i64 lt, .int .i64 bt] rfl (by simp)) hx2.size (by rw [hfl]; simp; omega)
          rw [← hmore] at p2
          have P2 := Lib.hid p2
          have HX := Lib.hid (hx2.grown p3 (fun j hj => hw.ge j hj))
          have EZ := Lib.hid (show (Try.prog.info? 49).map (·.size) = some 9 from ent_size)
          rw [World.size_alloc] at p1
          clear hmore p2 p3 hx2 hx hfl
          obtain ⟨gv, cv, rfl, _, _⟩ := hw.shape
          obtain ⟨g2, c2, rfl, _, _⟩ := P2.out.shape
          generalize (manK m k).length = n1 at *
          generalize (manK m (k + 1)).length = n2 at *
          clear hw
          go_wp2_with (refine wpList_load_mid rfl 49 (.tmp 36) rfl g _ rfl [.int .i64 id, .int .i64 gn, .int .i64 fs, .bool true, .int .i64 ct, .int .i64 bk, .int .i64 ey, .int .i64 lt, .int .i64 bt] _ R.out Try.underlying49 rfl EZ.out ?_; refine Held.go ?_)
          refine ⟨?_⟩
          go_wp2_with (refine wpList_store_new rfl 49 (.tmp 7) (.tmp 37) rfl rfl rfl rfl EZ.out (by kernel_rfl) ?_; refine Held.go ?_)
          refine ⟨?_⟩
          go_wp2_with (refine wpList_bs (vs := #[(0, .int .i64 id), (1, .int .i64 gn), (2, .int .i64 fs), (3, .int .i64 1), (4, .int .i64 ct), (5, .int .i64 bk), (6, .int .i64 ey), (7, .int .i64 lt), (8, .int .i64 bt)]) rfl 51 9 _ rfl rfl (run_bs9i _ _ _ _ _ _ _ _ _ _) ?_; refine Held.go ?_)
          refine ⟨?_⟩
          go_wp2_with (at_builtin; refine wpList_app rfl (.tmp 40) (.tmp 61) 51 rfl rfl rfl rfl p1 ?_; refine Held.go ?_)
          refine ⟨?_⟩
          go_wp2
          go_roundw
          case rel => exact ⟨k + 1, by go_num, by omega, P2.out, HX.out⟩
          case measure => simp [intOf]; omega
      · have e : k = m.ents.length := by omega
        subst e
        have hI : ¬ (m.ents.length : Int) < (m.ents.length : Int) := by omega
        have hlen := HLEN.out
        have hLl := manK_length m m.ents.length (Nat.le_refl _)
        have HNN := Lib.hid (fun k (h : k < (manK m m.ents.length).length) => HN.out ((manK m m.ents.length).getD k 0) (by rw [List.getD_eq_getElem?_getD, List.getElem?_eq_getElem h]; exact List.getElem_mem _))
        have hbig : ((manK m m.ents.length).length : Int) ≤ 905 := by omega
        obtain ⟨ga, ca, rfl, hlc, _, hsh⟩ := hw.ri.shape
        have HSH := Lib.hid hsh
        have HX := Lib.hid hx
        obtain ⟨W5, hW5⟩ : ∃ W, W = wr := ⟨_, rfl⟩
        subst hW5
        have B0 := Lib.hid (show SB (W5.alloc (.cells #[.pointer none, .slice none 0 0] 55)) W5.heap.size W5.heap.size (putsL ((manK m m.ents.length).take 0)) from Lib.fresh_isBuilder _ _ W5)
        have X3 := Lib.hid ((Ext.refl W5).alloc (.cells #[.pointer none, .slice none 0 0] 55))
        clear hw hsh hx hLl hlen hk hlt
        generalize manK m m.ents.length = l at *
        go_wp2
        go_loopw [66] (fun i w3 => ∃ k : Nat, k ≤ l.length ∧ i = .int .i64 (k : Int) ∧ SB w3 W5.heap.size W5.heap.size (putsL (l.take k)) ∧ Ext W5 w3) (fun i _ => l.length - (intOf i).toNat)
        case atStart => exact ⟨0, by omega, rfl, B0.out, X3.out⟩
        case round =>
          obtain ⟨k, hk, rfl, hb, hx⟩ := hrel
          clear B0 X3
          by_cases hlt : k < l.length
          · obtain ⟨g, o, rfl, hcell⟩ := HSH.out (by omega)
            have cx := Go.cell_later hx (hcell k hlt)
            have hki : (k : Int) < (l.length : Int) := by omega
            have hci : (l.length : Int) ≤ (ca : Int) := by omega
            have hnk := HNN.out k hlt
            have QP := vput_any (l.getD k 0) wr (by omega)
            rw [putE_nn hnk.1] at QP
            have QP := Lib.hid QP
            have HB := Lib.hid hb
            have HX3 := Lib.hid hx
            have HST := Lib.hid (puts_snoc l k hlt)
            have hl1 := puts_len (l.take k)
            have hl2 := putI_len (l.getD k 0)
            rw [List.length_take] at hl1
            have HLL := Lib.hid (show (putsL (l.take k)).length + (putI (l.getD k 0)).length ≤ 1000000000 by omega)
            clear hb hx hcell hl1 hl2
            generalize putI (l.getD k 0) = q at *
            generalize l.getD k 0 = x at *
            go_wp2_with fail
            refine (QP.out).mono ?_
            rintro _ w4 ⟨rfl, x4⟩
            have HB1 := Lib.hid (HB.out.ext x4)
            have HX4 := Lib.hid (HX3.out.trans x4)
            clear x4
            have QW := Lib.hid (ws_any W5.heap.size W5.heap.size (putsL (l.take k)) q w4 HB1.out HLL.out HX4.out.le)
            go_wp2_with fail
            refine (QW.out).mono ?_
            rintro _ w5 ⟨rfl, h5, x5⟩
            rw [HST.out] at h5
            have HB2 := Lib.hid h5
            have HX5 := Lib.hid (show Ext W5 w5 from Below.trans HX4.out x5)
            clear h5 x5
            go_wp2
            go_roundw
            case rel => exact ⟨k + 1, by omega, by go_num, HB2.out, HX5.out⟩
            case measure => simp [intOf]; omega
          · have e : k = l.length := by omega
            subst e
            rw [List.take_length] at hb
            have QS := Lib.hid (st_any W5.heap.size W5.heap.size (putsL l) wr hb hx.le)
            have HX3 := Lib.hid hx
            clear hb hx
            go_wp2_with fail
            refine (QS.out).mono ?_
            rintro _ w5 ⟨rfl, x5⟩
            have HX5 := Lib.hid (show Ext W5 w5 from Below.trans HX3.out x5)
            go_wp2
            go_ret2
            exact ⟨by rw [HH.out]; rfl, HX.out.trans HX5.out⟩
end
end Go.Proofs.Ytcagcepbnkageaa
