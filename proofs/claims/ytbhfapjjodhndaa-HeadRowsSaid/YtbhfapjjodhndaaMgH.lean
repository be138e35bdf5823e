/- Several texts in one. merged: FtA FtB FtC FtD FtE FtF FtG -/
import Derived.Test.YtbhfapjjodhndaaMgG
import Derived.Test.YtbhfapjjodhndaaMeta2
import Derived.Test.YtbhfapjjodhndaaMeta3
namespace Go.Proofs.Ytbhfapjjodhndaa
set_option linter.unusedVariables false
set_option linter.unusedSimpArgs false
open Go.RowKit

/-- a block's seven numbers -/
def m7L (m : M7) : List Int := [m.at_, m.sz, m.raw, m.cnt, m.fst, m.early, m.late - m.early]
/-- a footer's numbers, of the first k blocks -/
def footK (l : List M7) (k : Nat) : List Int := (l.length : Int) :: (l.take k).flatMap m7L
def footL (l : List M7) : List Int := footK l l.length
/-- blocks' bytes -/
def putFt (l : List M7) : List UInt8 := if blocksP l then putsL (footL l) else []
theorem m7L_length (l : List M7) : (l.flatMap m7L).length = 7 * l.length := by
  induction l with
  | nil => rfl
  | cons m l ih => rw [List.flatMap_cons, List.length_append, ih, List.length_cons, show (m7L m).length = 7 from rfl]; omega
theorem footK_length (l : List M7) (k : Nat) (hk : k ≤ l.length) : (footK l k).length = 1 + 7 * k := by
  unfold footK
  rw [List.length_cons, m7L_length, List.length_take, Nat.min_eq_left hk]; omega
theorem take_more (l : List M7) (k : Nat) (hk : k < l.length) : l.take (k + 1) = l.take k ++ [l.getD k default] := by
  rw [List.take_add_one, List.getElem?_eq_getElem hk, List.getD_eq_getElem?_getD, List.getElem?_eq_getElem hk]; rfl
theorem footK_more (l : List M7) (k : Nat) (hk : k < l.length) : footK l (k + 1) = footK l k ++ m7L (l.getD k default) := by
  unfold footK
  rw [take_more l k hk, List.flatMap_append, List.flatMap_cons, List.flatMap_nil, List.append_nil, List.cons_append]
theorem blocks_ok {l : List M7} (h : blocksP l = true) : (l.length : Int) ≤ 1000 ∧ okTo l l.length = true := by
  unfold blocksP at h
  rw [Bool.and_eq_true, decide_eq_true_eq] at h
  exact h
theorem m7L_nn {m : M7} (h : aloneD m) : ∀ x ∈ m7L m, 0 ≤ x ∧ x ≤ 9223372036854775807 := by
  obtain ⟨h1, h2, h3, h4, h5, h6, h7, h8⟩ := h
  intro x hx
  simp only [m7L, List.mem_cons, List.not_mem_nil, or_false] at hx
  rcases hx with rfl | rfl | rfl | rfl | rfl | rfl | rfl <;> omega
theorem footL_nn {l : List M7} (h : blocksP l = true) : ∀ x ∈ footL l, 0 ≤ x ∧ x ≤ 9223372036854775807 := by
  obtain ⟨h1, h2⟩ := blocks_ok h
  intro x hx
  unfold footL footK at hx
  rcases List.mem_cons.1 hx with rfl | hx
  · omega
  · rw [List.take_length] at hx
    obtain ⟨m, hm, hx⟩ := List.mem_flatMap.1 hx
    obtain ⟨i, hi, rfl⟩ := List.getElem_of_mem hm
    have := okTo_alone h2 hi
    rw [List.getD_eq_getElem?_getD, List.getElem?_eq_getElem hi] at this
    exact m7L_nn this x hx
theorem run_bs7i (a b c d e f g : Int) (w : World) : (Instr.buildSlice 60 7 #[(0, .int .i64 a), (1, .int .i64 b), (2, .int .i64 c), (3, .int .i64 d), (4, .int .i64 e), (5, .int .i64 f), (6, .int .i64 g)]).run Try.prog w = .ok (.slice (some ⟨w.heap.size, 0, none⟩) 7 7) (w.alloc (.cells #[.int .i64 a, .int .i64 b, .int .i64 c, .int .i64 d, .int .i64 e, .int .i64 f, .int .i64 g] 3)) := by kernel_rfl
theorem ri_new7 (a b c d e f g : Int) (w : World) : RI (w.alloc (.cells #[.int .i64 a, .int .i64 b, .int .i64 c, .int .i64 d, .int .i64 e, .int .i64 f, .int .i64 g] 3)) (.slice (some ⟨w.heap.size, 0, none⟩) 7 7) [a, b, c, d, e, f, g] := by
  have bb := Blk.new w 3 #[.int .i64 a, .int .i64 b, .int .i64 c, .int .i64 d, .int .i64 e, .int .i64 f, .int .i64 g]
  refine RI.of (l := [a, b, c, d, e, f, g]) (c := 7) (Nat.le_refl _) fun k hk => ?_
  rw [bb.cell]
  match k, hk with
  | 0, _ => rfl
  | 1, _ => rfl
  | 2, _ => rfl
  | 3, _ => rfl
  | 4, _ => rfl
  | 5, _ => rfl
  | 6, _ => rfl
theorem IW.one {w : World} {B g : Nat} {x : Int} (hb : Blk w g 3 #[.int .i64 x]) (hB : B ≤ g) : IW w B (.slice (some ⟨g, 0, none⟩) 1 1) [x] :=
  IW_WR.2 ⟨rfl, .inr ⟨g, 1, #[.int .i64 x], rfl, hB, hb, Nat.le_refl _, by unfold maxLen; omega, rfl, rfl⟩⟩
attribute [local go_sem] S_size S_toList

set_option maxRecDepth 20000 in
set_option maxHeartbeats 8000000 in
theorem hPutFoot_any (l : List M7) (v : Value) (w : World) (hr : RR metaC 7 w v l) :
    Calls Try.prog 14 #[v] w fun e w' => e = .returned (.tuple #[.string (S (putFt l)), .int .i64 (footI (blocksP l))]) ∧ Ext w w' := by
  have QB := Lib.hid (fun w h => hBlocks_any l v w h)
  have HR := Lib.hid hr
  cases hp : blocksP l with
  | false =>
    have HH := Lib.hid (show putFt l = [] by unfold putFt; rw [hp]; rfl)
    rw [hp] at QB
    simp only [footI, Bool.false_eq_true, if_false] at *
    clear hp hr
    go_enter Try.func14, Try.ntmps14
    go_wp2_with fail
    refine (QB.out _ HR.out).mono ?_
    rintro _ w1 ⟨rfl, x1⟩
    have X1 := Lib.hid x1
    clear x1
    go_wp2
    exact bodyPost_ret (results_tmp2 rfl _ _ _) rfl ⟨by rw [HH.out]; rfl, X1.out⟩
  | true =>
    have HH := Lib.hid (show putFt l = putsL (footL l) by unfold putFt; rw [hp]; rfl)
    have HN := Lib.hid (footL_nn hp)
    obtain ⟨hbig, hok⟩ := blocks_ok hp
    have HA := Lib.hid (fun i hi => okTo_alone hok (i := i) hi)
    rw [hp] at QB
    simp only [footI, if_true] at *
    obtain ⟨a, c, rfl, _, _, hs⟩ := hr
    have HS := Lib.hid hs
    clear hp hs hok
    go_enter Try.func14, Try.ntmps14
    go_wp2_with fail
    refine (QB.out _ HR.out).mono ?_
    rintro _ w1 ⟨rfl, x1⟩
    have X1 := Lib.hid x1
    clear x1
    go_wp2_with (refine wpList_bs (vs := #[(0, .int .i64 (l.length : Int))]) rfl 60 1 _ rfl rfl (run_bs1i _ _) ?_)
    have X2 := Lib.hid (X1.out.alloc (.cells #[.int .i64 (l.length : Int)] 3))
    have I0 := Lib.hid (IW.one (B := w.heap.size) (Blk.new w1 3 #[.int .i64 (l.length : Int)]) X1.out.size)
    go_loopw [5, 18] (fun v i wr => ∃ k : Nat, i = .int .i64 (k : Int) ∧ k ≤ l.length ∧ IW wr w.heap.size v (footK l k) ∧ Ext w wr) (fun _ i _ => l.length - (intOf i).toNat)
    case atStart => exact ⟨0, rfl, Nat.zero_le _, I0.out, X2.out⟩
    case round =>
      obtain ⟨k, rfl, hk, hw, hx⟩ := hrel
      by_cases hlt : k < l.length
      · obtain ⟨g, o, rfl, hcells⟩ := HS.out (by omega)
        have hI : (k : Int) < (l.length : Int) := by omega
        have R := Lib.hid (rangeAt_ext (hcells k _ (getD_at hlt)) hx)
        have hal := HA.out k hlt
        have hmore := footK_more l k hlt
        have hfl := footK_length l k hk
        clear hcells
        generalize l.getD k default = m at *
        obtain ⟨ma, ms, mr, mc, mf, me, ml⟩ := m
        obtain ⟨-, -, -, -, -, h6, h7, h8⟩ := hal
        have h6 : 0 ≤ me := h6
        have h7 : me ≤ ml := h7
        have h8 : ml ≤ 1000000000 := h8
        have hmore : footK l (k + 1) = footK l k ++ [ma, ms, mr, mc, mf, me, ml - me] := hmore
        have hx2 : Ext w ((wr.alloc (.cells #[.int .i64 ma, .int .i64 ms, .int .i64 mr, .int .i64 mc, .int .i64 mf, .int .i64 me, .int .i64 ml] 55)).alloc (.cells #[.int .i64 ma, .int .i64 ms, .int .i64 mr, .int .i64 mc, .int .i64 mf, .int .i64 me, .int .i64 (ml - me)] 3)) := (hx.alloc _).alloc _
        obtain ⟨v', w', p1, p2, p3⟩ := IW.appS (hw.ext (((Ext.refl wr).alloc (.cells #[.int .i64 ma, .int .i64 ms, .int .i64 mr, .int .i64 mc, .int .i64 mf, .int .i64 me, .int .i64 ml] 55)).alloc (.cells #[.int .i64 ma, .int .i64 ms, .int .i64 mr, .int .i64 mc, .int .i64 mf, .int .i64 me, .int .i64 (ml - me)] 3)))
          (ri_new7 ma ms mr mc mf me (ml - me) (wr.alloc (.cells #[.int .i64 ma, .int .i64 ms, .int .i64 mr, .int .i64 mc, .int .i64 mf, .int .i64 me, .int .i64 ml] 55))) hx2.size (by rw [hfl]; simp; omega)
        rw [← hmore] at p2
        have P2 := Lib.hid p2
        have HX := Lib.hid (hx2.grown p3 (fun j hj => hw.ge j hj))
        have HL := Lib.hid (show (Try.prog.info? 55).map (·.size) = some 7 from meta_size)
        rw [World.size_alloc] at p1
        clear hmore p2 p3 hx2 hx hfl
        obtain ⟨gv, cv, rfl, _, _⟩ := hw.shape
        obtain ⟨g2, c2, rfl, _, _⟩ := P2.out.shape
        generalize (footK l k).length = n1 at *
        generalize (footK l (k + 1)).length = n2 at *
        clear hw
        go_wp2_with (refine wpList_load_mid rfl 55 (.tmp 20) rfl g _ rfl [.int .i64 ma, .int .i64 ms, .int .i64 mr, .int .i64 mc, .int .i64 mf, .int .i64 me, .int .i64 ml] _ R.out Try.underlying55 rfl HL.out ?_; refine Held.go ?_)
        refine ⟨?_⟩
        go_wp2_with (refine wpList_store_new rfl 55 (.tmp 7) (.tmp 21) rfl rfl rfl rfl HL.out (by kernel_rfl) ?_; refine Held.go ?_)
        refine ⟨?_⟩
        go_wp2_with (refine wpList_bs (vs := #[(0, .int .i64 ma), (1, .int .i64 ms), (2, .int .i64 mr), (3, .int .i64 mc), (4, .int .i64 mf), (5, .int .i64 me), (6, .int .i64 (ml - me))]) rfl 60 7 _ rfl rfl (run_bs7i _ _ _ _ _ _ _ _) ?_; refine Held.go ?_)
        refine ⟨?_⟩
        go_wp2_with (at_builtin; refine wpList_app rfl (.tmp 22) (.tmp 40) 60 rfl rfl rfl rfl p1 ?_; refine Held.go ?_)
        refine ⟨?_⟩
        go_wp2
        go_roundw
        case rel => exact ⟨k + 1, by go_num, by omega, P2.out, HX.out⟩
        case measure => simp [intOf]; omega
      · have e : k = l.length := by omega
        subst e
        have hI : ¬ (l.length : Int) < (l.length : Int) := by omega
        have hfl := footK_length l l.length (Nat.le_refl _)
        have QN := Lib.hid (numbers_any (footL l) _ wr hw.ri (by unfold footL; rw [hfl]; push_cast; omega) HN.out)
        have HX := Lib.hid hx
        obtain ⟨gv, cv, rfl, _, _⟩ := hw.shape
        generalize (footK l l.length).length = n1 at *
        clear hw hx hfl
        go_wp2_with fail
        refine QN.out.mono ?_
        rintro _ w2 ⟨rfl, x2⟩
        have X3 := Lib.hid (HX.out.trans x2)
        clear x2
        go_wp2
        exact bodyPost_ret (results_tmp2 rfl _ _ _) rfl ⟨by rw [HH.out]; rfl, X3.out⟩
end Go.Proofs.Ytbhfapjjodhndaa
namespace Go.Proofs.Ytbhfapjjodhndaa
set_option linter.unusedVariables false
set_option linter.unusedSimpArgs false
open Go.RowKit
theorem putsL_app (a b : List Int) : putsL (a ++ b) = putsL a ++ putsL b := List.flatMap_append
attribute [local go_sem] S_size S_toList S_append

set_option maxRecDepth 20000 in
set_option maxHeartbeats 8000000 in
theorem rPutFoot_any (l : List M7) (v : Value) (w : World) (hr : RR metaC 7 w v l) :
    Calls Try.prog 15 #[v] w fun e w' => e = .returned (.tuple #[.string (S (putFt l)), .int .i64 (footI (blocksP l))]) ∧ Ext w w' := by
  have QB := Lib.hid (fun w h => rBlocks_any l v w h)
  have HR := Lib.hid hr
  cases hp : blocksP l with
  | false =>
    have HH := Lib.hid (show putFt l = [] by unfold putFt; rw [hp]; rfl)
    rw [hp] at QB
    simp only [footI, Bool.false_eq_true, if_false] at *
    clear hp hr
    go_enter Try.func15, Try.ntmps15
    go_wp2_with fail
    refine (QB.out _ HR.out).mono ?_
    rintro _ w1 ⟨rfl, x1⟩
    have X1 := Lib.hid x1
    clear x1
    go_wp2
    exact bodyPost_ret (results_tmp2 rfl _ _ _) rfl ⟨by rw [HH.out]; rfl, X1.out⟩
  | true =>
    have HH := Lib.hid (show putFt l = putsL (footL l) by unfold putFt; rw [hp]; rfl)
    have HN := Lib.hid (footL_nn hp)
    obtain ⟨hbig, hok⟩ := blocks_ok hp
    have HA := Lib.hid (fun i hi => okTo_alone hok (i := i) hi)
    rw [hp] at QB
    simp only [footI, if_true] at *
    obtain ⟨a, c, rfl, _, _, hs⟩ := hr
    have HS := Lib.hid hs
    have QP := Lib.hid (fun w' => rputs_any [(l.length : Int)] (.slice (some ⟨w'.heap.size, 0, none⟩) 1 1) _ (RI.one (Blk.new w' 3 #[.int .i64 (l.length : Int)])) (by simp) (by simp; omega))
    clear hp hs hok
    go_enter Try.func15, Try.ntmps15
    go_wp2_with fail
    refine (QB.out _ HR.out).mono ?_
    rintro _ w1 ⟨rfl, x1⟩
    have X1 := Lib.hid x1
    clear x1
    go_wp2_with (refine wpList_bs (vs := #[(0, .int .i64 (l.length : Int))]) rfl 60 1 _ rfl rfl (run_bs1i _ _) ?_)
    refine (QP.out _).mono ?_
    rintro _ w2 ⟨rfl, x2⟩
    have X2 := Lib.hid ((X1.out.alloc _).trans x2)
    clear x2
    go_wp2
    go_loopw [4, 5] (fun s i wr => ∃ k : Nat, i = .int .i64 (k : Int) ∧ k ≤ l.length ∧ s = .string (S (putsL (footK l k))) ∧ Ext w wr) (fun _ i _ => l.length - (intOf i).toNat)
    case atStart => exact ⟨0, rfl, Nat.zero_le _, rfl, X2.out⟩
    case round =>
      obtain ⟨k, rfl, hk, rfl, hx⟩ := hrel
      have hfl := puts_len (footK l k)
      rw [footK_length l k hk] at hfl
      by_cases hlt : k < l.length
      · obtain ⟨g, o, rfl, hcells⟩ := HS.out (by omega)
        have hI : (k : Int) < (l.length : Int) := by omega
        have R := Lib.hid (rangeAt_ext (hcells k _ (getD_at hlt)) hx)
        have hal := HA.out k hlt
        have hmore := footK_more l k hlt
        clear hcells
        generalize l.getD k default = m at *
        have hnn := m7L_nn hal
        obtain ⟨ma, ms, mr, mc, mf, me, ml⟩ := m
        obtain ⟨-, -, -, -, -, h6, h7, h8⟩ := hal
        have h6 : 0 ≤ me := h6
        have h7 : me ≤ ml := h7
        have h8 : ml ≤ 1000000000 := h8
        have hmore := Lib.hid (show putsL (footK l (k + 1)) = putsL (footK l k) ++ putsL [ma, ms, mr, mc, mf, me, ml - me] by rw [hmore, putsL_app]; rfl)
        have QP := rputs_any [ma, ms, mr, mc, mf, me, ml - me] (.slice (some ⟨(wr.alloc (.cells #[.int .i64 ma, .int .i64 ms, .int .i64 mr, .int .i64 mc, .int .i64 mf, .int .i64 me, .int .i64 ml] 55)).heap.size, 0, none⟩) 7 7) _ (ri_new7 ma ms mr mc mf me (ml - me) (wr.alloc (.cells #[.int .i64 ma, .int .i64 ms, .int .i64 mr, .int .i64 mc, .int .i64 mf, .int .i64 me, .int .i64 ml] 55))) (by simp) hnn
        rw [World.size_alloc] at QP
        have QP := Lib.hid QP
        have hsl := puts_len [ma, ms, mr, mc, mf, me, ml - me]
        rw [show [ma, ms, mr, mc, mf, me, ml - me].length = 7 from rfl] at hsl
        have HL := Lib.hid (show (Try.prog.info? 55).map (·.size) = some 7 from meta_size)
        have HX := Lib.hid hx
        clear hx hnn
        generalize putsL [ma, ms, mr, mc, mf, me, ml - me] = p7 at *
        generalize putsL (footK l k) = pk at *
        go_wp2_with (refine wpList_load_mid rfl 55 (.tmp 22) rfl g _ rfl [.int .i64 ma, .int .i64 ms, .int .i64 mr, .int .i64 mc, .int .i64 mf, .int .i64 me, .int .i64 ml] _ R.out Try.underlying55 rfl HL.out ?_; refine Held.go ?_)
        refine ⟨?_⟩
        go_wp2_with (refine wpList_store_new rfl 55 (.tmp 6) (.tmp 23) rfl rfl rfl rfl HL.out (by kernel_rfl) ?_; refine Held.go ?_)
        refine ⟨?_⟩
        go_wp2_with (refine wpList_bs (vs := #[(0, .int .i64 ma), (1, .int .i64 ms), (2, .int .i64 mr), (3, .int .i64 mc), (4, .int .i64 mf), (5, .int .i64 me), (6, .int .i64 (ml - me))]) rfl 60 7 _ rfl rfl (run_bs7i _ _ _ _ _ _ _ _) ?_; refine Held.go ?_)
        refine ⟨?_⟩
        have b1 : (pk.length : Int) ≤ 100000 := by omega
        have b2 : (p7.length : Int) ≤ 100 := by omega
        clear hfl hsl
        go_wp2_with fail
        refine QP.out.mono ?_
        rintro _ w3 ⟨rfl, x3⟩
        have X3 := Lib.hid (((HX.out.alloc _).alloc _).trans x3)
        clear x3
        go_wp2
        go_roundw
        case rel => exact ⟨k + 1, by go_num, by omega, by rw [hmore.out], X3.out⟩
        case measure => simp [intOf]; omega
      · have e : k = l.length := by omega
        subst e
        have hI : ¬ (l.length : Int) < (l.length : Int) := by omega
        have HX := Lib.hid hx
        clear hx hfl
        go_wp2
        exact bodyPost_ret (results_tmp2 rfl _ _ _) rfl ⟨by rw [HH.out]; rfl, HX.out⟩
end Go.Proofs.Ytbhfapjjodhndaa
namespace Go.Proofs.Ytbhfapjjodhndaa
set_option linter.unusedVariables false
set_option linter.unusedSimpArgs false
open Go.RowKit

/-- a block out of seven numbers -/
def mkM (l : List Nat) : M7 := ⟨(l.getD 0 0 : Nat), (l.getD 1 0 : Nat), (l.getD 2 0 : Nat), (l.getD 3 0 : Nat), (l.getD 4 0 : Nat), (l.getD 5 0 : Nat),
  if ((l.getD 6 0 : Nat) : Int) ≤ 9223372036854775807 - ((l.getD 5 0 : Nat) : Int) then ((l.getD 5 0 : Nat) : Int) + ((l.getD 6 0 : Nat) : Int) else 9223372036854775807⟩
def prepM (p : List M7) : Except Int (List M7 × Nat) → Except Int (List M7 × Nat)
  | .ok (l, a) => .ok (p ++ l, a)
  | .error e => .error e
/-- so many blocks from a place on -/
def blkR (s : List UInt8) : Nat → Nat → Except Int (List M7 × Nat)
  | 0, a => .ok ([], a)
  | n + 1, a => match numsR s 7 a with
    | .ok (l, b) => prepM [mkM l] (blkR s n b)
    | .error e => .error e
/-- all the blocks of bytes -/
def ftR (s : List UInt8) : Except Int (List M7) :=
  match takeN s 0 with
  | .error e => .error e
  | .ok (n, a) => if (n : Int) ≤ 1000 then (match blkR s n a with
    | .error e => .error e
    | .ok (l, b) => if b = s.length then .ok l else .error 6) else .error 3
/-- the blocks of bytes, or an error -/
def getFt (s : List UInt8) : Except Int (List M7) :=
  match ftR s with
  | .error e => .error e
  | .ok l => if blocksP l then .ok l else .error 211
theorem prepM_nil (r : Except Int (List M7 × Nat)) : prepM [] r = r := by rcases r with e | ⟨l, a⟩ <;> rfl
theorem prepM_two (p q : List M7) (r : Except Int (List M7 × Nat)) : prepM p (prepM q r) = prepM (p ++ q) r := by
  rcases r with e | ⟨l, a⟩
  · rfl
  · show Except.ok (p ++ (q ++ l), a) = Except.ok (p ++ q ++ l, a)
    rw [List.append_assoc]
theorem blkR_ok {s : List UInt8} {n a b : Nat} {l : List Nat} (h : numsR s 7 a = .ok (l, b)) : blkR s (n + 1) a = prepM [mkM l] (blkR s n b) := by
  show (match numsR s 7 a with | .ok (l, b) => prepM [mkM l] (blkR s n b) | .error e => .error e) = _
  rw [h]
theorem blkR_err {s : List UInt8} {n a : Nat} {e : Int} (h : numsR s 7 a = .error e) : blkR s (n + 1) a = .error e := by
  show (match numsR s 7 a with | .ok (l, b) => prepM [mkM l] (blkR s n b) | .error e => .error e) = _
  rw [h]

theorem tkA_size (w : World) (g a : Nat) : (tkA w g a).heap.size = w.heap.size := by simp [tkA, World.setCell]
theorem tkA_alloc {w : World} {g : Nat} (a : Nat) (o : Obj) (h : g < w.heap.size) : tkA (w.alloc o) g a = (tkA w g a).alloc o := by
  exact World.setCell_alloc_past o g 1 _ h
section
variable {P : Program} {ops : Array Oper} {Q : Exit → Act → World → Prop} {md : Region.Mode} {ρ : World → World → Prop}
/-- a value of the chain -/
theorem SerN.val (hp : Pre ρ) {iC : Nat} {oC : Oper} {vC : Value} {fuel : Nat} {L : Array Bool} {a : Act} {w wF : World} (i : Nat) {o : Oper} (e : (execOp a.eval oC).run P w = .ok (.value vC) wF) (x : ρ w wF) (r : Region.ready md ops L = [i, iC] ∨ Region.ready md ops L = [iC, i])
    (rC : Region.ready md ops (L.setIfInBounds iC true) = [i]) (hi : ops[i]? = some o) (hg : o.guard = none) (hne : i ≠ iC) (hd : ∀ d, o.dst = some d → oC.dst ≠ some d) (v : Value)
    (he : ∀ w, (execOp a.eval o).run P w = .ok (.value v) w) (heF : ∀ w, (execOp (a.put oC.dst vC).eval o).run P w = .ok (.value v) w)
    (h : SerN P md ops Q ρ iC oC vC fuel (L.setIfInBounds i true) (a.put o.dst v) w wF) : SerN P md ops Q ρ iC oC vC (fuel + 1) L a w wF :=
  ⟨e, x, .inr ⟨i, o, r, rC, hi, hg, hne, hd, .inl ⟨v, w, wF, by unfold Oper.wp; rw [he]; exact ⟨rfl, rfl⟩, by unfold Oper.wp; rw [heF]; exact ⟨rfl, rfl⟩, hp.refl _, hp.refl _, h⟩⟩⟩
end
section
variable {ops : Array Oper} {Q : Exit → Act → World → Prop} {md : Region.Mode} {K : List Nat}
/-- a number that is taken, beside a new variable -/
theorem SerN.numOk {iC n : Nat} {oC : Oper} {fuel : Nat} {L : Array Bool} {act : Act} {w : World} {g a x k : Nat} {s : List UInt8} {obj : Obj} (i : Nat) {o : Oper} (mk : g ∈ K) (bk : TK w g s (a : Int)) (hs : (s.length : Int) ≤ 1000000000) (ht : takeN s (a : Int) = .ok (x, k))
    (hz : w.heap.size = n) (e : ∀ w, (execOp act.eval oC).run Try.prog w = .ok (.value (.pointer (some ⟨w.heap.size, 0, none⟩))) (w.alloc obj)) (r : Region.ready md ops L = [i, iC] ∨ Region.ready md ops L = [iC, i])
    (rC : Region.ready md ops (L.setIfInBounds iC true) = [i]) (hi : ops[i]? = some o) (hg : o.guard = none) (hne : i ≠ iC) (hd : ∀ d, o.dst = some d → oC.dst ≠ some d)
    (he : ∀ w, (execOp act.eval o).run Try.prog w = .ok (.enter 29 #[.pointer (some ⟨g, 0, none⟩)]) w) (heF : ∀ w, (execOp (act.put oC.dst (.pointer (some ⟨n, 0, none⟩))).eval o).run Try.prog w = .ok (.enter 29 #[.pointer (some ⟨g, 0, none⟩)]) w)
    (h : (tkA w g (a + k)).heap.size = n → TK (tkA w g (a + k)) g s ((a + k : Nat) : Int) → SerN Try.prog md ops Q (But K) iC oC (.pointer (some ⟨n, 0, none⟩)) fuel (L.setIfInBounds i true) (act.put o.dst (.int .i64 (x : Int))) (tkA w g (a + k)) ((tkA w g (a + k)).alloc obj)) :
    SerN Try.prog md ops Q (But K) iC oC (.pointer (some ⟨n, 0, none⟩)) (fuel + 1) L act w (w.alloc obj) := by
  subst hz
  have e2 := num_ok (bk.ext ((Ext.refl w).alloc obj)) hs ht
  rw [tkA_alloc _ _ bk.lt] at e2
  refine SerN.call i (e w) ((But.refl K w).alloc obj) r rC hi hg hne hd he heF _ _ _ (num_ok bk hs ht) e2 (tkA_but (But.refl _ _) mk _) ?_ (h (tkA_size _ _ _) (tkA_tk bk _))
  rw [← tkA_alloc _ _ bk.lt]
  exact tkA_but (But.refl _ _) mk _
/-- a number that is not there, beside a new variable -/
theorem SerN.numErr {iC n : Nat} {oC : Oper} {fuel : Nat} {L : Array Bool} {act : Act} {w : World} {g a : Nat} {er : Int} {s : List UInt8} {obj : Obj} (i : Nat) {o : Oper} (bk : TK w g s (a : Int)) (hs : (s.length : Int) ≤ 1000000000) (ht : takeN s (a : Int) = .error er)
    (hz : w.heap.size = n) (e : ∀ w, (execOp act.eval oC).run Try.prog w = .ok (.value (.pointer (some ⟨w.heap.size, 0, none⟩))) (w.alloc obj)) (r : Region.ready md ops L = [i, iC] ∨ Region.ready md ops L = [iC, i])
    (rC : Region.ready md ops (L.setIfInBounds iC true) = [i]) (hi : ops[i]? = some o) (hg : o.guard = none) (hne : i ≠ iC) (hd : ∀ d, o.dst = some d → oC.dst ≠ some d)
    (he : ∀ w, (execOp act.eval o).run Try.prog w = .ok (.enter 29 #[.pointer (some ⟨g, 0, none⟩)]) w) (heF : ∀ w, (execOp (act.put oC.dst (.pointer (some ⟨n, 0, none⟩))).eval o).run Try.prog w = .ok (.enter 29 #[.pointer (some ⟨g, 0, none⟩)]) w)
    (h1 : Q (.panic [{ v := fault er (a : Int), recovered := false }]) act w) (h2 : Q (.panic [{ v := fault er (a : Int), recovered := false }]) (act.put oC.dst (.pointer (some ⟨n, 0, none⟩))) (w.alloc obj)) :
    SerN Try.prog md ops Q (But K) iC oC (.pointer (some ⟨n, 0, none⟩)) (fuel + 2) L act w (w.alloc obj) := by
  subst hz
  exact SerN.panic i (e w) ((But.refl K w).alloc obj) r rC hi hg hne hd he heF _ _ _ (Nat.succ_pos _) (num_err bk hs ht) (num_err (bk.ext ((Ext.refl w).alloc obj)) hs ht) h1 h2
/-- a value of the chain, beside a new variable -/
theorem SerN.valOk {iC n : Nat} {oC : Oper} {fuel : Nat} {L : Array Bool} {act : Act} {w : World} {obj : Obj} (i : Nat) {o : Oper}
    (hz : w.heap.size = n) (e : ∀ w, (execOp act.eval oC).run Try.prog w = .ok (.value (.pointer (some ⟨w.heap.size, 0, none⟩))) (w.alloc obj)) (r : Region.ready md ops L = [i, iC] ∨ Region.ready md ops L = [iC, i])
    (rC : Region.ready md ops (L.setIfInBounds iC true) = [i]) (hi : ops[i]? = some o) (hg : o.guard = none) (hne : i ≠ iC) (hd : ∀ d, o.dst = some d → oC.dst ≠ some d) (v : Value)
    (he : ∀ w, (execOp act.eval o).run Try.prog w = .ok (.value v) w) (heF : ∀ w, (execOp (act.put oC.dst (.pointer (some ⟨n, 0, none⟩))).eval o).run Try.prog w = .ok (.value v) w)
    (h : SerN Try.prog md ops Q (But K) iC oC (.pointer (some ⟨n, 0, none⟩)) fuel (L.setIfInBounds i true) (act.put o.dst v) w (w.alloc obj)) :
    SerN Try.prog md ops Q (But K) iC oC (.pointer (some ⟨n, 0, none⟩)) (fuel + 1) L act w (w.alloc obj) := by
  subst hz
  exact SerN.val (But.pre K) i (e w) ((But.refl K w).alloc obj) r rC hi hg hne hd v he heF h
theorem SerN.lastOk {iC n : Nat} {oC : Oper} {fuel : Nat} {L : Array Bool} {act : Act} {w : World} {obj : Obj}
    (hz : w.heap.size = n) (e : ∀ w, (execOp act.eval oC).run Try.prog w = .ok (.value (.pointer (some ⟨w.heap.size, 0, none⟩))) (w.alloc obj)) (r : Region.ready md ops L = [iC])
    (h : wpAnyN Try.prog md ops Q (But K) fuel (L.setIfInBounds iC true) (act.put oC.dst (.pointer (some ⟨n, 0, none⟩))) (w.alloc obj)) :
    SerN Try.prog md ops Q (But K) iC oC (.pointer (some ⟨n, 0, none⟩)) (fuel + 1) L act w (w.alloc obj) := by
  subst hz
  exact SerN.last (e w) ((But.refl K w).alloc obj) r h
end
theorem meta_info : (Try.prog.info? 55).map (fun i => (i.zero, i.size, i.bytes)) = some (some (.agg #[.int .i64 0, .int .i64 0, .int .i64 0, .int .i64 0, .int .i64 0, .int .i64 0, .int .i64 0]), 7, 56) := by kernel_rfl
theorem run_bs1m (a b c d e f g : Int) (w : World) : (Instr.buildSlice 37 1 #[(0, .agg #[.int .i64 a, .int .i64 b, .int .i64 c, .int .i64 d, .int .i64 e, .int .i64 f, .int .i64 g])]).run Try.prog w = .ok (.slice (some ⟨w.heap.size, 0, none⟩) 1 1) (w.alloc (.cells #[.int .i64 a, .int .i64 b, .int .i64 c, .int .i64 d, .int .i64 e, .int .i64 f, .int .i64 g] 55)) := by kernel_rfl
theorem rr_new1 (a b c d e f g : Int) (w : World) : RR metaC 7 (w.alloc (.cells #[.int .i64 a, .int .i64 b, .int .i64 c, .int .i64 d, .int .i64 e, .int .i64 f, .int .i64 g] 55)) (.slice (some ⟨w.heap.size, 0, none⟩) 1 1) [⟨a, b, c, d, e, f, g⟩] := by
  have := World.ownsRow_lit (base := w.heap.size) (e := 55) (size := 7) w #[.int .i64 a, .int .i64 b, .int .i64 c, .int .i64 d, .int .i64 e, .int .i64 f, .int .i64 g] 1 (Nat.le_refl _) (by unfold maxLen; omega) rfl
  exact WR.rr (l := [(⟨a, b, c, d, e, f, g⟩ : M7)]) (B := w.heap.size) (e := 55) metaC_length this
theorem But.grown {K : List Nat} {a b c : World} {row : Option Nat} (h : But K a b) (hg : b.grownBy c row) (hr : ∀ k, row = some k → a.heap.size ≤ k) : But K a c :=
  ⟨hg.os.trans h.os, hg.tape.trans h.tape, hg.output.trans h.output, Nat.le_trans h.size hg.size, fun k h1 h2 => (hg.block k (Nat.lt_of_lt_of_le h1 h.size) (fun e => by have := hr k e.symm; omega)).trans (h.block k h1 h2)⟩
theorem WR.ge {α : Type} {f : α → List Value} {s : Nat} {w : World} {B : Nat} {e : TypeId} {v : Value} {l : List α} (h : WR f s w B e v l) : ∀ k, v.ownBlock = some k → B ≤ k := fun k hk => (World.ownsRow.lt h k hk).1
theorem ftR_big {s : List UInt8} {n a : Nat} (ht : takeN s 0 = .ok (n, a)) (hn : ¬ (n : Int) ≤ 1000) : ftR s = .error 3 := by unfold ftR; rw [ht]; show (if (n : Int) ≤ 1000 then _ else _) = _; rw [if_neg hn]
theorem ftR_err {s : List UInt8} {n a : Nat} {e : Int} (ht : takeN s 0 = .ok (n, a)) (hn : (n : Int) ≤ 1000) (hb : blkR s n a = .error e) : ftR s = .error e := by
  unfold ftR; rw [ht]; show (if (n : Int) ≤ 1000 then _ else _) = _; rw [if_pos hn, hb]
theorem ftR_rest {s : List UInt8} {n a b : Nat} {l : List M7} (ht : takeN s 0 = .ok (n, a)) (hn : (n : Int) ≤ 1000) (hb : blkR s n a = .ok (l, b)) (h : ¬ b = s.length) : ftR s = .error 6 := by
  unfold ftR; rw [ht]; show (if (n : Int) ≤ 1000 then _ else _) = _; rw [if_pos hn, hb]; show (if b = s.length then _ else _) = _; rw [if_neg h]
theorem ftR_ok {s : List UInt8} {n a b : Nat} {l : List M7} (ht : takeN s 0 = .ok (n, a)) (hn : (n : Int) ≤ 1000) (hb : blkR s n a = .ok (l, b)) (h : b = s.length) : ftR s = .ok l := by
  unfold ftR; rw [ht]; show (if (n : Int) ≤ 1000 then _ else _) = _; rw [if_pos hn, hb]; show (if b = s.length then _ else _) = _; rw [if_pos h]
end Go.Proofs.Ytbhfapjjodhndaa
namespace Go.Proofs.Ytbhfapjjodhndaa
set_option linter.unusedVariables false
set_option linter.unusedSimpArgs false
open Go.RowKit

/-- what GetFoot's closure does -/
def GotF (s : List UInt8) (go B : Nat) (r : Ending) (w' : World) : Prop :=
  match ftR s with
  | .error e => ∃ a, r = faultE e a
  | .ok ms => r = .returned (.tuple #[]) ∧ ∃ v, Blk w' go 37 #[v] ∧ WR metaC 7 w' B 55 v ms
theorem GotF.err {s : List UInt8} {go B : Nat} {r : Ending} {w' : World} {e a : Int} (h : ftR s = .error e) (hr : r = faultE e a) : GotF s go B r w' := by
  unfold GotF; rw [h]; exact ⟨a, hr⟩
theorem GotF.ok {s : List UInt8} {go B : Nat} {r : Ending} {w' : World} {ms : List M7} {v : Value} (h : ftR s = .ok ms) (hr : r = .returned (.tuple #[])) (hb : Blk w' go 37 #[v]) (hw : WR metaC 7 w' B 55 v ms) : GotF s go B r w' := by
  unfold GotF; rw [h]; exact ⟨hr, v, hb, hw⟩
theorem meta_zero (w : World) : (zeroValue 55).run Try.prog w = .ok (.agg #[.int .i64 0, .int .i64 0, .int .i64 0, .int .i64 0, .int .i64 0, .int .i64 0, .int .i64 0]) w := by kernel_rfl
theorem Blk.tk {w : World} {g k : Nat} {t : TypeId} {cs : Array Value} (h : Blk w k t cs) (hk : k ≠ g) (a : Nat) : Blk (tkA w g a) k t cs := h.far (p := ⟨g, 1, none⟩) hk _
theorem WR.tk {α : Type} {f : α → List Value} {n : Nat} {w : World} {B : Nat} {e : TypeId} {v : Value} {l : List α} {g : Nat} (h : WR f n w B e v l) (hg : g < B) (a : Nat) : WR f n (tkA w g a) B e v l := ownsRow_setCell_below h (a := ⟨g, 1, none⟩) hg _
attribute [local go_sem] S_size S_toList meta_zero

set_option maxRecDepth 20000 in
set_option maxHeartbeats 8000000 in
theorem getf1_any (s : List UInt8) (gn go gt gk : Nat) (w : World) (hs : (s.length : Int) ≤ 1000000000)
    (bn : Blk w gn 63 #[numV gk]) (bo : Blk w go 37 #[.slice none 0 0]) (bt : Blk w gt 61 #[.pointer (some ⟨gk, 0, none⟩)]) (bk : TK w gk s 0)
    (nk : gn ≠ gk) (no : gn ≠ go) (ko : gk ≠ go) (tk : gt ≠ gk) (to : gt ≠ go) :
    Calls Try.prog 35 #[.pointer (some ⟨gn, 0, none⟩), .pointer (some ⟨go, 0, none⟩), .pointer (some ⟨gt, 0, none⟩)] w fun r w' => But [gk, go] w w' ∧ GotF s go w.heap.size r w' := by
  have mk : gk ∈ [gk, go] := List.mem_cons_self
  have mo : go ∈ [gk, go] := List.mem_cons_of_mem _ List.mem_cons_self
  have HN := Lib.hid (show gn ∉ [gk, go] by simp; omega)
  have HT := Lib.hid (show gt ∉ [gk, go] by simp; omega)
  have MK := Lib.hid mk
  have MO := Lib.hid mo
  have KO := Lib.hid ko.symm
  have LGO := Lib.hid bo.lt
  have GK := Lib.hid bk.lt
  have cn := bn.cell 0
  simp [numV] at cn
  have bk0 : TK w gk s ((0 : Nat) : Int) := bk
  cases t0 : takeN s ((0 : Nat) : Int) with
  | error e =>
    have Q0 := num_err bk0 hs t0
    have HF := Lib.hid (show ftR s = .error e by unfold ftR; rw [show (0 : Int) = ((0 : Nat) : Int) from rfl, t0])
    go_enter Try.func35, Try.ntmps35
    go_wp2_with fail
    refine Q0.mono ?_
    rintro _ w1 ⟨rfl, rfl⟩
    exact ⟨rfl, But.refl _ _, GotF.err HF.out rfl⟩
  | ok p =>
    obtain ⟨n, k0⟩ := p
    have Q0 := Lib.hid (num_ok bk0 hs t0)
    have h0 := takeN_ok t0
    by_cases hbig : (n : Int) ≤ 1000
    · have bk1 := Lib.hid (tkA_tk bk0 (0 + k0))
      have x1 := Lib.hid (tkA_but (But.refl [gk, go] w) mk (0 + k0))
      have kb : ¬ (1000 : Int) < (n : Int) := by omega
      have FE := Lib.hid (fun e h => ftR_err (e := e) t0 hbig h)
      have FR := Lib.hid (fun l b h h2 => ftR_rest (b := b) (l := l) t0 hbig h h2)
      have FO := Lib.hid (fun l b h h2 => ftR_ok (b := b) (l := l) t0 hbig h h2)
      rw [Nat.zero_add] at *
      clear t0 hbig
      go_enter Try.func35, Try.ntmps35
      go_wp2_with fail
      refine Q0.out.mono ?_
      rintro _ w1 ⟨rfl, rfl⟩
      have bn1 := Lib.hid (bn.but x1.out HN.out)
      have bt1 := Lib.hid (bt.but x1.out HT.out)
      have bo1 := Lib.hid (show Blk (tkA w gk k0) go 37 #[.slice none 0 0] from bo.far (p := ⟨gk, 1, none⟩) ko.symm _)
      have BN := Lib.hid bn
      have BT := Lib.hid bt
      have h0a := h0.1
      clear cn bk0 bk bn bt bo
      generalize tkA w gk k0 = w1 at *
      go_wp2
      go_loopw [13] (fun i wr => ∃ (k a : Nat) (ms : List M7) (v : Value), i = .int .i64 (k : Int) ∧ k ≤ n ∧ a ≤ s.length ∧ ms.length = k ∧ blkR s n k0 = prepM ms (blkR s (n - k) a) ∧ TK wr gk s (a : Int) ∧ Blk wr go 37 #[v] ∧ WR metaC 7 wr w.heap.size 55 v ms ∧ But [gk, go] w wr) (fun i _ => n - (intOf i).toNat)
      case atStart => exact ⟨0, k0, [], _, rfl, Nat.zero_le _, by omega, rfl, by rw [prepM_nil]; rfl, bk1.out, bo1.out, WR.nil _ _ _, x1.out⟩
      case round =>
        obtain ⟨k, a, ms, v, rfl, hk, ha, hml, hb, bk0, bo, hw, hx⟩ := hrel
        by_cases hlt : k < n
        · have hI : (k : Int) < (n : Int) := by omega
          have HB := Lib.hid (show blkR s n k0 = prepM ms (blkR s (n - k - 1 + 1) a) by rw [hb, show n - k - 1 + 1 = n - k by omega])
          have BO := Lib.hid bo
          have HW := Lib.hid hw
          have HX := Lib.hid hx
          have ld : ∀ w', But [gk, go] wr.drew w' → w'.cell? ⟨gn, 0, none⟩ = some (numV gk) := fun w' x => (BN.out.but (hx.drew.trans x) HN.out).cell 0
          have bk0 : TK wr.drew gk s (a : Int) := bk0
          have hz0 : wr.drew.heap.size = wr.heap.size := rfl
          have LD := Lib.hid ld
          have BK0 := Lib.hid bk0
          clear hb bo hw hx ld bk0
          go_wp2
          refine wp_region_n (But [gk, go]) 15 rfl (by kernel_rfl) ?_
          iterate 6
            refine n_want (But.pre _) (by kernel_rfl) (by kernel_rfl) (by kernel_rfl) (fun _ _ _ _ h => h) (by kernel_rfl) (numV gk) (fun w' x => (by have c := LD.out w' x; go_simp)) ?_
            refine n_late ?_
          refine n_rest ?_
          dsimp only [Act.put]
          simp only [List.setIfInBounds_toArray, List.set_cons_succ, List.set_cons_zero]
          have bk0 := BK0.out
          have y0 := HX.out.drew
          have bo0 := BO.out.drew
          have hw0 := HW.out.drew
          refine n_ser (iC := 13) (.pointer (some ⟨wr.heap.size, 0, none⟩)) (wr.drew.alloc (.cells #[.int .i64 0, .int .i64 0, .int .i64 0, .int .i64 0, .int .i64 0, .int .i64 0, .int .i64 0] 55)) rfl rfl ?_
          cases t1 : takeN s ((a : Nat) : Int) with
          | error e =>
            have HF := FE.out e (by rw [HB.out, blkR_err (show numsR s 7 a = .error e by rw [numsR_err t1])]; rfl)
            refine SerN.numErr 1 bk0 hs t1 hz0 (by intro w; kernel_rfl) (.inl (by kernel_rfl)) (by kernel_rfl) rfl rfl (by decide) (fun d h => by cases h; decide) (by intro w; kernel_rfl) (by intro w; kernel_rfl) ?_ ?_
            · exact ⟨rfl, y0, GotF.err HF rfl⟩
            · exact ⟨rfl, y0.alloc _, GotF.err HF rfl⟩
          | ok p =>
            obtain ⟨x1, k1'⟩ := p
            have y1 := tkA_but y0 MK.out (a + k1')
            have bo1 := Blk.tk bo0 KO.out (a + k1')
            have hw1 := WR.tk hw0 GK.out (a + k1')
            refine SerN.numOk 1 MK.out bk0 hs t1 hz0 (by intro w; kernel_rfl) (.inl (by kernel_rfl)) (by kernel_rfl) rfl rfl (by decide) (fun d h => by cases h; decide) (by intro w; kernel_rfl) (by intro w; kernel_rfl) (fun hz1 bk1 => ?_)
            simp only [Act.put, List.getElem_toArray, List.getElem_cons_succ, List.getElem_cons_zero, List.setIfInBounds_toArray, List.set_cons_succ, List.set_cons_zero]
            cases t2 : takeN s ((a + k1' : Nat) : Int) with
            | error e =>
              have HF := FE.out e (by rw [HB.out, blkR_err (show numsR s 7 a = .error e by rw [numsR_ok t1, numsR_err t2]; rfl)]; rfl)
              refine SerN.numErr 3 bk1 hs t2 hz1 (by intro w; kernel_rfl) (.inl (by kernel_rfl)) (by kernel_rfl) rfl rfl (by decide) (fun d h => by cases h; decide) (by intro w; kernel_rfl) (by intro w; kernel_rfl) ?_ ?_
              · exact ⟨rfl, y1, GotF.err HF rfl⟩
              · exact ⟨rfl, y1.alloc _, GotF.err HF rfl⟩
            | ok p =>
              obtain ⟨x2, k2'⟩ := p
              have y2 := tkA_but y1 MK.out (a + k1' + k2')
              have bo2 := Blk.tk bo1 KO.out (a + k1' + k2')
              have hw2 := WR.tk hw1 GK.out (a + k1' + k2')
              refine SerN.numOk 3 MK.out bk1 hs t2 hz1 (by intro w; kernel_rfl) (.inl (by kernel_rfl)) (by kernel_rfl) rfl rfl (by decide) (fun d h => by cases h; decide) (by intro w; kernel_rfl) (by intro w; kernel_rfl) (fun hz2 bk2 => ?_)
              simp only [Act.put, List.getElem_toArray, List.getElem_cons_succ, List.getElem_cons_zero, List.setIfInBounds_toArray, List.set_cons_succ, List.set_cons_zero]
              cases t3 : takeN s ((a + k1' + k2' : Nat) : Int) with
              | error e =>
                have HF := FE.out e (by rw [HB.out, blkR_err (show numsR s 7 a = .error e by rw [numsR_ok t1, numsR_ok t2, numsR_err t3]; rfl)]; rfl)
                refine SerN.numErr 5 bk2 hs t3 hz2 (by intro w; kernel_rfl) (.inl (by kernel_rfl)) (by kernel_rfl) rfl rfl (by decide) (fun d h => by cases h; decide) (by intro w; kernel_rfl) (by intro w; kernel_rfl) ?_ ?_
                · exact ⟨rfl, y2, GotF.err HF rfl⟩
                · exact ⟨rfl, y2.alloc _, GotF.err HF rfl⟩
              | ok p =>
                obtain ⟨x3, k3'⟩ := p
                have y3 := tkA_but y2 MK.out (a + k1' + k2' + k3')
                have bo3 := Blk.tk bo2 KO.out (a + k1' + k2' + k3')
                have hw3 := WR.tk hw2 GK.out (a + k1' + k2' + k3')
                refine SerN.numOk 5 MK.out bk2 hs t3 hz2 (by intro w; kernel_rfl) (.inl (by kernel_rfl)) (by kernel_rfl) rfl rfl (by decide) (fun d h => by cases h; decide) (by intro w; kernel_rfl) (by intro w; kernel_rfl) (fun hz3 bk3 => ?_)
                simp only [Act.put, List.getElem_toArray, List.getElem_cons_succ, List.getElem_cons_zero, List.setIfInBounds_toArray, List.set_cons_succ, List.set_cons_zero]
                cases t4 : takeN s ((a + k1' + k2' + k3' : Nat) : Int) with
                | error e =>
                  have HF := FE.out e (by rw [HB.out, blkR_err (show numsR s 7 a = .error e by rw [numsR_ok t1, numsR_ok t2, numsR_ok t3, numsR_err t4]; rfl)]; rfl)
                  refine SerN.numErr 7 bk3 hs t4 hz3 (by intro w; kernel_rfl) (.inl (by kernel_rfl)) (by kernel_rfl) rfl rfl (by decide) (fun d h => by cases h; decide) (by intro w; kernel_rfl) (by intro w; kernel_rfl) ?_ ?_
                  · exact ⟨rfl, y3, GotF.err HF rfl⟩
                  · exact ⟨rfl, y3.alloc _, GotF.err HF rfl⟩
                | ok p =>
                  obtain ⟨x4, k4'⟩ := p
                  have y4 := tkA_but y3 MK.out (a + k1' + k2' + k3' + k4')
                  have bo4 := Blk.tk bo3 KO.out (a + k1' + k2' + k3' + k4')
                  have hw4 := WR.tk hw3 GK.out (a + k1' + k2' + k3' + k4')
                  refine SerN.numOk 7 MK.out bk3 hs t4 hz3 (by intro w; kernel_rfl) (.inl (by kernel_rfl)) (by kernel_rfl) rfl rfl (by decide) (fun d h => by cases h; decide) (by intro w; kernel_rfl) (by intro w; kernel_rfl) (fun hz4 bk4 => ?_)
                  simp only [Act.put, List.getElem_toArray, List.getElem_cons_succ, List.getElem_cons_zero, List.setIfInBounds_toArray, List.set_cons_succ, List.set_cons_zero]
                  cases t5 : takeN s ((a + k1' + k2' + k3' + k4' : Nat) : Int) with
                  | error e =>
                    have HF := FE.out e (by rw [HB.out, blkR_err (show numsR s 7 a = .error e by rw [numsR_ok t1, numsR_ok t2, numsR_ok t3, numsR_ok t4, numsR_err t5]; rfl)]; rfl)
                    refine SerN.numErr 9 bk4 hs t5 hz4 (by intro w; kernel_rfl) (.inl (by kernel_rfl)) (by kernel_rfl) rfl rfl (by decide) (fun d h => by cases h; decide) (by intro w; kernel_rfl) (by intro w; kernel_rfl) ?_ ?_
                    · exact ⟨rfl, y4, GotF.err HF rfl⟩
                    · exact ⟨rfl, y4.alloc _, GotF.err HF rfl⟩
                  | ok p =>
                    obtain ⟨x5, k5'⟩ := p
                    have y5 := tkA_but y4 MK.out (a + k1' + k2' + k3' + k4' + k5')
                    have bo5 := Blk.tk bo4 KO.out (a + k1' + k2' + k3' + k4' + k5')
                    have hw5 := WR.tk hw4 GK.out (a + k1' + k2' + k3' + k4' + k5')
                    refine SerN.numOk 9 MK.out bk4 hs t5 hz4 (by intro w; kernel_rfl) (.inl (by kernel_rfl)) (by kernel_rfl) rfl rfl (by decide) (fun d h => by cases h; decide) (by intro w; kernel_rfl) (by intro w; kernel_rfl) (fun hz5 bk5 => ?_)
                    simp only [Act.put, List.getElem_toArray, List.getElem_cons_succ, List.getElem_cons_zero, List.setIfInBounds_toArray, List.set_cons_succ, List.set_cons_zero]
                    cases t6 : takeN s ((a + k1' + k2' + k3' + k4' + k5' : Nat) : Int) with
                    | error e =>
                      have HF := FE.out e (by rw [HB.out, blkR_err (show numsR s 7 a = .error e by rw [numsR_ok t1, numsR_ok t2, numsR_ok t3, numsR_ok t4, numsR_ok t5, numsR_err t6]; rfl)]; rfl)
                      refine SerN.numErr 11 bk5 hs t6 hz5 (by intro w; kernel_rfl) (.inl (by kernel_rfl)) (by kernel_rfl) rfl rfl (by decide) (fun d h => by cases h; decide) (by intro w; kernel_rfl) (by intro w; kernel_rfl) ?_ ?_
                      · exact ⟨rfl, y5, GotF.err HF rfl⟩
                      · exact ⟨rfl, y5.alloc _, GotF.err HF rfl⟩
                    | ok p =>
                      obtain ⟨x6, k6'⟩ := p
                      have y6 := tkA_but y5 MK.out (a + k1' + k2' + k3' + k4' + k5' + k6')
                      have bo6 := Blk.tk bo5 KO.out (a + k1' + k2' + k3' + k4' + k5' + k6')
                      have hw6 := WR.tk hw5 GK.out (a + k1' + k2' + k3' + k4' + k5' + k6')
                      refine SerN.numOk 11 MK.out bk5 hs t6 hz5 (by intro w; kernel_rfl) (.inl (by kernel_rfl)) (by kernel_rfl) rfl rfl (by decide) (fun d h => by cases h; decide) (by intro w; kernel_rfl) (by intro w; kernel_rfl) (fun hz6 bk6 => ?_)
                      simp only [Act.put, List.getElem_toArray, List.getElem_cons_succ, List.getElem_cons_zero, List.setIfInBounds_toArray, List.set_cons_succ, List.set_cons_zero]
                      generalize hW6 : (tkA (tkA (tkA (tkA (tkA (tkA wr.drew gk (a + k1')) gk (a + k1' + k2')) gk (a + k1' + k2' + k3')) gk (a + k1' + k2' + k3' + k4')) gk (a + k1' + k2' + k3' + k4' + k5')) gk (a + k1' + k2' + k3' + k4' + k5' + k6')) = W6 at *
                      refine SerN.valOk 12 hz6 (by intro w; kernel_rfl) (.inl (by kernel_rfl)) (by kernel_rfl) rfl rfl (by decide) (fun d h => by cases h; decide) (.agg #[.int .i64 (x1 : Int), .int .i64 (x2 : Int), .int .i64 (x3 : Int), .int .i64 (x4 : Int), .int .i64 (x5 : Int), .int .i64 (x6 : Int), .int .i64 0]) (by intro w; kernel_rfl) (by intro w; kernel_rfl) ?_
                      simp only [Act.put, List.getElem_toArray, List.getElem_cons_succ, List.getElem_cons_zero, List.setIfInBounds_toArray, List.set_cons_succ, List.set_cons_zero]
                      refine SerN.lastOk hz6 (by intro w; kernel_rfl) (by kernel_rfl) ?_
                      simp only [Act.put, List.getElem_toArray, List.getElem_cons_succ, List.getElem_cons_zero, List.setIfInBounds_toArray, List.set_cons_succ, List.set_cons_zero]
                      have bn6 := Blk.new W6 55 #[.int .i64 0, .int .i64 0, .int .i64 0, .int .i64 0, .int .i64 0, .int .i64 0, .int .i64 0]
                      rw [hz6] at bn6
                      refine n_skip 14 (by kernel_rfl) rfl (by kernel_rfl) ((W6.alloc (.cells #[.int .i64 0, .int .i64 0, .int .i64 0, .int .i64 0, .int .i64 0, .int .i64 0, .int .i64 0] 55)).setRow wr.heap.size #[.int .i64 (x1 : Int), .int .i64 (x2 : Int), .int .i64 (x3 : Int), .int .i64 (x4 : Int), .int .i64 (x5 : Int), .int .i64 (x6 : Int), .int .i64 0]) (exec_store_blk 55 (.tmp 4) (.tmp 27) rfl rfl rfl bn6 rfl rfl (by kernel_rfl)) (fun h0 => by have h9 := h0.symm.trans (by kernel_rfl : _ = true); cases h9) ?_
                      refine n_done (by kernel_rfl) ?_
                      simp only [Act.put, List.getElem_toArray, List.getElem_cons_succ, List.getElem_cons_zero, List.setIfInBounds_toArray, List.set_cons_succ, List.set_cons_zero]
                      have hW8 : (W6.alloc (.cells #[.int .i64 0, .int .i64 0, .int .i64 0, .int .i64 0, .int .i64 0, .int .i64 0, .int .i64 0] 55)).setRow wr.heap.size #[.int .i64 (x1 : Int), .int .i64 (x2 : Int), .int .i64 (x3 : Int), .int .i64 (x4 : Int), .int .i64 (x5 : Int), .int .i64 (x6 : Int), .int .i64 0] = W6.alloc (.cells #[.int .i64 (x1 : Int), .int .i64 (x2 : Int), .int .i64 (x3 : Int), .int .i64 (x4 : Int), .int .i64 (x5 : Int), .int .i64 (x6 : Int), .int .i64 0] 55) := by rw [← hz6]; exact World.setRow_alloc_new _ _ _ _
                      rw [hW8]
                      have bk8 := bk6.ext ((Ext.refl W6).alloc (.cells #[.int .i64 (x1 : Int), .int .i64 (x2 : Int), .int .i64 (x3 : Int), .int .i64 (x4 : Int), .int .i64 (x5 : Int), .int .i64 (x6 : Int), .int .i64 0] 55))
                      have cn8 := (BN.out.but (y6.alloc (.cells #[.int .i64 (x1 : Int), .int .i64 (x2 : Int), .int .i64 (x3 : Int), .int .i64 (x4 : Int), .int .i64 (x5 : Int), .int .i64 (x6 : Int), .int .i64 0] 55)) HN.out).cell 0
                      simp [numV] at cn8
                      cases t7 : takeN s ((a + k1' + k2' + k3' + k4' + k5' + k6' : Nat) : Int) with
                      | error e =>
                        have HF := Lib.hid (FE.out e (by rw [HB.out, blkR_err (show numsR s 7 a = .error e by rw [numsR_ok t1, numsR_ok t2, numsR_ok t3, numsR_ok t4, numsR_ok t5, numsR_ok t6, numsR_err t7]; rfl)]; rfl))
                        have Q7 := Lib.hid (num_err bk8 hs t7)
                        have Y8 := Lib.hid (y6.alloc (.cells #[.int .i64 (x1 : Int), .int .i64 (x2 : Int), .int .i64 (x3 : Int), .int .i64 (x4 : Int), .int .i64 (x5 : Int), .int .i64 (x6 : Int), .int .i64 0] 55))
                        clear t1 t2 t3 t4 t5 t6 t7 y0 y1 y2 y3 y4 y5 y6 bo0 bo1 bo2 bo3 bo4 bo5 bo6 hw0 hw1 hw2 hw3 hw4 hw5 hw6 bk0 bk1 bk2 bk3 bk4 bk5 bk6 bk8 hz1 hz2 hz3 hz4 hz5 bn6 hW6 hW8
                        go_wp2_with fail
                        refine Q7.out.mono ?_
                        rintro _ w9 ⟨rfl, rfl⟩
                        exact ⟨rfl, Y8.out, GotF.err HF.out rfl⟩
                      | ok p =>
                        obtain ⟨x7, k7'⟩ := p
                        have s7 := takeN_ok t7
                        have s6 := takeN_ok t6
                        have Q7 := num_ok bk8 hs t7
                        rw [tkA_alloc _ _ bk6.lt] at Q7
                        have Y7 := Lib.hid (tkA_but y6 MK.out (a + k1' + k2' + k3' + k4' + k5' + k6' + k7'))
                        have BO7 := Lib.hid (Blk.tk bo6 KO.out (a + k1' + k2' + k3' + k4' + k5' + k6' + k7'))
                        have HW7 := Lib.hid (WR.tk hw6 GK.out (a + k1' + k2' + k3' + k4' + k5' + k6' + k7'))
                        have BK7 := Lib.hid (tkA_tk bk6 (a + k1' + k2' + k3' + k4' + k5' + k6' + k7'))
                        have hz7 := (tkA_size W6 gk (a + k1' + k2' + k3' + k4' + k5' + k6' + k7')).trans hz6
                        have HNS := Lib.hid (show numsR s 7 a = .ok ([x1, x2, x3, x4, x5, x6, x7], a + k1' + k2' + k3' + k4' + k5' + k6' + k7') by rw [numsR_ok t1, numsR_ok t2, numsR_ok t3, numsR_ok t4, numsR_ok t5, numsR_ok t6, numsR_ok t7]; rfl)
                        clear t1 t2 t3 t4 t5 t6 t7 y0 y1 y2 y3 y4 y5 y6 bo0 bo1 bo2 bo3 bo4 bo5 bo6 hw0 hw1 hw2 hw3 hw4 hw5 hw6 bk0 bk1 bk2 bk3 bk4 bk5 bk6 bk8 hz0 hz1 hz2 hz3 hz4 hz5 hz6 bn6 hW8
                        have Q7 := Lib.hid Q7
                        go_wp2_with fail
                        refine Q7.out.mono ?_
                        rintro _ w9 ⟨rfl, rfl⟩
                        clear Q7 cn8
                        generalize tkA W6 gk (a + k1' + k2' + k3' + k4' + k5' + k6' + k7') = X at *
                        have hp7 : a + k1' + k2' + k3' + k4' + k5' + k6' + k7' ≤ s.length := s7.1
                        generalize a + k1' + k2' + k3' + k4' + k5' + k6' + k7' = p7 at *
                        generalize wr.heap.size = nb at *
                        subst hz7

                        have kw : 0 ≤ (x6 : Int) ∧ (x6 : Int) ≤ 9223372036854775807 := by omega
                        have gw := HX.out.size
                        by_cases hle : (x7 : Int) ≤ 9223372036854775807 - (x6 : Int)
                        · have hmk : mkM [x1, x2, x3, x4, x5, x6, x7] = ⟨x1, x2, x3, x4, x5, x6, ((x6 : Int) + (x7 : Int))⟩ := by
                            show (⟨(x1 : Int), (x2 : Int), (x3 : Int), (x4 : Int), (x5 : Int), (x6 : Int), if (x7 : Int) ≤ 9223372036854775807 - (x6 : Int) then (x6 : Int) + (x7 : Int) else 9223372036854775807⟩ : M7) = _
                            rw [if_pos hle]
                          have HE := Lib.hid (show blkR s n k0 = prepM (ms ++ [⟨x1, x2, x3, x4, x5, x6, ((x6 : Int) + (x7 : Int))⟩]) (blkR s (n - (k + 1)) p7) by rw [HB.out, blkR_ok HNS.out, prepM_two, hmk]; rfl)
                          have bo10 := BO7.out.alloc (.cells #[.int .i64 (x1 : Int), .int .i64 (x2 : Int), .int .i64 (x3 : Int), .int .i64 (x4 : Int), .int .i64 (x5 : Int), .int .i64 (x6 : Int), .int .i64 ((x6 : Int) + (x7 : Int))] 55)
                          have co := bo10.cell 0
                          simp at co
                          have b4 := Lib.hid (Blk.new X 55 #[.int .i64 (x1 : Int), .int .i64 (x2 : Int), .int .i64 (x3 : Int), .int .i64 (x4 : Int), .int .i64 (x5 : Int), .int .i64 (x6 : Int), .int .i64 ((x6 : Int) + (x7 : Int))])
                          have HL := Lib.hid (show (Try.prog.info? 55).map (·.size) = some 7 from meta_size)
                          obtain ⟨v', W', p1, p2, p3⟩ := WR.appS metaC_length (by omega) metaC_one (WR.ext HW7.out (((Ext.refl X).alloc (.cells #[.int .i64 (x1 : Int), .int .i64 (x2 : Int), .int .i64 (x3 : Int), .int .i64 (x4 : Int), .int .i64 (x5 : Int), .int .i64 (x6 : Int), .int .i64 ((x6 : Int) + (x7 : Int))] 55)).alloc (.cells #[.int .i64 (x1 : Int), .int .i64 (x2 : Int), .int .i64 (x3 : Int), .int .i64 (x4 : Int), .int .i64 (x5 : Int), .int .i64 (x6 : Int), .int .i64 ((x6 : Int) + (x7 : Int))] 55))) (rr_new1 x1 x2 x3 x4 x5 x6 ((x6 : Int) + (x7 : Int)) (X.alloc (.cells #[.int .i64 (x1 : Int), .int .i64 (x2 : Int), .int .i64 (x3 : Int), .int .i64 (x4 : Int), .int .i64 (x5 : Int), .int .i64 (x6 : Int), .int .i64 ((x6 : Int) + (x7 : Int))] 55))) (by rw [World.size_alloc, World.size_alloc]; have := Y7.out.size; omega) (P := Try.prog) (t := 37) Try.underlying37 meta_info rfl (by rw [List.length_singleton]; omega) (by rw [List.length_singleton]; unfold maxLen; omega)
                          rw [World.size_alloc] at p1
                          have hge := WR.ge HW7.out
                          have hne : some go ≠ v.ownBlock := fun e => by have h1 := hge go e.symm; have h2 := LGO.out; omega
                          have hnk : some gk ≠ v.ownBlock := fun e => by have h1 := hge gk e.symm; have h2 := GK.out; omega
                          have bo11 := (bo10.alloc (.cells #[.int .i64 (x1 : Int), .int .i64 (x2 : Int), .int .i64 (x3 : Int), .int .i64 (x4 : Int), .int .i64 (x5 : Int), .int .i64 (x6 : Int), .int .i64 ((x6 : Int) + (x7 : Int))] 55)).grown p3 hne
                          have bk11 := Blk.grown (Blk.alloc (Blk.alloc BK7.out (.cells #[.int .i64 (x1 : Int), .int .i64 (x2 : Int), .int .i64 (x3 : Int), .int .i64 (x4 : Int), .int .i64 (x5 : Int), .int .i64 (x6 : Int), .int .i64 ((x6 : Int) + (x7 : Int))] 55)) (.cells #[.int .i64 (x1 : Int), .int .i64 (x2 : Int), .int .i64 (x3 : Int), .int .i64 (x4 : Int), .int .i64 (x5 : Int), .int .i64 (x6 : Int), .int .i64 ((x6 : Int) + (x7 : Int))] 55)) p3 hnk
                          have y11 := ((Y7.out.alloc (.cells #[.int .i64 (x1 : Int), .int .i64 (x2 : Int), .int .i64 (x3 : Int), .int .i64 (x4 : Int), .int .i64 (x5 : Int), .int .i64 (x6 : Int), .int .i64 ((x6 : Int) + (x7 : Int))] 55)).alloc (.cells #[.int .i64 (x1 : Int), .int .i64 (x2 : Int), .int .i64 (x3 : Int), .int .i64 (x4 : Int), .int .i64 (x5 : Int), .int .i64 (x6 : Int), .int .i64 ((x6 : Int) + (x7 : Int))] 55)).grown p3 hge
                          have cw := bo11.cell 0
                          have fw := bo11.frozen 0
                          simp at cw
                          have BO11 := Lib.hid (bo11.set_ 0 v')
                          have BK11 := Lib.hid (Blk.far bk11 (p := ⟨go, 0, none⟩) ko v')
                          have Y11 := Lib.hid (y11.set (p := ⟨go, 0, none⟩) MO.out v')
                          have P2 := Lib.hid (ownsRow_setCell_below p2 (a := ⟨go, 0, none⟩) LGO.out v')
                          clear bo10 bo11 bk11 y11 p2 p3 hge hne hnk hmk
                          obtain ⟨av, cv, rfl, _, _⟩ := WR.shape metaC_length HW7.out
                          obtain ⟨av2, cv2, rfl, _, _⟩ := WR.shape metaC_length P2.out
                          have hml2 : (ms ++ [(⟨x1, x2, x3, x4, x5, x6, ((x6 : Int) + (x7 : Int))⟩ : M7)]).length = k + 1 := by rw [List.length_append, hml]; rfl
                          have HM1 := Lib.hid hml
                          have HM2 := Lib.hid hml2
                          clear hml hml2
                          generalize (ms ++ [(⟨x1, x2, x3, x4, x5, x6, ((x6 : Int) + (x7 : Int))⟩ : M7)]) = ms2 at *
                          generalize hn2 : ms2.length = n2 at *
                          have HN2 := Lib.hid hn2
                          clear hn2
                          generalize ms.length = n1 at *
                          go_wp2_with (refine wpList_load_blk rfl 55 (.tmp 4) rfl rfl b4.out Try.underlying55 rfl HL.out ?_; refine Held.go ?_)
                          refine ⟨?_⟩
                          go_wp2_with (refine wpList_bs (vs := #[(0, .agg #[.int .i64 (x1 : Int), .int .i64 (x2 : Int), .int .i64 (x3 : Int), .int .i64 (x4 : Int), .int .i64 (x5 : Int), .int .i64 (x6 : Int), .int .i64 ((x6 : Int) + (x7 : Int))])]) rfl 37 1 _ rfl rfl (run_bs1m _ _ _ _ _ _ _ _) ?_; refine Held.go ?_)
                          refine ⟨?_⟩
                          go_wp2_with (at_builtin; refine wpList_app rfl (.tmp 41) (.tmp 43) 37 rfl rfl rfl rfl p1 ?_; refine Held.go ?_)
                          refine ⟨?_⟩
                          go_wp2
                          go_roundw
                          case rel => exact ⟨k + 1, p7, ms2, _, by go_num, by omega, hp7, HN2.out.trans HM2.out, HE.out, BK11.out, BO11.out, (by unfold WR; rw [HN2.out]; exact P2.out), Y11.out⟩
                          case measure => simp [intOf]; omega
                        · have hmk : mkM [x1, x2, x3, x4, x5, x6, x7] = ⟨x1, x2, x3, x4, x5, x6, 9223372036854775807⟩ := by
                            show (⟨(x1 : Int), (x2 : Int), (x3 : Int), (x4 : Int), (x5 : Int), (x6 : Int), if (x7 : Int) ≤ 9223372036854775807 - (x6 : Int) then (x6 : Int) + (x7 : Int) else 9223372036854775807⟩ : M7) = _
                            rw [if_neg hle]
                          have HE := Lib.hid (show blkR s n k0 = prepM (ms ++ [⟨x1, x2, x3, x4, x5, x6, 9223372036854775807⟩]) (blkR s (n - (k + 1)) p7) by rw [HB.out, blkR_ok HNS.out, prepM_two, hmk]; rfl)
                          have bo10 := BO7.out.alloc (.cells #[.int .i64 (x1 : Int), .int .i64 (x2 : Int), .int .i64 (x3 : Int), .int .i64 (x4 : Int), .int .i64 (x5 : Int), .int .i64 (x6 : Int), .int .i64 9223372036854775807] 55)
                          have co := bo10.cell 0
                          simp at co
                          have b4 := Lib.hid (Blk.new X 55 #[.int .i64 (x1 : Int), .int .i64 (x2 : Int), .int .i64 (x3 : Int), .int .i64 (x4 : Int), .int .i64 (x5 : Int), .int .i64 (x6 : Int), .int .i64 9223372036854775807])
                          have HL := Lib.hid (show (Try.prog.info? 55).map (·.size) = some 7 from meta_size)
                          obtain ⟨v', W', p1, p2, p3⟩ := WR.appS metaC_length (by omega) metaC_one (WR.ext HW7.out (((Ext.refl X).alloc (.cells #[.int .i64 (x1 : Int), .int .i64 (x2 : Int), .int .i64 (x3 : Int), .int .i64 (x4 : Int), .int .i64 (x5 : Int), .int .i64 (x6 : Int), .int .i64 9223372036854775807] 55)).alloc (.cells #[.int .i64 (x1 : Int), .int .i64 (x2 : Int), .int .i64 (x3 : Int), .int .i64 (x4 : Int), .int .i64 (x5 : Int), .int .i64 (x6 : Int), .int .i64 9223372036854775807] 55))) (rr_new1 x1 x2 x3 x4 x5 x6 9223372036854775807 (X.alloc (.cells #[.int .i64 (x1 : Int), .int .i64 (x2 : Int), .int .i64 (x3 : Int), .int .i64 (x4 : Int), .int .i64 (x5 : Int), .int .i64 (x6 : Int), .int .i64 9223372036854775807] 55))) (by rw [World.size_alloc, World.size_alloc]; have := Y7.out.size; omega) (P := Try.prog) (t := 37) Try.underlying37 meta_info rfl (by rw [List.length_singleton]; omega) (by rw [List.length_singleton]; unfold maxLen; omega)
                          rw [World.size_alloc] at p1
                          have hge := WR.ge HW7.out
                          have hne : some go ≠ v.ownBlock := fun e => by have h1 := hge go e.symm; have h2 := LGO.out; omega
                          have hnk : some gk ≠ v.ownBlock := fun e => by have h1 := hge gk e.symm; have h2 := GK.out; omega
                          have bo11 := (bo10.alloc (.cells #[.int .i64 (x1 : Int), .int .i64 (x2 : Int), .int .i64 (x3 : Int), .int .i64 (x4 : Int), .int .i64 (x5 : Int), .int .i64 (x6 : Int), .int .i64 9223372036854775807] 55)).grown p3 hne
                          have bk11 := Blk.grown (Blk.alloc (Blk.alloc BK7.out (.cells #[.int .i64 (x1 : Int), .int .i64 (x2 : Int), .int .i64 (x3 : Int), .int .i64 (x4 : Int), .int .i64 (x5 : Int), .int .i64 (x6 : Int), .int .i64 9223372036854775807] 55)) (.cells #[.int .i64 (x1 : Int), .int .i64 (x2 : Int), .int .i64 (x3 : Int), .int .i64 (x4 : Int), .int .i64 (x5 : Int), .int .i64 (x6 : Int), .int .i64 9223372036854775807] 55)) p3 hnk
                          have y11 := ((Y7.out.alloc (.cells #[.int .i64 (x1 : Int), .int .i64 (x2 : Int), .int .i64 (x3 : Int), .int .i64 (x4 : Int), .int .i64 (x5 : Int), .int .i64 (x6 : Int), .int .i64 9223372036854775807] 55)).alloc (.cells #[.int .i64 (x1 : Int), .int .i64 (x2 : Int), .int .i64 (x3 : Int), .int .i64 (x4 : Int), .int .i64 (x5 : Int), .int .i64 (x6 : Int), .int .i64 9223372036854775807] 55)).grown p3 hge
                          have cw := bo11.cell 0
                          have fw := bo11.frozen 0
                          simp at cw
                          have BO11 := Lib.hid (bo11.set_ 0 v')
                          have BK11 := Lib.hid (Blk.far bk11 (p := ⟨go, 0, none⟩) ko v')
                          have Y11 := Lib.hid (y11.set (p := ⟨go, 0, none⟩) MO.out v')
                          have P2 := Lib.hid (ownsRow_setCell_below p2 (a := ⟨go, 0, none⟩) LGO.out v')
                          clear bo10 bo11 bk11 y11 p2 p3 hge hne hnk hmk
                          obtain ⟨av, cv, rfl, _, _⟩ := WR.shape metaC_length HW7.out
                          obtain ⟨av2, cv2, rfl, _, _⟩ := WR.shape metaC_length P2.out
                          have hml2 : (ms ++ [(⟨x1, x2, x3, x4, x5, x6, 9223372036854775807⟩ : M7)]).length = k + 1 := by rw [List.length_append, hml]; rfl
                          have HM1 := Lib.hid hml
                          have HM2 := Lib.hid hml2
                          clear hml hml2
                          generalize (ms ++ [(⟨x1, x2, x3, x4, x5, x6, 9223372036854775807⟩ : M7)]) = ms2 at *
                          generalize hn2 : ms2.length = n2 at *
                          have HN2 := Lib.hid hn2
                          clear hn2
                          generalize ms.length = n1 at *
                          go_wp2_with (refine wpList_load_blk rfl 55 (.tmp 4) rfl rfl b4.out Try.underlying55 rfl HL.out ?_; refine Held.go ?_)
                          refine ⟨?_⟩
                          go_wp2_with (refine wpList_bs (vs := #[(0, .agg #[.int .i64 (x1 : Int), .int .i64 (x2 : Int), .int .i64 (x3 : Int), .int .i64 (x4 : Int), .int .i64 (x5 : Int), .int .i64 (x6 : Int), .int .i64 9223372036854775807])]) rfl 37 1 _ rfl rfl (run_bs1m _ _ _ _ _ _ _ _) ?_; refine Held.go ?_)
                          refine ⟨?_⟩
                          go_wp2_with (at_builtin; refine wpList_app rfl (.tmp 41) (.tmp 43) 37 rfl rfl rfl rfl p1 ?_; refine Held.go ?_)
                          refine ⟨?_⟩
                          go_wp2
                          go_roundw
                          case rel => exact ⟨k + 1, p7, ms2, _, by go_num, by omega, hp7, HN2.out.trans HM2.out, HE.out, BK11.out, BO11.out, (by unfold WR; rw [HN2.out]; exact P2.out), Y11.out⟩
                          case measure => simp [intOf]; omega

        · have e : k = n := by omega
          subst e
          have hI : ¬ (k : Int) < (k : Int) := by omega
          have HBn := Lib.hid (show blkR s k k0 = .ok (ms, a) by
            rw [hb, Nat.sub_self]
            show Except.ok (ms ++ [], a) = _
            rw [List.append_nil])
          have BO := Lib.hid bo
          have HW := Lib.hid hw
          have HX := Lib.hid hx
          have ct := (BT.out.but hx HT.out).cell 0
          simp at ct
          by_cases hend : a = s.length
          · have QE := Lib.hid (tend_ok gk s a wr bk0 hend hs)
            have HF := Lib.hid (FO.out _ _ HBn.out hend)
            clear hb bo hw hx bk0 hend hml
            go_wp2_with fail
            refine QE.out.mono ?_
            rintro _ w5 ⟨rfl, rfl⟩
            go_wp2
            exact bodyPost_end (v := .tuple #[]) (by simp [results, Try.results35, go_sem]) rfl ⟨HX.out.drew, GotF.ok HF.out rfl BO.out.drew HW.out.drew⟩
          · have QE := Lib.hid (tend_err gk s a wr bk0 (by omega) hs)
            have HF := Lib.hid (FR.out _ _ HBn.out hend)
            clear hb bo hw hx bk0 hend hml
            go_wp2_with fail
            refine QE.out.mono ?_
            rintro _ w5 ⟨rfl, rfl⟩
            exact ⟨rfl, HX.out.drew, GotF.err HF.out rfl⟩
    · have kb : (1000 : Int) < (n : Int) := by omega
      have HF := Lib.hid (ftR_big t0 hbig)
      clear hbig t0
      go_enter Try.func35, Try.ntmps35
      go_wp2_with fail
      refine Q0.out.mono ?_
      rintro _ w1 ⟨rfl, rfl⟩
      go_wp2
      exact ⟨rfl, tkA_but (But.refl _ _) MK.out _, GotF.err HF.out rfl⟩
end Go.Proofs.Ytbhfapjjodhndaa
namespace Go.Proofs.Ytbhfapjjodhndaa
set_option linter.unusedVariables false
set_option linter.unusedSimpArgs false
open Go.RowKit

def ftE : Except Int (List M7) → Int
  | .ok _ => 0
  | .error e => e
def ftV : Except Int (List M7) → List M7
  | .ok l => l
  | .error _ => []
theorem callF_getf1 (xs : Array Value) (W : World) : (callFunc 35 xs).run Try.prog W = .ok (.enter 35 xs) W := by kernel_rfl

/-- GetFoot's closure, caught -/
theorem getf_caught (s : List UInt8) (gn go gt gk : Nat) (W : World) (hs : (s.length : Int) ≤ 1000000000)
    (bn : Blk W gn 63 #[numV gk]) (bo : Blk W go 37 #[.slice none 0 0]) (bt : Blk W gt 61 #[.pointer (some ⟨gk, 0, none⟩)]) (bk : TK W gk s 0)
    (nk : gn ≠ gk) (no : gn ≠ go) (ko : gk ≠ go) (tk : gt ≠ gk) (to : gt ≠ go) :
    Calls Try.prog 30 #[.func (.func 35) #[] #[.pointer (some ⟨gn, 0, none⟩), .pointer (some ⟨go, 0, none⟩), .pointer (some ⟨gt, 0, none⟩)]] W fun e w' =>
      (∃ a : Int, e = .returned (.tuple #[.int .i64 (ftE (ftR s)), .int .i64 a])) ∧ But [gk, go] W w' ∧ ∀ ms, ftR s = .ok ms → ∃ v, Blk w' go 37 #[v] ∧ RR metaC 7 w' v ms := by
  have lk := bk.lt
  have lh := bo.lt
  have q := getf1_any s gn go gt gk ((W.alloc (.cells #[.int .i64 0] 25)).alloc (.cells #[.int .i64 0] 3)) hs ((bn.alloc _).alloc _) ((bo.alloc _).alloc _) ((bt.alloc _).alloc _) (Blk.alloc (Blk.alloc bk _) _) nk no ko tk to
  have e1 : Blk ((W.alloc (.cells #[.int .i64 0] 25)).alloc (.cells #[.int .i64 0] 3)) W.heap.size 25 #[.int .i64 0] := (Blk.new W _ _).alloc _
  have e2 := Blk.new (W.alloc (.cells #[.int .i64 0] 25)) 3 #[.int .i64 0]
  rw [World.size_alloc] at e2
  have x7 : Ext W ((W.alloc (.cells #[.int .i64 0] 25)).alloc (.cells #[.int .i64 0] 3)) := ((Ext.refl W).alloc _).alloc _
  have n1 : W.heap.size ∉ [gk, go] := by simp; omega
  have n2 : W.heap.size + 1 ∉ [gk, go] := by simp; omega
  cases hn : ftR s with
  | error e =>
    refine (caught_err _ _ W (But [gk, go] W) e callF_getf1 (q.mono fun r w' ⟨hb, hg⟩ => ?_)).mono fun r w' ⟨ha, w2, hb, hl⟩ => ?_
    · unfold GotF at hg
      rw [hn] at hg
      obtain ⟨a, rfl⟩ := hg
      exact ⟨⟨a, rfl⟩, (But.of_ext x7).trans hb, e1.but hb n1, e2.but hb n2⟩
    · exact ⟨ha, hb.below hl, fun h hh => by cases hh⟩
  | ok ms =>
    refine (caught_ok _ _ W (fun w' => But [gk, go] W w' ∧ ∃ v, Blk w' go 37 #[v] ∧ WR metaC 7 w' (W.heap.size + 1 + 1) 55 v ms) callF_getf1 (q.mono fun r w' ⟨hb, hg⟩ => ?_)).mono fun r w' ⟨he, w2, ⟨hb, v, hd, hw⟩, hl, hw'⟩ => ?_
    · unfold GotF at hg
      rw [hn] at hg
      obtain ⟨hr, v, hb2, hw2⟩ := hg
      rw [World.size_alloc, World.size_alloc] at hw2
      exact ⟨hr, ⟨(But.of_ext x7).trans hb, v, hb2, hw2⟩, e1.but hb n1, e2.but hb n2⟩
    · refine ⟨⟨_, he⟩, hb.below hl, fun h hh => ?_⟩
      injection hh with hh
      subst hh
      refine ⟨v, hd.beneath hl lh, ?_⟩
      rw [hw']
      have w3 : WR metaC 7 ((w2.setCell ⟨W.heap.size, 0, none⟩ (.int .i64 0)).setCell ⟨W.heap.size + 1, 0, none⟩ (.int .i64 0)) (W.heap.size + 1 + 1) 55 v ms :=
        ownsRow_setCell_below (a := ⟨W.heap.size + 1, 0, none⟩) (ownsRow_setCell_below (a := ⟨W.heap.size, 0, none⟩) hw (show W.heap.size < W.heap.size + 1 + 1 by omega) _) (show W.heap.size + 1 < W.heap.size + 1 + 1 by omega) _
      exact WR.rr metaC_length w3
end Go.Proofs.Ytbhfapjjodhndaa
namespace Go.Proofs.Ytbhfapjjodhndaa
set_option linter.unusedVariables false
set_option linter.unusedSimpArgs false
open Go.RowKit
theorem numsR_pos {s : List UInt8} {n a : Nat} {e : Int} (h : numsR s n a = .error e) : 0 < e ∧ e < 7 := by have := numsR_e h; omega
theorem blkR_e {s : List UInt8} : ∀ {n a : Nat} {e : Int}, blkR s n a = .error e → 0 < e ∧ e < 7
  | 0, a, e, h => by cases h
  | n + 1, a, e, h => by
    cases ht : numsR s 7 a with
    | error e' => rw [blkR_err ht] at h; injection h with h; subst h; exact numsR_pos ht
    | ok p =>
      obtain ⟨x, k⟩ := p
      rw [blkR_ok ht] at h
      cases hr : blkR s n k with
      | error e' => rw [hr] at h; injection h with h; subst h; exact blkR_e hr
      | ok q => rw [hr] at h; cases h
theorem ftR_e {s : List UInt8} {e : Int} (h : ftR s = .error e) : 0 < e ∧ e < 7 := by
  cases ht : takeN s 0 with
  | error e' => unfold ftR at h; rw [ht] at h; injection h with h; subst h; have := takeN_err ht; omega
  | ok p =>
    obtain ⟨n, a⟩ := p
    by_cases hn : (n : Int) ≤ 1000
    · cases hb : blkR s n a with
      | error e' => rw [ftR_err ht hn hb] at h; injection h with h; subst h; exact blkR_e hb
      | ok q =>
        obtain ⟨l, b⟩ := q
        by_cases hl : b = s.length
        · rw [ftR_ok ht hn hb hl] at h; cases h
        · rw [ftR_rest ht hn hb hl] at h; injection h with h; omega
    · rw [ftR_big ht hn] at h; injection h with h; omega
attribute [local go_sem] S_size S_toList

set_option maxRecDepth 20000 in
set_option maxHeartbeats 4000000 in
theorem hGetFoot_any (s : List UInt8) (w : World) (hs : (s.length : Int) ≤ 1000000000) :
    Calls Try.prog 16 #[.string (S s)] w fun r w' => ∃ u, r = .returned (.tuple #[u, .int .i64 (ftE (getFt s))]) ∧ Ext w w' ∧ RR metaC 7 w' u (ftV (getFt s)) := by
  have hmf : ∀ (fn : Fn) (first cap : Array Value) (w : World), (Instr.makeFunc fn first cap).run Try.prog w = .ok (.func fn first cap) w := fun _ _ _ _ => rfl
  have st := fun (w : World) (a : Addr) (f : Fn) (x y : Array Value) => run_store Try.prog w a (.func f x y) .plain rfl
  have TN := Lib.hid (fun w => tnew_any s w)
  go_enter Try.func16, Try.ntmps16
  go_wp2_with fail
  refine (TN.out _).mono ?_
  rintro _ w1 ⟨rfl, bk, x1⟩
  have BK := Lib.hid bk
  have X1 := Lib.hid x1
  have lk := Lib.hid bk.lt
  clear bk x1
  go_wp2_with fail
  have y3 : Ext w1 (((w1.alloc (.cells #[.pointer (some ⟨w.heap.size, 0, none⟩)] 61)).alloc (.cells #[numV w.heap.size] 63)).alloc (.cells #[.slice none 0 0] 37)) := (((Ext.refl w1).alloc _).alloc _).alloc _
  have bt : Blk (((w1.alloc (.cells #[.pointer (some ⟨w.heap.size, 0, none⟩)] 61)).alloc (.cells #[numV w.heap.size] 63)).alloc (.cells #[.slice none 0 0] 37)) w1.heap.size 61 #[.pointer (some ⟨w.heap.size, 0, none⟩)] := ((Blk.new w1 _ _).alloc _).alloc _
  have bn : Blk (((w1.alloc (.cells #[.pointer (some ⟨w.heap.size, 0, none⟩)] 61)).alloc (.cells #[numV w.heap.size] 63)).alloc (.cells #[.slice none 0 0] 37)) (w1.heap.size + 1) 63 #[numV w.heap.size] := by
    have := (Blk.new (w1.alloc (.cells #[.pointer (some ⟨w.heap.size, 0, none⟩)] 61)) 63 #[numV w.heap.size]).alloc (.cells #[.slice none 0 0] 37)
    rw [World.size_alloc] at this
    exact this
  have bh : Blk (((w1.alloc (.cells #[.pointer (some ⟨w.heap.size, 0, none⟩)] 61)).alloc (.cells #[numV w.heap.size] 63)).alloc (.cells #[.slice none 0 0] 37)) (w1.heap.size + 1 + 1) 37 #[.slice none 0 0] := by
    have := Blk.new ((w1.alloc (.cells #[.pointer (some ⟨w.heap.size, 0, none⟩)] 61)).alloc (.cells #[numV w.heap.size] 63)) 37 #[.slice none 0 0]
    rw [World.size_alloc, World.size_alloc] at this
    exact this
  unfold numV at *
  generalize (((w1.alloc (.cells #[.pointer (some ⟨w.heap.size, 0, none⟩)] 61)).alloc (.cells #[.func (.func 29) #[.pointer (some ⟨w.heap.size, 0, none⟩)] #[]] 63)).alloc (.cells #[.slice none 0 0] 37)) = W at *
  have lk' := lk.out
  have lw := X1.out.size
  refine (getf_caught s (w1.heap.size + 1) (w1.heap.size + 1 + 1) w1.heap.size w.heap.size W hs bn bh bt (BK.out.ext y3) (by omega) (by omega) (by omega) (by omega) (by omega)).mono ?_
  rintro _ w3 ⟨⟨at_, rfl⟩, hb, hh⟩
  have X3 := Lib.hid (Ext.but (X1.out.trans y3) hb (by simp; omega))
  clear y3 bt bn bh hb BK lk
  cases hc : ftR s with
  | error e =>
    have he := ftR_e hc
    have hne : (e != 0) = true := bne_iff_ne.2 (by omega)
    have HG := Lib.hid (show getFt s = .error e by unfold getFt; rw [hc])
    clear hc hh he
    simp only [ftE]
    go_wp2
    exact bodyPost_ret (results_tmp2 rfl _ _ _) rfl ⟨_, by rw [HG.out]; rfl, X3.out, by rw [HG.out]; exact RR.nil _⟩
  | ok ms =>
    obtain ⟨v, bv, rv⟩ := hh ms hc
    have Q := Lib.hid (hBlocks_any ms v w3 rv)
    have RV := Lib.hid rv
    have BV := Lib.hid bv
    have cv := bv.cell 0
    simp at cv
    obtain ⟨av, cc, rfl, _, _, _⟩ := rv
    clear hh bv
    cases hp : blocksP ms with
    | false =>
      have HG := Lib.hid (show getFt s = .error 211 by unfold getFt; rw [hc]; show (if blocksP ms then _ else _) = _; rw [hp]; rfl)
      rw [hp] at Q
      simp only [ftE, footI] at *
      clear hc hp
      go_wp2_with fail
      refine Q.out.mono ?_
      rintro _ w4 ⟨rfl, x4⟩
      have X4 := Lib.hid (X3.out.trans x4)
      clear x4
      go_wp2
      exact bodyPost_ret (results_tmp2 rfl _ _ _) rfl ⟨_, by rw [HG.out]; rfl, X4.out, by rw [HG.out]; exact RR.nil _⟩
    | true =>
      have HG := Lib.hid (show getFt s = .ok ms by unfold getFt; rw [hc]; show (if blocksP ms then _ else _) = _; rw [hp]; rfl)
      rw [hp] at Q
      simp only [ftE, footI] at *
      clear hc hp
      go_wp2_with fail
      refine Q.out.mono ?_
      rintro _ w4 ⟨rfl, x4⟩
      have X4 := Lib.hid (X3.out.trans x4)
      have R4 := Lib.hid (RR.ext RV.out x4)
      have c4 := (BV.out.ext x4).cell 0
      simp at c4
      clear x4
      go_wp2
      exact bodyPost_ret (results_tmp2 rfl _ _ _) rfl ⟨_, by rw [HG.out]; rfl, X4.out, by rw [HG.out]; exact R4.out⟩
end Go.Proofs.Ytbhfapjjodhndaa
namespace Go.Proofs.Ytbhfapjjodhndaa
set_option linter.unusedVariables false
set_option linter.unusedSimpArgs false
open Go.RowKit

/-- is there a last block of a row? -/
def lastK (l : List M7) : Bool := decide (0 < l.length) && blocksP l
def lastM (l : List M7) : M7 := if lastK l then l.getD (l.length - 1) default else ⟨0, 0, 0, 0, 0, 0, 0⟩
theorem meta_build0 (w : World) : (Instr.build 55 #[]).run Try.prog w = .ok (.agg #[.int .i64 0, .int .i64 0, .int .i64 0, .int .i64 0, .int .i64 0, .int .i64 0, .int .i64 0]) w := by kernel_rfl
attribute [local go_sem] S_size S_toList meta_zero meta_build0

set_option maxRecDepth 20000 in
set_option maxHeartbeats 4000000 in
theorem hlast_any (l : List M7) (v : Value) (w : World) (hr : RR metaC 7 w v l) :
    Calls Try.prog 36 #[v] w fun e w' => e = .returned (.tuple #[.agg (metaC (lastM l)).toArray, .bool (lastK l)]) ∧ Ext w w' := by
  have QB := Lib.hid (fun w h => hBlocks_any l v w h)
  have HR := Lib.hid hr
  obtain ⟨a, c, rfl, hlc, hcn, hs⟩ := hr
  have HS := Lib.hid hs
  have HL := Lib.hid (show (Try.prog.info? 55).map (·.size) = some 7 from meta_size)
  have b2 := Lib.hid (Blk.new w 55 #[.int .i64 0, .int .i64 0, .int .i64 0, .int .i64 0, .int .i64 0, .int .i64 0, .int .i64 0])
  have X0 := Lib.hid ((Ext.refl w).alloc (.cells #[.int .i64 0, .int .i64 0, .int .i64 0, .int .i64 0, .int .i64 0, .int .i64 0, .int .i64 0] 55))
  clear hs hcn
  by_cases h0 : 0 < l.length
  · have k0 : ((l.length : Int) == 0) = false := beq_eq_false_iff_ne.2 (by omega)
    cases hp : blocksP l with
    | false =>
      have HK := Lib.hid (show lastK l = false by unfold lastK; rw [hp, Bool.and_false])
      have HM := Lib.hid (show lastM l = ⟨0, 0, 0, 0, 0, 0, 0⟩ by unfold lastM; rw [HK.out]; rfl)
      rw [hp] at QB
      simp only [footI, Bool.false_eq_true, if_false] at QB
      clear hp
      go_enter Try.func36, Try.ntmps36
      go_wp2_with fail
      refine (QB.out _ (RR.ext HR.out X0.out)).mono ?_
      rintro _ w1 ⟨rfl, x1⟩
      have B2 := Lib.hid (b2.out.ext x1)
      have X1 := Lib.hid (X0.out.trans x1)
      clear x1
      go_wp2_with (refine wpList_store_blk rfl 55 (.tmp 2) (.tmp 12) rfl rfl rfl B2.out rfl HL.out (by kernel_rfl) ?_)
      exact bodyPost_ret (results_row_tmp rfl _ _ w.heap.size _ _ (0, 0) _ rfl (B2.out.setRow #[.int .i64 0, .int .i64 0, .int .i64 0, .int .i64 0, .int .i64 0, .int .i64 0, .int .i64 0]) Try.underlying55 rfl HL.out) rfl ⟨by rw [HK.out, HM.out]; rfl, X1.out.setRow (Nat.le_refl _) _⟩
    | true =>
      have HK := Lib.hid (show lastK l = true by unfold lastK; rw [hp, decide_eq_true h0]; rfl)
      have HM := Lib.hid (show lastM l = l.getD (l.length - 1) default by unfold lastM; rw [HK.out]; rfl)
      rw [hp] at QB
      simp only [footI, if_true] at QB
      have hbig := (blocks_ok hp).1
      obtain ⟨g, o, rfl, hcells⟩ := HS.out h0
      obtain ⟨n, hn⟩ : ∃ n : Nat, l.length = n + 1 := ⟨l.length - 1, by omega⟩
      rw [show l.length - 1 = n by omega] at HM
      have R0 := Lib.hid (hcells n _ (getD_at (by omega)))
      have QB := Lib.hid (QB.out _ (RR.ext HR.out X0.out))
      clear hp hcells HS HR
      generalize l.getD n default = m at *
      obtain ⟨ma, ms, mr, mc, mf, me, ml⟩ := m
      rw [hn] at QB hbig hlc k0
      rw [hn]
      clear hn h0
      have kn : (n : Int) < (n : Int) + 1 := by omega
      go_enter Try.func36, Try.ntmps36
      go_wp2_with fail
      refine QB.out.mono ?_
      rintro _ w1 ⟨rfl, x1⟩
      have B2 := Lib.hid (b2.out.ext x1)
      have X1 := Lib.hid (X0.out.trans x1)
      have R1 := Lib.hid (rangeAt_ext R0.out (X0.out.trans x1))
      clear x1
      go_wp2_with (refine wpList_load_mid rfl 55 (.tmp 17) rfl g _ rfl [.int .i64 ma, .int .i64 ms, .int .i64 mr, .int .i64 mc, .int .i64 mf, .int .i64 me, .int .i64 ml] _ R1.out Try.underlying55 rfl HL.out ?_; refine Held.go ?_)
      refine ⟨?_⟩
      go_wp2_with (refine wpList_store_blk rfl 55 (.tmp 2) (.tmp 18) rfl rfl rfl B2.out rfl HL.out (by kernel_rfl) ?_)
      exact bodyPost_ret (results_row_tmp rfl _ _ w.heap.size _ _ (0, 0) _ rfl (B2.out.setRow #[.int .i64 ma, .int .i64 ms, .int .i64 mr, .int .i64 mc, .int .i64 mf, .int .i64 me, .int .i64 ml]) Try.underlying55 rfl HL.out) rfl ⟨by rw [HK.out, HM.out]; rfl, X1.out.setRow (Nat.le_refl _) _⟩
  · have k0 : ((l.length : Int) == 0) = true := beq_iff_eq.2 (by omega)
    have HK := Lib.hid (show lastK l = false by unfold lastK; rw [decide_eq_false h0]; rfl)
    have HM := Lib.hid (show lastM l = ⟨0, 0, 0, 0, 0, 0, 0⟩ by unfold lastM; rw [HK.out]; rfl)
    have hl0 : l.length = 0 := by omega
    rw [hl0] at *
    go_enter Try.func36, Try.ntmps36
    go_wp2_with (refine wpList_store_blk rfl 55 (.tmp 2) (.tmp 12) rfl rfl rfl b2.out rfl HL.out (by kernel_rfl) ?_)
    exact bodyPost_ret (results_row_tmp rfl _ _ w.heap.size _ _ (0, 0) _ rfl (b2.out.setRow #[.int .i64 0, .int .i64 0, .int .i64 0, .int .i64 0, .int .i64 0, .int .i64 0, .int .i64 0]) Try.underlying55 rfl HL.out) rfl ⟨by rw [HK.out, HM.out]; rfl, X0.out.setRow (Nat.le_refl _) _⟩
end Go.Proofs.Ytbhfapjjodhndaa
