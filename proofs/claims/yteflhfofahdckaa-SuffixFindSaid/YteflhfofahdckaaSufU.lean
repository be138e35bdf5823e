/- suffix: the second closure of Find; what Find tells. -/
import Derived.Test.YteflhfofahdckaaSufQ
namespace Go.Proofs.Yteflhfofahdckaa
set_option linter.unusedVariables false
set_option linter.unusedSimpArgs false
open Go.RowKit
attribute [local go_sem] S_size S_toList S_extract S_beq S_bne S_empty S_nil

set_option maxRecDepth 20000 in
set_option maxHeartbeats 4000000 in
theorem preAt_any (s what : List UInt8) (ar : List Int) (i lo g1 g2 g3 g4 : Nat) (v : Value) (w : World) (h1 : Blk w g1 9 #[.string (S s)]) (h2 : Blk w g2 33 #[v]) (h3 : Blk w g3 9 #[.string (S what)]) (h4 : Blk w g4 3 #[.int .i64 (lo : Int)]) (hr : RI w v ar)
    (hi : lo + i < ar.length) (h0 : 0 ≤ ar.getD (lo + i) 0 ∧ ar.getD (lo + i) 0 ≤ (s.length : Int)) (hs : (s.length : Int) ≤ 1000000) (hw : (what.length : Int) ≤ 1000000) (hal : (ar.length : Int) ≤ 1000000) :
    Calls Try.prog 47 #[.int .i64 (i : Int), .pointer (some ⟨g1, 0, none⟩), .pointer (some ⟨g2, 0, none⟩), .pointer (some ⟨g4, 0, none⟩), .pointer (some ⟨g3, 0, none⟩)] w fun e w' => e = .returned (.bool (!preAt s ar what (lo + i))) ∧ Ext w w' := by
  obtain ⟨a, c, rfl, hlc, _, hcell⟩ := hr.shape
  obtain ⟨g, o, rfl, hc⟩ := hcell (by omega)
  have hci := hc (lo + i) hi
  obtain ⟨p, hp⟩ : ∃ p : Nat, ar.getD (lo + i) 0 = (p : Int) := ⟨(ar.getD (lo + i) 0).toNat, by omega⟩
  have hG := Lib.hid (show preAt s ar what (lo + i) = preB what (s.drop p) from by unfold preAt endAt placeN; rw [hp, Int.toNat_natCast])
  rw [hp] at hci h0
  have c1 := up_cell (W := w.drew) (h1.cell 0)
  have c2 := up_cell (W := w.drew) (h2.cell 0)
  have c3 := up_cell (W := w.drew) (h3.cell 0)
  have c4 := up_cell (W := w.drew) (h4.cell 0)
  have c5 := up_cell (W := w.drew) (show w.drew.cell? _ = _ from hci)
  generalize hq : lo + i = q at *
  have e1 : IntKind.i64.wrap ((lo : Int) + (i : Int)) = (q : Int) := by rw [IntWalk.i64_in _ (by omega)]; omega
  have k1 : (q : Int) < (ar.length : Int) := by omega
  have k2 : (p : Int) ≤ (s.length : Int) := h0.2
  have k3 : (ar.length : Int) ≤ (c : Int) := by omega
  have QP := Lib.hid (fun (x : Up w) => strPrefix_any (s.drop p) what x.val (by rw [List.length_drop]; omega) (by omega))
  have HQ := Lib.hid hq
  have c1 := up_cell (W := w) (h1.cell 0)
  have c2 := up_cell (W := w) (h2.cell 0)
  have c3 := up_cell (W := w) (h3.cell 0)
  have c4 := up_cell (W := w) (h4.cell 0)
  have c5 := up_cell (W := w) hci
  clear hcell hc hci hr h1 h2 h3 h4 hp h0 hq hi
  generalize preB what (s.drop p) = b at *
  go_enter Try.func47, Try.ntmps47
  go_wp2_with fail
  refine wp_region_up (by kernel_rfl) (by kernel_rfl) ?_
  repeat (go_big_quiet_step (first | (go_at_call 48; (with_reducible exact up_same (QP.out _)))))
  refine wpQuiet_nil ?_
  rintro _ ⟨y2, rfl⟩
  have HXW := Lib.hid y2.ext
  generalize y2.val = w3 at *
  go_wp2
  go_ret
  exact ⟨by rw [hG.out]; rfl, HXW.out⟩

theorem FirstOf.unique {P : Nat → Bool} {n r r' : Nat} (h : FirstOf P n r) (h' : FirstOf P n r') : r = r' := by
  rcases Nat.lt_trichotomy r r' with hl | hl | hl
  · have h1 := h'.2.1 r hl
    have := h'.1
    rw [h.2.2 r (Nat.le_refl _) (by omega)] at h1; cases h1
  · exact hl
  · have h1 := h.2.1 r' hl
    have := h.1
    rw [h'.2.2 r' (Nat.le_refl _) (by omega)] at h1; cases h1
theorem first_exists {P : Nat → Bool} : ∀ n, (∀ i j, i ≤ j → j < n → P i = true → P j = true) → ∃ r, FirstOf P n r
  | 0, _ => ⟨0, Nat.le_refl _, fun i h => by omega, fun i h1 h2 => by omega⟩
  | n + 1, h => by
    obtain ⟨r, h1, h2, h3⟩ := first_exists n (fun i j hij hj => h i j hij (by omega))
    by_cases hr : r < n
    · refine ⟨r, by omega, h2, fun i hi hn => ?_⟩
      exact h r i hi hn (h3 r (Nat.le_refl _) hr)
    · have : r = n := by omega
      subst this
      by_cases hp : P r = true
      · refine ⟨r, by omega, h2, fun i hi hn => ?_⟩
        have : i = r := by omega
        subst this; exact hp
      · refine ⟨r + 1, by omega, fun i hi => ?_, fun i hi hn => by omega⟩
        rcases Nat.lt_or_ge i r with hl | hl
        · exact h2 i hl
        · have : i = r := by omega
          subst this; exact Bool.eq_false_iff.2 hp
theorem search_at {P : Nat → Bool} {n r : Nat} {fv : Value} {w : World} (hf : FirstOf P n r) (hp : PredAt fv P n w) (hn : (n : Int) ≤ 100000) :
    Calls Try.prog 45 #[.int .i64 (n : Int), fv] w fun e w' => e = .returned (.int .i64 (r : Int)) ∧ Ext w w' := by
  refine (search_any P n fv w hp hn (fun i j hij hj h => ?_)).mono ?_
  · refine hf.2.2 j ?_ hj
    refine Nat.le_trans (Nat.not_lt.1 fun hl => ?_) hij
    rw [hf.2.1 i hl] at h; cases h
  · rintro e w' ⟨r', rfl, h1, h2⟩
    rw [hf.unique h1]; exact ⟨rfl, h2⟩

/-- is this the text's array? -/
def okF (s : List UInt8) (ar : List Int) : Bool := decide (ar = toI (arrayL s))
def fndE (s : List UInt8) (ar : List Int) : Int := if okF s ar = true then 0 else 2
def fndR (s : List UInt8) (ar : List Int) (what : List UInt8) : Int × Int := if okF s ar = true then fndL s ar what else (0, 0)
theorem fnd_false {s what : List UInt8} {ar : List Int} (h : okF s ar = false) : fndE s ar = 2 ∧ fndR s ar what = (0, 0) := by
  unfold fndE fndR; rw [h]; exact ⟨rfl, rfl⟩
theorem fnd_true {s what : List UInt8} {ar : List Int} (h : okF s ar = true) : fndE s ar = 0 ∧ fndR s ar what = fndL s ar what := by
  unfold fndE fndR; rw [h]; exact ⟨rfl, rfl⟩
theorem okF_okC {s : List UInt8} {ar : List Int} (h : okF s ar = true) : okC s ar = true := by
  have e := of_decide_eq_true h
  subst e
  have ha := arrayL_is s
  have hl : (toI (arrayL s)).length = s.length + 1 := by rw [toI_length, ha.length]
  unfold okC okP
  rw [Bool.and_eq_true, decide_eq_true_iff, decide_eq_true_iff]
  refine ⟨⟨fun x hx => ?_, ?_⟩, hl⟩
  · obtain ⟨p, hp, rfl⟩ := List.mem_map.1 hx
    have := ha.mem.1 hp
    rw [hl]; omega
  · unfold toI
    refine List.pairwise_map.2 ?_
    refine ha.2.imp fun {p q} h e => ?_
    rw [Int.ofNat_inj.1 e, lessE_irrefl] at h; cases h
theorem okC_false {s : List UInt8} {ar : List Int} (h : okC s ar = false) : okF s ar = false := by
  cases hf : okF s ar with
  | false => rfl
  | true => rw [okF_okC hf] at h; cases h
theorem perm_nodup : ∀ a b : List Nat, a.Nodup → b.Nodup → (∀ x, x ∈ a ↔ x ∈ b) → a.Perm b
  | [], b, _, _, h => by
    cases b with
    | nil => exact List.Perm.refl _
    | cons y b => have := (h y).2 (by simp); cases this
  | x :: a, b, h1, h2, h => by
    have hx : x ∈ b := (h x).1 (by simp)
    have h1' := List.nodup_cons.1 h1
    refine List.Perm.trans (List.Perm.cons x (perm_nodup a (b.erase x) h1'.2 (h2.erase _) fun y => ?_)) (List.perm_cons_erase hx).symm
    rw [List.Nodup.mem_erase_iff h2, ← h y, List.mem_cons]
    constructor
    · intro hy
      exact ⟨fun e => h1'.1 (e ▸ hy), .inr hy⟩
    · rintro ⟨h3, h4 | h4⟩
      · exact absurd h4 h3
      · exact h4
/-- places that are each there once, in the order of their ends, are the array -/
theorem okF_of {s : List UInt8} {ar : List Int} (hc : okC s ar = true) (h : ∀ i, i + 1 < ar.length → Op.bytesLess (endAt s ar i) (endAt s ar (i + 1)) = true) : okF s ar = true := by
  unfold okC at hc
  rw [Bool.and_eq_true, decide_eq_true_iff] at hc
  obtain ⟨hp, hl⟩ := hc
  have hnn : ∀ x ∈ ar, 0 ≤ x ∧ x < (ar.length : Int) := (of_decide_eq_true hp).1
  have hnd := (of_decide_eq_true hp).2
  have e0 : toI (ar.map Int.toNat) = ar := by
    unfold toI
    rw [List.map_map]
    conv => rhs; rw [← List.map_id ar]
    exact List.map_congr_left fun x hx => by
      have := hnn x hx
      show ((x.toNat : Nat) : Int) = x
      omega
  have hless : ∀ d i, i + d + 1 < ar.length → Op.bytesLess (endAt s ar i) (endAt s ar (i + d + 1)) = true := by
    intro d
    induction d with
    | zero => exact fun i hi => h i hi
    | succ d ih => exact fun i hi => bl_trans _ _ _ (ih i (by omega)) (h (i + d + 1) (by omega))
  have hg : ∀ i, i < ar.length → (ar.map Int.toNat).getD i 0 = placeN ar i := fun i hi => by
    unfold placeN
    rw [List.getD_eq_getElem?_getD, List.getElem?_map, List.getD_eq_getElem?_getD, List.getElem?_eq_getElem hi]; rfl
  have hpm : IsArr s (s.length + 1) (ar.map Int.toNat) := by
    refine ⟨?_, ?_⟩
    · refine perm_nodup _ _ ?_ List.nodup_range fun p => ?_
      · refine List.pairwise_map.2 (hnd.imp_of_mem fun {x y} hx hy hxy e => ?_)
        have := hnn x hx
        have := hnn y hy
        exact hxy (by omega)
      · rw [List.mem_map, List.mem_range]
        constructor
        · rintro ⟨x, hx, rfl⟩
          have := hnn x hx
          omega
        · intro h5
          exact ⟨(p : Int), okP_full hp (by omega), Int.toNat_natCast p⟩
    · rw [List.pairwise_iff_getElem]
      intro i j hi hj hij
      have h1 := hless (j - i - 1) i (by rw [List.length_map] at hj; omega)
      rw [show i + (j - i - 1) + 1 = j by omega] at h1
      unfold endAt at h1
      rw [List.length_map] at hi hj
      rw [← hg i hi, ← hg j hj, getD_lt (by rw [List.length_map]; exact hi), getD_lt (by rw [List.length_map]; exact hj)] at h1
      exact h1
  unfold okF
  rw [decide_eq_true_iff, ← arrayL_eq hpm, e0]
end Go.Proofs.Yteflhfofahdckaa
