/- Several texts in one. merged: TnB TnC TnD -/
import Derived.Test.YtmjkfgpkohfmiaaGreatMgAd
namespace Go.Proofs.YtmjkfgpkohfmiaaGreat
set_option linter.unusedVariables false
set_option linter.unusedSimpArgs false
open Go.RowKit

attribute [local go_sem] S_size S_toList S_append S_extract S_beq S_bne S_empty S_nil

theorem in_take {l : List (List UInt8)} {s x : List UInt8} {k : Nat} (hk : l[k]? = some x) (h : s ∉ l.take k) (hx : ¬ s = x) : s ∉ l.take (k + 1) := by
  rw [List.take_add_one, hk]
  simp only [Option.toList_some, List.mem_append, List.mem_singleton, not_or]
  exact ⟨h, hx⟩
set_option maxRecDepth 20000 in
set_option maxHeartbeats 1000000 in
theorem indexN_any (l : List (List UInt8)) (s : List UInt8) (v : Value) (w : World) (h : RR sC 1 w v l) (hl : (l.length : Int) ≤ 1000000000) :
    Calls Tryz.prog 89 #[v, .string (S s)] w fun e w' => (∃ n : Int, e = .returned (.int .i64 n) ∧ (n ≥ 0 ↔ s ∈ l)) ∧ w = w' := by
  obtain ⟨a1, c1, rfl, s1⟩ := h.one
  clear h
  have S1 := Lib.hid s1
  clear s1
  obtain ⟨n, hn⟩ : ∃ n, n = l.length := ⟨_, rfl⟩
  rw [← hn] at hl S1 ⊢
  have NO := Lib.hid (show s ∉ l.take n → ¬ s ∈ l from fun h hm => h (by rw [hn, List.take_length]; exact hm))
  have NX := Lib.hid (fun k (x : List UInt8) (hk : l[k]? = some x) => in_take (s := s) hk)
  have YE := Lib.hid (fun k (hk : l[k]? = some s) => show s ∈ l from List.mem_of_getElem? hk)
  have GE := Lib.hid (fun k (hk : k < n) => show ∃ x, l[k]? = some x from ⟨_, List.getElem?_eq_getElem (by omega)⟩)
  clear hn
  go_enter Tryz.func89, Tryz.ntmps89
  go_wp2
  go_loopw [8] (fun i wr => ∃ k : Nat, k ≤ n ∧ i = .int .i64 k ∧ RowKit.Hid (s ∉ l.take k) ∧ w = wr) (fun i _ => n - (intOf i).toNat)
  case atStart => exact ⟨0, Nat.zero_le _, rfl, Lib.hid (by simp), rfl⟩
  case round =>
    obtain ⟨k, hk, rfl, hp, rfl⟩ := hrel
    by_cases hlt : k < n
    · obtain ⟨x, hx1⟩ := GE.out k hlt
      obtain ⟨g1, o1, rfl, d1⟩ := S1.out (by omega)
      have c1 := d1 k x hx1 _ rfl
      have HX := Lib.hid hx1
      clear d1 hx1
      have hI : (k : Int) < (n : Int) := by omega
      by_cases he : s = x
      · subst he
        have hb : (s == s) = true := by simp
        go_wp2
        go_ret
        exact ⟨⟨_, rfl, ⟨fun _ => YE.out k HX.out, fun _ => by omega⟩⟩, rfl⟩
      · have hb : (s == x) = false := by simpa using he
        have P := Lib.hid (NX.out k x HX.out hp.out he)
        clear hp
        go_wp2
        go_roundw
        case rel => exact ⟨k + 1, by omega, by go_num, P, by trivial⟩
        case measure => simp [intOf]; omega
    · obtain rfl : k = n := by omega
      go_wp2
      go_ret
      exact ⟨⟨_, rfl, ⟨fun h => absurd h (by decide), fun h => absurd h (NO.out hp.out)⟩⟩, rfl⟩
set_option maxRecDepth 20000 in
set_option maxHeartbeats 1000000 in
theorem hasN_any (l : List (List UInt8)) (s : List UInt8) (v : Value) (w : World) (h : RR sC 1 w v l) (hl : (l.length : Int) ≤ 1000000000) :
    Calls Tryz.prog 55 #[v, .string (S s)] w fun e w' => e = .returned (.bool (decide (s ∈ l))) ∧ w = w' := by
  have Q := Lib.hid (indexN_any l s v w h hl)
  clear h
  obtain ⟨b, hb⟩ : ∃ b, b = decide (s ∈ l) := ⟨_, rfl⟩
  rw [← hb]
  have HB := Lib.hid hb
  clear hb
  go_enter Tryz.func55, Tryz.ntmps55
  go_wp2_with fail
  refine Calls.mono Q.out ?_
  rintro _ w' ⟨⟨n, rfl, hn⟩, rfl⟩
  by_cases hm : s ∈ l
  · have h0 := hn.2 hm
    have e := HB.out
    rw [decide_eq_true hm] at e
    subst e
    clear hn
    go_wp2
    go_ret
    exact ⟨by simp [h0], rfl⟩
  · have h0 : ¬ n ≥ 0 := fun h => hm (hn.1 h)
    have e := HB.out
    rw [decide_eq_false hm] at e
    subst e
    clear hn
    go_wp2
    go_ret
    exact ⟨by simp [h0], rfl⟩
def tmpN : List UInt8 := [109, 97, 110, 105, 102, 101, 115, 116, 46, 110, 101, 119]
def maniN : List UInt8 := [109, 97, 110, 105, 102, 101, 115, 116]
theorem temp_any (w : World) : Calls Tryz.prog 30 #[] w fun e w' => e = .returned (.string (S tmpN)) ∧ w = w' := by
  go_enter Tryz.func30, Tryz.ntmps30
  go_wp2
  go_ret
  exact ⟨rfl, rfl⟩
theorem manifest_any (w : World) : Calls Tryz.prog 31 #[] w fun e w' => e = .returned (.string (S maniN)) ∧ w = w' := by
  go_enter Tryz.func31, Tryz.ntmps31
  go_wp2
  go_ret
  exact ⟨rfl, rfl⟩
end Go.Proofs.YtmjkfgpkohfmiaaGreat
namespace Go.Proofs.YtmjkfgpkohfmiaaGreat
set_option linter.unusedVariables false
set_option linter.unusedSimpArgs false
open Go.RowKit

attribute [local go_sem] S_size S_toList S_append S_extract S_beq S_bne S_empty S_nil

section

variable {w : World} {b : Nat} {K : List Nat} {d : Dsk} (h : Has w b K d) (hop : d.ops ≤ 1000000)

include h hop

theorem has_create (s : List UInt8) (hs : s.length ≤ maxLen) : Calls Tryz.prog 22 #[.pointer (some ⟨b, 0, none⟩), .string (S s)] w fun e w' => e = .returned (.int .i64 (d.create s).2) ∧ ∃ K', Has w' b K' (d.create s).1 ∧ Stp K K' w w' := by
  obtain ⟨ok, fb, mn, ms, cv, m, rfl⟩ := h
  exact (create_any m ok (by omega) s hs).mono (fun _ w' ⟨h1, h2⟩ => ⟨h1, h2.own (ok.create s)⟩)
theorem has_append (s : List UInt8) (hs : s.length ≤ maxLen) (t : List UInt8) (ht : t.length ≤ maxLen) : Calls Tryz.prog 48 #[.pointer (some ⟨b, 0, none⟩), .string (S s), .string (S t)] w fun e w' => e = .returned (.int .i64 (d.append s t).2) ∧ ∃ K', Has w' b K' (d.append s t).1 ∧ Stp K K' w w' := by
  obtain ⟨ok, fb, mn, ms, cv, m, rfl⟩ := h
  exact (append_any m ok (by omega) s hs t ht).mono (fun _ w' ⟨h1, h2⟩ => ⟨h1, h2.own (ok.append s t)⟩)
theorem has_remove (s : List UInt8) (hs : s.length ≤ maxLen) : Calls Tryz.prog 50 #[.pointer (some ⟨b, 0, none⟩), .string (S s)] w fun e w' => e = .returned (.int .i64 (d.remove s).2) ∧ ∃ K', Has w' b K' (d.remove s).1 ∧ Stp K K' w w' := by
  obtain ⟨ok, fb, mn, ms, cv, m, rfl⟩ := h
  exact (remove_any m ok (by omega) s hs).mono (fun _ w' ⟨h1, h2⟩ => ⟨h1, h2.own (ok.remove s)⟩)
theorem has_rename (s : List UInt8) (hs : s.length ≤ maxLen) (t : List UInt8) (ht : t.length ≤ maxLen) : Calls Tryz.prog 29 #[.pointer (some ⟨b, 0, none⟩), .string (S s), .string (S t)] w fun e w' => e = .returned (.int .i64 (d.rename s t).2) ∧ ∃ K', Has w' b K' (d.rename s t).1 ∧ Stp K K' w w' := by
  obtain ⟨ok, fb, mn, ms, cv, m, rfl⟩ := h
  exact (rename_any m ok (by omega) s t hs ht).mono (fun _ w' ⟨h1, h2⟩ => ⟨h1, h2.own (ok.rename s t)⟩)
end

/-- what an elder Save left is removed -/
def Dsk.begun (d : Dsk) : Dsk × Int := if tmpN ∈ d.list then d.remove tmpN else (d, 0)
/-- the new file -/
def Dsk.laid (d : Dsk) (t : List UInt8) : Dsk × Int :=
  if (d.create tmpN).2 = 0 then
    if ((d.create tmpN).1.append tmpN t).2 = 0 then ((d.create tmpN).1.append tmpN t).1.sync tmpN
    else (d.create tmpN).1.append tmpN t
  else d.create tmpN
/-- the manifest's file is switched -/
def Dsk.save (d : Dsk) (t : List UInt8) : Dsk × Int :=
  if d.begun.2 = 0 then
    if (d.begun.1.laid t).2 = 0 then
      if ((d.begun.1.laid t).1.rename tmpN maniN).2 = 0 then ((d.begun.1.laid t).1.rename tmpN maniN).1.dirSync
      else (d.begun.1.laid t).1.rename tmpN maniN
    else d.begun.1.laid t
  else d.begun
theorem tmp_max : tmpN.length ≤ maxLen := by show 12 ≤ _; unfold maxLen; omega
theorem maniN_max : maniN.length ≤ maxLen := by show 8 ≤ _; unfold maxLen; omega
set_option maxRecDepth 20000 in
set_option maxHeartbeats 1000000 in
theorem begun_any {w : World} {b : Nat} {K : List Nat} {d : Dsk} (h : Has w b K d) (hop : d.ops ≤ 1000000) :
    Calls Tryz.prog 27 #[.pointer (some ⟨b, 0, none⟩)] w fun e w' => e = .returned (.int .i64 d.begun.2) ∧ ∃ K', Has w' b K' d.begun.1 ∧ Stp K K' w w' := by
  have ls := list_short h.ok hop
  have q := has_list h hop
  obtain ⟨r, hr⟩ : ∃ r, r = d.begun := ⟨_, rfl⟩
  rw [← hr]
  have B1 := Lib.hid (show tmpN ∈ d.list → r = d.remove tmpN from fun hm => by rw [hr]; unfold Dsk.begun; rw [if_pos hm])
  have B2 := Lib.hid (show ¬ tmpN ∈ d.list → r = (d, 0) from fun hm => by rw [hr]; unfold Dsk.begun; rw [if_neg hm])
  clear hr
  have Q := Lib.hid q
  have H := Lib.hid h
  clear q h
  go_enter Tryz.func27, Tryz.ntmps27
  go_wp2_with fail
  refine Calls.mono Q.out ?_
  rintro _ w1 ⟨v, rfl, sw, x1⟩
  have rr := (sw.sr (K := []) (by simp)).rr
  have H1 := Lib.hid (H.out.ext x1)
  have X1 := Lib.hid x1
  have QC := Lib.hid (hasN_any d.list tmpN v w1 rr (by omega))
  have QR := Lib.hid (has_remove H1.out hop tmpN tmp_max)
  clear sw x1 rr ls
  go_wp2_with fail
  refine (temp_any _).mono ?_
  rintro _ w2 ⟨rfl, rfl⟩
  go_wp2_with fail
  refine Calls.mono QC.out ?_
  rintro _ w2 ⟨rfl, rfl⟩
  by_cases hm : tmpN ∈ d.list
  · have e := B1.out hm
    subst e
    rw [decide_eq_true hm]
    clear hm B1 B2 QC
    go_wp2_with fail
    refine (temp_any _).mono ?_
    rintro _ w2 ⟨rfl, rfl⟩
    go_wp2_with fail
    refine Calls.mono QR.out ?_
    rintro _ w2 ⟨rfl, K', h2, st⟩
    go_wp2
    go_ret
    exact ⟨rfl, K', h2, (Stp.of_ext X1.out).trans st⟩
  · have e := B2.out hm
    subst e
    rw [decide_eq_false hm]
    clear hm B1 B2 QC
    go_wp2
    go_ret
    exact ⟨rfl, K, H1.out, Stp.of_ext X1.out⟩
end Go.Proofs.YtmjkfgpkohfmiaaGreat
namespace Go.Proofs.YtmjkfgpkohfmiaaGreat
set_option linter.unusedVariables false
set_option linter.unusedSimpArgs false
open Go.RowKit

attribute [local go_sem] S_size S_toList S_append S_extract S_beq S_bne S_empty S_nil

theorem create_ops (d : Dsk) (s : List UInt8) : (d.create s).1.ops ≤ d.ops + 1 := by
  unfold Dsk.create
  (repeat' split) <;> simp only [Dsk.chg, Dsk.cnt] <;> omega
theorem append_ops (d : Dsk) (s t : List UInt8) : (d.append s t).1.ops ≤ d.ops + 1 := by
  unfold Dsk.append
  (repeat' split) <;> simp only [Dsk.put, Dsk.cnt] <;> omega
theorem remove_ops (d : Dsk) (s : List UInt8) : (d.remove s).1.ops ≤ d.ops + 1 := by
  unfold Dsk.remove
  (repeat' split) <;> simp only [Dsk.chg, Dsk.cnt] <;> omega
theorem rename_ops (d : Dsk) (s t : List UInt8) : (d.rename s t).1.ops ≤ d.ops + 1 := by
  unfold Dsk.rename
  (repeat' split) <;> simp only [Dsk.chg, Dsk.cnt] <;> omega
theorem begun_ops (d : Dsk) : d.begun.1.ops ≤ d.ops + 1 := by
  unfold Dsk.begun
  split
  · exact remove_ops d tmpN
  · show d.ops ≤ d.ops + 1; omega
theorem laid_ops (d : Dsk) (t : List UInt8) : (d.laid t).1.ops ≤ d.ops + 3 := by
  have h1 := create_ops d tmpN
  have h2 := append_ops (d.create tmpN).1 tmpN t
  have h3 := sync_ops ((d.create tmpN).1.append tmpN t).1 tmpN
  unfold Dsk.laid
  (repeat' split) <;> omega
set_option maxRecDepth 20000 in
set_option maxHeartbeats 1000000 in
theorem appd_any {w : World} {b : Nat} {K : List Nat} {d : Dsk} (h : Has w b K d) (hop : d.ops ≤ 1000000) (s : List UInt8) (hs : s.length ≤ maxLen) (t : List UInt8) (ht : t.length ≤ maxLen) {g1 g2 : Nat}
    (b1 : Blk w g1 32 #[.pointer (some ⟨b, 0, none⟩)]) (b2 : Blk w g2 9 #[.string (S t)]) :
    Calls Tryz.prog 101 #[.string (S s), .pointer (some ⟨g1, 0, none⟩), .pointer (some ⟨g2, 0, none⟩)] w fun e w' => e = .returned (.int .i64 (d.append s t).2) ∧ ∃ K', Has w' b K' (d.append s t).1 ∧ Stp K K' w w' := by
  have Q := Lib.hid (has_append h hop s hs t ht)
  have c1 := b1.cell 0
  have c2 := b2.cell 0
  simp at c1 c2
  go_enter Tryz.func101, Tryz.ntmps101
  go_wp2_with fail
  refine Calls.mono Q.out ?_
  rintro _ w2 ⟨rfl, K', h2, st⟩
  go_wp2
  go_ret
  exact ⟨rfl, K', h2, st⟩
theorem run_bs3f (a1 a2 a3 : Fn) (x1 x2 x3 y1 y2 y3 : Array Value) (w : World) : (Instr.buildSlice 119 3 #[(0, .func a1 x1 y1), (1, .func a2 x2 y2), (2, .func a3 x3 y3)]).run Tryz.prog w = .ok (.slice (some ⟨w.heap.size, 0, none⟩) 3 3) (w.alloc (.cells #[.func a1 x1 y1, .func a2 x2 y2, .func a3 x3 y3] 53)) := by kernel_rfl
set_option maxRecDepth 20000 in
set_option maxHeartbeats 1000000 in
theorem appended_any (b : Nat) (t : List UInt8) (w : World) :
    Calls Tryz.prog 68 #[.pointer (some ⟨b, 0, none⟩), .string (S t)] w fun e w' => e = .returned (.func (.func 101) #[] #[.pointer (some ⟨w.heap.size, 0, none⟩), .pointer (some ⟨w.heap.size + 1, 0, none⟩)]) ∧ w' = (w.alloc (.cells #[.pointer (some ⟨b, 0, none⟩)] 32)).alloc (.cells #[.string (S t)] 9) := by
  have hmf : ∀ (fn : Fn) (first cap : Array Value) (w : World), (Instr.makeFunc fn first cap).run Tryz.prog w = .ok (.func fn first cap) w := fun _ _ _ _ => rfl
  go_enter Tryz.func68, Tryz.ntmps68
  go_wp2
  go_ret
  exact ⟨by simp, rfl⟩
/-- behind so many steps -/
def Dsk.steps (d : Dsk) (t : List UInt8) (k : Nat) : Dsk :=
  match k with
  | 0 => d
  | 1 => (d.create tmpN).1
  | 2 => ((d.create tmpN).1.append tmpN t).1
  | _ => (((d.create tmpN).1.append tmpN t).1.sync tmpN).1
set_option maxRecDepth 20000 in
set_option maxHeartbeats 2000000 in
theorem laid_any {w : World} {b : Nat} {K : List Nat} {d : Dsk} (h : Has w b K d) (hop : d.ops ≤ 900000) (t : List UInt8) (ht : t.length ≤ maxLen) :
    Calls Tryz.prog 28 #[.pointer (some ⟨b, 0, none⟩), .string (S t)] w fun e w' => e = .returned (.int .i64 (d.laid t).2) ∧ ∃ K', Has w' b K' (d.laid t).1 ∧ Stp K K' w w' := by
  obtain ⟨r, hr⟩ : ∃ r, r = d.laid t := ⟨_, rfl⟩
  rw [← hr]
  have R1 := Lib.hid (show ¬ (d.create tmpN).2 = 0 → r = d.create tmpN from fun hm => by rw [hr]; unfold Dsk.laid; rw [if_neg hm])
  have R2 := Lib.hid (show (d.create tmpN).2 = 0 → ¬ ((d.create tmpN).1.append tmpN t).2 = 0 → r = (d.create tmpN).1.append tmpN t from fun h1 hm => by rw [hr]; unfold Dsk.laid; rw [if_pos h1, if_neg hm])
  have R3 := Lib.hid (show (d.create tmpN).2 = 0 → ((d.create tmpN).1.append tmpN t).2 = 0 → r = ((d.create tmpN).1.append tmpN t).1.sync tmpN from fun h1 hm => by rw [hr]; unfold Dsk.laid; rw [if_pos h1, if_pos hm])
  clear hr
  have hmf : ∀ (fn : Fn) (first cap : Array Value) (w : World), (Instr.makeFunc fn first cap).run Tryz.prog w = .ok (.func fn first cap) w := fun _ _ _ _ => rfl
  have O1 := Lib.hid (create_ops d tmpN)
  have O2 := Lib.hid (append_ops (d.create tmpN).1 tmpN t)
  have N1 := Lib.hid (show w.heap.size ∉ K from fun hm => by have := h.lt _ hm; omega)
  have N2 := Lib.hid (show w.heap.size + 1 ∉ K from fun hm => by have := h.lt _ hm; omega)
  have N3 := Lib.hid (show w.heap.size + 1 + 1 ∉ K from fun hm => by have := h.lt _ hm; omega)
  have H := Lib.hid h
  clear h
  go_enter Tryz.func28, Tryz.ntmps28
  go_wp2_with fail
  refine (appended_any b t _).mono ?_
  rintro _ w1 ⟨rfl, rfl⟩
  go_wp2_with fail
  have X0 := Lib.hid (show Ext w (((w.alloc (.cells #[.pointer (some ⟨b, 0, none⟩)] 32)).alloc (.cells #[.string (S t)] 9)).alloc (.cells #[.func (.func 22) #[.pointer (some ⟨b, 0, none⟩)] #[], .func (.func 101) #[] #[.pointer (some ⟨w.heap.size, 0, none⟩), .pointer (some ⟨w.heap.size + 1, 0, none⟩)], .func (.func 19) #[.pointer (some ⟨b, 0, none⟩)] #[]] 53)) from (((Ext.refl w).alloc _).alloc _).alloc _)
  have B1 : Blk (((w.alloc (.cells #[.pointer (some ⟨b, 0, none⟩)] 32)).alloc (.cells #[.string (S t)] 9)).alloc (.cells #[.func (.func 22) #[.pointer (some ⟨b, 0, none⟩)] #[], .func (.func 101) #[] #[.pointer (some ⟨w.heap.size, 0, none⟩), .pointer (some ⟨w.heap.size + 1, 0, none⟩)], .func (.func 19) #[.pointer (some ⟨b, 0, none⟩)] #[]] 53)) w.heap.size 32 #[.pointer (some ⟨b, 0, none⟩)] := ((Blk.new w _ _).alloc _).alloc _
  have B2 := Blk.new (w.alloc (.cells #[.pointer (some ⟨b, 0, none⟩)] 32)) 9 #[.string (S t)]
  have B3 := Blk.new ((w.alloc (.cells #[.pointer (some ⟨b, 0, none⟩)] 32)).alloc (.cells #[.string (S t)] 9)) 53 #[.func (.func 22) #[.pointer (some ⟨b, 0, none⟩)] #[], .func (.func 101) #[] #[.pointer (some ⟨w.heap.size, 0, none⟩), .pointer (some ⟨w.heap.size + 1, 0, none⟩)], .func (.func 19) #[.pointer (some ⟨b, 0, none⟩)] #[]]
  replace B2 := B2.alloc (.cells #[.func (.func 22) #[.pointer (some ⟨b, 0, none⟩)] #[], .func (.func 101) #[] #[.pointer (some ⟨w.heap.size, 0, none⟩), .pointer (some ⟨w.heap.size + 1, 0, none⟩)], .func (.func 19) #[.pointer (some ⟨b, 0, none⟩)] #[]] 53)
  rw [World.size_alloc] at B2
  rw [World.size_alloc, World.size_alloc] at B3
  generalize ((w.alloc (.cells #[.pointer (some ⟨b, 0, none⟩)] 32)).alloc (.cells #[.string (S t)] 9)).alloc (.cells #[.func (.func 22) #[.pointer (some ⟨b, 0, none⟩)] #[], .func (.func 101) #[] #[.pointer (some ⟨w.heap.size, 0, none⟩), .pointer (some ⟨w.heap.size + 1, 0, none⟩)], .func (.func 19) #[.pointer (some ⟨b, 0, none⟩)] #[]] 53) = W at *
  have BB := Lib.hid (And.intro B1 (And.intro B2 B3))
  clear B1 B2 B3
  go_loopw [17] (fun i wr => ∃ (k : Nat) (K' : List Nat), i = .int .i64 (k : Int) ∧ k ≤ 3 ∧ RowKit.Hid (Has wr b K' (d.steps t k) ∧ Stp K K' W wr ∧ (1 ≤ k → (d.create tmpN).2 = 0) ∧ (2 ≤ k → ((d.create tmpN).1.append tmpN t).2 = 0) ∧ (3 ≤ k → (((d.create tmpN).1.append tmpN t).1.sync tmpN).2 = 0))) (fun i _ => 3 - (intOf i).toNat)
  case atStart => exact ⟨0, K, rfl, by omega, Lib.hid ⟨H.out.ext X0.out, Stp.refl _ _, fun h => absurd h (by omega), fun h => absurd h (by omega), fun h => absurd h (by omega)⟩⟩
  case round =>
    obtain ⟨k, K', rfl, hk, HS⟩ := hrel
    clear H
    have c3 := BB.out.2.2.but HS.out.2.1.1 N3.out
    have L0 := c3.cell 0
    have L1 := c3.cell 1
    have L2 := c3.cell 2
    simp at L0 L1 L2
    clear c3
    obtain rfl | rfl | rfl | rfl : k = 0 ∨ k = 1 ∨ k = 2 ∨ k = 3 := by omega
    · have Q := Lib.hid (has_create (show Has wr b K' d from HS.out.1) (by omega) tmpN tmp_max)
      clear L1 L2 hk
      go_wp2_with fail
      refine (temp_any _).mono ?_
      rintro _ w2 ⟨rfl, rfl⟩
      go_wp2_with fail
      refine Calls.mono Q.out ?_
      rintro _ w2 ⟨rfl, K2, h2, st2⟩
      have I2 := Lib.hid (And.intro h2 (HS.out.2.1.trans st2))
      clear h2 st2 Q HS L0
      by_cases hz : (d.create tmpN).2 = 0
      · have HZ := Lib.hid hz
        rw [hz]
        clear hz
        go_wp2
        go_roundw
        case rel => exact ⟨1, K2, by go_num, by omega, Lib.hid ⟨I2.out.1, I2.out.2, fun _ => HZ.out, fun h => absurd h (by omega), fun h => absurd h (by omega)⟩⟩
        case measure => simp [intOf]
      · have e := R1.out hz
        rw [← e] at hz
        rw [show (d.create tmpN).2 = r.2 from by rw [e]]
        have I3 := Lib.hid (show Has w2 b K2 r.1 from by rw [e]; exact I2.out.1)
        clear e
        clear R2 R3 O2
        go_wp2
        go_ret
        exact ⟨rfl, K2, I3.out, (Stp.of_ext X0.out).trans I2.out.2⟩
    · have Q := Lib.hid (appd_any (show Has wr b K' (d.create tmpN).1 from HS.out.1) (by have := O1.out; omega) tmpN tmp_max t ht (BB.out.1.but HS.out.2.1.1 N1.out) (BB.out.2.1.but HS.out.2.1.1 N2.out))
      have HC := Lib.hid (HS.out.2.2.1 (by omega))
      clear L0 L2 hk
      go_wp2_with fail
      refine (temp_any _).mono ?_
      rintro _ w2 ⟨rfl, rfl⟩
      go_wp2_with fail
      refine Calls.mono Q.out ?_
      rintro _ w2 ⟨rfl, K2, h2, st2⟩
      have I2 := Lib.hid (And.intro h2 (HS.out.2.1.trans st2))
      clear h2 st2 Q HS L1
      by_cases hz : ((d.create tmpN).1.append tmpN t).2 = 0
      · have HZ := Lib.hid hz
        rw [hz]
        clear hz
        go_wp2
        go_roundw
        case rel => exact ⟨2, K2, by go_num, by omega, Lib.hid ⟨I2.out.1, I2.out.2, fun _ => HC.out, fun _ => HZ.out, fun h => absurd h (by omega)⟩⟩
        case measure => simp [intOf]
      · have e := R2.out HC.out hz
        rw [← e] at hz
        rw [show ((d.create tmpN).1.append tmpN t).2 = r.2 from by rw [e]]
        have I3 := Lib.hid (show Has w2 b K2 r.1 from by rw [e]; exact I2.out.1)
        clear e
        clear R1 R3 O2
        go_wp2
        go_ret
        exact ⟨rfl, K2, I3.out, (Stp.of_ext X0.out).trans I2.out.2⟩
    · have Q := Lib.hid (has_sync (show Has wr b K' ((d.create tmpN).1.append tmpN t).1 from HS.out.1) (by have := O1.out; have := O2.out; omega) tmpN tmp_max)
      have HC := Lib.hid (HS.out.2.2.1 (by omega))
      have HA := Lib.hid (HS.out.2.2.2.1 (by omega))
      clear L0 L1 hk
      go_wp2_with fail
      refine (temp_any _).mono ?_
      rintro _ w2 ⟨rfl, rfl⟩
      go_wp2_with fail
      refine Calls.mono Q.out ?_
      rintro _ w2 ⟨rfl, K2, h2, st2⟩
      have I2 := Lib.hid (And.intro h2 (HS.out.2.1.trans st2))
      clear h2 st2 Q HS L2
      have e := R3.out HC.out HA.out
      by_cases hz : (((d.create tmpN).1.append tmpN t).1.sync tmpN).2 = 0
      · have HZ := Lib.hid hz
        rw [hz]
        clear hz e
        go_wp2
        go_roundw
        case rel => exact ⟨3, K2, by go_num, by omega, Lib.hid ⟨I2.out.1, I2.out.2, fun _ => HC.out, fun _ => HA.out, fun _ => HZ.out⟩⟩
        case measure => simp [intOf]
      · rw [← e] at hz
        rw [show (((d.create tmpN).1.append tmpN t).1.sync tmpN).2 = r.2 from by rw [e]]
        have I3 := Lib.hid (show Has w2 b K2 r.1 from by rw [e]; exact I2.out.1)
        clear e
        clear R1 R2 R3 O2
        go_wp2
        go_ret
        exact ⟨rfl, K2, I3.out, (Stp.of_ext X0.out).trans I2.out.2⟩
    · have e := R3.out (HS.out.2.2.1 (by omega)) (HS.out.2.2.2.1 (by omega))
      have z := HS.out.2.2.2.2 (by omega)
      have I2 := Lib.hid (show Has wr b K' (((d.create tmpN).1.append tmpN t).1.sync tmpN).1 ∧ Stp K K' W wr from ⟨HS.out.1, HS.out.2.1⟩)
      have I3 := Lib.hid (show Has wr b K' r.1 from by rw [e]; exact I2.out.1)
      have z2 := Lib.hid (show 0 = r.2 from by rw [e]; exact z.symm)
      clear e z
      clear R1 R2 R3 O2 L0 L1 L2 HS hk
      go_wp2
      go_ret
      exact ⟨by rw [← z2.out]; rfl, K', I3.out, (Stp.of_ext X0.out).trans I2.out.2⟩
end Go.Proofs.YtmjkfgpkohfmiaaGreat
