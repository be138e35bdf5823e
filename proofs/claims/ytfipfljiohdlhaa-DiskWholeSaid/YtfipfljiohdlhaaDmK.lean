/- DiskWhole: the law's walk. -/
import Derived.Test.YtfipfljiohdlhaaDmJ
namespace Go.Proofs.Ytfipfljiohdlhaa
set_option linter.unusedVariables false
set_option linter.unusedSimpArgs false
open Go.RowKit
attribute [local go_sem] S_size S_toList S_append S_extract S_beq S_bne S_empty S_nil

def fellB (l : List ActD) : Bool := l.any fun a => decide (a.kind = 9)
theorem fellB_next {l : List ActD} {k : Nat} {x : ActD} (h : l[k]? = some x) : fellB (l.take (k + 1)) = (fellB (l.take k) || decide (x.kind = 9)) := by
  unfold fellB
  rw [List.take_add_one, h, List.any_append]
  simp
theorem used_next {d : Dsk} (ok : d.Ok) {l : List ActD} {k : Nat} {x : ActD} (h : l[k]? = some x) (hu : fellB (l.take k) = false → d.used ≤ d.cap) (hf : fellB (l.take (k + 1)) = false) : (d.act x).1.used ≤ (d.act x).1.cap := by
  rw [fellB_next h, Bool.or_eq_false_iff] at hf
  exact (used_act ok (hu hf.1) (by simpa using hf.2)).1
theorem cap_act (d : Dsk) (a : ActD) : (d.act a).1.cap = d.cap := by
  unfold Dsk.act
  split
  · unfold Dsk.create
    (repeat' split) <;> rfl
  split
  · unfold Dsk.append
    (repeat' split) <;> rfl
  split
  · unfold Dsk.sync
    (repeat' split) <;> rfl
  split
  · unfold Dsk.cut
    (repeat' split) <;> rfl
  split
  · unfold Dsk.rename
    (repeat' split) <;> rfl
  split
  · unfold Dsk.remove
    (repeat' split) <;> rfl
  split
  · unfold Dsk.dirSync
    (repeat' split) <;> rfl
  split
  · unfold Dsk.arm
    (repeat' split) <;> rfl
  split
  · rfl
  split <;> rfl
/-- the first k names are synced, if the power is on -/
structure SyncW (L : List (List UInt8)) (n : Int) (k : Nat) (d : Dsk) : Prop where
  ops : d.ops ≤ n + k
  list : d.dead = false → d.dir.map (·.1) = L
  firm : d.dead = true ∨ FirmTo d (L.take k)
theorem sync_dead {d : Dsk} {s : List UInt8} (h : d.dead = true) : (d.sync s).1 = d := by unfold Dsk.sync; rw [if_pos h]
theorem SyncW.step {L : List (List UInt8)} {n : Int} {d : Dsk} {k : Nat} (h : SyncW L n k d) (ok : d.Ok) {s : List UInt8} (hs : L[k]? = some s) : SyncW L n (k + 1) (d.sync s).1 := by
  have ho := sync_ops d s
  have := h.ops
  refine ⟨by have e : ((k + 1 : Nat) : Int) = (k : Int) + 1 := by omega
             rw [e]; omega, fun hd => ?_, ?_⟩
  · rw [sync_dir]
    refine h.list ?_
    cases hdd : d.dead with
    | false => rfl
    | true => rw [sync_dead hdd, hdd] at hd; cases hd
  · rw [List.take_add_one, hs]
    exact sync_firm ok s h.firm
/-- behind a sync of all, and of the directory, if the power is on still -/
theorem whole_all {d : Dsk} (ok : d.Ok) {L : List (List UInt8)} {n : Int} {k : Nat} (hk : L.length ≤ k) (h : SyncW L n k d) (hd : d.dirSync.1.dead = false) :
    d.dirSync.1.safe = d.dirSync.1.dir ∧ d.dirSync.1.chs = [] ∧ FirmTo d.dirSync.1 (d.dirSync.1.dir.map (·.1)) := by
  obtain ⟨h1, h2⟩ := dirSync_alive hd
  have hf := h.firm.resolve_left (by rw [h1]; decide)
  rw [List.take_of_length_le hk, ← h.list h1] at hf
  rw [dirSync_good h1 h2]
  exact ⟨rfl, rfl, hf⟩
theorem whole_end {d : Dsk} (hn : d.dir.Pairwise (fun p q => p.1 ≠ q.1)) (hd : d.dead = false) (h1 : d.safe = d.dir) (h2 : d.chs = []) (hf : FirmTo d (d.dir.map (·.1))) (k : Int) (cuts : List Int) (marks : List (List UInt8)) :
    (d.off.boot k cuts marks).list = d.list ∧ texts (d.off.boot k cuts marks) (d.off.boot k cuts marks).list = texts d d.list ∧ (d.off.boot k cuts marks).dead = false ∧ (d.off.boot k cuts marks).chs = [] := by
  have e := boot_whole hn hf h1 h2 k cuts marks
  have el : ({ d with dead := false, armed := 0 } : Dsk).list = d.list := by unfold Dsk.list; rw [hd]
  rw [e]
  refine ⟨el, ?_, rfl, h2⟩
  rw [el]
  unfold texts
  refine List.map_congr_left (fun s _ => ?_)
  unfold Dsk.read
  rw [hd]; rfl
set_option maxRecDepth 20000 in
set_option maxHeartbeats 8000000 in
theorem diskWhole_law (cap : Int) (wc : (Lit.int .i64 cap).wf = true) (v1 : Value) (l : List ActD) (a : ActD) (w : World) (r1 : RR actC 7 w v1 l) (b1 : (l.length : Int) ≤ 9223372036854775807) (R1 : ∀ x ∈ l, ActW w x) (aw : ActW w a) (ac : chA a) :
    Calls Try.prog 4 #[.int .i64 cap, v1, .agg #[.int .i64 a.dir, a.vc, a.vm]] w fun e w' => e = .returned (.bool true) ∧ Ext w w' := by
  have QA := Lib.hid awake_any
  obtain ⟨p1, c1, rfl, _, _, s1⟩ := r1
  have RR1 : RR actC 7 w (.slice p1 l.length c1) l := ⟨p1, c1, rfl, by assumption, by assumption, s1⟩
  have Q1 := Lib.hid (fun (w1 : World) (x : Ext w w1) => few_of RR1 R1 b1 x)
  have X0 := Lib.hid ((Ext.refl w).alloc (.cells #[.int .i64 a.dir, a.vc, a.vm] 26))
  have B0 := Lib.hid (Blk.new w 26 #[.int .i64 a.dir, a.vc, a.vm])
  have CI := Lib.hid (show (Try.prog.info? 26).map (·.size) = some #[Value.int .i64 a.dir, a.vc, a.vm].size by kernel_rfl)
  have X1 := Lib.hid (X0.out.alloc (.cells (actC a).toArray 29))
  have q3 := few_of (w1 := (w.alloc (.cells #[.int .i64 a.dir, a.vc, a.vm] 26)).alloc (.cells (actC a).toArray 29)) (act_rr (a := a) (Blk.new (w.alloc (.cells #[.int .i64 a.dir, a.vc, a.vm] 26)) 29 (actC a).toArray)) (fun y hy => by rw [List.mem_singleton] at hy; subst hy; exact aw.ext X1.out) (by simp) (Ext.refl _)
  rw [World.size_alloc] at q3
  have BS := act_bs aw
  have EA : (actC a).toArray = #[.int .i64 0, .int .i64 0, .string (S []), .string (S []), .int .i64 a.dir, a.vc, a.vm] := by
    obtain ⟨h1, h2, h3, h4⟩ := ac
    unfold actC
    rw [h1, h2, h3, h4]
  rw [EA] at q3 BS X1
  have Q3 := Lib.hid q3
  have AW := Lib.hid aw
  have S1 := Lib.hid s1
  have HR1 := Lib.hid R1
  clear q3 EA aw ac R1 RR1 s1

  by_cases f1 : ¬ FewA l
  · rw [decide_eq_false f1] at Q1
    go_enter Try.func4, Try.ntmps4
    go_wp2_with fail
    refine (Q1.out _ X0.out).mono ?_
    rintro _ w1 ⟨rfl, rfl⟩
    go_wp2_with fail
    refine (QA.out _).mono ?_
    rintro _ w2 ⟨rfl, x2⟩
    go_wp2
    go_ret
    exact ⟨rfl, X0.out.trans x2⟩
  have f1 := Decidable.not_not.1 f1
  rw [decide_eq_true f1] at Q1
  by_cases f3 : ¬ FewA [a]
  · rw [decide_eq_false f3] at Q3
    go_enter Try.func4, Try.ntmps4
    go_wp2_with fail
    refine (Q1.out _ X0.out).mono ?_
    rintro _ w1 ⟨rfl, rfl⟩
    go_wp2_with (refine wpList_load_blk_g (by kernel_rfl) 26 (.tmp 5) rfl rfl B0.out Try.underlying26 rfl CI.out ?_; refine Held.go ?_)
    refine ⟨?_⟩
    go_wp2_with (refine wpList_bs_g (vs := #[(0, .agg #[.int .i64 0, .int .i64 0, .string (S []), .string (S []), .int .i64 a.dir, a.vc, a.vm])]) (by kernel_rfl) 22 1 _ rfl rfl (BS _) ?_; refine Held.go ?_)
    refine ⟨?_⟩
    go_wp2_with fail
    refine (Q3.out).mono ?_
    rintro _ w1 ⟨rfl, rfl⟩
    go_wp2_with fail
    refine (QA.out _).mono ?_
    rintro _ w2 ⟨rfl, x2⟩
    go_wp2
    go_ret
    exact ⟨rfl, X1.out.trans x2⟩
  have f3 := Decidable.not_not.1 f3
  rw [decide_eq_true f3] at Q3
  by_cases k0 : cap < 0
  ·
    go_enter Try.func4, Try.ntmps4
    go_wp2_with fail
    refine (Q1.out _ X0.out).mono ?_
    rintro _ w1 ⟨rfl, rfl⟩
    go_wp2_with (refine wpList_load_blk_g (by kernel_rfl) 26 (.tmp 5) rfl rfl B0.out Try.underlying26 rfl CI.out ?_; refine Held.go ?_)
    refine ⟨?_⟩
    go_wp2_with (refine wpList_bs_g (vs := #[(0, .agg #[.int .i64 0, .int .i64 0, .string (S []), .string (S []), .int .i64 a.dir, a.vc, a.vm])]) (by kernel_rfl) 22 1 _ rfl rfl (BS _) ?_; refine Held.go ?_)
    refine ⟨?_⟩
    go_wp2_with fail
    refine (Q3.out).mono ?_
    rintro _ w1 ⟨rfl, rfl⟩
    go_wp2_with fail
    refine (QA.out _).mono ?_
    rintro _ w2 ⟨rfl, x2⟩
    go_wp2
    go_ret
    exact ⟨rfl, X1.out.trans x2⟩
  by_cases k1 : 10000000 < cap
  ·
    go_enter Try.func4, Try.ntmps4
    go_wp2_with fail
    refine (Q1.out _ X0.out).mono ?_
    rintro _ w1 ⟨rfl, rfl⟩
    go_wp2_with (refine wpList_load_blk_g (by kernel_rfl) 26 (.tmp 5) rfl rfl B0.out Try.underlying26 rfl CI.out ?_; refine Held.go ?_)
    refine ⟨?_⟩
    go_wp2_with (refine wpList_bs_g (vs := #[(0, .agg #[.int .i64 0, .int .i64 0, .string (S []), .string (S []), .int .i64 a.dir, a.vc, a.vm])]) (by kernel_rfl) 22 1 _ rfl rfl (BS _) ?_; refine Held.go ?_)
    refine ⟨?_⟩
    go_wp2_with fail
    refine (Q3.out).mono ?_
    rintro _ w1 ⟨rfl, rfl⟩
    go_wp2_with fail
    refine (QA.out _).mono ?_
    rintro _ w2 ⟨rfl, x2⟩
    go_wp2
    go_ret
    exact ⟨rfl, X1.out.trans x2⟩
  have CP := Lib.hid (And.intro (Int.not_lt.1 k0) (Int.not_lt.1 k1))
  go_enter Try.func4, Try.ntmps4
  go_wp2_with fail
  refine (Q1.out _ X0.out).mono ?_
  rintro _ w1 ⟨rfl, rfl⟩
  go_wp2_with (refine wpList_load_blk_g (by kernel_rfl) 26 (.tmp 5) rfl rfl B0.out Try.underlying26 rfl CI.out ?_; refine Held.go ?_)
  refine ⟨?_⟩
  go_wp2_with (refine wpList_bs_g (vs := #[(0, .agg #[.int .i64 0, .int .i64 0, .string (S []), .string (S []), .int .i64 a.dir, a.vc, a.vm])]) (by kernel_rfl) 22 1 _ rfl rfl (BS _) ?_; refine Held.go ?_)
  refine ⟨?_⟩
  go_wp2_with fail
  refine (Q3.out).mono ?_
  rintro _ w1 ⟨rfl, rfl⟩
  go_wp2_with fail
  refine (has_new cap _ CP.out.1 CP.out.2).mono ?_
  rintro _ w1 ⟨b, rfl, K0, h0, st0⟩
  have NL := few_len f1
  have BW := Lib.hid (B0.out.alloc (.cells #[.int .i64 0, .int .i64 0, .string (S []), .string (S []), .int .i64 a.dir, a.vc, a.vm] 29))
  clear f1 f3 Q1 Q3 BS B0 X0 k0 k1
  generalize (w.alloc (.cells #[.int .i64 a.dir, a.vc, a.vm] 26)).alloc (.cells #[.int .i64 0, .int .i64 0, .string (S []), .string (S []), .int .i64 a.dir, a.vc, a.vm] 29) = W at *
  have I0 := Lib.hid (And.intro h0 st0)
  clear h0 st0
  go_wp2_with fail
  go_loopw [10, 9] (fun i f wr => ∃ (k : Nat) (K : List Nat) (d : Dsk), i = .int .i64 (k : Int) ∧ k ≤ l.length ∧ f = .bool (fellB (l.take k)) ∧ RowKit.Hid (Has wr b K d ∧ Stp [] K W wr ∧ d.ops ≤ k ∧ d.cap = cap ∧ (fellB (l.take k) = false → d.used ≤ d.cap))) (fun i _ _ => l.length - (intOf i).toNat)
  case atStart => exact ⟨0, K0, _, rfl, Nat.zero_le _, rfl, Lib.hid ⟨I0.out.1, I0.out.2, Int.le_refl _, rfl, fun _ => CP.out.1⟩⟩
  case round =>
    obtain ⟨k, K, d, rfl, hk, rfl, HS⟩ := hrel
    clear I0
    by_cases hlt : k < l.length
    · have hI : (k : Int) < (l.length : Int) := by omega
      obtain ⟨g, o, rfl, hc⟩ := S1.out (by omega)
      obtain ⟨x, hx⟩ : ∃ x, l[k]? = some x := ⟨_, List.getElem?_eq_getElem hlt⟩
      have XW := Lib.hid (X1.out.trans HS.out.2.1.ext)
      have RA := Lib.hid (rangeAt_ext (hc k x hx) XW.out)
      have ZA := Lib.hid (show (Try.prog.info? 29).map (·.size) = some (actC x).length by kernel_rfl)
      have q := has_do HS.out.1 (by have := HS.out.2.2.1; omega) ((HR1.out x (List.mem_of_getElem? hx)).ext XW.out)
      have FN := Lib.hid (fellB_next hx)
      have UN := Lib.hid (fun h => used_next HS.out.1.ok hx HS.out.2.2.2.2 h)
      have CA := Lib.hid (show (d.act x).1.cap = cap from (cap_act d x).trans HS.out.2.2.2.1)
      have OA := Lib.hid (show (d.act x).1.ops ≤ ((k + 1 : Nat) : Int) by have := act_ops d x; have := HS.out.2.2.1; omega)
      have HKM := Lib.hid hlt
      have C0 := Lib.hid (fun (w2 : World) (K' : List Nat) (st : Stp K K' wr w2) => show w2.cell? ⟨g, o + k * 7, none⟩ = some (.int .i64 x.kind) from by
        have h := rangeAt_ext (hc k x hx) (X1.out.trans (HS.out.2.1.trans st).ext) 0 _ rfl
        rwa [Nat.add_zero] at h)
      clear hc hx hlt hk
      have Q := Lib.hid q
      clear q
      generalize x.kind = kind at *
      generalize actC x = L at *
      generalize (d.act x).1 = d2 at *
      obtain ⟨f2, hf2⟩ : ∃ f2, f2 = fellB (l.take (k + 1)) := ⟨_, rfl⟩
      rw [← hf2] at FN UN
      have HF2 := Lib.hid hf2
      clear hf2
      generalize fellB (l.take k) = f1 at *
      go_wp2_with (refine wpList_load_mid rfl 29 (.tmp 56) rfl g _ rfl _ _ RA.out Try.underlying29 rfl ZA.out ?_; refine Held.go ?_)
      refine ⟨?_⟩
      go_wp2_with fail
      refine Calls.mono Q.out ?_
      rintro _ w2 ⟨rfl, K', h2, st2⟩
      have c0 := C0.out _ _ st2
      have U := Lib.hid (has_used h2 (by have := OA.out; omega))
      have I2 := Lib.hid (And.intro h2 (HS.out.2.1.trans st2))
      clear h2 st2 C0
      cases f1 with
      | true =>
        have F2 : f2 = true := FN.out
        subst F2
        go_wp2_with fail
        go_roundw
        case rel => exact ⟨k + 1, K', d2, by go_num, by have := HKM.out; omega, by rw [← HF2.out], Lib.hid ⟨I2.out.1, I2.out.2, OA.out, CA.out, fun h => by rw [← HF2.out] at h; cases h⟩⟩
        case measure => simp [intOf]; have := HKM.out; omega
      | false =>
        by_cases h9 : kind = 9
        · subst h9
          have F2 : f2 = true := FN.out
          subst F2
          go_wp2_with fail
          go_roundw
          case rel => exact ⟨k + 1, K', d2, by go_num, by have := HKM.out; omega, by rw [← HF2.out], Lib.hid ⟨I2.out.1, I2.out.2, OA.out, CA.out, fun h => by rw [← HF2.out] at h; cases h⟩⟩
          case measure => simp [intOf]; have := HKM.out; omega
        · have F2 : f2 = false := FN.out.trans (by simp [h9])
          subst F2
          have b9 : (kind == 9) = false := by simpa using h9
          have hu := UN.out rfl
          rw [CA.out] at hu
          have US := Lib.hid (show ¬ cap < (if d2.dead = true then 0 else d2.used) from by have := CP.out.1; split <;> omega)
          generalize (if d2.dead = true then 0 else d2.used) = us at *
          have UL := Lib.hid hu
          clear hu
          go_wp2_with fail
          refine Calls.mono U.out ?_
          rintro _ w3 ⟨rfl, x3⟩
          have I3 := Lib.hid (And.intro (I2.out.1.ext x3) (I2.out.2.then x3))
          have us := US.out
          clear x3
          go_wp2_with fail
          go_roundw
          case rel => exact ⟨k + 1, K', d2, by go_num, by have := HKM.out; omega, by rw [← HF2.out], Lib.hid ⟨I3.out.1, I3.out.2, OA.out, CA.out, fun _ => by rw [CA.out]; exact UL.out⟩⟩
          case measure => simp [intOf]; have := HKM.out; omega
    · obtain rfl : k = l.length := by omega
      rw [List.take_length] at *
      generalize fellB l = f1 at *
      have I1 := Lib.hid (show Has wr b K d ∧ Stp [] K W wr ∧ d.ops ≤ 60 from ⟨HS.out.1, HS.out.2.1, by have := HS.out.2.2.1; omega⟩)
      clear hk S1 HR1 HS
      cases hd : d.dead with
      | true =>
        have BC := Lib.hid (BW.out.ext I1.out.2.1.ext)
        have XW := Lib.hid (X1.out.trans I1.out.2.1.ext)
        have AWr := AW.out.ext XW.out
        have Q := Lib.hid (has_boot I1.out.1 (by have := I1.out.2.2; omega) a.dir AWr.cuts AWr.marks AWr.cl AWr.ml AWr.mkl)
        clear AWr
        go_wp2_with fail
        refine (has_on I1.out.1 (by have := I1.out.2.2; omega)).mono ?_
        rintro _ w2 ⟨rfl, rfl⟩
        rw [hd]
        go_wp2_with (refine wpList_load_blk rfl 26 (.tmp 5) rfl rfl BC.out Try.underlying26 rfl CI.out ?_; refine Held.go ?_)
        refine ⟨?_⟩
        go_wp2_with fail
        refine Calls.mono Q.out ?_
        rintro _ w5 ⟨rfl, K5, h5, st5⟩
        have I2 := Lib.hid (show Has w5 b K5 (d.boot a.dir a.cuts a.marks) ∧ Stp [] K5 W w5 ∧ (d.boot a.dir a.cuts a.marks).ops ≤ 60 from ⟨h5, I1.out.2.1.trans st5, I1.out.2.2⟩)
        clear h5 st5 Q BC XW I1 hd
        generalize d.boot a.dir a.cuts a.marks = d1 at *
        obtain ⟨K1, rfl⟩ : ∃ K1, K1 = K5 := ⟨_, rfl⟩

        go_wp2_with fail
        refine (has_list I2.out.1 (by have := I2.out.2.2; omega)).mono ?_
        rintro _ w6 ⟨v, rfl, sw, x6⟩
        have sr := sw.sr I2.out.1.lt
        obtain ⟨nm, hnm⟩ : ∃ nm, nm = d1.list := ⟨_, rfl⟩
        rw [← hnm] at sr
        obtain ⟨vn, cn, rfl⟩ := sr.shape
        have NN : nm.length ≤ 60 := by
          have := I2.out.1.ok.dirL
          have := I2.out.2.2
          rw [hnm]
          unfold Dsk.list
          split
          · simp
          · rw [List.length_map]; omega
        have NL2 := Lib.hid (show ∀ s ∈ nm, s.length ≤ 64 by rw [hnm]; exact fun s hs => (list_len I2.out.1.ok s hs).1)
        have I0 := Lib.hid (show Has w6 b K1 d1 ∧ Stp [] K1 W w6 ∧ SR K1 w6 (.slice vn nm.length cn) nm ∧ SyncW nm 60 0 d1 from ⟨I2.out.1.ext x6, I2.out.2.1.then x6, sr, ⟨by have := I2.out.2.2; show d1.ops ≤ 60 + 0; omega, fun h => by rw [hnm]; unfold Dsk.list; rw [h]; rfl, .inr (fun s hs => by simp at hs)⟩⟩)
        clear sr sw x6 I2 hnm
        go_wp2_with fail
        go_loopw [12] (fun i wr => ∃ (k : Nat) (K : List Nat) (d' : Dsk), i = .int .i64 (k : Int) ∧ k ≤ nm.length ∧ RowKit.Hid (Has wr b K d' ∧ Stp [] K W wr ∧ SR K wr (.slice vn nm.length cn) nm ∧ SyncW nm 60 k d')) (fun i _ => nm.length - (intOf i).toNat)
        case atStart => exact ⟨0, K1, d1, rfl, Nat.zero_le _, I0⟩
        case round =>
          obtain ⟨k, K, d', rfl, hk, HS⟩ := hrel
          clear I0
          by_cases hlt : k < nm.length
          · have hI : (k : Int) < (nm.length : Int) := by omega
            obtain ⟨s, hs⟩ : ∃ s, nm[k]? = some s := ⟨_, List.getElem?_eq_getElem hlt⟩
            obtain ⟨g, o, rfl, c0⟩ := HS.out.2.2.1.cell hs
            have hsl := NL2.out s (List.mem_of_getElem? hs)
            have G1 := Lib.hid (HS.out.2.2.2.step HS.out.1.ok hs)
            have q := has_sync HS.out.1 (by have := HS.out.2.2.2.ops; omega) s (by unfold maxLen; omega)
            have Q := Lib.hid q
            have HKM := Lib.hid hlt
            clear q hs hsl hlt hk
            go_wp2_with fail
            refine Calls.mono Q.out ?_
            rintro _ w3 ⟨rfl, K', h3, st3⟩
            have I3 := Lib.hid (And.intro h3 (And.intro (HS.out.2.1.trans st3) (HS.out.2.2.1.stp st3)))
            clear h3 st3
            go_wp2_with fail
            go_roundw
            case rel => exact ⟨k + 1, K', _, by go_num, by have := HKM.out; omega, Lib.hid ⟨I3.out.1, I3.out.2.1, I3.out.2.2, G1.out⟩⟩
            case measure => simp [intOf]; have := HKM.out; omega
          · obtain rfl : k = nm.length := by omega
            clear hk
            have q := has_dirSync HS.out.1 (by have := HS.out.2.2.2.ops; omega)
            have WA := Lib.hid (fun h => whole_all HS.out.1.ok (Nat.le_refl _) HS.out.2.2.2 h)
            have OP := Lib.hid (show d'.dirSync.1.ops ≤ 121 from by
              have h1 := HS.out.2.2.2.ops
              have h2 : d'.dirSync.1.ops ≤ d'.ops + 1 := by
                unfold Dsk.dirSync
                split
                · show d'.ops ≤ _; omega
                split
                · exact Int.le_refl _
                · exact Int.le_refl _
              omega)
            have Q := Lib.hid q
            clear q
            go_wp2_with fail
            refine Calls.mono Q.out ?_
            rintro _ w3 ⟨rfl, K3, h3, st3⟩
            have I3 := Lib.hid (And.intro h3 (HS.out.2.1.trans st3))
            clear h3 st3 HS Q NL2
            generalize d'.dirSync.1 = d3 at *
            have ON := Lib.hid (has_on I3.out.1 (by have := OP.out; omega))
            cases hd3 : d3.dead with
            | true =>
              rw [hd3] at ON
              go_wp2_with fail
              refine ON.out.mono ?_
              rintro _ w4 ⟨rfl, rfl⟩
              go_wp2_with fail
              refine (QA.out _).mono ?_
              rintro _ w5 ⟨rfl, x5⟩
              go_wp2
              go_ret
              exact ⟨rfl, (X1.out.trans I3.out.2.ext).trans x5⟩
            | false =>
              rw [hd3] at ON
              have WA := Lib.hid (WA.out hd3)
              go_wp2_with fail
              refine ON.out.mono ?_
              rintro _ w4 ⟨rfl, rfl⟩
              go_wp2_with fail
              refine (all_any I3.out.1 (by have := OP.out; omega)).mono ?_
              rintro _ w4 ⟨v1, v2, rfl, sw1, sw2, x4⟩
              have sr1 := sw1.sr I3.out.1.lt
              have sr2 := sw2.sr I3.out.1.lt
              have LS := Lib.hid (list_short I3.out.1.ok (by have := OP.out; omega))
              have H4 := I3.out.1.ext x4
              have WE := Lib.hid (whole_end H4.names hd3 WA.out.1 WA.out.2.1 WA.out.2.2 a.dir a.cuts a.marks)
              have QO := Lib.hid (has_off H4 (by have := OP.out; omega))
              have I4 := Lib.hid (show Stp [] K3 W w4 ∧ SR K3 w4 v1 d3.list ∧ SR K3 w4 v2 (texts d3 d3.list) from ⟨I3.out.2.then x4, sr1, sr2⟩)
              clear sr1 sr2 sw1 sw2 x4 I3 H4 ON
              go_wp2_with fail
              refine Calls.mono QO.out ?_
              rintro _ w5 ⟨rfl, K5, h5, st5⟩
              have I5 := Lib.hid (show Has w5 b K5 d3.off ∧ Stp [] K5 W w5 ∧ SR K5 w5 v1 d3.list ∧ SR K5 w5 v2 (texts d3 d3.list) from ⟨h5, I4.out.1.trans st5, I4.out.2.1.stp st5, I4.out.2.2.stp st5⟩)
              clear h5 st5 I4 QO
              go_wp2_with fail
              refine (has_list I5.out.1 (by show d3.ops ≤ _; have := OP.out; omega)).mono ?_
              rintro _ w6 ⟨v6, rfl, sw6, x6⟩
              have hl6 : d3.off.list = [] := by simp [Dsk.list, Dsk.off]
              rw [hl6] at sw6
              obtain ⟨a6, c6, rfl⟩ := (sw6.sr (K := []) (by simp)).shape
              have I6 := Lib.hid (show Has w6 b K5 d3.off ∧ Stp [] K5 W w6 ∧ SR K5 w6 v1 d3.list ∧ SR K5 w6 v2 (texts d3 d3.list) from ⟨I5.out.1.ext x6, I5.out.2.1.then x6, I5.out.2.2.1.stp (Stp.of_ext x6), I5.out.2.2.2.stp (Stp.of_ext x6)⟩)
              have BC := Lib.hid (BW.out.ext I6.out.2.1.ext)
              have AWr := AW.out.ext (X1.out.trans I6.out.2.1.ext)
              have Q := Lib.hid (has_boot I6.out.1 (by show d3.ops ≤ _; have := OP.out; omega) a.dir AWr.cuts AWr.marks AWr.cl AWr.ml AWr.mkl)
              clear AWr sw6 hl6 x6 I5
              have h0 : ((([] : List (List UInt8)).length : Nat) : Int) = 0 := rfl
              go_wp2_with (refine wpList_load_blk_g (by kernel_rfl) 26 (.tmp 5) rfl rfl BC.out Try.underlying26 rfl CI.out ?_; refine Held.go ?_)
              refine ⟨?_⟩
              go_wp2_with fail
              refine Calls.mono Q.out ?_
              rintro _ w7 ⟨rfl, K7, h7, st7⟩
              have I7 := Lib.hid (show Has w7 b K7 (d3.off.boot a.dir a.cuts a.marks) ∧ Stp [] K7 W w7 ∧ SR K7 w7 v1 d3.list ∧ SR K7 w7 v2 (texts d3 d3.list) from ⟨h7, I6.out.2.1.trans st7, I6.out.2.2.1.stp st7, I6.out.2.2.2.stp st7⟩)
              clear h7 st7 I6 Q BC
              have OP7 := Lib.hid (show (d3.off.boot a.dir a.cuts a.marks).ops ≤ 121 from OP.out)
              generalize d3.off.boot a.dir a.cuts a.marks = d7 at *
              go_wp2_with fail
              refine (all_any I7.out.1 (by have := OP7.out; omega)).mono ?_
              rintro _ w8 ⟨v3, v4, rfl, sw3, sw4, x8⟩
              have sr3 := sw3.sr I7.out.1.lt
              have sr4 := sw4.sr I7.out.1.lt
              rw [WE.out.1] at sr3
              rw [WE.out.2.1] at sr4
              have PE := Lib.hid (show (if d7.dead = true then (0 : Int) else ((d7.chs.length : Nat) : Int)) = 0 by rw [WE.out.2.2.1, WE.out.2.2.2]; rfl)
              have TLn := Lib.hid (show ((texts d3 d3.list).length : Int) ≤ 1000000 by unfold texts; rw [List.length_map]; have := LS.out; omega)
              have I8 := Lib.hid (show Has w8 b K7 d7 ∧ Stp [] K7 W w8 ∧ SR K7 w8 v1 d3.list ∧ SR K7 w8 v2 (texts d3 d3.list) ∧ SR K7 w8 v3 d3.list ∧ SR K7 w8 v4 (texts d3 d3.list) from ⟨I7.out.1.ext x8, I7.out.2.1.then x8, I7.out.2.2.1.stp (Stp.of_ext x8), I7.out.2.2.2.stp (Stp.of_ext x8), sr3, sr4⟩)
              have LSi := Lib.hid (show (d3.list.length : Int) ≤ 1000000000 by have := LS.out; omega)
              clear sr3 sr4 sw3 sw4 x8 I7 WE WA LS
              generalize texts d3 d3.list = tx at *
              generalize d3.list = nl at *
              go_wp2_with fail
              refine (sameTexts_any nl nl v1 v3 _ I8.out.2.2.1.rr I8.out.2.2.2.2.1.rr LSi.out LSi.out).mono ?_
              rintro _ w9 ⟨rfl, x9⟩
              rw [show (nl == nl) = true from beq_self_eq_true _]
              have X9 := Lib.hid x9
              clear x9
              go_wp2_with fail
              refine (sameTexts_any tx tx v2 v4 _ (I8.out.2.2.2.1.rr.ext X9.out) (I8.out.2.2.2.2.2.rr.ext X9.out) (by have := TLn.out; omega) (by have := TLn.out; omega)).mono ?_
              rintro _ w10 ⟨rfl, x10⟩
              rw [show (tx == tx) = true from beq_self_eq_true _]
              have X10 := Lib.hid (X9.out.trans x10)
              clear x10
              have QP := has_pending (I8.out.1.ext X10.out) (by have := OP7.out; omega)
              rw [PE.out] at QP
              have QP := Lib.hid QP
              go_wp2_with fail
              refine Calls.mono QP.out ?_
              rintro _ w11 ⟨rfl, rfl⟩
              go_wp2_with fail
              refine (QA.out _).mono ?_
              rintro _ w12 ⟨rfl, x12⟩
              go_wp2
              go_ret
              exact ⟨rfl, ((X1.out.trans I8.out.2.1.ext).trans X10.out).trans x12⟩
      | false =>
        go_wp2_with fail
        refine (has_on I1.out.1 (by have := I1.out.2.2; omega)).mono ?_
        rintro _ w2 ⟨rfl, rfl⟩
        rw [hd]
        have I2 := Lib.hid I1.out
        clear I1 hd
        obtain ⟨K1, rfl⟩ : ∃ K1, K1 = K := ⟨_, rfl⟩
        generalize d = d1 at *

        go_wp2_with fail
        refine (has_list I2.out.1 (by have := I2.out.2.2; omega)).mono ?_
        rintro _ w6 ⟨v, rfl, sw, x6⟩
        have sr := sw.sr I2.out.1.lt
        obtain ⟨nm, hnm⟩ : ∃ nm, nm = d1.list := ⟨_, rfl⟩
        rw [← hnm] at sr
        obtain ⟨vn, cn, rfl⟩ := sr.shape
        have NN : nm.length ≤ 60 := by
          have := I2.out.1.ok.dirL
          have := I2.out.2.2
          rw [hnm]
          unfold Dsk.list
          split
          · simp
          · rw [List.length_map]; omega
        have NL2 := Lib.hid (show ∀ s ∈ nm, s.length ≤ 64 by rw [hnm]; exact fun s hs => (list_len I2.out.1.ok s hs).1)
        have I0 := Lib.hid (show Has w6 b K1 d1 ∧ Stp [] K1 W w6 ∧ SR K1 w6 (.slice vn nm.length cn) nm ∧ SyncW nm 60 0 d1 from ⟨I2.out.1.ext x6, I2.out.2.1.then x6, sr, ⟨by have := I2.out.2.2; show d1.ops ≤ 60 + 0; omega, fun h => by rw [hnm]; unfold Dsk.list; rw [h]; rfl, .inr (fun s hs => by simp at hs)⟩⟩)
        clear sr sw x6 I2 hnm
        go_wp2_with fail
        go_loopw [12] (fun i wr => ∃ (k : Nat) (K : List Nat) (d' : Dsk), i = .int .i64 (k : Int) ∧ k ≤ nm.length ∧ RowKit.Hid (Has wr b K d' ∧ Stp [] K W wr ∧ SR K wr (.slice vn nm.length cn) nm ∧ SyncW nm 60 k d')) (fun i _ => nm.length - (intOf i).toNat)
        case atStart => exact ⟨0, K1, d1, rfl, Nat.zero_le _, I0⟩
        case round =>
          obtain ⟨k, K, d', rfl, hk, HS⟩ := hrel
          clear I0
          by_cases hlt : k < nm.length
          · have hI : (k : Int) < (nm.length : Int) := by omega
            obtain ⟨s, hs⟩ : ∃ s, nm[k]? = some s := ⟨_, List.getElem?_eq_getElem hlt⟩
            obtain ⟨g, o, rfl, c0⟩ := HS.out.2.2.1.cell hs
            have hsl := NL2.out s (List.mem_of_getElem? hs)
            have G1 := Lib.hid (HS.out.2.2.2.step HS.out.1.ok hs)
            have q := has_sync HS.out.1 (by have := HS.out.2.2.2.ops; omega) s (by unfold maxLen; omega)
            have Q := Lib.hid q
            have HKM := Lib.hid hlt
            clear q hs hsl hlt hk
            go_wp2_with fail
            refine Calls.mono Q.out ?_
            rintro _ w3 ⟨rfl, K', h3, st3⟩
            have I3 := Lib.hid (And.intro h3 (And.intro (HS.out.2.1.trans st3) (HS.out.2.2.1.stp st3)))
            clear h3 st3
            go_wp2_with fail
            go_roundw
            case rel => exact ⟨k + 1, K', _, by go_num, by have := HKM.out; omega, Lib.hid ⟨I3.out.1, I3.out.2.1, I3.out.2.2, G1.out⟩⟩
            case measure => simp [intOf]; have := HKM.out; omega
          · obtain rfl : k = nm.length := by omega
            clear hk
            have q := has_dirSync HS.out.1 (by have := HS.out.2.2.2.ops; omega)
            have WA := Lib.hid (fun h => whole_all HS.out.1.ok (Nat.le_refl _) HS.out.2.2.2 h)
            have OP := Lib.hid (show d'.dirSync.1.ops ≤ 121 from by
              have h1 := HS.out.2.2.2.ops
              have h2 : d'.dirSync.1.ops ≤ d'.ops + 1 := by
                unfold Dsk.dirSync
                split
                · show d'.ops ≤ _; omega
                split
                · exact Int.le_refl _
                · exact Int.le_refl _
              omega)
            have Q := Lib.hid q
            clear q
            go_wp2_with fail
            refine Calls.mono Q.out ?_
            rintro _ w3 ⟨rfl, K3, h3, st3⟩
            have I3 := Lib.hid (And.intro h3 (HS.out.2.1.trans st3))
            clear h3 st3 HS Q NL2
            generalize d'.dirSync.1 = d3 at *
            have ON := Lib.hid (has_on I3.out.1 (by have := OP.out; omega))
            cases hd3 : d3.dead with
            | true =>
              rw [hd3] at ON
              go_wp2_with fail
              refine ON.out.mono ?_
              rintro _ w4 ⟨rfl, rfl⟩
              go_wp2_with fail
              refine (QA.out _).mono ?_
              rintro _ w5 ⟨rfl, x5⟩
              go_wp2
              go_ret
              exact ⟨rfl, (X1.out.trans I3.out.2.ext).trans x5⟩
            | false =>
              rw [hd3] at ON
              have WA := Lib.hid (WA.out hd3)
              go_wp2_with fail
              refine ON.out.mono ?_
              rintro _ w4 ⟨rfl, rfl⟩
              go_wp2_with fail
              refine (all_any I3.out.1 (by have := OP.out; omega)).mono ?_
              rintro _ w4 ⟨v1, v2, rfl, sw1, sw2, x4⟩
              have sr1 := sw1.sr I3.out.1.lt
              have sr2 := sw2.sr I3.out.1.lt
              have LS := Lib.hid (list_short I3.out.1.ok (by have := OP.out; omega))
              have H4 := I3.out.1.ext x4
              have WE := Lib.hid (whole_end H4.names hd3 WA.out.1 WA.out.2.1 WA.out.2.2 a.dir a.cuts a.marks)
              have QO := Lib.hid (has_off H4 (by have := OP.out; omega))
              have I4 := Lib.hid (show Stp [] K3 W w4 ∧ SR K3 w4 v1 d3.list ∧ SR K3 w4 v2 (texts d3 d3.list) from ⟨I3.out.2.then x4, sr1, sr2⟩)
              clear sr1 sr2 sw1 sw2 x4 I3 H4 ON
              go_wp2_with fail
              refine Calls.mono QO.out ?_
              rintro _ w5 ⟨rfl, K5, h5, st5⟩
              have I5 := Lib.hid (show Has w5 b K5 d3.off ∧ Stp [] K5 W w5 ∧ SR K5 w5 v1 d3.list ∧ SR K5 w5 v2 (texts d3 d3.list) from ⟨h5, I4.out.1.trans st5, I4.out.2.1.stp st5, I4.out.2.2.stp st5⟩)
              clear h5 st5 I4 QO
              go_wp2_with fail
              refine (has_list I5.out.1 (by show d3.ops ≤ _; have := OP.out; omega)).mono ?_
              rintro _ w6 ⟨v6, rfl, sw6, x6⟩
              have hl6 : d3.off.list = [] := by simp [Dsk.list, Dsk.off]
              rw [hl6] at sw6
              obtain ⟨a6, c6, rfl⟩ := (sw6.sr (K := []) (by simp)).shape
              have I6 := Lib.hid (show Has w6 b K5 d3.off ∧ Stp [] K5 W w6 ∧ SR K5 w6 v1 d3.list ∧ SR K5 w6 v2 (texts d3 d3.list) from ⟨I5.out.1.ext x6, I5.out.2.1.then x6, I5.out.2.2.1.stp (Stp.of_ext x6), I5.out.2.2.2.stp (Stp.of_ext x6)⟩)
              have BC := Lib.hid (BW.out.ext I6.out.2.1.ext)
              have AWr := AW.out.ext (X1.out.trans I6.out.2.1.ext)
              have Q := Lib.hid (has_boot I6.out.1 (by show d3.ops ≤ _; have := OP.out; omega) a.dir AWr.cuts AWr.marks AWr.cl AWr.ml AWr.mkl)
              clear AWr sw6 hl6 x6 I5
              have h0 : ((([] : List (List UInt8)).length : Nat) : Int) = 0 := rfl
              go_wp2_with (refine wpList_load_blk_g (by kernel_rfl) 26 (.tmp 5) rfl rfl BC.out Try.underlying26 rfl CI.out ?_; refine Held.go ?_)
              refine ⟨?_⟩
              go_wp2_with fail
              refine Calls.mono Q.out ?_
              rintro _ w7 ⟨rfl, K7, h7, st7⟩
              have I7 := Lib.hid (show Has w7 b K7 (d3.off.boot a.dir a.cuts a.marks) ∧ Stp [] K7 W w7 ∧ SR K7 w7 v1 d3.list ∧ SR K7 w7 v2 (texts d3 d3.list) from ⟨h7, I6.out.2.1.trans st7, I6.out.2.2.1.stp st7, I6.out.2.2.2.stp st7⟩)
              clear h7 st7 I6 Q BC
              have OP7 := Lib.hid (show (d3.off.boot a.dir a.cuts a.marks).ops ≤ 121 from OP.out)
              generalize d3.off.boot a.dir a.cuts a.marks = d7 at *
              go_wp2_with fail
              refine (all_any I7.out.1 (by have := OP7.out; omega)).mono ?_
              rintro _ w8 ⟨v3, v4, rfl, sw3, sw4, x8⟩
              have sr3 := sw3.sr I7.out.1.lt
              have sr4 := sw4.sr I7.out.1.lt
              rw [WE.out.1] at sr3
              rw [WE.out.2.1] at sr4
              have PE := Lib.hid (show (if d7.dead = true then (0 : Int) else ((d7.chs.length : Nat) : Int)) = 0 by rw [WE.out.2.2.1, WE.out.2.2.2]; rfl)
              have TLn := Lib.hid (show ((texts d3 d3.list).length : Int) ≤ 1000000 by unfold texts; rw [List.length_map]; have := LS.out; omega)
              have I8 := Lib.hid (show Has w8 b K7 d7 ∧ Stp [] K7 W w8 ∧ SR K7 w8 v1 d3.list ∧ SR K7 w8 v2 (texts d3 d3.list) ∧ SR K7 w8 v3 d3.list ∧ SR K7 w8 v4 (texts d3 d3.list) from ⟨I7.out.1.ext x8, I7.out.2.1.then x8, I7.out.2.2.1.stp (Stp.of_ext x8), I7.out.2.2.2.stp (Stp.of_ext x8), sr3, sr4⟩)
              have LSi := Lib.hid (show (d3.list.length : Int) ≤ 1000000000 by have := LS.out; omega)
              clear sr3 sr4 sw3 sw4 x8 I7 WE WA LS
              generalize texts d3 d3.list = tx at *
              generalize d3.list = nl at *
              go_wp2_with fail
              refine (sameTexts_any nl nl v1 v3 _ I8.out.2.2.1.rr I8.out.2.2.2.2.1.rr LSi.out LSi.out).mono ?_
              rintro _ w9 ⟨rfl, x9⟩
              rw [show (nl == nl) = true from beq_self_eq_true _]
              have X9 := Lib.hid x9
              clear x9
              go_wp2_with fail
              refine (sameTexts_any tx tx v2 v4 _ (I8.out.2.2.2.1.rr.ext X9.out) (I8.out.2.2.2.2.2.rr.ext X9.out) (by have := TLn.out; omega) (by have := TLn.out; omega)).mono ?_
              rintro _ w10 ⟨rfl, x10⟩
              rw [show (tx == tx) = true from beq_self_eq_true _]
              have X10 := Lib.hid (X9.out.trans x10)
              clear x10
              have QP := has_pending (I8.out.1.ext X10.out) (by have := OP7.out; omega)
              rw [PE.out] at QP
              have QP := Lib.hid QP
              go_wp2_with fail
              refine Calls.mono QP.out ?_
              rintro _ w11 ⟨rfl, rfl⟩
              go_wp2_with fail
              refine (QA.out _).mono ?_
              rintro _ w12 ⟨rfl, x12⟩
              go_wp2
              go_ret
              exact ⟨rfl, ((X1.out.trans I8.out.2.1.ext).trans X10.out).trans x12⟩
end Go.Proofs.Ytfipfljiohdlhaa
