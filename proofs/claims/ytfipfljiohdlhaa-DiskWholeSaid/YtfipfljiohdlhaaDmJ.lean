/- DiskSafe: the law's walk. -/
import Derived.Test.YtfipfljiohdlhaaDmI
namespace Go.Proofs.Ytfipfljiohdlhaa
set_option linter.unusedVariables false
set_option linter.unusedSimpArgs false
open Go.RowKit
attribute [local go_sem] S_size S_toList S_append S_extract S_beq S_bne S_empty S_nil

theorem few_of {w1 : World} {v : Value} {l : List ActD} {w : World} (h : RR actC 7 w v l) (ha : ∀ a ∈ l, ActW w a) (hl : (l.length : Int) ≤ 9223372036854775807) (x : Ext w w1) :
    Calls Try.prog 6 #[v] w1 fun e w' => e = .returned (.bool (decide (FewA l))) ∧ w1 = w' :=
  few_any (h.ext x) (fun a h => (ha a h).ext x) hl
set_option maxRecDepth 20000 in
set_option maxHeartbeats 8000000 in
theorem diskSafe_law (v1 : Value) (l : List ActD) (v2 : Value) (m : List ActD) (a : ActD) (w : World) (r1 : RR actC 7 w v1 l) (b1 : (l.length : Int) ≤ 9223372036854775807) (R1 : ∀ x ∈ l, ActW w x) (r2 : RR actC 7 w v2 m) (b2 : (m.length : Int) ≤ 9223372036854775807) (R2 : ∀ x ∈ m, ActW w x) (aw : ActW w a) (ac : chA a) :
    Calls Try.prog 3 #[v1, v2, .agg #[.int .i64 a.dir, a.vc, a.vm]] w fun e w' => e = .returned (.bool true) ∧ Ext w w' := by
  have QA := Lib.hid awake_any
  obtain ⟨p1, c1, rfl, _, _, s1⟩ := r1
  obtain ⟨p2, c2, rfl, _, _, s2⟩ := r2
  have RR1 : RR actC 7 w (.slice p1 l.length c1) l := ⟨p1, c1, rfl, by assumption, by assumption, s1⟩
  have RR2 : RR actC 7 w (.slice p2 m.length c2) m := ⟨p2, c2, rfl, by assumption, by assumption, s2⟩
  have Q1 := Lib.hid (fun (w1 : World) (x : Ext w w1) => few_of RR1 R1 b1 x)
  have Q2 := Lib.hid (fun (w1 : World) (x : Ext w w1) => few_of RR2 R2 b2 x)
  have X0 := Lib.hid ((Ext.refl w).alloc (.cells #[.int .i64 a.dir, a.vc, a.vm] 26))
  have B0 := Lib.hid (Blk.new w 26 #[.int .i64 a.dir, a.vc, a.vm])
  have CI := Lib.hid (show (Try.prog.info? 26).map (·.size) = some #[Value.int .i64 a.dir, a.vc, a.vm].size by kernel_rfl)
  have X1 := Lib.hid (X0.out.alloc (.cells (actC a).toArray 29))
  have q3 := few_of (w1 := (w.alloc (.cells #[.int .i64 a.dir, a.vc, a.vm] 26)).alloc (.cells (actC a).toArray 29)) (act_rr (a := a) (Blk.new (w.alloc (.cells #[.int .i64 a.dir, a.vc, a.vm] 26)) 29 (actC a).toArray)) (fun y hy => by rw [List.mem_singleton] at hy; subst hy; exact aw.ext X1.out) (by simp) (Ext.refl _)
  rw [World.size_alloc] at q3
  have BS := act_bs aw
  have EA : (actC a).toArray = #[.int .i64 0, .int .i64 0, .string (S []), .string (S []), .int .i64 a.dir, a.vc, a.vm] := by
    obtain ⟨h1, h2, h3, h4⟩ := ac
    unfold actC
    rw [h1, h2, h3, h4]
  rw [EA] at q3 BS X1
  have Q3 := Lib.hid q3
  have AW := Lib.hid aw
  have S1 := Lib.hid s1
  have S2 := Lib.hid s2
  have HR1 := Lib.hid R1
  have HR2 := Lib.hid R2
  have RR2 := Lib.hid RR2
  clear q3 EA aw ac R1 R2 RR1 s1 s2

  by_cases f1 : ¬ FewA l
  · rw [decide_eq_false f1] at Q1
    go_enter Try.func3, Try.ntmps3
    go_wp2_with fail
    refine (Q1.out _ X0.out).mono ?_
    rintro _ w1 ⟨rfl, rfl⟩
    go_wp2_with fail
    refine (QA.out _).mono ?_
    rintro _ w2 ⟨rfl, x2⟩
    go_wp2
    go_ret
    exact ⟨rfl, X0.out.trans x2⟩
  have f1 := Decidable.not_not.1 f1
  rw [decide_eq_true f1] at Q1
  by_cases f2 : ¬ FewA m
  · rw [decide_eq_false f2] at Q2
    go_enter Try.func3, Try.ntmps3
    go_wp2_with fail
    refine (Q1.out _ X0.out).mono ?_
    rintro _ w1 ⟨rfl, rfl⟩
    go_wp2_with fail
    refine (Q2.out _ X0.out).mono ?_
    rintro _ w1 ⟨rfl, rfl⟩
    go_wp2_with fail
    refine (QA.out _).mono ?_
    rintro _ w2 ⟨rfl, x2⟩
    go_wp2
    go_ret
    exact ⟨rfl, X0.out.trans x2⟩
  have f2 := Decidable.not_not.1 f2
  rw [decide_eq_true f2] at Q2
  by_cases f3 : ¬ FewA [a]
  · rw [decide_eq_false f3] at Q3
    go_enter Try.func3, Try.ntmps3
    go_wp2_with fail
    refine (Q1.out _ X0.out).mono ?_
    rintro _ w1 ⟨rfl, rfl⟩
    go_wp2_with fail
    refine (Q2.out _ X0.out).mono ?_
    rintro _ w1 ⟨rfl, rfl⟩
    go_wp2_with (refine wpList_load_blk_g (by kernel_rfl) 26 (.tmp 5) rfl rfl B0.out Try.underlying26 rfl CI.out ?_; refine Held.go ?_)
    refine ⟨?_⟩
    go_wp2_with (refine wpList_bs_g (vs := #[(0, .agg #[.int .i64 0, .int .i64 0, .string (S []), .string (S []), .int .i64 a.dir, a.vc, a.vm])]) (by kernel_rfl) 22 1 _ rfl rfl (BS _) ?_; refine Held.go ?_)
    refine ⟨?_⟩
    go_wp2_with fail
    refine (Q3.out).mono ?_
    rintro _ w1 ⟨rfl, rfl⟩
    go_wp2_with fail
    refine (QA.out _).mono ?_
    rintro _ w2 ⟨rfl, x2⟩
    go_wp2
    go_ret
    exact ⟨rfl, X1.out.trans x2⟩
  have f3 := Decidable.not_not.1 f3
  rw [decide_eq_true f3] at Q3
  go_enter Try.func3, Try.ntmps3
  go_wp2_with fail
  refine (Q1.out _ X0.out).mono ?_
  rintro _ w1 ⟨rfl, rfl⟩
  go_wp2_with fail
  refine (Q2.out _ X0.out).mono ?_
  rintro _ w1 ⟨rfl, rfl⟩
  go_wp2_with (refine wpList_load_blk_g (by kernel_rfl) 26 (.tmp 5) rfl rfl B0.out Try.underlying26 rfl CI.out ?_; refine Held.go ?_)
  refine ⟨?_⟩
  go_wp2_with (refine wpList_bs_g (vs := #[(0, .agg #[.int .i64 0, .int .i64 0, .string (S []), .string (S []), .int .i64 a.dir, a.vc, a.vm])]) (by kernel_rfl) 22 1 _ rfl rfl (BS _) ?_; refine Held.go ?_)
  refine ⟨?_⟩
  go_wp2_with fail
  refine (Q3.out).mono ?_
  rintro _ w1 ⟨rfl, rfl⟩
  go_wp2_with fail
  refine (has_new 10000 _ (by decide) (by decide)).mono ?_
  rintro _ w1 ⟨b, rfl, K0, h0, st0⟩
  have NL := few_len f1
  have NM := few_len f2
  have BW := Lib.hid (B0.out.alloc (.cells #[.int .i64 0, .int .i64 0, .string (S []), .string (S []), .int .i64 a.dir, a.vc, a.vm] 29))
  clear f1 f2 f3 Q1 Q2 Q3 BS B0 X0
  generalize (w.alloc (.cells #[.int .i64 a.dir, a.vc, a.vm] 26)).alloc (.cells #[.int .i64 0, .int .i64 0, .string (S []), .string (S []), .int .i64 a.dir, a.vc, a.vm] 29) = W at *
  have I0 := Lib.hid (And.intro h0 st0)
  clear h0 st0
  go_wp2_with fail
  go_loopw [9] (fun i wr => ∃ (k : Nat) (K : List Nat) (d : Dsk), i = .int .i64 (k : Int) ∧ k ≤ l.length ∧ RowKit.Hid (Has wr b K d ∧ Stp [] K W wr ∧ Calm d k)) (fun i _ => l.length - (intOf i).toNat)
  case atStart => exact ⟨0, K0, _, rfl, Nat.zero_le _, Lib.hid ⟨I0.out.1, I0.out.2, Calm.new _⟩⟩
  case round =>
    obtain ⟨k, K, d, rfl, hk, HS⟩ := hrel
    clear I0
    by_cases hlt : k < l.length
    · have hI : (k : Int) < (l.length : Int) := by omega
      obtain ⟨g, o, rfl, hc⟩ := S1.out (by omega)
      obtain ⟨x, hx⟩ : ∃ x, l[k]? = some x := ⟨_, List.getElem?_eq_getElem hlt⟩
      have XW := Lib.hid (X1.out.trans HS.out.2.1.ext)
      have RA := Lib.hid (rangeAt_ext (hc k x hx) XW.out)
      have c0 := RA.out 0 _ rfl
      rw [Nat.add_zero] at c0
      have ZA := Lib.hid (show (Try.prog.info? 29).map (·.size) = some (actC x).length by kernel_rfl)
      have q := has_do HS.out.1 (by have := HS.out.2.2.ops; omega) ((HR1.out x (List.mem_of_getElem? hx)).ext XW.out)
      have ACT := Lib.hid (fun h7 h8 => HS.out.2.2.act (a := x) h7 h8)
      have HKM := Lib.hid hlt
      clear hc hx hlt hk
      have Q := Lib.hid q
      clear q
      generalize x.kind = kind at *
      generalize actC x = L at *
      by_cases h8 : kind = 8
      · subst h8
        clear Q
        go_wp2_with fail
        go_roundw
        case rel => exact ⟨k + 1, K, d, by go_num, by have := HKM.out; omega, Lib.hid ⟨HS.out.1, HS.out.2.1, HS.out.2.2.le (by omega)⟩⟩
        case measure => simp [intOf]; have := HKM.out; omega
      by_cases h7 : kind = 7
      · subst h7
        clear Q h8
        go_wp2_with fail
        go_roundw
        case rel => exact ⟨k + 1, K, d, by go_num, by have := HKM.out; omega, Lib.hid ⟨HS.out.1, HS.out.2.1, HS.out.2.2.le (by omega)⟩⟩
        case measure => simp [intOf]; have := HKM.out; omega
      have CA := Lib.hid (ACT.out h7 h8)
      have n8 : (kind != 8) = true := by simpa using h8
      have n7 : (kind != 7) = true := by simpa using h7
      clear ACT
      go_wp2_with (refine wpList_load_mid rfl 29 (.tmp 67) rfl g _ rfl _ _ RA.out Try.underlying29 rfl ZA.out ?_; refine Held.go ?_)
      refine ⟨?_⟩
      go_wp2_with fail
      refine Calls.mono Q.out ?_
      rintro _ w2 ⟨rfl, K', h2, st2⟩
      have I2 := Lib.hid (And.intro h2 (And.intro (HS.out.2.1.trans st2) CA.out))
      clear h2 st2 CA
      go_wp2_with fail
      go_roundw
      case rel => exact ⟨k + 1, K', _, by go_num, by have := HKM.out; omega, Lib.hid ⟨I2.out.1, I2.out.2.1, I2.out.2.2.le (by omega)⟩⟩
      case measure => simp [intOf]; have := HKM.out; omega
    · obtain rfl : k = l.length := by omega
      clear hk S1 HR1
      have CD := Lib.hid (HS.out.2.2.le (show ((l.length : Nat) : Int) ≤ 60 by omega))
      go_wp2_with fail
      refine (has_list HS.out.1 (by have := CD.out.ops; omega)).mono ?_
      rintro _ w2 ⟨v, rfl, sw, x2⟩
      have sr := sw.sr HS.out.1.lt
      obtain ⟨nm, hnm⟩ : ∃ nm, nm = d.list := ⟨_, rfl⟩
      rw [← hnm] at sr
      obtain ⟨vn, cn, rfl⟩ := sr.shape
      have NN : nm.length ≤ 60 := by
        have := HS.out.1.ok.dirL
        have := CD.out.ops
        rw [hnm, CD.out.list, List.length_map]; omega
      have NE := Lib.hid (show nm = d.dir.map (·.1) by rw [hnm]; exact CD.out.list)
      have NL2 := Lib.hid (show ∀ s ∈ nm, s.length ≤ 64 by rw [hnm]; exact fun s hs => (list_len HS.out.1.ok s hs).1)
      have I0 := Lib.hid (show Has w2 b K d ∧ Stp [] K W w2 ∧ SR K w2 (.slice vn nm.length cn) nm ∧ Syncd d 0 d from ⟨HS.out.1.ext x2, HS.out.2.1.then x2, sr, ⟨CD.out.le (by omega), rfl, fun s hs => by simp at hs⟩⟩)
      clear sr sw x2 HS hnm
      go_wp2_with fail
      go_loopw [11] (fun i wr => ∃ (k : Nat) (K : List Nat) (d' : Dsk), i = .int .i64 (k : Int) ∧ k ≤ nm.length ∧ RowKit.Hid (Has wr b K d' ∧ Stp [] K W wr ∧ SR K wr (.slice vn nm.length cn) nm ∧ Syncd d k d')) (fun i _ => nm.length - (intOf i).toNat)
      case atStart => exact ⟨0, K, d, rfl, Nat.zero_le _, I0⟩
      case round =>
        obtain ⟨k, K, d', rfl, hk, HS⟩ := hrel
        clear I0
        by_cases hlt : k < nm.length
        · have hI : (k : Int) < (nm.length : Int) := by omega
          obtain ⟨s, hs⟩ : ∃ s, nm[k]? = some s := ⟨_, List.getElem?_eq_getElem hlt⟩
          obtain ⟨g, o, rfl, c0⟩ := HS.out.2.2.1.cell hs
          have hsl := NL2.out s (List.mem_of_getElem? hs)
          have g1 := HS.out.2.2.2.step HS.out.1.ok (by rw [← NE.out]; exact hs)
          have q := has_sync HS.out.1 (by have := HS.out.2.2.2.calm.ops; omega) s (by unfold maxLen; omega)
          rw [g1.1] at q
          have Q := Lib.hid q
          have G1 := Lib.hid g1.2
          have HKM := Lib.hid hlt
          clear q g1 hs hsl hlt hk
          go_wp2_with fail
          refine Calls.mono Q.out ?_
          rintro _ w3 ⟨rfl, K', h3, st3⟩
          have I3 := Lib.hid (And.intro h3 (And.intro (HS.out.2.1.trans st3) (HS.out.2.2.1.stp st3)))
          clear h3 st3
          go_wp2_with fail
          go_roundw
          case rel => exact ⟨k + 1, K', _, by go_num, by have := HKM.out; omega, Lib.hid ⟨I3.out.1, I3.out.2.1, I3.out.2.2, G1.out⟩⟩
          case measure => simp [intOf]; have := HKM.out; omega
        · obtain rfl : k = nm.length := by omega
          clear hk
          have SY := Lib.hid (synced_all HS.out.1.ok HS.out.2.2.2.calm (by
            have h := HS.out.2.2.2.firm
            rw [HS.out.2.2.2.dir, ← NE.out]
            rw [← NE.out, List.take_length] at h
            exact h))
          have q := has_dirSync HS.out.1 (by have := HS.out.2.2.2.calm.ops; omega)
          rw [SY.out.1] at q
          have SY := Lib.hid SY.out.2
          have Q := Lib.hid q
          clear q
          go_wp2_with fail
          refine Calls.mono Q.out ?_
          rintro _ w3 ⟨rfl, K3, h3, st3⟩
          have I3 := Lib.hid (And.intro h3 (HS.out.2.1.trans st3))
          clear h3 st3 HS Q NE NL2 CD
          generalize d'.dirSync.1 = d3 at *
          have HO3 : d3.ops ≤ 121 := by have := SY.out.1.ops; omega
          go_wp2_with fail
          refine (all_any I3.out.1 (by omega)).mono ?_
          rintro _ w4 ⟨v1, v2, rfl, sw1, sw2, x4⟩
          have sr1 := sw1.sr I3.out.1.lt
          have sr2 := sw2.sr I3.out.1.lt
          obtain ⟨tx, htx⟩ : ∃ tx, tx = texts d3 d3.list := ⟨_, rfl⟩
          obtain ⟨ws, hws⟩ : ∃ ws, ws = d3.list := ⟨_, rfl⟩
          rw [← htx] at sr2
          rw [← hws] at sr1
          obtain ⟨va, ca, rfl⟩ := sr1.shape
          obtain ⟨vb, cb, rfl⟩ := sr2.shape
          have TL : tx.length = ws.length := by rw [htx, hws]; unfold texts; rw [List.length_map]
          have TX := Lib.hid (show ∀ k s, ws[k]? = some s → tx[k]? = some (d3.read s).1 from fun k s h => by rw [htx]; unfold texts; rw [List.getElem?_map, ← hws, h]; rfl)
          have KP := Lib.hid (show ∀ s ∈ ws, s.length ≤ 64 ∧ ∃ n, Kept s n (d3.read s).1 d3 from fun s hs => ⟨(list_len I3.out.1.ok s (hws ▸ hs)).1, SY.out.2 s (hws ▸ hs)⟩)
          have TS := Lib.hid (show ∀ s, (d3.read s).1.length ≤ 1000000 from fun s => read_len I3.out.1.ok s)
          have WL : ws.length ≤ 121 := by
            have := I3.out.1.ok.dirL
            have e : ws.length = d3.dir.length := by rw [hws, SY.out.1.list, List.length_map]
            omega
          have OK3 := Lib.hid I3.out.1.ok
          have I4 := Lib.hid (show Has w4 b K3 (d3.acts (m.take 0)) ∧ Stp [] K3 W w4 ∧ SR K3 w4 (.slice va ws.length ca) ws ∧ SR K3 w4 (.slice vb tx.length cb) tx from ⟨I3.out.1.ext x4, I3.out.2.then x4, sr1, sr2⟩)
          clear sr1 sr2 sw1 sw2 x4 I3 htx hws SY
          go_wp2_with fail
          go_loopw [14] (fun i wr => ∃ (k : Nat) (K : List Nat), i = .int .i64 (k : Int) ∧ k ≤ m.length ∧ RowKit.Hid (Has wr b K (d3.acts (m.take k)) ∧ Stp [] K W wr ∧ SR K wr (.slice va ws.length ca) ws ∧ SR K wr (.slice vb tx.length cb) tx)) (fun i _ => m.length - (intOf i).toNat)
          case atStart => exact ⟨0, K3, rfl, Nat.zero_le _, I4⟩
          case round =>
            obtain ⟨k, K, rfl, hk, HS⟩ := hrel
            clear I4
            by_cases hlt : k < m.length
            · have hI : (k : Int) < (m.length : Int) := by omega
              obtain ⟨g, o, rfl, hc⟩ := S2.out (by omega)
              obtain ⟨x, hx⟩ : ∃ x, m[k]? = some x := ⟨_, List.getElem?_eq_getElem hlt⟩
              have XW := Lib.hid (X1.out.trans HS.out.2.1.ext)
              have RA := Lib.hid (rangeAt_ext (hc k x hx) XW.out)
              have ZA := Lib.hid (show (Try.prog.info? 29).map (·.size) = some (actC x).length by kernel_rfl)
              have q := has_do HS.out.1 (by have := acts_ops d3 (m.take k); rw [List.length_take] at this; omega) ((HR2.out x (List.mem_of_getElem? hx)).ext XW.out)
              rw [← acts_next hx] at q
              have HKM := Lib.hid hlt
              clear hc hx hlt hk
              have Q := Lib.hid q
              clear q
              generalize actC x = L at *
              go_wp2_with (refine wpList_load_mid rfl 29 (.tmp 102) rfl g _ rfl _ _ RA.out Try.underlying29 rfl ZA.out ?_; refine Held.go ?_)
              refine ⟨?_⟩
              go_wp2_with fail
              refine Calls.mono Q.out ?_
              rintro _ w5 ⟨rfl, K', h5, st5⟩
              have I5 := Lib.hid (And.intro h5 (And.intro (HS.out.2.1.trans st5) (And.intro (HS.out.2.2.1.stp st5) (HS.out.2.2.2.stp st5))))
              clear h5 st5
              go_wp2_with fail
              go_roundw
              case rel => exact ⟨k + 1, K', by go_num, by have := HKM.out; omega, I5⟩
              case measure => simp [intOf]; have := HKM.out; omega
            · obtain rfl : k = m.length := by omega
              rw [List.take_length] at HS
              clear hk
              have BC := Lib.hid (BW.out.ext HS.out.2.1.ext)
              have XW := Lib.hid (X1.out.trans HS.out.2.1.ext)
              have AWr := AW.out.ext XW.out
              have Q := Lib.hid (has_boot HS.out.1 (by have := acts_ops d3 m; omega) a.dir AWr.cuts AWr.marks AWr.cl AWr.ml AWr.mkl)
              clear AWr
              go_wp2_with (refine wpList_load_blk rfl 26 (.tmp 5) rfl rfl BC.out Try.underlying26 rfl CI.out ?_; refine Held.go ?_)
              refine ⟨?_⟩
              go_wp2_with fail
              refine Calls.mono Q.out ?_
              rintro _ w5 ⟨rfl, K5, h5, st5⟩
              have SE := Lib.hid (fun (s : List UInt8) (hs : s ∈ ws) (ho : m.any (oursB s) = false) => safe_end OK3.out (KP.out s hs).2 (fun y hy => (HR2.out y hy).n1) ho a.dir a.cuts a.marks)
              have OP5 := Lib.hid (show ((d3.acts m).boot a.dir a.cuts a.marks).ops ≤ 1000000 from by show (d3.acts m).ops ≤ _; have := acts_ops d3 m; omega)
              have I5 := Lib.hid (And.intro h5 (And.intro (X1.out.trans (HS.out.2.1.trans st5).ext) (And.intro (HS.out.2.2.1.stp st5) (HS.out.2.2.2.stp st5))))
              clear h5 st5 HS Q BC XW
              generalize (d3.acts m).boot a.dir a.cuts a.marks = d5 at *
              go_wp2_with fail
              go_loopw [15] (fun i wr => ∃ (k : Nat), i = .int .i64 (k : Int) ∧ k ≤ ws.length ∧ RowKit.Hid (Ext w5 wr)) (fun i _ => ws.length - (intOf i).toNat)
              case atStart => exact ⟨0, rfl, Nat.zero_le _, Lib.hid (Ext.refl _)⟩
              case round =>
                obtain ⟨k, rfl, hk, HX⟩ := hrel
                by_cases hlt : k < ws.length
                · have hI : (k : Int) < (ws.length : Int) := by omega
                  obtain ⟨s, hs⟩ : ∃ s, ws[k]? = some s := ⟨_, List.getElem?_eq_getElem hlt⟩
                  obtain ⟨g, o, rfl, c0⟩ := (I5.out.2.2.1.stp (Stp.of_ext HX.out)).cell hs
                  obtain ⟨g2, o2, rfl, c2⟩ := (I5.out.2.2.2.stp (Stp.of_ext HX.out)).cell (TX.out k s hs)
                  have hm := List.mem_of_getElem? hs
                  have hsl := (KP.out s hm).1
                  have htl := TS.out s
                  have SEs := Lib.hid (SE.out s hm)
                  have HKM := Lib.hid hlt
                  have QO := Lib.hid (fun (w6 : World) (x6 : Ext w w6) => ours_any (RR2.out.ext x6) (fun y hy => (HR2.out y hy).ext x6) (by omega) s)
                  have QR := Lib.hid (fun (w6 : World) (x6 : Ext w5 w6) => has_read (I5.out.1.ext x6) OP5.out s (by unfold maxLen; omega))
                  clear hs hm hlt hk
                  generalize (d3.read s).1 = T at *
                  cases hob : m.any (oursB s) with
                  | true =>
                    rw [hob] at QO
                    clear SEs hob
                    go_wp2_with fail
                    refine (QO.out _ (I5.out.2.1.trans HX.out)).mono ?_
                    rintro _ w6 ⟨rfl, x6⟩
                    have HX6 := Lib.hid (HX.out.trans x6)
                    clear x6
                    go_wp2_with fail
                    go_roundw
                    case rel => exact ⟨k + 1, by go_num, by have := HKM.out; omega, HX6⟩
                    case measure => simp [intOf]; have := HKM.out; omega
                  | false =>
                    rw [hob] at QO
                    obtain ⟨x, e1, e2, e3⟩ := SEs.out hob
                    rw [e1] at QR
                    clear SEs hob e1
                    go_wp2_with fail
                    refine (QO.out _ (I5.out.2.1.trans HX.out)).mono ?_
                    rintro _ w6 ⟨rfl, x6⟩
                    have HX6 := Lib.hid (HX.out.trans x6)
                    have c0' := Go.cell_later x6 c0
                    have c2' := up_cell (Go.cell_later x6 c2)
                    clear x6 c0 c2
                    go_wp2_with fail
                    refine (QR.out _ HX6.out).mono ?_
                    rintro _ w7 ⟨rfl, rfl⟩
                    have E2 := Lib.hid e2
                    have E3 := Lib.hid e3
                    clear e2 e3
                    go_wp2_with fail
                    have e2 : ¬ (x.length : Int) < (T.length : Int) := by have := E2.out; omega
                    have e2' : decide ((x.length : Int) < (T.length : Int)) = false := decide_eq_false e2
                    have e3 := E3.out
                    have e3' : (T == T) = true := by simp
                    have e4 : (T.length : Int) ≤ (x.length : Int) := by have := E2.out; omega
                    refine wp_region_up (by kernel_rfl) (by kernel_rfl) ?_
                    repeat (go_big_quiet_step (fail))
                    refine wpQuiet_nil ?_
                    rintro _ ⟨z, rfl⟩
                    have HX7 := Lib.hid (HX6.out.trans z.ext)
                    go_wp2_with fail
                    go_roundw
                    case rel => exact ⟨k + 1, by go_num, by have := HKM.out; omega, HX7⟩
                    case measure => simp [intOf]; have := HKM.out; omega
                · obtain rfl : k = ws.length := by omega
                  clear hk
                  go_wp2_with fail
                  refine (QA.out _).mono ?_
                  rintro _ w6 ⟨rfl, x6⟩
                  go_wp2
                  go_ret
                  exact ⟨rfl, (I5.out.2.1.trans HX.out).trans x6⟩
end Go.Proofs.Ytfipfljiohdlhaa
