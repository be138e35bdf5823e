/- CrcTurned: the plain law and the law's walk. -/
import Derived.Test.YtahnjfbcklifoaaCrcL2
import Derived.RegionTactic
namespace Go.Proofs.Ytahnjfbcklifoaa
set_option linter.unusedVariables false
set_option linter.unusedSimpArgs false
open Go.RowKit
attribute [local go_sem] U8_fold U8_toNat u32_xor u32_and u8_xor8 u8_of_u32 u32_of_u8 u32_xor_u8 u32_mod256 u32_shr1 u32_shr8 u32_beq u32_and1 u32_beq1 u32_not signed_u32 signed_u8 xor_poly u32_tmod2 u32_mod2 u32_tmod256 u32_wrap u32_tdiv2 u32_tdiv256 u32_max_sub u32_bne u32_beq0

theorem restE_halfs (c : UInt32) (b : UInt8) : restE c b = halfs 8 (c ^^^ UInt32.ofNat b.toNat) := by
  have hb : (UInt32.ofNat b.toNat).toNat = b.toNat := by
    rw [UInt32.toNat_ofNat']; have := b.toNat_lt; omega
  have := serial 8 c (UInt32.ofNat b.toNat) (by rw [hb]; exact b.toNat_lt)
  rw [hb] at this
  rw [rest_serial]; exact this
theorem ofNat_xor8 (a b : UInt8) : UInt32.ofNat (a ^^^ b).toNat = UInt32.ofNat a.toNat ^^^ UInt32.ofNat b.toNat := by
  apply UInt32.toNat_inj.1
  have := (a ^^^ b).toNat_lt
  have := a.toNat_lt
  have := b.toNat_lt
  rw [UInt32.toNat_xor, UInt32.toNat_ofNat', UInt32.toNat_ofNat', UInt32.toNat_ofNat', Nat.mod_eq_of_lt (by omega), Nat.mod_eq_of_lt (by omega), Nat.mod_eq_of_lt (by omega), UInt8.toNat_xor]
theorem restE_xor (c d : UInt32) (a b : UInt8) : restE (c ^^^ d) (a ^^^ b) = restE c a ^^^ restE d b := by
  rw [restE_halfs, restE_halfs, restE_halfs, ofNat_xor8, ← halfs_xor]
  congr 1
  ac_rfl
/-- bytes held against bytes -/
def xorL (a b : List UInt8) : List UInt8 := List.zipWith (fun x y => x ^^^ y) a b
theorem restL_xor : ∀ (a b : List UInt8) (c d : UInt32), a.length = b.length → restL theTab (c ^^^ d) (xorL a b) = restL theTab c a ^^^ restL theTab d b
  | [], [], _, _, _ => rfl
  | x :: a, y :: b, c, d, h => by
    have := restL_xor a b (restE c x) (restE d y) (by simpa using h)
    simp only [restL, xorL, List.zipWith_cons_cons, List.foldl_cons, rest_theTab, restE_xor] at this ⊢
    exact this
theorem restL_nought (n : Nat) : restL theTab 0 (List.replicate n 0) = 0 := by
  induction n with
  | zero => rfl
  | succ n ih => rw [restL_rep, ih, rest_theTab, restE_halfs]; simp [halfs_zero]
theorem not_xor (a b : UInt32) : ~~~ (a ^^^ b) = ~~~ a ^^^ b := by
  apply UInt32.toBitVec_inj.1
  simp only [UInt32.toBitVec_not, UInt32.toBitVec_xor]
  exact BitVec.not_xor_left

/-- a text that is changed at a place, so far -/
def xorTo (l : List UInt8) (a : Nat) (ch : List UInt8) : Nat → List UInt8
  | 0 => l
  | k + 1 => (xorTo l a ch k).set (a + k) ((xorTo l a ch k).getD (a + k) 0 ^^^ ch.getD k 0)
theorem xorTo_length (l : List UInt8) (a : Nat) (ch : List UInt8) (k : Nat) : (xorTo l a ch k).length = l.length := by
  induction k with
  | zero => rfl
  | succ k ih => simp [xorTo, ih]
theorem xorTo_get (l : List UInt8) (a : Nat) (ch : List UInt8) (i : Nat) (k : Nat) (hk : a + k ≤ l.length) :
    (xorTo l a ch k)[i]? = if a ≤ i ∧ i < a + k then some (l.getD i 0 ^^^ ch.getD (i - a) 0) else l[i]? := by
  induction k with
  | zero => rw [if_neg (by omega)]; rfl
  | succ k ih =>
    have ih := ih (by omega)
    simp only [xorTo]
    rw [List.getElem?_set]
    by_cases e : a + k = i
    · subst e
      rw [if_pos rfl, if_pos (by rw [xorTo_length]; omega), if_pos (by omega), show a + k - a = k by omega]
      simp only [List.getD, ih, if_neg (show ¬ (a ≤ a + k ∧ a + k < a + k) by omega)]
    · rw [if_neg e, ih]
      by_cases h : a ≤ i ∧ i < a + k
      · rw [if_pos h, if_pos (by omega)]
      · rw [if_neg h, if_neg (by omega)]
theorem xorTo_all (l ch : List UInt8) (a : Nat) (h : a + ch.length ≤ l.length) :
    xorTo l a ch ch.length = xorL l (List.replicate a 0 ++ ch ++ List.replicate (l.length - a - ch.length) 0) := by
  apply List.ext_getElem?
  intro i
  rw [xorTo_get l a ch i ch.length h]
  unfold xorL
  rw [List.getElem?_zipWith, List.getElem?_append, List.getElem?_append]
  simp only [List.length_append, List.length_replicate]
  by_cases hi : i < l.length
  · rw [List.getElem?_eq_getElem hi]
    by_cases h1 : i < a
    · rw [if_neg (by omega), if_pos (by omega), if_pos h1]
      simp [h1]
    · by_cases h2 : i < a + ch.length
      · rw [if_pos (by omega), if_pos (by omega), if_neg h1]
        simp [hi, show i - a < ch.length by omega]
      · rw [if_neg (by omega), if_neg (by omega), List.getElem?_replicate, if_pos (by omega)]
        simp
  · rw [if_neg (by omega), List.getElem?_eq_none (by omega)]
/-- **the sum of a changed text** -/
theorem turned_told (l ch : List UInt8) (a : Nat) (c : UInt32) (h : a + ch.length ≤ l.length) :
    ~~~ restL theTab c l ^^^ restL theTab (restL theTab 0 ch) (List.replicate (l.length - a - ch.length) 0) = ~~~ restL theTab c (xorTo l a ch ch.length) := by
  rw [xorTo_all l ch a h]
  have := restL_xor l (List.replicate a 0 ++ ch ++ List.replicate (l.length - a - ch.length) 0) c 0 (by simp; omega)
  rw [UInt32.xor_zero] at this
  rw [this, not_xor]
  congr 1
  have app : ∀ c (x y : List UInt8), restL theTab c (x ++ y) = restL theTab (restL theTab c x) y := fun c x y => List.foldl_append
  rw [app, app, restL_nought]

set_option maxRecDepth 20000 in
set_option maxHeartbeats 1000000 in
theorem crcTurned_out (s ch : ByteArray) (at_ : Int) (w : World) (hs : s.size ≤ maxLen) (hc : ch.size ≤ maxLen)
    (h : (5000 : Int) < s.size ∨ (¬ (5000 : Int) < s.size ∧ at_ < 0) ∨ (¬ (5000 : Int) < s.size ∧ ¬ at_ < 0 ∧ (s.size : Int) < at_) ∨
      (¬ (5000 : Int) < s.size ∧ ¬ at_ < 0 ∧ ¬ (s.size : Int) < at_ ∧ (s.size : Int) - at_ < ch.size)) :
    Calls Try.prog 7 #[.string s, .string ch, .int .i64 at_] w fun e w' => e = .returned (.bool true) ∧ Ext w w' := by
  unfold maxLen at hs hc
  rcases h with h1 | ⟨h1, h2⟩ | ⟨h1, h2, h3⟩ | ⟨h1, h2, h3, h4⟩
  all_goals
    go_enter Try.func7, Try.ntmps7
    go_wp2_with (go_at_call 15; refine (awake05 _).mono ?_; rintro e w' ⟨rfl, hx⟩)
    go_ret
    exact ⟨rfl, hx⟩

set_option maxRecDepth 20000 in
set_option maxHeartbeats 1000000 in
theorem crcTurned_in (s ch : ByteArray) (at_ : Nat) (w : World) (h1 : s.size ≤ 5000) (h2 : at_ + ch.size ≤ s.size) :
    Calls Try.prog 7 #[.string s, .string ch, .int .i64 (at_ : Int)] w fun e w' => e = .returned (.bool true) ∧ Ext w w' := by
  obtain ⟨cap, w1, hcap, hrun, hx, hB, hz⟩ := conv_bytes_of w s
  have hm : s.size ≤ maxLen := by unfold maxLen; omega
  have hm2 : ch.size ≤ maxLen := by unfold maxLen; omega
  have q1 := Lib.hid (fun w => of_any theTab s w theTab_length hm)
  have hlen : (ByteArray.mk (xorTo (bytesOf s) at_ (bytesOf ch) (bytesOf ch).length).toArray).size ≤ maxLen := by
    show (xorTo (bytesOf s) at_ (bytesOf ch) (bytesOf ch).length).toArray.size ≤ _
    rw [List.size_toArray, xorTo_length, bytesOf_length]; unfold maxLen; omega
  have q2 := Lib.hid (fun w => of_any theTab ⟨(xorTo (bytesOf s) at_ (bytesOf ch) (bytesOf ch).length).toArray⟩ w theTab_length hlen)
  have q3 := Lib.hid (fun w => turned_any theTab (~~~ restL theTab (~~~ 0) (bytesOf s)) ch ((s.size : Int) - at_ - ch.size) w theTab_length hm2)
  have e2 : bytesOf ⟨(xorTo (bytesOf s) at_ (bytesOf ch) (bytesOf ch).length).toArray⟩ = xorTo (bytesOf s) at_ (bytesOf ch) (bytesOf ch).length := rfl
  have ez : zerosL ((s.size : Int) - at_ - ch.size) = List.replicate ((bytesOf s).length - at_ - (bytesOf ch).length) 0 := by
    unfold zerosL; rw [bytesOf_length, bytesOf_length]; congr 1; omega
  rw [e2, ← turned_told (bytesOf s) (bytesOf ch) at_ (~~~ 0) (by rw [bytesOf_length, bytesOf_length]; exact h2)] at q2
  rw [ez] at q3
  clear ez e2 hlen hm hm2
  generalize ~~~ restL theTab (~~~ 0) (bytesOf s) = A at q1 q2 q3
  go_enter Try.func7, Try.ntmps7
  go_wp2
  clear hrun
  go_loopw [8] (fun i wr => ∃ k : Nat, k ≤ ch.size ∧ i = .int .i64 k ∧ Ext w wr ∧ Buf wr w.heap.size (xorTo (bytesOf s) at_ (bytesOf ch) k)) (fun i _ => ch.size - (intOf i).toNat)
  case atStart => exact ⟨0, by omega, rfl, hx, hB⟩
  case round =>
    obtain ⟨k, hk, rfl, hx1, hB1⟩ := hrel
    by_cases hlt : k < ch.size
    · have hl : (xorTo (bytesOf s) at_ (bytesOf ch) k).length = s.size := by rw [xorTo_length, bytesOf_length]
      have hc := hB1.cell (at_ + k) (by omega)
      have hf := hB1.free (at_ + k) (by omega)
      have hst := Lib.hid (hB1.set_ (at_ + k) (by omega) ((xorTo (bytesOf s) at_ (bytesOf ch) k).getD (at_ + k) 0 ^^^ (bytesOf ch).getD k 0))
      have hch : (bytesOf ch).getD k 0 = ch[k] := by simp [bytesOf, hlt]; rfl
      have hnx : xorTo (bytesOf s) at_ (bytesOf ch) (k + 1) = (xorTo (bytesOf s) at_ (bytesOf ch) k).set (at_ + k) ((xorTo (bytesOf s) at_ (bytesOf ch) k).getD (at_ + k) 0 ^^^ (bytesOf ch).getD k 0) := rfl
      rw [← hnx, hch] at hst
      generalize (xorTo (bytesOf s) at_ (bytesOf ch) k).getD (at_ + k) 0 = y at hst hc
      clear hnx hch hl
      go_wp2
      go_region
      all_goals
        go_wp2
        go_roundw
        case rel => exact ⟨k + 1, by omega, by go_num, (Ext.set hx1 (Nat.le_refl _) _).drew, hst.out⟩
        case measure => simp [intOf]; omega
    · have hk2 : k = (bytesOf ch).length := by rw [bytesOf_length]; omega
      subst hk2
      have hge : ¬ (((bytesOf ch).length : Int) < (ch.size : Int)) := by omega
      clear hlt
      go_wp2_with (first
        | (refine wpList_store_new rfl 24 (.tmp 9) (.tmp 52) rfl rfl rfl zero_size (tab_size theTab_length) (tab_all_one _) ?_)
        | (go_at_call 16; refine (table_any _).mono ?_; rintro e w2 ⟨rfl, hx2⟩))
      have hcv := fun x : Up (w2.alloc (.cells (tabL theTab).toArray 24)) => conv_string_of x.val w.heap.size cap _ ((hB1.ext (hx2.alloc _)).ext x.ext) s.size (by rw [xorTo_length, bytesOf_length])
      have e1 : IntKind.i64.wrap ((s.size : Int) - (at_ : Int)) = (s.size : Int) - (at_ : Int) := IntWalk.i64_in _ (by omega)
      have e2 : IntKind.i64.wrap ((s.size : Int) - (at_ : Int) - (ch.size : Int)) = (s.size : Int) - (at_ : Int) - (ch.size : Int) := IntWalk.i64_in _ (by omega)
      refine wp_region_up (by kernel_rfl) (by kernel_rfl) ?_
      repeat (first
        | (refine wpQuiet_load_blk rfl 24 (.tmp 9) rfl rfl (Blk.new w2 _ _) Try.underlying24 rfl (tab_size theTab_length) ?_)
        | (quiet_step (first
           | (go_at_call 18; (with_reducible exact up_call (q1.out _)))
           | (go_at_call 18; (with_reducible exact up_call (q2.out _)))
           | (go_at_call 25; (with_reducible exact up_call (q3.out _)))
           | (go_at_call 15; exact up_call (awake05 _)))))
      refine wpQuiet_nil ?_
      rintro _ ⟨y, rfl⟩
      go_wp2
      go_ret
      exact ⟨rfl, (hx1.trans (hx2.alloc _)).trans y.ext⟩

theorem crcTurned_law (s : ByteArray) (hs : s.size ≤ maxLen) (ch : ByteArray) (hc : ch.size ≤ maxLen) (at_ : Int) (ha : (Lit.int .i64 at_).wf = true) (w : World) :
    Calls Try.prog 7 #[.string s, .string ch, .int .i64 at_] w fun e w' => e = .returned (.bool true) ∧ Below w.heap.size w w' := by
  by_cases h1 : (5000 : Int) < s.size
  · exact crcTurned_out s ch at_ w hs hc (.inl h1)
  by_cases h2 : at_ < 0
  · exact crcTurned_out s ch at_ w hs hc (.inr (.inl ⟨h1, h2⟩))
  by_cases h3 : (s.size : Int) < at_
  · exact crcTurned_out s ch at_ w hs hc (.inr (.inr (.inl ⟨h1, h2, h3⟩)))
  by_cases h4 : (s.size : Int) - at_ < ch.size
  · exact crcTurned_out s ch at_ w hs hc (.inr (.inr (.inr ⟨h1, h2, h3, h4⟩)))
  obtain ⟨a, rfl⟩ := Int.eq_ofNat_of_zero_le (show 0 ≤ at_ by omega)
  exact crcTurned_in s ch a w (by omega) (by omega)
end Go.Proofs.Ytahnjfbcklifoaa
