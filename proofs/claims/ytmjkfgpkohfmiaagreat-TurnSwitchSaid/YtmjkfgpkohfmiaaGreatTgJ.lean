/- Several texts in one. merged: MvA MvB MvC MvD MvE MvF MvG -/
import Derived.Test.YtmjkfgpkohfmiaaGreatStr
import Derived.Test.YtmjkfgpkohfmiaaGreatBytesG
import Derived.LoopTactic
import Derived.OwnWalk
import Derived.WalkMore
import Derived.ScopeJumps
import Derived.Test.YtmjkfgpkohfmiaaGreatRead
import Derived.Shelf.Lay
import Derived.Shelf.Strings.Builder1
import Derived.Ground.NamesProg
namespace Go.Proofs.YtmjkfgpkohfmiaaGreat
set_option linter.unusedVariables false
set_option linter.unusedSimpArgs false

/-- a number's bytes (f: so many more of them may come) -/
def putF : Nat → Nat → List UInt8
  | 0, n => [UInt8.ofNat n]
  | f + 1, n => if n < 128 then [UInt8.ofNat n] else UInt8.ofNat (128 + n % 128) :: putF f (n / 128)
def putN (n : Nat) : List UInt8 := putF 9 n
theorem putF_small {f n : Nat} (h : n < 128) : putF f n = [UInt8.ofNat n] := by
  cases f with
  | zero => rfl
  | succ f => exact if_pos h
theorem putF_more {f n : Nat} (h : ¬ n < 128) : putF (f + 1) n = UInt8.ofNat (128 + n % 128) :: putF f (n / 128) := if_neg h
theorem putF_len : ∀ f n, 0 < (putF f n).length ∧ (putF f n).length ≤ f + 1
  | 0, n => by simp [putF]
  | f + 1, n => by
    by_cases h : n < 128
    · rw [putF_small h]; simp
    · rw [putF_more h]
      have := putF_len f (n / 128)
      simp; omega
theorem p128 (j : Nat) : 128 ^ (j + 1) = 128 * 128 ^ j := by rw [Nat.pow_succ, Nat.mul_comm]
theorem p128_pos (j : Nat) : 0 < 128 ^ j := Nat.pow_pos (by omega)
theorem div128 {n f : Nat} (h : n < 128 ^ (f + 1)) : n / 128 < 128 ^ f := by
  rw [p128] at h
  exact Nat.div_lt_of_lt_mul h

/-- a number is taken: its value and how many bytes it has, or an error (f: so many bytes may come; j: as many have been) -/
def getR : Nat → Nat → List UInt8 → Except Int (Nat × Nat)
  | 0, _, _ => .error 5
  | _ + 1, _, [] => .error 4
  | f + 1, j, b :: r =>
    if 128 ≤ b.toNat then (match getR f (j + 1) r with
      | .ok (n, k) => .ok (n * 128 + b.toNat % 128, k + 1)
      | .error e => .error e)
    else if b.toNat = 0 ∧ 0 < j then .error 5 else .ok (b.toNat, 1)
/-- with what has been taken ahead -/
def joinR (j n : Nat) : Except Int (Nat × Nat) → Except Int (Nat × Nat)
  | .ok (m, k) => .ok (n + m * 128 ^ j, k + j)
  | .error e => .error e
theorem joinR_zero (r : Except Int (Nat × Nat)) : joinR 0 0 r = r := by
  rcases r with e | ⟨m, k⟩
  · rfl
  · show Except.ok (0 + m * 128 ^ 0, k + 0) = _
    simp
theorem getR_none (j : Nat) (l : List UInt8) : getR 0 j l = .error 5 := by cases l <;> rfl
theorem getR_nil (f j : Nat) : getR (f + 1) j [] = .error 4 := rfl
theorem getR_cons (f j : Nat) (b : UInt8) (r : List UInt8) : getR (f + 1) j (b :: r) = if 128 ≤ b.toNat then (match getR f (j + 1) r with
      | .ok (n, k) => .ok (n * 128 + b.toNat % 128, k + 1)
      | .error e => .error e)
    else if b.toNat = 0 ∧ 0 < j then .error 5 else .ok (b.toNat, 1) := rfl
theorem getR_more {f j : Nat} {b : UInt8} {r : List UInt8} {n : Nat} (h : 128 ≤ b.toNat) : joinR j n (getR (f + 1) j (b :: r)) = joinR (j + 1) (n + b.toNat % 128 * 128 ^ j) (getR f (j + 1) r) := by
  rw [getR_cons]
  rw [if_pos h]
  rcases getR f (j + 1) r with e | ⟨m, k⟩
  · rfl
  · show Except.ok (n + (m * 128 + b.toNat % 128) * 128 ^ j, k + 1 + j) = Except.ok (n + b.toNat % 128 * 128 ^ j + m * 128 ^ (j + 1), k + (j + 1))
    rw [p128, Nat.add_mul, Nat.mul_assoc m 128]
    congr 2 <;> omega
theorem getR_zero {f j : Nat} {b : UInt8} {r : List UInt8} {n : Nat} (h : ¬ 128 ≤ b.toNat) (h0 : b.toNat = 0) (hj : 0 < j) : joinR j n (getR (f + 1) j (b :: r)) = .error 5 := by
  rw [getR_cons, if_neg h, if_pos ⟨h0, hj⟩]; rfl
theorem getR_last {f j : Nat} {b : UInt8} {r : List UInt8} {n : Nat} (h : ¬ 128 ≤ b.toNat) (h0 : ¬ (b.toNat = 0 ∧ 0 < j)) : joinR j n (getR (f + 1) j (b :: r)) = .ok (n + b.toNat * 128 ^ j, j + 1) := by
  rw [getR_cons, if_neg h, if_neg h0]
  show Except.ok (n + b.toNat * 128 ^ j, 1 + j) = _
  rw [Nat.add_comm 1 j]
/-- what is taken is small -/
theorem getR_small : ∀ (f j : Nat) (l : List UInt8) (n k : Nat), getR f j l = .ok (n, k) → n < 128 ^ f ∧ 0 < k ∧ k ≤ l.length ∧ k ≤ f
  | 0, j, l, n, k, h => by rw [getR_none] at h; cases h
  | f + 1, j, [], n, k, h => by cases h
  | f + 1, j, b :: r, n, k, h => by
    rw [getR_cons] at h
    split at h
    · split at h
      · rename_i m k' he
        have ih := getR_small f (j + 1) r m k' he
        injection h with h
        injection h with h1 h2
        subst h1; subst h2
        refine ⟨?_, by omega, by simp; omega, by omega⟩
        rw [p128]
        have : m + 1 ≤ 128 ^ f := ih.1
        have h3 : 128 * (m + 1) ≤ 128 * 128 ^ f := Nat.mul_le_mul_left _ this
        omega
      · cases h
    · split at h
      · cases h
      · rename_i h1 h2
        injection h with h
        injection h with h3 h4
        subst h3; subst h4
        refine ⟨?_, by omega, by simp, by omega⟩
        rw [p128]
        have := p128_pos f
        have h5 : 128 * 1 ≤ 128 * 128 ^ f := Nat.mul_le_mul_left _ this
        omega
/-- what is put is taken again -/
theorem get_put : ∀ (f j n : Nat) (r : List UInt8), n < 128 ^ (f + 1) → (0 < j → 0 < n) → getR (f + 1) j (putF f n ++ r) = .ok (n, (putF f n).length)
  | 0, j, n, r, h, hj => by
    have hb : (UInt8.ofNat n).toNat = n := by rw [UInt8.toNat_ofNat']; omega
    show getR 1 j (UInt8.ofNat n :: r) = _
    rw [getR_cons]
    rw [hb, if_neg (by omega), if_neg (by omega)]; rfl
  | f + 1, j, n, r, h, hj => by
    by_cases hn : n < 128
    · rw [putF_small hn]
      have hb : (UInt8.ofNat n).toNat = n := by rw [UInt8.toNat_ofNat']; omega
      show getR (f + 1 + 1) j (UInt8.ofNat n :: r) = _
      rw [getR_cons]
      rw [hb, if_neg (by omega), if_neg (by omega)]; rfl
    · rw [putF_more hn]
      have hb : (UInt8.ofNat (128 + n % 128)).toNat = 128 + n % 128 := by rw [UInt8.toNat_ofNat']; omega
      show getR (f + 1 + 1) j (UInt8.ofNat (128 + n % 128) :: (putF f (n / 128) ++ r)) = _
      rw [getR_cons]
      rw [hb, if_pos (by omega), get_put f (j + 1) (n / 128) r (div128 h) (fun _ => by omega)]
      show Except.ok _ = Except.ok _
      rw [List.length_cons]
      congr 2
      omega
/-- what is taken is what is put -/
theorem put_get : ∀ (f j : Nat) (l : List UInt8) (n k : Nat), getR (f + 1) j l = .ok (n, k) → (0 < j → 0 < n) ∧ putF f n = l.take k
  | f, j, [], n, k, h => by cases h
  | 0, j, b :: r, n, k, h => by
    rw [getR_cons] at h
    split at h
    · rw [getR_none] at h; cases h
    · split at h
      · cases h
      · rename_i h1 h2
        injection h with h
        injection h with h3 h4
        subst h3; subst h4
        refine ⟨by omega, ?_⟩
        show [UInt8.ofNat b.toNat] = _
        simp
  | f + 1, j, b :: r, n, k, h => by
    rw [getR_cons] at h
    split at h
    · split at h
      · rename_i hb m k' he
        have ih := put_get f (j + 1) r m k' he
        injection h with h
        injection h with h1 h2
        subst h1; subst h2
        have hm := ih.1 (by omega)
        refine ⟨fun _ => by omega, ?_⟩
        have hbt := b.toNat_lt
        rw [putF_more (by omega), List.take_succ_cons, show (m * 128 + b.toNat % 128) / 128 = m by omega, ih.2]
        congr 1
        apply UInt8.toNat_inj.1
        rw [UInt8.toNat_ofNat']
        omega
      · cases h
    · split at h
      · cases h
      · rename_i h1 h2
        injection h with h
        injection h with h3 h4
        subst h3; subst h4
        refine ⟨by omega, ?_⟩
        rw [putF_small (by omega)]
        simp
end Go.Proofs.YtmjkfgpkohfmiaaGreat
namespace Go.Proofs.YtmjkfgpkohfmiaaGreat
set_option linter.unusedVariables false
set_option linter.unusedSimpArgs false
open Go.RowKit

theorem wrap8_nat (m : Nat) : IntKind.u8.wrap (m : Int) = U8 (UInt8.ofNat m) := by
  unfold U8; rw [IntKind.wrap_u8, UInt8.toNat_ofNat']; omega
theorem or128 (m : Nat) : bits .or .u8 (U8 (UInt8.ofNat m)) 128 = U8 (UInt8.ofNat (128 + m % 128)) := by
  have h1 : (UInt8.ofNat m).toNat < 256 := (UInt8.ofNat m).toNat_lt
  unfold U8
  rw [show (128 : Int) = ((128 : Nat) : Int) from rfl, u8_or_nat _ 128 h1 (by omega), UInt8.toNat_ofNat', UInt8.toNat_ofNat']
  have h2 := Nat.two_pow_add_eq_or_of_lt (i := 7) (b := m % 128) (by omega) 1
  have h3 : m % 256 ||| 128 = 128 + m % 128 := by
    rcases Nat.lt_or_ge (m % 256) 128 with h | h
    · rw [Nat.or_comm, show m % 256 = m % 128 by omega]
      have : 2 ^ 7 * 1 = 128 := by decide
      rw [this] at h2
      omega
    · rw [show m % 256 = 128 + m % 128 by omega]
      have : 2 ^ 7 * 1 = 128 := by decide
      rw [this] at h2
      rw [h2, Nat.or_comm 128, Nat.or_assoc, Nat.or_self, Nat.or_comm, ← h2]
  rw [h3]
  omega
theorem shr7 (m : Nat) : ((m : Int) / 128) = ((m / 128 : Nat) : Int) := by omega
attribute [local go_sem] S_size S_toList S_append S_extract S_beq S_bne S_empty S_nil u8_beq U8_fold U8_toNat

set_option maxRecDepth 20000 in
set_option maxHeartbeats 4000000 in
theorem add_any (n : Nat) (v : Value) (l : List UInt8) (w0 w : World) (hb : BW w w0.heap.size v l) (hx0 : Ext w0 w) (hn : n < 9223372036854775808) (hl : l.length ≤ 100000000) :
    Calls Tryz.prog 96 #[v, .int .i64 (n : Int)] w fun e w' => ∃ u, e = .returned u ∧ Ext w0 w' ∧ BW w' w0.heap.size u (l ++ putN n) := by
  have hp : n < 128 ^ 9 := by rw [show 128 ^ 9 = 9223372036854775808 by decide]; exact hn
  go_enter Tryz.func96, Tryz.ntmps96
  go_wp2
  go_loopw [0, 1] (fun b m wr => ∃ (f k : Nat) (pre : List UInt8), m = .int .i64 (k : Int) ∧ k < 128 ^ (f + 1) ∧ k < 9223372036854775808 ∧ f ≤ 9 ∧ BW wr w0.heap.size b pre ∧ pre ++ putF f k = l ++ putN n ∧ Ext w0 wr) (fun _ m _ => (intOf m).toNat)
  case atStart => exact ⟨9, n, l, rfl, by rw [p128]; omega, hn, by omega, hb, rfl, hx0⟩
  case round =>
    obtain ⟨f, k, pre, rfl, hkf, hk, hf, hw, he, hx⟩ := hrel
    have hpl : pre.length ≤ 100000020 := by
      have h1 := congrArg List.length he
      rw [List.length_append, List.length_append] at h1
      have h2 := putF_len 9 n
      unfold putN at h1
      omega
    by_cases hlt : k < 128
    · have k1 : ¬ (128 : Int) ≤ (k : Int) := by omega
      have wb := wrap8_nat k
      obtain ⟨v', w', p1, p2, p3, _⟩ := hw.app hx.le (UInt8.ofNat k) (by omega)
      have X2 := Lib.hid (Below.trans hx p3 : Ext w0 w')
      rw [putF_small hlt] at he
      rw [he] at p2
      have B2 := Lib.hid p2
      clear hw hx p2 p3 he hkf hlt hb hx0 hp
      go_wp2_with (at_builtin; refine wpList_app rfl (.tmp 15) (.tmp 18) 105 rfl rfl rfl rfl p1 ?_)
      go_ret
      exact ⟨_, rfl, X2.out, B2.out⟩
    · have k1 : (128 : Int) ≤ (k : Int) := by omega
      have wb := wrap8_nat k
      have ob := or128 k
      have sb := shr7 k
      obtain ⟨f, rfl⟩ : ∃ f', f = f' + 1 := by
        cases f with
        | zero => rw [show 128 ^ (0 + 1) = 128 by decide] at hkf; omega
        | succ f => exact ⟨f, rfl⟩
      obtain ⟨v', w', p1, p2, p3, _⟩ := hw.app hx.le (UInt8.ofNat (128 + k % 128)) (by omega)
      have X2 := Lib.hid (Below.trans hx p3 : Ext w0 w')
      rw [putF_more hlt] at he
      have HE := Lib.hid (show (pre ++ [UInt8.ofNat (128 + k % 128)]) ++ putF f (k / 128) = l ++ putN n by rw [← he]; simp)
      have B2 := Lib.hid p2
      have HD := Lib.hid (div128 hkf)
      have hd2 : k / 128 < k := by omega
      generalize UInt8.ofNat (128 + k % 128) = c at *
      generalize UInt8.ofNat k = b at *
      generalize hq : k / 128 = q at *
      have HQ := Lib.hid hq
      clear hw hx p2 p3 he hkf hlt hb hx0 hp hq
      go_wp2_with (at_builtin; refine wpList_app rfl (.tmp 9) (.tmp 13) 105 rfl rfl rfl rfl p1 ?_)
      go_roundw
      case rel => exact ⟨f, q, _, rfl, HD.out, by omega, by omega, B2.out, HE.out, X2.out⟩
      case measure => simp [intOf]; omega
theorem make9 (w : World) : (Instr.makeSlice 105 (.int .i64 0) (.int .i64 9)).run Tryz.prog w = .ok (.slice (some ⟨w.heap.size, 0, none⟩) 0 9) (w.alloc (.cells (madeCells #[.int .u8 0] 9) 5)) := by kernel_rfl
/-- a number's bytes, or none's -/
def putI (n : Int) : List UInt8 := if n < 0 then [] else putN n.toNat
def putE (n : Int) : Int := if n < 0 then 2 else 0
theorem putI_nat (n : Nat) : putI (n : Int) = putN n ∧ putE (n : Int) = 0 := by
  unfold putI putE; rw [if_neg (by omega), if_neg (by omega), Int.toNat_natCast]; exact ⟨rfl, rfl⟩
theorem putI_neg {n : Int} (h : n < 0) : putI n = [] ∧ putE n = 2 := by
  unfold putI putE; rw [if_pos h, if_pos h]; exact ⟨rfl, rfl⟩
theorem putN_pos (n : Nat) : 0 < (putN n).length := (putF_len 9 n).1

set_option maxRecDepth 20000 in
set_option maxHeartbeats 4000000 in
theorem vput_any (n : Int) (w : World) (hn : n ≤ 9223372036854775807) :
    Calls Tryz.prog 61 #[.int .i64 n] w fun e w' => e = .returned (.tuple #[.string (S (putI n)), .int .i64 (putE n)]) ∧ Ext w w' := by
  by_cases h0 : n < 0
  · have HF := Lib.hid (putI_neg h0)
    go_enter Tryz.func61, Tryz.ntmps61
    go_wp2
    go_ret2
    exact ⟨by rw [HF.out.1, HF.out.2]; rfl, Ext.refl _⟩
  · obtain ⟨m, rfl⟩ : ∃ m : Nat, n = (m : Int) := ⟨n.toNat, by omega⟩
    have HF := Lib.hid (putI_nat m)
    have hmk := make9 w
    have B0 := BW.make0 w 9 (by omega)
    have X0 := ((Ext.refl w).alloc (.cells (madeCells #[.int .u8 0] 9) 5))
    have Q := Lib.hid (add_any m _ [] w _ B0 X0 (by omega) (by simp))
    clear B0 X0
    go_enter Tryz.func61, Tryz.ntmps61
    go_wp2_with fail
    refine (Q.out).mono ?_
    rintro _ w1 ⟨u, rfl, x1, b1⟩
    have hcv := b1.str (by have := putN_pos m; simpa using this)
    rw [List.nil_append] at hcv
    obtain ⟨a1, c1, rfl, _, _⟩ := b1.shape
    rw [List.nil_append] at hcv ⊢
    have X1 := Lib.hid x1
    clear b1 x1
    generalize hpn : putN m = p at *
    have HP := Lib.hid hpn
    clear hpn
    generalize p.length = np at *
    go_wp2
    go_ret2
    exact ⟨by rw [HF.out.1, HF.out.2]; rfl, X1.out⟩

theorem wrap8_more (m : Nat) : IntKind.u8.wrap (128 + (m : Int) % 128) = U8 (UInt8.ofNat (128 + m % 128)) := by
  unfold U8; rw [IntKind.wrap_u8, UInt8.toNat_ofNat']; omega
theorem BW.one (w : World) (x : UInt8) : BW (w.alloc (.cells #[.int .u8 (U8 x)] 5)) w.heap.size (.slice (some ⟨w.heap.size, 0, none⟩) 1 1) [x] :=
  World.ownsRow_lit (base := w.heap.size) (e := 5) (size := 1) w #[.int .u8 (U8 x)] 1 (Nat.le_refl _) (by unfold maxLen; omega) rfl
theorem conv_one (w : World) (x : UInt8) : (convert 105 9 (.slice (some ⟨w.heap.size, 0, none⟩) 1 1)).run Tryz.prog (w.alloc (.cells #[.int .u8 (U8 x)] 5)) = .ok (.string (S [x])) (w.alloc (.cells #[.int .u8 (U8 x)] 5)) := (BW.one w x).str (by simp)
end Go.Proofs.YtmjkfgpkohfmiaaGreat
namespace Go.Proofs.YtmjkfgpkohfmiaaGreat
set_option linter.unusedVariables false
set_option linter.unusedSimpArgs false
open Go.RowKit

/-- a number that is taken from a place on -/
def takeN (s : List UInt8) (a : Int) : Except Int (Nat × Nat) := if 0 ≤ a ∧ a ≤ (s.length : Int) then getR 9 0 (s.drop a.toNat) else .error 2
def outN : Except Int (Nat × Nat) → Int
  | .ok (n, _) => (n : Int)
  | .error _ => 0
def outT (a : Int) : Except Int (Nat × Nat) → Int
  | .ok (_, k) => a + (k : Int)
  | .error _ => 0
def outE : Except Int (Nat × Nat) → Int
  | .ok _ => 0
  | .error e => e
theorem takeN_in (s : List UInt8) (a : Nat) (h : a ≤ s.length) : takeN s (a : Int) = getR 9 0 (s.drop a) := by
  unfold takeN; rw [if_pos (by omega), Int.toNat_natCast]
theorem takeN_out {s : List UInt8} {a : Int} (h : ¬ (0 ≤ a ∧ a ≤ (s.length : Int))) : takeN s a = .error 2 := by
  unfold takeN; rw [if_neg h]
theorem p128_two (j : Nat) : 128 ^ j = 2 ^ (7 * j) := by rw [Nat.pow_mul]
/-- seven bits more -/
theorem or_more {n b j : Nat} (hn : n < 128 ^ j) (hj : j < 9) (hb : b < 128) : IntKind.i64.wrap ((b : Int) * 2 ^ (7 * j)) = ((b * 128 ^ j : Nat) : Int) ∧ bits .or .i64 (n : Int) ((b * 128 ^ j : Nat) : Int) = ((n + b * 128 ^ j : Nat) : Int) ∧ n + b * 128 ^ j < 128 ^ (j + 1) ∧ 128 ^ (j + 1) ≤ 9223372036854775808 := by
  have h1 : b * 128 ^ j + 128 ^ j ≤ 128 ^ (j + 1) := by
    rw [p128, show b * 128 ^ j + 128 ^ j = (b + 1) * 128 ^ j by rw [Nat.add_mul, Nat.one_mul]]
    exact Nat.mul_le_mul_right _ (by omega)
  have h2 : 128 ^ (j + 1) ≤ 128 ^ 9 := Nat.pow_le_pow_right (by omega) (by omega)
  have h3 : 128 ^ 9 = 9223372036854775808 := by decide
  have e : ((b : Int) * 2 ^ (7 * j)) = ((b * 128 ^ j : Nat) : Int) := by
    rw [p128_two]; push_cast; rfl
  refine ⟨?_, ?_, by omega, by omega⟩
  · rw [e, IntKind.wrap_i64]; omega
  · have hor : n ||| b * 128 ^ j = n + b * 128 ^ j := by
      have := Nat.two_pow_add_eq_or_of_lt (i := 7 * j) (b := n) (by rw [← p128_two]; exact hn) b
      rw [Nat.or_comm, p128_two, Nat.mul_comm b, ← this, Nat.add_comm]
    show IntKind.i64.wrap ((BitVec.ofInt 64 (n : Int) ||| BitVec.ofInt 64 ((b * 128 ^ j : Nat) : Int)).toNat : Int) = _
    rw [BitVec.toNat_or, BitVec.ofInt_natCast, BitVec.ofInt_natCast, BitVec.toNat_ofNat, BitVec.toNat_ofNat, Nat.mod_eq_of_lt (by omega), Nat.mod_eq_of_lt (by omega), hor, IntKind.wrap_i64]
    omega
theorem and127 (b : UInt8) : bits .and .u8 (U8 b) 127 = ((b.toNat % 128 : Nat) : Int) := by
  unfold U8
  rw [show (127 : Int) = ((127 : Nat) : Int) from rfl, u8_and_nat _ 127 b.toNat_lt (by omega)]
  congr 1
  exact Nat.and_two_pow_sub_one_eq_mod b.toNat 7
attribute [local go_sem] S_size S_toList S_extract S_beq S_bne S_empty S_nil u8_beq U8_fold U8_toNat

set_option maxRecDepth 20000 in
set_option maxHeartbeats 8000000 in
theorem vget_in (s : List UInt8) (a : Nat) (w : World) (ha : a ≤ s.length) (hs : (s.length : Int) ≤ 1000000000) :
    Calls Tryz.prog 109 #[.string (S s), .int .i64 (a : Int)] w fun e w' => e = .returned (.tuple #[.int .i64 (outN (takeN s a)), .int .i64 (outT a (takeN s a)), .int .i64 (outE (takeN s a))]) ∧ w = w' := by
  rw [takeN_in s a ha]
  have k0 : ¬ (a : Int) < 0 := by omega
  have k1 : ¬ (s.length : Int) < (a : Int) := by omega
  go_enter Tryz.func109, Tryz.ntmps109
  go_wp2
  refine wp_scope_jumps 0 (fun _ _ => False) (fun _ _ => 0) rfl ?_ ?_
  rotate_left
  · intros; contradiction
  go_wp2
  go_step3
  go_wp2
  go_loop [4, 7, 8] (fun n sh i => ∃ (j : Nat) (m : Nat) (z : Int), j ≤ 9 ∧ a + j ≤ s.length ∧ z = 7 * (j : Int) ∧ n = .int .i64 (m : Int) ∧ sh = .int .i64 z ∧ i = .int .i64 ((a + j : Nat) : Int) ∧ m < 128 ^ j ∧ getR 9 0 (s.drop a) = joinR j m (getR (9 - j) j (s.drop (a + j)))) (fun _ _ i => s.length - (intOf i).toNat)
  case atStart => exact ⟨0, 0, 0, by omega, by omega, by omega, rfl, rfl, by simp, by simp, by rw [joinR_zero]; rfl⟩
  case round =>
    obtain ⟨j, m, z, hj, haj, hz, rfl, rfl, rfl, hm, he⟩ := hrel
    generalize hp : a + j = p at *
    by_cases h1 : p < s.length
    · by_cases h2 : j < 9
      · have k2 : (p : Int) < (s.length : Int) := by omega
        have k3 : z < 63 := by omega
        have ib := index_S s p h1 _ rfl
        have hd : s.drop p = s.getD p 0 :: s.drop (p + 1) := by
          rw [List.getD_eq_getElem?_getD, List.getElem?_eq_getElem h1]; simp
        obtain ⟨o1, o2, o3, o4⟩ := or_more (n := m) (b := (s.getD p 0).toNat % 128) (j := j) hm h2 (by omega)
        have ab := and127 (s.getD p 0)
        rw [hd, show 9 - j = (8 - j) + 1 by omega] at he
        have hsh : z.toNat = 7 * j := by omega
        have hwb : IntKind.i64.wrap (((s.getD p 0).toNat % 128 : Nat) : Int) = (((s.getD p 0).toNat % 128 : Nat) : Int) := by rw [IntKind.wrap_i64]; omega
        have k4 : 0 ≤ z := by omega
        have k5 : z ≤ 64 := by omega
        have u0 := U8_nonneg (s.getD p 0)
        have u1 := U8_lt (s.getD p 0)
        have OR := Lib.hid (show bits .or .i64 (m : Int) (wrap64 ((((s.getD p 0).toNat % 128 : Nat) : Int) * 2 ^ (7 * j))) = ((m + (s.getD p 0).toNat % 128 * 128 ^ j : Nat) : Int) from by
          rw [show wrap64 ((((s.getD p 0).toNat % 128 : Nat) : Int) * 2 ^ (7 * j)) = (((s.getD p 0).toNat % 128 * 128 ^ j : Nat) : Int) from by
            have h5 := o1
            rw [IntKind.wrap_i64] at h5
            unfold wrap64; exact h5, o2])
        have HM := Lib.hid o3
        have HP := Lib.hid hp
        have HZ := Lib.hid hz
        have HHE := Lib.hid he
        have HOV := Lib.hid (show m + (s.getD p 0).toNat % 128 * 128 ^ j < 9223372036854775808 by omega)
        have HCB : ∀ c : Nat, c = (s.getD p 0).toNat % 128 → True := fun _ _ => trivial
        clear hd hm o3 hp hz he o1 o2 o4 HCB
        by_cases hb : 128 ≤ (s.getD p 0).toNat
        · have kb : (128 : Int) ≤ U8 (s.getD p 0) := by unfold U8; omega
          have he := HHE.out
          rw [getR_more hb] at he
          have HE := Lib.hid (show getR 9 0 (s.drop a) = joinR (j + 1) (m + (s.getD p 0).toNat % 128 * 128 ^ j) (getR (9 - (j + 1)) (j + 1) (s.drop (a + (j + 1)))) by rw [he, show 9 - (j + 1) = 8 - j by omega, show a + (j + 1) = p + 1 by have := HP.out; omega])
          clear he HHE hb
          generalize (s.getD p 0).toNat % 128 * 128 ^ j = x at *
          generalize (((s.getD p 0).toNat % 128 : Nat) : Int) = c at *
          generalize s.getD p 0 = b at *
          go_wp2
          go_round
          case rel => exact ⟨j + 1, m + x, z + 7, by omega, by have := HP.out; omega, by have := HZ.out; omega, by rw [OR.out], rfl, by have := HP.out; congr 1; omega, HM.out, HE.out⟩
          case measure => simp [intOf]; omega
        · have kb : ¬ (128 : Int) ≤ U8 (s.getD p 0) := by unfold U8; omega
          by_cases hz0 : (s.getD p 0).toNat = 0 ∧ 0 < j
          · have HE := Lib.hid (show getR 9 0 (s.drop a) = .error 5 from by rw [HHE.out]; exact getR_zero hb hz0.1 hz0.2)
            have ku : (U8 (s.getD p 0) == 0) = true := by unfold U8; exact beq_iff_eq.2 (by omega)
            have ku2 : (s.getD p 0 == 0) = true := by
              rw [beq_iff_eq]; exact UInt8.toNat_inj.1 hz0.1
            have kp : (a : Int) < (p : Int) := by have := HP.out; omega
            clear HHE hb hz0 OR HM HOV
            generalize (((s.getD p 0).toNat % 128 : Nat) : Int) = c at *
            generalize s.getD p 0 = b at *
            go_wp2
            simp only [Exit.jump]
            exact bodyPost_ret (results_tmp3 rfl _ _ _) rfl ⟨by rw [HE.out]; rfl, rfl⟩
          · have HE := Lib.hid (show getR 9 0 (s.drop a) = .ok (m + (s.getD p 0).toNat % 128 * 128 ^ j, j + 1) from by
              rw [HHE.out, getR_last hb hz0, show (s.getD p 0).toNat % 128 = (s.getD p 0).toNat by omega])
            have hcase : ((U8 (s.getD p 0) == 0) = true ∧ ¬ (a : Int) < (p : Int)) ∨ (U8 (s.getD p 0) == 0) = false := by
              have := HP.out
              unfold U8
              by_cases h0 : (s.getD p 0).toNat = 0
              · exact .inl ⟨beq_iff_eq.2 (by omega), by omega⟩
              · exact .inr (beq_eq_false_iff_ne.2 (by omega))
            clear HHE hb hz0 HM HOV
            generalize (s.getD p 0).toNat % 128 * 128 ^ j = x at *
            generalize (((s.getD p 0).toNat % 128 : Nat) : Int) = c at *
            generalize s.getD p 0 = b at *
            rcases hcase with ⟨k7, k8⟩ | k7
            all_goals
              go_wp2
              simp only [Exit.jump]
              exact bodyPost_ret (results_tmp3 rfl _ _ _) rfl ⟨by
                rw [HE.out]
                show Ending.returned (.tuple #[_, _, _]) = Ending.returned (.tuple #[.int .i64 ((m + x : Nat) : Int), .int .i64 ((a : Int) + ((j + 1 : Nat) : Int)), .int .i64 0])
                rw [show (a : Int) + ((j + 1 : Nat) : Int) = (p : Int) + 1 by have := HP.out; omega, ← OR.out]
                rfl, rfl⟩
      · obtain rfl : j = 9 := by omega
        have HE := Lib.hid (show getR 9 0 (s.drop a) = .error 5 from by rw [he, show 9 - 9 = 0 from rfl, getR_none]; rfl)
        have k2 : (p : Int) < (s.length : Int) := by omega
        have k3 : ¬ z < 63 := by omega
        clear he hm hz
        go_wp2
        simp only [Exit.jump]
        exact bodyPost_ret (results_tmp3 rfl _ _ _) rfl ⟨by rw [HE.out]; rfl, rfl⟩
    · have hdn : s.drop p = [] := List.drop_eq_nil_of_le (by omega)
      rw [hdn] at he
      have k2 : ¬ (p : Int) < (s.length : Int) := by omega
      by_cases h2 : j < 9
      · have HE := Lib.hid (show getR 9 0 (s.drop a) = .error 4 from by rw [he, show 9 - j = (8 - j) + 1 by omega, getR_nil]; rfl)
        have k3 : z < 63 := by omega
        clear he hm hz hdn
        go_wp2
        simp only [Exit.jump]
        exact bodyPost_ret (results_tmp3 rfl _ _ _) rfl ⟨by rw [HE.out]; rfl, rfl⟩
      · obtain rfl : j = 9 := by omega
        have HE := Lib.hid (show getR 9 0 (s.drop a) = .error 5 from by rw [he, show 9 - 9 = 0 from rfl, getR_none]; rfl)
        have k3 : ¬ z < 63 := by omega
        clear he hm hz hdn
        go_wp2
        simp only [Exit.jump]
        exact bodyPost_ret (results_tmp3 rfl _ _ _) rfl ⟨by rw [HE.out]; rfl, rfl⟩
set_option maxRecDepth 20000 in
set_option maxHeartbeats 4000000 in
theorem vget_any (s : List UInt8) (a : Int) (w : World) (hs : (s.length : Int) ≤ 1000000000) :
    Calls Tryz.prog 109 #[.string (S s), .int .i64 a] w fun e w' => e = .returned (.tuple #[.int .i64 (outN (takeN s a)), .int .i64 (outT a (takeN s a)), .int .i64 (outE (takeN s a))]) ∧ w = w' := by
  by_cases h : 0 ≤ a ∧ a ≤ (s.length : Int)
  · obtain ⟨n, rfl⟩ : ∃ n : Nat, a = (n : Int) := ⟨a.toNat, by omega⟩
    exact vget_in s n w (by omega) hs
  · have HF := Lib.hid (takeN_out h)
    have hc : a < 0 ∨ (¬ a < 0 ∧ (s.length : Int) < a) := by omega
    clear h
    rcases hc with h1 | ⟨h1, h2⟩
    all_goals
      go_enter Tryz.func109, Tryz.ntmps109
      go_wp2
      refine wp_scope_jumps 0 (fun _ _ => False) (fun _ _ => 0) rfl ?_ ?_
      rotate_left
      · intros; contradiction
      go_wp2
      simp only [Exit.jump]
      exact bodyPost_ret (results_tmp3 rfl _ _ _) rfl ⟨by rw [HF.out]; rfl, rfl⟩
end Go.Proofs.YtmjkfgpkohfmiaaGreat
namespace Go.Proofs.YtmjkfgpkohfmiaaGreat
set_option linter.unusedVariables false
set_option linter.unusedSimpArgs false
open Go.RowKit

/-- bytes of a number that goes on with m -/
def foldV (l : List UInt8) (m : Nat) : Nat := l.foldr (fun b m => m * 128 + b.toNat % 128) m
theorem foldV_cons (b : UInt8) (l : List UInt8) (m : Nat) : foldV (b :: l) m = foldV l m * 128 + b.toNat % 128 := rfl
theorem foldV_lt : ∀ (l : List UInt8), foldV l 0 < 128 ^ l.length
  | [] => by show 0 < 128 ^ 0; simp
  | b :: l => by
    have ih := foldV_lt l
    rw [foldV_cons, List.length_cons, p128]
    have h3 : 128 * (foldV l 0 + 1) ≤ 128 * 128 ^ l.length := Nat.mul_le_mul_left _ ih
    omega
theorem foldV_snoc (l : List UInt8) (b : UInt8) (m : Nat) : foldV (l ++ [b]) m = foldV l (m * 128 + b.toNat % 128) := by
  unfold foldV; rw [List.foldr_append]; rfl
theorem getR_pre : ∀ (k f j : Nat) (l : List UInt8), (∀ i, i < k → 128 ≤ (l.getD i 0).toNat) → k ≤ f → k ≤ l.length →
    getR f j l = (match getR (f - k) (j + k) (l.drop k) with | .ok (m, kk) => .ok (foldV (l.take k) m, kk + k) | .error e => .error e)
  | 0, f, j, l, _, _, _ => by
    rw [List.drop_zero, Nat.sub_zero, Nat.add_zero]
    rcases getR f j l with e | ⟨m, kk⟩ <;> rfl
  | k + 1, 0, j, l, _, h, _ => by omega
  | k + 1, f + 1, j, [], _, _, h => by simp at h
  | k + 1, f + 1, j, b :: r, h, hf, hl => by
    have hb : 128 ≤ b.toNat := h 0 (by omega)
    rw [getR_cons, if_pos hb, getR_pre k f (j + 1) r (fun i hi => h (i + 1) (by omega)) (by omega) (by simpa using hl),
      show f + 1 - (k + 1) = f - k by omega, show j + (k + 1) = j + 1 + k by omega, List.drop_succ_cons, List.take_succ_cons]
    rcases getR (f - k) (j + 1 + k) (r.drop k) with e | ⟨m, kk⟩
    · rfl
    · rfl
theorem getR_form {l : List UInt8} {j : Nat} (h : ∀ i, i < 9 → 128 ≤ (l.getD i 0).toNat) (hl : 9 ≤ l.length) : getR 9 j l = .error 5 := by
  rw [getR_pre 9 9 j l h (by omega) hl, Nat.sub_self, getR_none]
theorem getR_short {l : List UInt8} {j k : Nat} (h : ∀ i, i < k → 128 ≤ (l.getD i 0).toNat) (hk : k < 9) (hl : k = l.length) : getR 9 j l = .error 4 := by
  rw [getR_pre k 9 j l h (by omega) (by omega), List.drop_eq_nil_of_le (by omega), show 9 - k = (8 - k) + 1 by omega, getR_nil]
theorem getR_end {l : List UInt8} {j k : Nat} (h : ∀ i, i < k → 128 ≤ (l.getD i 0).toNat) (hk : k < 9) (hl : k < l.length) (hb : (l.getD k 0).toNat < 128) :
    getR 9 j l = if (l.getD k 0).toNat = 0 ∧ 0 < j + k then .error 5 else .ok (foldV (l.take (k + 1)) 0, k + 1) := by
  have hd : l.drop k = l.getD k 0 :: l.drop (k + 1) := by
    rw [List.getD_eq_getElem?_getD, List.getElem?_eq_getElem hl]; simp
  rw [getR_pre k 9 j l h (by omega) (by omega), hd, show 9 - k = (8 - k) + 1 by omega, getR_cons, if_neg (by omega)]
  by_cases h0 : (l.getD k 0).toNat = 0 ∧ 0 < j + k
  · rw [if_pos h0, if_pos h0]
  · rw [if_neg h0, if_neg h0]
    show Except.ok _ = Except.ok _
    rw [List.take_succ_eq_append_getElem hl, foldV_snoc]
    have e : l.getD k 0 = l[k] := by rw [List.getD_eq_getElem?_getD, List.getElem?_eq_getElem hl]; rfl
    rw [← e, Nat.zero_mul, Nat.zero_add, Nat.mod_eq_of_lt hb, Nat.add_comm 1 k]
theorem drop_get (s : List UInt8) (a i : Nat) : (s.drop a).getD i 0 = s.getD (a + i) 0 := by
  rw [List.getD_eq_getElem?_getD, List.getElem?_drop, List.getD_eq_getElem?_getD]
attribute [local go_sem] S_size S_toList S_extract S_beq S_bne S_empty S_nil u8_beq U8_fold U8_toNat

end Go.Proofs.YtmjkfgpkohfmiaaGreat
namespace Go.Proofs.YtmjkfgpkohfmiaaGreat
set_option linter.unusedVariables false
set_option linter.unusedSimpArgs false
open Go.RowKit Go.Shelf

shelf_lay Lays.n169 Nm 169 at Tryz as laysST
theorem extraST : Builder.Extra Tryz.prog laysST_ren where
  sizeBuilder := by kernel_rfl
  liesBuilder := by kernel_rfl
  t5 := Tryz.underlying5
  a5 := Tryz.isAgg5
  z5 := Tryz.sizeOf5
  v5 := Tryz.zeroValue5
  infoByte := by kernel_rfl
  cellsByte := by kernel_rfl
  sizeByte := by kernel_rfl
  neB5 := by decide
/-- a builder that holds these bytes -/
def SB (w : World) (B b : Nat) (l : List UInt8) : Prop := Lib.IsBuilder 107 5 B b (Lib.byteCells l) w
theorem st_any (B b : Nat) (l : List UInt8) (w : World) (h : SB w B b l) (hB : B ≤ w.heap.size) :
    Calls Tryz.prog 63 #[.pointer (some ⟨b, 0, none⟩)] w fun e w' => e = .returned (.string (S l)) ∧ Below B w w' := by
  have q := Any.Builder_String_any laysST extraST B b l w h hB
  change Calls Tryz.prog 63 _ _ _ at q
  exact q
set_option maxHeartbeats 1000000 in
set_option maxRecDepth 100000 in
theorem cc_used (b : Nat) (w : World) (h0 : w.cell? ⟨b, 0, none⟩ = some (.pointer (some ⟨b, 0, none⟩))) :
    Calls Tryz.prog 97 #[.pointer (some ⟨b, 0, none⟩)] w fun e w' => e = .returned (.tuple #[]) ∧ w' = w := by
  obtain ⟨j, hj, _⟩ := Option.map_eq_some_iff.1 extraST.sizeBuilder
  go_enter Tryz.func97, Tryz.ntmps97
  go_wp2
  rw [Lib.run_neq_ptr_same w _ Tryz.underlying104 hj]
  go_wp2
  go_end0
  exact ⟨rfl, rfl⟩
theorem callF_gen {f : FuncId} {fn : Func} {c : Code} (hf : Tryz.prog.funcs[f]? = some fn) (hname : (fn.name == "runtime.NumGoroutine") = false) (hb : fn.body = some c) (xs : Array Value) (W : World) : (callFunc f xs).run Tryz.prog W = .ok (.enter f xs) W := enters_of hf hname hb xs W
set_option maxHeartbeats 1000000 in
set_option maxRecDepth 100000 in
theorem cc_fresh (b : Nat) (w : World) (h0 : w.cell? ⟨b, 0, none⟩ = some (.pointer none)) (hsh : w.shape? b = some (107, 2)) (hfz : w.frozen? ⟨b, 0, none⟩ = false) :
    Calls Tryz.prog 97 #[.pointer (some ⟨b, 0, none⟩)] w fun e w' => e = .returned (.tuple #[]) ∧ w' = w.setCell ⟨b, 0, none⟩ (.pointer (some ⟨b, 0, none⟩)) := by
  obtain ⟨j, hj, hjs⟩ := Option.map_eq_some_iff.1 extraST.sizeBuilder
  go_enter Tryz.func97, Tryz.ntmps97
  go_wp2
  rw [Lib.run_to_unsafe w ⟨b, 0, none⟩ Tryz.underlying104 Tryz.underlying180 hj (by rw [hjs]; decide) hsh (Nat.zero_lt_succ 1)]
  simp only [Result.andThen]
  rw [Oper.upon_value]
  go_wp2
  rw [run_callFunc_extern Tryz.func126 (by kernel_rfl) (by kernel_rfl) (by kernel_rfl) (e := Extern.AbiNoEscape.same) (by kernel_rfl)]
  rw [Lib.run_noEscape]
  simp only [Result.andThen]
  rw [Oper.upon_value]
  go_wp2
  rw [Lib.run_from_unsafe w ⟨b, 0, none⟩ Tryz.underlying180 Tryz.underlying104 hj hsh extraST.liesBuilder]
  simp only [Result.andThen]
  rw [Oper.upon_value]
  go_wp2
  go_end0
  exact ⟨rfl, rfl⟩
theorem cc_any (B b : Nat) (bs : List Value) (w : World) (h : Lib.IsBuilder 107 5 B b bs w) :
    Calls Tryz.prog 97 #[.pointer (some ⟨b, 0, none⟩)] w fun e w' => e = .returned (.tuple #[]) ∧ (Lib.BuilderAt 107 5 B b (.pointer (some ⟨b, 0, none⟩)) bs w' ∧ Below B w w') := by
  rcases h with h | h
  · refine (cc_fresh b w h.cell0 h.shape h.frozen0).mono ?_
    rintro e w' ⟨rfl, rfl⟩
    exact ⟨rfl, h.used _, (Below.refl B w).setCell (p := ⟨b, 0, none⟩) h.1 _⟩
  · refine (cc_used b w h.cell0).mono ?_
    rintro e w' ⟨rfl, rfl⟩
    exact ⟨rfl, h, Below.refl B _⟩
set_option maxHeartbeats 2000000 in
set_option maxRecDepth 100000 in
theorem ws_raw (B b : Nat) (bs : List Value) (s : ByteArray) (w : World) (h : Lib.IsBuilder 107 5 B b bs w) (hlen : bs.length + s.size ≤ 140737488355328) (hBw : B ≤ w.heap.size) :
    Calls Tryz.prog 62 #[.pointer (some ⟨b, 0, none⟩), .string s] w fun e w' => e = .returned (.tuple #[.int .i64 s.size, .nilIface]) ∧ (Lib.BuilderAt 107 5 B b (.pointer (some ⟨b, 0, none⟩)) (bs ++ Lib.strCells s) w' ∧ Below B w w') := by
  obtain ⟨i0, hi, hz0, hz1, hz2⟩ := info_parts extraST.infoByte
  go_enter Tryz.func62, Tryz.ntmps62
  go_wp2_with (go_at_call 97; refine (cc_any B b bs _ h).mono ?_)
  rintro e w1 ⟨rfl, h1, hb1⟩
  obtain ⟨hB, v, hbk, hown, hne⟩ := h1
  have c0 : w1.cell? ⟨b, 0, none⟩ = some (.pointer (some ⟨b, 0, none⟩)) := by rw [Lib.cell_of_heap hbk]; rfl
  have c1 : w1.cell? ⟨b, 1, none⟩ = some v := by rw [Lib.cell_of_heap hbk]; rfl
  go_wp2_with (at_builtin; refine Lib.wpList_append_own_string _ rfl _ _ 105 9 rfl B 5 i0 Tryz.underlying105 Tryz.underlying9 hi hz0 hz1 hz2 _ _ _ rfl hown s rfl ?c3 ?c4 ?c5 ?_)
  case c3 => unfold maxLen; omega
  case c4 => omega
  case c5 => have := hb1.size; omega
  intro v' w2 hown' hgrow _
  have hlt : b < w1.heap.size := by
    rcases Nat.lt_or_ge b w1.heap.size with h' | h'
    · exact h'
    · simp [Array.getElem?_eq_none h'] at hbk
  have hb2 : w2.heap[b]? = some (.cells #[.pointer (some ⟨b, 0, none⟩), v] 107 (0, 0)) := by
    rw [hgrow.block b hlt (fun e => hne e.symm)]
    exact hbk
  have d0 : w2.cell? ⟨b, 0, none⟩ = some (.pointer (some ⟨b, 0, none⟩)) := by rw [Lib.cell_of_heap hb2]; rfl
  have d1 : w2.cell? ⟨b, 1, none⟩ = some v := by rw [Lib.cell_of_heap hb2]; rfl
  have f1 : w2.frozen? ⟨b, 1, none⟩ = false := Lib.frozen_of_heap hb2 1
  obtain ⟨ao, n', cap, rfl⟩ : ∃ ao n' cap, v' = .slice ao n' cap := by
    rcases hown'.2 with ⟨hv, _⟩ | ⟨g, cap, cur, hv, _⟩
    · exact ⟨_, _, _, hv⟩
    · exact ⟨_, _, _, hv⟩
  go_wp2
  go_ret2
  refine ⟨rfl, ?_, ?_⟩
  · exact Lib.BuilderAt.put (T := 107) (e := 5) hB hb2 (bs' := bs ++ Lib.strCells s) (by simpa [Lib.strCells_length] using hown') extraST.neB5
  · exact (hb1.grown hgrow (by have := hb1.size; omega) (fun k hk => (hown.lt k hk).1)).setCell (p := ⟨b, 1, none⟩) hB _
theorem ws_any (B b : Nat) (l m : List UInt8) (w : World) (h : SB w B b l) (hl : l.length + m.length ≤ 1000000000) (hB : B ≤ w.heap.size) :
    Calls Tryz.prog 62 #[.pointer (some ⟨b, 0, none⟩), .string (S m)] w fun e w' => e = .returned (.tuple #[.int .i64 (m.length : Int), .nilIface]) ∧ SB w' B b (l ++ m) ∧ Below B w w' := by
  refine (ws_raw B b (Lib.byteCells l) (S m) w h (by rw [S_size]; simp [Lib.byteCells]; omega) hB).mono ?_
  rintro e w' ⟨rfl, h1, h2⟩
  refine ⟨by rw [S_size], ?_, h2⟩
  unfold SB
  rw [Lib.byteCells_append]
  rw [Lib.strCells_eq, S_bytes] at h1
  exact Or.inr h1
end Go.Proofs.YtmjkfgpkohfmiaaGreat
namespace Go.Proofs.YtmjkfgpkohfmiaaGreat
set_option linter.unusedVariables false
set_option linter.unusedSimpArgs false
open Go.RowKit

/-- numbers' bytes, one behind the other -/
def putsL (l : List Int) : List UInt8 := l.flatMap putI
theorem puts_snoc (l : List Int) (k : Nat) (h : k < l.length) : putsL (l.take k) ++ putI (l.getD k 0) = putsL (l.take (k + 1)) := by
  unfold putsL
  rw [List.take_succ_eq_append_getElem h, List.flatMap_append, List.getD_eq_getElem?_getD, List.getElem?_eq_getElem h]
  simp
theorem putI_len (n : Int) : (putI n).length ≤ 10 := by
  unfold putI
  split
  · simp
  · exact (putF_len 9 _).2
theorem puts_len : ∀ l : List Int, (putsL l).length ≤ 10 * l.length
  | [] => by simp [putsL]
  | x :: l => by
    have h1 := puts_len l
    have h2 := putI_len x
    show (putI x ++ putsL l).length ≤ _
    rw [List.length_append, List.length_cons]; omega
theorem putE_nn {n : Int} (h : 0 ≤ n) : putE n = 0 := if_neg (by omega)
theorem SB.ext {w w' : World} {B b : Nat} {l : List UInt8} (h : SB w B b l) (hx : Ext w w') : SB w' B b l := by
  have go : ∀ {p : Value}, Lib.BuilderAt 107 5 B b p (Lib.byteCells l) w → Lib.BuilderAt 107 5 B b p (Lib.byteCells l) w' := fun {p} h => by
    have hlt := h.lt
    obtain ⟨hB, v, hb, ho, hn⟩ := h
    exact ⟨hB, v, (hx.block b hlt).trans hb, World.ownsRow.kept ho (hx.grownBy none) (by cases hv : v.ownBlock <;> simp), hn⟩
  rcases h with h | h
  · exact .inl (go h)
  · exact .inr (go h)
section

attribute [local go_sem] S_size S_toList S_append S_extract S_beq S_bne S_empty S_nil

end

attribute [local go_sem] S_size S_toList

end Go.Proofs.YtmjkfgpkohfmiaaGreat
namespace Go.Proofs.YtmjkfgpkohfmiaaGreat
set_option linter.unusedVariables false
set_option linter.unusedSimpArgs false
open Go.RowKit

def prepR (p : List Nat) : Except Int (List Nat × Nat) → Except Int (List Nat × Nat)
  | .ok (l, a) => .ok (p ++ l, a)
  | .error e => .error e
/-- so many numbers from a place on, and the place behind them -/
def numsR (s : List UInt8) : Nat → Nat → Except Int (List Nat × Nat)
  | 0, a => .ok ([], a)
  | n + 1, a => match takeN s (a : Int) with
    | .ok (x, k) => prepR [x] (numsR s n (a + k))
    | .error e => .error e
theorem prepR_nil (r : Except Int (List Nat × Nat)) : prepR [] r = r := by rcases r with e | ⟨l, a⟩ <;> rfl
theorem prepR_two (p q : List Nat) (r : Except Int (List Nat × Nat)) : prepR p (prepR q r) = prepR (p ++ q) r := by
  rcases r with e | ⟨l, a⟩
  · rfl
  · show Except.ok (p ++ (q ++ l), a) = Except.ok (p ++ q ++ l, a)
    rw [List.append_assoc]
theorem numsR_ok {s : List UInt8} {n a x k : Nat} (h : takeN s (a : Int) = .ok (x, k)) : numsR s (n + 1) a = prepR [x] (numsR s n (a + k)) := by
  show (match takeN s (a : Int) with | .ok (x, k) => prepR [x] (numsR s n (a + k)) | .error e => .error e) = _
  rw [h]
theorem numsR_err {s : List UInt8} {n a : Nat} {e : Int} (h : takeN s (a : Int) = .error e) : numsR s (n + 1) a = .error e := by
  show (match takeN s (a : Int) with | .ok (x, k) => prepR [x] (numsR s n (a + k)) | .error e => .error e) = _
  rw [h]
theorem takeN_ok {s : List UInt8} {a x k : Nat} (h : takeN s (a : Int) = .ok (x, k)) : a + k ≤ s.length ∧ 0 < k ∧ x < 9223372036854775808 ∧ k ≤ 9 := by
  unfold takeN at h
  split at h
  · rename_i ha
    rw [Int.toNat_natCast] at h
    have := getR_small 9 0 _ x k h
    rw [List.length_drop, show 128 ^ 9 = 9223372036854775808 by decide] at this
    omega
  · cases h
theorem getR_err : ∀ (f j : Nat) (l : List UInt8) (e : Int), getR f j l = .error e → e = 4 ∨ e = 5
  | 0, j, l, e, h => by rw [getR_none] at h; injection h with h; omega
  | f + 1, j, [], e, h => by injection h with h; omega
  | f + 1, j, b :: r, e, h => by
    rw [getR_cons] at h
    split at h
    · split at h
      · cases h
      · rename_i he
        injection h with h
        subst h
        exact getR_err f (j + 1) r _ he
    · split at h
      · injection h with h; omega
      · cases h
theorem takeN_err {s : List UInt8} {a e : Int} (h : takeN s a = .error e) : e = 2 ∨ e = 4 ∨ e = 5 := by
  unfold takeN at h
  split at h
  · have := getR_err 9 0 _ e h; omega
  · injection h with h; omega
theorem nums_len {s : List UInt8} : ∀ {n a : Nat} {l : List Nat} {t : Nat}, a ≤ s.length → numsR s n a = .ok (l, t) → l.length = n ∧ a ≤ t ∧ t ≤ s.length ∧ ∀ x ∈ l, x < 9223372036854775808
  | 0, a, l, t, ha, h => by
    injection h with h
    injection h with h1 h2
    subst h1; subst h2
    exact ⟨rfl, by omega, ha, fun x hx => by cases hx⟩
  | n + 1, a, l, t, ha, h => by
    cases ht : takeN s (a : Int) with
    | error e => rw [numsR_err ht] at h; cases h
    | ok p =>
      obtain ⟨x, k⟩ := p
      have h1 := takeN_ok ht
      rw [numsR_ok ht] at h
      cases hr : numsR s n (a + k) with
      | error e => rw [hr] at h; cases h
      | ok q =>
        obtain ⟨l', t'⟩ := q
        rw [hr] at h
        injection h with h
        injection h with h2 h3
        subst h2; subst h3
        have ih := nums_len (by omega) hr
        refine ⟨by simp [ih.1], by omega, ih.2.2.1, fun y hy => ?_⟩
        rcases List.mem_cons.1 hy with rfl | hy
        · exact h1.2.2.1
        · exact ih.2.2.2 y hy
def resL : Except Int (List Nat × Nat) → List Nat
  | .ok (l, _) => l
  | .error _ => []
def resT : Except Int (List Nat × Nat) → Int
  | .ok (_, a) => (a : Int)
  | .error _ => 0
def resE : Except Int (List Nat × Nat) → Int
  | .ok _ => 0
  | .error e => e
def toI' (l : List Nat) : List Int := l.map fun (n : Nat) => (n : Int)
theorem toI'_snoc (l : List Nat) (x : Nat) : toI' l ++ [(x : Int)] = toI' (l ++ [x]) := by unfold toI'; rw [List.map_append]; rfl
theorem toI'_length (l : List Nat) : (toI' l).length = l.length := List.length_map _
attribute [local go_sem] S_size S_toList

end Go.Proofs.YtmjkfgpkohfmiaaGreat
