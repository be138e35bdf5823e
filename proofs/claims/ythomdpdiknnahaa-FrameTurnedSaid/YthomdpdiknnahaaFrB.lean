/- Frames: plain laws. -/
import Derived.Test.YthomdpdiknnahaaFrA
import Derived.Test.YthomdpdiknnahaaFcTab
namespace Go.Proofs.Ythomdpdiknnahaa
set_option linter.unusedVariables false
set_option linter.unusedSimpArgs false
open Go.RowKit

/-- the sum of bytes -/
def sumN (l : List UInt8) : Nat := (~~~ restL theTab (~~~ 0) l).toNat
theorem sumN_lt (l : List UInt8) : sumN l < 4294967296 := (~~~ restL theTab (~~~ 0) l).toNat_lt
def headB (kind : Int) (body : List UInt8) : List UInt8 := UInt8.ofNat kind.toNat :: fix4 body.length ++ body
def frameB (kind : Int) (body : List UInt8) : List UInt8 := headB kind body ++ fix4 (sumN (headB kind body))
theorem headB_length (kind : Int) (body : List UInt8) : (headB kind body).length = body.length + 5 := by
  unfold headB; simp [fix4_length]; omega
theorem frameB_length (kind : Int) (body : List UInt8) : (frameB kind body).length = body.length + 9 := by
  unfold frameB; rw [List.length_append, headB_length, fix4_length]
def putE (kind : Int) (n : Nat) : Int := if 1 ≤ kind ∧ kind ≤ 4 then (if (n : Int) ≤ 60000 then 0 else 3) else 160
def putB (kind : Int) (body : List UInt8) : List UInt8 := if putE kind body.length = 0 then frameB kind body else []

/-! ### four bytes -/
theorem un4_eq (l : List UInt8) (a : Nat) : un4 l a = byteAt l a + 256 * byteAt l (a + 1) + 65536 * byteAt l (a + 2) + 16777216 * byteAt l (a + 3) := by
  unfold un4
  simp only [unTo]
  show (((0 * 256 + byteAt l (a + 3)) * 256 + byteAt l (a + 2)) * 256 + byteAt l (a + 1)) * 256 + byteAt l a = _
  omega
theorem fix4_eq (n : Nat) : fix4 n = [UInt8.ofNat n, UInt8.ofNat (n / 256), UInt8.ofNat (n / 65536), UInt8.ofNat (n / 16777216)] := by
  show [UInt8.ofNat (n / 256 ^ 0), UInt8.ofNat (n / 256 ^ 1), UInt8.ofNat (n / 256 ^ 2), UInt8.ofNat (n / 256 ^ 3)] = _
  simp
theorem four_at {l : List UInt8} {e : Nat} (h : e + 4 ≤ l.length) : (l.take (e + 4)).drop e = [l.getD e 0, l.getD (e + 1) 0, l.getD (e + 2) 0, l.getD (e + 3) 0] := by
  apply List.ext_getElem?
  intro i
  rw [List.getElem?_drop, List.getElem?_take]
  by_cases hi : i < 4
  · rw [if_pos (by omega), List.getElem?_eq_getElem (by omega)]
    obtain rfl | rfl | rfl | rfl : i = 0 ∨ i = 1 ∨ i = 2 ∨ i = 3 := by omega
    all_goals simp [List.getD_eq_getElem?_getD, List.getElem?_eq_getElem (show e < l.length by omega), List.getElem?_eq_getElem (show e + 1 < l.length by omega), List.getElem?_eq_getElem (show e + 2 < l.length by omega), List.getElem?_eq_getElem (show e + 3 < l.length by omega)]
  · rw [if_neg (by omega), List.getElem?_eq_none (by simp; omega)]
theorem u8_eq {a : UInt8} {n : Nat} : UInt8.ofNat n = a ↔ n % 256 = a.toNat := by
  rw [← UInt8.toNat_inj, UInt8.toNat_ofNat']
theorem fix4_iff {l : List UInt8} {e n : Nat} (h : e + 4 ≤ l.length) (hn : n < 4294967296) : fix4 n = (l.take (e + 4)).drop e ↔ n = un4 l e := by
  have hb0 := byteAt_lt l e
  have hb1 := byteAt_lt l (e + 1)
  have hb2 := byteAt_lt l (e + 2)
  have hb3 := byteAt_lt l (e + 3)
  rw [four_at h, fix4_eq, un4_eq]
  simp only [List.cons.injEq, and_true, u8_eq]
  unfold byteAt at *
  omega

/-! ### a frame is taken -/
structure F4 where
  kind : Int
  body : List UInt8
  at_ : Int
  to : Int
instance : Inhabited F4 := ⟨⟨0, [], 0, 0⟩⟩
deriving instance DecidableEq for F4
def f4C (f : F4) : List Value := [.int .i64 f.kind, .string (S f.body), .int .i64 f.at_, .int .i64 f.to]
def bodyN (l : List UInt8) (a : Int) : Nat := un4 l (a.toNat + 1)
def endN (l : List UInt8) (a : Int) : Nat := a.toNat + 5 + bodyN l a
def sumOk (l : List UInt8) (a : Int) : Bool := decide (sumN ((l.take (endN l a)).drop a.toNat) = un4 l (endN l a))
def getE (l : List UInt8) (a : Int) : Int :=
  if a < 0 ∨ (l.length : Int) < a then 2
  else if (l.length : Int) - a < 5 then 4
  else if ¬ (1 ≤ byteAt l a.toNat ∧ byteAt l a.toNat ≤ 4) then 160
  else if 60000 < bodyN l a then 3
  else if (l.length : Int) - a - 9 < bodyN l a then 4
  else if sumOk l a then 0 else 7
def getF (l : List UInt8) (a : Int) : F4 :=
  if getE l a = 0 then ⟨(byteAt l a.toNat : Int), (l.take (endN l a)).drop (a.toNat + 5), a, (endN l a : Int) + 4⟩ else ⟨0, [], 0, 0⟩
theorem get_firsts (l : List UInt8) (a : Int) :
    (getE l a = 2 ∧ a < 0)
    ∨ (getE l a = 2 ∧ 0 ≤ a ∧ (l.length : Int) < a)
    ∨ (getE l a = 4 ∧ 0 ≤ a ∧ a ≤ (l.length : Int) ∧ (l.length : Int) - a < 5)
    ∨ (getE l a = 160 ∧ 0 ≤ a ∧ a ≤ (l.length : Int) ∧ 5 ≤ (l.length : Int) - a ∧ byteAt l a.toNat < 1)
    ∨ (getE l a = 160 ∧ 0 ≤ a ∧ a ≤ (l.length : Int) ∧ 5 ≤ (l.length : Int) - a ∧ 4 < byteAt l a.toNat)
    ∨ (getE l a = 3 ∧ 0 ≤ a ∧ a ≤ (l.length : Int) ∧ 5 ≤ (l.length : Int) - a ∧ (1 ≤ byteAt l a.toNat ∧ byteAt l a.toNat ≤ 4) ∧ 60000 < bodyN l a)
    ∨ (getE l a = 4 ∧ 0 ≤ a ∧ a ≤ (l.length : Int) ∧ 5 ≤ (l.length : Int) - a ∧ (1 ≤ byteAt l a.toNat ∧ byteAt l a.toNat ≤ 4) ∧ bodyN l a ≤ 60000 ∧ (l.length : Int) - a - 9 < bodyN l a)
    ∨ (getE l a = 7 ∧ 0 ≤ a ∧ a ≤ (l.length : Int) ∧ 5 ≤ (l.length : Int) - a ∧ (1 ≤ byteAt l a.toNat ∧ byteAt l a.toNat ≤ 4) ∧ bodyN l a ≤ 60000 ∧ (bodyN l a : Int) ≤ (l.length : Int) - a - 9 ∧ sumOk l a = false)
    ∨ (getE l a = 0 ∧ 0 ≤ a ∧ a ≤ (l.length : Int) ∧ 5 ≤ (l.length : Int) - a ∧ (1 ≤ byteAt l a.toNat ∧ byteAt l a.toNat ≤ 4) ∧ bodyN l a ≤ 60000 ∧ (bodyN l a : Int) ≤ (l.length : Int) - a - 9 ∧ sumOk l a = true) := by
  unfold getE
  by_cases h1 : a < 0
  · exact .inl ⟨if_pos (.inl h1), h1⟩
  by_cases h2 : (l.length : Int) < a
  · exact .inr (.inl ⟨if_pos (.inr h2), by omega, h2⟩)
  rw [if_neg (by omega)]
  by_cases h3 : (l.length : Int) - a < 5
  · exact .inr (.inr (.inl ⟨if_pos h3, by omega, by omega, h3⟩))
  rw [if_neg h3]
  by_cases h4 : byteAt l a.toNat < 1
  · exact .inr (.inr (.inr (.inl ⟨if_pos (by omega), by omega, by omega, by omega, h4⟩)))
  by_cases h5 : 4 < byteAt l a.toNat
  · exact .inr (.inr (.inr (.inr (.inl ⟨if_pos (by omega), by omega, by omega, by omega, h5⟩))))
  rw [if_neg (by omega)]
  by_cases h6 : 60000 < bodyN l a
  · exact .inr (.inr (.inr (.inr (.inr (.inl ⟨if_pos h6, by omega, by omega, by omega, by omega, h6⟩)))))
  rw [if_neg h6]
  by_cases h7 : (l.length : Int) - a - 9 < bodyN l a
  · exact .inr (.inr (.inr (.inr (.inr (.inr (.inl ⟨if_pos h7, by omega, by omega, by omega, by omega, by omega, h7⟩))))))
  rw [if_neg h7]
  cases h8 : sumOk l a with
  | false => exact .inr (.inr (.inr (.inr (.inr (.inr (.inr (.inl ⟨rfl, by omega, by omega, by omega, by omega, by omega, by omega, rfl⟩)))))))
  | true => exact .inr (.inr (.inr (.inr (.inr (.inr (.inr (.inr ⟨rfl, by omega, by omega, by omega, by omega, by omega, by omega, rfl⟩)))))))
end Go.Proofs.Ythomdpdiknnahaa
