/- Strings behind a closed name: the model's operations on them, said of lists of bytes. -/
import Derived.Test.YtmjkfgpkohfmiaaGreatMem
import Derived.Test.YtmjkfgpkohfmiaaGreatBits
import Derived.Lib.ConvBytes
import Derived.Laws.BytesArg
namespace Go.Proofs.YtmjkfgpkohfmiaaGreat
set_option linter.unusedVariables false
set_option linter.unusedSimpArgs false
open Go.RowKit

/-- a text, of its bytes -/
def S (l : List UInt8) : ByteArray := ⟨l.toArray⟩
theorem S_size (l : List UInt8) : (S l).size = l.length := by simp [S, ByteArray.size]
theorem S_of (s : ByteArray) : s = S s.data.toList := by simp [S]
theorem S_ex (s : ByteArray) : ∃ l, s = S l ∧ l.length = s.size := ⟨_, S_of s, by simp⟩
theorem S_inj {a b : List UInt8} (h : S a = S b) : a = b := by
  have := congrArg (fun s : ByteArray => s.data.toList) h
  simpa [S] using this
theorem S_append (a b : List UInt8) : S a ++ S b = S (a ++ b) := by
  unfold S; exact ByteArray.mk_append_mk a b
theorem S_extract (l : List UInt8) (a b : Nat) : (S l).extract a b = S ((l.take b).drop a) := by
  apply ByteArray.ext
  rw [ByteArray.data_extract]
  simp [S, List.drop_take]
theorem S_beq (a b : List UInt8) : (S a == S b) = (a == b) := by
  show ((S a).data == (S b).data) = _
  simp [S]
theorem S_bne (a b : List UInt8) : (S a != S b) = (a != b) := by unfold bne; rw [S_beq]
theorem S_empty : ByteArray.empty = S [] := rfl
theorem S_nil : (ByteArray.mk #[]) = S [] := rfl
theorem S_bytes (l : List UInt8) : (S l).data.toList = l := by simp [S]
theorem S_toList (l : List UInt8) : (S l).toList = l := by simp [S]
theorem S_get (l : List UInt8) (k : Nat) (h : k < (S l).size) : (S l)[k] = l[k]'(by rw [S_size] at h; exact h) := by
  simp [S]; rfl
theorem index_S (l : List UInt8) (k : Nat) (hk : k < l.length) (b : UInt8) (hb : l.getD k 0 = b) (w : World) : (Instr.index 9 (.string (S l)) (.int .i64 (k : Int))).run Tryz.prog w = .ok (.int .u8 (U8 b)) w := by
  rw [run_index_string _ _ _ _ _ Tryz.underlying9, dif_pos ⟨by omega, by rw [S_size]; omega⟩, ← hb]
  congr 2
  simp only [Int.toNat_natCast, S_get]
  rw [List.getD_eq_getElem?_getD, List.getElem?_eq_getElem hk]; rfl
theorem run_cat {P : Program} (a b : List UInt8) (h : a.length + b.length ≤ 9223372036854775807) (w : World) : (Op.stringOp .add (S a) (S b)).run P w = .ok (.string (S (a ++ b))) w := by
  rw [run_string_add_sum w _ _ (by rw [S_size, S_size]; exact h), S_append]
end Go.Proofs.YtmjkfgpkohfmiaaGreat
