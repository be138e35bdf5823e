/- gram: with; OnesCount64. -/
import Derived.Test.YtjbacmhkmofpkaaGramB
import Derived.Test.YtjbacmhkmofpkaaGramP
import Derived.Laws.Bits128
namespace Go.Proofs.Ytjbacmhkmofpkaa
set_option linter.unusedVariables false
set_option linter.unusedSimpArgs false
open Go.RowKit
attribute [local go_sem] u64_or64 u64_beq64

theorem u64_one_shl (r : Nat) (hr : r < 64) : IntKind.u64.wrap (2 ^ r) = U64 (1 <<< UInt64.ofNat r) := by
  have h : (2 : Nat) ^ r < 2 ^ 64 := Nat.pow_lt_pow_right (by omega) hr
  have e : (UInt64.ofNat r).toNat % 64 = r := by rw [UInt64.toNat_ofNat']; omega
  unfold U64
  rw [IntKind.wrap_u64, UInt64.toNat_shiftLeft, e, UInt64.toNat_one, Nat.one_shiftLeft, Nat.mod_eq_of_lt h]
  have e2 : ((2 : Int) ^ r) = ((2 ^ r : Nat) : Int) := by rw [Int.natCast_pow]; rfl
  rw [e2]
  generalize 2 ^ r = p at *
  omega

set_option maxRecDepth 20000 in
set_option maxHeartbeats 1000000 in
theorem with_any (m : List UInt64) (n : Nat) (w : World) (hm : m.length = 4) (hn : n < 256) :
    Calls Try.prog 30 #[MV m, .int .i64 n] w fun e w' => e = .returned (MV (withL m n)) ∧ Ext w w' := by
  obtain ⟨q, r, rfl, hq4, hr⟩ : ∃ q r : Nat, n = 64 * q + r ∧ q < 4 ∧ r < 64 := ⟨n / 64, n % 64, by omega, by omega, by omega⟩
  unfold MV withL
  rw [show (64 * q + r) / 64 = q by omega, show (64 * q + r) % 64 = r by omega]
  have hq : IntKind.i64.wrap (((64 * q + r : Nat) : Int).tdiv 64) = (q : Int) := by rw [Int.tdiv_eq_ediv_of_nonneg (by omega), IntKind.wrap_i64]; omega
  have hr' : ((64 * q + r : Nat) : Int).tmod 64 = (r : Int) := by rw [Int.tmod_eq_emod_of_nonneg (by omega)]; omega
  have hr2 : ((64 * q + r : Nat) : Int) % 64 = (r : Int) := by omega
  have hn' : ((64 * q + r : Nat) : Int) < 256 := by omega
  have hn0 : (0 : Int) ≤ ((64 * q + r : Nat) : Int) := by omega
  generalize ((64 * q + r : Nat) : Int) = n at *
  have hq4' : (q : Int) < 4 := by omega
  have hr4' : (r : Int) < 64 := by omega
  have b1 : Blk ((w.alloc (.cells (wordsL m).toArray 29)).alloc (.cells #[.int .u64 0, .int .u64 0, .int .u64 0, .int .u64 0] 29)) w.heap.size 29 (wordsL m).toArray := (Blk.new w _ _).alloc _
  have b2 : Blk ((w.alloc (.cells (wordsL m).toArray 29)).alloc (.cells #[.int .u64 0, .int .u64 0, .int .u64 0, .int .u64 0] 29)) (w.heap.size + 1) 29 #[.int .u64 0, .int .u64 0, .int .u64 0, .int .u64 0] := by
    have := Blk.new (w.alloc (.cells (wordsL m).toArray 29)) 29 #[.int .u64 0, .int .u64 0, .int .u64 0, .int .u64 0]
    rw [World.size_alloc] at this; exact this
  have hx : Ext w ((w.alloc (.cells (wordsL m).toArray 29)).alloc (.cells #[.int .u64 0, .int .u64 0, .int .u64 0, .int .u64 0] 29)).drew := (((Ext.refl _).alloc _).alloc _).drew
  have c1 := up_cell (show ((w.alloc (.cells (wordsL m).toArray 29)).alloc (.cells #[.int .u64 0, .int .u64 0, .int .u64 0, .int .u64 0] 29)).drew.cell? ⟨w.heap.size, q, none⟩ = some (.int .u64 (U64 (m.getD q 0))) from (b1.drew.cell q).trans (wordsL_get _ _ (by omega)))
  have cf := fun x : Up ((w.alloc (.cells (wordsL m).toArray 29)).alloc (.cells #[.int .u64 0, .int .u64 0, .int .u64 0, .int .u64 0] 29)).drew => (b1.drew.ext x.ext).frozen q
  have hs : IntKind.u64.wrap (2 ^ r) = U64 (1 <<< UInt64.ofNat r) := u64_one_shl r hr
  have hl : (m.set q (m.getD q 0 ||| 1 <<< UInt64.ofNat r)).length = 4 := by simp [hm]
  have B1 := Lib.hid b1
  have B2 := Lib.hid b2
  have HX := Lib.hid hx
  have HS := Lib.hid (fun x : Up ((w.alloc (.cells (wordsL m).toArray 29)).alloc (.cells #[.int .u64 0, .int .u64 0, .int .u64 0, .int .u64 0] 29)).drew => by
    have := (b1.drew.ext x.ext).set_ q (.int .u64 (U64 (m.getD q 0 ||| 1 <<< UInt64.ofNat r)))
    rw [wordsL_set] at this; exact this)
  clear b1 b2 hx
  generalize (1 : UInt64) <<< UInt64.ofNat r = y at *
  generalize m.getD q 0 = x at *
  generalize m.set q (x ||| y) = m' at *
  go_enter Try.func30, Try.ntmps30
  go_wp2_with fail
  refine wp_region_lex _ rfl (by kernel_rfl) ?_
  dsimp only [List.length_cons, List.length_nil]
  repeat (first
    | (refine lex_want (by kernel_rfl) (by kernel_rfl) (by kernel_rfl) (by kernel_rfl) (fun _ _ _ _ h => h) (by kernel_rfl) (fun K hK => ?_)
       go_simp
       (refine hK _ ?_; clear hK K)))
  refine lex_last (by kernel_rfl) (by kernel_rfl) (by kernel_rfl) (by kernel_rfl) (by kernel_rfl) (fun x K hK => ?_)
  have p1 := c1 x
  have p2 := cf x
  go_simp
  refine hK _ _ (fun y => ?_)
  have hy1 := Lib.hid ((HS.out x).ext y.ext)
  have hy2 := Lib.hid (((B2.out.drew.ext x.ext).far (p := ⟨w.heap.size, q, none⟩) (Nat.succ_ne_self _) _).ext y.ext)
  have hy4 := Lib.hid ((Ext.set (HX.out.trans x.ext) (p := ⟨w.heap.size, q, none⟩) (Nat.le_refl _) _).trans y.ext)
  clear hK c1 cf p1 p2 HS
  go_wp2_with (first
    | (refine wpList_load_blk rfl 29 (.tmp 2) rfl rfl hy1.out Try.underlying29 rfl (marks_size hl) ?_)
    | (refine wpList_store_blk rfl 29 (.tmp 4) (.tmp 14) rfl rfl rfl hy2.out (by rw [wordsL_size, hl]; rfl) (marks_size hl) (wordsL_one _) ?_))
  exact bodyPost_ret (results_cell_row rfl _ _ (w.heap.size + 1) _ _ (0, 0) _ rfl (hy2.out.setRow _) Try.underlying29 rfl (marks_size hl)) rfl ⟨rfl, Ext.setRow hy4.out (Nat.le_add_right _ _) _⟩

theorem onesA_fact (n : Nat) (h : n < 2 ^ 64) : IntKind.u64.wrap (bits .and .u64 ((n : Int) / 2) 6148914691236517205 + bits .and .u64 (n : Int) 6148914691236517205) = ((onesA n : Nat) : Int) ∧ onesA n < 2 ^ 64 := by
  have h1 := u64_and_nat (n / 2) 6148914691236517205 (by omega) (by omega)
  have h2 := u64_and_nat n 6148914691236517205 h (by omega)
  have b1 : n / 2 &&& 6148914691236517205 ≤ 6148914691236517205 := Nat.and_le_right
  have b2 : n &&& 6148914691236517205 ≤ 6148914691236517205 := Nat.and_le_right
  rw [show ((n : Int) / 2) = ((n / 2 : Nat) : Int) by omega, show ((6148914691236517205 : Int)) = ((6148914691236517205 : Nat) : Int) from rfl, h1, h2, IntKind.wrap_u64]
  unfold onesA; omega
theorem onesB_fact (n : Nat) (h : n < 2 ^ 64) : IntKind.u64.wrap (bits .and .u64 ((n : Int) / 4) 3689348814741910323 + bits .and .u64 (n : Int) 3689348814741910323) = ((onesB n : Nat) : Int) ∧ onesB n < 2 ^ 64 := by
  have h1 := u64_and_nat (n / 4) 3689348814741910323 (by omega) (by omega)
  have h2 := u64_and_nat n 3689348814741910323 h (by omega)
  have b1 : n / 4 &&& 3689348814741910323 ≤ 3689348814741910323 := Nat.and_le_right
  have b2 : n &&& 3689348814741910323 ≤ 3689348814741910323 := Nat.and_le_right
  rw [show ((n : Int) / 4) = ((n / 4 : Nat) : Int) by omega, show ((3689348814741910323 : Int)) = ((3689348814741910323 : Nat) : Int) from rfl, h1, h2, IntKind.wrap_u64]
  unfold onesB; omega
theorem onesC_fact (n : Nat) (h : n / 16 + n < 2 ^ 64) : bits .and .u64 (IntKind.u64.wrap ((n : Int) / 16 + (n : Int))) 1085102592571150095 = ((onesC n : Nat) : Int) := by
  rw [IntKind.wrap_u64, show ((n : Int) / 16 + (n : Int)) % 18446744073709551616 = ((n / 16 + n : Nat) : Int) by omega, show ((1085102592571150095 : Int)) = ((1085102592571150095 : Nat) : Int) from rfl, u64_and_nat _ _ h (by omega)]
  rfl
theorem onesD_fact (n k : Nat) (h : n + n / k < 18446744073709551616) : IntKind.u64.wrap ((n : Int) + (n : Int) / (k : Int)) = ((n + n / k : Nat) : Int) := by
  rw [IntKind.wrap_u64, ← Int.natCast_ediv, ← Int.natCast_add]
  generalize n + n / k = x at *
  omega
theorem low7 (g c : Nat) (h : g % 128 = c) (hu : g < 18446744073709551616) : bits .and .i64 (wrap64 (g : Int)) 127 = (c : Int) := by
  rw [i64_and127]
  unfold wrap64
  subst h
  omega
theorem onesB_small (n : Nat) : onesB n / 16 + onesB n < 2 ^ 64 := by
  have b1 : n / 4 &&& 3689348814741910323 ≤ 3689348814741910323 := Nat.and_le_right
  have b2 : n &&& 3689348814741910323 ≤ 3689348814741910323 := Nat.and_le_right
  unfold onesB; omega

set_option maxRecDepth 20000 in
set_option maxHeartbeats 1000000 in
theorem ones_any (x : UInt64) (w : World) :
    Calls Try.prog 32 #[.int .u64 (U64 x)] w fun e w' => e = .returned (.int .i64 (cntN 64 x.toNat)) ∧ w = w' := by
  unfold U64
  obtain ⟨ha, ha'⟩ := onesA_fact x.toNat x.toNat_lt
  obtain ⟨hb, hb'⟩ := onesB_fact (onesA x.toNat) ha'
  have hc := onesC_fact _ (onesB_small (onesA x.toNat))
  obtain ⟨hall, hu, hy, hz⟩ := ones_all x.toNat x.toNat_lt _ _ _ rfl rfl rfl
  have hd := onesD_fact _ 256 hy
  have he := onesD_fact _ 65536 hz
  have hf := onesD_fact _ 4294967296 hu
  rw [show ((256 : Nat) : Int) = 256 from rfl] at hd
  rw [show ((65536 : Nat) : Int) = 65536 from rfl] at he
  rw [show ((4294967296 : Nat) : Int) = 4294967296 from rfl] at hf
  clear ha' hb' hy hz
  generalize cntN 64 x.toNat = c at *
  generalize onesA x.toNat = a at *
  generalize onesB a = b at *
  generalize onesC b = d at *
  generalize d + d / 256 = e at *
  generalize e + e / 65536 = f at *
  generalize f + f / 4294967296 = g at *
  generalize x.toNat = n at *
  have hg := low7 g c hall hu
  clear hall hu
  go_enter Try.func32, Try.ntmps32
  go_wp2
  go_ret
  exact ⟨rfl, rfl⟩
end Go.Proofs.Ytjbacmhkmofpkaa
