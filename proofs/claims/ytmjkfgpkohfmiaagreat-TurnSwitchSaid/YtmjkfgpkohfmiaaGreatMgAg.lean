/- Several texts in one. merged: TmH TmI TmJ TmK -/
import Derived.Test.YtmjkfgpkohfmiaaGreatMgAd
import Derived.Test.YtmjkfgpkohfmiaaGreatMgAf
import Derived.Test.YtmjkfgpkohfmiaaGreatTgU
namespace Go.Proofs.YtmjkfgpkohfmiaaGreat
set_option linter.unusedVariables false
set_option linter.unusedSimpArgs false
open Go.RowKit

attribute [local go_sem] S_size S_toList S_append S_extract S_beq S_bne S_empty S_nil

theorem act_info (a : ActD) : (Tryz.prog.info? 29).map (·.size) = some (actC a).toArray.size := by kernel_rfl
theorem act_bs {w0 : World} {a : ActD} (h : ActW w0 a) (w : World) : (Instr.buildSlice 30 1 #[(0, .agg (actC a).toArray)]).run Tryz.prog w = .ok (.slice (some ⟨w.heap.size, 0, none⟩) 1 1) (w.alloc (.cells (actC a).toArray 29)) := by
  obtain ⟨kind, n, s, t, dir, vc, vm, cuts, marks⟩ := a
  obtain ⟨va, c, hvc, _⟩ := h.cuts
  obtain ⟨vb, c', hvm, _⟩ := h.marks
  dsimp only at hvc hvm
  subst hvc
  subst hvm
  kernel_rfl
theorem act_rr {w : World} {g : Nat} {a : ActD} {t : TypeId} (h : Blk w g t (actC a).toArray) : RR actC 7 w (.slice (some ⟨g, 0, none⟩) 1 1) [a] := by
  refine ⟨_, _, rfl, by simp, (fun e => by cases e), fun _ => ⟨g, 0, rfl, fun k x hk j u hu => ?_⟩⟩
  match k, hk with
  | 0, hk =>
    injection hk with hk
    subst hk
    simp only [Nat.zero_mul, Nat.zero_add]
    rw [h.cell]
    simpa using hu
end Go.Proofs.YtmjkfgpkohfmiaaGreat
namespace Go.Proofs.YtmjkfgpkohfmiaaGreat
set_option linter.unusedVariables false
set_option linter.unusedSimpArgs false
open Go.RowKit

/-- a slice that is written out, where the guard is met -/
theorem wpList_bs_g {P : Program} {ops : Array Oper} {rest : List Oper} {a : Act} {w w' : World} {Q : Exit → Act → World → Prop} {o : Oper} {v : Value} {vs : Array (Nat × Value)} (hw : Region.wanted o (yielded ops a.tmps) = true) (t : TypeId) (n : Nat) (parts : Array (Nat × Operand)) (ho : o.op = .buildSlice t n parts) (hx : (parts.toList.map fun (i, x) => (i, a.eval x)) = vs.toList)
    (hrun : (Instr.buildSlice t n vs).run P w = .ok v w') (h : wpList P ops Q rest (a.put o.dst v) w') : wpList P ops Q (o :: rest) a w :=
  wpList_step fun _ hK => by
    rw [if_pos hw]
    exact wp_bs t n parts ho hx hrun (hK _ _ h)
theorem acts_ops (d : Dsk) : ∀ l : List ActD, (d.acts l).ops ≤ d.ops + l.length
  | [] => by show d.ops ≤ _; simp
  | a :: r => by
    have h1 := acts_ops (d.act a).1 r
    have h2 := act_ops d a
    show ((d.act a).1.acts r).ops ≤ _
    rw [List.length_cons]; omega
theorem acts_next {d : Dsk} {l : List ActD} {k : Nat} {x : ActD} (h : l[k]? = some x) : d.acts (l.take (k + 1)) = ((d.acts (l.take k)).act x).1 := by
  rw [List.take_add_one, h]
  exact d.acts_snoc _ _
/-- a disk whose power is on, and that is not armed -/
structure Calm (d : Dsk) (n : Int) : Prop where
  dead : d.dead = false
  armed : d.armed = 0
  ops : d.ops ≤ n
theorem Calm.new (c : Int) : Calm (Dsk.new c) 0 := ⟨rfl, rfl, Int.le_refl _⟩
theorem Calm.act {d : Dsk} {n : Int} (h : Calm d n) {a : ActD} (h7 : a.kind ≠ 7) (h8 : a.kind ≠ 8) : Calm (d.act a).1 (n + 1) :=
  ⟨(act_calm h.dead h.armed h7 h8).1, (act_calm h.dead h.armed h7 h8).2, by have := act_ops d a; have := h.ops; omega⟩
theorem Calm.le {d : Dsk} {n m : Int} (h : Calm d n) (hm : n ≤ m) : Calm d m := ⟨h.dead, h.armed, Int.le_trans h.ops hm⟩
theorem Calm.list {d : Dsk} {n : Int} (h : Calm d n) : d.list = d.dir.map (·.1) := by unfold Dsk.list; rw [if_neg (by simp [h.dead])]
/-- the first k names are synced -/
structure Syncd (d0 : Dsk) (k : Nat) (d : Dsk) : Prop where
  calm : Calm d (60 + k)
  dir : d.dir = d0.dir
  firm : FirmTo d ((d0.dir.map (·.1)).take k)
theorem Syncd.step {d0 d : Dsk} {k : Nat} (h : Syncd d0 k d) (ok : d.Ok) {s : List UInt8} (hs : (d0.dir.map (·.1))[k]? = some s) : (d.sync s).2 = 0 ∧ Syncd d0 (k + 1) (d.sync s).1 := by
  have hm : s ∈ d.dir.map (·.1) := by rw [h.dir]; exact List.mem_of_getElem? hs
  have g := sync_good h.calm.dead h.calm.armed (dGet_some hm)
  refine ⟨g.1, ⟨g.2.1, g.2.2, ?_⟩, (sync_dir d s).trans h.dir, ?_⟩
  · have := sync_ops d s
    have := h.calm.ops
    have e : ((k + 1 : Nat) : Int) = (k : Int) + 1 := by omega
    rw [e]; omega
  · rw [List.take_add_one, hs]
    exact (sync_firm ok s (.inr h.firm)).resolve_left (by rw [g.2.1]; decide)
/-- all is synced: the texts by their names are kept -/
theorem synced_all {d : Dsk} (ok : d.Ok) {N : Int} (hc : Calm d N) (hf : FirmTo d (d.dir.map (·.1))) : d.dirSync.2 = 0 ∧ Calm d.dirSync.1 (N + 1) ∧ ∀ s ∈ d.dirSync.1.list, ∃ n, Kept s n (d.dirSync.1.read s).1 d.dirSync.1 := by
  have hok := ok.dirSync
  rw [dirSync_good hc.dead (by rw [hc.armed]; decide)] at hok ⊢
  have c3 : Calm ({ d.cnt with safe := d.dir, chs := [] } : Dsk) (N + 1) := ⟨by simp [Dsk.cnt, hc.armed], by show max (d.armed - 1) 0 = 0; rw [hc.armed]; decide, by show d.ops + 1 ≤ _; have := hc.ops; omega⟩
  refine ⟨rfl, c3, fun s hs => ?_⟩
  have hl := list_len hok s hs
  rw [c3.list] at hs
  obtain ⟨n, hn⟩ := Option.isSome_iff_exists.1 (dGet_some hs)
  have hr : ({ d.cnt with safe := d.dir, chs := [] } : Dsk).read s = ((d.file n).2, 0) := by
    unfold Dsk.read
    rw [c3.dead, hn]; rfl
  rw [hr]
  have e : (d.file n).1 = (d.file n).2 := hf s hs n hn
  refine ⟨n, ⟨hl.2, hn, hn, fun c hc => by simp at hc, (ok.dirN _ (dGet_mem hn)).2, ?_, ?_⟩⟩
  · show (d.file n).2 <+: (d.file n).1
    rw [e]; exact List.prefix_refl _
  · show (d.file n).1 <+: (d.file n).2
    rw [e]; exact List.prefix_refl _
theorem safe_end {d : Dsk} (ok : d.Ok) {s T : List UInt8} (h : ∃ n, Kept s n T d) {l : List ActD} (hn : ∀ a ∈ l, a.n ≤ 9223372036854775807) (ho : l.any (oursB s) = false) (k : Int) (cuts : List Int) (marks : List (List UInt8)) :
    ∃ x, ((d.acts l).boot k cuts marks).read s = (x, 0) ∧ T.length ≤ x.length ∧ x.take T.length = T := by
  obtain ⟨n, h⟩ := h
  obtain ⟨x, h1, y, h2⟩ := (Kept.acts ok h hn ho).boot k cuts marks
  refine ⟨x, h1, ?_, ?_⟩
  · rw [← h2, List.length_append]; omega
  · rw [← h2]; simp
theorem SR.shape {K : List Nat} {w : World} {v : Value} {l : List (List UInt8)} (h : SR K w v l) : ∃ a c, v = .slice a l.length c := by
  obtain ⟨⟨a, c, h1, _⟩, _⟩ := h
  exact ⟨a, c, h1⟩
theorem SR.cell {K : List Nat} {w : World} {a : Option Addr} {n c : Nat} {l : List (List UInt8)} (h : SR K w (.slice a n c) l) {k : Nat} {s : List UInt8} (hs : l[k]? = some s) : ∃ g o, a = some ⟨g, o, none⟩ ∧ w.cell? ⟨g, o + k, none⟩ = some (.string (S s)) := by
  obtain ⟨⟨a', c', h1, _, _, h2⟩, _⟩ := h
  injection h1 with e1 e2 e3
  subst e1
  have hk := (List.getElem?_eq_some_iff.1 hs).1
  obtain ⟨g, o, h3, h4⟩ := h2 (by omega)
  refine ⟨g, o, h3, ?_⟩
  have := h4 k s hs 0 _ rfl
  simpa using this
theorem fewA_n {w : World} {l : List ActD} (h : ∀ a ∈ l, ActW w a) (k : Nat) : ∀ a ∈ l.take k, a.n ≤ 9223372036854775807 := fun a ha => (h a (List.mem_of_mem_take ha)).n1
theorem few_len {l : List ActD} (h : FewA l) : (l.length : Int) ≤ 60 := h.1
end Go.Proofs.YtmjkfgpkohfmiaaGreat
namespace Go.Proofs.YtmjkfgpkohfmiaaGreat
set_option linter.unusedVariables false
set_option linter.unusedSimpArgs false
open Go.RowKit

attribute [local go_sem] S_size S_toList S_append S_extract S_beq S_bne S_empty S_nil

theorem few_of {w1 : World} {v : Value} {l : List ActD} {w : World} (h : RR actC 7 w v l) (ha : ∀ a ∈ l, ActW w a) (hl : (l.length : Int) ≤ 9223372036854775807) (x : Ext w w1) :
    Calls Tryz.prog 5 #[v] w1 fun e w' => e = .returned (.bool (decide (FewA l))) ∧ w1 = w' :=
  few_any (h.ext x) (fun a h => (ha a h).ext x) hl
end Go.Proofs.YtmjkfgpkohfmiaaGreat
namespace Go.Proofs.YtmjkfgpkohfmiaaGreat
set_option linter.unusedVariables false
set_option linter.unusedSimpArgs false
open Go.RowKit

attribute [local go_sem] S_size S_toList S_append S_extract S_beq S_bne S_empty S_nil

def fellB (l : List ActD) : Bool := l.any fun a => decide (a.kind = 9)
theorem fellB_next {l : List ActD} {k : Nat} {x : ActD} (h : l[k]? = some x) : fellB (l.take (k + 1)) = (fellB (l.take k) || decide (x.kind = 9)) := by
  unfold fellB
  rw [List.take_add_one, h, List.any_append]
  simp
theorem used_next {d : Dsk} (ok : d.Ok) {l : List ActD} {k : Nat} {x : ActD} (h : l[k]? = some x) (hu : fellB (l.take k) = false → d.used ≤ d.cap) (hf : fellB (l.take (k + 1)) = false) : (d.act x).1.used ≤ (d.act x).1.cap := by
  rw [fellB_next h, Bool.or_eq_false_iff] at hf
  exact (used_act ok (hu hf.1) (by simpa using hf.2)).1
theorem cap_act (d : Dsk) (a : ActD) : (d.act a).1.cap = d.cap := by
  unfold Dsk.act
  split
  · unfold Dsk.create
    (repeat' split) <;> rfl
  split
  · unfold Dsk.append
    (repeat' split) <;> rfl
  split
  · unfold Dsk.sync
    (repeat' split) <;> rfl
  split
  · unfold Dsk.cut
    (repeat' split) <;> rfl
  split
  · unfold Dsk.rename
    (repeat' split) <;> rfl
  split
  · unfold Dsk.remove
    (repeat' split) <;> rfl
  split
  · unfold Dsk.dirSync
    (repeat' split) <;> rfl
  split
  · unfold Dsk.arm
    (repeat' split) <;> rfl
  split
  · rfl
  split <;> rfl
/-- the first k names are synced, if the power is on -/
structure SyncW (L : List (List UInt8)) (n : Int) (k : Nat) (d : Dsk) : Prop where
  ops : d.ops ≤ n + k
  list : d.dead = false → d.dir.map (·.1) = L
  firm : d.dead = true ∨ FirmTo d (L.take k)
theorem sync_dead {d : Dsk} {s : List UInt8} (h : d.dead = true) : (d.sync s).1 = d := by unfold Dsk.sync; rw [if_pos h]
theorem SyncW.step {L : List (List UInt8)} {n : Int} {d : Dsk} {k : Nat} (h : SyncW L n k d) (ok : d.Ok) {s : List UInt8} (hs : L[k]? = some s) : SyncW L n (k + 1) (d.sync s).1 := by
  have ho := sync_ops d s
  have := h.ops
  refine ⟨by have e : ((k + 1 : Nat) : Int) = (k : Int) + 1 := by omega
             rw [e]; omega, fun hd => ?_, ?_⟩
  · rw [sync_dir]
    refine h.list ?_
    cases hdd : d.dead with
    | false => rfl
    | true => rw [sync_dead hdd, hdd] at hd; cases hd
  · rw [List.take_add_one, hs]
    exact sync_firm ok s h.firm
/-- behind a sync of all, and of the directory, if the power is on still -/
theorem whole_all {d : Dsk} (ok : d.Ok) {L : List (List UInt8)} {n : Int} {k : Nat} (hk : L.length ≤ k) (h : SyncW L n k d) (hd : d.dirSync.1.dead = false) :
    d.dirSync.1.safe = d.dirSync.1.dir ∧ d.dirSync.1.chs = [] ∧ FirmTo d.dirSync.1 (d.dirSync.1.dir.map (·.1)) := by
  obtain ⟨h1, h2⟩ := dirSync_alive hd
  have hf := h.firm.resolve_left (by rw [h1]; decide)
  rw [List.take_of_length_le hk, ← h.list h1] at hf
  rw [dirSync_good h1 h2]
  exact ⟨rfl, rfl, hf⟩
theorem whole_end {d : Dsk} (hn : d.dir.Pairwise (fun p q => p.1 ≠ q.1)) (hd : d.dead = false) (h1 : d.safe = d.dir) (h2 : d.chs = []) (hf : FirmTo d (d.dir.map (·.1))) (k : Int) (cuts : List Int) (marks : List (List UInt8)) :
    (d.off.boot k cuts marks).list = d.list ∧ texts (d.off.boot k cuts marks) (d.off.boot k cuts marks).list = texts d d.list ∧ (d.off.boot k cuts marks).dead = false ∧ (d.off.boot k cuts marks).chs = [] := by
  have e := boot_whole hn hf h1 h2 k cuts marks
  have el : ({ d with dead := false, armed := 0 } : Dsk).list = d.list := by unfold Dsk.list; rw [hd]
  rw [e]
  refine ⟨el, ?_, rfl, h2⟩
  rw [el]
  unfold texts
  refine List.map_congr_left (fun s _ => ?_)
  unfold Dsk.read
  rw [hd]; rfl
end Go.Proofs.YtmjkfgpkohfmiaaGreat
