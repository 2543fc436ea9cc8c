/- The log's functions, each by a contract: its small ones. -/
import Derived.Test.YtgjllhdbkdcofaaRows
import Derived.Test.YtgjllhdbkdcofaaDkA
import Derived.WalkKit
import Derived.BigQuiet
import Derived.Lib.Hide
import Derived.Deep.RegionHeld3
import Derived.Deep.QuietTactic
import Derived.Laws.CopyOwn
import Derived.WalkSpells
import Derived.Lib.AppendZerosOnto
namespace Go.Proofs.Ytgjllhdbkdcofaa
open Go.RowKit Go.Dk

/-- bytes as cells -/
def bv (l : List UInt8) : List Value := l.map fun b => .int .u8 (b.toNat : Int)
theorem bv_length (l : List UInt8) : (bv l).length = l.length := by simp [bv]

def FuseIs (w : World) (B : Nat) (fv : Value) (fu : Option Int) : Prop :=
  (fv = .pointer none ∧ fu = none) ∨ ∃ q x, fv = .pointer (some ⟨q, 0, none⟩) ∧ fu = some x ∧ 0 ≤ x ∧ x ≤ 9223372036854775807 ∧ B ≤ q ∧ w.heap[q]? = some (.cells #[.int .i64 x] 48 (0, 0))

/-- A log in block p. -/
structure LogIs (w : World) (B p : Nat) (sv fv : Value) (bs : List UInt8) (fu : Option Int) (dead : Bool) : Prop where
  cells : w.heap[p]? = some (.cells #[sv, fv, .bool dead, .bool true] 43 (0, 0))
  base : B ≤ p
  row : w.ownsRow B 5 1 sv bs.length (bv bs)
  fuse : FuseIs w B fv fu
  small : bs.length ≤ 1048576

def ptrBlock : Value → Option Nat
  | .pointer (some a) => some a.block
  | _ => none

/-- the blocks of a log -/
def foot (p : Nat) (sv fv : Value) (k : Nat) : Prop := k = p ∨ sv.ownBlock = some k ∨ ptrBlock fv = some k

theorem FuseIs.chg {S : Nat → Prop} {w w' : World} {B : Nat} {fv : Value} {fu : Option Int} (h : FuseIs w B fv fu) (hc : Chg S w w') (hs : ∀ k, ptrBlock fv = some k → ¬ S k) : FuseIs w' B fv fu := by
  rcases h with h | ⟨q, x, rfl, rfl, h0, h1, h2, h3⟩
  · exact .inl h
  · exact .inr ⟨q, x, rfl, rfl, h0, h1, h2, hc.heap h3 (hs q rfl)⟩
theorem LogIs.chg {S : Nat → Prop} {w w' : World} {B p : Nat} {sv fv : Value} {bs : List UInt8} {fu : Option Int} {dead : Bool} (h : LogIs w B p sv fv bs fu dead) (hc : Chg S w w') (hs : ∀ k, foot p sv fv k → ¬ S k) : LogIs w' B p sv fv bs fu dead :=
  ⟨hc.heap h.cells (hs p (.inl rfl)), h.base, hc.own h.row fun k hk => hs k (.inr (.inl hk)), h.fuse.chg hc fun k hk => hs k (.inr (.inr hk)), h.small⟩
theorem LogIs.foot_lt {w : World} {B p : Nat} {sv fv : Value} {bs : List UInt8} {fu : Option Int} {dead : Bool} (h : LogIs w B p sv fv bs fu dead) {k : Nat} (hk : foot p sv fv k) : B ≤ k ∧ k < w.heap.size := by
  rcases hk with rfl | hk | hk
  · exact ⟨h.base, lt_of_heap h.cells⟩
  · exact h.row.lt k hk
  · rcases h.fuse with ⟨rfl, _⟩ | ⟨q, x, rfl, _, _, _, h2, h3⟩
    · simp [ptrBlock] at hk
    · simp [ptrBlock] at hk; subst hk; exact ⟨h2, lt_of_heap h3⟩

theorem none_any (p : Nat) (sv fv : Value) (d m : Bool) (w : World) (h : w.heap[p]? = some (.cells #[sv, fv, .bool d, .bool m] 43 (0, 0))) :
    Calls Try.prog 25 #[.pointer (some ⟨p, 0, none⟩)] w fun e w' => e = .returned (.bool (!m)) ∧ w = w' := by
  have h3 : w.cell? ⟨p, 3, none⟩ = some (.bool m) := cell_of_heap h rfl
  clear h
  go_enter Try.func25, Try.ntmps25
  go_wp2
  go_ret
  simp
theorem none_nil (w : World) :
    Calls Try.prog 25 #[.pointer none] w fun e w' => e = .returned (.bool true) ∧ w = w' := by
  go_enter Try.func25, Try.ntmps25
  go_wp2
  go_ret
  simp

theorem bring_any (i n : Int) (w : World) (hn : 0 < n) (hn2 : n ≤ 9223372036854775807) (hi : -9223372036854775808 ≤ i) (hi2 : i ≤ 9223372036854775807) :
    Calls Try.prog 10 #[.int .i64 i, .int .i64 n] w fun e w' => e = .returned (.int .i64 (i % n)) ∧ w = w' := by
  have h1 := Int.emod_nonneg i (show n ≠ 0 by omega)
  have h2 := Int.emod_lt_of_pos i hn
  by_cases h0 : 0 ≤ i.tmod n
  · have hd : i.tmod n = i % n := by
      rw [Int.tmod_eq_emod] at h0 ⊢
      split at h0 <;> split <;> omega
    go_enter Try.func10, Try.ntmps10
    go_wp2
    all_goals (go_ret; exact ⟨rfl, rfl⟩)
  · have hd : i.tmod n + n = i % n := by
      rw [Int.tmod_eq_emod] at h0 ⊢
      split at h0 <;> split <;> omega
    go_enter Try.func10, Try.ntmps10
    go_wp2
    all_goals (go_ret; exact ⟨rfl, rfl⟩)

theorem new_any (w : World) :
    Calls Try.prog 7 #[] w fun e w' => e = .returned (.pointer (some ⟨w.heap.size, 0, none⟩)) ∧ LogIs w' w.heap.size w.heap.size (.slice none 0 0) (.pointer none) [] none false ∧ Chg No w w' := by
  go_enter Try.func7, Try.ntmps7
  go_wp2
  go_ret
  refine ⟨rfl, ⟨?_, Nat.le_refl _, World.ownsRow_nil _ _ _ _, .inl ⟨rfl, rfl⟩, by simp⟩, (Chg.refl _ _).alloc _⟩
  exact heap_alloc_new w _

theorem Try.infoU8 : (Try.prog.info? 5).map (fun i => (i.zero, i.size, i.bytes)) = some (some (.int .u8 0), 1, 1) := by kernel_rfl
theorem bv_one (l : List UInt8) : ∀ u ∈ bv l, u.oneCell' = true := by
  intro u hu; obtain ⟨b, _, rfl⟩ := List.mem_map.1 hu; rfl

theorem copyBytes_any (x : Value) (l : List UInt8) (w : World) (hx : Rd w x 1 l.length (bv l)) (hl : l.length ≤ 140737488351232) :
    Calls Try.prog 9 #[x] w fun e w' => ∃ v, e = .returned v ∧ w'.ownsRow w.heap.size 5 1 v l.length (bv l) ∧ Chg No w w' := by
  obtain ⟨i0, hi, hz0, hz1, hz2⟩ := info_parts Try.infoU8
  go_enter Try.func9, Try.ntmps9
  go_wp2_with (at_builtin; refine wpList_append_rd _ rfl _ _ _ rfl w.heap.size 5 i0 _ 1 1 Try.underlying27 hi hz0 hz1 hz2 rfl (by decide) (.slice none 0 0) _ _ rfl (World.ownsRow_nil _ _ _ _) _ _ _ rfl hx (bv_one _) (by unfold maxLen; omega) (by omega) (Nat.le_refl _) ?_; intro v' w' h1 h2 h3 h4)
  go_ret
  refine ⟨_, rfl, by simpa using h1, (Chg.refl _ _).grown h2 fun k hk => by simp [Value.ownBlock] at hk⟩

theorem run_conv_rd (x : Value) (l : List UInt8) (w : World) (hx : Rd w x 1 l.length (bv l)) :
    (convert 27 9 x).run Try.prog w = .ok (.string ⟨l.toArray⟩) w := by
  obtain ⟨a, c, rfl, h1, h2, h3, h4⟩ := hx
  cases a with
  | none =>
    have h0 : l.length = 0 := by have := h3 rfl; omega
    obtain rfl : l = [] := List.eq_nil_of_length_eq_zero h0
    exact run_convert_bytes_nil w _ _ Try.underlying27 Try.underlying5 _ _ _ Try.underlying9
  | some ad =>
    rw [run_convert_bytes_string w _ _ _ _ _ _ Try.underlying27 Try.underlying5 Try.underlying9]
    have hl : (loadCells ad l.length).run Try.prog w = .ok ((l.map fun b => (b.toNat : Int)).map (Value.int .u8)).toArray w := by
      have := run_loadCells_list (P := Try.prog) w ad (bv l) (h4 ad rfl)
      rw [bv_length] at this
      rw [this]; simp [bv, Function.comp_def]
    rw [run_bytesToString w _ _ _ _ hl, foldl_push_bytes]
    simp [ByteArray.empty, ByteArray.emptyWithCapacity, Function.comp_def]
    rfl

theorem eqBytes_any (x y : Value) (l m : List UInt8) (w : World) (hx : Rd w x 1 l.length (bv l)) (hy : Rd w y 1 m.length (bv m)) :
    Calls Try.prog 19 #[x, y] w fun e w' => e = .returned (.bool (l == m)) ∧ w = w' := by
  have e1 := run_conv_rd x l w hx
  have e2 := run_conv_rd y m w hy
  obtain ⟨a, c, rfl, -⟩ := hx
  obtain ⟨b, d, rfl, -⟩ := hy
  go_enter Try.func19, Try.ntmps19
  go_wp2
  go_ret
  exact ⟨rfl, rfl⟩
end Go.Proofs.Ytgjllhdbkdcofaa
