/- The reference's log. -/
import Derived.Test.YtgjllhdbkdcofaaLgE
namespace Go.Proofs.Ytgjllhdbkdcofaa
open Go.RowKit Go.Dk

structure RefIs (w : World) (B p : Nat) (sv : Value) (bs : List UInt8) (gone : Bool) (cut : Int) : Prop where
  cells : w.heap[p]? = some (.cells #[sv, .bool gone, .int .i64 cut] 46 (0, 0))
  base : B ≤ p
  row : w.ownsRow B 5 1 sv bs.length (bv bs)
  small : bs.length ≤ 1048576
  cuts : -1 ≤ cut ∧ cut ≤ 9223372036854775807

def rfoot (p : Nat) (sv : Value) (k : Nat) : Prop := k = p ∨ sv.ownBlock = some k
theorem RefIs.chg {S : Nat → Prop} {w w' : World} {B p : Nat} {sv : Value} {bs : List UInt8} {gone : Bool} {cut : Int} (h : RefIs w B p sv bs gone cut) (hc : Chg S w w') (hs : ∀ k, rfoot p sv k → ¬ S k) : RefIs w' B p sv bs gone cut :=
  ⟨hc.heap h.cells (hs p (.inl rfl)), h.base, hc.own h.row fun k hk => hs k (.inr hk), h.small, h.cuts⟩
theorem RefIs.foot_lt {w : World} {B p : Nat} {sv : Value} {bs : List UInt8} {gone : Bool} {cut : Int} (h : RefIs w B p sv bs gone cut) {k : Nat} (hk : rfoot p sv k) : B ≤ k ∧ k < w.heap.size := by
  rcases hk with rfl | hk
  · exact ⟨h.base, lt_of_heap h.cells⟩
  · exact h.row.lt k hk

theorem rnew_any (w : World) :
    Calls Try.prog 8 #[] w fun e w' => e = .returned (.pointer (some ⟨w.heap.size, 0, none⟩)) ∧ RefIs w' w.heap.size w.heap.size (.slice none 0 0) [] false (-1) ∧ Chg No w w' := by
  go_enter Try.func8, Try.ntmps8
  go_wp2
  go_ret
  exact ⟨rfl, ⟨heap_alloc_new w _, Nat.le_refl _, World.ownsRow_nil _ _ _ _, by simp, by decide⟩, (Chg.refl _ _).alloc _⟩

theorem rlen_any (B p : Nat) (sv : Value) (bs : List UInt8) (gone : Bool) (cut : Int) (w : World) (hL : RefIs w B p sv bs gone cut) :
    Calls Try.prog 15 #[.pointer (some ⟨p, 0, none⟩)] w fun e w' => e = .returned (.int .i64 bs.length) ∧ w = w' := by
  obtain ⟨sa, sc, rfl, -⟩ := Rd.of_own hL.row
  have h0 := cell_of_heap (j := 0) (v := .slice sa bs.length sc) hL.cells rfl
  clear hL
  go_enter Try.func15, Try.ntmps15
  go_wp2
  go_ret
  exact ⟨rfl, rfl⟩

theorem rdead_any (B p : Nat) (sv : Value) (bs : List UInt8) (gone : Bool) (cut : Int) (w : World) (hL : RefIs w B p sv bs gone cut) :
    Calls Try.prog 23 #[.pointer (some ⟨p, 0, none⟩)] w fun e w' => e = .returned (.bool gone) ∧ w = w' := by
  have h0 := cell_of_heap (j := 1) (v := .bool gone) hL.cells rfl
  clear hL
  go_enter Try.func23, Try.ntmps23
  go_wp2
  go_ret
  exact ⟨rfl, rfl⟩

theorem rbytes_any (B p : Nat) (sv : Value) (bs : List UInt8) (gone : Bool) (cut : Int) (w : World) (hL : RefIs w B p sv bs gone cut) :
    Calls Try.prog 20 #[.pointer (some ⟨p, 0, none⟩)] w fun e w' => ∃ v, e = .returned v ∧ w'.ownsRow w.heap.size 5 1 v bs.length (bv bs) ∧ Chg No w w' := by
  have hr := Rd.of_own hL.row
  obtain ⟨sa, sc, rfl, -⟩ := Rd.of_own hL.row
  have h0 := cell_of_heap (j := 0) (v := .slice sa bs.length sc) hL.cells rfl
  have hs : bs.length ≤ 140737488351232 := by have := hL.small; omega
  clear hL
  have HR := Go.Lib.hid hr; clear hr
  go_enter Try.func20, Try.ntmps20
  go_wp2_with fail
  refine (copyBytes_any _ bs _ HR.out hs).mono ?_
  rintro e w1 ⟨v, rfl, ho, hc⟩
  go_wp2
  go_ret
  exact ⟨v, rfl, ho, hc⟩

def RArmPost (w : World) (B p : Nat) (sv : Value) (bs : List UInt8) (gone : Bool) (cut : Int) (n : Int) (e : Ending) (w' : World) : Prop :=
  e = .returned (.int .i64 (if gone then 190 else if n < 0 then 2 else 0)) ∧ RefIs w' B p sv bs gone (if gone = false ∧ 0 ≤ n then n else cut) ∧ Chg (· = p) w w'

theorem rarm_any (B p : Nat) (sv : Value) (bs : List UInt8) (gone : Bool) (cut : Int) (n : Int) (w : World) (hL : RefIs w B p sv bs gone cut) (hn : n ≤ 9223372036854775807) :
    Calls Try.prog 12 #[.pointer (some ⟨p, 0, none⟩), .int .i64 n] w (RArmPost w B p sv bs gone cut n) := by
  have h1 := cell_of_heap (j := 1) (v := .bool gone) hL.cells rfl
  have h2 := cell_of_heap (j := 2) (v := .int .i64 cut) hL.cells rfl
  have h2f := free_of_heap (j := 2) hL.cells
  have HL := Go.Lib.hid hL; clear hL
  cases gone with
  | true =>
    go_enter Try.func12, Try.ntmps12
    go_wp2
    go_ret
    exact ⟨rfl, by simpa using HL.out, Chg.refl _ _⟩
  | false =>
    by_cases h0 : n < 0
    · go_enter Try.func12, Try.ntmps12
      go_wp2
      go_ret
      exact ⟨by simp [h0], by simpa [Int.not_le.2 h0] using HL.out, Chg.refl _ _⟩
    · go_enter Try.func12, Try.ntmps12
      go_wp2
      go_ret
      have h0' : 0 ≤ n := by omega
      refine ⟨by simp [h0], ⟨by rw [hset_same HL.out.cells]; simp [h0'], HL.out.base, ownsRow_set HL.out.row HL.out.cells (by decide), HL.out.small, by simp [h0']; omega⟩, (Chg.refl (· = p) w).setCell (p := ⟨p, 2, none⟩) (fun _ => rfl) _⟩

def RRevPost (w : World) (B p : Nat) (sv : Value) (bs : List UInt8) (gone : Bool) (cut : Int) (n : Int) (e : Ending) (w' : World) : Prop :=
  ∃ sv', e = .returned (.int .i64 (if n < 0 ∨ (bs.length : Int) < n then 9 else 0)) ∧ (if n < 0 ∨ (bs.length : Int) < n then RefIs w' B p sv' bs gone cut else RefIs w' B p sv' (bs.take n.toNat) false (-1)) ∧ Chg (· = p) w w' ∧
    (∀ k, rfoot p sv' k → rfoot p sv k ∨ w.heap.size ≤ k)

theorem rrevive_any (B p : Nat) (sv : Value) (bs : List UInt8) (gone : Bool) (cut : Int) (n : Int) (w : World) (hL : RefIs w B p sv bs gone cut) (hB : B ≤ w.heap.size) :
    Calls Try.prog 14 #[.pointer (some ⟨p, 0, none⟩), .int .i64 n] w (RRevPost w B p sv bs gone cut n) := by
  have hr := Rd.of_own hL.row
  obtain ⟨sa, sc, rfl, -, hsc, -⟩ := Rd.of_own hL.row
  have h0 := cell_of_heap (j := 0) (v := .slice sa bs.length sc) hL.cells rfl
  have h1 := cell_of_heap (j := 1) (v := .bool gone) hL.cells rfl
  have h2 := cell_of_heap (j := 2) (v := .int .i64 cut) hL.cells rfl
  have hs := hL.small
  have HR := Go.Lib.hid hr; clear hr
  have HL := Go.Lib.hid hL; clear hL
  by_cases hb : n < 0 ∨ (bs.length : Int) < n
  · rcases hb with hb | hb
    all_goals
      go_enter Try.func14, Try.ntmps14
      go_wp2
      go_ret
      exact ⟨.slice sa bs.length sc, by simp [hb], by simpa [hb] using HL.out, Chg.refl _ _, fun k hk => .inl hk⟩
  · obtain ⟨m, rfl⟩ := Int.eq_ofNat_of_zero_le (show 0 ≤ n by omega)
    have hb2 : (m : Int) ≤ (bs.length : Int) := by omega
    have hb3 : (m : Int) ≤ (sc : Int) := by omega
    obtain ⟨ys, hys⟩ : ∃ ys, ys = bs.take m := ⟨_, rfl⟩
    have hml : ys.length = m := by rw [hys, List.length_take]; omega
    have hrd : Rd w (.slice sa m sc) 1 ys.length (bv ys) := by
      have := HR.out.take (k := m) (by omega)
      rw [Nat.mul_one, ← bv_take, ← hys] at this
      rw [hml]; exact this
    have HY := Go.Lib.hid hys; clear hys
    have HRD := Go.Lib.hid hrd; clear hrd
    have HML := Go.Lib.hid hml; clear hml
    go_enter Try.func14, Try.ntmps14
    go_wp2_with fail
    refine (copyBytes_any _ ys _ HRD.out (by rw [HML.out]; omega)).mono ?_
    rintro e w1 ⟨v, rfl, ho, hc⟩
    have hp1 := hc.heap HL.out.cells id
    have q0 := cell_of_heap (j := 0) (v := .slice sa bs.length sc) hp1 rfl
    have q1 := cell_of_heap (j := 1) (v := .bool gone) hp1 rfl
    have q2 := cell_of_heap (j := 2) (v := .int .i64 cut) hp1 rfl
    have f0 := free_of_heap (j := 0) hp1
    have f1 := free_of_heap (j := 1) hp1
    have f2 := free_of_heap (j := 2) hp1
    obtain ⟨va, vc, rfl, -⟩ := Rd.of_own ho
    have HP1 := Go.Lib.hid hp1; clear hp1
    go_wp2
    go_ret
    have a1 := hset_same HP1.out (j := 0) (.slice va ys.length vc)
    have a2 := hset_same a1 (j := 1) (.bool false)
    refine ⟨.slice va ys.length vc, by rw [if_neg hb]; rfl, ?_, (((hc.mono (S' := (· = p)) fun _ _ h => h.elim).setCell (p := ⟨p, 0, none⟩) (fun _ => rfl) _).setCell (p := ⟨p, 1, none⟩) (fun _ => rfl) _).setCell (p := ⟨p, 2, none⟩) (fun _ => rfl) _, ?_⟩
    · rw [if_neg hb, Int.toNat_natCast, ← HY.out]
      refine ⟨by rw [hset_same a2]; simp, HL.out.base, ?_, by rw [HML.out]; omega, by decide⟩
      have ho' : w1.ownsRow B 5 1 (.slice va ys.length vc) ys.length (bv ys) := by
        refine ⟨ho.1, ?_⟩
        rcases ho.2 with h | ⟨g, cap, cur, h1, h2, h3⟩
        · exact .inl h
        · exact .inr ⟨g, cap, cur, h1, by omega, h3⟩
      exact ownsRow_set (ownsRow_set (ownsRow_set ho' HP1.out (by decide)) a1 (by decide)) a2 (by decide)
    · intro k hk
      rcases hk with hk | hk
      · exact .inl (.inl hk)
      · exact .inr (ho.lt k hk).1
end Go.Proofs.Ytgjllhdbkdcofaa
