/- The log's functions: Arm, Revive, Bytes, Len, Dead. -/
import Derived.Test.YtgjllhdbkdcofaaLgC
namespace Go.Proofs.Ytgjllhdbkdcofaa
open Go.RowKit Go.Dk

def ArmPost (w : World) (B p : Nat) (sv fv : Value) (bs : List UInt8) (fu : Option Int) (dead : Bool) (n : Int) (e : Ending) (w' : World) : Prop :=
  ∃ fv', e = .returned (.int .i64 (if dead then 190 else if n < 0 then 2 else 0)) ∧ LogIs w' B p sv fv' bs (if dead = false ∧ 0 ≤ n then some n else fu) dead ∧ Chg (· = p) w w' ∧ (∀ k, ptrBlock fv' = some k → ptrBlock fv = some k ∨ w.heap.size ≤ k)

theorem arm_any (B p : Nat) (sv fv : Value) (bs : List UInt8) (fu : Option Int) (dead : Bool) (n : Int) (w : World) (hL : LogIs w B p sv fv bs fu dead) (hB : B ≤ w.heap.size) (hn : n ≤ 9223372036854775807) :
    Calls Try.prog 11 #[.pointer (some ⟨p, 0, none⟩), .int .i64 n] w (ArmPost w B p sv fv bs fu dead n) := by
  have h2 := cell_of_heap (j := 2) (v := .bool dead) hL.cells rfl
  have h1 := cell_of_heap (j := 1) (v := fv) hL.cells rfl
  have h1f := free_of_heap (j := 1) hL.cells
  have hlt := lt_of_heap hL.cells
  have hno := none_any p _ _ _ _ w hL.cells
  have HN := Go.Lib.hid hno; clear hno
  have HL := Go.Lib.hid hL; clear hL
  cases dead with
  | true =>
    go_enter Try.func11, Try.ntmps11
    go_wp2_with (go_at_call 25; refine HN.out.mono ?_; rintro e w' ⟨rfl, rfl⟩)
    go_ret
    exact ⟨fv, rfl, by simpa using HL.out, Chg.refl _ _, fun k hk => .inl hk⟩
  | false =>
    by_cases h0 : n < 0
    · go_enter Try.func11, Try.ntmps11
      go_wp2_with (go_at_call 25; refine HN.out.mono ?_; rintro e w' ⟨rfl, rfl⟩)
      go_ret
      exact ⟨fv, by simp [h0], by simpa [Int.not_le.2 h0] using HL.out, Chg.refl _ _, fun k hk => .inl hk⟩
    · go_enter Try.func11, Try.ntmps11
      go_wp2_with (go_at_call 25; refine HN.out.mono ?_; rintro e w' ⟨rfl, rfl⟩)
      go_ret
      have hc : Chg (· = p) w ((w.setCell ⟨p, 1, none⟩ (.pointer (some ⟨w.heap.size, 0, none⟩))).alloc (.cells #[.int .i64 n] 48)) := ((Chg.refl (· = p) w).setCell (p := ⟨p, 1, none⟩) (fun _ => rfl) _).alloc _
      refine ⟨.pointer (some ⟨w.heap.size, 0, none⟩), by simp [h0], ⟨?_, HL.out.base, (ownsRow_set HL.out.row HL.out.cells (by decide)).alloc _, ?_, HL.out.small⟩, hc, fun k hk => .inr (by simp [ptrBlock] at hk; omega)⟩
      · rw [heap_alloc_old' (hset_same HL.out.cells _)]; simp
      · have h0' : 0 ≤ n := Int.not_lt.1 (by omega)
        simp only [true_and, h0', if_true]
        exact .inr ⟨_, n, rfl, rfl, by omega, hn, hB, by have := heap_alloc_new (w.setCell ⟨p, 1, none⟩ (.pointer (some ⟨w.heap.size, 0, none⟩))) (.cells #[.int .i64 n] 48); simpa using this⟩

def RevPost (w : World) (B p : Nat) (sv fv : Value) (bs : List UInt8) (fu : Option Int) (dead : Bool) (n : Int) (e : Ending) (w' : World) : Prop :=
  ∃ sv' fv', e = .returned (.int .i64 (if n < 0 ∨ (bs.length : Int) < n then 9 else 0)) ∧ (if n < 0 ∨ (bs.length : Int) < n then LogIs w' B p sv' fv' bs fu dead else LogIs w' B p sv' fv' (bs.take n.toNat) none false) ∧ Chg (· = p) w w' ∧
    (∀ k, foot p sv' fv' k → foot p sv fv k)

theorem revive_any (B p : Nat) (sv fv : Value) (bs : List UInt8) (fu : Option Int) (dead : Bool) (n : Int) (w : World) (hL : LogIs w B p sv fv bs fu dead) :
    Calls Try.prog 13 #[.pointer (some ⟨p, 0, none⟩), .int .i64 n] w (RevPost w B p sv fv bs fu dead n) := by
  obtain ⟨sa, sc, rfl, -, hsc, hs0, -⟩ := Rd.of_own hL.row
  have h0 := cell_of_heap (j := 0) (v := .slice sa bs.length sc) hL.cells rfl
  have h1 := cell_of_heap (j := 1) (v := fv) hL.cells rfl
  have h2 := cell_of_heap (j := 2) (v := .bool dead) hL.cells rfl
  have h0f := free_of_heap (j := 0) hL.cells
  have h1f := free_of_heap (j := 1) hL.cells
  have h2f := free_of_heap (j := 2) hL.cells
  have hs := hL.small
  have hno := none_any p _ _ _ _ w hL.cells
  have HN := Go.Lib.hid hno; clear hno
  have HL := Go.Lib.hid hL; clear hL
  by_cases hb : n < 0 ∨ (bs.length : Int) < n
  · rcases hb with hb | hb
    all_goals
      go_enter Try.func13, Try.ntmps13
      go_wp2_with (go_at_call 25; refine HN.out.mono ?_; rintro e w' ⟨rfl, rfl⟩)
      go_ret
      exact ⟨.slice sa bs.length sc, fv, by simp [hb], by simpa [hb] using HL.out, Chg.refl _ _, fun k hk => hk⟩
  · have hb1 : 0 ≤ n := by omega
    have hb2 : n ≤ (bs.length : Int) := by omega
    have hb3 : n ≤ (sc : Int) := by omega
    go_enter Try.func13, Try.ntmps13
    go_wp2_with (go_at_call 25; refine HN.out.mono ?_; rintro e w' ⟨rfl, rfl⟩)
    go_ret
    have hk : n.toNat ≤ bs.length := by omega
    refine ⟨.slice sa n.toNat sc, .pointer none, by simp [hb], ?_, (((Chg.refl (· = p) w).setCell (p := ⟨p, 0, none⟩) (fun _ => rfl) _).setCell (p := ⟨p, 1, none⟩) (fun _ => rfl) _).setCell (p := ⟨p, 2, none⟩) (fun _ => rfl) _, ?_⟩
    · rw [if_neg hb]
      have a1 := hset_same HL.out.cells (j := 0) (.slice sa n.toNat sc)
      have a2 := hset_same a1 (j := 1) (.pointer none)
      have hl : (bs.take n.toNat).length = n.toNat := by rw [List.length_take]; omega
      refine ⟨by rw [hset_same a2]; simp, HL.out.base, ?_, .inl ⟨rfl, rfl⟩, by omega⟩
      rw [hl, bv_take]
      exact ownsRow_set (ownsRow_set (ownsRow_set (ownsRow_take HL.out.row hk) HL.out.cells (by decide)) a1 (by decide)) a2 (by decide)
    · intro k hk
      rcases hk with hk | hk | hk
      · exact .inl hk
      · exact .inr (.inl (ownBlock_len hk))
      · simp [ptrBlock] at hk

theorem len_any (B p : Nat) (sv fv : Value) (bs : List UInt8) (fu : Option Int) (dead : Bool) (w : World) (hL : LogIs w B p sv fv bs fu dead) :
    Calls Try.prog 21 #[.pointer (some ⟨p, 0, none⟩)] w fun e w' => e = .returned (.int .i64 bs.length) ∧ w = w' := by
  obtain ⟨sa, sc, rfl, -⟩ := Rd.of_own hL.row
  have h0 := cell_of_heap (j := 0) (v := .slice sa bs.length sc) hL.cells rfl
  have HN := Go.Lib.hid (none_any p _ _ _ _ w hL.cells)
  clear hL
  go_enter Try.func21, Try.ntmps21
  go_wp2_with (go_at_call 25; refine HN.out.mono ?_; rintro e w' ⟨rfl, rfl⟩)
  go_ret
  exact ⟨rfl, rfl⟩

theorem dead_any (B p : Nat) (sv fv : Value) (bs : List UInt8) (fu : Option Int) (dead : Bool) (w : World) (hL : LogIs w B p sv fv bs fu dead) :
    Calls Try.prog 22 #[.pointer (some ⟨p, 0, none⟩)] w fun e w' => e = .returned (.bool dead) ∧ w = w' := by
  have h2 := cell_of_heap (j := 2) (v := .bool dead) hL.cells rfl
  have HN := Go.Lib.hid (none_any p _ _ _ _ w hL.cells)
  clear hL
  go_enter Try.func22, Try.ntmps22
  go_wp2_with (go_at_call 25; refine HN.out.mono ?_; rintro e w' ⟨rfl, rfl⟩)
  go_ret
  exact ⟨rfl, rfl⟩

theorem bytes_any (B p : Nat) (sv fv : Value) (bs : List UInt8) (fu : Option Int) (dead : Bool) (w : World) (hL : LogIs w B p sv fv bs fu dead) :
    Calls Try.prog 18 #[.pointer (some ⟨p, 0, none⟩)] w fun e w' => ∃ v, e = .returned v ∧ w'.ownsRow w.heap.size 5 1 v bs.length (bv bs) ∧ Chg No w w' := by
  obtain ⟨sa, sc, rfl, -⟩ := Rd.of_own hL.row
  have h0 := cell_of_heap (j := 0) (v := .slice sa bs.length sc) hL.cells rfl
  have HN := Go.Lib.hid (none_any p _ _ _ _ w hL.cells)
  have hs := hL.small
  obtain ⟨i0, hi, hz0, hz1, hz2⟩ := info_parts Try.infoU8
  have HL := Go.Lib.hid hL; clear hL
  have hB : w.heap.size ≤ w.heap.size := Nat.le_refl _
  go_enter Try.func18, Try.ntmps18
  go_wp2_with (first | (go_at_call 25; refine HN.out.mono ?_; rintro e w' ⟨rfl, rfl⟩) | (at_make; refine wpList_make_full _ rfl _ _ _ rfl w.heap.size 5 i0 _ 1 Try.underlying27 hi hz0 hz1 .i64 .i64 _ _ bs.length rfl rfl rfl rfl (by rw [hz2]; omega) (by unfold maxLen; omega) hB ?_; intro w1 hr1 hg1; have hc1 := Go.Lib.hid ((Chg.refl No w).grown hg1 (fun _ h => by cases h)); clear hg1; have q0 := hc1.out.cell h0 id; obtain ⟨cur, hcur, hcl, -⟩ := ownsRow_cur hr1; clear hr1; have HC := Go.Lib.hid hcur; clear hcur; have HCL := Go.Lib.hid hcl; clear hcl) | ((with_reducible show wpList _ _ _ (⟨some 17, _, _, _, _, _⟩ :: _) _ _); refine wpList_copy_rd rfl (.tmp 12) (.tmp 16) 27 27 rfl 5 Try.underlying27 (by kernel_rfl) _ _ _ rfl (.slice sa bs.length sc) rfl bs.length (bv bs) ((Rd.of_own HL.out.row).chg hc1.out (fun _ _ _ => id)) w.heap.size 0 cur 5 bs.length (by omega) (fun _ => HC.out) (fun _ => rfl) (fun _ => by rw [HCL.out]; omega) (bv_one _) ?_; rintro w2 hw1 hw2 hw3; have HW1 := Go.Lib.hid hw1; clear hw1; have HW3 := Go.Lib.hid hw3; clear hw3))
  go_ret
  refine ⟨_, rfl, ?_, (hc1.out.trans' hw2 fun i hi hlt => by omega)⟩
  have hm : bs.length ≤ maxLen := by unfold maxLen; omega
  have hbl := bv_length bs
  rcases Nat.eq_zero_or_pos bs.length with h0 | h0
  · rw [HW3.out h0]
    refine ownsRow_mk HC.out hB (Nat.le_refl _) hm HCL.out ?_
    obtain rfl : bs = [] := List.eq_nil_of_length_eq_zero h0
    simp [bv]
  · have hsp : (splice cur 0 ((bv bs).take bs.length)) = bv bs := by
      have := HCL.out
      rw [List.take_of_length_le (by omega)]
      simp [splice, hbl]; omega
    refine ownsRow_mk (HW1.out h0) hB (Nat.le_refl _) hm (by rw [hsp, hbl]; omega) (by rw [hsp]; exact List.take_of_length_le (by omega))
end Go.Proofs.Ytgjllhdbkdcofaa
