/- The log's Append, whatever its state; works; LogTears. -/
import Derived.Test.YtgjllhdbkdcofaaLgD
import Derived.Lib.MinMax
namespace Go.Proofs.Ytgjllhdbkdcofaa
open Go.RowKit Go.Dk

/-- what Append answers, and what is there then -/
def appRes (bs : List UInt8) (fu : Option Int) (dead : Bool) (xs : List UInt8) : Int × List UInt8 × Bool :=
  if dead then (190, bs, dead) else if 1048576 < bs.length + xs.length then (5, bs, dead) else ((if fu = none then 0 else 190), bs ++ xs.take (keptOf fu xs.length), decide (fu ≠ none))

def AppAny (w : World) (B p : Nat) (sv fv : Value) (bs xs : List UInt8) (fu : Option Int) (dead : Bool) (e : Ending) (w' : World) : Prop :=
  ∃ sv', e = .returned (.int .i64 (appRes bs fu dead xs).1) ∧ LogIs w' B p sv' fv (appRes bs fu dead xs).2.1 fu (appRes bs fu dead xs).2.2 ∧ Chg (foot p sv fv) w w' ∧ (∀ k, sv'.ownBlock = some k → sv.ownBlock = some k ∨ w.heap.size ≤ k)

theorem append_any (B p : Nat) (sv fv x : Value) (bs xs : List UInt8) (fu : Option Int) (dead : Bool) (w : World) (hL : LogIs w B p sv fv bs fu dead) (hx : Rd w x 1 xs.length (bv xs)) (hxb : ∀ k, x.ownBlock = some k → 0 < xs.length → ¬ foot p sv fv k)
    (hn : xs.length ≤ 140737488351232) (hB : B ≤ w.heap.size) :
    Calls Try.prog 16 #[.pointer (some ⟨p, 0, none⟩), x] w (AppAny w B p sv fv bs xs fu dead) := by
  by_cases h : dead = true ∨ 1048576 < bs.length + xs.length
  · obtain ⟨xa, xc, rfl, -⟩ := hx
    refine (append_quick B p sv fv (.slice xa xs.length xc) bs fu dead xs.length xa xc w hL hn h).mono fun e w' ⟨he, hw⟩ => ?_
    subst hw; subst he
    refine ⟨sv, ?_, ?_, Chg.refl _ _, fun k hk => .inl hk⟩
    · cases dead with
      | true => rfl
      | false => have h' : 1048576 < bs.length + xs.length := by simpa using h
                 simp [appRes, h']
    · cases dead with
      | true => exact hL
      | false => have h' : 1048576 < bs.length + xs.length := by simpa using h
                 simpa [appRes, h'] using hL
  · simp only [not_or, Bool.not_eq_true, Nat.not_lt] at h
    obtain ⟨rfl, h⟩ := h
    have e : appRes bs fu false xs = ((if fu = none then 0 else 190), bs ++ xs.take (keptOf fu xs.length), decide (fu ≠ none)) := by
      unfold appRes; rw [if_neg (by simp), if_neg (by omega)]
    refine (append_walk B p sv fv x bs xs fu w hL hx hxb h hB).mono fun e' w' ⟨sv', h1, h2, h3, h4⟩ => ⟨sv', ?_, ?_, h3, h4⟩
    · rw [e]; exact h1
    · rw [e]; exact h2

/-- the log stands in new blocks alone -/
theorem foot_ge {w : World} {B p : Nat} {sv fv : Value} {bs : List UInt8} {fu : Option Int} {dead : Bool} (h : LogIs w B p sv fv bs fu dead) : ∀ k, foot p sv fv k → B ≤ k := fun _ hk => (h.foot_lt hk).1

theorem rd_alloc (w : World) (l : List UInt8) (n : Nat) (hn : n = l.length) : Rd (w.alloc (.cells (bv l).toArray 5)) (.slice (some ⟨w.heap.size, 0, none⟩) n n) 1 n (bv l) := by
  subst hn
  refine ⟨_, _, rfl, by simp [bv_length], Nat.le_refl _, (fun h => by cases h), fun ad h j u hu => ?_⟩
  cases h
  rw [add0]
  exact cell_of_heap (heap_alloc_new w _) (by simpa using hu)

/-- Append of a literal -/
theorem append_lit (l : List UInt8) (B p : Nat) (sv fv : Value) (bs : List UInt8) (fu : Option Int) (dead : Bool) (w : World) (hL : LogIs w B p sv fv bs fu dead) (hB : B ≤ w.heap.size) (hn : l.length ≤ 140737488351232) :
    Calls Try.prog 16 #[.pointer (some ⟨p, 0, none⟩), .slice (some ⟨w.heap.size, 0, none⟩) l.length l.length] (w.alloc (.cells (bv l).toArray 5)) (AppAny w B p sv fv bs l fu dead) := by
  have hc := (Chg.refl No w).alloc (.cells (bv l).toArray 5)
  refine (append_any B p sv fv _ bs l fu dead _ (hL.chg hc fun _ _ => id) (rd_alloc w l _ rfl) (fun k hk _ hf => ?_) hn (Nat.le_trans hB hc.size)).mono fun e w' ⟨sv', h1, h2, h3, h4⟩ => ⟨sv', h1, h2, ?_, fun k hk => ?_⟩
  · have := (hL.foot_lt hf).2
    simp [Value.ownBlock] at hk; omega
  · exact ((Chg.refl (foot p sv fv) w).alloc _).trans h3
  · rcases h4 k hk with h | h
    · exact .inl h
    · have := hc.size; exact .inr (by omega)

/-- only new blocks have changed -/
abbrev Fr (w w' : World) : Prop := Chg (w.heap.size ≤ ·) w w'

theorem works_any (w : World) : Calls Try.prog 24 #[] w fun e w' => e = .returned (.bool true) ∧ Chg No w w' := by
  go_enter Try.func24, Try.ntmps24
  go_wp2_with fail
  refine (new_any w).mono ?_
  rintro e w1 ⟨rfl, hL1, hc1⟩
  have f1 : Chg (w.heap.size ≤ ·) w w1 := hc1.mono fun _ _ h => h.elim
  generalize hp : w.heap.size = p at hL1 f1 ⊢
  have hB1 : p ≤ w1.heap.size := by have := hc1.size; omega
  have HP := Go.Lib.hid hp; clear hp
  go_wp2_with fail
  refine (append_lit [1, 2] p p _ _ [] none false _ hL1 hB1 (by decide)).mono ?_
  rintro e w2 ⟨sv2, he, hL2, hc2, -⟩
  simp [appRes, keptOf] at he hL2
  subst he
  have f2 : Chg (p ≤ ·) w w2 := f1.trans (hc2.mono fun k _ h => foot_ge hL1 k h)
  have hB2 : p ≤ w2.heap.size := Nat.le_trans hB1 hc2.size
  clear hL1 hc1 hc2 f1 hB1
  go_wp2_with fail
  refine (arm_any p p _ _ _ none false 1 _ hL2 hB2 (by decide)).mono ?_
  rintro e w3 ⟨fv3, he, hL3, hc3, -⟩
  simp at he hL3
  subst he
  have f3 : Chg (p ≤ ·) w w3 := f2.trans (hc3.mono fun k _ h => by omega)
  have hB3 : p ≤ w3.heap.size := Nat.le_trans hB2 hc3.size
  clear hL2 hc3 f2 hB2
  go_wp2_with fail
  refine (append_lit [3, 4] p p _ _ _ (some 1) false _ hL3 hB3 (by decide)).mono ?_
  rintro e w4 ⟨sv4, he, hL4, hc4, -⟩
  simp [appRes, keptOf] at he hL4
  subst he
  have f4 : Chg (p ≤ ·) w w4 := f3.trans (hc4.mono fun k _ h => foot_ge hL3 k h)
  have hB4 : p ≤ w4.heap.size := Nat.le_trans hB3 hc4.size
  clear hL3 hc4 f3 hB3
  go_wp2_with fail
  refine (append_lit [5] p p _ _ _ (some 1) true _ hL4 hB4 (by decide)).mono ?_
  rintro e w5 ⟨sv5, he, hL5, hc5, -⟩
  simp [appRes, keptOf] at he hL5
  subst he
  have f5 : Chg (p ≤ ·) w w5 := f4.trans (hc5.mono fun k _ h => foot_ge hL4 k h)
  have hB5 : p ≤ w5.heap.size := Nat.le_trans hB4 hc5.size
  clear hL4 hc5 f4 hB4
  go_wp2_with fail
  refine (bytes_any p p _ _ _ (some 1) true _ hL5).mono ?_
  rintro e w6 ⟨v6, rfl, ho6, hc6⟩
  have f6 : Chg (p ≤ ·) w w6 := f5.trans (hc6.mono fun _ _ h => h.elim)
  have hL6 := hL5.chg hc6 fun _ _ => id
  have hB6 : p ≤ w6.heap.size := Nat.le_trans hB5 hc6.size
  clear hL5 hc6 f5 hB5
  go_wp2_with fail
  refine (eqBytes_any _ _ [1, 2, 3] [1, 2, 3] _ ((Rd.of_own ho6).chg ((Chg.refl No w6).alloc _) fun _ _ _ => id) (rd_alloc w6 [1, 2, 3] 3 rfl)).mono ?_
  rintro e w7 ⟨rfl, rfl⟩
  have hL7 := hL6.chg ((Chg.refl No w6).alloc (.cells (bv [1, 2, 3]).toArray 5)) fun _ _ => id
  go_wp2_with fail
  refine (dead_any p p _ _ _ (some 1) true _ hL7).mono ?_
  rintro e w8 ⟨rfl, rfl⟩
  go_wp2_with fail
  refine (revive_any p p _ _ _ (some 1) true 4 _ hL7).mono ?_
  rintro e w9 ⟨sv9, fv9, he, hL9, hc9, -⟩
  simp at he hL9
  subst he
  go_wp2_with fail
  refine (revive_any p p _ _ _ (some 1) true 2 _ hL9).mono ?_
  rintro e w10 ⟨sv10, fv10, he, hL10, hc10, -⟩
  simp at he hL10
  subst he
  have f10 : Chg (p ≤ ·) w w10 := ((f6.alloc _).trans (hc9.mono fun k _ h => by omega)).trans (hc10.mono fun k _ h => by omega)
  have hB10 : p ≤ w10.heap.size := Nat.le_trans (Nat.le_trans hB6 ((Chg.refl No w6).alloc _).size) (Nat.le_trans hc9.size hc10.size)
  clear hL6 hL7 hL9 hc9 hc10 f6 hB6 ho6
  go_wp2_with fail
  refine (append_lit [6] p p _ _ _ none false _ hL10 hB10 (by decide)).mono ?_
  rintro e w11 ⟨sv11, he, hL11, hc11, -⟩
  simp [appRes, keptOf] at he hL11
  subst he
  have f11 : Chg (p ≤ ·) w w11 := f10.trans (hc11.mono fun k _ h => foot_ge hL10 k h)
  go_wp2_with fail
  refine (bytes_any p p _ _ _ none false _ hL11).mono ?_
  rintro e w12 ⟨v12, rfl, ho12, hc12⟩
  have f12 : Chg (p ≤ ·) w w12 := f11.trans (hc12.mono fun _ _ h => h.elim)
  go_wp2_with fail
  refine (eqBytes_any _ _ [1, 2, 6] [1, 2, 6] _ ((Rd.of_own ho12).chg ((Chg.refl No w12).alloc _) fun _ _ _ => id) (rd_alloc w12 [1, 2, 6] 3 rfl)).mono ?_
  rintro e w13 ⟨rfl, rfl⟩
  go_wp2
  go_ret
  exact ⟨rfl, (f12.alloc _).mono fun k hk h => by have := HP.out; omega⟩
end Go.Proofs.Ytgjllhdbkdcofaa
