/- Shares of quantities; lists of numbers: EqInts, CopyInts, Pods. -/
import Derived.Test.YtipacbaapkdnaaaGreatJYf
set_option linter.unusedSimpArgs false
set_option linter.unusedVariables false
namespace Go.Proofs.YtipacbaapkdnaaaGreat
open Go.RowKit Go.Dk

theorem sl2 (W : World) (u c : Int) (t : TypeId) : Sl (W.alloc (.cells #[.int .i64 u, .int .i64 c] t)) (some ⟨W.heap.size, 0, none⟩) 2 2 1 (fun k => [.int .i64 (if k = 0 then u else c)]) := by
  refine ⟨by omega, by omega, (fun h => by cases h), fun k hk => ⟨rfl, W.heap.size, 0, rfl, fun j v hj => ?_⟩⟩
  have hj0 : j = 0 := by have := (List.getElem?_eq_some_iff.1 hj).1; simp at this; omega
  subst hj0
  simp at hj
  subst hj
  match k, hk with
  | 0, _ => exact cell_of_heap (j := 0) (heap_alloc_new W _) rfl
  | 1, _ => exact cell_of_heap (j := 1) (heap_alloc_new W _) rfl

/-- a quantity that may be -/
def Qty (x : Int) : Prop := 0 ≤ x ∧ x ≤ 1099511627776
def quoV (u c : Int) : Int := if c = 0 then 0 else Int.tdiv (u * 1000) c
def shareV (u c : Int) : Int := if c = 0 ∧ 0 < u then 1000 else quoV u c

set_option maxHeartbeats 1000000 in
theorem quantShare_any (u c : Int) (hu : Qty u) (hc : Qty c) (hz : ¬ (c = 0 ∧ 0 < u)) (w : World) : Gives 57 #[.int .i64 u, .int .i64 c] w (.tuple #[.int .i64 (quoV u c), .int .i64 0]) := by
  obtain ⟨hu1, hu2⟩ := hu
  obtain ⟨hc1, hc2⟩ := hc
  have p1 : ∀ W : World, Gives 89 #[.slice (some ⟨W.heap.size, 0, none⟩) 2 2] (W.alloc (.cells #[.int .i64 u, .int .i64 c] 3)) (.int .i64 0) := fun W =>
    checked_any (fun k => if k = 0 then u else c) _ 2 2 _ (sl2 W u c _) (by omega) (fun k _ => by dsimp only; split <;> omega)
  unfold Gives at *
  have hw : IntKind.i64.wrap (u * 1000) = u * 1000 := IntWalk.i64_in _ (by omega)
  by_cases hc0 : c = 0
  · have hu0 : u = 0 := by
      rcases Int.lt_or_eq_of_le hu1 with h | h
      · exact absurd ⟨hc0, h⟩ hz
      · exact h.symm
    subst hc0; subst hu0
    clear hz
    go_enter Tryz.func57, Tryz.ntmps57
    go_wp2_with (go_at_call 89; refine (p1 _).mono ?_; rintro e w' ⟨rfl, hc'⟩)
    go_returns
    exact ⟨rfl, ((Chg.refl No w).alloc _).trans hc'⟩
  · have hpos : ¬ c < 1 := by omega
    have hmx : max c 1 = c := by omega
    have hq : quoV u c = Int.tdiv (u * 1000) c := if_neg hc0
    have hr : -9223372036854775808 ≤ Int.tdiv (u * 1000) c ∧ Int.tdiv (u * 1000) c ≤ 9223372036854775807 := by
      rw [Int.tdiv_eq_ediv_of_nonneg (by omega)]
      have h1 : 0 ≤ u * 1000 / c := Int.ediv_nonneg (by omega) hc1
      have h2 : u * 1000 / c ≤ u * 1000 := Int.ediv_le_self _ (by omega)
      omega
    have hw2 : IntKind.i64.wrap (Int.tdiv (u * 1000) c) = Int.tdiv (u * 1000) c := IntWalk.i64_in _ hr
    have HQ := Go.Lib.hid hq
    clear hq hz hr
    go_enter Tryz.func57, Tryz.ntmps57
    go_wp2_with (go_at_call 89; refine (p1 _).mono ?_; rintro e w' ⟨rfl, hc'⟩)
    go_returns
    rw [HQ.out]
    exact ⟨by simp_all, ((Chg.refl No w).alloc _).trans hc'⟩
end Go.Proofs.YtipacbaapkdnaaaGreat
