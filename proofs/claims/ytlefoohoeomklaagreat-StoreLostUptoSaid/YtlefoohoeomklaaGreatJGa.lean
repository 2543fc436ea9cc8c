/- May a policy be: policy.Check, drayageref06.Check, where it drains nothing; over data. -/
import Derived.Test.YtlefoohoeomklaaGreatJEb
import Derived.Test.YtlefoohoeomklaaGreatJQd
set_option linter.unusedSimpArgs false
set_option linter.unusedVariables false
namespace Go.Proofs.YtlefoohoeomklaaGreat
open Go.RowKit Go.Dk Go.Dn

/-- a policy that drains nothing -/
structure GoalD where
  low : Nat → Int
  high : Nat → Int
  on : Int
  max : Int
  tries : Int
  roll : Bool
def GoalD.cells (g : GoalD) : List Value := [.int .i64 (g.low 0), .int .i64 (g.low 1), .int .i64 (g.high 0), .int .i64 (g.high 1), .int .i64 g.on, .slice none 0 0, .int .i64 g.max, .int .i64 g.tries, .bool g.roll]
def winB (n a b : Int) : Bool := decide (a ≤ n) && decide (n ≤ b)
def lowB (g : GoalD) (i : Nat) : Bool := winB (g.low i) 0 1000 && winB (g.high i) (g.low i) 1000
def baseB (g : GoalD) : Bool := winB g.on 0 31 && winB g.max 0 48 && winB g.tries 0 8
def goalK (g : GoalD) : Nat → Bool
  | 0 => baseB g
  | k + 1 => goalK g k && lowB g k
/-- may a policy be: the error's number -/
def goalE (g : GoalD) : Int := if goalK g 2 then 0 else 60


theorem wr0 : IntKind.i64.wrap 0 = 0 := rfl
theorem wr1 : IntKind.i64.wrap 1 = 1 := rfl
theorem wr2 : IntKind.i64.wrap 2 = 2 := rfl
theorem wr3 : IntKind.i64.wrap 3 = 3 := rfl
def goalF (g : GoalD) : FD := .agg (g.cells.map .v)
theorem within_pure (n a b : Int) : Pure Tryz.prog 171 [I n, I a, I b] (B (winB n a b)) := by
  refine Pure.of_run (lit := true) Tryz.func171 rfl rfl rfl rfl (Nat.le_of_ble_eq_true rfl) (run_of_runL ?_)
  unfold St.enter
  simp (dsimp := false) (implicitDefEqProofs := false) [go_sem]
  refine gif_dec (fun h1 => ?_) (fun h1 => ?_)
  · simp (dsimp := false) (implicitDefEqProofs := false) [go_sem, h1]
    simp [winB, h1]
  · simp (dsimp := false) (implicitDefEqProofs := false) [go_sem, h1]
    simp [winB, h1]
theorem refWithin_pure (n a b : Int) : Pure Tryz.prog 124 [I n, I a, I b] (B (winB n a b)) := by
  refine Pure.of_run (lit := true) Tryz.func124 rfl rfl rfl rfl (Nat.le_of_ble_eq_true rfl) (run_of_runL ?_)
  unfold St.enter
  simp (dsimp := false) (implicitDefEqProofs := false) [go_sem]
  refine gif_dec (fun h1 => ?_) (fun h1 => ?_)
  · simp (dsimp := false) (implicitDefEqProofs := false) [go_sem, h1]
    simp [winB, h1]
  · simp (dsimp := false) (implicitDefEqProofs := false) [go_sem, h1]
    simp [winB, h1]
theorem goalE_eq (g : GoalD) : goalE g = if (0 ≤ g.on ∧ g.on ≤ 31 ∧ 0 ≤ g.max ∧ g.max ≤ 48 ∧ 0 ≤ g.tries ∧ g.tries ≤ 8) ∧ (0 ≤ g.low 0 ∧ g.low 0 ≤ 1000 ∧ g.low 0 ≤ g.high 0 ∧ g.high 0 ≤ 1000) ∧ (0 ≤ g.low 1 ∧ g.low 1 ≤ 1000 ∧ g.low 1 ≤ g.high 1 ∧ g.high 1 ≤ 1000) then 0 else 60 := by
  unfold goalE
  congr 1
  simp only [goalK, baseB, lowB, winB, Bool.and_eq_true, decide_eq_true_eq, eq_iff_iff]
  constructor <;> intro h <;> omega
set_option maxRecDepth 100000 in
set_option maxHeartbeats 4000000 in
theorem policyCheck_pure (g : GoalD) : Pure Tryz.prog 123 [goalF g] (I (goalE g)) := by
  refine Pure.of_run (lit := true) Tryz.func123 rfl rfl rfl rfl (Nat.le_of_ble_eq_true rfl) (run_of_runL ?_)
  unfold St.enter
  simp (dsimp := false) (implicitDefEqProofs := false) [go_sem, wr0, wr1, wr2, goalF, GoalD.cells]
  rcases Bool.eq_false_or_eq_true (winB g.on 0 31) with h0 | h0
  · refine callW_f (within_pure _ _ _) ?_
    simp (dsimp := false) (implicitDefEqProofs := false) [go_sem, wr0, wr1, wr2, h0]
    rcases Bool.eq_false_or_eq_true (winB g.max 0 48) with h1 | h1
    · refine callW_f (within_pure _ _ _) ?_
      simp (dsimp := false) (implicitDefEqProofs := false) [go_sem, wr0, wr1, wr2, h0, h1]
      rcases Bool.eq_false_or_eq_true (winB g.tries 0 8) with h2 | h2
      · refine callW_f (within_pure _ _ _) ?_
        simp (dsimp := false) (implicitDefEqProofs := false) [go_sem, wr0, wr1, wr2, h0, h1, h2]
        refine runL_unroll 3 ?_
        refine iter_step ?_
        simp (dsimp := false) (implicitDefEqProofs := false) [go_sem, wr0, wr1, wr2, h0, h1, h2]
        rcases Bool.eq_false_or_eq_true (winB (g.low 0) 0 1000) with a0 | a0
        · refine callW_f (within_pure _ _ _) ?_
          simp (dsimp := false) (implicitDefEqProofs := false) [go_sem, wr0, wr1, wr2, h0, h1, h2, a0]
          rcases Bool.eq_false_or_eq_true (winB (g.high 0) (g.low 0) 1000) with b0 | b0
          · refine callW_f (within_pure _ _ _) ?_
            simp (dsimp := false) (implicitDefEqProofs := false) [go_sem, wr0, wr1, wr2, h0, h1, h2, a0, b0]
            refine iter_step ?_
            simp (dsimp := false) (implicitDefEqProofs := false) [go_sem, wr0, wr1, wr2, h0, h1, h2, a0, b0]
            rcases Bool.eq_false_or_eq_true (winB (g.low 1) 0 1000) with a1 | a1
            · refine callW_f (within_pure _ _ _) ?_
              simp (dsimp := false) (implicitDefEqProofs := false) [go_sem, wr0, wr1, wr2, h0, h1, h2, a0, b0, a1]
              rcases Bool.eq_false_or_eq_true (winB (g.high 1) (g.low 1) 1000) with b1 | b1
              · refine callW_f (within_pure _ _ _) ?_
                simp (dsimp := false) (implicitDefEqProofs := false) [go_sem, wr0, wr1, wr2, h0, h1, h2, a0, b0, a1, b1]
                refine iter_step ?_
                simp (dsimp := false) (implicitDefEqProofs := false) [go_sem, wr0, wr1, wr2, h0, h1, h2, a0, b0, a1, b1]
                refine runL_unroll 1 (iter_step ?_)
                simp (dsimp := false) (implicitDefEqProofs := false) [go_sem, wr0, wr1, wr2, h0, h1, h2, a0, b0, a1, b1]
                simp [goalE, goalK, baseB, lowB, h0, h1, h2, a0, b0, a1, b1]
              · refine callW_f (within_pure _ _ _) ?_
                simp (dsimp := false) (implicitDefEqProofs := false) [go_sem, wr0, wr1, wr2, h0, h1, h2, a0, b0, a1, b1]
                refine iter_step ?_
                simp (dsimp := false) (implicitDefEqProofs := false) [go_sem, wr0, wr1, wr2, h0, h1, h2, a0, b0, a1, b1]
                refine runL_unroll 1 (iter_step ?_)
                simp (dsimp := false) (implicitDefEqProofs := false) [go_sem, wr0, wr1, wr2, h0, h1, h2, a0, b0, a1, b1]
                simp [goalE, goalK, baseB, lowB, h0, h1, h2, a0, b0, a1, b1]
            · refine callW_f (within_pure _ _ _) ?_
              simp (dsimp := false) (implicitDefEqProofs := false) [go_sem, wr0, wr1, wr2, h0, h1, h2, a0, b0, a1]
              refine iter_step ?_
              simp (dsimp := false) (implicitDefEqProofs := false) [go_sem, wr0, wr1, wr2, h0, h1, h2, a0, b0, a1]
              refine runL_unroll 1 (iter_step ?_)
              simp (dsimp := false) (implicitDefEqProofs := false) [go_sem, wr0, wr1, wr2, h0, h1, h2, a0, b0, a1]
              simp [goalE, goalK, baseB, lowB, h0, h1, h2, a0, b0, a1]
          · refine callW_f (within_pure _ _ _) ?_
            simp (dsimp := false) (implicitDefEqProofs := false) [go_sem, wr0, wr1, wr2, h0, h1, h2, a0, b0]
            refine iter_step ?_
            simp (dsimp := false) (implicitDefEqProofs := false) [go_sem, wr0, wr1, wr2, h0, h1, h2, a0, b0]
            refine iter_step ?_
            simp (dsimp := false) (implicitDefEqProofs := false) [go_sem, wr0, wr1, wr2, h0, h1, h2, a0, b0]
            refine runL_unroll 1 (iter_step ?_)
            simp (dsimp := false) (implicitDefEqProofs := false) [go_sem, wr0, wr1, wr2, h0, h1, h2, a0, b0]
            simp [goalE, goalK, baseB, lowB, h0, h1, h2, a0, b0]
        · refine callW_f (within_pure _ _ _) ?_
          simp (dsimp := false) (implicitDefEqProofs := false) [go_sem, wr0, wr1, wr2, h0, h1, h2, a0]
          refine iter_step ?_
          simp (dsimp := false) (implicitDefEqProofs := false) [go_sem, wr0, wr1, wr2, h0, h1, h2, a0]
          refine iter_step ?_
          simp (dsimp := false) (implicitDefEqProofs := false) [go_sem, wr0, wr1, wr2, h0, h1, h2, a0]
          refine runL_unroll 1 (iter_step ?_)
          simp (dsimp := false) (implicitDefEqProofs := false) [go_sem, wr0, wr1, wr2, h0, h1, h2, a0]
          simp [goalE, goalK, baseB, lowB, h0, h1, h2, a0]
      · refine callW_f (within_pure _ _ _) ?_
        simp (dsimp := false) (implicitDefEqProofs := false) [go_sem, wr0, wr1, wr2, h0, h1, h2]
        refine runL_unroll 3 ?_
        refine iter_step ?_
        simp (dsimp := false) (implicitDefEqProofs := false) [go_sem, wr0, wr1, wr2, h0, h1, h2]
        refine iter_step ?_
        simp (dsimp := false) (implicitDefEqProofs := false) [go_sem, wr0, wr1, wr2, h0, h1, h2]
        refine iter_step ?_
        simp (dsimp := false) (implicitDefEqProofs := false) [go_sem, wr0, wr1, wr2, h0, h1, h2]
        refine runL_unroll 1 (iter_step ?_)
        simp (dsimp := false) (implicitDefEqProofs := false) [go_sem, wr0, wr1, wr2, h0, h1, h2]
        simp [goalE, goalK, baseB, lowB, h0, h1, h2]
    · refine callW_f (within_pure _ _ _) ?_
      simp (dsimp := false) (implicitDefEqProofs := false) [go_sem, wr0, wr1, wr2, h0, h1]
      refine runL_unroll 3 ?_
      refine iter_step ?_
      simp (dsimp := false) (implicitDefEqProofs := false) [go_sem, wr0, wr1, wr2, h0, h1]
      refine iter_step ?_
      simp (dsimp := false) (implicitDefEqProofs := false) [go_sem, wr0, wr1, wr2, h0, h1]
      refine iter_step ?_
      simp (dsimp := false) (implicitDefEqProofs := false) [go_sem, wr0, wr1, wr2, h0, h1]
      refine runL_unroll 1 (iter_step ?_)
      simp (dsimp := false) (implicitDefEqProofs := false) [go_sem, wr0, wr1, wr2, h0, h1]
      simp [goalE, goalK, baseB, lowB, h0, h1]
  · refine callW_f (within_pure _ _ _) ?_
    simp (dsimp := false) (implicitDefEqProofs := false) [go_sem, wr0, wr1, wr2, h0]
    refine runL_unroll 3 ?_
    refine iter_step ?_
    simp (dsimp := false) (implicitDefEqProofs := false) [go_sem, wr0, wr1, wr2, h0]
    refine iter_step ?_
    simp (dsimp := false) (implicitDefEqProofs := false) [go_sem, wr0, wr1, wr2, h0]
    refine iter_step ?_
    simp (dsimp := false) (implicitDefEqProofs := false) [go_sem, wr0, wr1, wr2, h0]
    refine runL_unroll 1 (iter_step ?_)
    simp (dsimp := false) (implicitDefEqProofs := false) [go_sem, wr0, wr1, wr2, h0]
    simp [goalE, goalK, baseB, lowB, h0]
set_option maxRecDepth 100000 in
set_option maxHeartbeats 4000000 in
theorem refPolicyCheck_pure (g : GoalD) : Pure Tryz.prog 59 [goalF g] (I (goalE g)) := by
  refine Pure.of_run (lit := true) Tryz.func59 rfl rfl rfl rfl (Nat.le_of_ble_eq_true rfl) (run_of_runL ?_)
  unfold St.enter
  simp (dsimp := false) (implicitDefEqProofs := false) [go_sem, wr0, wr1, wr2, goalF, GoalD.cells]
  rcases Bool.eq_false_or_eq_true (winB g.on 0 31) with h0 | h0
  · refine callW_f (refWithin_pure _ _ _) ?_
    simp (dsimp := false) (implicitDefEqProofs := false) [go_sem, wr0, wr1, wr2, h0]
    rcases Bool.eq_false_or_eq_true (winB g.max 0 48) with h1 | h1
    · refine callW_f (refWithin_pure _ _ _) ?_
      simp (dsimp := false) (implicitDefEqProofs := false) [go_sem, wr0, wr1, wr2, h0, h1]
      rcases Bool.eq_false_or_eq_true (winB g.tries 0 8) with h2 | h2
      · refine callW_f (refWithin_pure _ _ _) ?_
        simp (dsimp := false) (implicitDefEqProofs := false) [go_sem, wr0, wr1, wr2, h0, h1, h2]
        refine runL_unroll 3 ?_
        refine iter_step ?_
        simp (dsimp := false) (implicitDefEqProofs := false) [go_sem, wr0, wr1, wr2, h0, h1, h2]
        refine runL_draw [[], [0], [1, 0], [1, 0], [3, 1, 0, 2], [4, 3, 1, 0, 2], [5, 4, 3, 1, 0, 2], [1, 0, 6, 5, 4, 3, 2], [7, 1, 0, 6, 5, 4, 3, 2], [8, 7, 1, 0, 6, 5, 4, 3, 2], [8, 7, 1, 0, 6, 5, 4, 3, 2], [10, 8, 7, 1, 0, 6, 5, 4, 3, 2, 9], [11, 10, 8, 7, 1, 0, 6, 5, 4, 3, 2, 9], [12, 11, 10, 8, 7, 1, 0, 6, 5, 4, 3, 2, 9], [8, 7, 1, 0, 6, 5, 4, 3, 2, 13, 12, 11, 10, 9], [14, 8, 7, 1, 0, 6, 5, 4, 3, 2, 13, 12, 11, 10, 9], [15, 14, 8, 7, 1, 0, 6, 5, 4, 3, 2, 13, 12, 11, 10, 9], [15, 14, 8, 7, 1, 0, 6, 5, 4, 3, 2, 13, 12, 11, 10, 9], [17, 15, 14, 8, 7, 1, 0, 6, 5, 4, 3, 2, 13, 12, 11, 10, 9, 16], [18, 17, 15, 14, 8, 7, 1, 0, 6, 5, 4, 3, 2, 13, 12, 11, 10, 9, 16], [15, 14, 8, 7, 1, 0, 6, 5, 4, 3, 2, 13, 12, 11, 10, 9], [15, 14, 8, 7, 1, 0, 6, 5, 4, 3, 2, 13, 12, 11, 10, 9], [21, 15, 14, 8, 7, 1, 0, 6, 5, 4, 3, 2, 13, 12, 11, 10, 9, 20], [22, 21, 15, 14, 8, 7, 1, 0, 6, 5, 4, 3, 2, 13, 12, 11, 10, 9, 20], [19, 18, 17, 15, 14, 8, 7, 1, 0, 6, 5, 4, 3, 2, 13, 12, 11, 10, 9, 16, 23, 22, 21, 20], [15, 14, 8, 7, 1, 0, 6, 5, 4, 3, 2, 13, 12, 11, 10, 9, 24, 19, 18, 17, 16, 23, 22, 21, 20], [25, 15, 14, 8, 7, 1, 0, 6, 5, 4, 3, 2, 13, 12, 11, 10, 9, 24, 19, 18, 17, 16, 23, 22, 21, 20]] (by kernel_rfl) (by kernel_rfl) ?_
        simp (dsimp := false) (implicitDefEqProofs := false) [go_sem, wr0, wr1, wr2, h0, h1, h2, Tv, Cw, silentAt, silentOp]
        rcases Bool.eq_false_or_eq_true (winB (g.low 0) 0 1000) with a0 | a0
        · refine callW_f (refWithin_pure _ _ _) ?_
          simp (dsimp := false) (implicitDefEqProofs := false) [go_sem, wr0, wr1, wr2, h0, h1, h2, a0, Tv, Cw, silentAt, silentOp]
          rcases Bool.eq_false_or_eq_true (winB (g.high 0) 0 1000) with b0 | b0
          · refine callW_f (refWithin_pure _ _ _) ?_
            simp (dsimp := false) (implicitDefEqProofs := false) [go_sem, wr0, wr1, wr2, h0, h1, h2, a0, b0, Tv, Cw, silentAt, silentOp]
            by_cases c0 : g.low 0 ≤ g.high 0
            · simp (dsimp := false) (implicitDefEqProofs := false) [go_sem, wr0, wr1, wr2, h0, h1, h2, a0, b0, c0, Tv, Cw, silentAt, silentOp]
              refine iter_step ?_
              simp (dsimp := false) (implicitDefEqProofs := false) [go_sem, wr0, wr1, wr2, h0, h1, h2, a0, b0, c0]
              refine runL_draw [[], [0], [1, 0], [1, 0], [3, 1, 0, 2], [4, 3, 1, 0, 2], [5, 4, 3, 1, 0, 2], [1, 0, 6, 5, 4, 3, 2], [7, 1, 0, 6, 5, 4, 3, 2], [8, 7, 1, 0, 6, 5, 4, 3, 2], [8, 7, 1, 0, 6, 5, 4, 3, 2], [10, 8, 7, 1, 0, 6, 5, 4, 3, 2, 9], [11, 10, 8, 7, 1, 0, 6, 5, 4, 3, 2, 9], [12, 11, 10, 8, 7, 1, 0, 6, 5, 4, 3, 2, 9], [8, 7, 1, 0, 6, 5, 4, 3, 2, 13, 12, 11, 10, 9], [14, 8, 7, 1, 0, 6, 5, 4, 3, 2, 13, 12, 11, 10, 9], [15, 14, 8, 7, 1, 0, 6, 5, 4, 3, 2, 13, 12, 11, 10, 9], [15, 14, 8, 7, 1, 0, 6, 5, 4, 3, 2, 13, 12, 11, 10, 9], [17, 15, 14, 8, 7, 1, 0, 6, 5, 4, 3, 2, 13, 12, 11, 10, 9, 16], [18, 17, 15, 14, 8, 7, 1, 0, 6, 5, 4, 3, 2, 13, 12, 11, 10, 9, 16], [15, 14, 8, 7, 1, 0, 6, 5, 4, 3, 2, 13, 12, 11, 10, 9], [15, 14, 8, 7, 1, 0, 6, 5, 4, 3, 2, 13, 12, 11, 10, 9], [21, 15, 14, 8, 7, 1, 0, 6, 5, 4, 3, 2, 13, 12, 11, 10, 9, 20], [22, 21, 15, 14, 8, 7, 1, 0, 6, 5, 4, 3, 2, 13, 12, 11, 10, 9, 20], [19, 18, 17, 15, 14, 8, 7, 1, 0, 6, 5, 4, 3, 2, 13, 12, 11, 10, 9, 16, 23, 22, 21, 20], [15, 14, 8, 7, 1, 0, 6, 5, 4, 3, 2, 13, 12, 11, 10, 9, 24, 19, 18, 17, 16, 23, 22, 21, 20], [25, 15, 14, 8, 7, 1, 0, 6, 5, 4, 3, 2, 13, 12, 11, 10, 9, 24, 19, 18, 17, 16, 23, 22, 21, 20]] (by kernel_rfl) (by kernel_rfl) ?_
              simp (dsimp := false) (implicitDefEqProofs := false) [go_sem, wr0, wr1, wr2, h0, h1, h2, a0, b0, c0, Tv, Cw, silentAt, silentOp]
              rcases Bool.eq_false_or_eq_true (winB (g.low 1) 0 1000) with a1 | a1
              · refine callW_f (refWithin_pure _ _ _) ?_
                simp (dsimp := false) (implicitDefEqProofs := false) [go_sem, wr0, wr1, wr2, h0, h1, h2, a0, b0, c0, a1, Tv, Cw, silentAt, silentOp]
                rcases Bool.eq_false_or_eq_true (winB (g.high 1) 0 1000) with b1 | b1
                · refine callW_f (refWithin_pure _ _ _) ?_
                  simp (dsimp := false) (implicitDefEqProofs := false) [go_sem, wr0, wr1, wr2, h0, h1, h2, a0, b0, c0, a1, b1, Tv, Cw, silentAt, silentOp]
                  by_cases c1 : g.low 1 ≤ g.high 1
                  · simp (dsimp := false) (implicitDefEqProofs := false) [go_sem, wr0, wr1, wr2, h0, h1, h2, a0, b0, c0, a1, b1, c1, Tv, Cw, silentAt, silentOp]
                    refine iter_step ?_
                    simp (dsimp := false) (implicitDefEqProofs := false) [go_sem, wr0, wr1, wr2, h0, h1, h2, a0, b0, c0, a1, b1, c1]
                    refine runL_unroll 1 (iter_step ?_)
                    simp (dsimp := false) (implicitDefEqProofs := false) [go_sem, wr0, wr1, wr2, h0, h1, h2, a0, b0, c0, a1, b1, c1]
                    simp only [winB, Bool.and_eq_true, Bool.and_eq_false_iff, decide_eq_true_eq, decide_eq_false_iff_not] at h0 h1 h2 a0 b0 a1 b1
                    rw [goalE_eq, if_pos (by omega)]
                  · simp (dsimp := false) (implicitDefEqProofs := false) [go_sem, wr0, wr1, wr2, h0, h1, h2, a0, b0, c0, a1, b1, c1, Tv, Cw, silentAt, silentOp]
                    refine iter_step ?_
                    simp (dsimp := false) (implicitDefEqProofs := false) [go_sem, wr0, wr1, wr2, h0, h1, h2, a0, b0, c0, a1, b1, c1]
                    refine runL_unroll 1 (iter_step ?_)
                    simp (dsimp := false) (implicitDefEqProofs := false) [go_sem, wr0, wr1, wr2, h0, h1, h2, a0, b0, c0, a1, b1, c1]
                    simp only [winB, Bool.and_eq_true, Bool.and_eq_false_iff, decide_eq_true_eq, decide_eq_false_iff_not] at h0 h1 h2 a0 b0 a1 b1
                    rw [goalE_eq, if_neg (by omega)]
                · refine callW_f (refWithin_pure _ _ _) ?_
                  simp (dsimp := false) (implicitDefEqProofs := false) [go_sem, wr0, wr1, wr2, h0, h1, h2, a0, b0, c0, a1, b1, Tv, Cw, silentAt, silentOp]
                  refine iter_step ?_
                  simp (dsimp := false) (implicitDefEqProofs := false) [go_sem, wr0, wr1, wr2, h0, h1, h2, a0, b0, c0, a1, b1]
                  refine runL_unroll 1 (iter_step ?_)
                  simp (dsimp := false) (implicitDefEqProofs := false) [go_sem, wr0, wr1, wr2, h0, h1, h2, a0, b0, c0, a1, b1]
                  simp only [winB, Bool.and_eq_true, Bool.and_eq_false_iff, decide_eq_true_eq, decide_eq_false_iff_not] at h0 h1 h2 a0 b0 a1 b1
                  rw [goalE_eq, if_neg (by omega)]
              · refine callW_f (refWithin_pure _ _ _) ?_
                simp (dsimp := false) (implicitDefEqProofs := false) [go_sem, wr0, wr1, wr2, h0, h1, h2, a0, b0, c0, a1, Tv, Cw, silentAt, silentOp]
                refine iter_step ?_
                simp (dsimp := false) (implicitDefEqProofs := false) [go_sem, wr0, wr1, wr2, h0, h1, h2, a0, b0, c0, a1]
                refine runL_unroll 1 (iter_step ?_)
                simp (dsimp := false) (implicitDefEqProofs := false) [go_sem, wr0, wr1, wr2, h0, h1, h2, a0, b0, c0, a1]
                simp only [winB, Bool.and_eq_true, Bool.and_eq_false_iff, decide_eq_true_eq, decide_eq_false_iff_not] at h0 h1 h2 a0 b0 a1
                rw [goalE_eq, if_neg (by omega)]
            · simp (dsimp := false) (implicitDefEqProofs := false) [go_sem, wr0, wr1, wr2, h0, h1, h2, a0, b0, c0, Tv, Cw, silentAt, silentOp]
              refine iter_step ?_
              simp (dsimp := false) (implicitDefEqProofs := false) [go_sem, wr0, wr1, wr2, h0, h1, h2, a0, b0, c0]
              refine runL_draw [[], [0], [1, 0], [1, 0], [3, 1, 0, 2], [4, 3, 1, 0, 2], [5, 4, 3, 1, 0, 2], [1, 0, 6, 5, 4, 3, 2], [7, 1, 0, 6, 5, 4, 3, 2], [8, 7, 1, 0, 6, 5, 4, 3, 2], [8, 7, 1, 0, 6, 5, 4, 3, 2], [10, 8, 7, 1, 0, 6, 5, 4, 3, 2, 9], [11, 10, 8, 7, 1, 0, 6, 5, 4, 3, 2, 9], [12, 11, 10, 8, 7, 1, 0, 6, 5, 4, 3, 2, 9], [8, 7, 1, 0, 6, 5, 4, 3, 2, 13, 12, 11, 10, 9], [14, 8, 7, 1, 0, 6, 5, 4, 3, 2, 13, 12, 11, 10, 9], [15, 14, 8, 7, 1, 0, 6, 5, 4, 3, 2, 13, 12, 11, 10, 9], [15, 14, 8, 7, 1, 0, 6, 5, 4, 3, 2, 13, 12, 11, 10, 9], [17, 15, 14, 8, 7, 1, 0, 6, 5, 4, 3, 2, 13, 12, 11, 10, 9, 16], [18, 17, 15, 14, 8, 7, 1, 0, 6, 5, 4, 3, 2, 13, 12, 11, 10, 9, 16], [15, 14, 8, 7, 1, 0, 6, 5, 4, 3, 2, 13, 12, 11, 10, 9], [15, 14, 8, 7, 1, 0, 6, 5, 4, 3, 2, 13, 12, 11, 10, 9], [21, 15, 14, 8, 7, 1, 0, 6, 5, 4, 3, 2, 13, 12, 11, 10, 9, 20], [22, 21, 15, 14, 8, 7, 1, 0, 6, 5, 4, 3, 2, 13, 12, 11, 10, 9, 20], [19, 18, 17, 15, 14, 8, 7, 1, 0, 6, 5, 4, 3, 2, 13, 12, 11, 10, 9, 16, 23, 22, 21, 20], [15, 14, 8, 7, 1, 0, 6, 5, 4, 3, 2, 13, 12, 11, 10, 9, 24, 19, 18, 17, 16, 23, 22, 21, 20], [25, 15, 14, 8, 7, 1, 0, 6, 5, 4, 3, 2, 13, 12, 11, 10, 9, 24, 19, 18, 17, 16, 23, 22, 21, 20]] (by kernel_rfl) (by kernel_rfl) ?_
              simp (dsimp := false) (implicitDefEqProofs := false) [go_sem, wr0, wr1, wr2, h0, h1, h2, a0, b0, c0, Tv, Cw, silentAt, silentOp]
              refine iter_step ?_
              simp (dsimp := false) (implicitDefEqProofs := false) [go_sem, wr0, wr1, wr2, h0, h1, h2, a0, b0, c0]
              refine runL_unroll 1 (iter_step ?_)
              simp (dsimp := false) (implicitDefEqProofs := false) [go_sem, wr0, wr1, wr2, h0, h1, h2, a0, b0, c0]
              simp only [winB, Bool.and_eq_true, Bool.and_eq_false_iff, decide_eq_true_eq, decide_eq_false_iff_not] at h0 h1 h2 a0 b0
              rw [goalE_eq, if_neg (by omega)]
          · refine callW_f (refWithin_pure _ _ _) ?_
            simp (dsimp := false) (implicitDefEqProofs := false) [go_sem, wr0, wr1, wr2, h0, h1, h2, a0, b0, Tv, Cw, silentAt, silentOp]
            refine iter_step ?_
            simp (dsimp := false) (implicitDefEqProofs := false) [go_sem, wr0, wr1, wr2, h0, h1, h2, a0, b0]
            refine runL_draw [[], [0], [1, 0], [1, 0], [3, 1, 0, 2], [4, 3, 1, 0, 2], [5, 4, 3, 1, 0, 2], [1, 0, 6, 5, 4, 3, 2], [7, 1, 0, 6, 5, 4, 3, 2], [8, 7, 1, 0, 6, 5, 4, 3, 2], [8, 7, 1, 0, 6, 5, 4, 3, 2], [10, 8, 7, 1, 0, 6, 5, 4, 3, 2, 9], [11, 10, 8, 7, 1, 0, 6, 5, 4, 3, 2, 9], [12, 11, 10, 8, 7, 1, 0, 6, 5, 4, 3, 2, 9], [8, 7, 1, 0, 6, 5, 4, 3, 2, 13, 12, 11, 10, 9], [14, 8, 7, 1, 0, 6, 5, 4, 3, 2, 13, 12, 11, 10, 9], [15, 14, 8, 7, 1, 0, 6, 5, 4, 3, 2, 13, 12, 11, 10, 9], [15, 14, 8, 7, 1, 0, 6, 5, 4, 3, 2, 13, 12, 11, 10, 9], [17, 15, 14, 8, 7, 1, 0, 6, 5, 4, 3, 2, 13, 12, 11, 10, 9, 16], [18, 17, 15, 14, 8, 7, 1, 0, 6, 5, 4, 3, 2, 13, 12, 11, 10, 9, 16], [15, 14, 8, 7, 1, 0, 6, 5, 4, 3, 2, 13, 12, 11, 10, 9], [15, 14, 8, 7, 1, 0, 6, 5, 4, 3, 2, 13, 12, 11, 10, 9], [21, 15, 14, 8, 7, 1, 0, 6, 5, 4, 3, 2, 13, 12, 11, 10, 9, 20], [22, 21, 15, 14, 8, 7, 1, 0, 6, 5, 4, 3, 2, 13, 12, 11, 10, 9, 20], [19, 18, 17, 15, 14, 8, 7, 1, 0, 6, 5, 4, 3, 2, 13, 12, 11, 10, 9, 16, 23, 22, 21, 20], [15, 14, 8, 7, 1, 0, 6, 5, 4, 3, 2, 13, 12, 11, 10, 9, 24, 19, 18, 17, 16, 23, 22, 21, 20], [25, 15, 14, 8, 7, 1, 0, 6, 5, 4, 3, 2, 13, 12, 11, 10, 9, 24, 19, 18, 17, 16, 23, 22, 21, 20]] (by kernel_rfl) (by kernel_rfl) ?_
            simp (dsimp := false) (implicitDefEqProofs := false) [go_sem, wr0, wr1, wr2, h0, h1, h2, a0, b0, Tv, Cw, silentAt, silentOp]
            refine iter_step ?_
            simp (dsimp := false) (implicitDefEqProofs := false) [go_sem, wr0, wr1, wr2, h0, h1, h2, a0, b0]
            refine runL_unroll 1 (iter_step ?_)
            simp (dsimp := false) (implicitDefEqProofs := false) [go_sem, wr0, wr1, wr2, h0, h1, h2, a0, b0]
            simp only [winB, Bool.and_eq_true, Bool.and_eq_false_iff, decide_eq_true_eq, decide_eq_false_iff_not] at h0 h1 h2 a0 b0
            rw [goalE_eq, if_neg (by omega)]
        · refine callW_f (refWithin_pure _ _ _) ?_
          simp (dsimp := false) (implicitDefEqProofs := false) [go_sem, wr0, wr1, wr2, h0, h1, h2, a0, Tv, Cw, silentAt, silentOp]
          refine iter_step ?_
          simp (dsimp := false) (implicitDefEqProofs := false) [go_sem, wr0, wr1, wr2, h0, h1, h2, a0]
          refine runL_draw [[], [0], [1, 0], [1, 0], [3, 1, 0, 2], [4, 3, 1, 0, 2], [5, 4, 3, 1, 0, 2], [1, 0, 6, 5, 4, 3, 2], [7, 1, 0, 6, 5, 4, 3, 2], [8, 7, 1, 0, 6, 5, 4, 3, 2], [8, 7, 1, 0, 6, 5, 4, 3, 2], [10, 8, 7, 1, 0, 6, 5, 4, 3, 2, 9], [11, 10, 8, 7, 1, 0, 6, 5, 4, 3, 2, 9], [12, 11, 10, 8, 7, 1, 0, 6, 5, 4, 3, 2, 9], [8, 7, 1, 0, 6, 5, 4, 3, 2, 13, 12, 11, 10, 9], [14, 8, 7, 1, 0, 6, 5, 4, 3, 2, 13, 12, 11, 10, 9], [15, 14, 8, 7, 1, 0, 6, 5, 4, 3, 2, 13, 12, 11, 10, 9], [15, 14, 8, 7, 1, 0, 6, 5, 4, 3, 2, 13, 12, 11, 10, 9], [17, 15, 14, 8, 7, 1, 0, 6, 5, 4, 3, 2, 13, 12, 11, 10, 9, 16], [18, 17, 15, 14, 8, 7, 1, 0, 6, 5, 4, 3, 2, 13, 12, 11, 10, 9, 16], [15, 14, 8, 7, 1, 0, 6, 5, 4, 3, 2, 13, 12, 11, 10, 9], [15, 14, 8, 7, 1, 0, 6, 5, 4, 3, 2, 13, 12, 11, 10, 9], [21, 15, 14, 8, 7, 1, 0, 6, 5, 4, 3, 2, 13, 12, 11, 10, 9, 20], [22, 21, 15, 14, 8, 7, 1, 0, 6, 5, 4, 3, 2, 13, 12, 11, 10, 9, 20], [19, 18, 17, 15, 14, 8, 7, 1, 0, 6, 5, 4, 3, 2, 13, 12, 11, 10, 9, 16, 23, 22, 21, 20], [15, 14, 8, 7, 1, 0, 6, 5, 4, 3, 2, 13, 12, 11, 10, 9, 24, 19, 18, 17, 16, 23, 22, 21, 20], [25, 15, 14, 8, 7, 1, 0, 6, 5, 4, 3, 2, 13, 12, 11, 10, 9, 24, 19, 18, 17, 16, 23, 22, 21, 20]] (by kernel_rfl) (by kernel_rfl) ?_
          simp (dsimp := false) (implicitDefEqProofs := false) [go_sem, wr0, wr1, wr2, h0, h1, h2, a0, Tv, Cw, silentAt, silentOp]
          refine iter_step ?_
          simp (dsimp := false) (implicitDefEqProofs := false) [go_sem, wr0, wr1, wr2, h0, h1, h2, a0]
          refine runL_unroll 1 (iter_step ?_)
          simp (dsimp := false) (implicitDefEqProofs := false) [go_sem, wr0, wr1, wr2, h0, h1, h2, a0]
          simp only [winB, Bool.and_eq_true, Bool.and_eq_false_iff, decide_eq_true_eq, decide_eq_false_iff_not] at h0 h1 h2 a0
          rw [goalE_eq, if_neg (by omega)]
      · refine callW_f (refWithin_pure _ _ _) ?_
        simp (dsimp := false) (implicitDefEqProofs := false) [go_sem, wr0, wr1, wr2, h0, h1, h2]
        refine runL_unroll 3 ?_
        refine iter_step ?_
        simp (dsimp := false) (implicitDefEqProofs := false) [go_sem, wr0, wr1, wr2, h0, h1, h2]
        refine runL_draw [[], [0], [1, 0], [1, 0], [3, 1, 0, 2], [4, 3, 1, 0, 2], [5, 4, 3, 1, 0, 2], [1, 0, 6, 5, 4, 3, 2], [7, 1, 0, 6, 5, 4, 3, 2], [8, 7, 1, 0, 6, 5, 4, 3, 2], [8, 7, 1, 0, 6, 5, 4, 3, 2], [10, 8, 7, 1, 0, 6, 5, 4, 3, 2, 9], [11, 10, 8, 7, 1, 0, 6, 5, 4, 3, 2, 9], [12, 11, 10, 8, 7, 1, 0, 6, 5, 4, 3, 2, 9], [8, 7, 1, 0, 6, 5, 4, 3, 2, 13, 12, 11, 10, 9], [14, 8, 7, 1, 0, 6, 5, 4, 3, 2, 13, 12, 11, 10, 9], [15, 14, 8, 7, 1, 0, 6, 5, 4, 3, 2, 13, 12, 11, 10, 9], [15, 14, 8, 7, 1, 0, 6, 5, 4, 3, 2, 13, 12, 11, 10, 9], [17, 15, 14, 8, 7, 1, 0, 6, 5, 4, 3, 2, 13, 12, 11, 10, 9, 16], [18, 17, 15, 14, 8, 7, 1, 0, 6, 5, 4, 3, 2, 13, 12, 11, 10, 9, 16], [15, 14, 8, 7, 1, 0, 6, 5, 4, 3, 2, 13, 12, 11, 10, 9], [15, 14, 8, 7, 1, 0, 6, 5, 4, 3, 2, 13, 12, 11, 10, 9], [21, 15, 14, 8, 7, 1, 0, 6, 5, 4, 3, 2, 13, 12, 11, 10, 9, 20], [22, 21, 15, 14, 8, 7, 1, 0, 6, 5, 4, 3, 2, 13, 12, 11, 10, 9, 20], [19, 18, 17, 15, 14, 8, 7, 1, 0, 6, 5, 4, 3, 2, 13, 12, 11, 10, 9, 16, 23, 22, 21, 20], [15, 14, 8, 7, 1, 0, 6, 5, 4, 3, 2, 13, 12, 11, 10, 9, 24, 19, 18, 17, 16, 23, 22, 21, 20], [25, 15, 14, 8, 7, 1, 0, 6, 5, 4, 3, 2, 13, 12, 11, 10, 9, 24, 19, 18, 17, 16, 23, 22, 21, 20]] (by kernel_rfl) (by kernel_rfl) ?_
        simp (dsimp := false) (implicitDefEqProofs := false) [go_sem, wr0, wr1, wr2, h0, h1, h2, Tv, Cw, silentAt, silentOp]
        refine iter_step ?_
        simp (dsimp := false) (implicitDefEqProofs := false) [go_sem, wr0, wr1, wr2, h0, h1, h2]
        refine runL_draw [[], [0], [1, 0], [1, 0], [3, 1, 0, 2], [4, 3, 1, 0, 2], [5, 4, 3, 1, 0, 2], [1, 0, 6, 5, 4, 3, 2], [7, 1, 0, 6, 5, 4, 3, 2], [8, 7, 1, 0, 6, 5, 4, 3, 2], [8, 7, 1, 0, 6, 5, 4, 3, 2], [10, 8, 7, 1, 0, 6, 5, 4, 3, 2, 9], [11, 10, 8, 7, 1, 0, 6, 5, 4, 3, 2, 9], [12, 11, 10, 8, 7, 1, 0, 6, 5, 4, 3, 2, 9], [8, 7, 1, 0, 6, 5, 4, 3, 2, 13, 12, 11, 10, 9], [14, 8, 7, 1, 0, 6, 5, 4, 3, 2, 13, 12, 11, 10, 9], [15, 14, 8, 7, 1, 0, 6, 5, 4, 3, 2, 13, 12, 11, 10, 9], [15, 14, 8, 7, 1, 0, 6, 5, 4, 3, 2, 13, 12, 11, 10, 9], [17, 15, 14, 8, 7, 1, 0, 6, 5, 4, 3, 2, 13, 12, 11, 10, 9, 16], [18, 17, 15, 14, 8, 7, 1, 0, 6, 5, 4, 3, 2, 13, 12, 11, 10, 9, 16], [15, 14, 8, 7, 1, 0, 6, 5, 4, 3, 2, 13, 12, 11, 10, 9], [15, 14, 8, 7, 1, 0, 6, 5, 4, 3, 2, 13, 12, 11, 10, 9], [21, 15, 14, 8, 7, 1, 0, 6, 5, 4, 3, 2, 13, 12, 11, 10, 9, 20], [22, 21, 15, 14, 8, 7, 1, 0, 6, 5, 4, 3, 2, 13, 12, 11, 10, 9, 20], [19, 18, 17, 15, 14, 8, 7, 1, 0, 6, 5, 4, 3, 2, 13, 12, 11, 10, 9, 16, 23, 22, 21, 20], [15, 14, 8, 7, 1, 0, 6, 5, 4, 3, 2, 13, 12, 11, 10, 9, 24, 19, 18, 17, 16, 23, 22, 21, 20], [25, 15, 14, 8, 7, 1, 0, 6, 5, 4, 3, 2, 13, 12, 11, 10, 9, 24, 19, 18, 17, 16, 23, 22, 21, 20]] (by kernel_rfl) (by kernel_rfl) ?_
        simp (dsimp := false) (implicitDefEqProofs := false) [go_sem, wr0, wr1, wr2, h0, h1, h2, Tv, Cw, silentAt, silentOp]
        refine iter_step ?_
        simp (dsimp := false) (implicitDefEqProofs := false) [go_sem, wr0, wr1, wr2, h0, h1, h2]
        refine runL_unroll 1 (iter_step ?_)
        simp (dsimp := false) (implicitDefEqProofs := false) [go_sem, wr0, wr1, wr2, h0, h1, h2]
        simp only [winB, Bool.and_eq_true, Bool.and_eq_false_iff, decide_eq_true_eq, decide_eq_false_iff_not] at h0 h1 h2
        rw [goalE_eq, if_neg (by omega)]
    · refine callW_f (refWithin_pure _ _ _) ?_
      simp (dsimp := false) (implicitDefEqProofs := false) [go_sem, wr0, wr1, wr2, h0, h1]
      refine runL_unroll 3 ?_
      refine iter_step ?_
      simp (dsimp := false) (implicitDefEqProofs := false) [go_sem, wr0, wr1, wr2, h0, h1]
      refine runL_draw [[], [0], [1, 0], [1, 0], [3, 1, 0, 2], [4, 3, 1, 0, 2], [5, 4, 3, 1, 0, 2], [1, 0, 6, 5, 4, 3, 2], [7, 1, 0, 6, 5, 4, 3, 2], [8, 7, 1, 0, 6, 5, 4, 3, 2], [8, 7, 1, 0, 6, 5, 4, 3, 2], [10, 8, 7, 1, 0, 6, 5, 4, 3, 2, 9], [11, 10, 8, 7, 1, 0, 6, 5, 4, 3, 2, 9], [12, 11, 10, 8, 7, 1, 0, 6, 5, 4, 3, 2, 9], [8, 7, 1, 0, 6, 5, 4, 3, 2, 13, 12, 11, 10, 9], [14, 8, 7, 1, 0, 6, 5, 4, 3, 2, 13, 12, 11, 10, 9], [15, 14, 8, 7, 1, 0, 6, 5, 4, 3, 2, 13, 12, 11, 10, 9], [15, 14, 8, 7, 1, 0, 6, 5, 4, 3, 2, 13, 12, 11, 10, 9], [17, 15, 14, 8, 7, 1, 0, 6, 5, 4, 3, 2, 13, 12, 11, 10, 9, 16], [18, 17, 15, 14, 8, 7, 1, 0, 6, 5, 4, 3, 2, 13, 12, 11, 10, 9, 16], [15, 14, 8, 7, 1, 0, 6, 5, 4, 3, 2, 13, 12, 11, 10, 9], [15, 14, 8, 7, 1, 0, 6, 5, 4, 3, 2, 13, 12, 11, 10, 9], [21, 15, 14, 8, 7, 1, 0, 6, 5, 4, 3, 2, 13, 12, 11, 10, 9, 20], [22, 21, 15, 14, 8, 7, 1, 0, 6, 5, 4, 3, 2, 13, 12, 11, 10, 9, 20], [19, 18, 17, 15, 14, 8, 7, 1, 0, 6, 5, 4, 3, 2, 13, 12, 11, 10, 9, 16, 23, 22, 21, 20], [15, 14, 8, 7, 1, 0, 6, 5, 4, 3, 2, 13, 12, 11, 10, 9, 24, 19, 18, 17, 16, 23, 22, 21, 20], [25, 15, 14, 8, 7, 1, 0, 6, 5, 4, 3, 2, 13, 12, 11, 10, 9, 24, 19, 18, 17, 16, 23, 22, 21, 20]] (by kernel_rfl) (by kernel_rfl) ?_
      simp (dsimp := false) (implicitDefEqProofs := false) [go_sem, wr0, wr1, wr2, h0, h1, Tv, Cw, silentAt, silentOp]
      refine iter_step ?_
      simp (dsimp := false) (implicitDefEqProofs := false) [go_sem, wr0, wr1, wr2, h0, h1]
      refine runL_draw [[], [0], [1, 0], [1, 0], [3, 1, 0, 2], [4, 3, 1, 0, 2], [5, 4, 3, 1, 0, 2], [1, 0, 6, 5, 4, 3, 2], [7, 1, 0, 6, 5, 4, 3, 2], [8, 7, 1, 0, 6, 5, 4, 3, 2], [8, 7, 1, 0, 6, 5, 4, 3, 2], [10, 8, 7, 1, 0, 6, 5, 4, 3, 2, 9], [11, 10, 8, 7, 1, 0, 6, 5, 4, 3, 2, 9], [12, 11, 10, 8, 7, 1, 0, 6, 5, 4, 3, 2, 9], [8, 7, 1, 0, 6, 5, 4, 3, 2, 13, 12, 11, 10, 9], [14, 8, 7, 1, 0, 6, 5, 4, 3, 2, 13, 12, 11, 10, 9], [15, 14, 8, 7, 1, 0, 6, 5, 4, 3, 2, 13, 12, 11, 10, 9], [15, 14, 8, 7, 1, 0, 6, 5, 4, 3, 2, 13, 12, 11, 10, 9], [17, 15, 14, 8, 7, 1, 0, 6, 5, 4, 3, 2, 13, 12, 11, 10, 9, 16], [18, 17, 15, 14, 8, 7, 1, 0, 6, 5, 4, 3, 2, 13, 12, 11, 10, 9, 16], [15, 14, 8, 7, 1, 0, 6, 5, 4, 3, 2, 13, 12, 11, 10, 9], [15, 14, 8, 7, 1, 0, 6, 5, 4, 3, 2, 13, 12, 11, 10, 9], [21, 15, 14, 8, 7, 1, 0, 6, 5, 4, 3, 2, 13, 12, 11, 10, 9, 20], [22, 21, 15, 14, 8, 7, 1, 0, 6, 5, 4, 3, 2, 13, 12, 11, 10, 9, 20], [19, 18, 17, 15, 14, 8, 7, 1, 0, 6, 5, 4, 3, 2, 13, 12, 11, 10, 9, 16, 23, 22, 21, 20], [15, 14, 8, 7, 1, 0, 6, 5, 4, 3, 2, 13, 12, 11, 10, 9, 24, 19, 18, 17, 16, 23, 22, 21, 20], [25, 15, 14, 8, 7, 1, 0, 6, 5, 4, 3, 2, 13, 12, 11, 10, 9, 24, 19, 18, 17, 16, 23, 22, 21, 20]] (by kernel_rfl) (by kernel_rfl) ?_
      simp (dsimp := false) (implicitDefEqProofs := false) [go_sem, wr0, wr1, wr2, h0, h1, Tv, Cw, silentAt, silentOp]
      refine iter_step ?_
      simp (dsimp := false) (implicitDefEqProofs := false) [go_sem, wr0, wr1, wr2, h0, h1]
      refine runL_unroll 1 (iter_step ?_)
      simp (dsimp := false) (implicitDefEqProofs := false) [go_sem, wr0, wr1, wr2, h0, h1]
      simp only [winB, Bool.and_eq_true, Bool.and_eq_false_iff, decide_eq_true_eq, decide_eq_false_iff_not] at h0 h1
      rw [goalE_eq, if_neg (by omega)]
  · refine callW_f (refWithin_pure _ _ _) ?_
    simp (dsimp := false) (implicitDefEqProofs := false) [go_sem, wr0, wr1, wr2, h0]
    refine runL_unroll 3 ?_
    refine iter_step ?_
    simp (dsimp := false) (implicitDefEqProofs := false) [go_sem, wr0, wr1, wr2, h0]
    refine runL_draw [[], [0], [1, 0], [1, 0], [3, 1, 0, 2], [4, 3, 1, 0, 2], [5, 4, 3, 1, 0, 2], [1, 0, 6, 5, 4, 3, 2], [7, 1, 0, 6, 5, 4, 3, 2], [8, 7, 1, 0, 6, 5, 4, 3, 2], [8, 7, 1, 0, 6, 5, 4, 3, 2], [10, 8, 7, 1, 0, 6, 5, 4, 3, 2, 9], [11, 10, 8, 7, 1, 0, 6, 5, 4, 3, 2, 9], [12, 11, 10, 8, 7, 1, 0, 6, 5, 4, 3, 2, 9], [8, 7, 1, 0, 6, 5, 4, 3, 2, 13, 12, 11, 10, 9], [14, 8, 7, 1, 0, 6, 5, 4, 3, 2, 13, 12, 11, 10, 9], [15, 14, 8, 7, 1, 0, 6, 5, 4, 3, 2, 13, 12, 11, 10, 9], [15, 14, 8, 7, 1, 0, 6, 5, 4, 3, 2, 13, 12, 11, 10, 9], [17, 15, 14, 8, 7, 1, 0, 6, 5, 4, 3, 2, 13, 12, 11, 10, 9, 16], [18, 17, 15, 14, 8, 7, 1, 0, 6, 5, 4, 3, 2, 13, 12, 11, 10, 9, 16], [15, 14, 8, 7, 1, 0, 6, 5, 4, 3, 2, 13, 12, 11, 10, 9], [15, 14, 8, 7, 1, 0, 6, 5, 4, 3, 2, 13, 12, 11, 10, 9], [21, 15, 14, 8, 7, 1, 0, 6, 5, 4, 3, 2, 13, 12, 11, 10, 9, 20], [22, 21, 15, 14, 8, 7, 1, 0, 6, 5, 4, 3, 2, 13, 12, 11, 10, 9, 20], [19, 18, 17, 15, 14, 8, 7, 1, 0, 6, 5, 4, 3, 2, 13, 12, 11, 10, 9, 16, 23, 22, 21, 20], [15, 14, 8, 7, 1, 0, 6, 5, 4, 3, 2, 13, 12, 11, 10, 9, 24, 19, 18, 17, 16, 23, 22, 21, 20], [25, 15, 14, 8, 7, 1, 0, 6, 5, 4, 3, 2, 13, 12, 11, 10, 9, 24, 19, 18, 17, 16, 23, 22, 21, 20]] (by kernel_rfl) (by kernel_rfl) ?_
    simp (dsimp := false) (implicitDefEqProofs := false) [go_sem, wr0, wr1, wr2, h0, Tv, Cw, silentAt, silentOp]
    refine iter_step ?_
    simp (dsimp := false) (implicitDefEqProofs := false) [go_sem, wr0, wr1, wr2, h0]
    refine runL_draw [[], [0], [1, 0], [1, 0], [3, 1, 0, 2], [4, 3, 1, 0, 2], [5, 4, 3, 1, 0, 2], [1, 0, 6, 5, 4, 3, 2], [7, 1, 0, 6, 5, 4, 3, 2], [8, 7, 1, 0, 6, 5, 4, 3, 2], [8, 7, 1, 0, 6, 5, 4, 3, 2], [10, 8, 7, 1, 0, 6, 5, 4, 3, 2, 9], [11, 10, 8, 7, 1, 0, 6, 5, 4, 3, 2, 9], [12, 11, 10, 8, 7, 1, 0, 6, 5, 4, 3, 2, 9], [8, 7, 1, 0, 6, 5, 4, 3, 2, 13, 12, 11, 10, 9], [14, 8, 7, 1, 0, 6, 5, 4, 3, 2, 13, 12, 11, 10, 9], [15, 14, 8, 7, 1, 0, 6, 5, 4, 3, 2, 13, 12, 11, 10, 9], [15, 14, 8, 7, 1, 0, 6, 5, 4, 3, 2, 13, 12, 11, 10, 9], [17, 15, 14, 8, 7, 1, 0, 6, 5, 4, 3, 2, 13, 12, 11, 10, 9, 16], [18, 17, 15, 14, 8, 7, 1, 0, 6, 5, 4, 3, 2, 13, 12, 11, 10, 9, 16], [15, 14, 8, 7, 1, 0, 6, 5, 4, 3, 2, 13, 12, 11, 10, 9], [15, 14, 8, 7, 1, 0, 6, 5, 4, 3, 2, 13, 12, 11, 10, 9], [21, 15, 14, 8, 7, 1, 0, 6, 5, 4, 3, 2, 13, 12, 11, 10, 9, 20], [22, 21, 15, 14, 8, 7, 1, 0, 6, 5, 4, 3, 2, 13, 12, 11, 10, 9, 20], [19, 18, 17, 15, 14, 8, 7, 1, 0, 6, 5, 4, 3, 2, 13, 12, 11, 10, 9, 16, 23, 22, 21, 20], [15, 14, 8, 7, 1, 0, 6, 5, 4, 3, 2, 13, 12, 11, 10, 9, 24, 19, 18, 17, 16, 23, 22, 21, 20], [25, 15, 14, 8, 7, 1, 0, 6, 5, 4, 3, 2, 13, 12, 11, 10, 9, 24, 19, 18, 17, 16, 23, 22, 21, 20]] (by kernel_rfl) (by kernel_rfl) ?_
    simp (dsimp := false) (implicitDefEqProofs := false) [go_sem, wr0, wr1, wr2, h0, Tv, Cw, silentAt, silentOp]
    refine iter_step ?_
    simp (dsimp := false) (implicitDefEqProofs := false) [go_sem, wr0, wr1, wr2, h0]
    refine runL_unroll 1 (iter_step ?_)
    simp (dsimp := false) (implicitDefEqProofs := false) [go_sem, wr0, wr1, wr2, h0]
    simp only [winB, Bool.and_eq_true, Bool.and_eq_false_iff, decide_eq_true_eq, decide_eq_false_iff_not] at h0
    rw [goalE_eq, if_neg (by omega)]
end Go.Proofs.YtlefoohoeomklaaGreat
