/- Bring over data. -/
import Derived.Test.YthpmgnbehahkfaaGreatJEb
set_option linter.unusedSimpArgs false
set_option linter.unusedVariables false
namespace Go.Proofs.YthpmgnbehahkfaaGreat
open Go.RowKit Go.Dk Go.Dn

def bringV (a n : Int) : Int := if a.tmod n < 0 then a.tmod n + n else a.tmod n
theorem bringV_range {a n : Int} (h : 0 < n) : 0 ≤ bringV a n ∧ bringV a n < n := by
  have h1 := Int.tmod_lt_of_pos a h
  have h2 := Int.lt_tmod_of_pos a h
  unfold bringV
  split <;> omega
set_option maxRecDepth 100000 in
theorem bring_pure (a n : Int) (hn : 0 < n) (h2 : n ≤ 4611686018427387904) : Pure Tryz.prog 30 [I a, I n] (I (bringV a n)) := by
  have hn0 : n ≠ 0 := by omega
  have h3 := Int.tmod_lt_of_pos a hn
  have h4 := Int.lt_tmod_of_pos a hn
  refine Pure.of_run (lit := true) Tryz.func30 rfl rfl rfl rfl (Nat.le_of_ble_eq_true rfl) (run_of_runL ?_)
  unfold St.enter
  simp -dsimp -implicitDefEqProofs [go_sem, ibin, hn0]
  refine gif_dec (fun hlt => ?_) (fun hge => ?_)
  · simp -dsimp -implicitDefEqProofs [go_sem, ibin]
    rw [bringV, if_pos hlt, w64 (by omega) (by omega)]
  · simp -dsimp -implicitDefEqProofs [go_sem, ibin]
    rw [bringV, if_neg hge]
end Go.Proofs.YthpmgnbehahkfaaGreat
