/- EqInts of rows that are alike. -/
import Derived.Test.YthpmgnbehahkfaaGreatJEa
import Derived.Test.YthpmgnbehahkfaaGreatJDa
set_option linter.unusedSimpArgs false
set_option linter.unusedVariables false
namespace Go.Proofs.YthpmgnbehahkfaaGreat
open Go.RowKit Go.Dk Go.Dn

set_option maxRecDepth 100000 in
theorem eqInts_row (n : Nat) (f : Nat → Int) (hn : n ≤ 1048576) : Pure Tryz.prog 16 [.sl 1 (encL n fun k => [I (f k)]), .sl 1 (encL n fun k => [I (f k)])] (B true) := by
  refine Pure.of_run (lit := true) Tryz.func16 rfl rfl rfl rfl (Nat.le_of_ble_eq_true rfl) (run_of_runL ?_)
  unfold St.enter
  simp -dsimp -implicitDefEqProofs [go_sem]
  refine runL_loop [] 7 (by simp -dsimp -implicitDefEqProofs [go_sem]) (fun m st => ∃ j : Nat, st.n = 26 ∧ st.lit = true ∧ j ≤ n ∧ m = n - j ∧ st.fr 0 = .f (.sl 1 (encL n fun k => [I (f k)])) ∧ st.fr 1 = .f (.sl 1 (encL n fun k => [I (f k)])) ∧ st.fr 5 = .f (I j)) n ⟨0, ?_⟩ ?_
  · simp -dsimp -implicitDefEqProofs [go_sem]
  rintro m ⟨N, fr, mem, nx, lt⟩ hnx ⟨j, hN, hlt, hj, rfl, f0, f1, f5⟩
  dsimp only at *
  subst hN hnx hlt
  simp -dsimp -implicitDefEqProofs [go_sem, f0, f1, f5]
  refine gif_dec (fun hlt => ?_) (fun hge => ?_)
  · simp -dsimp -implicitDefEqProofs [go_sem, f0, f1, f5, hlt]
    refine runL_draw [[], [], [0, 1], [2, 0, 1], [], [], [4, 5], [6, 4, 5], [3, 2, 0, 1, 7, 6, 4, 5]] (by kernel_rfl) (by kernel_rfl) ?_
    simp -dsimp -implicitDefEqProofs [go_sem, Tv, Cw, silentAt, silentOp, f0, f1, f5, hlt, encL_get? _ hlt]
    exact ⟨_, by omega, j + 1, by omega, rfl, w64 (by omega) (by omega)⟩
  · simp -dsimp -implicitDefEqProofs [go_sem]
end Go.Proofs.YthpmgnbehahkfaaGreat
