/- drayageref05.Placement. -/
import Derived.Test.YtlefoohoeomklaaGreatJEd
set_option linter.unusedSimpArgs false
set_option linter.unusedVariables false
namespace Go.Proofs.YtlefoohoeomklaaGreat
open Go.RowKit Go.Dk Go.Dn
def onV (s : SnapD) (k : Nat) : Int := if (s.pods.el k).on.toList.isEmpty then -1 else nameIdx (fun k => (s.nodes.el k).name) s.nodes.n (s.pods.el k).on
def placV (s : SnapD) : Lst Int := ⟨s.pods.n, onV s⟩
set_option maxRecDepth 100000 in
theorem placement_pure (s : SnapD) (ok : SnapOk s) : Pure Tryz.prog 9 [snapF s] (intsF (placV s)) := by
  refine Pure.of_run (lit := false) Tryz.func9 rfl rfl rfl rfl (Nat.le_of_ble_eq_true rfl) (run_of_runL ?_)
  unfold St.enter
  simp (dsimp := false) (implicitDefEqProofs := false) [go_sem, snapF, snapC]
  refine runL_loop [.slot 3 3 1] 5 (by simp (dsimp := false) (implicitDefEqProofs := false) [go_sem]) (fun m st => ∃ j v : Nat, st.n = 33 ∧ st.lit = false ∧ j ≤ s.pods.n ∧ m = s.pods.n - j ∧ st.fr 1 = .loc 0 0 ∧ st.fr 3 = .own 4 v ∧ st.fr 4 = .f (I j) ∧
      st.mem 0 = some (.blk [.f (nodesF s.nodes), .f (podsF s.pods), .f (ownersF s.owners)]) ∧ st.mem 4 = some (.row 3 v 1 (encL j fun k => [I (onV s k)]))) s.pods.n ⟨0, 0, ?_⟩ ?_
  · simp (dsimp := false) (implicitDefEqProofs := false) [go_sem]
  rintro m ⟨N, fr, mem, nx, lt⟩ hnx ⟨j, v, hN, hlt, hj, rfl, f1, f3, f4, m0, m4⟩
  dsimp only at *
  subst hN hnx hlt
  have hp := ok.p1
  simp (dsimp := false) (implicitDefEqProofs := false) [go_sem, f1, f4, m0]
  refine gif_dec (fun hlt => ?_) (fun hge => ?_)
  · simp (dsimp := false) (implicitDefEqProofs := false) [go_sem, f1, f3, f4, m0, m4, hlt, podC_eq (s.pods.el j)]
    refine gif_split (fun he => ?_) (fun he => ?_)
    · simp (dsimp := false) (implicitDefEqProofs := false) [go_sem, f1, f3, f4, m0, m4]
      refine andL_mk (by omega) ?_
      simp (dsimp := false) (implicitDefEqProofs := false) [go_sem, f1, f3, f4, m0, m4]
      exact ⟨_, by omega, j + 1, by omega, rfl, w64 (by omega) (by omega), by rw [encL_succ]; simp [onV, he]⟩
    · refine runL_draw [[], [], [1], [], [2, 1, 3], [4, 2, 1, 3], [5, 4, 2, 1, 3], [0, 6, 5, 4, 2, 1, 3], [7, 0, 6, 5, 4, 2, 1, 3]] (by kernel_rfl) (by kernel_rfl) ?_
      simp (dsimp := false) (implicitDefEqProofs := false) [go_sem, f1, f3, f4, m0, m4, hlt, podC_eq (s.pods.el j), Tv, Cw, silentAt, silentOp]
      refine callW_f (refNode_pure s ok _) ?_
      simp (dsimp := false) (implicitDefEqProofs := false) [go_sem, f1, f3, f4, m0, m4, hlt, podC_eq (s.pods.el j), Tv, Cw, silentAt, silentOp]
      refine andL_mk (by omega) ?_
      simp (dsimp := false) (implicitDefEqProofs := false) [go_sem, f1, f3, f4, m0, m4]
      exact ⟨_, by omega, j + 1, by omega, rfl, w64 (by omega) (by omega), by rw [encL_succ]; simp [onV, he]⟩
  obtain rfl : j = s.pods.n := by omega
  simp (dsimp := false) (implicitDefEqProofs := false) [go_sem, f1, f3, f4, m0, m4]
  rfl
end Go.Proofs.YtlefoohoeomklaaGreat
