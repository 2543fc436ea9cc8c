/- drayageref05.Same. -/
import Derived.Test.YthpmgnbehahkfaaGreatJDf
set_option linter.unusedSimpArgs false
set_option linter.unusedVariables false
namespace Go.Proofs.YthpmgnbehahkfaaGreat
open Go.RowKit Go.Dk Go.Dn
set_option maxRecDepth 100000 in
theorem same_pure (s : SnapD) (ok : SnapOk s) : Pure Tryz.prog 25 [snapF s, snapF s] (B true) := by
  refine Pure.of_run (lit := false) Tryz.func25 rfl rfl rfl rfl (Nat.le_of_ble_eq_true rfl) (run_of_runL ?_)
  unfold St.enter
  simp -dsimp -implicitDefEqProofs [go_sem, snapF, snapC]
  refine runL_loop [] 29 (by simp -dsimp -implicitDefEqProofs [go_sem]) (fun m st => ∃ j : Nat, st.n = 197 ∧ st.lit = false ∧ j ≤ s.nodes.n ∧ m = s.nodes.n - j ∧ st.fr 2 = .loc 0 0 ∧ st.fr 3 = .loc 1 0 ∧ st.fr 5 = .f (I j) ∧
      st.mem 0 = some (.blk [.f (nodesF s.nodes), .f (podsF s.pods), .f (ownersF s.owners)]) ∧ st.mem 1 = some (.blk [.f (nodesF s.nodes), .f (podsF s.pods), .f (ownersF s.owners)])) s.nodes.n ⟨0, ?_⟩ ?_
  · simp -dsimp -implicitDefEqProofs [go_sem]
  rintro m ⟨N, fr, mem, nx, lt⟩ hnx ⟨j, hN, hlt, hj, rfl, f2, f3, f5, m0, m1⟩
  dsimp only at *
  subst hN hnx hlt
  have hn := ok.n1
  simp -dsimp -implicitDefEqProofs [go_sem, f2, f5, m0]
  refine gif_dec (fun hlt => ?_) (fun hge => ?_)
  · obtain ⟨n1, n2, n3⟩ := ok.n2 j hlt
    simp -dsimp -implicitDefEqProofs [go_sem]
    refine runL_draw [[], [0], [], [1, 0, 2], [3, 1, 0, 2], [], [5], [], [6, 5, 7], [8, 6, 5, 7], [], [], [10, 4, 3, 1, 0, 2, 11],
    [11, 9, 8, 6, 5, 7, 12, 10, 4, 3, 1, 0, 2]] (by kernel_rfl) (by kernel_rfl) ?_
    simp -dsimp -implicitDefEqProofs [go_sem, f2, f3, f5, m0, m1, hlt, nodeC_eq (s.nodes.el j), Tv, Cw, silentAt, silentOp]
    refine exWL_mk (andL_mk ⟨by kernel_rfl, by kernel_rfl⟩ ?_)
    simp -dsimp -implicitDefEqProofs [go_sem, f2, f3, f5, m0, m1, hlt, nodeC_eq (s.nodes.el j), Tv, Cw, silentAt, silentOp]
    refine exWL_mk (andL_mk ⟨by kernel_rfl, by kernel_rfl⟩ ?_)
    simp -dsimp -implicitDefEqProofs [go_sem, f2, f3, f5, m0, m1, hlt, nodeC_eq (s.nodes.el j), Tv, Cw, silentAt, silentOp]
    refine exWL_mk (andL_mk ⟨by kernel_rfl, by kernel_rfl⟩ ?_)
    simp -dsimp -implicitDefEqProofs [go_sem, f2, f3, f5, m0, m1, hlt, nodeC_eq (s.nodes.el j), Tv, Cw, silentAt, silentOp]
    refine exWL_mk (andL_mk ⟨by kernel_rfl, by kernel_rfl⟩ ?_)
    simp -dsimp -implicitDefEqProofs [go_sem, f2, f3, f5, m0, m1, hlt, nodeC_eq (s.nodes.el j), Tv, Cw, silentAt, silentOp]
    refine callW_f (sameLab_pure _ n2) ?_
    simp -dsimp -implicitDefEqProofs [go_sem, f2, f3, f5, m0, m1, hlt, nodeC_eq (s.nodes.el j), Tv, Cw, silentAt, silentOp]
    refine callW_f (sameLab_pure _ n3) ?_
    simp -dsimp -implicitDefEqProofs [go_sem, f2, f3, f5, m0, m1, hlt, nodeC_eq (s.nodes.el j), Tv, Cw, silentAt, silentOp]
    exact ⟨_, by omega, j + 1, by omega, rfl, w64 (by omega) (by omega)⟩
  simp -dsimp -implicitDefEqProofs [go_sem, f2, f3, f5, m0, m1]
  clear hge hj f5
  refine runL_loop [] 35 (by simp -dsimp -implicitDefEqProofs [go_sem]) (fun m st => ∃ j : Nat, st.n = 197 ∧ st.lit = false ∧ j ≤ s.pods.n ∧ m = s.pods.n - j ∧ st.fr 2 = .loc 0 0 ∧ st.fr 3 = .loc 1 0 ∧ st.fr 8 = .f (I j) ∧
      st.mem 0 = some (.blk [.f (nodesF s.nodes), .f (podsF s.pods), .f (ownersF s.owners)]) ∧ st.mem 1 = some (.blk [.f (nodesF s.nodes), .f (podsF s.pods), .f (ownersF s.owners)])) s.pods.n ⟨0, ?_⟩ ?_
  · simp -dsimp -implicitDefEqProofs [go_sem, f2, f3, m0, m1]
  clear f2 f3 m0 m1 fr mem
  rintro m ⟨N, fr, mem, nx, lt⟩ hnx ⟨j, hN, hlt, hj, rfl, f2, f3, f8, m0, m1⟩
  dsimp only at *
  subst hN hnx hlt
  have hp := ok.p1
  simp -dsimp -implicitDefEqProofs [go_sem, f2, f8, m0]
  refine gif_dec (fun hlt => ?_) (fun hge => ?_)
  · obtain ⟨-, n1, n2, n3, n4, n5⟩ := ok.p2 j hlt
    simp -dsimp -implicitDefEqProofs [go_sem]
    refine runL_draw [[], [0], [], [1, 0, 2], [3, 1, 0, 2], [], [5], [], [6, 5, 7], [8, 6, 5, 7], [], [], [10, 4, 3, 1, 0, 2, 11],
    [11, 9, 8, 6, 5, 7, 12, 10, 4, 3, 1, 0, 2]] (by kernel_rfl) (by kernel_rfl) ?_
    simp -dsimp -implicitDefEqProofs [go_sem, f2, f3, f8, m0, m1, hlt, podC_eq (s.pods.el j), Tv, Cw, silentAt, silentOp]
    refine exWL_mk (andL_mk ⟨by kernel_rfl, by kernel_rfl⟩ ?_)
    simp -dsimp -implicitDefEqProofs [go_sem, f2, f3, f8, m0, m1, hlt, podC_eq (s.pods.el j), Tv, Cw, silentAt, silentOp]
    refine exWL_mk (andL_mk ⟨by kernel_rfl, by kernel_rfl⟩ ?_)
    simp -dsimp -implicitDefEqProofs [go_sem, f2, f3, f8, m0, m1, hlt, podC_eq (s.pods.el j), Tv, Cw, silentAt, silentOp]
    refine exWL_mk (andL_mk ⟨by kernel_rfl, by kernel_rfl⟩ ?_)
    simp -dsimp -implicitDefEqProofs [go_sem, f2, f3, f8, m0, m1, hlt, podC_eq (s.pods.el j), Tv, Cw, silentAt, silentOp]
    refine exWL_mk (andL_mk ⟨by kernel_rfl, by kernel_rfl⟩ ?_)
    simp -dsimp -implicitDefEqProofs [go_sem, f2, f3, f8, m0, m1, hlt, podC_eq (s.pods.el j), Tv, Cw, silentAt, silentOp]
    refine callW_f (sameLab_pure _ n1) ?_
    simp -dsimp -implicitDefEqProofs [go_sem, f2, f3, f8, m0, m1, hlt, podC_eq (s.pods.el j), Tv, Cw, silentAt, silentOp]
    refine callW_f (sameTerm_pure _ n2) ?_
    simp -dsimp -implicitDefEqProofs [go_sem, f2, f3, f8, m0, m1, hlt, podC_eq (s.pods.el j), Tv, Cw, silentAt, silentOp]
    refine callW_f (sameLab_pure _ n3) ?_
    simp -dsimp -implicitDefEqProofs [go_sem, f2, f3, f8, m0, m1, hlt, podC_eq (s.pods.el j), Tv, Cw, silentAt, silentOp]
    refine callW_f (sameNear_pure _ _ n4) ?_
    simp -dsimp -implicitDefEqProofs [go_sem, f2, f3, f8, m0, m1, hlt, podC_eq (s.pods.el j), Tv, Cw, silentAt, silentOp]
    refine callW_f (sameNear_pure _ _ n5) ?_
    simp -dsimp -implicitDefEqProofs [go_sem, f2, f3, f8, m0, m1, hlt, podC_eq (s.pods.el j), Tv, Cw, silentAt, silentOp]
    exact ⟨_, by omega, j + 1, by omega, rfl, w64 (by omega) (by omega)⟩
  simp -dsimp -implicitDefEqProofs [go_sem, f2, f3, f8, m0, m1]
  clear hge hj f8
  refine runL_loop [] 41 (by simp -dsimp -implicitDefEqProofs [go_sem]) (fun m st => ∃ j : Nat, st.n = 197 ∧ st.lit = false ∧ j ≤ s.owners.n ∧ m = s.owners.n - j ∧ st.fr 2 = .loc 0 0 ∧ st.fr 3 = .loc 1 0 ∧ st.fr 11 = .f (I j) ∧
      st.mem 0 = some (.blk [.f (nodesF s.nodes), .f (podsF s.pods), .f (ownersF s.owners)]) ∧ st.mem 1 = some (.blk [.f (nodesF s.nodes), .f (podsF s.pods), .f (ownersF s.owners)])) s.owners.n ⟨0, ?_⟩ ?_
  · simp -dsimp -implicitDefEqProofs [go_sem, f2, f3, m0, m1]
  clear f2 f3 m0 m1 fr mem
  rintro m ⟨N, fr, mem, nx, lt⟩ hnx ⟨j, hN, hlt, hj, rfl, f2, f3, f11, m0, m1⟩
  dsimp only at *
  subst hN hnx hlt
  have ho := ok.o1
  simp -dsimp -implicitDefEqProofs [go_sem, f2, f11, m0]
  refine gif_dec (fun hlt => ?_) (fun hge => ?_)
  · simp -dsimp -implicitDefEqProofs [go_sem]
    refine runL_draw [[], [0], [], [1, 0, 2], [3, 1, 0, 2], [], [5], [], [6, 5, 7], [8, 6, 5, 7], [4, 3, 1, 0, 2, 9, 8, 6, 5, 7]] (by kernel_rfl) (by kernel_rfl) ?_
    simp -dsimp -implicitDefEqProofs [go_sem, f2, f3, f11, m0, m1, hlt, ownerC_eq (s.owners.el j), Tv, Cw, silentAt, silentOp]
    exact ⟨_, by omega, j + 1, by omega, rfl, w64 (by omega) (by omega)⟩
  simp -dsimp -implicitDefEqProofs [go_sem, f2, f3, f11, m0, m1]
end Go.Proofs.YthpmgnbehahkfaaGreat
