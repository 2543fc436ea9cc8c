/- drayageref05.Copy, labels, terms; drayageref00.CopyInts. -/
/- drayageref05.Placement. -/
/- drayageref05.Same. -/
import Derived.Test.YtipacbaapkdnaaaGreatJEb
import Derived.Test.YtipacbaapkdnaaaGreatJEd
set_option linter.unusedSimpArgs false
set_option linter.unusedVariables false
section
namespace Go.Proofs.YtipacbaapkdnaaaGreat
open Go.RowKit Go.Dk Go.Dn
theorem copyInts_pure (l : Lst Int) (hn : l.n ≤ 1048576) : Pure Tryz.prog 9 [intsF l] (intsF l) := by
  refine Pure.of_run (lit := false) Tryz.func9 rfl rfl rfl rfl (Nat.le_of_ble_eq_true rfl) (run_of_runL ?_)
  unfold St.enter
  simp (dsimp := false) (implicitDefEqProofs := false) [go_sem, intsF]
  refine andL_mk (by omega) ?_
  simp (dsimp := false) (implicitDefEqProofs := false) [go_sem, intsF, labsF, termsF]
theorem labels_pure (l : Lst LabD) (hn : l.n ≤ 1048576) : Pure Tryz.prog 31 [labsF l] (labsF l) := by
  refine Pure.of_run (lit := false) Tryz.func31 rfl rfl rfl rfl (Nat.le_of_ble_eq_true rfl) (run_of_runL ?_)
  unfold St.enter
  simp (dsimp := false) (implicitDefEqProofs := false) [go_sem, labsF]
  refine andL_mk (by omega) ?_
  simp (dsimp := false) (implicitDefEqProofs := false) [go_sem, intsF, labsF, termsF]
theorem terms_pure (l : Lst TermD) (hn : l.n ≤ 1048576) : Pure Tryz.prog 32 [termsF l] (termsF l) := by
  refine Pure.of_run (lit := false) Tryz.func32 rfl rfl rfl rfl (Nat.le_of_ble_eq_true rfl) (run_of_runL ?_)
  unfold St.enter
  simp (dsimp := false) (implicitDefEqProofs := false) [go_sem, termsF]
  refine andL_mk (by omega) ?_
  simp (dsimp := false) (implicitDefEqProofs := false) [go_sem, intsF, labsF, termsF]
set_option maxRecDepth 100000 in
theorem copy_pure (s : SnapD) (ok : SnapOk s) : Pure Tryz.prog 8 [snapF s] (snapF s) := by
  refine Pure.of_run (lit := false) Tryz.func8 rfl rfl rfl rfl (Nat.le_of_ble_eq_true rfl) (run_of_runL ?_)
  unfold St.enter
  simp (dsimp := false) (implicitDefEqProofs := false) [go_sem, snapF, snapC]
  refine runL_loop [.cell 2 0 49 10, .cell 2 1 54 15] 6 (by simp (dsimp := false) (implicitDefEqProofs := false) [go_sem]) (fun m st => ∃ j v : Nat, st.n = 83 ∧ st.lit = false ∧ j ≤ s.nodes.n ∧ m = s.nodes.n - j ∧ st.fr 1 = .loc 0 0 ∧ st.fr 2 = .loc 1 0 ∧ st.fr 3 = .loc 2 0 ∧ st.fr 4 = .f (I j) ∧
      st.mem 0 = some (.blk [.f (nodesF s.nodes), .f (podsF s.pods), .f (ownersF s.owners)]) ∧ st.mem 2 = some (.blk [.own 4 v, .own 5 0, .f (.v (.slice none 0 0))]) ∧
      st.mem 1 = some (.blk [.f (.v (.slice none 0 0)), .f (.v (.slice none 0 0)), .f (.v (.slice none 0 0))]) ∧ st.mem 4 = some (.row 49 v 10 (encL j fun k => nodeC (s.nodes.el k))) ∧ st.mem 5 = some (.row 54 0 15 [])) s.nodes.n ⟨0, 0, ?_⟩ ?_
  · simp (dsimp := false) (implicitDefEqProofs := false) [go_sem, encL, clean, below, belowL]
  rintro m ⟨N, fr, mem, nx, lt⟩ hnx ⟨j, v0, hN, hlt, hj, rfl, f1, f2, f3, f4, m0, m2, m1, m4, m5⟩
  dsimp only at *
  subst hN hnx hlt
  have hn := ok.n1
  simp (dsimp := false) (implicitDefEqProofs := false) [go_sem, f1, f4, m0]
  refine gif_dec (fun hlt => ?_) (fun hge => ?_)
  · obtain ⟨n1, n2, n3⟩ := ok.n2 j hlt
    simp (dsimp := false) (implicitDefEqProofs := false) [go_sem, f1, f2, f3, f4, m0, m1, m2, m4, m5, hlt, nodeC_eq (s.nodes.el j)]
    refine callW_f (labels_pure _ n2.1) ?_
    simp (dsimp := false) (implicitDefEqProofs := false) [go_sem, f1, f2, f3, f4, m0, m1, m2, m4, m5]
    refine callW_f (labels_pure _ n3.1) ?_
    simp (dsimp := false) (implicitDefEqProofs := false) [go_sem, f1, f2, f3, f4, m0, m1, m2, m4, m5]
    refine andL_mk (by omega) ?_
    simp (dsimp := false) (implicitDefEqProofs := false) [go_sem, f1, f2, f3, f4, m0, m1, m2, m4, m5]
    exact ⟨_, by omega, j + 1, by omega, rfl, w64 (by omega) (by omega), (encL_succ _ _).symm⟩
  simp (dsimp := false) (implicitDefEqProofs := false) [go_sem, f1, f2, f3, f4, m0, m1, m2, m4, m5]
  obtain rfl : j = s.nodes.n := by omega
  refine runL_loop [] 12 (by simp (dsimp := false) (implicitDefEqProofs := false) [go_sem]) (fun m st => ∃ j v : Nat, st.n = 83 ∧ st.lit = false ∧ j ≤ s.pods.n ∧ m = s.pods.n - j ∧ st.fr 1 = .loc 0 0 ∧ st.fr 2 = .loc 1 0 ∧ st.fr 3 = .loc 2 0 ∧ st.fr 6 = .f (I j) ∧
      st.mem 0 = some (.blk [.f (nodesF s.nodes), .f (podsF s.pods), .f (ownersF s.owners)]) ∧ st.mem 2 = some (.blk [.own 4 v0, .own 5 v, .f (.v (.slice none 0 0))]) ∧
      st.mem 1 = some (.blk [.f (.v (.slice none 0 0)), .f (.v (.slice none 0 0)), .f (.v (.slice none 0 0))]) ∧ st.mem 4 = some (.row 49 v0 10 (encL s.nodes.n fun k => nodeC (s.nodes.el k))) ∧ st.mem 5 = some (.row 54 v 15 (encL j fun k => podC (s.pods.el k)))) s.pods.n ⟨0, 0, ?_⟩ ?_
  · simp (dsimp := false) (implicitDefEqProofs := false) [go_sem, f1, f2, f3, f4, m0, m1, m2, m4, m5]
  clear f1 f2 f3 f4 m0 m1 m2 m4 m5 fr mem
  rintro m ⟨N, fr, mem, nx, lt⟩ hnx ⟨j, v, hN, hlt, hj, rfl, f1, f2, f3, f6, m0, m2, m1, m4, m5⟩
  dsimp only at *
  subst hN hnx hlt
  have hp := ok.p1
  simp (dsimp := false) (implicitDefEqProofs := false) [go_sem, f1, f6, m0]
  refine gif_dec (fun hlt => ?_) (fun hge => ?_)
  · obtain ⟨-, n1, n2, n3, n4, n5⟩ := ok.p2 j hlt
    simp (dsimp := false) (implicitDefEqProofs := false) [go_sem, f1, f2, f3, f6, m0, m1, m2, m4, m5, hlt, podC_eq (s.pods.el j)]
    refine callW_f (labels_pure _ n1.1) ?_
    simp (dsimp := false) (implicitDefEqProofs := false) [go_sem, f1, f2, f3, f6, m0, m1, m2, m4, m5]
    refine callW_f (terms_pure _ n2.1) ?_
    simp (dsimp := false) (implicitDefEqProofs := false) [go_sem, f1, f2, f3, f6, m0, m1, m2, m4, m5]
    refine callW_f (labels_pure _ n3.1) ?_
    simp (dsimp := false) (implicitDefEqProofs := false) [go_sem, f1, f2, f3, f6, m0, m1, m2, m4, m5]
    refine callW_f (terms_pure _ n4.1) ?_
    simp (dsimp := false) (implicitDefEqProofs := false) [go_sem, f1, f2, f3, f6, m0, m1, m2, m4, m5]
    refine callW_f (terms_pure _ n5.1) ?_
    simp (dsimp := false) (implicitDefEqProofs := false) [go_sem, f1, f2, f3, f6, m0, m1, m2, m4, m5]
    refine andL_mk (by omega) ?_
    simp (dsimp := false) (implicitDefEqProofs := false) [go_sem, f1, f2, f3, f6, m0, m1, m2, m4, m5]
    exact ⟨_, by omega, j + 1, by omega, rfl, w64 (by omega) (by omega), (encL_succ _ _).symm⟩
  obtain rfl : j = s.pods.n := by omega
  have ho := ok.o1
  simp (dsimp := false) (implicitDefEqProofs := false) [go_sem, f1, f2, f3, f6, m0, m1, m2, m4, m5]
  refine andL_mk (by omega) ?_
  simp (dsimp := false) (implicitDefEqProofs := false) [go_sem, f1, f2, f3, f6, m0, m1, m2, m4, m5]
  rfl
end Go.Proofs.YtipacbaapkdnaaaGreat
end
section
namespace Go.Proofs.YtipacbaapkdnaaaGreat
open Go.RowKit Go.Dk Go.Dn
def onV (s : SnapD) (k : Nat) : Int := if (s.pods.el k).on.toList.isEmpty then -1 else nameIdx (fun k => (s.nodes.el k).name) s.nodes.n (s.pods.el k).on
def placV (s : SnapD) : Lst Int := ⟨s.pods.n, onV s⟩
set_option maxRecDepth 100000 in
theorem placement_pure (s : SnapD) (ok : SnapOk s) : Pure Tryz.prog 7 [snapF s] (intsF (placV s)) := by
  refine Pure.of_run (lit := false) Tryz.func7 rfl rfl rfl rfl (Nat.le_of_ble_eq_true rfl) (run_of_runL ?_)
  unfold St.enter
  simp (dsimp := false) (implicitDefEqProofs := false) [go_sem, snapF, snapC]
  refine runL_loop [.slot 3 3 1] 5 (by simp (dsimp := false) (implicitDefEqProofs := false) [go_sem]) (fun m st => ∃ j v : Nat, st.n = 33 ∧ st.lit = false ∧ j ≤ s.pods.n ∧ m = s.pods.n - j ∧ st.fr 1 = .loc 0 0 ∧ st.fr 3 = .own 4 v ∧ st.fr 4 = .f (I j) ∧
      st.mem 0 = some (.blk [.f (nodesF s.nodes), .f (podsF s.pods), .f (ownersF s.owners)]) ∧ st.mem 4 = some (.row 3 v 1 (encL j fun k => [I (onV s k)]))) s.pods.n ⟨0, 0, ?_⟩ ?_
  · simp (dsimp := false) (implicitDefEqProofs := false) [go_sem]
  rintro m ⟨N, fr, mem, nx, lt⟩ hnx ⟨j, v, hN, hlt, hj, rfl, f1, f3, f4, m0, m4⟩
  dsimp only at *
  subst hN hnx hlt
  have hp := ok.p1
  simp (dsimp := false) (implicitDefEqProofs := false) [go_sem, f1, f4, m0]
  refine gif_dec (fun hlt => ?_) (fun hge => ?_)
  · simp (dsimp := false) (implicitDefEqProofs := false) [go_sem, f1, f3, f4, m0, m4, hlt, podC_eq (s.pods.el j)]
    refine gif_split (fun he => ?_) (fun he => ?_)
    · simp (dsimp := false) (implicitDefEqProofs := false) [go_sem, f1, f3, f4, m0, m4]
      refine andL_mk (by omega) ?_
      simp (dsimp := false) (implicitDefEqProofs := false) [go_sem, f1, f3, f4, m0, m4]
      exact ⟨_, by omega, j + 1, by omega, rfl, w64 (by omega) (by omega), by rw [encL_succ]; simp [onV, he]⟩
    · refine runL_draw [[], [], [1], [], [2, 1, 3], [4, 2, 1, 3], [5, 4, 2, 1, 3], [0, 6, 5, 4, 2, 1, 3], [7, 0, 6, 5, 4, 2, 1, 3]] (by kernel_rfl) (by kernel_rfl) ?_
      simp (dsimp := false) (implicitDefEqProofs := false) [go_sem, f1, f3, f4, m0, m4, hlt, podC_eq (s.pods.el j), Tv, Cw, silentAt, silentOp]
      refine callW_f (refNode_pure s ok _) ?_
      simp (dsimp := false) (implicitDefEqProofs := false) [go_sem, f1, f3, f4, m0, m4, hlt, podC_eq (s.pods.el j), Tv, Cw, silentAt, silentOp]
      refine andL_mk (by omega) ?_
      simp (dsimp := false) (implicitDefEqProofs := false) [go_sem, f1, f3, f4, m0, m4]
      exact ⟨_, by omega, j + 1, by omega, rfl, w64 (by omega) (by omega), by rw [encL_succ]; simp [onV, he]⟩
  obtain rfl : j = s.pods.n := by omega
  simp (dsimp := false) (implicitDefEqProofs := false) [go_sem, f1, f3, f4, m0, m4]
  rfl
end Go.Proofs.YtipacbaapkdnaaaGreat
end
section
namespace Go.Proofs.YtipacbaapkdnaaaGreat
open Go.RowKit Go.Dk Go.Dn
set_option maxRecDepth 100000 in
theorem same_pure (s : SnapD) (ok : SnapOk s) : Pure Tryz.prog 21 [snapF s, snapF s] (B true) := by
  refine Pure.of_run (lit := false) Tryz.func21 rfl rfl rfl rfl (Nat.le_of_ble_eq_true rfl) (run_of_runL ?_)
  unfold St.enter
  simp (dsimp := false) (implicitDefEqProofs := false) [go_sem, snapF, snapC]
  refine runL_loop [] 29 (by simp (dsimp := false) (implicitDefEqProofs := false) [go_sem]) (fun m st => ∃ j : Nat, st.n = 197 ∧ st.lit = false ∧ j ≤ s.nodes.n ∧ m = s.nodes.n - j ∧ st.fr 2 = .loc 0 0 ∧ st.fr 3 = .loc 1 0 ∧ st.fr 5 = .f (I j) ∧
      st.mem 0 = some (.blk [.f (nodesF s.nodes), .f (podsF s.pods), .f (ownersF s.owners)]) ∧ st.mem 1 = some (.blk [.f (nodesF s.nodes), .f (podsF s.pods), .f (ownersF s.owners)])) s.nodes.n ⟨0, ?_⟩ ?_
  · simp (dsimp := false) (implicitDefEqProofs := false) [go_sem]
  rintro m ⟨N, fr, mem, nx, lt⟩ hnx ⟨j, hN, hlt, hj, rfl, f2, f3, f5, m0, m1⟩
  dsimp only at *
  subst hN hnx hlt
  have hn := ok.n1
  simp (dsimp := false) (implicitDefEqProofs := false) [go_sem, f2, f5, m0]
  refine gif_dec (fun hlt => ?_) (fun hge => ?_)
  · obtain ⟨n1, n2, n3⟩ := ok.n2 j hlt
    simp (dsimp := false) (implicitDefEqProofs := false) [go_sem]
    refine runL_draw [[], [0], [], [1, 0, 2], [3, 1, 0, 2], [], [5], [], [6, 5, 7], [8, 6, 5, 7], [], [], [10, 4, 3, 1, 0, 2, 11],
    [11, 9, 8, 6, 5, 7, 12, 10, 4, 3, 1, 0, 2]] (by kernel_rfl) (by kernel_rfl) ?_
    simp (dsimp := false) (implicitDefEqProofs := false) [go_sem, f2, f3, f5, m0, m1, hlt, nodeC_eq (s.nodes.el j), Tv, Cw, silentAt, silentOp]
    refine exWL_mk (andL_mk ⟨by kernel_rfl, by kernel_rfl⟩ ?_)
    simp (dsimp := false) (implicitDefEqProofs := false) [go_sem, f2, f3, f5, m0, m1, hlt, nodeC_eq (s.nodes.el j), Tv, Cw, silentAt, silentOp]
    refine exWL_mk (andL_mk ⟨by kernel_rfl, by kernel_rfl⟩ ?_)
    simp (dsimp := false) (implicitDefEqProofs := false) [go_sem, f2, f3, f5, m0, m1, hlt, nodeC_eq (s.nodes.el j), Tv, Cw, silentAt, silentOp]
    refine exWL_mk (andL_mk ⟨by kernel_rfl, by kernel_rfl⟩ ?_)
    simp (dsimp := false) (implicitDefEqProofs := false) [go_sem, f2, f3, f5, m0, m1, hlt, nodeC_eq (s.nodes.el j), Tv, Cw, silentAt, silentOp]
    refine exWL_mk (andL_mk ⟨by kernel_rfl, by kernel_rfl⟩ ?_)
    simp (dsimp := false) (implicitDefEqProofs := false) [go_sem, f2, f3, f5, m0, m1, hlt, nodeC_eq (s.nodes.el j), Tv, Cw, silentAt, silentOp]
    refine callW_f (sameLab_pure _ n2) ?_
    simp (dsimp := false) (implicitDefEqProofs := false) [go_sem, f2, f3, f5, m0, m1, hlt, nodeC_eq (s.nodes.el j), Tv, Cw, silentAt, silentOp]
    refine callW_f (sameLab_pure _ n3) ?_
    simp (dsimp := false) (implicitDefEqProofs := false) [go_sem, f2, f3, f5, m0, m1, hlt, nodeC_eq (s.nodes.el j), Tv, Cw, silentAt, silentOp]
    exact ⟨_, by omega, j + 1, by omega, rfl, w64 (by omega) (by omega)⟩
  simp (dsimp := false) (implicitDefEqProofs := false) [go_sem, f2, f3, f5, m0, m1]
  clear hge hj f5
  refine runL_loop [] 35 (by simp (dsimp := false) (implicitDefEqProofs := false) [go_sem]) (fun m st => ∃ j : Nat, st.n = 197 ∧ st.lit = false ∧ j ≤ s.pods.n ∧ m = s.pods.n - j ∧ st.fr 2 = .loc 0 0 ∧ st.fr 3 = .loc 1 0 ∧ st.fr 8 = .f (I j) ∧
      st.mem 0 = some (.blk [.f (nodesF s.nodes), .f (podsF s.pods), .f (ownersF s.owners)]) ∧ st.mem 1 = some (.blk [.f (nodesF s.nodes), .f (podsF s.pods), .f (ownersF s.owners)])) s.pods.n ⟨0, ?_⟩ ?_
  · simp (dsimp := false) (implicitDefEqProofs := false) [go_sem, f2, f3, m0, m1]
  clear f2 f3 m0 m1 fr mem
  rintro m ⟨N, fr, mem, nx, lt⟩ hnx ⟨j, hN, hlt, hj, rfl, f2, f3, f8, m0, m1⟩
  dsimp only at *
  subst hN hnx hlt
  have hp := ok.p1
  simp (dsimp := false) (implicitDefEqProofs := false) [go_sem, f2, f8, m0]
  refine gif_dec (fun hlt => ?_) (fun hge => ?_)
  · obtain ⟨-, n1, n2, n3, n4, n5⟩ := ok.p2 j hlt
    simp (dsimp := false) (implicitDefEqProofs := false) [go_sem]
    refine runL_draw [[], [0], [], [1, 0, 2], [3, 1, 0, 2], [], [5], [], [6, 5, 7], [8, 6, 5, 7], [], [], [10, 4, 3, 1, 0, 2, 11],
    [11, 9, 8, 6, 5, 7, 12, 10, 4, 3, 1, 0, 2]] (by kernel_rfl) (by kernel_rfl) ?_
    simp (dsimp := false) (implicitDefEqProofs := false) [go_sem, f2, f3, f8, m0, m1, hlt, podC_eq (s.pods.el j), Tv, Cw, silentAt, silentOp]
    refine exWL_mk (andL_mk ⟨by kernel_rfl, by kernel_rfl⟩ ?_)
    simp (dsimp := false) (implicitDefEqProofs := false) [go_sem, f2, f3, f8, m0, m1, hlt, podC_eq (s.pods.el j), Tv, Cw, silentAt, silentOp]
    refine exWL_mk (andL_mk ⟨by kernel_rfl, by kernel_rfl⟩ ?_)
    simp (dsimp := false) (implicitDefEqProofs := false) [go_sem, f2, f3, f8, m0, m1, hlt, podC_eq (s.pods.el j), Tv, Cw, silentAt, silentOp]
    refine exWL_mk (andL_mk ⟨by kernel_rfl, by kernel_rfl⟩ ?_)
    simp (dsimp := false) (implicitDefEqProofs := false) [go_sem, f2, f3, f8, m0, m1, hlt, podC_eq (s.pods.el j), Tv, Cw, silentAt, silentOp]
    refine exWL_mk (andL_mk ⟨by kernel_rfl, by kernel_rfl⟩ ?_)
    simp (dsimp := false) (implicitDefEqProofs := false) [go_sem, f2, f3, f8, m0, m1, hlt, podC_eq (s.pods.el j), Tv, Cw, silentAt, silentOp]
    refine callW_f (sameLab_pure _ n1) ?_
    simp (dsimp := false) (implicitDefEqProofs := false) [go_sem, f2, f3, f8, m0, m1, hlt, podC_eq (s.pods.el j), Tv, Cw, silentAt, silentOp]
    refine callW_f (sameTerm_pure _ n2) ?_
    simp (dsimp := false) (implicitDefEqProofs := false) [go_sem, f2, f3, f8, m0, m1, hlt, podC_eq (s.pods.el j), Tv, Cw, silentAt, silentOp]
    refine callW_f (sameLab_pure _ n3) ?_
    simp (dsimp := false) (implicitDefEqProofs := false) [go_sem, f2, f3, f8, m0, m1, hlt, podC_eq (s.pods.el j), Tv, Cw, silentAt, silentOp]
    refine callW_f (sameNear_pure _ _ n4) ?_
    simp (dsimp := false) (implicitDefEqProofs := false) [go_sem, f2, f3, f8, m0, m1, hlt, podC_eq (s.pods.el j), Tv, Cw, silentAt, silentOp]
    refine callW_f (sameNear_pure _ _ n5) ?_
    simp (dsimp := false) (implicitDefEqProofs := false) [go_sem, f2, f3, f8, m0, m1, hlt, podC_eq (s.pods.el j), Tv, Cw, silentAt, silentOp]
    exact ⟨_, by omega, j + 1, by omega, rfl, w64 (by omega) (by omega)⟩
  simp (dsimp := false) (implicitDefEqProofs := false) [go_sem, f2, f3, f8, m0, m1]
  clear hge hj f8
  refine runL_loop [] 41 (by simp (dsimp := false) (implicitDefEqProofs := false) [go_sem]) (fun m st => ∃ j : Nat, st.n = 197 ∧ st.lit = false ∧ j ≤ s.owners.n ∧ m = s.owners.n - j ∧ st.fr 2 = .loc 0 0 ∧ st.fr 3 = .loc 1 0 ∧ st.fr 11 = .f (I j) ∧
      st.mem 0 = some (.blk [.f (nodesF s.nodes), .f (podsF s.pods), .f (ownersF s.owners)]) ∧ st.mem 1 = some (.blk [.f (nodesF s.nodes), .f (podsF s.pods), .f (ownersF s.owners)])) s.owners.n ⟨0, ?_⟩ ?_
  · simp (dsimp := false) (implicitDefEqProofs := false) [go_sem, f2, f3, m0, m1]
  clear f2 f3 m0 m1 fr mem
  rintro m ⟨N, fr, mem, nx, lt⟩ hnx ⟨j, hN, hlt, hj, rfl, f2, f3, f11, m0, m1⟩
  dsimp only at *
  subst hN hnx hlt
  have ho := ok.o1
  simp (dsimp := false) (implicitDefEqProofs := false) [go_sem, f2, f11, m0]
  refine gif_dec (fun hlt => ?_) (fun hge => ?_)
  · simp (dsimp := false) (implicitDefEqProofs := false) [go_sem]
    refine runL_draw [[], [0], [], [1, 0, 2], [3, 1, 0, 2], [], [5], [], [6, 5, 7], [8, 6, 5, 7], [4, 3, 1, 0, 2, 9, 8, 6, 5, 7]] (by kernel_rfl) (by kernel_rfl) ?_
    simp (dsimp := false) (implicitDefEqProofs := false) [go_sem, f2, f3, f11, m0, m1, hlt, ownerC_eq (s.owners.el j), Tv, Cw, silentAt, silentOp]
    exact ⟨_, by omega, j + 1, by omega, rfl, w64 (by omega) (by omega)⟩
  simp (dsimp := false) (implicitDefEqProofs := false) [go_sem, f2, f3, f11, m0, m1]
end Go.Proofs.YtipacbaapkdnaaaGreat
end
