/- HeatGrows, as a contract of data. -/
import Derived.Test.YtipacbaapkdnaaaGreatJXh
set_option linter.unusedSimpArgs false
set_option linter.unusedVariables false
namespace Go.Proofs.YtipacbaapkdnaaaGreat
open Go.RowKit Go.Dk Go.Dn

set_option maxRecDepth 100000 in
set_option maxHeartbeats 8000000 in
theorem heatGrows_pure (s : SnapD) (ok : SnapOk s) (pod node : Int) : Pure Tryz.prog 6 [snapF s, I pod, I node] (B true) := by
  have hn1 := ok.n1
  have hp1 := ok.p1
  have hworks := works_pure heatLow_pure heatHigh_pure heatIdle_pure
  obtain ⟨p, hp⟩ : ∃ p, p = placV s := ⟨_, rfl⟩
  have hpn : p.n = s.pods.n := by rw [hp]; rfl
  have hpl : p.n ≤ 1048576 := by omega
  have pPlac := snapPlacement_pure s ok
  rw [← hp] at pPlac
  refine Pure.of_run (lit := true) Tryz.func6 rfl rfl rfl rfl (Nat.le_of_ble_eq_true rfl) (run_of_runL ?_)
  unfold St.enter
  simp (dsimp := false) (implicitDefEqProofs := false) [go_sem, snapF, snapC]
  refine callW_f pPlac ?_
  simp (dsimp := false) (implicitDefEqProofs := false) [go_sem, hpn]
  refine callW_f (placeCheck_pure s ok p hpl) ?_
  simp (dsimp := false) (implicitDefEqProofs := false) [go_sem]
  refine gif_split (fun h1 => ?_) (fun h1 => ?_)
  · simp (dsimp := false) (implicitDefEqProofs := false) [go_sem, h1]
    refine callW_f hworks ?_
    simp (dsimp := false) (implicitDefEqProofs := false) [go_sem]
  simp (dsimp := false) (implicitDefEqProofs := false) [go_sem, h1]
  have hmay : placeE s p = 0 := by simpa using h1
  have hmb : mayB s p = true := by unfold mayB; exact decide_eq_true hmay
  refine gif_split (fun h2 => ?_) (fun h2 => ?_)
  · simp (dsimp := false) (implicitDefEqProofs := false) [go_sem, h2]
    refine callW_f hworks ?_
    simp (dsimp := false) (implicitDefEqProofs := false) [go_sem]
  simp (dsimp := false) (implicitDefEqProofs := false) [go_sem, h2]
  refine gif_split (fun h3 => ?_) (fun h3 => ?_)
  · simp (dsimp := false) (implicitDefEqProofs := false) [go_sem, h3]
    refine callW_f hworks ?_
    simp (dsimp := false) (implicitDefEqProofs := false) [go_sem]
  simp (dsimp := false) (implicitDefEqProofs := false) [go_sem, h3]
  have hp0 : 0 < p.n := by
    have : ¬ s.pods.n = 0 := by simpa using h2
    omega
  have hn0 : 0 < s.nodes.n := by
    have : ¬ s.nodes.n = 0 := by simpa using h3
    omega
  obtain ⟨k1, k2⟩ := bringV_range (a := pod) (n := (p.n : Int)) (by omega)
  obtain ⟨m1, m2⟩ := bringV_range (a := node) (n := (s.nodes.n : Int)) (by omega)
  have pk := bring_pure pod p.n (by omega) (by omega)
  have pn := bring_pure node s.nodes.n (by omega) (by omega)
  obtain ⟨k, hk⟩ : ∃ k : Nat, bringV pod p.n = k := ⟨_, (Int.toNat_of_nonneg k1).symm⟩
  obtain ⟨n, hn⟩ : ∃ n : Nat, bringV node s.nodes.n = n := ⟨_, (Int.toNat_of_nonneg m1).symm⟩
  rw [hk] at pk k1 k2
  rw [hn] at pn m1 m2
  have hkp : k < p.n := by omega
  have hnn : n < s.nodes.n := by omega
  refine runL_draw [[], [], [1], [0, 2, 1], [], [], [5], [6, 5], [4, 7, 6, 5, 3, 0, 2, 1], [3, 0, 2, 1, 8, 4, 7, 6, 5], [8, 4, 7, 6, 5, 3, 0, 2, 1, 9]] (by kernel_rfl) (by kernel_rfl) ?_
  simp (dsimp := false) (implicitDefEqProofs := false) [go_sem, Tv, Cw, silentAt, silentOp]
  refine callW_f pk ?_
  simp (dsimp := false) (implicitDefEqProofs := false) [go_sem, Tv, Cw, silentAt, silentOp]
  refine callW_f pn ?_
  simp (dsimp := false) (implicitDefEqProofs := false) [go_sem, Tv, Cw, silentAt, silentOp]
  refine callW_row (copyRow p hpl) ?_
  simp (dsimp := false) (implicitDefEqProofs := false) [go_sem]
  refine callW_row (copyRow p hpl) ?_
  simp (dsimp := false) (implicitDefEqProofs := false) [go_sem, hkp, encL_get? _ hkp, setI_row hkp]
  refine andL_mk hnn ?_
  simp (dsimp := false) (implicitDefEqProofs := false) [go_sem, hkp, hnn, encL_get? _ hkp, setI_row hkp, nodeC_eq (s.nodes.el n)]
  refine gif_split (fun hl => ?_) (fun hl => ?_)
  · have hov : oddP s (-1) = false := odd_none s
    have hkp2 : k < (setI p k (n : Int)).n := hkp
    have hlaw := fun (x : Nat) (hx : x < s.nodes.n) (i : Nat) (hi : i < 5) => grows hmb (k := k) hov hx i hi
    simp (dsimp := false) (implicitDefEqProofs := false) [go_sem, hl, hkp, hkp2, encL_get? (n := (setI p k n).n) _ hkp, setI_row (l := setI p k n) hkp, setI_set]
    refine runL_loop [] 64 (by simp (dsimp := false) (implicitDefEqProofs := false) [go_sem]) (fun m st => ∃ j : Nat, st.n = 130 ∧ st.lit = true ∧ j ≤ s.nodes.n ∧ m = s.nodes.n - j ∧ st.fr 3 = .f (.ref [nodesF s.nodes, podsF s.pods, ownersF s.owners]) ∧ st.fr 9 = .f (I n) ∧ st.fr 10 = .own 39 0 ∧ st.fr 11 = .own 41 0 ∧ st.fr 12 = .f (I j) ∧
      st.mem 39 = some (.row 3 0 1 (encL (setI p k (-1)).n fun t => [I ((setI p k (-1)).el t)])) ∧ st.mem 41 = some (.row 3 0 1 (encL (setI p k (-1)).n fun t => [I ((setI p k (-1)).el t)]))) s.nodes.n ⟨0, ?_⟩ ?_
    · simp (dsimp := false) (implicitDefEqProofs := false) [go_sem]
    rintro m ⟨N, fr, mem, nx, lt⟩ hnx ⟨j, hN, hlt, hj, rfl, f3, f9, f10, f11, f12, m39, m41⟩
    dsimp only at *
    subst hN hnx hlt
    simp (dsimp := false) (implicitDefEqProofs := false) [go_sem, f3, f9, f10, f11, f12, m39, m41]
    refine gif_dec (fun hlt => ?_) (fun hge => ?_)
    · simp (dsimp := false) (implicitDefEqProofs := false) [go_sem, f3, f9, f10, f11, f12, m39, m41]
      refine runL_draw [[], [], [], [0, 1, 2], [], [], [], [4, 5, 6, 3, 0, 1, 2], [], [], [8, 3, 0, 1, 2, 7, 4, 5, 6, 9], [9, 7, 4, 5, 6, 3, 0, 1, 2, 10, 8]] (by kernel_rfl) (by kernel_rfl) ?_
      simp (dsimp := false) (implicitDefEqProofs := false) [go_sem, f3, f9, f10, f11, f12, m39, m41, Tv, Cw, silentAt, silentOp]
      refine callW_z (fs := [snapF s, intsF (setI p k (-1)), I j]) (by simp (dsimp := false) (implicitDefEqProofs := false) [go_sem, m39]; first | rfl | exact ⟨rfl, rfl⟩) (heatShare_pure s ok (setI p k (-1)) hpl j) rfl ?_
      simp (dsimp := false) (implicitDefEqProofs := false) [go_sem, f3, f9, f10, f11, f12, m39, m41, Tv, Cw, silentAt, silentOp, twoF]
      refine callW_z (fs := [snapF s, intsF (setI p k (-1)), I j]) (by simp (dsimp := false) (implicitDefEqProofs := false) [go_sem, m41]; first | rfl | exact ⟨rfl, rfl⟩) (heatShare_pure s ok (setI p k (-1)) hpl j) rfl ?_
      simp (dsimp := false) (implicitDefEqProofs := false) [go_sem, f3, f9, f10, f11, f12, m39, m41, Tv, Cw, silentAt, silentOp, twoF]
      refine exWL_mk (andL_mk ⟨by kernel_rfl, by kernel_rfl⟩ ?_)
      simp (dsimp := false) (implicitDefEqProofs := false) [go_sem, f3, f9, f10, f11, f12, m39, m41, Tv, Cw, silentAt, silentOp]
      refine exWL_mk (andL_mk ⟨by kernel_rfl, by kernel_rfl⟩ ?_)
      simp (dsimp := false) (implicitDefEqProofs := false) [go_sem, f3, f9, f10, f11, f12, m39, m41, Tv, Cw, silentAt, silentOp]
      refine exWL_mk (andL_mk ⟨by kernel_rfl, by kernel_rfl⟩ ?_)
      simp (dsimp := false) (implicitDefEqProofs := false) [go_sem, f3, f9, f10, f11, f12, m39, m41, Tv, Cw, silentAt, silentOp]
      refine exWL_mk (andL_mk ⟨by kernel_rfl, by kernel_rfl⟩ ?_)
      obtain ⟨g1, g2, g3⟩ := hlaw j hlt 0 (by omega)
      obtain ⟨g4, g5, g6⟩ := hlaw j hlt 1 (by omega)
      have l0 : ¬ shV s (setI p k (-1)) j 0 < shV s (setI p k (-1)) j 0 := by omega
      have l1 : ¬ shV s (setI p k (-1)) j 1 < shV s (setI p k (-1)) j 1 := by omega
      have hU := placeUsed_pure s ok (setI p k (-1)) hpl j
      have hFits := fits_pure (usedV s (setI p k (-1)) j) ((s.nodes.el j).cap)
      have f0 : fitsB (usedV s (setI p k (-1)) j) ((s.nodes.el j).cap) = true → ¬ 1000 < shV s (setI p k (-1)) j 0 ∧ ¬ 1000 < shV s (setI p k (-1)) j 1 := fun h => by
        simp only [fitsB, Bool.and_eq_true, decide_eq_true_eq] at h
        have := g3 h.1.1.1.1
        have := g6 h.1.1.1.2
        omega
      clear hlaw g3 g6
      by_cases e : j = n
      · have eb : ((j : Int) != n) = false := by simp [e]
        simp (dsimp := false) (implicitDefEqProofs := false) [go_sem, f3, f9, f10, f11, f12, m39, m41, Tv, Cw, silentAt, silentOp, eb, l0, l1]
        refine callW_z (fs := [snapF s, intsF (setI p k (-1)), I j]) (by simp (dsimp := false) (implicitDefEqProofs := false) [go_sem, m41]; first | rfl | exact ⟨rfl, rfl⟩) hU rfl ?_
        simp (dsimp := false) (implicitDefEqProofs := false) [go_sem, f3, f9, f10, f11, f12, m39, m41, eb, l0, l1, fiveF, hlt, nodeC_eq (s.nodes.el j)]
        refine runL_draw [[], [], [1], [], [2, 1, 3], [4, 2, 1, 3], [5, 4, 2, 1, 3], [0, 6, 5, 4, 2, 1, 3], [7, 0, 6, 5, 4, 2, 1, 3], [8, 7, 0, 6, 5, 4, 2, 1, 3], [9, 8, 7, 0, 6, 5, 4, 2, 1, 3], [10, 9, 8, 7, 0, 6, 5, 4, 2, 1, 3], [11, 10, 9, 8, 7, 0, 6, 5, 4, 2, 1, 3], [12, 11, 10, 9, 8, 7, 0, 6, 5, 4, 2, 1, 3], [13, 12, 11, 10, 9, 8, 7, 0, 6, 5, 4, 2, 1, 3], [14, 13, 12, 11, 10, 9, 8, 7, 0, 6, 5, 4, 2, 1, 3], [12, 11, 10, 9, 8, 7, 0, 6, 5, 4, 2, 1, 3, 15, 14, 13], [8, 7, 0, 6, 5, 4, 2, 1, 3, 16, 12, 11, 10, 9, 15, 14, 13]] (by kernel_rfl) (by kernel_rfl) ?_
        simp (dsimp := false) (implicitDefEqProofs := false) [go_sem, f3, f9, f10, f11, f12, m39, m41, eb, l0, l1, fiveF, hlt, nodeC_eq (s.nodes.el j), Tv, Cw, silentAt, silentOp]
        refine callW_f hFits ?_
        rcases Bool.eq_false_or_eq_true (fitsB (usedV s (setI p k (-1)) j) ((s.nodes.el j).cap)) with hf | hf
        · obtain ⟨q0, q1⟩ := f0 hf
          simp (dsimp := false) (implicitDefEqProofs := false) [go_sem, f3, f9, f10, f11, f12, m39, m41, eb, l0, l1, Tv, Cw, silentAt, silentOp, hf, q0, q1]
          exact ⟨_, by omega, j + 1, by omega, rfl, w64 (by omega) (by omega)⟩
        · simp (dsimp := false) (implicitDefEqProofs := false) [go_sem, f3, f9, f10, f11, f12, m39, m41, eb, l0, l1, Tv, Cw, silentAt, silentOp, hf]
          exact ⟨_, by omega, j + 1, by omega, rfl, w64 (by omega) (by omega)⟩
      · have eb : ((j : Int) != n) = true := by simp; omega
        have e0 := g2 (by omega)
        have e1 := g5 (by omega)
        simp (dsimp := false) (implicitDefEqProofs := false) [go_sem, f3, f9, f10, f11, f12, m39, m41, Tv, Cw, silentAt, silentOp, eb, e0, e1, eqt28]
        refine callW_z (fs := [snapF s, intsF (setI p k (-1)), I j]) (by simp (dsimp := false) (implicitDefEqProofs := false) [go_sem, m41]; first | rfl | exact ⟨rfl, rfl⟩) hU rfl ?_
        simp (dsimp := false) (implicitDefEqProofs := false) [go_sem, f3, f9, f10, f11, f12, m39, m41, eb, e0, e1, eqt28, fiveF, hlt, nodeC_eq (s.nodes.el j)]
        refine runL_draw [[], [], [1], [], [2, 1, 3], [4, 2, 1, 3], [5, 4, 2, 1, 3], [0, 6, 5, 4, 2, 1, 3], [7, 0, 6, 5, 4, 2, 1, 3], [8, 7, 0, 6, 5, 4, 2, 1, 3], [9, 8, 7, 0, 6, 5, 4, 2, 1, 3], [10, 9, 8, 7, 0, 6, 5, 4, 2, 1, 3], [11, 10, 9, 8, 7, 0, 6, 5, 4, 2, 1, 3], [12, 11, 10, 9, 8, 7, 0, 6, 5, 4, 2, 1, 3], [13, 12, 11, 10, 9, 8, 7, 0, 6, 5, 4, 2, 1, 3], [14, 13, 12, 11, 10, 9, 8, 7, 0, 6, 5, 4, 2, 1, 3], [12, 11, 10, 9, 8, 7, 0, 6, 5, 4, 2, 1, 3, 15, 14, 13], [8, 7, 0, 6, 5, 4, 2, 1, 3, 16, 12, 11, 10, 9, 15, 14, 13]] (by kernel_rfl) (by kernel_rfl) ?_
        simp (dsimp := false) (implicitDefEqProofs := false) [go_sem, f3, f9, f10, f11, f12, m39, m41, eb, e0, e1, eqt28, fiveF, hlt, nodeC_eq (s.nodes.el j), Tv, Cw, silentAt, silentOp]
        refine callW_f hFits ?_
        rcases Bool.eq_false_or_eq_true (fitsB (usedV s (setI p k (-1)) j) ((s.nodes.el j).cap)) with hf | hf
        · obtain ⟨q0, q1⟩ := f0 hf
          simp (dsimp := false) (implicitDefEqProofs := false) [go_sem, f3, f9, f10, f11, f12, m39, m41, eb, e0, e1, eqt28, Tv, Cw, silentAt, silentOp, hf, q0, q1]
          exact ⟨_, by omega, j + 1, by omega, rfl, w64 (by omega) (by omega)⟩
        · simp (dsimp := false) (implicitDefEqProofs := false) [go_sem, f3, f9, f10, f11, f12, m39, m41, eb, e0, e1, eqt28, Tv, Cw, silentAt, silentOp, hf]
          exact ⟨_, by omega, j + 1, by omega, rfl, w64 (by omega) (by omega)⟩
    · simp (dsimp := false) (implicitDefEqProofs := false) [go_sem, f3, f9, f10, f11, f12, m39, m41]
      refine callW_f hworks ?_
      simp (dsimp := false) (implicitDefEqProofs := false) [go_sem]
  · have hov : oddP s (n : Int) = false := odd_at hnn (by simpa using hl)
    have hkp2 : k < (setI p k (n : Int)).n := hkp
    have hlaw := fun (x : Nat) (hx : x < s.nodes.n) (i : Nat) (hi : i < 5) => grows hmb (k := k) hov hx i hi
    simp (dsimp := false) (implicitDefEqProofs := false) [go_sem, hl, hkp, hkp2, encL_get? (n := (setI p k n).n) _ hkp, setI_row (l := setI p k n) hkp, setI_set]
    refine runL_loop [] 60 (by simp (dsimp := false) (implicitDefEqProofs := false) [go_sem]) (fun m st => ∃ j : Nat, st.n = 130 ∧ st.lit = true ∧ j ≤ s.nodes.n ∧ m = s.nodes.n - j ∧ st.fr 3 = .f (.ref [nodesF s.nodes, podsF s.pods, ownersF s.owners]) ∧ st.fr 9 = .f (I n) ∧ st.fr 10 = .own 39 0 ∧ st.fr 11 = .own 41 0 ∧ st.fr 12 = .f (I j) ∧
      st.mem 39 = some (.row 3 0 1 (encL (setI p k (-1)).n fun t => [I ((setI p k (-1)).el t)])) ∧ st.mem 41 = some (.row 3 0 1 (encL (setI p k n).n fun t => [I ((setI p k n).el t)]))) s.nodes.n ⟨0, ?_⟩ ?_
    · simp (dsimp := false) (implicitDefEqProofs := false) [go_sem]
    rintro m ⟨N, fr, mem, nx, lt⟩ hnx ⟨j, hN, hlt, hj, rfl, f3, f9, f10, f11, f12, m39, m41⟩
    dsimp only at *
    subst hN hnx hlt
    simp (dsimp := false) (implicitDefEqProofs := false) [go_sem, f3, f9, f10, f11, f12, m39, m41]
    refine gif_dec (fun hlt => ?_) (fun hge => ?_)
    · simp (dsimp := false) (implicitDefEqProofs := false) [go_sem, f3, f9, f10, f11, f12, m39, m41]
      refine runL_draw [[], [], [], [0, 1, 2], [], [], [], [4, 5, 6, 3, 0, 1, 2], [], [], [8, 3, 0, 1, 2, 7, 4, 5, 6, 9], [9, 7, 4, 5, 6, 3, 0, 1, 2, 10, 8]] (by kernel_rfl) (by kernel_rfl) ?_
      simp (dsimp := false) (implicitDefEqProofs := false) [go_sem, f3, f9, f10, f11, f12, m39, m41, Tv, Cw, silentAt, silentOp]
      refine callW_z (fs := [snapF s, intsF (setI p k (-1)), I j]) (by simp (dsimp := false) (implicitDefEqProofs := false) [go_sem, m39]; first | rfl | exact ⟨rfl, rfl⟩) (heatShare_pure s ok (setI p k (-1)) hpl j) rfl ?_
      simp (dsimp := false) (implicitDefEqProofs := false) [go_sem, f3, f9, f10, f11, f12, m39, m41, Tv, Cw, silentAt, silentOp, twoF]
      refine callW_z (fs := [snapF s, intsF (setI p k n), I j]) (by simp (dsimp := false) (implicitDefEqProofs := false) [go_sem, m41]; first | rfl | exact ⟨rfl, rfl⟩) (heatShare_pure s ok (setI p k n) hpl j) rfl ?_
      simp (dsimp := false) (implicitDefEqProofs := false) [go_sem, f3, f9, f10, f11, f12, m39, m41, Tv, Cw, silentAt, silentOp, twoF]
      refine exWL_mk (andL_mk ⟨by kernel_rfl, by kernel_rfl⟩ ?_)
      simp (dsimp := false) (implicitDefEqProofs := false) [go_sem, f3, f9, f10, f11, f12, m39, m41, Tv, Cw, silentAt, silentOp]
      refine exWL_mk (andL_mk ⟨by kernel_rfl, by kernel_rfl⟩ ?_)
      simp (dsimp := false) (implicitDefEqProofs := false) [go_sem, f3, f9, f10, f11, f12, m39, m41, Tv, Cw, silentAt, silentOp]
      refine exWL_mk (andL_mk ⟨by kernel_rfl, by kernel_rfl⟩ ?_)
      simp (dsimp := false) (implicitDefEqProofs := false) [go_sem, f3, f9, f10, f11, f12, m39, m41, Tv, Cw, silentAt, silentOp]
      refine exWL_mk (andL_mk ⟨by kernel_rfl, by kernel_rfl⟩ ?_)
      obtain ⟨g1, g2, g3⟩ := hlaw j hlt 0 (by omega)
      obtain ⟨g4, g5, g6⟩ := hlaw j hlt 1 (by omega)
      have l0 : ¬ shV s (setI p k n) j 0 < shV s (setI p k (-1)) j 0 := by omega
      have l1 : ¬ shV s (setI p k n) j 1 < shV s (setI p k (-1)) j 1 := by omega
      have hU := placeUsed_pure s ok (setI p k n) hpl j
      have hFits := fits_pure (usedV s (setI p k n) j) ((s.nodes.el j).cap)
      have f0 : fitsB (usedV s (setI p k n) j) ((s.nodes.el j).cap) = true → ¬ 1000 < shV s (setI p k n) j 0 ∧ ¬ 1000 < shV s (setI p k n) j 1 := fun h => by
        simp only [fitsB, Bool.and_eq_true, decide_eq_true_eq] at h
        have := g3 h.1.1.1.1
        have := g6 h.1.1.1.2
        omega
      clear hlaw g3 g6
      by_cases e : j = n
      · have eb : ((j : Int) != n) = false := by simp [e]
        simp (dsimp := false) (implicitDefEqProofs := false) [go_sem, f3, f9, f10, f11, f12, m39, m41, Tv, Cw, silentAt, silentOp, eb, l0, l1]
        refine callW_z (fs := [snapF s, intsF (setI p k n), I j]) (by simp (dsimp := false) (implicitDefEqProofs := false) [go_sem, m41]; first | rfl | exact ⟨rfl, rfl⟩) hU rfl ?_
        simp (dsimp := false) (implicitDefEqProofs := false) [go_sem, f3, f9, f10, f11, f12, m39, m41, eb, l0, l1, fiveF, hlt, nodeC_eq (s.nodes.el j)]
        refine runL_draw [[], [], [1], [], [2, 1, 3], [4, 2, 1, 3], [5, 4, 2, 1, 3], [0, 6, 5, 4, 2, 1, 3], [7, 0, 6, 5, 4, 2, 1, 3], [8, 7, 0, 6, 5, 4, 2, 1, 3], [9, 8, 7, 0, 6, 5, 4, 2, 1, 3], [10, 9, 8, 7, 0, 6, 5, 4, 2, 1, 3], [11, 10, 9, 8, 7, 0, 6, 5, 4, 2, 1, 3], [12, 11, 10, 9, 8, 7, 0, 6, 5, 4, 2, 1, 3], [13, 12, 11, 10, 9, 8, 7, 0, 6, 5, 4, 2, 1, 3], [14, 13, 12, 11, 10, 9, 8, 7, 0, 6, 5, 4, 2, 1, 3], [12, 11, 10, 9, 8, 7, 0, 6, 5, 4, 2, 1, 3, 15, 14, 13], [8, 7, 0, 6, 5, 4, 2, 1, 3, 16, 12, 11, 10, 9, 15, 14, 13]] (by kernel_rfl) (by kernel_rfl) ?_
        simp (dsimp := false) (implicitDefEqProofs := false) [go_sem, f3, f9, f10, f11, f12, m39, m41, eb, l0, l1, fiveF, hlt, nodeC_eq (s.nodes.el j), Tv, Cw, silentAt, silentOp]
        refine callW_f hFits ?_
        rcases Bool.eq_false_or_eq_true (fitsB (usedV s (setI p k n) j) ((s.nodes.el j).cap)) with hf | hf
        · obtain ⟨q0, q1⟩ := f0 hf
          simp (dsimp := false) (implicitDefEqProofs := false) [go_sem, f3, f9, f10, f11, f12, m39, m41, eb, l0, l1, Tv, Cw, silentAt, silentOp, hf, q0, q1]
          exact ⟨_, by omega, j + 1, by omega, rfl, w64 (by omega) (by omega)⟩
        · simp (dsimp := false) (implicitDefEqProofs := false) [go_sem, f3, f9, f10, f11, f12, m39, m41, eb, l0, l1, Tv, Cw, silentAt, silentOp, hf]
          exact ⟨_, by omega, j + 1, by omega, rfl, w64 (by omega) (by omega)⟩
      · have eb : ((j : Int) != n) = true := by simp; omega
        have e0 := g2 (by omega)
        have e1 := g5 (by omega)
        simp (dsimp := false) (implicitDefEqProofs := false) [go_sem, f3, f9, f10, f11, f12, m39, m41, Tv, Cw, silentAt, silentOp, eb, e0, e1, eqt28]
        refine callW_z (fs := [snapF s, intsF (setI p k n), I j]) (by simp (dsimp := false) (implicitDefEqProofs := false) [go_sem, m41]; first | rfl | exact ⟨rfl, rfl⟩) hU rfl ?_
        simp (dsimp := false) (implicitDefEqProofs := false) [go_sem, f3, f9, f10, f11, f12, m39, m41, eb, e0, e1, eqt28, fiveF, hlt, nodeC_eq (s.nodes.el j)]
        refine runL_draw [[], [], [1], [], [2, 1, 3], [4, 2, 1, 3], [5, 4, 2, 1, 3], [0, 6, 5, 4, 2, 1, 3], [7, 0, 6, 5, 4, 2, 1, 3], [8, 7, 0, 6, 5, 4, 2, 1, 3], [9, 8, 7, 0, 6, 5, 4, 2, 1, 3], [10, 9, 8, 7, 0, 6, 5, 4, 2, 1, 3], [11, 10, 9, 8, 7, 0, 6, 5, 4, 2, 1, 3], [12, 11, 10, 9, 8, 7, 0, 6, 5, 4, 2, 1, 3], [13, 12, 11, 10, 9, 8, 7, 0, 6, 5, 4, 2, 1, 3], [14, 13, 12, 11, 10, 9, 8, 7, 0, 6, 5, 4, 2, 1, 3], [12, 11, 10, 9, 8, 7, 0, 6, 5, 4, 2, 1, 3, 15, 14, 13], [8, 7, 0, 6, 5, 4, 2, 1, 3, 16, 12, 11, 10, 9, 15, 14, 13]] (by kernel_rfl) (by kernel_rfl) ?_
        simp (dsimp := false) (implicitDefEqProofs := false) [go_sem, f3, f9, f10, f11, f12, m39, m41, eb, e0, e1, eqt28, fiveF, hlt, nodeC_eq (s.nodes.el j), Tv, Cw, silentAt, silentOp]
        refine callW_f hFits ?_
        rcases Bool.eq_false_or_eq_true (fitsB (usedV s (setI p k n) j) ((s.nodes.el j).cap)) with hf | hf
        · obtain ⟨q0, q1⟩ := f0 hf
          simp (dsimp := false) (implicitDefEqProofs := false) [go_sem, f3, f9, f10, f11, f12, m39, m41, eb, e0, e1, eqt28, Tv, Cw, silentAt, silentOp, hf, q0, q1]
          exact ⟨_, by omega, j + 1, by omega, rfl, w64 (by omega) (by omega)⟩
        · simp (dsimp := false) (implicitDefEqProofs := false) [go_sem, f3, f9, f10, f11, f12, m39, m41, eb, e0, e1, eqt28, Tv, Cw, silentAt, silentOp, hf]
          exact ⟨_, by omega, j + 1, by omega, rfl, w64 (by omega) (by omega)⟩
    · simp (dsimp := false) (implicitDefEqProofs := false) [go_sem, f3, f9, f10, f11, f12, m39, m41]
      refine callW_f hworks ?_
      simp (dsimp := false) (implicitDefEqProofs := false) [go_sem]
end Go.Proofs.YtipacbaapkdnaaaGreat
