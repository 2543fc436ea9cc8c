/- The chapter's examples of the Place laws. -/
import Derived.Test.YthpmgnbehahkfaaGreatJWl
import Derived.Test.YthpmgnbehahkfaaGreatJQt
set_option linter.unusedSimpArgs false
set_option linter.unusedVariables false
namespace Go.Proofs.YthpmgnbehahkfaaGreat
open Go.RowKit Go.Dk Go.Dn

def r3 (a b c : Int) : Lst Int := ⟨3, fun k => if k = 0 then a else if k = 1 then b else c⟩
def r2 (a b : Int) : Lst Int := ⟨2, fun k => if k = 0 then a else b⟩
theorem r3_eq (a b c : Int) : intsF (r3 a b c) = .sl 1 [[I a], [I b], [I c]] := rfl
theorem r2_eq (a b : Int) : intsF (r2 a b) = .sl 1 [[I a], [I b]] := rfl
def pW : Lst Int := r3 0 2 (-1)
theorem w_dom : domF chS 2 zoneB = .tup [S ByteArray.empty, B false] := by
  have h : valB (chS.nodes.el 2) zoneB = false := by decide +kernel
  unfold domF
  rw [if_pos (by decide +kernel)]
  show valF (chS.nodes.el 2) zoneB = _
  unfold valF valS
  rw [h]
  rfl
theorem w_e1 : appE chS pW 1 0 0 = 0 := by decide +kernel
theorem w_e2 : appE chS pW 2 2 1 = 0 := by decide +kernel
theorem w_e3 : appE chS pW 1 2 0 = 110 := by decide +kernel
theorem w_m : movesL pW (r3 0 1 1) = [(1, 1), (2, 1)] := by decide +kernel
theorem w_u : fiveF (usedV chS (r3 0 0 (-1)) 0) = .agg [I 20, I 0, I 0, I 0, I 0] := by
  have h0 : usedV chS (r3 0 0 (-1)) 0 0 = 20 := by decide +kernel
  have h1 : usedV chS (r3 0 0 (-1)) 0 1 = 0 := by decide +kernel
  have h2 : usedV chS (r3 0 0 (-1)) 0 2 = 0 := by decide +kernel
  have h3 : usedV chS (r3 0 0 (-1)) 0 3 = 0 := by decide +kernel
  have h4 : usedV chS (r3 0 0 (-1)) 0 4 = 0 := by decide +kernel
  unfold fiveF
  rw [h0, h1, h2, h3, h4]
theorem w_c : eqL (countsL chS pW 0) (r3 1 0 1) = true := by decide +kernel
theorem w_s : eqL (spreadL chS pW 0) (r2 1 0) = true := by decide +kernel
theorem w_p : placedV chS pW 0 = 2 := by decide +kernel
theorem w_d : domL chS zoneB chS.nodes.n = [ch1 120, ch1 121] := by decide +kernel
theorem w_ds : domsF chS zoneB = strsF [ch1 120, ch1 121] := by
  unfold domsF
  rw [if_pos chS_check, w_d]
theorem w_a : eqL ⟨3, setC pW.el (Int.toNat 0) (appTo 1 0)⟩ (r3 (-1) 2 (-1)) = true := by decide +kernel
theorem w_b : eqL ⟨3, setC pW.el (Int.toNat 2) (appTo 2 1)⟩ (r3 0 2 1) = true := by decide +kernel
theorem counts_n : (countsL chS pW 0).n ≤ 1048576 := by decide +kernel
theorem spread_n : (spreadL chS pW 0).n ≤ 1048576 := by decide +kernel
set_option maxRecDepth 100000 in
set_option maxHeartbeats 4000000 in
theorem placeWorks_pure : Pure Tryz.prog 49 [] (B true) := by
  refine Pure.of_runC (lit := true) (fun n => if n = 4 then [3] else if n = 5 then [3] else if n = 6 then [3] else []) Tryz.func49 rfl rfl rfl rfl (Nat.le_of_ble_eq_true rfl) (runC_of_runCL ?_)
  unfold St.enter
  simp -dsimp -implicitDefEqProofs [go_sem]
  refine callW_f (fs := []) chapter_pure ?_
  simp -dsimp -implicitDefEqProofs [go_sem, snapF, snapC]
  refine callW_f (fs := [snapF chS, I 2, S zoneB]) (domain_pure chS chS_ok 2 zoneB) ?_
  rw [w_dom]
  simp -dsimp -implicitDefEqProofs [go_sem]
  refine apply_C chS chS_ok pW (by decide) 1 0 0 (fun h => absurd w_e1 h) (fun _ m1 n1 q1 a1 b1 k1 row1 => ?_)
  have s1 : m1 2 = some (.blk [.f (nodesF chS.nodes), .f (podsF chS.pods), .f (ownersF chS.owners)]) := (k1 2 (by omega) (by simp)).trans (by simp -dsimp -implicitDefEqProofs [upd])
  simp -dsimp -implicitDefEqProofs [go_sem, s1]
  refine apply_C chS chS_ok pW (by decide) 2 2 1 (fun h => absurd w_e2 h) (fun _ m2 n2 q2 a2 b2 k2 row2 => ?_)
  have s2 := (k2 2 (by omega) (by simp)).trans s1
  have row1' := (k2 q1 (by omega) (by simp)).trans row1
  simp -dsimp -implicitDefEqProofs [go_sem, s2]
  refine apply_C chS chS_ok pW (by decide) 1 2 0 (fun _ m3 n3 a3 k3 => ?_) (fun h => absurd (w_e3.symm.trans h) (by decide))
  have s3 := (k3 2 (by omega) (by simp)).trans s2
  have row1'' := (k3 q1 (by omega) (by simp)).trans row1'
  have row2' := (k3 q2 (by omega) (by simp)).trans row2
  rw [w_e3]
  simp -dsimp -implicitDefEqProofs [go_sem, s3]
  refine callW_f (fs := [intsF pW, intsF (r3 0 1 1)]) (moves_pure _ _ (by decide) (by decide)) ?_
  rw [w_m]
  simp -dsimp -implicitDefEqProofs [go_sem, s3]
  refine callW_f (fs := [snapF chS, intsF (r3 0 0 (-1)), I 0]) (placeUsed_pure chS chS_ok _ (by decide) 0) ?_
  rw [w_u]
  simp -dsimp -implicitDefEqProofs [go_sem, s3]
  refine callW_f (fs := [snapF chS, intsF pW, I 0]) (counts_pure chS chS_ok _ (by decide) 0) ?_
  simp -dsimp -implicitDefEqProofs [go_sem, s3]
  refine callW_f (fs := [intsF (countsL chS pW 0), intsF (r3 1 0 1)]) (eqI_pure _ _ counts_n (by decide)) ?_
  rw [w_c]
  simp -dsimp -implicitDefEqProofs [go_sem, s3]
  refine callW_f (fs := [snapF chS, intsF pW, I 0]) (spread_pure chS chS_ok _ (by decide) 0) ?_
  simp -dsimp -implicitDefEqProofs [go_sem, s3]
  refine callW_f (fs := [intsF (spreadL chS pW 0), intsF (r2 1 0)]) (eqI_pure _ _ spread_n (by decide)) ?_
  rw [w_s]
  simp -dsimp -implicitDefEqProofs [go_sem, s3]
  refine callW_f (fs := [snapF chS, intsF pW, I 0]) (placed_pure chS chS_ok _ (by decide) 0) ?_
  rw [w_p]
  simp -dsimp -implicitDefEqProofs [go_sem, s3]
  refine callW_f (fs := [snapF chS, S zoneB]) (domains_pure chS chS_ok zoneB) ?_
  rw [w_ds]
  simp -dsimp -implicitDefEqProofs [go_sem, s3]
  refine callW_f (fs := [strsF [ch1 120, ch1 121], strsF [ch1 120, ch1 121]]) (eqTexts_pure _ (by decide)) ?_
  simp -dsimp -implicitDefEqProofs [go_sem, s3]
  refine callW_z (fs := [intsF ⟨3, setC pW.el (Int.toNat 0) (appTo 1 0)⟩, intsF (r3 (-1) 2 (-1))]) (by simp -dsimp -implicitDefEqProofs [omap, frz, row1'']; exact ⟨rfl, rfl⟩) (eqI_pure _ _ (by decide) (by decide)) rfl ?_
  rw [w_a]
  simp -dsimp -implicitDefEqProofs [go_sem, s3]
  refine callW_z (fs := [intsF ⟨3, setC pW.el (Int.toNat 2) (appTo 2 1)⟩, intsF (r3 0 2 1)]) (by simp -dsimp -implicitDefEqProofs [omap, frz, row2']; exact ⟨rfl, rfl⟩) (eqI_pure _ _ (by decide) (by decide)) rfl ?_
  rw [w_b]
  simp -dsimp -implicitDefEqProofs [go_sem, s3, movF, movR]
end Go.Proofs.YthpmgnbehahkfaaGreat
