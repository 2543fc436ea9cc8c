/- The chapter's cluster of the Place laws. -/
/- The chapter's examples of the Place laws. -/
/- The chapter's cluster, as rows of one's own. -/
import Derived.Test.YthpmgnbehahkfaaGreatJQs
import Derived.Test.YthpmgnbehahkfaaGreatJPb
import Derived.Test.YthpmgnbehahkfaaGreatJQt
set_option linter.unusedSimpArgs false
set_option linter.unusedVariables false
section
namespace Go.Proofs.YthpmgnbehahkfaaGreat
open Go.RowKit Go.Dk Go.Dn

def zoneB : ByteArray := ⟨#[122, 111, 110, 101]⟩
def pqrB : ByteArray := ⟨#[112, 113, 114]⟩
def chLab (k : Nat) : Lst LabD := ⟨1, fun _ => ⟨zoneB, ch1 (UInt8.ofNat (120 + k))⟩⟩
def chN (k : Nat) : NodeD := ⟨ch1 (UInt8.ofNat (97 + k)), fun _ => 0, if k < 2 then chLab k else noL, noL, false, false⟩
def chP (k : Nat) : PodD := ⟨ch1 (UInt8.ofNat (112 + k)), ch1 111, fun i => if i = 0 then 10 else 0, noL, noT, noL, z0, noT, z0, noT, z0⟩
def chS : SnapD := ⟨⟨3, chN⟩, ⟨3, chP⟩, ⟨1, fun _ => ⟨ch1 111, 0, zoneB, 1, false⟩⟩⟩
def chNC (c z : UInt8) : List FD := [S (ch1 c), I 0, I 0, I 0, I 0, I 0, .sl 2 [[S zoneB, S (ch1 z)]], nilV, B false, B false]
def chPC (c : UInt8) : List FD := [S (ch1 c), S (ch1 111), I 10, I 0, I 0, I 0, I 0, nilV, nilV, nilV, S z0, nilV, S z0, nilV, S z0]
def chOC : List FD := [S (ch1 111), I 0, S zoneB, I 1, B false]
def chF : FD := .agg [.sl 10 [chNC 97 120, chNC 98 121, fallNC 99], .sl 15 [chPC 112, chPC 113, chPC 114], .sl 5 [chOC]]
theorem ch_le : FLe chF (snapF chS) := by
  refine FLe.agg (FLeL.cons (FLe.sl (FLeLL.cons ?_ (FLeLL.cons ?_ (FLeLL.cons ?_ (FLeLL.refl _))))) (FLeL.cons (FLe.sl (FLeLL.cons ?_ (FLeLL.cons ?_ (FLeLL.cons ?_ (FLeLL.refl _))))) (FLeL.refl _)))
  all_goals (repeat' (first | exact FLeL.refl [] | refine FLeL.cons ?_ ?_))
  all_goals first | exact FLe.refl _ | exact FLe.nil _
theorem zone_ok : Sm zoneB := by unfold Sm zoneB; show 4 ≤ 1048576; decide
theorem chS_ok : SnapOk chS :=
  ⟨by decide, fun k _ => ⟨ch1_ok _, by show LabsOk (if k < 2 then chLab k else noL); split; exact ⟨by show 1 ≤ 1048576; decide, fun _ _ => ⟨zone_ok, ch1_ok _⟩⟩; exact noL_ok, noL_ok⟩, by decide, fun k _ => ⟨⟨ch1_ok _, ch1_ok _, z0_ok, z0_ok, z0_ok⟩, noL_ok, noT_ok, noL_ok, noT_ok, noT_ok⟩, by decide, fun k _ => ⟨ch1_ok _, zone_ok⟩⟩
theorem chS_check : checkE chS = 0 := by decide +kernel
theorem ex0 : pqrB.extract 0 1 = ch1 112 := by decide +kernel
theorem ex1 : pqrB.extract 1 2 = ch1 113 := by decide +kernel
theorem ex2 : pqrB.extract 2 3 = ch1 114 := by decide +kernel
theorem pqr_eq : (⟨#[112, 113, 114]⟩ : ByteArray) = pqrB := rfl
theorem pqr_size : pqrB.size = 3 := rfl
set_option maxRecDepth 100000 in
theorem chapter_pure : Pure Tryz.prog 62 [] (snapF chS) := by
  refine Pure.of_runH (lit := true) (fun _ => []) Tryz.func62 rfl rfl rfl rfl (Nat.le_of_ble_eq_true rfl) (runH_of_runHL (runHL_end ?_))
  unfold St.enter
  simp -dsimp -implicitDefEqProofs [go_sem]
  refine runCL_unroll 4 (iterC_step ?_)
  simp -dsimp -implicitDefEqProofs [go_sem, Tv, Cw, silentAt, silentOp, wr1', wr2', wr3', pqr_eq, pqr_size, ex0, ex1, ex2]
  refine runCL_draw [[], [0], [], [], [3], [2, 4, 3], [], [5, 2, 4, 3, 6], [7, 5, 2, 4, 3, 6], [1, 0, 8, 7, 5, 2, 4, 3, 6], [0, 1, 2, 3, 4, 5, 6, 7, 8, 9], [10, 0, 1, 2, 3, 4, 5, 6, 7, 8, 9]] rfl (by kernel_rfl) (by kernel_rfl) ?_
  simp -dsimp -implicitDefEqProofs [go_sem, Tv, Cw, silentAt, silentOp, wr1', wr2', wr3', pqr_eq, pqr_size, ex0, ex1, ex2]
  refine exWL_mk (andL_mk ⟨by kernel_rfl, by kernel_rfl⟩ ?_)
  simp -dsimp -implicitDefEqProofs [go_sem, Tv, Cw, silentAt, silentOp, wr1', wr2', wr3', pqr_eq, pqr_size, ex0, ex1, ex2]
  refine exWL_mk (andL_mk ⟨by kernel_rfl, by kernel_rfl⟩ ?_)
  simp -dsimp -implicitDefEqProofs [go_sem, Tv, Cw, silentAt, silentOp, wr1', wr2', wr3', pqr_eq, pqr_size, ex0, ex1, ex2]
  refine iterC_step ?_
  simp -dsimp -implicitDefEqProofs [go_sem, Tv, Cw, silentAt, silentOp, wr1', wr2', wr3', pqr_eq, pqr_size, ex0, ex1, ex2]
  refine runCL_draw [[], [0], [], [], [3], [2, 4, 3], [], [5, 2, 4, 3, 6], [7, 5, 2, 4, 3, 6], [1, 0, 8, 7, 5, 2, 4, 3, 6], [0, 1, 2, 3, 4, 5, 6, 7, 8, 9], [10, 0, 1, 2, 3, 4, 5, 6, 7, 8, 9]] rfl (by kernel_rfl) (by kernel_rfl) ?_
  simp -dsimp -implicitDefEqProofs [go_sem, Tv, Cw, silentAt, silentOp, wr1', wr2', wr3', pqr_eq, pqr_size, ex0, ex1, ex2]
  refine exWL_mk (andL_mk ⟨by kernel_rfl, by kernel_rfl⟩ ?_)
  simp -dsimp -implicitDefEqProofs [go_sem, Tv, Cw, silentAt, silentOp, wr1', wr2', wr3', pqr_eq, pqr_size, ex0, ex1, ex2]
  refine exWL_mk (andL_mk ⟨by kernel_rfl, by kernel_rfl⟩ ?_)
  simp -dsimp -implicitDefEqProofs [go_sem, Tv, Cw, silentAt, silentOp, wr1', wr2', wr3', pqr_eq, pqr_size, ex0, ex1, ex2]
  refine iterC_step ?_
  simp -dsimp -implicitDefEqProofs [go_sem, Tv, Cw, silentAt, silentOp, wr1', wr2', wr3', pqr_eq, pqr_size, ex0, ex1, ex2]
  refine runCL_draw [[], [0], [], [], [3], [2, 4, 3], [], [5, 2, 4, 3, 6], [7, 5, 2, 4, 3, 6], [1, 0, 8, 7, 5, 2, 4, 3, 6], [0, 1, 2, 3, 4, 5, 6, 7, 8, 9], [10, 0, 1, 2, 3, 4, 5, 6, 7, 8, 9]] rfl (by kernel_rfl) (by kernel_rfl) ?_
  simp -dsimp -implicitDefEqProofs [go_sem, Tv, Cw, silentAt, silentOp, wr1', wr2', wr3', pqr_eq, pqr_size, ex0, ex1, ex2]
  refine exWL_mk (andL_mk ⟨by kernel_rfl, by kernel_rfl⟩ ?_)
  simp -dsimp -implicitDefEqProofs [go_sem, Tv, Cw, silentAt, silentOp, wr1', wr2', wr3', pqr_eq, pqr_size, ex0, ex1, ex2]
  refine exWL_mk (andL_mk ⟨by kernel_rfl, by kernel_rfl⟩ ?_)
  simp -dsimp -implicitDefEqProofs [go_sem, Tv, Cw, silentAt, silentOp, wr1', wr2', wr3', pqr_eq, pqr_size, ex0, ex1, ex2]
  refine iterC_step ?_
  simp -dsimp -implicitDefEqProofs [go_sem, Tv, Cw, silentAt, silentOp, wr1', wr2', wr3', pqr_eq, pqr_size, ex0, ex1, ex2]
  exact ch_le
end Go.Proofs.YthpmgnbehahkfaaGreat
end
section
namespace Go.Proofs.YthpmgnbehahkfaaGreat
open Go.RowKit Go.Dk Go.Dn

def r3 (a b c : Int) : Lst Int := ⟨3, fun k => if k = 0 then a else if k = 1 then b else c⟩
def r2 (a b : Int) : Lst Int := ⟨2, fun k => if k = 0 then a else b⟩
theorem r3_eq (a b c : Int) : intsF (r3 a b c) = .sl 1 [[I a], [I b], [I c]] := rfl
theorem r2_eq (a b : Int) : intsF (r2 a b) = .sl 1 [[I a], [I b]] := rfl
def pW : Lst Int := r3 0 2 (-1)
theorem w_dom : domF chS 2 zoneB = .tup [S ByteArray.empty, B false] := by
  have h : valB (chS.nodes.el 2) zoneB = false := by decide +kernel
  unfold domF
  rw [if_pos (by decide +kernel)]
  show valF (chS.nodes.el 2) zoneB = _
  unfold valF valS
  rw [h]
  rfl
theorem w_e1 : appE chS pW 1 0 0 = 0 := by decide +kernel
theorem w_e2 : appE chS pW 2 2 1 = 0 := by decide +kernel
theorem w_e3 : appE chS pW 1 2 0 = 110 := by decide +kernel
theorem w_m : movesL pW (r3 0 1 1) = [(1, 1), (2, 1)] := by decide +kernel
theorem w_u : fiveF (usedV chS (r3 0 0 (-1)) 0) = .agg [I 20, I 0, I 0, I 0, I 0] := by
  have h0 : usedV chS (r3 0 0 (-1)) 0 0 = 20 := by decide +kernel
  have h1 : usedV chS (r3 0 0 (-1)) 0 1 = 0 := by decide +kernel
  have h2 : usedV chS (r3 0 0 (-1)) 0 2 = 0 := by decide +kernel
  have h3 : usedV chS (r3 0 0 (-1)) 0 3 = 0 := by decide +kernel
  have h4 : usedV chS (r3 0 0 (-1)) 0 4 = 0 := by decide +kernel
  unfold fiveF
  rw [h0, h1, h2, h3, h4]
theorem w_c : eqL (countsL chS pW 0) (r3 1 0 1) = true := by decide +kernel
theorem w_s : eqL (spreadL chS pW 0) (r2 1 0) = true := by decide +kernel
theorem w_p : placedV chS pW 0 = 2 := by decide +kernel
theorem w_d : domL chS zoneB chS.nodes.n = [ch1 120, ch1 121] := by decide +kernel
theorem w_ds : domsF chS zoneB = strsF [ch1 120, ch1 121] := by
  unfold domsF
  rw [if_pos chS_check, w_d]
theorem w_a : eqL ⟨3, setC pW.el (Int.toNat 0) (appTo 1 0)⟩ (r3 (-1) 2 (-1)) = true := by decide +kernel
theorem w_b : eqL ⟨3, setC pW.el (Int.toNat 2) (appTo 2 1)⟩ (r3 0 2 1) = true := by decide +kernel
theorem counts_n : (countsL chS pW 0).n ≤ 1048576 := by decide +kernel
theorem spread_n : (spreadL chS pW 0).n ≤ 1048576 := by decide +kernel
set_option maxRecDepth 100000 in
set_option maxHeartbeats 4000000 in
theorem placeWorks_pure : Pure Tryz.prog 49 [] (B true) := by
  refine Pure.of_runC (lit := true) (fun n => if n = 4 then [3] else if n = 5 then [3] else if n = 6 then [3] else []) Tryz.func49 rfl rfl rfl rfl (Nat.le_of_ble_eq_true rfl) (runC_of_runCL ?_)
  unfold St.enter
  simp -dsimp -implicitDefEqProofs [go_sem]
  refine callW_f (fs := []) chapter_pure ?_
  simp -dsimp -implicitDefEqProofs [go_sem, snapF, snapC]
  refine callW_f (fs := [snapF chS, I 2, S zoneB]) (domain_pure chS chS_ok 2 zoneB) ?_
  rw [w_dom]
  simp -dsimp -implicitDefEqProofs [go_sem]
  refine apply_C chS chS_ok pW (by decide) 1 0 0 (fun h => absurd w_e1 h) (fun _ m1 n1 q1 a1 b1 k1 row1 => ?_)
  have s1 : m1 2 = some (.blk [.f (nodesF chS.nodes), .f (podsF chS.pods), .f (ownersF chS.owners)]) := (k1 2 (by omega) (by simp)).trans (by simp -dsimp -implicitDefEqProofs [upd])
  simp -dsimp -implicitDefEqProofs [go_sem, s1]
  refine apply_C chS chS_ok pW (by decide) 2 2 1 (fun h => absurd w_e2 h) (fun _ m2 n2 q2 a2 b2 k2 row2 => ?_)
  have s2 := (k2 2 (by omega) (by simp)).trans s1
  have row1' := (k2 q1 (by omega) (by simp)).trans row1
  simp -dsimp -implicitDefEqProofs [go_sem, s2]
  refine apply_C chS chS_ok pW (by decide) 1 2 0 (fun _ m3 n3 a3 k3 => ?_) (fun h => absurd (w_e3.symm.trans h) (by decide))
  have s3 := (k3 2 (by omega) (by simp)).trans s2
  have row1'' := (k3 q1 (by omega) (by simp)).trans row1'
  have row2' := (k3 q2 (by omega) (by simp)).trans row2
  rw [w_e3]
  simp -dsimp -implicitDefEqProofs [go_sem, s3]
  refine callW_f (fs := [intsF pW, intsF (r3 0 1 1)]) (moves_pure _ _ (by decide) (by decide)) ?_
  rw [w_m]
  simp -dsimp -implicitDefEqProofs [go_sem, s3]
  refine callW_f (fs := [snapF chS, intsF (r3 0 0 (-1)), I 0]) (placeUsed_pure chS chS_ok _ (by decide) 0) ?_
  rw [w_u]
  simp -dsimp -implicitDefEqProofs [go_sem, s3]
  refine callW_f (fs := [snapF chS, intsF pW, I 0]) (counts_pure chS chS_ok _ (by decide) 0) ?_
  simp -dsimp -implicitDefEqProofs [go_sem, s3]
  refine callW_f (fs := [intsF (countsL chS pW 0), intsF (r3 1 0 1)]) (eqI_pure _ _ counts_n (by decide)) ?_
  rw [w_c]
  simp -dsimp -implicitDefEqProofs [go_sem, s3]
  refine callW_f (fs := [snapF chS, intsF pW, I 0]) (spread_pure chS chS_ok _ (by decide) 0) ?_
  simp -dsimp -implicitDefEqProofs [go_sem, s3]
  refine callW_f (fs := [intsF (spreadL chS pW 0), intsF (r2 1 0)]) (eqI_pure _ _ spread_n (by decide)) ?_
  rw [w_s]
  simp -dsimp -implicitDefEqProofs [go_sem, s3]
  refine callW_f (fs := [snapF chS, intsF pW, I 0]) (placed_pure chS chS_ok _ (by decide) 0) ?_
  rw [w_p]
  simp -dsimp -implicitDefEqProofs [go_sem, s3]
  refine callW_f (fs := [snapF chS, S zoneB]) (domains_pure chS chS_ok zoneB) ?_
  rw [w_ds]
  simp -dsimp -implicitDefEqProofs [go_sem, s3]
  refine callW_f (fs := [strsF [ch1 120, ch1 121], strsF [ch1 120, ch1 121]]) (eqTexts_pure _ (by decide)) ?_
  simp -dsimp -implicitDefEqProofs [go_sem, s3]
  refine callW_z (fs := [intsF ⟨3, setC pW.el (Int.toNat 0) (appTo 1 0)⟩, intsF (r3 (-1) 2 (-1))]) (by simp -dsimp -implicitDefEqProofs [omap, frz, row1'']; exact ⟨rfl, rfl⟩) (eqI_pure _ _ (by decide) (by decide)) rfl ?_
  rw [w_a]
  simp -dsimp -implicitDefEqProofs [go_sem, s3]
  refine callW_z (fs := [intsF ⟨3, setC pW.el (Int.toNat 2) (appTo 2 1)⟩, intsF (r3 0 2 1)]) (by simp -dsimp -implicitDefEqProofs [omap, frz, row2']; exact ⟨rfl, rfl⟩) (eqI_pure _ _ (by decide) (by decide)) rfl ?_
  rw [w_b]
  simp -dsimp -implicitDefEqProofs [go_sem, s3, movF, movR]
end Go.Proofs.YthpmgnbehahkfaaGreat
end
section
namespace Go.Proofs.YthpmgnbehahkfaaGreat
open Go.RowKit Go.Dk Go.Dn

def chRows : List (TypeId × Nat × List (List FD)) := [(75, 10, [chNC 97 120, chNC 98 121, fallNC 99]), (81, 15, [chPC 112, chPC 113, chPC 114]), (100, 5, [chOC])]
set_option maxRecDepth 100000 in
set_option maxHeartbeats 4000000 in
theorem chapter_rows : RowsCall Tryz.prog 62 [] chRows := by
  refine RowsCall.of_callS ?_ ?_
  · intro r hr
    simp only [chRows, List.mem_cons, List.not_mem_nil, or_false] at hr
    rcases hr with rfl | rfl | rfl
    · exact ⟨by decide, fun ds h => by simp only [List.mem_cons, List.not_mem_nil, or_false] at h; rcases h with rfl | rfl | rfl <;> rfl⟩
    · exact ⟨by decide, fun ds h => by simp only [List.mem_cons, List.not_mem_nil, or_false] at h; rcases h with rfl | rfl | rfl <;> rfl⟩
    · exact ⟨by decide, fun ds h => by simp only [List.mem_cons, List.not_mem_nil, or_false] at h; rcases h with rfl; rfl⟩
  refine callS.of_switchL (B := fun _ => []) 7 Tryz.func62 rfl rfl rfl rfl rfl rfl rfl (Nat.le_of_ble_eq_true rfl) ?_
  simp -dsimp -implicitDefEqProofs [go_sem]
  refine runCL_unroll 4 (iterC_step ?_)
  simp -dsimp -implicitDefEqProofs [go_sem, Tv, Cw, silentAt, silentOp, wr1', wr2', wr3', pqr_eq, pqr_size, ex0, ex1, ex2]
  refine runCL_draw [[], [0], [], [], [3], [2, 4, 3], [], [5, 2, 4, 3, 6], [7, 5, 2, 4, 3, 6], [1, 0, 8, 7, 5, 2, 4, 3, 6], [0, 1, 2, 3, 4, 5, 6, 7, 8, 9], [10, 0, 1, 2, 3, 4, 5, 6, 7, 8, 9]] rfl (by kernel_rfl) (by kernel_rfl) ?_
  simp -dsimp -implicitDefEqProofs [go_sem, Tv, Cw, silentAt, silentOp, wr1', wr2', wr3', pqr_eq, pqr_size, ex0, ex1, ex2]
  refine exWL_mk (andL_mk ⟨by kernel_rfl, by kernel_rfl⟩ ?_)
  simp -dsimp -implicitDefEqProofs [go_sem, Tv, Cw, silentAt, silentOp, wr1', wr2', wr3', pqr_eq, pqr_size, ex0, ex1, ex2]
  refine exWL_mk (andL_mk ⟨by kernel_rfl, by kernel_rfl⟩ ?_)
  simp -dsimp -implicitDefEqProofs [go_sem, Tv, Cw, silentAt, silentOp, wr1', wr2', wr3', pqr_eq, pqr_size, ex0, ex1, ex2]
  refine exWL_mk (andL_mk ⟨by kernel_rfl, by kernel_rfl⟩ ?_)
  simp -dsimp -implicitDefEqProofs [go_sem, Tv, Cw, silentAt, silentOp, wr1', wr2', wr3', pqr_eq, pqr_size, ex0, ex1, ex2]
  refine iterC_step ?_
  simp -dsimp -implicitDefEqProofs [go_sem, Tv, Cw, silentAt, silentOp, wr1', wr2', wr3', pqr_eq, pqr_size, ex0, ex1, ex2]
  refine runCL_draw [[], [0], [], [], [3], [2, 4, 3], [], [5, 2, 4, 3, 6], [7, 5, 2, 4, 3, 6], [1, 0, 8, 7, 5, 2, 4, 3, 6], [0, 1, 2, 3, 4, 5, 6, 7, 8, 9], [10, 0, 1, 2, 3, 4, 5, 6, 7, 8, 9]] rfl (by kernel_rfl) (by kernel_rfl) ?_
  simp -dsimp -implicitDefEqProofs [go_sem, Tv, Cw, silentAt, silentOp, wr1', wr2', wr3', pqr_eq, pqr_size, ex0, ex1, ex2]
  refine exWL_mk (andL_mk ⟨by kernel_rfl, by kernel_rfl⟩ ?_)
  simp -dsimp -implicitDefEqProofs [go_sem, Tv, Cw, silentAt, silentOp, wr1', wr2', wr3', pqr_eq, pqr_size, ex0, ex1, ex2]
  refine exWL_mk (andL_mk ⟨by kernel_rfl, by kernel_rfl⟩ ?_)
  simp -dsimp -implicitDefEqProofs [go_sem, Tv, Cw, silentAt, silentOp, wr1', wr2', wr3', pqr_eq, pqr_size, ex0, ex1, ex2]
  refine exWL_mk (andL_mk ⟨by kernel_rfl, by kernel_rfl⟩ ?_)
  simp -dsimp -implicitDefEqProofs [go_sem, Tv, Cw, silentAt, silentOp, wr1', wr2', wr3', pqr_eq, pqr_size, ex0, ex1, ex2]
  refine iterC_step ?_
  simp -dsimp -implicitDefEqProofs [go_sem, Tv, Cw, silentAt, silentOp, wr1', wr2', wr3', pqr_eq, pqr_size, ex0, ex1, ex2]
  refine runCL_draw [[], [0], [], [], [3], [2, 4, 3], [], [5, 2, 4, 3, 6], [7, 5, 2, 4, 3, 6], [1, 0, 8, 7, 5, 2, 4, 3, 6], [0, 1, 2, 3, 4, 5, 6, 7, 8, 9], [10, 0, 1, 2, 3, 4, 5, 6, 7, 8, 9]] rfl (by kernel_rfl) (by kernel_rfl) ?_
  simp -dsimp -implicitDefEqProofs [go_sem, Tv, Cw, silentAt, silentOp, wr1', wr2', wr3', pqr_eq, pqr_size, ex0, ex1, ex2]
  refine exWL_mk (andL_mk ⟨by kernel_rfl, by kernel_rfl⟩ ?_)
  simp -dsimp -implicitDefEqProofs [go_sem, Tv, Cw, silentAt, silentOp, wr1', wr2', wr3', pqr_eq, pqr_size, ex0, ex1, ex2]
  refine exWL_mk (andL_mk ⟨by kernel_rfl, by kernel_rfl⟩ ?_)
  simp -dsimp -implicitDefEqProofs [go_sem, Tv, Cw, silentAt, silentOp, wr1', wr2', wr3', pqr_eq, pqr_size, ex0, ex1, ex2]
  refine exWL_mk (andL_mk ⟨by kernel_rfl, by kernel_rfl⟩ ?_)
  simp -dsimp -implicitDefEqProofs [go_sem, Tv, Cw, silentAt, silentOp, wr1', wr2', wr3', pqr_eq, pqr_size, ex0, ex1, ex2]
  refine iterC_step ?_
  simp -dsimp -implicitDefEqProofs [go_sem, Tv, Cw, silentAt, silentOp, wr1', wr2', wr3', pqr_eq, pqr_size, ex0, ex1, ex2]
  refine ⟨[(8, 0), (26, 2), (10, 0)], rfl, rfl, by simp, ?_⟩
  intro j a b a1 a2 b1 h1 h2
  match j, h1, h2 with
  | 0, h1, h2 => cases h1; cases h2; rfl
  | 1, h1, h2 => cases h1; cases h2; rfl
  | 2, h1, h2 => cases h1; cases h2; rfl
end Go.Proofs.YthpmgnbehahkfaaGreat
end
