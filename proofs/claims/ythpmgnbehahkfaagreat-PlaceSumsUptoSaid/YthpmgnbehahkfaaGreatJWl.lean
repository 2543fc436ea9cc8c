/- The chapter's cluster of the Place laws. -/
import Derived.Test.YthpmgnbehahkfaaGreatJQs
import Derived.Test.YthpmgnbehahkfaaGreatJPb
set_option linter.unusedSimpArgs false
set_option linter.unusedVariables false
namespace Go.Proofs.YthpmgnbehahkfaaGreat
open Go.RowKit Go.Dk Go.Dn

def zoneB : ByteArray := ⟨#[122, 111, 110, 101]⟩
def pqrB : ByteArray := ⟨#[112, 113, 114]⟩
def chLab (k : Nat) : Lst LabD := ⟨1, fun _ => ⟨zoneB, ch1 (UInt8.ofNat (120 + k))⟩⟩
def chN (k : Nat) : NodeD := ⟨ch1 (UInt8.ofNat (97 + k)), fun _ => 0, if k < 2 then chLab k else noL, noL, false, false⟩
def chP (k : Nat) : PodD := ⟨ch1 (UInt8.ofNat (112 + k)), ch1 111, fun i => if i = 0 then 10 else 0, noL, noT, noL, z0, noT, z0, noT, z0⟩
def chS : SnapD := ⟨⟨3, chN⟩, ⟨3, chP⟩, ⟨1, fun _ => ⟨ch1 111, 0, zoneB, 1, false⟩⟩⟩
def chNC (c z : UInt8) : List FD := [S (ch1 c), I 0, I 0, I 0, I 0, I 0, .sl 2 [[S zoneB, S (ch1 z)]], nilV, B false, B false]
def chPC (c : UInt8) : List FD := [S (ch1 c), S (ch1 111), I 10, I 0, I 0, I 0, I 0, nilV, nilV, nilV, S z0, nilV, S z0, nilV, S z0]
def chOC : List FD := [S (ch1 111), I 0, S zoneB, I 1, B false]
def chF : FD := .agg [.sl 10 [chNC 97 120, chNC 98 121, fallNC 99], .sl 15 [chPC 112, chPC 113, chPC 114], .sl 5 [chOC]]
theorem ch_le : FLe chF (snapF chS) := by
  refine FLe.agg (FLeL.cons (FLe.sl (FLeLL.cons ?_ (FLeLL.cons ?_ (FLeLL.cons ?_ (FLeLL.refl _))))) (FLeL.cons (FLe.sl (FLeLL.cons ?_ (FLeLL.cons ?_ (FLeLL.cons ?_ (FLeLL.refl _))))) (FLeL.refl _)))
  all_goals (repeat' (first | exact FLeL.refl [] | refine FLeL.cons ?_ ?_))
  all_goals first | exact FLe.refl _ | exact FLe.nil _
theorem zone_ok : Sm zoneB := by unfold Sm zoneB; show 4 ≤ 1048576; decide
theorem chS_ok : SnapOk chS :=
  ⟨by decide, fun k _ => ⟨ch1_ok _, by show LabsOk (if k < 2 then chLab k else noL); split; exact ⟨by show 1 ≤ 1048576; decide, fun _ _ => ⟨zone_ok, ch1_ok _⟩⟩; exact noL_ok, noL_ok⟩, by decide, fun k _ => ⟨⟨ch1_ok _, ch1_ok _, z0_ok, z0_ok, z0_ok⟩, noL_ok, noT_ok, noL_ok, noT_ok, noT_ok⟩, by decide, fun k _ => ⟨ch1_ok _, zone_ok⟩⟩
theorem chS_check : checkE chS = 0 := by decide +kernel
theorem ex0 : pqrB.extract 0 1 = ch1 112 := by decide +kernel
theorem ex1 : pqrB.extract 1 2 = ch1 113 := by decide +kernel
theorem ex2 : pqrB.extract 2 3 = ch1 114 := by decide +kernel
theorem pqr_eq : (⟨#[112, 113, 114]⟩ : ByteArray) = pqrB := rfl
theorem pqr_size : pqrB.size = 3 := rfl
set_option maxRecDepth 100000 in
theorem chapter_pure : Pure Tryz.prog 62 [] (snapF chS) := by
  refine Pure.of_runH (lit := true) (fun _ => []) Tryz.func62 rfl rfl rfl rfl (Nat.le_of_ble_eq_true rfl) (runH_of_runHL (runHL_end ?_))
  unfold St.enter
  simp -dsimp -implicitDefEqProofs [go_sem]
  refine runCL_unroll 4 (iterC_step ?_)
  simp -dsimp -implicitDefEqProofs [go_sem, Tv, Cw, silentAt, silentOp, wr1', wr2', wr3', pqr_eq, pqr_size, ex0, ex1, ex2]
  refine runCL_draw [[], [0], [], [], [3], [2, 4, 3], [], [5, 2, 4, 3, 6], [7, 5, 2, 4, 3, 6], [1, 0, 8, 7, 5, 2, 4, 3, 6], [0, 1, 2, 3, 4, 5, 6, 7, 8, 9], [10, 0, 1, 2, 3, 4, 5, 6, 7, 8, 9]] rfl (by kernel_rfl) (by kernel_rfl) ?_
  simp -dsimp -implicitDefEqProofs [go_sem, Tv, Cw, silentAt, silentOp, wr1', wr2', wr3', pqr_eq, pqr_size, ex0, ex1, ex2]
  refine exWL_mk (andL_mk ⟨by kernel_rfl, by kernel_rfl⟩ ?_)
  simp -dsimp -implicitDefEqProofs [go_sem, Tv, Cw, silentAt, silentOp, wr1', wr2', wr3', pqr_eq, pqr_size, ex0, ex1, ex2]
  refine exWL_mk (andL_mk ⟨by kernel_rfl, by kernel_rfl⟩ ?_)
  simp -dsimp -implicitDefEqProofs [go_sem, Tv, Cw, silentAt, silentOp, wr1', wr2', wr3', pqr_eq, pqr_size, ex0, ex1, ex2]
  refine iterC_step ?_
  simp -dsimp -implicitDefEqProofs [go_sem, Tv, Cw, silentAt, silentOp, wr1', wr2', wr3', pqr_eq, pqr_size, ex0, ex1, ex2]
  refine runCL_draw [[], [0], [], [], [3], [2, 4, 3], [], [5, 2, 4, 3, 6], [7, 5, 2, 4, 3, 6], [1, 0, 8, 7, 5, 2, 4, 3, 6], [0, 1, 2, 3, 4, 5, 6, 7, 8, 9], [10, 0, 1, 2, 3, 4, 5, 6, 7, 8, 9]] rfl (by kernel_rfl) (by kernel_rfl) ?_
  simp -dsimp -implicitDefEqProofs [go_sem, Tv, Cw, silentAt, silentOp, wr1', wr2', wr3', pqr_eq, pqr_size, ex0, ex1, ex2]
  refine exWL_mk (andL_mk ⟨by kernel_rfl, by kernel_rfl⟩ ?_)
  simp -dsimp -implicitDefEqProofs [go_sem, Tv, Cw, silentAt, silentOp, wr1', wr2', wr3', pqr_eq, pqr_size, ex0, ex1, ex2]
  refine exWL_mk (andL_mk ⟨by kernel_rfl, by kernel_rfl⟩ ?_)
  simp -dsimp -implicitDefEqProofs [go_sem, Tv, Cw, silentAt, silentOp, wr1', wr2', wr3', pqr_eq, pqr_size, ex0, ex1, ex2]
  refine iterC_step ?_
  simp -dsimp -implicitDefEqProofs [go_sem, Tv, Cw, silentAt, silentOp, wr1', wr2', wr3', pqr_eq, pqr_size, ex0, ex1, ex2]
  refine runCL_draw [[], [0], [], [], [3], [2, 4, 3], [], [5, 2, 4, 3, 6], [7, 5, 2, 4, 3, 6], [1, 0, 8, 7, 5, 2, 4, 3, 6], [0, 1, 2, 3, 4, 5, 6, 7, 8, 9], [10, 0, 1, 2, 3, 4, 5, 6, 7, 8, 9]] rfl (by kernel_rfl) (by kernel_rfl) ?_
  simp -dsimp -implicitDefEqProofs [go_sem, Tv, Cw, silentAt, silentOp, wr1', wr2', wr3', pqr_eq, pqr_size, ex0, ex1, ex2]
  refine exWL_mk (andL_mk ⟨by kernel_rfl, by kernel_rfl⟩ ?_)
  simp -dsimp -implicitDefEqProofs [go_sem, Tv, Cw, silentAt, silentOp, wr1', wr2', wr3', pqr_eq, pqr_size, ex0, ex1, ex2]
  refine exWL_mk (andL_mk ⟨by kernel_rfl, by kernel_rfl⟩ ?_)
  simp -dsimp -implicitDefEqProofs [go_sem, Tv, Cw, silentAt, silentOp, wr1', wr2', wr3', pqr_eq, pqr_size, ex0, ex1, ex2]
  refine iterC_step ?_
  simp -dsimp -implicitDefEqProofs [go_sem, Tv, Cw, silentAt, silentOp, wr1', wr2', wr3', pqr_eq, pqr_size, ex0, ex1, ex2]
  exact ch_le
end Go.Proofs.YthpmgnbehahkfaaGreat
