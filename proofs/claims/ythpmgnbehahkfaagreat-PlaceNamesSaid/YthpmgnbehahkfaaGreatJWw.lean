/- PlaceNames over data. -/
import Derived.Test.YthpmgnbehahkfaaGreatJQv
import Derived.Test.YthpmgnbehahkfaaGreatJWp
set_option linter.unusedSimpArgs false
set_option linter.unusedVariables false
namespace Go.Proofs.YthpmgnbehahkfaaGreat
open Go.RowKit Go.Dk Go.Dn

/-- a step that can't be done answers no placement -/
theorem applyBad_pure (s : SnapD) (ok : SnapOk s) (l : Lst Int) (hl : l.n ≤ 1048576) (kd pd nd e : Int) (he : appE s l kd pd nd = e) (h : e ≠ 0) : Pure Tryz.prog 50 [snapF s, intsF l, .agg [I kd, I pd, I nd]] (.tup [.v (.slice none 0 0), I e]) := by
  subst he
  exact Pure.of_callS (apply_C s ok l hl kd pd nd (fun _ m' n' _ _ => rfl) (fun h0 => absurd h0 h))
/-- the chapter's cluster, one node's name and whether it is lost told -/
def gN (c : UInt8) (b : Bool) (k : Nat) : NodeD := ⟨if k = 1 then ch1 c else ch1 (UInt8.ofNat (97 + k)), fun _ => 0, if k < 2 then chLab k else noL, noL, false, if k = 1 then b else false⟩
def gS (c : UInt8) (b : Bool) : SnapD := ⟨⟨3, gN c b⟩, ⟨3, chP⟩, ⟨1, fun _ => ⟨ch1 111, 0, zoneB, 1, false⟩⟩⟩
def chPR : List (List FD) := [chPC 112, chPC 113, chPC 114]
def chOR : List (List FD) := [chOC]
def gNC (c : UInt8) (b : Bool) : List FD := [S (ch1 c), I 0, I 0, I 0, I 0, I 0, .sl 2 [[S zoneB, S (ch1 121)]], nilV, B false, B b]
def gR (c : UInt8) (b : Bool) : List (List FD) := [chNC 97 120, gNC c b, fallNC 99]
def gF (c : UInt8) (b : Bool) : FD := .agg [.sl 10 (gR c b), .sl 15 chPR, .sl 5 chOR]
theorem g_le (c : UInt8) (b : Bool) : FLe (gF c b) (snapF (gS c b)) := by
  refine FLe.agg (FLeL.cons (FLe.sl (FLeLL.cons ?_ (FLeLL.cons ?_ (FLeLL.cons ?_ (FLeLL.refl _))))) (FLeL.cons (FLe.sl (FLeLL.cons ?_ (FLeLL.cons ?_ (FLeLL.cons ?_ (FLeLL.refl _))))) (FLeL.refl _)))
  all_goals (repeat' (first | exact FLeL.refl [] | refine FLeL.cons ?_ ?_))
  all_goals first | exact FLe.refl _ | exact FLe.nil _
theorem gS_ok (c : UInt8) (b : Bool) : SnapOk (gS c b) :=
  ⟨by show 3 ≤ 1048576; decide, fun k _ => ⟨by show Sm (if k = 1 then ch1 c else ch1 _); split <;> exact ch1_ok _, by show LabsOk (if k < 2 then chLab k else noL); split; exact ⟨by show 1 ≤ 1048576; decide, fun _ _ => ⟨zone_ok, ch1_ok _⟩⟩; exact noL_ok, noL_ok⟩, by show 3 ≤ 1048576; decide, fun k _ => ⟨⟨ch1_ok _, ch1_ok _, z0_ok, z0_ok, z0_ok⟩, noL_ok, noT_ok, noL_ok, noT_ok, noT_ok⟩, by show 1 ≤ 1048576; decide, fun k _ => ⟨ch1_ok _, zone_ok⟩⟩
/-- placements that may not be -/
def ybL : Nat → Lst Int
  | 0 => ⟨0, fun _ => 0⟩
  | 1 => ⟨2, fun _ => 0⟩
  | 2 => ⟨4, fun _ => 0⟩
  | 3 => ⟨3, fun k => if k = 2 then 3 else 0⟩
  | _ => ⟨3, fun k => if k = 2 then -2 else 0⟩
def ybC : Nat → FD
  | 0 => .v (.slice none 0 0)
  | 1 => .sl 1 [[I 0], [I 0]]
  | 2 => .sl 1 [[I 0], [I 0], [I 0], [I 0]]
  | 3 => .sl 1 [[I 0], [I 0], [I 3]]
  | _ => .sl 1 [[I 0], [I 0], [I (-2)]]
theorem ybC_le : ∀ j, FLe (ybC j) (intsF (ybL j))
  | 0 => FLe.nil _
  | 1 => FLe.refl _
  | 2 => FLe.refl _
  | 3 => FLe.refl _
  | _ + 4 => FLe.refl _
theorem ybL_n : ∀ j, (ybL j).n ≤ 1048576
  | 0 => by decide
  | 1 => by decide
  | 2 => by decide
  | 3 => by decide
  | _ + 4 => by show 3 ≤ 1048576; decide
theorem b_check : ∀ j, j < 5 → placeE (gS 98 false) (ybL j) = 2 := by decide +kernel
theorem b_app : ∀ j, j < 5 → appE (gS 98 false) (ybL j) 1 0 0 = 2 := by decide +kernel
theorem b_used : ∀ j, j < 5 → ∀ i, i < 5 → usedV (gS 98 false) (ybL j) 0 i = 0 := by decide +kernel
theorem b_usedF (j : Nat) (h : j < 5) : fiveF (usedV (gS 98 false) (ybL j) 0) = .agg [I 0, I 0, I 0, I 0, I 0] := by
  have := b_used j h
  unfold fiveF
  rw [this 0 (by decide), this 1 (by decide), this 2 (by decide), this 3 (by decide), this 4 (by decide)]
theorem b_placed : ∀ j, j < 5 → placedV (gS 98 false) (ybL j) 0 = 0 := by decide +kernel
/-- steps that can't be done -/
def xK : Nat → Int := fun j => ([0, 3, 1, 1, 1, 2, 2, 2, 1] : List Int).getD j 0
def xP : Nat → Int := fun j => ([0, 0, -1, 3, 0, 2, 2, 0, 2] : List Int).getD j 0
def xN : Nat → Int := fun j => ([0, 0, 0, 0, 1, 3, -1, 1, 0] : List Int).getD j 0
def xE : Nat → Int := fun j => ([2, 2, 9, 9, 9, 9, 9, 110, 110] : List Int).getD j 0
theorem x_app : ∀ j, j < 9 → appE (gS 98 false) pW (xK j) (xP j) (xN j) = xE j ∧ xE j ≠ 0 := by decide +kernel
/-- what is there: the cluster, its rows one's own -/
def NamM (c : UInt8) (b : Bool) (st : St) : Prop :=
  st.n = 193 ∧ st.lit = true ∧ 14 ≤ st.next ∧ st.fr 1 = .loc 2 0 ∧ st.mem 2 = some (.blk [.own 11 0, .own 12 0, .own 13 0]) ∧ st.mem 11 = some (.row 75 0 10 (gR c b)) ∧ st.mem 12 = some (.row 81 0 15 chPR) ∧ st.mem 13 = some (.row 100 0 5 chOR)
theorem n_app : appE (gS 98 true) pW 2 2 1 = 110 := by decide +kernel
theorem n_dom : scalar (domF (gS 98 true) 1 zoneB) = true ∧ domF (gS 98 true) 1 zoneB = .tup [S ByteArray.empty, B false] := by
  have h0 : valB ((gS 98 true).nodes.el 1) zoneB = false := by decide +kernel
  have h : domF (gS 98 true) 1 zoneB = .tup [S ByteArray.empty, B false] := by
    unfold domF
    rw [if_pos (by decide +kernel)]
    show valF ((gS 98 true).nodes.el 1) zoneB = _
    unfold valF valS
    rw [h0]
    rfl
  exact ⟨by rw [h]; rfl, h⟩
theorem n_doms : (if checkE (gS 98 true) = 0 then domL (gS 98 true) zoneB (gS 98 true).nodes.n else []) = [ch1 120] := by decide +kernel
theorem n_check : placeE (gS 98 true) (r3 1 (-1) (-1)) = 2 := by decide +kernel
theorem n_spread : eqL (spreadL (gS 98 true) pW 0) ⟨1, fun _ => 1⟩ = true := by decide +kernel
theorem n_sn : (spreadL (gS 98 true) pW 0).n ≤ 1048576 := by decide +kernel
theorem a_check : (placeE (gS 65 true) pW != 0) = true := by decide +kernel
theorem a_doms : (if checkE (gS 65 true) = 0 then domL (gS 65 true) zoneB (gS 65 true).nodes.n else []) = [] := by decide +kernel
theorem a_moves : movesL ⟨0, fun _ => 0⟩ pW = [] := by decide +kernel
theorem a_u3 : fiveF (usedV chS pW 3) = .agg [I 0, I 0, I 0, I 0, I 0] := by
  have h : ∀ i, i < 5 → usedV chS pW 3 i = 0 := by decide +kernel
  unfold fiveF
  rw [h 0 (by decide), h 1 (by decide), h 2 (by decide), h 3 (by decide), h 4 (by decide)]
theorem a_um : fiveF (usedV chS pW (-1)) = .agg [I 0, I 0, I 0, I 0, I 0] := by
  have h : ∀ i, i < 5 → usedV chS pW (-1) i = 0 := by decide +kernel
  unfold fiveF
  rw [h 0 (by decide), h 1 (by decide), h 2 (by decide), h 3 (by decide), h 4 (by decide)]
theorem a_counts : (countsL chS pW 1).n = 0 := by decide +kernel
set_option maxRecDepth 100000 in
set_option maxHeartbeats 8000000 in
theorem placeNames_pure : Pure Tryz.prog 10 [] (B true) := by
  refine Pure.of_runC (lit := true) (fun n => if n = 21 then [8, 21] else if n = 23 then [14] else []) Tryz.func10 rfl rfl rfl rfl (Nat.le_of_ble_eq_true rfl) (runC_of_runCL ?_)
  unfold St.enter
  simp -dsimp -implicitDefEqProofs [go_sem]
  refine callW_rows (fs := []) chapter_rows ?_
  simp -dsimp -implicitDefEqProofs [go_sem, chRows, ownsD]
  refine runCL_loop [.opn 1 2] (fun m st => ∃ j : Nat, NamM 98 false st ∧ j ≤ 5 ∧ m = 5 - j ∧ st.fr 2 = .f (.sl 1 (encL 5 fun j => [ybC j])) ∧ st.fr 3 = .f (I j)) 5 ⟨0, ?_⟩ ?_
  · simp -dsimp -implicitDefEqProofs [go_sem, NamM, openM, redir]
    exact ⟨⟨rfl, rfl, rfl⟩, rfl⟩
  rintro m ⟨N, fr, mem, nx, lt⟩ ⟨j, ⟨hN, hlt, hnx, f1, m2, m11, m12, m13⟩, hj, rfl, f2, f3⟩
  dsimp only at *
  subst hN hlt
  have hgt : ∀ k, 2 < nx + k ∧ 11 < nx + k ∧ 12 < nx + k ∧ 13 < nx + k := fun k => by omega
  rcases Nat.lt_or_ge j 5 with hlt | hge
  · have hlj : (j : Int) < 5 := by omega
    have hle : FLeL [gF 98 false, ybC j] [snapF (gS 98 false), intsF (ybL j)] := FLeL.cons (g_le _ _) (FLeL.cons (ybC_le j) (FLeL.refl _))
    have hle3 : ∀ d, FLeL [gF 98 false, ybC j, d] [snapF (gS 98 false), intsF (ybL j), d] := fun d => FLeL.cons (g_le _ _) (FLeL.cons (ybC_le j) (FLeL.refl _))
    simp -dsimp -implicitDefEqProofs [go_sem, f1, f2, f3, hlj]
    refine runCL_draw [[], [], [], [1, 2], [3, 1, 2], [], [0, 4, 3, 1, 2, 5], [6, 0, 4, 3, 1, 2, 5], [7, 6, 0, 4, 3, 1, 2, 5], [7, 6, 0, 4, 3, 1, 2, 5], [8, 7, 6, 0, 4, 3, 1, 2, 5], [9, 7, 6, 0, 4, 3, 1, 2, 5, 10, 8]] rfl (by kernel_rfl) (by kernel_rfl) ?_
    simp -dsimp -implicitDefEqProofs [go_sem, Tv, Cw, silentAt, silentOp, hgt, f1, f2, f3, m2, hlt, encL_get? _ hlt]
    refine callW_z (fs := [gF 98 false, ybC j, .agg [I 1, I 0, I 0]]) (by simp -dsimp -implicitDefEqProofs [go_sem, Tv, Cw, silentAt, silentOp, omap, frz, m11, m12, m13, hgt]; rfl) ((applyBad_pure (gS 98 false) (gS_ok _ _) (ybL j) (ybL_n j) 1 0 0 2 (b_app j hlt) (by decide)).of_le (hle3 _)) rfl ?_
    simp -dsimp -implicitDefEqProofs [go_sem, Tv, Cw, silentAt, silentOp, hgt, f1, f2, f3, m2, hlt, encL_get? _ hlt]
    refine runCL_draw [[], [], [], [1, 2], [3, 1, 2], [0, 4, 3, 1, 2], [5, 0, 4, 3, 1, 2], [6, 5, 0, 4, 3, 1, 2], [7, 6, 5, 0, 4, 3, 1, 2], [8, 7, 6, 5, 0, 4, 3, 1, 2], [7, 6, 5, 0, 4, 3, 1, 2, 9, 8], [10, 7, 6, 5, 0, 4, 3, 1, 2, 9, 8], [11, 10, 7, 6, 5, 0, 4, 3, 1, 2, 9, 8], [11, 10, 7, 6, 5, 0, 4, 3, 1, 2, 9, 8], [11, 10, 7, 6, 5, 0, 4, 3, 1, 2, 9, 8], [13, 11, 10, 7, 6, 5, 0, 4, 3, 1, 2, 9, 8, 14], [15, 13, 11, 10, 7, 6, 5, 0, 4, 3, 1, 2, 9, 8, 14], [12, 11, 10, 7, 6, 5, 0, 4, 3, 1, 2, 9, 8, 16, 15, 13, 14], [11, 10, 7, 6, 5, 0, 4, 3, 1, 2, 9, 8], [17, 12, 11, 10, 7, 6, 5, 0, 4, 3, 1, 2, 9, 8, 16, 15, 13, 14, 18], [11, 10, 7, 6, 5, 0, 4, 3, 1, 2, 9, 8, 19, 17, 12, 16, 15, 13, 14, 18], [20, 11, 10, 7, 6, 5, 0, 4, 3, 1, 2, 9, 8, 19, 17, 12, 16, 15, 13, 14, 18], [21, 20, 11, 10, 7, 6, 5, 0, 4, 3, 1, 2, 9, 8, 19, 17, 12, 16, 15, 13, 14, 18], [21, 20, 11, 10, 7, 6, 5, 0, 4, 3, 1, 2, 9, 8, 19, 17, 12, 16, 15, 13, 14, 18], [21, 20, 11, 10, 7, 6, 5, 0, 4, 3, 1, 2, 9, 8, 19, 17, 12, 16, 15, 13, 14, 18], [23, 21, 20, 11, 10, 7, 6, 5, 0, 4, 3, 1, 2, 9, 8, 19, 17, 12, 16, 15, 13, 14, 18, 24], [25, 23, 21, 20, 11, 10, 7, 6, 5, 0, 4, 3, 1, 2, 9, 8, 19, 17, 12, 16, 15, 13, 14, 18, 24], [22, 21, 20, 11, 10, 7, 6, 5, 0, 4, 3, 1, 2, 9, 8, 19, 17, 12, 16, 15, 13, 14, 18, 26, 25, 23, 24], [27, 22, 21, 20, 11, 10, 7, 6, 5, 0, 4, 3, 1, 2, 9, 8, 19, 17, 12, 16, 15, 13, 14, 18, 26, 25, 23, 24], [21, 20, 11, 10, 7, 6, 5, 0, 4, 3, 1, 2, 9, 8, 19, 17, 12, 16, 15, 13, 14, 18, 28, 27, 22, 26, 25, 23, 24]] rfl (by kernel_rfl) (by kernel_rfl) ?_
    simp -dsimp -implicitDefEqProofs [go_sem, Tv, Cw, silentAt, silentOp, hgt, f1, f2, f3, m2, hlt, encL_get? _ hlt]
    refine callW_z (fs := [gF 98 false, ybC j]) (by simp -dsimp -implicitDefEqProofs [go_sem, Tv, Cw, silentAt, silentOp, omap, frz, m11, m12, m13, hgt]; rfl) ((placeCheck_pure (gS 98 false) (gS_ok _ _) (ybL j) (ybL_n j)).of_le hle) rfl ?_
    rw [b_check j hlt]
    simp -dsimp -implicitDefEqProofs [go_sem, Tv, Cw, silentAt, silentOp, hgt, f1, f2, f3, m2, hlt, encL_get? _ hlt]
    refine callW_z (fs := [gF 98 false, ybC j, I 0]) (by simp -dsimp -implicitDefEqProofs [go_sem, Tv, Cw, silentAt, silentOp, omap, frz, m11, m12, m13, hgt]; rfl) ((placeUsed_pure (gS 98 false) (gS_ok _ _) (ybL j) (ybL_n j) 0).of_le (hle3 _)) rfl ?_
    rw [b_usedF j hlt]
    simp -dsimp -implicitDefEqProofs [go_sem, Tv, Cw, silentAt, silentOp, hgt, f1, f2, f3, m2, hlt, encL_get? _ hlt]
    refine callW_z (fs := [gF 98 false, ybC j, I 0]) (by simp -dsimp -implicitDefEqProofs [go_sem, Tv, Cw, silentAt, silentOp, omap, frz, m11, m12, m13, hgt]; rfl) ((placed_pure (gS 98 false) (gS_ok _ _) (ybL j) (ybL_n j) 0).of_le (hle3 _)) rfl ?_
    rw [b_placed j hlt]
    simp -dsimp -implicitDefEqProofs [go_sem, Tv, Cw, silentAt, silentOp, hgt, f1, f2, f3, m2, hlt, encL_get? _ hlt, NamM, m11, m12, m13]
    exact ⟨_, by omega, j + 1, by omega, rfl, w64 (by omega) (by omega)⟩
  obtain rfl : j = 5 := by omega
  simp -dsimp -implicitDefEqProofs [go_sem, f1, f2, f3]
  refine runCL_loop [] (fun m st => ∃ j : Nat, NamM 98 false st ∧ j ≤ 9 ∧ m = 9 - j ∧ st.fr 6 = .f (intsF pW) ∧ st.fr 7 = .f (.sl 3 (encL 9 fun j => [I (xK j), I (xP j), I (xN j)])) ∧ st.fr 8 = .f (.sl 1 (encL 9 fun j => [I (xE j)])) ∧ st.fr 9 = .f (I j)) 9 ⟨0, ?_⟩ ?_
  · simp -dsimp -implicitDefEqProofs [go_sem, NamM, f1, m2, m11, m12, m13]
    exact ⟨rfl, rfl, rfl⟩
  clear f1 f2 f3 m2 m11 m12 m13 hgt hnx hj hge
  rintro m ⟨N, fr, mem, nx, lt⟩ ⟨j, ⟨hN, hlt, hnx, f1, m2, m11, m12, m13⟩, hj, rfl, f6, f7, f8, f9⟩
  dsimp only at *
  subst hN hlt
  have hgt : ∀ k, 2 < nx + k ∧ 11 < nx + k ∧ 12 < nx + k ∧ 13 < nx + k := fun k => by omega
  rcases Nat.lt_or_ge j 9 with hlt | hge
  · have hlj : (j : Int) < 9 := by omega
    have hle3 : ∀ d, FLeL [gF 98 false, intsF pW, d] [snapF (gS 98 false), intsF pW, d] := fun d => FLeL.cons (g_le _ _) (FLeL.refl _)
    simp -dsimp -implicitDefEqProofs [go_sem, f1, f6, f7, f8, f9, hlj]
    refine runCL_draw [[], [], [], [], [2, 3], [4, 2, 3], [0, 1, 5, 4, 2, 3], [6, 0, 1, 5, 4, 2, 3], [7, 6, 0, 1, 5, 4, 2, 3], [7, 6, 0, 1, 5, 4, 2, 3], [8, 7, 6, 0, 1, 5, 4, 2, 3], [9, 7, 6, 0, 1, 5, 4, 2, 3, 10, 8]] rfl (by kernel_rfl) (by kernel_rfl) ?_
    simp -dsimp -implicitDefEqProofs [go_sem, Tv, Cw, silentAt, silentOp, hgt, f1, f6, f7, f8, f9, m2, hlt, encL_get? _ hlt]
    refine callW_z (fs := [gF 98 false, intsF pW, .agg [I (xK j), I (xP j), I (xN j)]]) (by simp -dsimp -implicitDefEqProofs [go_sem, Tv, Cw, silentAt, silentOp, omap, frz, m11, m12, m13, hgt]; rfl) ((applyBad_pure (gS 98 false) (gS_ok _ _) pW (by decide) _ _ _ _ (x_app j hlt).1 (x_app j hlt).2).of_le (hle3 _)) rfl ?_
    simp -dsimp -implicitDefEqProofs [go_sem, Tv, Cw, silentAt, silentOp, hgt, f1, f6, f7, f8, f9, m2, hlt, encL_get? _ hlt, NamM, m11, m12, m13]
    exact ⟨_, by omega, j + 1, by omega, rfl, w64 (by omega) (by omega)⟩
  obtain rfl : j = 9 := by omega
  simp -dsimp -implicitDefEqProofs [go_sem, f1, f6, f7, f8, f9, m2, m11, gR, gNC, chNC]
  have hle1 : ∀ d, FLeL [gF 98 true, intsF pW, d] [snapF (gS 98 true), intsF pW, d] := fun d => FLeL.cons (g_le _ _) (FLeL.refl _)
  have hle2 : ∀ d, FLeL [gF 98 true, d] [snapF (gS 98 true), d] := fun d => FLeL.cons (g_le _ _) (FLeL.refl _)
  have hle0 : ∀ ds, FLeL (gF 98 true :: ds) (snapF (gS 98 true) :: ds) := fun d => FLeL.cons (g_le _ _) (FLeL.refl _)
  refine callW_z (fs := [gF 98 true, intsF pW, .agg [I 2, I 2, I 1]]) (by simp -dsimp -implicitDefEqProofs [go_sem, omap, frz, m12, m13]; rfl) ((applyBad_pure (gS 98 true) (gS_ok _ _) pW (by decide) 2 2 1 110 n_app (by decide)).of_le (hle0 _)) rfl ?_
  simp -dsimp -implicitDefEqProofs [go_sem, f1, f6, m2]
  refine callW_z (fs := [gF 98 true, I 1, S zoneB]) (by simp -dsimp -implicitDefEqProofs [go_sem, omap, frz, m12, m13]; exact ⟨rfl, rfl⟩) ((domain_pure (gS 98 true) (gS_ok _ _) 1 zoneB).of_le (hle0 _)) n_dom.1 ?_
  rw [n_dom.2]
  simp -dsimp -implicitDefEqProofs [go_sem, f1, f6, m2]
  refine callS_new (fs := [gF 98 true, S zoneB]) (by simp -dsimp -implicitDefEqProofs [go_sem, omap, frz, m12, m13]; exact ⟨rfl, rfl⟩) ((domains_new (gS 98 true) (gS_ok _ _) zoneB).of_le (hle0 _)) ?_
  rw [n_doms]
  simp -dsimp -implicitDefEqProofs [go_sem, f1, f6, m2]
  refine callW_f (fs := [strsF [ch1 120], strsF [ch1 120]]) (eqTexts_pure _ (by decide)) ?_
  simp -dsimp -implicitDefEqProofs [go_sem, f1, f6, m2]
  refine callW_z (fs := [gF 98 true, intsF (r3 1 (-1) (-1))]) (by simp -dsimp -implicitDefEqProofs [go_sem, omap, frz, m12, m13]; exact ⟨rfl, rfl⟩) ((placeCheck_pure (gS 98 true) (gS_ok _ _) (r3 1 (-1) (-1)) (by decide)).of_le (hle0 _)) rfl ?_
  rw [n_check]
  simp -dsimp -implicitDefEqProofs [go_sem, f1, f6, m2]
  refine callS_new (fs := [gF 98 true, intsF pW, I 0]) (by simp -dsimp -implicitDefEqProofs [go_sem, omap, frz, m12, m13]; rfl) ((spread_new (gS 98 true) (gS_ok _ _) pW (by decide) 0).of_le (hle0 _)) ?_
  simp -dsimp -implicitDefEqProofs [go_sem, f1, f6, m2]
  refine callW_f (fs := [intsF (spreadL (gS 98 true) pW 0), intsF ⟨1, fun _ => 1⟩]) (eqI_pure _ _ n_sn (by decide)) ?_
  rw [n_spread]
  simp -dsimp -implicitDefEqProofs [go_sem, f1, f6, m2]
  have hlA : ∀ ds, FLeL (gF 65 true :: ds) (snapF (gS 65 true) :: ds) := fun d => FLeL.cons (g_le _ _) (FLeL.refl _)
  refine callW_f (fs := []) placeWorks_pure ?_
  simp -dsimp -implicitDefEqProofs [go_sem, f1, f6, m2]
  refine callW_z (fs := [gF 65 true, intsF pW]) (by simp -dsimp -implicitDefEqProofs [go_sem, omap, frz, m12, m13]; rfl) ((placeCheck_pure (gS 65 true) (gS_ok _ _) pW (by decide)).of_le (hlA _)) rfl ?_
  simp -dsimp -implicitDefEqProofs [go_sem, f1, f6, m2, a_check]
  refine callS_new (fs := [gF 65 true, S zoneB]) (by simp -dsimp -implicitDefEqProofs [go_sem, omap, frz, m12, m13]; exact ⟨rfl, rfl⟩) ((domains_new (gS 65 true) (gS_ok _ _) zoneB).of_le (hlA _)) ?_
  rw [a_doms]
  simp -dsimp -implicitDefEqProofs [go_sem, f1, f6, m2, strsR]
  refine callW_f (fs := [.v (.slice none 0 0), intsF pW]) ((moves_pure ⟨0, fun _ => 0⟩ pW (by decide) (by decide)).of_le (FLeL.cons (FLe.nil _) (FLeL.refl _))) ?_
  rw [a_moves]
  simp -dsimp -implicitDefEqProofs [go_sem, f1, f6, m2, movF, movR]
  refine callW_f (fs := []) chapter_pure ?_
  simp -dsimp -implicitDefEqProofs [go_sem, f1, f6, m2]
  refine callW_f (fs := [snapF chS, intsF pW, I 3]) (placeUsed_pure chS chS_ok pW (by decide) 3) ?_
  rw [a_u3]
  simp -dsimp -implicitDefEqProofs [go_sem, f1, f6, m2]
  refine callW_f (fs := []) chapter_pure ?_
  simp -dsimp -implicitDefEqProofs [go_sem, f1, f6, m2]
  refine callW_f (fs := [snapF chS, intsF pW, I (-1)]) (placeUsed_pure chS chS_ok pW (by decide) (-1)) ?_
  rw [a_um]
  simp -dsimp -implicitDefEqProofs [go_sem, f1, f6, m2]
  refine callW_f (fs := []) chapter_pure ?_
  simp -dsimp -implicitDefEqProofs [go_sem, f1, f6, m2]
  refine callW_f (fs := [snapF chS, intsF pW, I 1]) (counts_pure chS chS_ok pW (by decide) 1) ?_
  simp -dsimp -implicitDefEqProofs [go_sem, f1, f6, m2, intsF, a_counts]
end Go.Proofs.YthpmgnbehahkfaaGreat
