/- HeatKnown: nodes that have nothing; both ends. -/
import Derived.Test.YtipacbaapkdnaaaGreatJXd
import Derived.Test.YtipacbaapkdnaaaGreatJXa
set_option linter.unusedSimpArgs false
set_option linter.unusedVariables false
namespace Go.Proofs.YtipacbaapkdnaaaGreat
open Go.RowKit Go.Dk Go.Dn

theorem heatTells_all (s : SnapD) (ok : SnapOk s) (l : Lst Int) (hl : l.n ≤ 1048576) (g : GoalD) (dr : FD) (node : Int) : Pure Tryz.prog 3 [snapF s, intsF l, .agg (askC g dr node)] (B true) :=
  heatTells_pure heatLow_pure heatHigh_pure heatIdle_pure (works_pure heatLow_pure heatHigh_pure heatIdle_pure) s ok l hl g dr node

/-- the ends -/
def endsL : Lst Int := ⟨8, fun k => if k = 0 then 0 else if k = 1 then 1 else if k = 2 then 2 else if k = 3 then 500 else if k = 4 then 999 else if k = 5 then 1000 else if k = 6 then 1001 else 274877906944⟩
def knNode (c : UInt8) (a b : Int) (lost : Bool) : NodeD := ⟨str1 c, five a b 0 0 0, noLabs, noLabs, false, lost⟩
def knSnap (a b : Int) : SnapD := ⟨⟨3, fun k => if k = 0 then knNode 97 a b false else if k = 1 then knNode 98 0 0 true else knNode 99 0 0 false⟩, ⟨2, fun k => if k = 0 then exPod 112 b a else exPod 113 1 0⟩, ⟨0, fun _ => ⟨e0, 0, e0, 0, false⟩⟩⟩
def knNodeC (c : UInt8) (a b : Int) (lost : Bool) : List FD := [S (str1 c), I a, I b, I 0, I 0, I 0, nilF, nilF, B false, B lost]
def knC (a b : Int) : List FD := [.sl 10 [knNodeC 97 a b false, knNodeC 98 0 0 true, knNodeC 99 0 0 false], .sl 15 [exPodC 112 b a, exPodC 113 1 0], nilF]
theorem kn_le (a b : Int) : FLe (.agg (knC a b)) (snapF (knSnap a b)) := by
  refine FLe.agg (FLeL.cons (FLe.sl (FLeLL.cons ?_ (FLeLL.cons ?_ (FLeLL.cons ?_ (FLeLL.refl _))))) (FLeL.cons (FLe.sl (FLeLL.cons ?_ (FLeLL.cons ?_ (FLeLL.refl _)))) (FLeL.cons (FLe.nil _) (FLeL.refl _))))
  all_goals (repeat' (first | exact FLeL.refl [] | refine FLeL.cons ?_ ?_))
  all_goals first | exact FLe.refl _ | exact FLe.nil _
theorem knSnap_ok (a b : Int) : SnapOk (knSnap a b) :=
  ⟨show 3 ≤ 1048576 by decide, fun k _ => by show NodeOk (if k = 0 then knNode 97 a b false else if k = 1 then knNode 98 0 0 true else knNode 99 0 0 false); split; exact ⟨str1_ok _, labs0_ok, labs0_ok⟩; split <;> exact ⟨str1_ok _, labs0_ok, labs0_ok⟩, show 2 ≤ 1048576 by decide, fun k _ => by show PodOk (if k = 0 then exPod 112 b a else exPod 113 1 0); split <;> exact exPod_ok _ _ _, show 0 ≤ 1048576 by decide, fun k hk => absurd hk (Nat.not_lt_zero k)⟩
def one' (a : Int) : Lst Int := ⟨1, fun _ => a⟩
def knAsk (a b c d n : Int) : List FD := [I a, I b, I c, I d, I 0, nilF, I 0, I 0, B false, I n]
theorem kn_two (a b x y : Int) (g1 g2 g3 g4 n : Int) : Pure Tryz.prog 3 [.agg (knC a b), .sl 1 [[I x], [I y]], .agg (knAsk g1 g2 g3 g4 n)] (B true) :=
  Pure.of_le (heatTells_all (knSnap a b) (knSnap_ok a b) (two' x y) (show 2 ≤ 1048576 by decide) (exGoal g1 g2 g3 g4) nilF n) (FLeL.cons (kn_le a b) (FLeL.refl _))
theorem kn_one (a b x : Int) (g1 g2 g3 g4 n : Int) : Pure Tryz.prog 3 [.agg (knC a b), .sl 1 [[I x]], .agg (knAsk g1 g2 g3 g4 n)] (B true) :=
  Pure.of_le (heatTells_all (knSnap a b) (knSnap_ok a b) (one' x) (show 1 ≤ 1048576 by decide) (exGoal g1 g2 g3 g4) nilF n) (FLeL.cons (kn_le a b) (FLeL.refl _))

def emSnap : SnapD := ⟨⟨0, fun _ => knNode 0 0 0 false⟩, ⟨0, fun _ => exPod 0 0 0⟩, ⟨0, fun _ => ⟨e0, 0, e0, 0, false⟩⟩⟩
def emL : Lst Int := ⟨0, fun _ => 0⟩
theorem emSnap_ok : SnapOk emSnap :=
  ⟨show 0 ≤ 1048576 by decide, fun k hk => absurd hk (Nat.not_lt_zero k), show 0 ≤ 1048576 by decide, fun k hk => absurd hk (Nat.not_lt_zero k), show 0 ≤ 1048576 by decide, fun k hk => absurd hk (Nat.not_lt_zero k)⟩
theorem em_le (k : Int) : FLeL [.agg [nilF, nilF, nilF], nilF, I k] [snapF emSnap, intsF emL, I k] :=
  FLeL.cons (FLe.agg (FLeL.cons (FLe.nil _) (FLeL.cons (FLe.nil _) (FLeL.cons (FLe.nil _) (FLeL.refl _))))) (FLeL.cons (FLe.nil _) (FLeL.refl _))
theorem em_share : Pure Tryz.prog 10 [.agg [nilF, nilF, nilF], nilF, I 0] (twoF 0 0) := by
  have h := Pure.of_le (heatShare_pure emSnap emSnap_ok emL (show 0 ≤ 1048576 by decide) 0) (em_le 0)
  rw [show shV emSnap emL 0 0 = 0 by decide +kernel, show shV emSnap emL 0 1 = 0 by decide +kernel] at h
  exact h
theorem em_pods : Pure Tryz.prog 13 [.agg [nilF, nilF, nilF], nilF, I (-1)] (listF []) := by
  have h := Pure.of_le (heatPods_pure emSnap emSnap_ok emL (show 0 ≤ 1048576 by decide) (-1)) (em_le (-1))
  rw [show podsV emSnap emL (-1) = [] by decide +kernel] at h
  exact h

set_option maxRecDepth 100000 in
set_option maxHeartbeats 4000000 in
theorem heatKnown_pure : Pure Tryz.prog 4 [] (B true) := by
  refine Pure.of_run (lit := true) Tryz.func4 rfl rfl rfl rfl (Nat.le_of_ble_eq_true rfl) (run_of_runL ?_)
  unfold St.enter
  simp (dsimp := false) (implicitDefEqProofs := false) [go_sem]
  refine runL_loop [] 4 (by simp (dsimp := false) (implicitDefEqProofs := false) [go_sem]) (fun m st => ∃ i : Nat, st.n = 106 ∧ st.lit = true ∧ i ≤ 8 ∧ m = 8 - i ∧ st.fr 1 = .f (intsF endsL) ∧ st.fr 2 = .f (I i)) 8 ⟨0, ?_⟩ ?_
  · simp (dsimp := false) (implicitDefEqProofs := false) [go_sem]
    exact rfl
  rintro m ⟨N, fr, mem, nx, lt⟩ hnx ⟨i, hN, hlt, hi, rfl, f1, f2⟩
  dsimp only at *
  subst hN hnx hlt
  have hE : endsL.n = 8 := rfl
  simp (dsimp := false) (implicitDefEqProofs := false) [go_sem, f1, f2, hE]
  refine gif_dec (fun hlt => ?_) (fun hge => ?_)
  · simp (dsimp := false) (implicitDefEqProofs := false) [go_sem, f1, f2, hE]
    refine runL_loop [] 9 (by simp (dsimp := false) (implicitDefEqProofs := false) [go_sem]) (fun m st => ∃ k : Nat, st.n = 106 ∧ st.lit = true ∧ k ≤ 8 ∧ m = 8 - k ∧ st.fr 1 = .f (intsF endsL) ∧ st.fr 2 = .f (I i) ∧ st.fr 3 = .f (I k)) 8 ⟨0, ?_⟩ ?_
    · simp (dsimp := false) (implicitDefEqProofs := false) [go_sem, f1, f2]
    rintro m ⟨N, fr, mem, nx, lt⟩ hnx ⟨k, hN, hlt2, hk, rfl, f1, f2, f3⟩
    dsimp only at *
    subst hN hnx hlt2
    simp (dsimp := false) (implicitDefEqProofs := false) [go_sem, f1, f2, f3, hE]
    refine gif_dec (fun hkt => ?_) (fun hge => ?_)
    · simp (dsimp := false) (implicitDefEqProofs := false) [go_sem, f1, f2, f3, hE]
      have hlt' : i < 8 := by omega
      have hkt' : k < 8 := by omega
      refine runL_draw [[], [], [0, 1], [2, 0, 1], [], [], [4, 5], [6, 4, 5], [3, 2, 0, 1, 7, 6, 4, 5], [8, 3, 2, 0, 1, 7, 6, 4, 5], [], [], [9, 8, 3, 2, 0, 1, 7, 6, 4, 5, 10, 11], [], [], [13, 14], [15, 13, 14], [], [], [17, 18], [19, 17, 18], [16, 15, 13, 14, 20, 19, 17, 18], [21, 16, 15, 13, 14, 20, 19, 17, 18], [], [23], [22, 21, 16, 15, 13, 14, 20, 19, 17, 18, 24, 23], [12, 9, 8, 3, 2, 0, 1, 7, 6, 4, 5, 10, 11, 25, 22, 21, 16, 15, 13, 14, 20, 19, 17, 18, 24, 23], [], [27, 26, 12, 9, 8, 3, 2, 0, 1, 7, 6, 4, 5, 10, 11, 25, 22, 21, 16, 15, 13, 14, 20, 19, 17, 18, 24, 23]] (by kernel_rfl) (by kernel_rfl) ?_
      simp (dsimp := false) (implicitDefEqProofs := false) [go_sem, f1, f2, f3, hE, hlt', hkt', Tv, Cw, silentAt, silentOp]
      refine exWL_mk (andL_mk ⟨by kernel_rfl, by kernel_rfl⟩ ?_)
      simp (dsimp := false) (implicitDefEqProofs := false) [go_sem, f1, f2, f3, hE, hlt', hkt', Tv, Cw, silentAt, silentOp]
      refine exWL_mk (andL_mk ⟨by kernel_rfl, by kernel_rfl⟩ ?_)
      simp (dsimp := false) (implicitDefEqProofs := false) [go_sem, f1, f2, f3, hE, hlt', hkt', Tv, Cw, silentAt, silentOp]
      refine runL_loop [] 43 (by simp (dsimp := false) (implicitDefEqProofs := false) [go_sem]) (fun m st => ∃ j : Nat, st.n = 106 ∧ st.lit = true ∧ j ≤ 5 ∧ m = 5 - j ∧ st.fr 1 = .f (intsF endsL) ∧ st.fr 2 = .f (I i) ∧ st.fr 3 = .f (I k) ∧ st.fr 4 = .loc 40 0 ∧ st.fr 5 = .f (I ((j : Int) - 1)) ∧ st.mem 40 = some (.blk ((knC (endsL.el i) (endsL.el k)).map .f))) 5 ⟨0, ?_⟩ ?_
      · simp (dsimp := false) (implicitDefEqProofs := false) [go_sem, f1, f2, f3]
        exact rfl
      rintro m ⟨N, fr, mem, nx, lt⟩ hnx ⟨j, hN, hlt2, hj, rfl, f1, f2, f3, f4, f5, m40⟩
      dsimp only at *
      subst hN hnx hlt2
      simp only [knC, List.map] at m40
      simp (dsimp := false) (implicitDefEqProofs := false) [go_sem, f1, f2, f3, f4, f5, m40]
      refine gif_dec (fun hjt => ?_) (fun hge => ?_)
      · simp (dsimp := false) (implicitDefEqProofs := false) [go_sem, f1, f2, f3, f4, f5, m40, hE]
        refine runL_draw [[], [], [0, 1], [2, 0, 1], [], [], [4, 5], [6, 4, 5], [3, 2, 0, 1, 7, 6, 4, 5], [], [], [9, 10], [11, 9, 10], [12, 11, 9, 10], [8, 3, 2, 0, 1, 7, 6, 4, 5, 13, 12, 11, 9, 10], [], [15], [16, 15], [14, 8, 3, 2, 0, 1, 7, 6, 4, 5, 13, 12, 11, 9, 10, 17, 16, 15], [], [19, 18, 14, 8, 3, 2, 0, 1, 7, 6, 4, 5, 13, 12, 11, 9, 10, 17, 16, 15]] (by kernel_rfl) (by kernel_rfl) ?_
        simp (dsimp := false) (implicitDefEqProofs := false) [go_sem, f1, f2, f3, hE, hlt', hkt', Tv, Cw, silentAt, silentOp, f4, f5, m40]
        refine exWL_mk (andL_mk ⟨by kernel_rfl, by kernel_rfl⟩ ?_)
        simp (dsimp := false) (implicitDefEqProofs := false) [go_sem, f1, f2, f3, hE, hlt', hkt', Tv, Cw, silentAt, silentOp, f4, f5, m40]
        refine exWL_mk (andL_mk ⟨by kernel_rfl, by kernel_rfl⟩ ?_)
        simp (dsimp := false) (implicitDefEqProofs := false) [go_sem, f1, f2, f3, hE, hlt', hkt', Tv, Cw, silentAt, silentOp, f4, f5, m40, knC]
        refine callW_f (kn_two _ _ _ _ _ _ _ _ _) ?_
        simp (dsimp := false) (implicitDefEqProofs := false) [go_sem, f1, f2, f3, hE, hlt', hkt', Tv, Cw, silentAt, silentOp, f4, f5, m40]
        refine callW_f (kn_two _ _ _ _ _ _ _ _ _) ?_
        simp (dsimp := false) (implicitDefEqProofs := false) [go_sem, f1, f2, f3, hE, hlt', hkt', Tv, Cw, silentAt, silentOp, f4, f5, m40]
        refine callW_f (kn_one _ _ _ _ _ _ _ _) ?_
        simp (dsimp := false) (implicitDefEqProofs := false) [go_sem, f1, f2, f3, hE, hlt', hkt', Tv, Cw, silentAt, silentOp, f4, f5, m40]
        exact ⟨_, by omega, j + 1, by omega, rfl, by rw [w64 (by omega) (by omega)]; omega, rfl⟩
      · simp (dsimp := false) (implicitDefEqProofs := false) [go_sem, f1, f2, f3, f4, f5, m40, hE]
        exact ⟨_, by omega, k + 1, by omega, rfl, w64 (by omega) (by omega)⟩
    · simp (dsimp := false) (implicitDefEqProofs := false) [go_sem, f1, f2, f3, hE, hge]
      exact ⟨_, by omega, i + 1, by omega, rfl, w64 (by omega) (by omega)⟩
  · simp (dsimp := false) (implicitDefEqProofs := false) [go_sem, f1, f2, hE, hge]
    refine callW_f (works_pure heatLow_pure heatHigh_pure heatIdle_pure) ?_
    simp (dsimp := false) (implicitDefEqProofs := false) [go_sem]
    refine callW_f em_share ?_
    simp (dsimp := false) (implicitDefEqProofs := false) [go_sem, twoF]
    refine callW_f em_pods ?_
    simp (dsimp := false) (implicitDefEqProofs := false) [go_sem, listF]
end Go.Proofs.YtipacbaapkdnaaaGreat
