/- HeatTells, given heat.Low, High, Idle and works. -/
/- works: the chapter's nodes, given heat.Low, High, Idle. -/
import Derived.Test.YtipacbaapkdnaaaGreatJXb
import Derived.Test.YtipacbaapkdnaaaGreatJEg
import Derived.Test.YtipacbaapkdnaaaGreatJEj
import Derived.Test.YtipacbaapkdnaaaGreatJXc
set_option linter.unusedSimpArgs false
set_option linter.unusedVariables false
section
namespace Go.Proofs.YtipacbaapkdnaaaGreat
open Go.RowKit Go.Dk Go.Dn
theorem encL_take (n m : Nat) (f : Nat → List FD) : (encL n f).take m = encL (min n m) f := by
  apply List.ext_getElem?
  intro k
  simp only [List.getElem?_take]
  by_cases h1 : k < n <;> by_cases h2 : k < m
  · rw [if_pos h2, encL_get? _ h1, encL_get? _ (by omega)]
  · rw [if_neg h2, List.getElem?_eq_none (by rw [encL_len]; omega)]
  · rw [if_pos h2, List.getElem?_eq_none (by rw [encL_len]; omega), List.getElem?_eq_none (by rw [encL_len]; omega)]
  · rw [if_neg h2, List.getElem?_eq_none (by rw [encL_len]; omega)]
def askC (g : GoalD) (dr : FD) (node : Int) : List FD := [I (g.low 0), I (g.low 1), I (g.high 0), I (g.high 1), I g.on, dr, I g.max, I g.tries, B g.roll, I node]
theorem eqL_self (a : Lst Int) : eqL a a = true := by
  simp [eqL, allB, anyB]
theorem eqList_pure (a : List Int) (h : a.length ≤ 1048576) : Pure Tryz.prog 12 [listF a, listF a] (B true) := by
  have := eqInts_pure (ofL a) (ofL a) h h
  rw [listF_of, eqL_self] at this
  exact this
theorem podsV_len (s : SnapD) (l : Lst Int) (x : Int) : (podsV s l x).length ≤ l.n := by
  unfold podsV
  split
  · exact podsL_len l x l.n
  · simp
theorem lowV_len (s : SnapD) (l : Lst Int) (g : GoalD) : (lowV s l g).length ≤ s.nodes.n := by
  unfold lowV
  split
  · exact pickL_len _ _
  · simp
theorem highV_len (s : SnapD) (l : Lst Int) (g : GoalD) : (highV s l g).length ≤ s.nodes.n := by
  unfold highV
  split
  · exact pickL_len _ _
  · simp
theorem idleV_len (s : SnapD) (l : Lst Int) : (idleV s l).length ≤ s.nodes.n := by
  unfold idleV
  split
  · exact pickL_len _ _
  · simp
theorem eqInts_self (a : Lst Int) (h : a.n ≤ 1048576) : Pure Tryz.prog 12 [intsF a, intsF a] (B true) := by
  have := eqInts_pure a a h h
  rw [eqL_self] at this
  exact this
theorem take30 (l : Lst Int) : FD.sl 1 (List.take (if (30 : Int) < (l.n : Int) then (30 : Int) else (l.n : Int)).toNat (encL l.n fun k => [I (l.el k)])) = intsF ⟨min l.n 30, l.el⟩ := by
  unfold intsF
  rw [encL_take]
  congr 2
  split <;> simp <;> omega
theorem heatTells_pure
    (hLow : ∀ (s : SnapD), SnapOk s → ∀ (l : Lst Int), l.n ≤ 1048576 → ∀ g, Pure Tryz.prog 15 [snapF s, intsF l, goalF g] (listF (lowV s l g)))
    (hHigh : ∀ (s : SnapD), SnapOk s → ∀ (l : Lst Int), l.n ≤ 1048576 → ∀ g, Pure Tryz.prog 17 [snapF s, intsF l, goalF g] (listF (highV s l g)))
    (hIdle : ∀ (s : SnapD), SnapOk s → ∀ (l : Lst Int), l.n ≤ 1048576 → Pure Tryz.prog 19 [snapF s, intsF l] (listF (idleV s l)))
    (hWorks : Pure Tryz.prog 22 [] (B true))
    (s : SnapD) (ok : SnapOk s) (l : Lst Int) (hl : l.n ≤ 1048576) (g : GoalD) (dr : FD) (node : Int) :
    Pure Tryz.prog 3 [snapF s, intsF l, .agg (askC g dr node)] (B true) := by
  refine Pure.of_run (lit := false) Tryz.func3 rfl rfl rfl rfl (Nat.le_of_ble_eq_true rfl) (run_of_runL ?_)
  unfold St.enter
  simp (dsimp := false) (implicitDefEqProofs := false) [go_sem, snapF, snapC, askC, intsF]
  refine andL_mk (by split <;> omega) ?_
  simp (dsimp := false) (implicitDefEqProofs := false) [go_sem, take30 l]
  refine gif_split (fun hev => ?_) (fun hev => ?_)
  · simp (dsimp := false) (implicitDefEqProofs := false) [go_sem]
    refine callW_f (placement_pure s ok) ?_
    simp (dsimp := false) (implicitDefEqProofs := false) [go_sem]
    refine callW_f (copy_pure s ok) ?_
    simp (dsimp := false) (implicitDefEqProofs := false) [go_sem]
    refine callW_f (copyInts_pure (placV s) ok.p1) ?_
    simp (dsimp := false) (implicitDefEqProofs := false) [go_sem, snapF, snapC]
    refine runL_loop [] 27 (by simp (dsimp := false) (implicitDefEqProofs := false) [go_sem]) (fun m st => ∃ k : Nat, st.n = 105 ∧ st.lit = false ∧ k ≤ 10 ∧ m = 10 - k ∧ st.fr 1 = .f (intsF (placV s)) ∧ st.fr 3 = .loc 0 0 ∧ st.fr 5 = .loc 1 0 ∧ st.fr 7 = .loc 23 0 ∧ st.fr 8 = .f (intsF (placV s)) ∧ st.fr 9 = .f (I ((k : Int) - 1)) ∧
      st.mem 0 = some (.blk [.f (nodesF s.nodes), .f (podsF s.pods), .f (ownersF s.owners)]) ∧ st.mem 1 = some (.blk [.f (I (g.low 0)), .f (I (g.low 1)), .f (I (g.high 0)), .f (I (g.high 1)), .f (I g.on), .f (.v (.slice none 0 0)), .f (I g.max), .f (I g.tries), .f (B g.roll), .f (I node)]) ∧
      st.mem 23 = some (.blk [.f (nodesF s.nodes), .f (podsF s.pods), .f (ownersF s.owners)])) 10 ⟨0, ?_⟩ ?_
    · simp (dsimp := false) (implicitDefEqProofs := false) [go_sem]
    rintro m ⟨N, fr, mem, nx, lt⟩ hnx ⟨k, hN, hlt, hj, rfl, f1, f3, f5, f7, f8, f9, m0, m1, m7⟩
    dsimp only at *
    subst hN hnx hlt
    simp (dsimp := false) (implicitDefEqProofs := false) [go_sem, f9]
    refine gif_dec (fun hlt => ?_) (fun hge => ?_)
    · simp (dsimp := false) (implicitDefEqProofs := false) [go_sem, f1, f3, f5, f7, f8, f9, m0, m1, m7, hlt]
      refine gif_dec (fun hneg => ?_) (fun hneg => ?_)
      · simp (dsimp := false) (implicitDefEqProofs := false) [go_sem, f1, f3, f5, f7, f8, f9, m0, m1, m7]
        refine runL_draw [[], [], [], [0, 1, 2], [], [], [], [4, 5, 6, 3, 0, 1, 2], [3, 0, 1, 2, 7, 4, 5, 6], [8, 3, 0, 1, 2, 7, 4, 5, 6], [9, 8, 3, 0, 1, 2, 7, 4, 5, 6], [9, 8, 3, 0, 1, 2, 7, 4, 5, 6], [9, 8, 3, 0, 1, 2, 7, 4, 5, 6], [10, 9, 8, 3, 0, 1, 2, 7, 4, 5, 6, 11, 12], [9, 8, 3, 0, 1, 2, 7, 4, 5, 6], [9, 8, 3, 0, 1, 2, 7, 4, 5, 6], [9, 8, 3, 0, 1, 2, 7, 4, 5, 6], [14, 9, 8, 3, 0, 1, 2, 7, 4, 5, 6, 15, 16, 13, 10, 11, 12], [13, 10, 9, 8, 3, 0, 1, 2, 7, 4, 5, 6, 11, 12, 17, 14, 15, 16], [18, 13, 10, 9, 8, 3, 0, 1, 2, 7, 4, 5, 6, 11, 12, 17, 14, 15, 16], [9, 8, 3, 0, 1, 2, 7, 4, 5, 6, 19, 18, 13, 10, 11, 12, 17, 14, 15, 16]] (by kernel_rfl) (by kernel_rfl) ?_
        simp (dsimp := false) (implicitDefEqProofs := false) [go_sem, f1, f3, f5, f7, f8, f9, m0, m1, m7, Tv, Cw, silentAt, silentOp, twoF]
        refine callW_f (heatShare_pure s ok (placV s) ok.p1 node) ?_
        simp (dsimp := false) (implicitDefEqProofs := false) [go_sem, f1, f3, f5, f7, f8, f9, m0, m1, m7, Tv, Cw, silentAt, silentOp, twoF]
        refine callW_f (refShare_pure s ok (placV s) ok.p1 node) ?_
        simp (dsimp := false) (implicitDefEqProofs := false) [go_sem, f1, f3, f5, f7, f8, f9, m0, m1, m7, Tv, Cw, silentAt, silentOp, twoF]
        refine callW_f (heatPods_pure s ok (placV s) ok.p1 node) ?_
        simp (dsimp := false) (implicitDefEqProofs := false) [go_sem, f1, f3, f5, f7, f8, f9, m0, m1, m7, Tv, Cw, silentAt, silentOp, twoF]
        refine callW_f (refPods_pure s ok (placV s) ok.p1 node) ?_
        simp (dsimp := false) (implicitDefEqProofs := false) [go_sem, f1, f3, f5, f7, f8, f9, m0, m1, m7, Tv, Cw, silentAt, silentOp, twoF]
        refine callW_f (eqList_pure _ (Nat.le_trans (podsV_len _ _ _) ok.p1)) ?_
        simp (dsimp := false) (implicitDefEqProofs := false) [go_sem, f1, f3, f5, f7, f8, f9, m0, m1, m7, Tv, Cw, silentAt, silentOp, twoF]
        exact ⟨_, by omega, k + 1, by omega, rfl, by rw [w64 (by omega) (by omega)]; omega⟩
      · simp (dsimp := false) (implicitDefEqProofs := false) [go_sem, f1, f3, f5, f7, f8, f9, m0, m1, m7]
        refine runL_draw [[], [], [], [0, 1, 2], [], [], [], [4, 5, 6, 3, 0, 1, 2], [3, 0, 1, 2, 7, 4, 5, 6], [8, 3, 0, 1, 2, 7, 4, 5, 6], [9, 8, 3, 0, 1, 2, 7, 4, 5, 6], [9, 8, 3, 0, 1, 2, 7, 4, 5, 6], [9, 8, 3, 0, 1, 2, 7, 4, 5, 6], [10, 9, 8, 3, 0, 1, 2, 7, 4, 5, 6, 11, 12], [9, 8, 3, 0, 1, 2, 7, 4, 5, 6], [9, 8, 3, 0, 1, 2, 7, 4, 5, 6], [9, 8, 3, 0, 1, 2, 7, 4, 5, 6], [14, 9, 8, 3, 0, 1, 2, 7, 4, 5, 6, 15, 16, 13, 10, 11, 12], [13, 10, 9, 8, 3, 0, 1, 2, 7, 4, 5, 6, 11, 12, 17, 14, 15, 16], [18, 13, 10, 9, 8, 3, 0, 1, 2, 7, 4, 5, 6, 11, 12, 17, 14, 15, 16], [9, 8, 3, 0, 1, 2, 7, 4, 5, 6, 19, 18, 13, 10, 11, 12, 17, 14, 15, 16]] (by kernel_rfl) (by kernel_rfl) ?_
        simp (dsimp := false) (implicitDefEqProofs := false) [go_sem, f1, f3, f5, f7, f8, f9, m0, m1, m7, Tv, Cw, silentAt, silentOp, twoF]
        refine callW_f (heatShare_pure s ok (placV s) ok.p1 ((k : Int) - 1)) ?_
        simp (dsimp := false) (implicitDefEqProofs := false) [go_sem, f1, f3, f5, f7, f8, f9, m0, m1, m7, Tv, Cw, silentAt, silentOp, twoF]
        refine callW_f (refShare_pure s ok (placV s) ok.p1 ((k : Int) - 1)) ?_
        simp (dsimp := false) (implicitDefEqProofs := false) [go_sem, f1, f3, f5, f7, f8, f9, m0, m1, m7, Tv, Cw, silentAt, silentOp, twoF]
        refine callW_f (heatPods_pure s ok (placV s) ok.p1 ((k : Int) - 1)) ?_
        simp (dsimp := false) (implicitDefEqProofs := false) [go_sem, f1, f3, f5, f7, f8, f9, m0, m1, m7, Tv, Cw, silentAt, silentOp, twoF]
        refine callW_f (refPods_pure s ok (placV s) ok.p1 ((k : Int) - 1)) ?_
        simp (dsimp := false) (implicitDefEqProofs := false) [go_sem, f1, f3, f5, f7, f8, f9, m0, m1, m7, Tv, Cw, silentAt, silentOp, twoF]
        refine callW_f (eqList_pure _ (Nat.le_trans (podsV_len _ _ _) ok.p1)) ?_
        simp (dsimp := false) (implicitDefEqProofs := false) [go_sem, f1, f3, f5, f7, f8, f9, m0, m1, m7, Tv, Cw, silentAt, silentOp, twoF]
        exact ⟨_, by omega, k + 1, by omega, rfl, by rw [w64 (by omega) (by omega)]; omega⟩
    · simp (dsimp := false) (implicitDefEqProofs := false) [go_sem, f1, f3, f5, f7, f8, f9, m0, m1, m7, hge]
      refine runL_draw [[], [], [], [2], [0, 1, 3, 2], [], [], [], [7], [5, 6, 8, 7, 4, 0, 1, 3, 2], [4, 0, 1, 3, 2, 9, 5, 6, 8, 7], [10, 4, 0, 1, 3, 2, 9, 5, 6, 8, 7], [11, 10, 4, 0, 1, 3, 2, 9, 5, 6, 8, 7], [12, 11, 10, 4, 0, 1, 3, 2, 9, 5, 6, 8, 7], [12, 11, 10, 4, 0, 1, 3, 2, 9, 5, 6, 8, 7], [12, 11, 10, 4, 0, 1, 3, 2, 9, 5, 6, 8, 7], [15, 12, 11, 10, 4, 0, 1, 3, 2, 9, 5, 6, 8, 7], [13, 12, 11, 10, 4, 0, 1, 3, 2, 9, 5, 6, 8, 7, 14, 16, 15], [12, 11, 10, 4, 0, 1, 3, 2, 9, 5, 6, 8, 7], [12, 11, 10, 4, 0, 1, 3, 2, 9, 5, 6, 8, 7], [12, 11, 10, 4, 0, 1, 3, 2, 9, 5, 6, 8, 7], [20, 12, 11, 10, 4, 0, 1, 3, 2, 9, 5, 6, 8, 7], [18, 12, 11, 10, 4, 0, 1, 3, 2, 9, 5, 6, 8, 7, 19, 21, 20, 17, 13, 14, 16, 15], [17, 13, 12, 11, 10, 4, 0, 1, 3, 2, 9, 5, 6, 8, 7, 14, 16, 15, 22, 18, 19, 21, 20], [23, 17, 13, 12, 11, 10, 4, 0, 1, 3, 2, 9, 5, 6, 8, 7, 14, 16, 15, 22, 18, 19, 21, 20], [12, 11, 10, 4, 0, 1, 3, 2, 9, 5, 6, 8, 7, 24, 23, 17, 13, 14, 16, 15, 22, 18, 19, 21, 20], [25, 12, 11, 10, 4, 0, 1, 3, 2, 9, 5, 6, 8, 7, 24, 23, 17, 13, 14, 16, 15, 22, 18, 19, 21, 20], [26, 25, 12, 11, 10, 4, 0, 1, 3, 2, 9, 5, 6, 8, 7, 24, 23, 17, 13, 14, 16, 15, 22, 18, 19, 21, 20], [26, 25, 12, 11, 10, 4, 0, 1, 3, 2, 9, 5, 6, 8, 7, 24, 23, 17, 13, 14, 16, 15, 22, 18, 19, 21, 20], [27, 26, 25, 12, 11, 10, 4, 0, 1, 3, 2, 9, 5, 6, 8, 7, 24, 23, 17, 13, 14, 16, 15, 22, 18, 19, 21, 20, 28], [26, 25, 12, 11, 10, 4, 0, 1, 3, 2, 9, 5, 6, 8, 7, 24, 23, 17, 13, 14, 16, 15, 22, 18, 19, 21, 20], [26, 25, 12, 11, 10, 4, 0, 1, 3, 2, 9, 5, 6, 8, 7, 24, 23, 17, 13, 14, 16, 15, 22, 18, 19, 21, 20], [30, 26, 25, 12, 11, 10, 4, 0, 1, 3, 2, 9, 5, 6, 8, 7, 24, 23, 17, 13, 14, 16, 15, 22, 18, 19, 21, 20, 31, 29, 27, 28], [29, 27, 26, 25, 12, 11, 10, 4, 0, 1, 3, 2, 9, 5, 6, 8, 7, 24, 23, 17, 13, 14, 16, 15, 22, 18, 19, 21, 20, 28, 32, 30, 31], [33, 29, 27, 26, 25, 12, 11, 10, 4, 0, 1, 3, 2, 9, 5, 6, 8, 7, 24, 23, 17, 13, 14, 16, 15, 22, 18, 19, 21, 20, 28, 32, 30, 31], [26, 25, 12, 11, 10, 4, 0, 1, 3, 2, 9, 5, 6, 8, 7, 24, 23, 17, 13, 14, 16, 15, 22, 18, 19, 21, 20, 34, 33, 29, 27, 28, 32, 30, 31]] (by kernel_rfl) (by kernel_rfl) ?_
      simp (dsimp := false) (implicitDefEqProofs := false) [go_sem, f1, f3, f5, f7, f8, f9, m0, m1, m7, Tv, Cw, silentAt, silentOp]
      refine callW_f (hLow s ok (placV s) ok.p1 g) ?_
      simp (dsimp := false) (implicitDefEqProofs := false) [go_sem, f1, f3, f5, f7, f8, f9, m0, m1, m7, Tv, Cw, silentAt, silentOp]
      refine callW_f (refLow_pure s ok (placV s) ok.p1 g) ?_
      simp (dsimp := false) (implicitDefEqProofs := false) [go_sem, f1, f3, f5, f7, f8, f9, m0, m1, m7, Tv, Cw, silentAt, silentOp]
      refine callW_f (eqList_pure _ (Nat.le_trans (lowV_len _ _ _) ok.n1)) ?_
      simp (dsimp := false) (implicitDefEqProofs := false) [go_sem, f1, f3, f5, f7, f8, f9, m0, m1, m7, Tv, Cw, silentAt, silentOp]
      refine callW_f (hHigh s ok (placV s) ok.p1 g) ?_
      simp (dsimp := false) (implicitDefEqProofs := false) [go_sem, f1, f3, f5, f7, f8, f9, m0, m1, m7, Tv, Cw, silentAt, silentOp]
      refine callW_f (refHigh_pure s ok (placV s) ok.p1 g) ?_
      simp (dsimp := false) (implicitDefEqProofs := false) [go_sem, f1, f3, f5, f7, f8, f9, m0, m1, m7, Tv, Cw, silentAt, silentOp]
      refine callW_f (eqList_pure _ (Nat.le_trans (highV_len _ _ _) ok.n1)) ?_
      simp (dsimp := false) (implicitDefEqProofs := false) [go_sem, f1, f3, f5, f7, f8, f9, m0, m1, m7, Tv, Cw, silentAt, silentOp]
      refine callW_f (hIdle s ok (placV s) ok.p1) ?_
      simp (dsimp := false) (implicitDefEqProofs := false) [go_sem, f1, f3, f5, f7, f8, f9, m0, m1, m7, Tv, Cw, silentAt, silentOp]
      refine callW_f (refIdle_pure s ok (placV s) ok.p1) ?_
      simp (dsimp := false) (implicitDefEqProofs := false) [go_sem, f1, f3, f5, f7, f8, f9, m0, m1, m7, Tv, Cw, silentAt, silentOp]
      refine callW_f (eqList_pure _ (Nat.le_trans (idleV_len _ _) ok.n1)) ?_
      simp (dsimp := false) (implicitDefEqProofs := false) [go_sem, f1, f3, f5, f7, f8, f9, m0, m1, m7, Tv, Cw, silentAt, silentOp]
      refine callW_f (same_pure s ok) ?_
      simp (dsimp := false) (implicitDefEqProofs := false) [go_sem, f1, f3, f5, f7, f8, f9, m0, m1, m7, Tv, Cw, silentAt, silentOp]
      refine callW_f (eqInts_self _ ok.p1) ?_
      simp (dsimp := false) (implicitDefEqProofs := false) [go_sem, f1, f3, f5, f7, f8, f9, m0, m1, m7, Tv, Cw, silentAt, silentOp]
      refine callW_f hWorks ?_
      simp (dsimp := false) (implicitDefEqProofs := false) [go_sem, f1, f3, f5, f7, f8, f9, m0, m1, m7, Tv, Cw, silentAt, silentOp]
  · have hq : min l.n 30 ≤ 1048576 := by omega
    simp (dsimp := false) (implicitDefEqProofs := false) [go_sem]
    refine callW_f (copy_pure s ok) ?_
    simp (dsimp := false) (implicitDefEqProofs := false) [go_sem]
    refine callW_f (copyInts_pure ⟨min l.n 30, l.el⟩ hq) ?_
    simp (dsimp := false) (implicitDefEqProofs := false) [go_sem, snapF, snapC]
    refine runL_loop [] 24 (by simp (dsimp := false) (implicitDefEqProofs := false) [go_sem]) (fun m st => ∃ k : Nat, st.n = 105 ∧ st.lit = false ∧ k ≤ 10 ∧ m = 10 - k ∧ st.fr 1 = .f (intsF ⟨min l.n 30, l.el⟩) ∧ st.fr 3 = .loc 0 0 ∧ st.fr 5 = .loc 1 0 ∧ st.fr 7 = .loc 20 0 ∧ st.fr 8 = .f (intsF ⟨min l.n 30, l.el⟩) ∧ st.fr 9 = .f (I ((k : Int) - 1)) ∧
      st.mem 0 = some (.blk [.f (nodesF s.nodes), .f (podsF s.pods), .f (ownersF s.owners)]) ∧ st.mem 1 = some (.blk [.f (I (g.low 0)), .f (I (g.low 1)), .f (I (g.high 0)), .f (I (g.high 1)), .f (I g.on), .f (.v (.slice none 0 0)), .f (I g.max), .f (I g.tries), .f (B g.roll), .f (I node)]) ∧
      st.mem 20 = some (.blk [.f (nodesF s.nodes), .f (podsF s.pods), .f (ownersF s.owners)])) 10 ⟨0, ?_⟩ ?_
    · simp (dsimp := false) (implicitDefEqProofs := false) [go_sem]
    rintro m ⟨N, fr, mem, nx, lt⟩ hnx ⟨k, hN, hlt, hj, rfl, f1, f3, f5, f7, f8, f9, m0, m1, m7⟩
    dsimp only at *
    subst hN hnx hlt
    simp (dsimp := false) (implicitDefEqProofs := false) [go_sem, f9]
    refine gif_dec (fun hlt => ?_) (fun hge => ?_)
    · simp (dsimp := false) (implicitDefEqProofs := false) [go_sem, f1, f3, f5, f7, f8, f9, m0, m1, m7, hlt]
      refine gif_dec (fun hneg => ?_) (fun hneg => ?_)
      · simp (dsimp := false) (implicitDefEqProofs := false) [go_sem, f1, f3, f5, f7, f8, f9, m0, m1, m7]
        refine runL_draw [[], [], [], [0, 1, 2], [], [], [], [4, 5, 6, 3, 0, 1, 2], [3, 0, 1, 2, 7, 4, 5, 6], [8, 3, 0, 1, 2, 7, 4, 5, 6], [9, 8, 3, 0, 1, 2, 7, 4, 5, 6], [9, 8, 3, 0, 1, 2, 7, 4, 5, 6], [9, 8, 3, 0, 1, 2, 7, 4, 5, 6], [10, 9, 8, 3, 0, 1, 2, 7, 4, 5, 6, 11, 12], [9, 8, 3, 0, 1, 2, 7, 4, 5, 6], [9, 8, 3, 0, 1, 2, 7, 4, 5, 6], [9, 8, 3, 0, 1, 2, 7, 4, 5, 6], [14, 9, 8, 3, 0, 1, 2, 7, 4, 5, 6, 15, 16, 13, 10, 11, 12], [13, 10, 9, 8, 3, 0, 1, 2, 7, 4, 5, 6, 11, 12, 17, 14, 15, 16], [18, 13, 10, 9, 8, 3, 0, 1, 2, 7, 4, 5, 6, 11, 12, 17, 14, 15, 16], [9, 8, 3, 0, 1, 2, 7, 4, 5, 6, 19, 18, 13, 10, 11, 12, 17, 14, 15, 16]] (by kernel_rfl) (by kernel_rfl) ?_
        simp (dsimp := false) (implicitDefEqProofs := false) [go_sem, f1, f3, f5, f7, f8, f9, m0, m1, m7, Tv, Cw, silentAt, silentOp, twoF]
        refine callW_f (heatShare_pure s ok ⟨min l.n 30, l.el⟩ hq node) ?_
        simp (dsimp := false) (implicitDefEqProofs := false) [go_sem, f1, f3, f5, f7, f8, f9, m0, m1, m7, Tv, Cw, silentAt, silentOp, twoF]
        refine callW_f (refShare_pure s ok ⟨min l.n 30, l.el⟩ hq node) ?_
        simp (dsimp := false) (implicitDefEqProofs := false) [go_sem, f1, f3, f5, f7, f8, f9, m0, m1, m7, Tv, Cw, silentAt, silentOp, twoF]
        refine callW_f (heatPods_pure s ok ⟨min l.n 30, l.el⟩ hq node) ?_
        simp (dsimp := false) (implicitDefEqProofs := false) [go_sem, f1, f3, f5, f7, f8, f9, m0, m1, m7, Tv, Cw, silentAt, silentOp, twoF]
        refine callW_f (refPods_pure s ok ⟨min l.n 30, l.el⟩ hq node) ?_
        simp (dsimp := false) (implicitDefEqProofs := false) [go_sem, f1, f3, f5, f7, f8, f9, m0, m1, m7, Tv, Cw, silentAt, silentOp, twoF]
        refine callW_f (eqList_pure _ (Nat.le_trans (podsV_len _ _ _) hq)) ?_
        simp (dsimp := false) (implicitDefEqProofs := false) [go_sem, f1, f3, f5, f7, f8, f9, m0, m1, m7, Tv, Cw, silentAt, silentOp, twoF]
        exact ⟨_, by omega, k + 1, by omega, rfl, by rw [w64 (by omega) (by omega)]; omega⟩
      · simp (dsimp := false) (implicitDefEqProofs := false) [go_sem, f1, f3, f5, f7, f8, f9, m0, m1, m7]
        refine runL_draw [[], [], [], [0, 1, 2], [], [], [], [4, 5, 6, 3, 0, 1, 2], [3, 0, 1, 2, 7, 4, 5, 6], [8, 3, 0, 1, 2, 7, 4, 5, 6], [9, 8, 3, 0, 1, 2, 7, 4, 5, 6], [9, 8, 3, 0, 1, 2, 7, 4, 5, 6], [9, 8, 3, 0, 1, 2, 7, 4, 5, 6], [10, 9, 8, 3, 0, 1, 2, 7, 4, 5, 6, 11, 12], [9, 8, 3, 0, 1, 2, 7, 4, 5, 6], [9, 8, 3, 0, 1, 2, 7, 4, 5, 6], [9, 8, 3, 0, 1, 2, 7, 4, 5, 6], [14, 9, 8, 3, 0, 1, 2, 7, 4, 5, 6, 15, 16, 13, 10, 11, 12], [13, 10, 9, 8, 3, 0, 1, 2, 7, 4, 5, 6, 11, 12, 17, 14, 15, 16], [18, 13, 10, 9, 8, 3, 0, 1, 2, 7, 4, 5, 6, 11, 12, 17, 14, 15, 16], [9, 8, 3, 0, 1, 2, 7, 4, 5, 6, 19, 18, 13, 10, 11, 12, 17, 14, 15, 16]] (by kernel_rfl) (by kernel_rfl) ?_
        simp (dsimp := false) (implicitDefEqProofs := false) [go_sem, f1, f3, f5, f7, f8, f9, m0, m1, m7, Tv, Cw, silentAt, silentOp, twoF]
        refine callW_f (heatShare_pure s ok ⟨min l.n 30, l.el⟩ hq ((k : Int) - 1)) ?_
        simp (dsimp := false) (implicitDefEqProofs := false) [go_sem, f1, f3, f5, f7, f8, f9, m0, m1, m7, Tv, Cw, silentAt, silentOp, twoF]
        refine callW_f (refShare_pure s ok ⟨min l.n 30, l.el⟩ hq ((k : Int) - 1)) ?_
        simp (dsimp := false) (implicitDefEqProofs := false) [go_sem, f1, f3, f5, f7, f8, f9, m0, m1, m7, Tv, Cw, silentAt, silentOp, twoF]
        refine callW_f (heatPods_pure s ok ⟨min l.n 30, l.el⟩ hq ((k : Int) - 1)) ?_
        simp (dsimp := false) (implicitDefEqProofs := false) [go_sem, f1, f3, f5, f7, f8, f9, m0, m1, m7, Tv, Cw, silentAt, silentOp, twoF]
        refine callW_f (refPods_pure s ok ⟨min l.n 30, l.el⟩ hq ((k : Int) - 1)) ?_
        simp (dsimp := false) (implicitDefEqProofs := false) [go_sem, f1, f3, f5, f7, f8, f9, m0, m1, m7, Tv, Cw, silentAt, silentOp, twoF]
        refine callW_f (eqList_pure _ (Nat.le_trans (podsV_len _ _ _) hq)) ?_
        simp (dsimp := false) (implicitDefEqProofs := false) [go_sem, f1, f3, f5, f7, f8, f9, m0, m1, m7, Tv, Cw, silentAt, silentOp, twoF]
        exact ⟨_, by omega, k + 1, by omega, rfl, by rw [w64 (by omega) (by omega)]; omega⟩
    · simp (dsimp := false) (implicitDefEqProofs := false) [go_sem, f1, f3, f5, f7, f8, f9, m0, m1, m7, hge]
      refine runL_draw [[], [], [], [2], [0, 1, 3, 2], [], [], [], [7], [5, 6, 8, 7, 4, 0, 1, 3, 2], [4, 0, 1, 3, 2, 9, 5, 6, 8, 7], [10, 4, 0, 1, 3, 2, 9, 5, 6, 8, 7], [11, 10, 4, 0, 1, 3, 2, 9, 5, 6, 8, 7], [12, 11, 10, 4, 0, 1, 3, 2, 9, 5, 6, 8, 7], [12, 11, 10, 4, 0, 1, 3, 2, 9, 5, 6, 8, 7], [12, 11, 10, 4, 0, 1, 3, 2, 9, 5, 6, 8, 7], [15, 12, 11, 10, 4, 0, 1, 3, 2, 9, 5, 6, 8, 7], [13, 12, 11, 10, 4, 0, 1, 3, 2, 9, 5, 6, 8, 7, 14, 16, 15], [12, 11, 10, 4, 0, 1, 3, 2, 9, 5, 6, 8, 7], [12, 11, 10, 4, 0, 1, 3, 2, 9, 5, 6, 8, 7], [12, 11, 10, 4, 0, 1, 3, 2, 9, 5, 6, 8, 7], [20, 12, 11, 10, 4, 0, 1, 3, 2, 9, 5, 6, 8, 7], [18, 12, 11, 10, 4, 0, 1, 3, 2, 9, 5, 6, 8, 7, 19, 21, 20, 17, 13, 14, 16, 15], [17, 13, 12, 11, 10, 4, 0, 1, 3, 2, 9, 5, 6, 8, 7, 14, 16, 15, 22, 18, 19, 21, 20], [23, 17, 13, 12, 11, 10, 4, 0, 1, 3, 2, 9, 5, 6, 8, 7, 14, 16, 15, 22, 18, 19, 21, 20], [12, 11, 10, 4, 0, 1, 3, 2, 9, 5, 6, 8, 7, 24, 23, 17, 13, 14, 16, 15, 22, 18, 19, 21, 20], [25, 12, 11, 10, 4, 0, 1, 3, 2, 9, 5, 6, 8, 7, 24, 23, 17, 13, 14, 16, 15, 22, 18, 19, 21, 20], [26, 25, 12, 11, 10, 4, 0, 1, 3, 2, 9, 5, 6, 8, 7, 24, 23, 17, 13, 14, 16, 15, 22, 18, 19, 21, 20], [26, 25, 12, 11, 10, 4, 0, 1, 3, 2, 9, 5, 6, 8, 7, 24, 23, 17, 13, 14, 16, 15, 22, 18, 19, 21, 20], [27, 26, 25, 12, 11, 10, 4, 0, 1, 3, 2, 9, 5, 6, 8, 7, 24, 23, 17, 13, 14, 16, 15, 22, 18, 19, 21, 20, 28], [26, 25, 12, 11, 10, 4, 0, 1, 3, 2, 9, 5, 6, 8, 7, 24, 23, 17, 13, 14, 16, 15, 22, 18, 19, 21, 20], [26, 25, 12, 11, 10, 4, 0, 1, 3, 2, 9, 5, 6, 8, 7, 24, 23, 17, 13, 14, 16, 15, 22, 18, 19, 21, 20], [30, 26, 25, 12, 11, 10, 4, 0, 1, 3, 2, 9, 5, 6, 8, 7, 24, 23, 17, 13, 14, 16, 15, 22, 18, 19, 21, 20, 31, 29, 27, 28], [29, 27, 26, 25, 12, 11, 10, 4, 0, 1, 3, 2, 9, 5, 6, 8, 7, 24, 23, 17, 13, 14, 16, 15, 22, 18, 19, 21, 20, 28, 32, 30, 31], [33, 29, 27, 26, 25, 12, 11, 10, 4, 0, 1, 3, 2, 9, 5, 6, 8, 7, 24, 23, 17, 13, 14, 16, 15, 22, 18, 19, 21, 20, 28, 32, 30, 31], [26, 25, 12, 11, 10, 4, 0, 1, 3, 2, 9, 5, 6, 8, 7, 24, 23, 17, 13, 14, 16, 15, 22, 18, 19, 21, 20, 34, 33, 29, 27, 28, 32, 30, 31]] (by kernel_rfl) (by kernel_rfl) ?_
      simp (dsimp := false) (implicitDefEqProofs := false) [go_sem, f1, f3, f5, f7, f8, f9, m0, m1, m7, Tv, Cw, silentAt, silentOp]
      refine callW_f (hLow s ok ⟨min l.n 30, l.el⟩ hq g) ?_
      simp (dsimp := false) (implicitDefEqProofs := false) [go_sem, f1, f3, f5, f7, f8, f9, m0, m1, m7, Tv, Cw, silentAt, silentOp]
      refine callW_f (refLow_pure s ok ⟨min l.n 30, l.el⟩ hq g) ?_
      simp (dsimp := false) (implicitDefEqProofs := false) [go_sem, f1, f3, f5, f7, f8, f9, m0, m1, m7, Tv, Cw, silentAt, silentOp]
      refine callW_f (eqList_pure _ (Nat.le_trans (lowV_len _ _ _) ok.n1)) ?_
      simp (dsimp := false) (implicitDefEqProofs := false) [go_sem, f1, f3, f5, f7, f8, f9, m0, m1, m7, Tv, Cw, silentAt, silentOp]
      refine callW_f (hHigh s ok ⟨min l.n 30, l.el⟩ hq g) ?_
      simp (dsimp := false) (implicitDefEqProofs := false) [go_sem, f1, f3, f5, f7, f8, f9, m0, m1, m7, Tv, Cw, silentAt, silentOp]
      refine callW_f (refHigh_pure s ok ⟨min l.n 30, l.el⟩ hq g) ?_
      simp (dsimp := false) (implicitDefEqProofs := false) [go_sem, f1, f3, f5, f7, f8, f9, m0, m1, m7, Tv, Cw, silentAt, silentOp]
      refine callW_f (eqList_pure _ (Nat.le_trans (highV_len _ _ _) ok.n1)) ?_
      simp (dsimp := false) (implicitDefEqProofs := false) [go_sem, f1, f3, f5, f7, f8, f9, m0, m1, m7, Tv, Cw, silentAt, silentOp]
      refine callW_f (hIdle s ok ⟨min l.n 30, l.el⟩ hq) ?_
      simp (dsimp := false) (implicitDefEqProofs := false) [go_sem, f1, f3, f5, f7, f8, f9, m0, m1, m7, Tv, Cw, silentAt, silentOp]
      refine callW_f (refIdle_pure s ok ⟨min l.n 30, l.el⟩ hq) ?_
      simp (dsimp := false) (implicitDefEqProofs := false) [go_sem, f1, f3, f5, f7, f8, f9, m0, m1, m7, Tv, Cw, silentAt, silentOp]
      refine callW_f (eqList_pure _ (Nat.le_trans (idleV_len _ _) ok.n1)) ?_
      simp (dsimp := false) (implicitDefEqProofs := false) [go_sem, f1, f3, f5, f7, f8, f9, m0, m1, m7, Tv, Cw, silentAt, silentOp]
      refine callW_f (same_pure s ok) ?_
      simp (dsimp := false) (implicitDefEqProofs := false) [go_sem, f1, f3, f5, f7, f8, f9, m0, m1, m7, Tv, Cw, silentAt, silentOp]
      refine callW_f (eqInts_self _ hq) ?_
      simp (dsimp := false) (implicitDefEqProofs := false) [go_sem, f1, f3, f5, f7, f8, f9, m0, m1, m7, Tv, Cw, silentAt, silentOp]
      refine callW_f hWorks ?_
      simp (dsimp := false) (implicitDefEqProofs := false) [go_sem, f1, f3, f5, f7, f8, f9, m0, m1, m7, Tv, Cw, silentAt, silentOp]
end Go.Proofs.YtipacbaapkdnaaaGreat
end
section
namespace Go.Proofs.YtipacbaapkdnaaaGreat
open Go.RowKit Go.Dk Go.Dn
def str1 (c : UInt8) : ByteArray := ⟨#[c]⟩
def noLabs : Lst LabD := ⟨0, fun _ => ⟨e0, e0⟩⟩
def noTerms : Lst TermD := ⟨0, fun _ => ⟨0, e0, e0⟩⟩
def exNode (c : UInt8) (a b : Int) : NodeD := ⟨str1 c, five a b 0 0 0, noLabs, noLabs, false, false⟩
def exPod (c : UInt8) (a b : Int) : PodD := ⟨str1 c, e0, five a b 0 0 0, noLabs, noTerms, noLabs, e0, noTerms, e0, noTerms, e0⟩
def exSnap : SnapD := ⟨⟨2, fun k => if k = 0 then exNode 97 100 100 else exNode 98 100 0⟩, ⟨2, fun k => if k = 0 then exPod 112 30 10 else exPod 113 90 1⟩, ⟨0, fun _ => ⟨e0, 0, e0, 0, false⟩⟩⟩
def two' (a b : Int) : Lst Int := ⟨2, fun k => if k = 0 then a else b⟩
abbrev nilF : FD := .v (.slice none 0 0)
def exNodeC (c : UInt8) (a b : Int) : List FD := [S (str1 c), I a, I b, I 0, I 0, I 0, nilF, nilF, B false, B false]
def exPodC (c : UInt8) (a b : Int) : List FD := [S (str1 c), S e0, I a, I b, I 0, I 0, I 0, nilF, nilF, nilF, S e0, nilF, S e0, nilF, S e0]
/-- the cluster, as the text writes it -/
def exF : FD := .agg [.sl 10 [exNodeC 97 100 100, exNodeC 98 100 0], .sl 15 [exPodC 112 30 10, exPodC 113 90 1], nilF]
theorem exF_le : FLe exF (snapF exSnap) := by
  refine FLe.agg (FLeL.cons (FLe.sl (FLeLL.cons ?_ (FLeLL.cons ?_ (FLeLL.refl _)))) (FLeL.cons (FLe.sl (FLeLL.cons ?_ (FLeLL.cons ?_ (FLeLL.refl _)))) (FLeL.cons (FLe.nil _) (FLeL.refl _))))
  all_goals (repeat' (first | exact FLeL.refl [] | refine FLeL.cons ?_ ?_))
  all_goals first | exact FLe.refl _ | exact FLe.nil _
theorem two_F (a b : Int) : (.sl 1 [[I a], [I b]] : FD) = intsF (two' a b) := rfl
theorem labs0_ok : LabsOk noLabs := ⟨by decide, fun k hk => absurd hk (Nat.not_lt_zero k)⟩
theorem terms0_ok : TermsOk noTerms := ⟨by decide, fun k hk => absurd hk (Nat.not_lt_zero k)⟩
theorem str1_ok (c : UInt8) : Sm (str1 c) := by unfold Sm str1; show 1 ≤ 1048576; decide
theorem e0_ok : Sm e0 := by unfold Sm e0; decide
theorem exNode_ok (c : UInt8) (a b : Int) : NodeOk (exNode c a b) := ⟨str1_ok c, labs0_ok, labs0_ok⟩
theorem exPod_ok (c : UInt8) (a b : Int) : PodOk (exPod c a b) := ⟨⟨str1_ok c, e0_ok, e0_ok, e0_ok, e0_ok⟩, labs0_ok, terms0_ok, labs0_ok, terms0_ok, terms0_ok⟩
theorem exSnap_ok : SnapOk exSnap :=
  ⟨by decide, fun k _ => by show NodeOk (if k = 0 then exNode 97 100 100 else exNode 98 100 0); split <;> exact exNode_ok _ _ _, by decide, fun k _ => by show PodOk (if k = 0 then exPod 112 30 10 else exPod 113 90 1); split <;> exact exPod_ok _ _ _, by decide, fun k hk => absurd hk (Nat.not_lt_zero k)⟩
theorem ex_args {ds : List FD} : FLeL (exF :: ds) (snapF exSnap :: ds) := FLeL.cons exF_le (FLeL.refl _)
theorem ex_share (a b k : Int) (x y : Int) (hx : shV exSnap (two' a b) k 0 = x) (hy : shV exSnap (two' a b) k 1 = y) : Pure Tryz.prog 10 [exF, .sl 1 [[I a], [I b]], I k] (twoF x y) := by
  subst hx hy
  exact Pure.of_le (heatShare_pure exSnap exSnap_ok (two' a b) (show 2 ≤ 1048576 by decide) k) ex_args
def exGoal (a b c d : Int) : GoalD := ⟨fun i => if i = 0 then a else b, fun i => if i = 0 then c else d, 0, 0, 0, false⟩
theorem works_pure
    (hLow : ∀ (s : SnapD), SnapOk s → ∀ (l : Lst Int), l.n ≤ 1048576 → ∀ g, Pure Tryz.prog 15 [snapF s, intsF l, goalF g] (listF (lowV s l g)))
    (hHigh : ∀ (s : SnapD), SnapOk s → ∀ (l : Lst Int), l.n ≤ 1048576 → ∀ g, Pure Tryz.prog 17 [snapF s, intsF l, goalF g] (listF (highV s l g)))
    (hIdle : ∀ (s : SnapD), SnapOk s → ∀ (l : Lst Int), l.n ≤ 1048576 → Pure Tryz.prog 19 [snapF s, intsF l] (listF (idleV s l))) :
    Pure Tryz.prog 22 [] (B true) := by
  have eLow : Pure Tryz.prog 15 [exF, .sl 1 [[I 0], [I 1]], .agg [I 400, I 400, I 1000, I 1000, I 0, nilF, I 0, I 0, B false]] (listF [0]) := by
    have h := Pure.of_le (hLow exSnap exSnap_ok (two' 0 1) (show 2 ≤ 1048576 by decide) (exGoal 400 400 1000 1000)) ex_args
    rw [show lowV exSnap (two' 0 1) (exGoal 400 400 1000 1000) = [0] by decide +kernel] at h
    exact h
  have eHigh : Pure Tryz.prog 17 [exF, .sl 1 [[I 0], [I 1]], .agg [I 0, I 0, I 500, I 0, I 0, nilF, I 0, I 0, B false]] (listF [1]) := by
    have h := Pure.of_le (hHigh exSnap exSnap_ok (two' 0 1) (show 2 ≤ 1048576 by decide) (exGoal 0 0 500 0)) ex_args
    rw [show highV exSnap (two' 0 1) (exGoal 0 0 500 0) = [1] by decide +kernel] at h
    exact h
  have eIdle : Pure Tryz.prog 19 [exF, .sl 1 [[I 0], [I (-1)]]] (listF [1]) := by
    have h := Pure.of_le (hIdle exSnap exSnap_ok (two' 0 (-1)) (show 2 ≤ 1048576 by decide)) ex_args
    rw [show idleV exSnap (two' 0 (-1)) = [1] by decide +kernel] at h
    exact h
  refine Pure.of_run (lit := true) Tryz.func22 rfl rfl rfl rfl (Nat.le_of_ble_eq_true rfl) (run_of_runL ?_)
  unfold St.enter
  simp (dsimp := false) (implicitDefEqProofs := false) [go_sem]
  refine callW_f (ex_share 0 (-1) 0 300 100 (by decide +kernel) (by decide +kernel)) ?_
  simp (dsimp := false) (implicitDefEqProofs := false) [go_sem, twoF]
  refine callW_f (ex_share 1 1 1 1200 1000 (by decide +kernel) (by decide +kernel)) ?_
  simp (dsimp := false) (implicitDefEqProofs := false) [go_sem, twoF]
  refine callW_f (ex_share 0 0 2 0 0 (by decide +kernel) (by decide +kernel)) ?_
  simp (dsimp := false) (implicitDefEqProofs := false) [go_sem, twoF]
  refine callW_f eLow ?_
  simp (dsimp := false) (implicitDefEqProofs := false) [go_sem]
  refine callW_f eHigh ?_
  simp (dsimp := false) (implicitDefEqProofs := false) [go_sem]
  refine callW_f (eqList_pure [0] (by decide)) ?_
  simp (dsimp := false) (implicitDefEqProofs := false) [go_sem]
  refine callW_f (eqList_pure [1] (by decide)) ?_
  simp (dsimp := false) (implicitDefEqProofs := false) [go_sem]
  refine callW_f eIdle ?_
  simp (dsimp := false) (implicitDefEqProofs := false) [go_sem]
  refine callW_f (eqList_pure [1] (by decide)) ?_
  simp (dsimp := false) (implicitDefEqProofs := false) [go_sem]
end Go.Proofs.YtipacbaapkdnaaaGreat
end
