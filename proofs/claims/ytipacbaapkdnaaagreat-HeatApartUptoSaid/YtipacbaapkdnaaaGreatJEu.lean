/- HeatApart, as a contract of data. -/
import Derived.Test.YtipacbaapkdnaaaGreatJXg
import Derived.Test.YtipacbaapkdnaaaGreatJXd
import Derived.Test.YtipacbaapkdnaaaGreatJXa
set_option linter.unusedSimpArgs false
set_option linter.unusedVariables false
namespace Go.Proofs.YtipacbaapkdnaaaGreat
open Go.RowKit Go.Dk Go.Dn

theorem runL_cut {P : Program} {a b : Code} {st : St} {k : Ex → St → Prop} {u : Lk k} (Mid : St → Prop) (h1 : runL P a st (fun e s => match e with
    | .normal => Mid s
    | e => k e s) ⟨⟩) (h2 : ∀ s, Mid s → runL P b s k ⟨⟩) : runL P (.seq a b) st k u :=
  run_mono a _ _ _ (fun e s h => by
    cases e with
    | normal => exact h2 s h
    | exit id => exact h
    | ret => exact h) h1
theorem opsLL_cut {P : Program} {ops : Array Oper} {base i : Nat} {l : List Oper} {st : St} {K : St → Prop} {u : Lk K} (Mid : St → Prop) (h1 : opsLL P ops base i l st Mid ⟨⟩) (h2 : ∀ s, Mid s → K s) : opsLL P ops base i l st K u := opsL_mono h2 l i st h1
def goalD (g : GoalD) : List D := [.f (I (g.low 0)), .f (I (g.low 1)), .f (I (g.high 0)), .f (I (g.high 1)), .f (I g.on), .f (.v (.slice none 0 0)), .f (I g.max), .f (I g.tries), .f (B g.roll)]
theorem goalD_clean (b : Nat) (g : GoalD) : (goalD g).map (clean b) = goalD g := rfl
attribute [local go_sem] goalD_clean
theorem lowI_pure (s : SnapD) (ok : SnapOk s) (l : Lst Int) (hl : l.n ≤ 1048576) (g : GoalD) : Pure Tryz.prog 15 [snapF s, intsF l, goalF g] (intsF (ofL (lowV s l g))) := by
  rw [listF_of]; exact heatLow_pure s ok l hl g
theorem highI_pure (s : SnapD) (ok : SnapOk s) (l : Lst Int) (hl : l.n ≤ 1048576) (g : GoalD) : Pure Tryz.prog 17 [snapF s, intsF l, goalF g] (intsF (ofL (highV s l g))) := by
  rw [listF_of]; exact heatHigh_pure s ok l hl g
theorem idleI_pure (s : SnapD) (ok : SnapOk s) (l : Lst Int) (hl : l.n ≤ 1048576) : Pure Tryz.prog 19 [snapF s, intsF l] (intsF (ofL (idleV s l))) := by
  rw [listF_of]; exact heatIdle_pure s ok l hl
theorem podsI_pure (s : SnapD) (ok : SnapOk s) (l : Lst Int) (hl : l.n ≤ 1048576) (x : Int) : Pure Tryz.prog 13 [snapF s, intsF l, I x] (intsF (ofL (podsV s l x))) := by
  rw [listF_of]; exact heatPods_pure s ok l hl x

set_option maxRecDepth 100000 in
set_option maxHeartbeats 8000000 in
theorem heatApart_pure (s : SnapD) (ok : SnapOk s) (a b c d : Int) : Pure Tryz.prog 5 [snapF s, .agg [I a, I b, I c, I d]] (B true) := by
  have hn1 := ok.n1
  have hp1 := ok.p1
  obtain ⟨p, hp⟩ : ∃ p, p = placV s := ⟨_, rfl⟩
  have hpn : p.n = s.pods.n := by rw [hp]; rfl
  have hpl : p.n ≤ 1048576 := by omega
  obtain ⟨g, hg⟩ : ∃ g, g = fairG a b c d := ⟨_, rfl⟩
  have hgm : goalE g = 0 := by rw [hg]; exact fair_may a b c d
  obtain ⟨hg0, hg1⟩ := fair_low a b c d
  rw [← hg] at hg0 hg1
  have pPlac := snapPlacement_pure s ok
  rw [← hp] at pPlac
  have pFair := fair_pure a b c d
  rw [← hg] at pFair
  refine Pure.of_run (lit := true) Tryz.func5 rfl rfl rfl rfl (Nat.le_of_ble_eq_true rfl) (run_of_runL ?_)
  unfold St.enter
  simp (dsimp := false) (implicitDefEqProofs := false) [go_sem, snapF, snapC]
  refine callW_f (works_pure heatLow_pure heatHigh_pure heatIdle_pure) ?_
  simp (dsimp := false) (implicitDefEqProofs := false) [go_sem]
  refine runL_draw [[], [0], [], [2, 1, 0], [], [1, 0, 3, 2, 4], [4, 3, 2, 1, 0, 5]] (by kernel_rfl) (by kernel_rfl) ?_
  simp (dsimp := false) (implicitDefEqProofs := false) [go_sem, Tv, Cw, silentAt, silentOp]
  refine callW_f pPlac ?_
  simp (dsimp := false) (implicitDefEqProofs := false) [go_sem, Tv, Cw, silentAt, silentOp]
  refine callW_f pFair ?_
  simp (dsimp := false) (implicitDefEqProofs := false) [go_sem, Tv, Cw, silentAt, silentOp, goalF, GoalD.cells]
  refine exWL_mk (andL_mk ⟨by kernel_rfl, by kernel_rfl⟩ ?_)
  simp (dsimp := false) (implicitDefEqProofs := false) [go_sem, Tv, Cw, silentAt, silentOp]
  refine exWL_mk (andL_mk ⟨by kernel_rfl, by kernel_rfl⟩ ?_)
  simp (dsimp := false) (implicitDefEqProofs := false) [go_sem, Tv, Cw, silentAt, silentOp]
  refine callW_f (placeCheck_pure s ok p hpl) ?_
  simp (dsimp := false) (implicitDefEqProofs := false) [go_sem]
  refine gif_split (fun hodd => ?_) (fun hmay => ?_)
  · have hodd : placeE s p ≠ 0 := by simpa using hodd
    have hmb : mayB s p = false := by unfold mayB; exact decide_eq_false hodd
    have e1 : lowV s p g = [] := by rw [lowV, if_neg (by simp [hmb])]
    have e2 : highV s p g = [] := by rw [highV, if_neg (by simp [hmb])]
    have e3 : idleV s p = [] := by rw [idleV, if_neg (by simp [hmb])]
    have p1 := heatLow_pure s ok p hpl g
    have p2 := heatHigh_pure s ok p hpl g
    have p3 := heatIdle_pure s ok p hpl
    rw [e1] at p1
    rw [e2] at p2
    rw [e3] at p3
    simp (dsimp := false) (implicitDefEqProofs := false) [go_sem]
    refine runL_draw [[], [], [], [0, 1, 2], [3, 0, 1, 2], [], [], [], [5, 6, 7, 3, 0, 1, 2], [8, 5, 6, 7, 3, 0, 1, 2], [4, 3, 0, 1, 2, 9, 8, 5, 6, 7], [], [], [11, 12, 8, 5, 6, 7, 3, 0, 1, 2], [13, 11, 12, 8, 5, 6, 7, 3, 0, 1, 2], [10, 4, 3, 0, 1, 2, 9, 8, 5, 6, 7, 14, 13, 11, 12], [15, 10, 4, 3, 0, 1, 2, 9, 8, 5, 6, 7, 14, 13, 11, 12], [16, 15, 10, 4, 3, 0, 1, 2, 9, 8, 5, 6, 7, 14, 13, 11, 12]] (by kernel_rfl) (by kernel_rfl) ?_
    simp (dsimp := false) (implicitDefEqProofs := false) [go_sem, Tv, Cw, silentAt, silentOp]
    refine callW_f p1 ?_
    simp (dsimp := false) (implicitDefEqProofs := false) [go_sem, Tv, Cw, silentAt, silentOp, lenD_listF]
    refine callW_f p2 ?_
    simp (dsimp := false) (implicitDefEqProofs := false) [go_sem, Tv, Cw, silentAt, silentOp, lenD_listF, wr0]
    refine callW_f p3 ?_
    simp (dsimp := false) (implicitDefEqProofs := false) [go_sem, Tv, Cw, silentAt, silentOp, lenD_listF, wr0]
  · have hmay : placeE s p = 0 := by simpa using hmay
    have hmb : mayB s p = true := by unfold mayB; exact decide_eq_true hmay
    have htot : sumP p p.n s.nodes.n = cntP p p.n := sumP_eq p s.nodes.n p.n (may_at hmay).2
    have hcnt := cntP_le p p.n
    simp (dsimp := false) (implicitDefEqProofs := false) [go_sem]
    refine runL_draw [[], [], [], [0, 1, 2], [], [], [], [4, 5, 6, 3, 0, 1, 2], [], [], [8, 9, 7, 4, 5, 6, 3, 0, 1, 2], [3, 0, 1, 2, 10, 8, 9, 7, 4, 5, 6], [7, 4, 5, 6, 3, 0, 1, 2, 11, 10, 8, 9], [10, 8, 9, 7, 4, 5, 6, 3, 0, 1, 2, 12, 11]] (by kernel_rfl) (by kernel_rfl) ?_
    simp (dsimp := false) (implicitDefEqProofs := false) [go_sem, Tv, Cw, silentAt, silentOp]
    refine callW_f (lowI_pure s ok p hpl g) ?_
    simp (dsimp := false) (implicitDefEqProofs := false) [go_sem, Tv, Cw, silentAt, silentOp]
    refine callW_f (highI_pure s ok p hpl g) ?_
    simp (dsimp := false) (implicitDefEqProofs := false) [go_sem, Tv, Cw, silentAt, silentOp]
    refine callW_f (idleI_pure s ok p hpl) ?_
    simp (dsimp := false) (implicitDefEqProofs := false) [go_sem, Tv, Cw, silentAt, silentOp]
    have e1 : lowV s p g = pickL (lowP s p g) s.nodes.n := by rw [lowV, if_pos ⟨hgm, hmb⟩]
    have e2 : highV s p g = pickL (highP s p g) s.nodes.n := by rw [highV, if_pos ⟨hgm, hmb⟩]
    have e3 : idleV s p = pickL (idleP s p) s.nodes.n := by rw [idleV, if_pos hmb]
    rw [e1, e2, e3]
    refine runL_loop [] 32 (by simp (dsimp := false) (implicitDefEqProofs := false) [go_sem]) (fun m st => ∃ j : Nat, st.n = 207 ∧ st.lit = true ∧ j ≤ s.nodes.n ∧ m = s.nodes.n - j ∧ st.fr 2 = .f (.ref [nodesF s.nodes, podsF s.pods, ownersF s.owners]) ∧ st.fr 5 = .f (intsF p) ∧ st.fr 6 = .loc 9 0 ∧
      st.fr 7 = .f (intsF (ofL (pickL (lowP s p g) s.nodes.n))) ∧ st.fr 8 = .f (intsF (ofL (pickL (highP s p g) s.nodes.n))) ∧ st.fr 9 = .f (intsF (ofL (pickL (idleP s p) s.nodes.n))) ∧ st.fr 10 = .f (I (sumP p p.n j)) ∧ st.fr 11 = .f (I j) ∧ st.mem 9 = some (.blk (goalD g))) s.nodes.n ⟨0, ?_⟩ ?_
    · simp (dsimp := false) (implicitDefEqProofs := false) [go_sem, sumP]
      exact rfl
    rintro m ⟨N, fr, mem, nx, lt⟩ hnx ⟨j, hN, hlt, hj, rfl, f2, f5, f6, f7, f8, f9, f10, f11, m9⟩
    dsimp only at *
    subst hN hnx hlt
    simp (dsimp := false) (implicitDefEqProofs := false) [go_sem, f2, f5, f6, f7, f8, f9, f10, f11, m9]
    refine gif_dec (fun hlt => ?_) (fun hge => ?_)
    · have hpods := podsI_pure s ok p hpl j
      rw [pods_of_may hmay hlt] at hpods
      have hat := fun i (h : i < (podsL p j p.n).length) => pods_at h
      have hup := fun i (h : i + 1 < (podsL p j p.n).length) => pods_up h
      have hnl := podsL_len p j p.n
      have hmono := sumP_mono p p.n (show j + 1 ≤ s.nodes.n by omega)
      have hsum : sumP p p.n (j + 1) = sumP p p.n j + (podsL p j p.n).length := rfl
      have hid : idleP s p j = (!(s.nodes.el j).lost && decide ((podsL p j p.n).length = 0)) := by rw [idleP, pods_of_may hmay hlt]
      have hlo : lowP s p g j = (!(s.nodes.el j).lost && decide (0 < (podsL p j p.n).length) && decide (shV s p j 0 < g.low 0) && decide (shV s p j 1 < g.low 1)) := by rw [lowP, pods_of_may hmay hlt]
      generalize podsL p j p.n = ns at *
      simp (dsimp := false) (implicitDefEqProofs := false) [go_sem, f2, f5, f6, f7, f8, f9, f10, f11, m9]
      refine runL_draw [[], [], [], [0, 1, 2], [], [], [], [4, 5, 6, 3, 0, 1, 2], [], [8, 3, 0, 1, 2, 7, 4, 5, 6], [7, 4, 5, 6, 3, 0, 1, 2, 9, 8]] (by kernel_rfl) (by kernel_rfl) ?_
      simp (dsimp := false) (implicitDefEqProofs := false) [go_sem, f2, f5, f6, f7, f8, f9, f10, f11, m9, Tv, Cw, silentAt, silentOp]
      refine callW_f (heatShare_pure s ok p hpl j) ?_
      simp (dsimp := false) (implicitDefEqProofs := false) [go_sem, f2, f5, f6, f7, f8, f9, f10, f11, m9, Tv, Cw, silentAt, silentOp, twoF]
      refine callW_f hpods ?_
      simp (dsimp := false) (implicitDefEqProofs := false) [go_sem, f2, f5, f6, f7, f8, f9, f10, f11, m9, Tv, Cw, silentAt, silentOp]
      refine exWL_mk (andL_mk ⟨by kernel_rfl, by kernel_rfl⟩ ?_)
      simp (dsimp := false) (implicitDefEqProofs := false) [go_sem, f2, f5, f6, f7, f8, f9, f10, f11, m9, Tv, Cw, silentAt, silentOp]
      refine exWL_mk (andL_mk ⟨by kernel_rfl, by kernel_rfl⟩ ?_)
      simp (dsimp := false) (implicitDefEqProofs := false) [go_sem, f2, f5, f6, f7, f8, f9, f10, f11, m9, Tv, Cw, silentAt, silentOp]
      refine runL_loop [] 49 (by simp (dsimp := false) (implicitDefEqProofs := false) [go_sem]) (fun m st => ∃ i : Nat, st.n = 207 ∧ st.lit = true ∧ i ≤ ns.length ∧ m = ns.length - i ∧ st.fr 2 = .f (.ref [nodesF s.nodes, podsF s.pods, ownersF s.owners]) ∧ st.fr 5 = .f (intsF p) ∧ st.fr 6 = .loc 9 0 ∧
        st.fr 7 = .f (intsF (ofL (pickL (lowP s p g) s.nodes.n))) ∧ st.fr 8 = .f (intsF (ofL (pickL (highP s p g) s.nodes.n))) ∧ st.fr 9 = .f (intsF (ofL (pickL (idleP s p) s.nodes.n))) ∧ st.fr 10 = .f (I (sumP p p.n j)) ∧ st.fr 11 = .f (I j) ∧
        st.fr 12 = .loc 45 0 ∧ st.fr 13 = .f (intsF (ofL ns)) ∧ st.fr 14 = .f (I i) ∧ st.mem 9 = some (.blk (goalD g)) ∧ st.mem 45 = some (.blk [.f (I (shV s p j 0)), .f (I (shV s p j 1))])) ns.length ⟨0, ?_⟩ ?_
      · simp (dsimp := false) (implicitDefEqProofs := false) [go_sem, f2, f5, f6, f7, f8, f9, f10, f11, m9]
      rintro m ⟨N, fr, mem, nx, lt⟩ hnx ⟨i, hN, hlt2, hi, rfl, f2, f5, f6, f7, f8, f9, f10, f11, f12, f13, f14, m9, m45⟩
      dsimp only at *
      subst hN hnx hlt2
      have hnn : (ofL ns).n = ns.length := rfl
      simp (dsimp := false) (implicitDefEqProofs := false) [go_sem, f2, f5, f6, f7, f8, f9, f10, f11, m9, f12, f13, f14, m45, hnn]
      refine gif_dec (fun hit => ?_) (fun hge => ?_)
      · simp (dsimp := false) (implicitDefEqProofs := false) [go_sem, f2, f5, f6, f7, f8, f9, f10, f11, m9, f12, f13, f14, m45, hnn]
        obtain ⟨k, hk1, hk2, hk3⟩ := hat i hit
        refine runL_draw [[], [], [], [1, 2], [3, 1, 2], [0, 4, 3, 1, 2], [5, 0, 4, 3, 1, 2], [], [6, 5, 0, 4, 3, 1, 2, 7], [8, 6, 5, 0, 4, 3, 1, 2, 7], [9, 8, 6, 5, 0, 4, 3, 1, 2, 7], [10, 9, 8, 6, 5, 0, 4, 3, 1, 2, 7], [11, 10, 9, 8, 6, 5, 0, 4, 3, 1, 2, 7], [12, 11, 10, 9, 8, 6, 5, 0, 4, 3, 1, 2, 7], [12, 11, 10, 9, 8, 6, 5, 0, 4, 3, 1, 2, 7], [13, 12, 11, 10, 9, 8, 6, 5, 0, 4, 3, 1, 2, 7, 14], [15, 13, 12, 11, 10, 9, 8, 6, 5, 0, 4, 3, 1, 2, 7, 14], [12, 11, 10, 9, 8, 6, 5, 0, 4, 3, 1, 2, 7], [12, 11, 10, 9, 8, 6, 5, 0, 4, 3, 1, 2, 7], [18, 12, 11, 10, 9, 8, 6, 5, 0, 4, 3, 1, 2, 7], [17, 12, 11, 10, 9, 8, 6, 5, 0, 4, 3, 1, 2, 7, 19, 18], [20, 17, 12, 11, 10, 9, 8, 6, 5, 0, 4, 3, 1, 2, 7, 19, 18], [16, 15, 13, 12, 11, 10, 9, 8, 6, 5, 0, 4, 3, 1, 2, 7, 14, 21, 20, 17, 19, 18], [12, 11, 10, 9, 8, 6, 5, 0, 4, 3, 1, 2, 7, 22, 16, 15, 13, 14, 21, 20, 17, 19, 18], [9, 8, 6, 5, 0, 4, 3, 1, 2, 7, 23, 12, 11, 10, 22, 16, 15, 13, 14, 21, 20, 17, 19, 18]] (by kernel_rfl) (by kernel_rfl) ?_
        simp (dsimp := false) (implicitDefEqProofs := false) [go_sem, f2, f5, f6, f7, f8, f9, f10, f11, m9, f12, f13, f14, m45, hnn, Tv, Cw, silentAt, silentOp, hit, hk1, hk2, hk3]
        refine gif_dec (fun hpos => ?_) (fun hpos => ?_)
        · have hi1 : IntKind.i64.wrap ((i : Int) - 1) = ((i - 1 : Nat) : Int) := by rw [w64 (by omega) (by omega)]; omega
          have hu := hup (i - 1) (by omega)
          rw [show i - 1 + 1 = i by omega, hk1] at hu
          have hle : ¬ (k : Int) ≤ (ofL ns).el (i - 1) := by omega
          have hi2 : i - 1 < ns.length := by omega
          simp (dsimp := false) (implicitDefEqProofs := false) [go_sem, f2, f5, f6, f7, f8, f9, f10, f11, m9, f12, f13, f14, m45, hnn, Tv, Cw, silentAt, silentOp, hit, hk1, hk2, hk3, hpos, hi1, hi2, hle]
          exact ⟨_, by omega, i + 1, by omega, rfl, w64 (by omega) (by omega)⟩
        · simp (dsimp := false) (implicitDefEqProofs := false) [go_sem, f2, f5, f6, f7, f8, f9, f10, f11, m9, f12, f13, f14, m45, hnn, Tv, Cw, silentAt, silentOp, hit, hk1, hk2, hk3, hpos]
          exact ⟨_, by omega, i + 1, by omega, rfl, w64 (by omega) (by omega)⟩
      · simp (dsimp := false) (implicitDefEqProofs := false) [go_sem, f2, f5, f6, f7, f8, f9, f10, f11, m9, f12, f13, f14, m45, hnn]
        refine andL_mk hlt ?_
        simp (dsimp := false) (implicitDefEqProofs := false) [go_sem, f2, f5, f6, f7, f8, f9, f10, f11, m9, f12, f13, f14, m45, hnn, hlt, nodeC_eq (s.nodes.el j)]
        have ei : i = ns.length := by omega
        have hw : IntKind.i64.wrap ((sumP p p.n j : Int) + ns.length) = (sumP p p.n (j + 1) : Int) := by rw [w64 (by omega) (by omega), hsum]; omega
        have hin1 := in_pure (ofL (pickL (lowP s p g) s.nodes.n)) (Nat.le_trans (pickL_len _ _) hn1) j
        rw [inL_pick hlt] at hin1
        have hin2 := in_pure (ofL (pickL (highP s p g) s.nodes.n)) (Nat.le_trans (pickL_len _ _) hn1) j
        rw [inL_pick hlt] at hin2
        have hin3 := in_pure (ofL (pickL (idleP s p) s.nodes.n)) (Nat.le_trans (pickL_len _ _) hn1) j
        rw [inL_pick hlt] at hin3
        refine callW_f hin1 ?_
        refine opsLL_cut (fun st => st.n = 207 ∧ st.lit = true ∧ st.fr 2 = .f (.ref [nodesF s.nodes, podsF s.pods, ownersF s.owners]) ∧ st.fr 5 = .f (intsF p) ∧ st.fr 6 = .loc 9 0 ∧ st.fr 7 = .f (intsF (ofL (pickL (lowP s p g) s.nodes.n))) ∧ st.fr 8 = .f (intsF (ofL (pickL (highP s p g) s.nodes.n))) ∧ st.fr 9 = .f (intsF (ofL (pickL (idleP s p) s.nodes.n))) ∧ st.fr 10 = .f (I (sumP p p.n (j + 1))) ∧ st.fr 11 = .f (I j) ∧ st.fr 12 = .loc 45 0 ∧ st.fr 15 = .f (B (!(s.nodes.el j).lost)) ∧ st.fr 161 = .f (B false) ∧ st.mem 9 = some (.blk (goalD g)) ∧ st.mem 45 = some (.blk [.f (I (shV s p j 0)), .f (I (shV s p j 1))])) ?_ ?_
        · have hlh := low_high (s := s) (l := p) hg0.2.1 hg1.2.1 j
          have hlow : ∀ b, lowP s p g j = b → lowP s p g j = b := fun _ h => h
          rcases Bool.eq_false_or_eq_true (s.nodes.el j).lost with hlost | hlost
          · have hlo2 : lowP s p g j = false := by rw [hlo, hlost]; rfl
            have hid2 : idleP s p j = false := by rw [hid, hlost]; rfl
            simp (dsimp := false) (implicitDefEqProofs := false) [go_sem, f2, f5, f6, f7, f8, f9, f10, f11, m9, f12, f13, f14, m45, hnn, hw, goalD, hlost, hlo2, hid2]
            refine callW_f hin3 ?_
            simp (dsimp := false) (implicitDefEqProofs := false) [go_sem, f2, f5, f6, f7, f8, f9, f10, f11, m9, f12, f13, f14, m45, hnn, hw, goalD, hlost, hlo2, hid2]
            refine callW_f hin1 ?_
            simp (dsimp := false) (implicitDefEqProofs := false) [go_sem, f2, f5, f6, f7, f8, f9, f10, f11, m9, f12, f13, f14, m45, hnn, hw, goalD, hlost, hlo2, hid2]
          · by_cases hz : ns.length = 0
            · have hlo2 : lowP s p g j = false := by rw [hlo, hlost, hz]; rfl
              have hid2 : idleP s p j = true := by rw [hid, hlost, hz]; rfl
              have hzb : ((ns.length : Int) == 0) = true := by simpa using hz
              have hzp : ¬ 0 < ns.length := by omega
              simp (dsimp := false) (implicitDefEqProofs := false) [go_sem, f2, f5, f6, f7, f8, f9, f10, f11, m9, f12, f13, f14, m45, hnn, hw, goalD, hlost, hlo2, hid2, hzb, hzp]
              refine callW_f hin3 ?_
              simp (dsimp := false) (implicitDefEqProofs := false) [go_sem, f2, f5, f6, f7, f8, f9, f10, f11, m9, f12, f13, f14, m45, hnn, hw, goalD, hlost, hlo2, hid2, hzb, hzp]
              refine callW_f hin1 ?_
              simp (dsimp := false) (implicitDefEqProofs := false) [go_sem, f2, f5, f6, f7, f8, f9, f10, f11, m9, f12, f13, f14, m45, hnn, hw, goalD, hlost, hlo2, hid2, hzb, hzp]
            · have hid2 : idleP s p j = false := by rw [hid, hlost, decide_eq_false hz]; rfl
              have hzp : 0 < ns.length := by omega
              have hzb : ((ns.length : Int) == 0) = false := by simpa using hz
              by_cases h0 : shV s p j 0 < g.low 0
              · by_cases h1 : shV s p j 1 < g.low 1
                · have hlo2 : lowP s p g j = true := by rw [hlo, hlost, decide_eq_true hzp, decide_eq_true h0, decide_eq_true h1]; rfl
                  have hhi2 : highP s p g j = false := by rw [hlo2] at hlh; simpa using hlh
                  simp (dsimp := false) (implicitDefEqProofs := false) [go_sem, f2, f5, f6, f7, f8, f9, f10, f11, m9, f12, f13, f14, m45, hnn, hw, goalD, hlost, hlo2, hid2, hhi2, hzb, hzp, h0, h1]
                  refine callW_f hin2 ?_
                  simp (dsimp := false) (implicitDefEqProofs := false) [go_sem, f2, f5, f6, f7, f8, f9, f10, f11, m9, f12, f13, f14, m45, hnn, hw, goalD, hlost, hlo2, hid2, hhi2, hzb, hzp, h0, h1]
                  refine callW_f hin3 ?_
                  simp (dsimp := false) (implicitDefEqProofs := false) [go_sem, f2, f5, f6, f7, f8, f9, f10, f11, m9, f12, f13, f14, m45, hnn, hw, goalD, hlost, hlo2, hid2, hhi2, hzb, hzp, h0, h1]
                  refine callW_f hin1 ?_
                  simp (dsimp := false) (implicitDefEqProofs := false) [go_sem, f2, f5, f6, f7, f8, f9, f10, f11, m9, f12, f13, f14, m45, hnn, hw, goalD, hlost, hlo2, hid2, hhi2, hzb, hzp, h0, h1]
                · have hlo2 : lowP s p g j = false := by rw [hlo, decide_eq_false h1, Bool.and_false]
                  simp (dsimp := false) (implicitDefEqProofs := false) [go_sem, f2, f5, f6, f7, f8, f9, f10, f11, m9, f12, f13, f14, m45, hnn, hw, goalD, hlost, hlo2, hid2, hzb, hzp, h0, h1]
                  refine callW_f hin3 ?_
                  simp (dsimp := false) (implicitDefEqProofs := false) [go_sem, f2, f5, f6, f7, f8, f9, f10, f11, m9, f12, f13, f14, m45, hnn, hw, goalD, hlost, hlo2, hid2, hzb, hzp, h0, h1]
                  refine callW_f hin1 ?_
                  simp (dsimp := false) (implicitDefEqProofs := false) [go_sem, f2, f5, f6, f7, f8, f9, f10, f11, m9, f12, f13, f14, m45, hnn, hw, goalD, hlost, hlo2, hid2, hzb, hzp, h0, h1]
              · have hlo2 : lowP s p g j = false := by rw [hlo, decide_eq_false h0, Bool.and_false, Bool.false_and]
                simp (dsimp := false) (implicitDefEqProofs := false) [go_sem, f2, f5, f6, f7, f8, f9, f10, f11, m9, f12, f13, f14, m45, hnn, hw, goalD, hlost, hlo2, hid2, hzb, hzp, h0]
                refine callW_f hin3 ?_
                simp (dsimp := false) (implicitDefEqProofs := false) [go_sem, f2, f5, f6, f7, f8, f9, f10, f11, m9, f12, f13, f14, m45, hnn, hw, goalD, hlost, hlo2, hid2, hzb, hzp, h0]
                refine callW_f hin1 ?_
                simp (dsimp := false) (implicitDefEqProofs := false) [go_sem, f2, f5, f6, f7, f8, f9, f10, f11, m9, f12, f13, f14, m45, hnn, hw, goalD, hlost, hlo2, hid2, hzb, hzp, h0]
        · rintro ⟨N, fr, mem, nx, lt⟩ ⟨hN, hlt2, f2, f5, f6, f7, f8, f9, f10, f11, f12, f15, f161, m9, m45⟩
          dsimp only at *
          subst hN hlt2
          simp (dsimp := false) (implicitDefEqProofs := false) [go_sem, f2, f5, f6, f7, f8, f9, f10, f11, m9, f12, f15, f161, m45]
          by_cases h2 : 0 < g.high 0
          · skip
            by_cases h3 : g.high 0 < shV s p j 0
            · skip
              refine runL_unroll 3 (iter_step ?_)
              simp (dsimp := false) (implicitDefEqProofs := false) [go_sem, f2, f5, f6, f7, f8, f9, f10, f11, m9, f12, f15, m45, wr0, wr1, wr2, goalD, h2, h3]
              refine runL_draw [[], [0], [1, 0], [1, 0], [3, 1, 0, 2], [4, 3, 1, 0, 2], [5, 4, 3, 1, 0, 2], [6, 5, 4, 3, 1, 0, 2], [7, 6, 5, 4, 3, 1, 0, 2], [8, 7, 6, 5, 4, 3, 1, 0, 2], [9, 8, 7, 6, 5, 4, 3, 1, 0, 2], [7, 6, 5, 4, 3, 1, 0, 2], [7, 6, 5, 4, 3, 1, 0, 2], [12, 7, 6, 5, 4, 3, 1, 0, 2, 11], [13, 12, 7, 6, 5, 4, 3, 1, 0, 2, 11], [10, 9, 8, 7, 6, 5, 4, 3, 1, 0, 2, 14, 13, 12, 11], [7, 6, 5, 4, 3, 1, 0, 2, 15, 10, 9, 8, 14, 13, 12, 11], [1, 0, 16, 7, 6, 5, 4, 3, 2, 15, 10, 9, 8, 14, 13, 12, 11], [17, 1, 0, 16, 7, 6, 5, 4, 3, 2, 15, 10, 9, 8, 14, 13, 12, 11]] (by kernel_rfl) (by kernel_rfl) ?_
              simp (dsimp := false) (implicitDefEqProofs := false) [go_sem, f2, f5, f6, f7, f8, f9, f10, f11, m9, f12, f15, m45, wr0, wr1, wr2, goalD, h2, h3, Tv, Cw, silentAt, silentOp]
              refine iter_step ?_
              simp (dsimp := false) (implicitDefEqProofs := false) [go_sem, f2, f5, f6, f7, f8, f9, f10, f11, m9, f12, f15, m45, wr0, wr1, wr2, goalD, h2, h3]
              refine runL_draw [[], [0], [1, 0], [1, 0], [3, 1, 0, 2], [4, 3, 1, 0, 2], [5, 4, 3, 1, 0, 2], [6, 5, 4, 3, 1, 0, 2], [7, 6, 5, 4, 3, 1, 0, 2], [8, 7, 6, 5, 4, 3, 1, 0, 2], [9, 8, 7, 6, 5, 4, 3, 1, 0, 2], [7, 6, 5, 4, 3, 1, 0, 2], [7, 6, 5, 4, 3, 1, 0, 2], [12, 7, 6, 5, 4, 3, 1, 0, 2, 11], [13, 12, 7, 6, 5, 4, 3, 1, 0, 2, 11], [10, 9, 8, 7, 6, 5, 4, 3, 1, 0, 2, 14, 13, 12, 11], [7, 6, 5, 4, 3, 1, 0, 2, 15, 10, 9, 8, 14, 13, 12, 11], [1, 0, 16, 7, 6, 5, 4, 3, 2, 15, 10, 9, 8, 14, 13, 12, 11], [17, 1, 0, 16, 7, 6, 5, 4, 3, 2, 15, 10, 9, 8, 14, 13, 12, 11]] (by kernel_rfl) (by kernel_rfl) ?_
              simp (dsimp := false) (implicitDefEqProofs := false) [go_sem, f2, f5, f6, f7, f8, f9, f10, f11, m9, f12, f15, m45, wr0, wr1, wr2, goalD, h2, h3, Tv, Cw, silentAt, silentOp]
              refine iter_step ?_
              simp (dsimp := false) (implicitDefEqProofs := false) [go_sem, f2, f5, f6, f7, f8, f9, f10, f11, m9, f12, f15, m45, wr0, wr1, wr2, goalD, h2, h3]
              refine callW_f hin2 ?_
              rcases Bool.eq_false_or_eq_true (s.nodes.el j).lost with hlost | hlost
              · have hhi2 : highP s p g j = false := by rw [highP, hlost]; simp
                simp (dsimp := false) (implicitDefEqProofs := false) [go_sem, f2, f5, f6, f7, f8, f9, f10, f11, m9, f12, f15, m45, wr0, wr1, wr2, goalD, h2, h3, hlost, hhi2]
                exact ⟨_, by omega, j + 1, by omega, rfl, rfl, w64 (by omega) (by omega)⟩
              · have hhi2 : highP s p g j = true := by rw [highP, hlost, decide_eq_true h2, decide_eq_true h3]; simp
                simp (dsimp := false) (implicitDefEqProofs := false) [go_sem, f2, f5, f6, f7, f8, f9, f10, f11, m9, f12, f15, m45, wr0, wr1, wr2, goalD, h2, h3, hlost, hhi2]
                exact ⟨_, by omega, j + 1, by omega, rfl, rfl, w64 (by omega) (by omega)⟩
            · skip
              by_cases h4 : 0 < g.high 1
              · skip
                by_cases h5 : g.high 1 < shV s p j 1
                · skip
                  refine runL_unroll 3 (iter_step ?_)
                  simp (dsimp := false) (implicitDefEqProofs := false) [go_sem, f2, f5, f6, f7, f8, f9, f10, f11, m9, f12, f15, m45, wr0, wr1, wr2, goalD, h2, h3, h4, h5]
                  refine runL_draw [[], [0], [1, 0], [1, 0], [3, 1, 0, 2], [4, 3, 1, 0, 2], [5, 4, 3, 1, 0, 2], [6, 5, 4, 3, 1, 0, 2], [7, 6, 5, 4, 3, 1, 0, 2], [8, 7, 6, 5, 4, 3, 1, 0, 2], [9, 8, 7, 6, 5, 4, 3, 1, 0, 2], [7, 6, 5, 4, 3, 1, 0, 2], [7, 6, 5, 4, 3, 1, 0, 2], [12, 7, 6, 5, 4, 3, 1, 0, 2, 11], [13, 12, 7, 6, 5, 4, 3, 1, 0, 2, 11], [10, 9, 8, 7, 6, 5, 4, 3, 1, 0, 2, 14, 13, 12, 11], [7, 6, 5, 4, 3, 1, 0, 2, 15, 10, 9, 8, 14, 13, 12, 11], [1, 0, 16, 7, 6, 5, 4, 3, 2, 15, 10, 9, 8, 14, 13, 12, 11], [17, 1, 0, 16, 7, 6, 5, 4, 3, 2, 15, 10, 9, 8, 14, 13, 12, 11]] (by kernel_rfl) (by kernel_rfl) ?_
                  simp (dsimp := false) (implicitDefEqProofs := false) [go_sem, f2, f5, f6, f7, f8, f9, f10, f11, m9, f12, f15, m45, wr0, wr1, wr2, goalD, h2, h3, h4, h5, Tv, Cw, silentAt, silentOp]
                  refine iter_step ?_
                  simp (dsimp := false) (implicitDefEqProofs := false) [go_sem, f2, f5, f6, f7, f8, f9, f10, f11, m9, f12, f15, m45, wr0, wr1, wr2, goalD, h2, h3, h4, h5]
                  refine runL_draw [[], [0], [1, 0], [1, 0], [3, 1, 0, 2], [4, 3, 1, 0, 2], [5, 4, 3, 1, 0, 2], [6, 5, 4, 3, 1, 0, 2], [7, 6, 5, 4, 3, 1, 0, 2], [8, 7, 6, 5, 4, 3, 1, 0, 2], [9, 8, 7, 6, 5, 4, 3, 1, 0, 2], [7, 6, 5, 4, 3, 1, 0, 2], [7, 6, 5, 4, 3, 1, 0, 2], [12, 7, 6, 5, 4, 3, 1, 0, 2, 11], [13, 12, 7, 6, 5, 4, 3, 1, 0, 2, 11], [10, 9, 8, 7, 6, 5, 4, 3, 1, 0, 2, 14, 13, 12, 11], [7, 6, 5, 4, 3, 1, 0, 2, 15, 10, 9, 8, 14, 13, 12, 11], [1, 0, 16, 7, 6, 5, 4, 3, 2, 15, 10, 9, 8, 14, 13, 12, 11], [17, 1, 0, 16, 7, 6, 5, 4, 3, 2, 15, 10, 9, 8, 14, 13, 12, 11]] (by kernel_rfl) (by kernel_rfl) ?_
                  simp (dsimp := false) (implicitDefEqProofs := false) [go_sem, f2, f5, f6, f7, f8, f9, f10, f11, m9, f12, f15, m45, wr0, wr1, wr2, goalD, h2, h3, h4, h5, Tv, Cw, silentAt, silentOp]
                  refine iter_step ?_
                  simp (dsimp := false) (implicitDefEqProofs := false) [go_sem, f2, f5, f6, f7, f8, f9, f10, f11, m9, f12, f15, m45, wr0, wr1, wr2, goalD, h2, h3, h4, h5]
                  refine callW_f hin2 ?_
                  rcases Bool.eq_false_or_eq_true (s.nodes.el j).lost with hlost | hlost
                  · have hhi2 : highP s p g j = false := by rw [highP, hlost]; simp
                    simp (dsimp := false) (implicitDefEqProofs := false) [go_sem, f2, f5, f6, f7, f8, f9, f10, f11, m9, f12, f15, m45, wr0, wr1, wr2, goalD, h2, h3, h4, h5, hlost, hhi2]
                    exact ⟨_, by omega, j + 1, by omega, rfl, rfl, w64 (by omega) (by omega)⟩
                  · have hhi2 : highP s p g j = true := by rw [highP, hlost, decide_eq_true h2, decide_eq_false h3, decide_eq_true h4, decide_eq_true h5]; simp
                    simp (dsimp := false) (implicitDefEqProofs := false) [go_sem, f2, f5, f6, f7, f8, f9, f10, f11, m9, f12, f15, m45, wr0, wr1, wr2, goalD, h2, h3, h4, h5, hlost, hhi2]
                    exact ⟨_, by omega, j + 1, by omega, rfl, rfl, w64 (by omega) (by omega)⟩
                · skip
                  refine runL_unroll 3 (iter_step ?_)
                  simp (dsimp := false) (implicitDefEqProofs := false) [go_sem, f2, f5, f6, f7, f8, f9, f10, f11, m9, f12, f15, m45, wr0, wr1, wr2, goalD, h2, h3, h4, h5]
                  refine runL_draw [[], [0], [1, 0], [1, 0], [3, 1, 0, 2], [4, 3, 1, 0, 2], [5, 4, 3, 1, 0, 2], [6, 5, 4, 3, 1, 0, 2], [7, 6, 5, 4, 3, 1, 0, 2], [8, 7, 6, 5, 4, 3, 1, 0, 2], [9, 8, 7, 6, 5, 4, 3, 1, 0, 2], [7, 6, 5, 4, 3, 1, 0, 2], [7, 6, 5, 4, 3, 1, 0, 2], [12, 7, 6, 5, 4, 3, 1, 0, 2, 11], [13, 12, 7, 6, 5, 4, 3, 1, 0, 2, 11], [10, 9, 8, 7, 6, 5, 4, 3, 1, 0, 2, 14, 13, 12, 11], [7, 6, 5, 4, 3, 1, 0, 2, 15, 10, 9, 8, 14, 13, 12, 11], [1, 0, 16, 7, 6, 5, 4, 3, 2, 15, 10, 9, 8, 14, 13, 12, 11], [17, 1, 0, 16, 7, 6, 5, 4, 3, 2, 15, 10, 9, 8, 14, 13, 12, 11]] (by kernel_rfl) (by kernel_rfl) ?_
                  simp (dsimp := false) (implicitDefEqProofs := false) [go_sem, f2, f5, f6, f7, f8, f9, f10, f11, m9, f12, f15, m45, wr0, wr1, wr2, goalD, h2, h3, h4, h5, Tv, Cw, silentAt, silentOp]
                  refine iter_step ?_
                  simp (dsimp := false) (implicitDefEqProofs := false) [go_sem, f2, f5, f6, f7, f8, f9, f10, f11, m9, f12, f15, m45, wr0, wr1, wr2, goalD, h2, h3, h4, h5]
                  refine runL_draw [[], [0], [1, 0], [1, 0], [3, 1, 0, 2], [4, 3, 1, 0, 2], [5, 4, 3, 1, 0, 2], [6, 5, 4, 3, 1, 0, 2], [7, 6, 5, 4, 3, 1, 0, 2], [8, 7, 6, 5, 4, 3, 1, 0, 2], [9, 8, 7, 6, 5, 4, 3, 1, 0, 2], [7, 6, 5, 4, 3, 1, 0, 2], [7, 6, 5, 4, 3, 1, 0, 2], [12, 7, 6, 5, 4, 3, 1, 0, 2, 11], [13, 12, 7, 6, 5, 4, 3, 1, 0, 2, 11], [10, 9, 8, 7, 6, 5, 4, 3, 1, 0, 2, 14, 13, 12, 11], [7, 6, 5, 4, 3, 1, 0, 2, 15, 10, 9, 8, 14, 13, 12, 11], [1, 0, 16, 7, 6, 5, 4, 3, 2, 15, 10, 9, 8, 14, 13, 12, 11], [17, 1, 0, 16, 7, 6, 5, 4, 3, 2, 15, 10, 9, 8, 14, 13, 12, 11]] (by kernel_rfl) (by kernel_rfl) ?_
                  simp (dsimp := false) (implicitDefEqProofs := false) [go_sem, f2, f5, f6, f7, f8, f9, f10, f11, m9, f12, f15, m45, wr0, wr1, wr2, goalD, h2, h3, h4, h5, Tv, Cw, silentAt, silentOp]
                  refine iter_step ?_
                  simp (dsimp := false) (implicitDefEqProofs := false) [go_sem, f2, f5, f6, f7, f8, f9, f10, f11, m9, f12, f15, m45, wr0, wr1, wr2, goalD, h2, h3, h4, h5]
                  refine callW_f hin2 ?_
                  rcases Bool.eq_false_or_eq_true (s.nodes.el j).lost with hlost | hlost
                  · have hhi2 : highP s p g j = false := by rw [highP, hlost]; simp
                    simp (dsimp := false) (implicitDefEqProofs := false) [go_sem, f2, f5, f6, f7, f8, f9, f10, f11, m9, f12, f15, m45, wr0, wr1, wr2, goalD, h2, h3, h4, h5, hlost, hhi2]
                    exact ⟨_, by omega, j + 1, by omega, rfl, rfl, w64 (by omega) (by omega)⟩
                  · have hhi2 : highP s p g j = false := by rw [highP, hlost, decide_eq_true h2, decide_eq_false h3, decide_eq_true h4, decide_eq_false h5]; simp
                    simp (dsimp := false) (implicitDefEqProofs := false) [go_sem, f2, f5, f6, f7, f8, f9, f10, f11, m9, f12, f15, m45, wr0, wr1, wr2, goalD, h2, h3, h4, h5, hlost, hhi2]
                    exact ⟨_, by omega, j + 1, by omega, rfl, rfl, w64 (by omega) (by omega)⟩
              · skip
                refine runL_unroll 3 (iter_step ?_)
                simp (dsimp := false) (implicitDefEqProofs := false) [go_sem, f2, f5, f6, f7, f8, f9, f10, f11, m9, f12, f15, m45, wr0, wr1, wr2, goalD, h2, h3, h4]
                refine runL_draw [[], [0], [1, 0], [1, 0], [3, 1, 0, 2], [4, 3, 1, 0, 2], [5, 4, 3, 1, 0, 2], [6, 5, 4, 3, 1, 0, 2], [7, 6, 5, 4, 3, 1, 0, 2], [8, 7, 6, 5, 4, 3, 1, 0, 2], [9, 8, 7, 6, 5, 4, 3, 1, 0, 2], [7, 6, 5, 4, 3, 1, 0, 2], [7, 6, 5, 4, 3, 1, 0, 2], [12, 7, 6, 5, 4, 3, 1, 0, 2, 11], [13, 12, 7, 6, 5, 4, 3, 1, 0, 2, 11], [10, 9, 8, 7, 6, 5, 4, 3, 1, 0, 2, 14, 13, 12, 11], [7, 6, 5, 4, 3, 1, 0, 2, 15, 10, 9, 8, 14, 13, 12, 11], [1, 0, 16, 7, 6, 5, 4, 3, 2, 15, 10, 9, 8, 14, 13, 12, 11], [17, 1, 0, 16, 7, 6, 5, 4, 3, 2, 15, 10, 9, 8, 14, 13, 12, 11]] (by kernel_rfl) (by kernel_rfl) ?_
                simp (dsimp := false) (implicitDefEqProofs := false) [go_sem, f2, f5, f6, f7, f8, f9, f10, f11, m9, f12, f15, m45, wr0, wr1, wr2, goalD, h2, h3, h4, Tv, Cw, silentAt, silentOp]
                refine iter_step ?_
                simp (dsimp := false) (implicitDefEqProofs := false) [go_sem, f2, f5, f6, f7, f8, f9, f10, f11, m9, f12, f15, m45, wr0, wr1, wr2, goalD, h2, h3, h4]
                refine runL_draw [[], [0], [1, 0], [1, 0], [3, 1, 0, 2], [4, 3, 1, 0, 2], [5, 4, 3, 1, 0, 2], [6, 5, 4, 3, 1, 0, 2], [7, 6, 5, 4, 3, 1, 0, 2], [8, 7, 6, 5, 4, 3, 1, 0, 2], [9, 8, 7, 6, 5, 4, 3, 1, 0, 2], [7, 6, 5, 4, 3, 1, 0, 2], [7, 6, 5, 4, 3, 1, 0, 2], [12, 7, 6, 5, 4, 3, 1, 0, 2, 11], [13, 12, 7, 6, 5, 4, 3, 1, 0, 2, 11], [10, 9, 8, 7, 6, 5, 4, 3, 1, 0, 2, 14, 13, 12, 11], [7, 6, 5, 4, 3, 1, 0, 2, 15, 10, 9, 8, 14, 13, 12, 11], [1, 0, 16, 7, 6, 5, 4, 3, 2, 15, 10, 9, 8, 14, 13, 12, 11], [17, 1, 0, 16, 7, 6, 5, 4, 3, 2, 15, 10, 9, 8, 14, 13, 12, 11]] (by kernel_rfl) (by kernel_rfl) ?_
                simp (dsimp := false) (implicitDefEqProofs := false) [go_sem, f2, f5, f6, f7, f8, f9, f10, f11, m9, f12, f15, m45, wr0, wr1, wr2, goalD, h2, h3, h4, Tv, Cw, silentAt, silentOp]
                refine iter_step ?_
                simp (dsimp := false) (implicitDefEqProofs := false) [go_sem, f2, f5, f6, f7, f8, f9, f10, f11, m9, f12, f15, m45, wr0, wr1, wr2, goalD, h2, h3, h4]
                refine callW_f hin2 ?_
                rcases Bool.eq_false_or_eq_true (s.nodes.el j).lost with hlost | hlost
                · have hhi2 : highP s p g j = false := by rw [highP, hlost]; simp
                  simp (dsimp := false) (implicitDefEqProofs := false) [go_sem, f2, f5, f6, f7, f8, f9, f10, f11, m9, f12, f15, m45, wr0, wr1, wr2, goalD, h2, h3, h4, hlost, hhi2]
                  exact ⟨_, by omega, j + 1, by omega, rfl, rfl, w64 (by omega) (by omega)⟩
                · have hhi2 : highP s p g j = false := by rw [highP, hlost, decide_eq_true h2, decide_eq_false h3, decide_eq_false h4]; simp
                  simp (dsimp := false) (implicitDefEqProofs := false) [go_sem, f2, f5, f6, f7, f8, f9, f10, f11, m9, f12, f15, m45, wr0, wr1, wr2, goalD, h2, h3, h4, hlost, hhi2]
                  exact ⟨_, by omega, j + 1, by omega, rfl, rfl, w64 (by omega) (by omega)⟩
          · skip
            by_cases h4 : 0 < g.high 1
            · skip
              by_cases h5 : g.high 1 < shV s p j 1
              · skip
                refine runL_unroll 3 (iter_step ?_)
                simp (dsimp := false) (implicitDefEqProofs := false) [go_sem, f2, f5, f6, f7, f8, f9, f10, f11, m9, f12, f15, m45, wr0, wr1, wr2, goalD, h2, h4, h5]
                refine runL_draw [[], [0], [1, 0], [1, 0], [3, 1, 0, 2], [4, 3, 1, 0, 2], [5, 4, 3, 1, 0, 2], [6, 5, 4, 3, 1, 0, 2], [7, 6, 5, 4, 3, 1, 0, 2], [8, 7, 6, 5, 4, 3, 1, 0, 2], [9, 8, 7, 6, 5, 4, 3, 1, 0, 2], [7, 6, 5, 4, 3, 1, 0, 2], [7, 6, 5, 4, 3, 1, 0, 2], [12, 7, 6, 5, 4, 3, 1, 0, 2, 11], [13, 12, 7, 6, 5, 4, 3, 1, 0, 2, 11], [10, 9, 8, 7, 6, 5, 4, 3, 1, 0, 2, 14, 13, 12, 11], [7, 6, 5, 4, 3, 1, 0, 2, 15, 10, 9, 8, 14, 13, 12, 11], [1, 0, 16, 7, 6, 5, 4, 3, 2, 15, 10, 9, 8, 14, 13, 12, 11], [17, 1, 0, 16, 7, 6, 5, 4, 3, 2, 15, 10, 9, 8, 14, 13, 12, 11]] (by kernel_rfl) (by kernel_rfl) ?_
                simp (dsimp := false) (implicitDefEqProofs := false) [go_sem, f2, f5, f6, f7, f8, f9, f10, f11, m9, f12, f15, m45, wr0, wr1, wr2, goalD, h2, h4, h5, Tv, Cw, silentAt, silentOp]
                refine iter_step ?_
                simp (dsimp := false) (implicitDefEqProofs := false) [go_sem, f2, f5, f6, f7, f8, f9, f10, f11, m9, f12, f15, m45, wr0, wr1, wr2, goalD, h2, h4, h5]
                refine runL_draw [[], [0], [1, 0], [1, 0], [3, 1, 0, 2], [4, 3, 1, 0, 2], [5, 4, 3, 1, 0, 2], [6, 5, 4, 3, 1, 0, 2], [7, 6, 5, 4, 3, 1, 0, 2], [8, 7, 6, 5, 4, 3, 1, 0, 2], [9, 8, 7, 6, 5, 4, 3, 1, 0, 2], [7, 6, 5, 4, 3, 1, 0, 2], [7, 6, 5, 4, 3, 1, 0, 2], [12, 7, 6, 5, 4, 3, 1, 0, 2, 11], [13, 12, 7, 6, 5, 4, 3, 1, 0, 2, 11], [10, 9, 8, 7, 6, 5, 4, 3, 1, 0, 2, 14, 13, 12, 11], [7, 6, 5, 4, 3, 1, 0, 2, 15, 10, 9, 8, 14, 13, 12, 11], [1, 0, 16, 7, 6, 5, 4, 3, 2, 15, 10, 9, 8, 14, 13, 12, 11], [17, 1, 0, 16, 7, 6, 5, 4, 3, 2, 15, 10, 9, 8, 14, 13, 12, 11]] (by kernel_rfl) (by kernel_rfl) ?_
                simp (dsimp := false) (implicitDefEqProofs := false) [go_sem, f2, f5, f6, f7, f8, f9, f10, f11, m9, f12, f15, m45, wr0, wr1, wr2, goalD, h2, h4, h5, Tv, Cw, silentAt, silentOp]
                refine iter_step ?_
                simp (dsimp := false) (implicitDefEqProofs := false) [go_sem, f2, f5, f6, f7, f8, f9, f10, f11, m9, f12, f15, m45, wr0, wr1, wr2, goalD, h2, h4, h5]
                refine callW_f hin2 ?_
                rcases Bool.eq_false_or_eq_true (s.nodes.el j).lost with hlost | hlost
                · have hhi2 : highP s p g j = false := by rw [highP, hlost]; simp
                  simp (dsimp := false) (implicitDefEqProofs := false) [go_sem, f2, f5, f6, f7, f8, f9, f10, f11, m9, f12, f15, m45, wr0, wr1, wr2, goalD, h2, h4, h5, hlost, hhi2]
                  exact ⟨_, by omega, j + 1, by omega, rfl, rfl, w64 (by omega) (by omega)⟩
                · have hhi2 : highP s p g j = true := by rw [highP, hlost, decide_eq_false h2, decide_eq_true h4, decide_eq_true h5]; simp
                  simp (dsimp := false) (implicitDefEqProofs := false) [go_sem, f2, f5, f6, f7, f8, f9, f10, f11, m9, f12, f15, m45, wr0, wr1, wr2, goalD, h2, h4, h5, hlost, hhi2]
                  exact ⟨_, by omega, j + 1, by omega, rfl, rfl, w64 (by omega) (by omega)⟩
              · skip
                refine runL_unroll 3 (iter_step ?_)
                simp (dsimp := false) (implicitDefEqProofs := false) [go_sem, f2, f5, f6, f7, f8, f9, f10, f11, m9, f12, f15, m45, wr0, wr1, wr2, goalD, h2, h4, h5]
                refine runL_draw [[], [0], [1, 0], [1, 0], [3, 1, 0, 2], [4, 3, 1, 0, 2], [5, 4, 3, 1, 0, 2], [6, 5, 4, 3, 1, 0, 2], [7, 6, 5, 4, 3, 1, 0, 2], [8, 7, 6, 5, 4, 3, 1, 0, 2], [9, 8, 7, 6, 5, 4, 3, 1, 0, 2], [7, 6, 5, 4, 3, 1, 0, 2], [7, 6, 5, 4, 3, 1, 0, 2], [12, 7, 6, 5, 4, 3, 1, 0, 2, 11], [13, 12, 7, 6, 5, 4, 3, 1, 0, 2, 11], [10, 9, 8, 7, 6, 5, 4, 3, 1, 0, 2, 14, 13, 12, 11], [7, 6, 5, 4, 3, 1, 0, 2, 15, 10, 9, 8, 14, 13, 12, 11], [1, 0, 16, 7, 6, 5, 4, 3, 2, 15, 10, 9, 8, 14, 13, 12, 11], [17, 1, 0, 16, 7, 6, 5, 4, 3, 2, 15, 10, 9, 8, 14, 13, 12, 11]] (by kernel_rfl) (by kernel_rfl) ?_
                simp (dsimp := false) (implicitDefEqProofs := false) [go_sem, f2, f5, f6, f7, f8, f9, f10, f11, m9, f12, f15, m45, wr0, wr1, wr2, goalD, h2, h4, h5, Tv, Cw, silentAt, silentOp]
                refine iter_step ?_
                simp (dsimp := false) (implicitDefEqProofs := false) [go_sem, f2, f5, f6, f7, f8, f9, f10, f11, m9, f12, f15, m45, wr0, wr1, wr2, goalD, h2, h4, h5]
                refine runL_draw [[], [0], [1, 0], [1, 0], [3, 1, 0, 2], [4, 3, 1, 0, 2], [5, 4, 3, 1, 0, 2], [6, 5, 4, 3, 1, 0, 2], [7, 6, 5, 4, 3, 1, 0, 2], [8, 7, 6, 5, 4, 3, 1, 0, 2], [9, 8, 7, 6, 5, 4, 3, 1, 0, 2], [7, 6, 5, 4, 3, 1, 0, 2], [7, 6, 5, 4, 3, 1, 0, 2], [12, 7, 6, 5, 4, 3, 1, 0, 2, 11], [13, 12, 7, 6, 5, 4, 3, 1, 0, 2, 11], [10, 9, 8, 7, 6, 5, 4, 3, 1, 0, 2, 14, 13, 12, 11], [7, 6, 5, 4, 3, 1, 0, 2, 15, 10, 9, 8, 14, 13, 12, 11], [1, 0, 16, 7, 6, 5, 4, 3, 2, 15, 10, 9, 8, 14, 13, 12, 11], [17, 1, 0, 16, 7, 6, 5, 4, 3, 2, 15, 10, 9, 8, 14, 13, 12, 11]] (by kernel_rfl) (by kernel_rfl) ?_
                simp (dsimp := false) (implicitDefEqProofs := false) [go_sem, f2, f5, f6, f7, f8, f9, f10, f11, m9, f12, f15, m45, wr0, wr1, wr2, goalD, h2, h4, h5, Tv, Cw, silentAt, silentOp]
                refine iter_step ?_
                simp (dsimp := false) (implicitDefEqProofs := false) [go_sem, f2, f5, f6, f7, f8, f9, f10, f11, m9, f12, f15, m45, wr0, wr1, wr2, goalD, h2, h4, h5]
                refine callW_f hin2 ?_
                rcases Bool.eq_false_or_eq_true (s.nodes.el j).lost with hlost | hlost
                · have hhi2 : highP s p g j = false := by rw [highP, hlost]; simp
                  simp (dsimp := false) (implicitDefEqProofs := false) [go_sem, f2, f5, f6, f7, f8, f9, f10, f11, m9, f12, f15, m45, wr0, wr1, wr2, goalD, h2, h4, h5, hlost, hhi2]
                  exact ⟨_, by omega, j + 1, by omega, rfl, rfl, w64 (by omega) (by omega)⟩
                · have hhi2 : highP s p g j = false := by rw [highP, hlost, decide_eq_false h2, decide_eq_true h4, decide_eq_false h5]; simp
                  simp (dsimp := false) (implicitDefEqProofs := false) [go_sem, f2, f5, f6, f7, f8, f9, f10, f11, m9, f12, f15, m45, wr0, wr1, wr2, goalD, h2, h4, h5, hlost, hhi2]
                  exact ⟨_, by omega, j + 1, by omega, rfl, rfl, w64 (by omega) (by omega)⟩
            · skip
              refine runL_unroll 3 (iter_step ?_)
              simp (dsimp := false) (implicitDefEqProofs := false) [go_sem, f2, f5, f6, f7, f8, f9, f10, f11, m9, f12, f15, m45, wr0, wr1, wr2, goalD, h2, h4]
              refine runL_draw [[], [0], [1, 0], [1, 0], [3, 1, 0, 2], [4, 3, 1, 0, 2], [5, 4, 3, 1, 0, 2], [6, 5, 4, 3, 1, 0, 2], [7, 6, 5, 4, 3, 1, 0, 2], [8, 7, 6, 5, 4, 3, 1, 0, 2], [9, 8, 7, 6, 5, 4, 3, 1, 0, 2], [7, 6, 5, 4, 3, 1, 0, 2], [7, 6, 5, 4, 3, 1, 0, 2], [12, 7, 6, 5, 4, 3, 1, 0, 2, 11], [13, 12, 7, 6, 5, 4, 3, 1, 0, 2, 11], [10, 9, 8, 7, 6, 5, 4, 3, 1, 0, 2, 14, 13, 12, 11], [7, 6, 5, 4, 3, 1, 0, 2, 15, 10, 9, 8, 14, 13, 12, 11], [1, 0, 16, 7, 6, 5, 4, 3, 2, 15, 10, 9, 8, 14, 13, 12, 11], [17, 1, 0, 16, 7, 6, 5, 4, 3, 2, 15, 10, 9, 8, 14, 13, 12, 11]] (by kernel_rfl) (by kernel_rfl) ?_
              simp (dsimp := false) (implicitDefEqProofs := false) [go_sem, f2, f5, f6, f7, f8, f9, f10, f11, m9, f12, f15, m45, wr0, wr1, wr2, goalD, h2, h4, Tv, Cw, silentAt, silentOp]
              refine iter_step ?_
              simp (dsimp := false) (implicitDefEqProofs := false) [go_sem, f2, f5, f6, f7, f8, f9, f10, f11, m9, f12, f15, m45, wr0, wr1, wr2, goalD, h2, h4]
              refine runL_draw [[], [0], [1, 0], [1, 0], [3, 1, 0, 2], [4, 3, 1, 0, 2], [5, 4, 3, 1, 0, 2], [6, 5, 4, 3, 1, 0, 2], [7, 6, 5, 4, 3, 1, 0, 2], [8, 7, 6, 5, 4, 3, 1, 0, 2], [9, 8, 7, 6, 5, 4, 3, 1, 0, 2], [7, 6, 5, 4, 3, 1, 0, 2], [7, 6, 5, 4, 3, 1, 0, 2], [12, 7, 6, 5, 4, 3, 1, 0, 2, 11], [13, 12, 7, 6, 5, 4, 3, 1, 0, 2, 11], [10, 9, 8, 7, 6, 5, 4, 3, 1, 0, 2, 14, 13, 12, 11], [7, 6, 5, 4, 3, 1, 0, 2, 15, 10, 9, 8, 14, 13, 12, 11], [1, 0, 16, 7, 6, 5, 4, 3, 2, 15, 10, 9, 8, 14, 13, 12, 11], [17, 1, 0, 16, 7, 6, 5, 4, 3, 2, 15, 10, 9, 8, 14, 13, 12, 11]] (by kernel_rfl) (by kernel_rfl) ?_
              simp (dsimp := false) (implicitDefEqProofs := false) [go_sem, f2, f5, f6, f7, f8, f9, f10, f11, m9, f12, f15, m45, wr0, wr1, wr2, goalD, h2, h4, Tv, Cw, silentAt, silentOp]
              refine iter_step ?_
              simp (dsimp := false) (implicitDefEqProofs := false) [go_sem, f2, f5, f6, f7, f8, f9, f10, f11, m9, f12, f15, m45, wr0, wr1, wr2, goalD, h2, h4]
              refine callW_f hin2 ?_
              rcases Bool.eq_false_or_eq_true (s.nodes.el j).lost with hlost | hlost
              · have hhi2 : highP s p g j = false := by rw [highP, hlost]; simp
                simp (dsimp := false) (implicitDefEqProofs := false) [go_sem, f2, f5, f6, f7, f8, f9, f10, f11, m9, f12, f15, m45, wr0, wr1, wr2, goalD, h2, h4, hlost, hhi2]
                exact ⟨_, by omega, j + 1, by omega, rfl, rfl, w64 (by omega) (by omega)⟩
              · have hhi2 : highP s p g j = false := by rw [highP, hlost, decide_eq_false h2, decide_eq_false h4]; simp
                simp (dsimp := false) (implicitDefEqProofs := false) [go_sem, f2, f5, f6, f7, f8, f9, f10, f11, m9, f12, f15, m45, wr0, wr1, wr2, goalD, h2, h4, hlost, hhi2]
                exact ⟨_, by omega, j + 1, by omega, rfl, rfl, w64 (by omega) (by omega)⟩
    · obtain rfl : j = s.nodes.n := by omega
      simp (dsimp := false) (implicitDefEqProofs := false) [go_sem, f2, f5, f6, f7, f8, f9, f10, f11, m9]
      rw [htot] at f10
      refine runL_loop [] 38 (by simp (dsimp := false) (implicitDefEqProofs := false) [go_sem]) (fun m st => ∃ i : Nat, st.n = 207 ∧ st.lit = true ∧ i ≤ p.n ∧ m = p.n - i ∧ st.fr 5 = .f (intsF p) ∧ st.fr 10 = .f (I ((cntP p p.n : Int) - cntP p i)) ∧ st.fr 18 = .f (I i)) p.n ⟨0, ?_⟩ ?_
      · simp (dsimp := false) (implicitDefEqProofs := false) [go_sem, f2, f5, f6, f7, f8, f9, f10, f11, m9, cntP]
      rintro m ⟨N, fr, mem, nx, lt⟩ hnx ⟨i, hN, hlt2, hi, rfl, f5, f10, f18⟩
      dsimp only at *
      subst hN hnx hlt2
      simp (dsimp := false) (implicitDefEqProofs := false) [go_sem, f5, f10, f18]
      refine gif_dec (fun hit => ?_) (fun hit => ?_)
      · simp (dsimp := false) (implicitDefEqProofs := false) [go_sem, f5, f10, f18, hit]
        have hc : cntP p (i + 1) = cntP p i + if 0 ≤ p.el i then 1 else 0 := rfl
        have hci := cntP_le p i
        refine gif_dec (fun h0 => ?_) (fun h0 => ?_)
        · rw [if_pos h0] at hc
          simp (dsimp := false) (implicitDefEqProofs := false) [go_sem, f5, f10, f18, hit]
          exact ⟨_, by omega, i + 1, by omega, rfl, by rw [w64 (by omega) (by omega)]; omega, w64 (by omega) (by omega)⟩
        · rw [if_neg h0] at hc
          simp (dsimp := false) (implicitDefEqProofs := false) [go_sem, f5, f10, f18, hit]
          exact ⟨_, by omega, i + 1, by omega, rfl, by omega, w64 (by omega) (by omega)⟩
      · obtain rfl : i = p.n := by omega
        simp (dsimp := false) (implicitDefEqProofs := false) [go_sem, f5, f10, f18]

end Go.Proofs.YtipacbaapkdnaaaGreat
