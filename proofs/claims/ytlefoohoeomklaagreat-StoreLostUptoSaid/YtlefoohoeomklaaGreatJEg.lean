/- Pods, Idle, Low, High of the reference; heat.Pods. -/
import Derived.Test.YtlefoohoeomklaaGreatJEd
set_option linter.unusedSimpArgs false
set_option linter.unusedVariables false
namespace Go.Proofs.YtlefoohoeomklaaGreat
open Go.RowKit Go.Dk Go.Dn
def listF (ns : List Int) : FD := .sl 1 (ns.map fun n => [I n])
theorem listF_of (ns : List Int) : intsF (ofL ns) = listF ns := by
  unfold intsF listF ofL
  congr 1
  apply List.ext_getElem?
  intro j
  by_cases hj : j < ns.length
  · rw [encL_get? _ hj]; simp [hj]
  · rw [List.getElem?_eq_none (by rw [encL_len]; simpa using hj), List.getElem?_eq_none (by simp; omega)]
theorem cellsD_listF (ns : List Int) : cellsD (.f (listF ns)) = some [.f (listF ns)] := rfl
theorem lenD_listF (mem : Nat → Option M) (ns : List Int) : lenD mem (.f (listF ns)) = some ns.length := by simp [listF, lenD]
theorem elems_listF (mem : Nat → Option M) (ns : List Int) : elems mem 1 (.f (listF ns)) = some (ns.map fun n => [I n]) := by simp [listF, elems]
attribute [go_sem] cellsD_listF lenD_listF elems_listF
theorem podsL_succ (l : Lst Int) (x : Int) (j : Nat) : (podsL l x (j + 1)).map (fun n => [I n]) = (podsL l x j).map (fun n => [I n]) ++ if l.el j = x then [[I j]] else [] := by
  simp only [podsL]
  split <;> simp
/-- those of the first k of which p is true -/
def pickL (p : Nat → Bool) : Nat → List Int
  | 0 => []
  | k + 1 => pickL p k ++ if p k then [(k : Int)] else []
theorem pickL_len (p : Nat → Bool) : ∀ k, (pickL p k).length ≤ k
  | 0 => Nat.le_refl _
  | k + 1 => by
    have := pickL_len p k
    simp only [pickL, List.length_append]
    split <;> simp <;> omega
theorem pickL_succ (p : Nat → Bool) (j : Nat) : (pickL p (j + 1)).map (fun n => [I n]) = (pickL p j).map (fun n => [I n]) ++ if p j then [[I j]] else [] := by
  simp only [pickL]
  split <;> simp
theorem mayNB_at {s : SnapD} {l : Lst Int} (h : mayB s l = true) {k : Nat} (hk : k < s.nodes.n) : mayNB s l k = true := by
  simp [mayNB, h, hk]
theorem mayNB_no {s : SnapD} {l : Lst Int} (h : mayB s l = false) (x : Int) : mayNB s l x = false := by
  simp [mayNB, h]
def idleP (s : SnapD) (l : Lst Int) (k : Nat) : Bool := !(s.nodes.el k).lost && decide ((podsV s l k).length = 0)
def idleV (s : SnapD) (l : Lst Int) : List Int := if mayB s l then pickL (idleP s l) s.nodes.n else []
def lowP (s : SnapD) (l : Lst Int) (g : GoalD) (k : Nat) : Bool := !(s.nodes.el k).lost && decide (0 < (podsV s l k).length) && decide (shV s l k 0 < g.low 0) && decide (shV s l k 1 < g.low 1)
def lowV (s : SnapD) (l : Lst Int) (g : GoalD) : List Int := if goalE g = 0 ∧ mayB s l = true then pickL (lowP s l g) s.nodes.n else []
def highP (s : SnapD) (l : Lst Int) (g : GoalD) (k : Nat) : Bool := !(s.nodes.el k).lost && ((decide (0 < g.high 0) && decide (g.high 0 < shV s l k 0)) || (decide (0 < g.high 1) && decide (g.high 1 < shV s l k 1)))
def highV (s : SnapD) (l : Lst Int) (g : GoalD) : List Int := if goalE g = 0 ∧ mayB s l = true then pickL (highP s l g) s.nodes.n else []

set_option maxRecDepth 100000 in
theorem refPods_pure (s : SnapD) (ok : SnapOk s) (l : Lst Int) (hl : l.n ≤ 1048576) (x : Int) : Pure Tryz.prog 16 [snapF s, intsF l, I x] (listF (podsV s l x)) := by
  refine Pure.of_run' (lit := true) Tryz.func16 rfl rfl rfl rfl (Nat.le_of_ble_eq_true rfl) (run_of_runL ?_)
  unfold St.enter
  simp (dsimp := false) (implicitDefEqProofs := false) [go_sem, snapF, snapC]
  refine callW_f (refMay_pure s ok l hl x) ?_
  simp (dsimp := false) (implicitDefEqProofs := false) [go_sem]
  refine gif_split (fun hm => ?_) (fun hm => ?_)
  · simp (dsimp := false) (implicitDefEqProofs := false) [go_sem]
    refine runL_loop [.slot 7 3 1] 10 (by simp (dsimp := false) (implicitDefEqProofs := false) [go_sem]) (fun m st => ∃ j v : Nat, st.n = 31 ∧ st.lit = true ∧ j ≤ l.n ∧ m = l.n - j ∧ st.fr 1 = .f (intsF l) ∧ st.fr 2 = .f (I x) ∧ st.fr 7 = .own 9 v ∧ st.fr 8 = .f (I j) ∧
      st.mem 9 = some (.row 3 v 1 ((podsL l x j).map fun n => [I n]))) l.n ⟨0, 0, ?_⟩ ?_
    · simp (dsimp := false) (implicitDefEqProofs := false) [go_sem, podsL]
    rintro m ⟨N, fr, mem, nx, lt⟩ hnx ⟨j, v, hN, hlt, hj, rfl, f1, f2, f7, f8, m9⟩
    dsimp only at *
    subst hN hnx hlt
    simp (dsimp := false) (implicitDefEqProofs := false) [go_sem, f1, f2, f7, f8, m9]
    refine gif_dec (fun hlt => ?_) (fun hge => ?_)
    · simp (dsimp := false) (implicitDefEqProofs := false) [go_sem, f1, f2, f7, f8, m9, hlt]
      have hpl := podsL_len l x j
      refine gif_split (fun he => ?_) (fun he => ?_)
      · simp (dsimp := false) (implicitDefEqProofs := false) [go_sem, f1, f2, f7, f8, m9]
        refine andL_mk (by omega) ?_
        simp (dsimp := false) (implicitDefEqProofs := false) [go_sem, f1, f2, f7, f8, m9]
        exact ⟨_, by omega, j + 1, by omega, rfl, w64 (by omega) (by omega), by rw [podsL_succ, if_pos (by simpa using he)]⟩
      · simp (dsimp := false) (implicitDefEqProofs := false) [go_sem, f1, f2, f7, f8, m9]
        exact ⟨_, by omega, j + 1, by omega, rfl, w64 (by omega) (by omega), by rw [podsL_succ, if_neg (by simpa using he), List.append_nil]⟩
    · obtain rfl : j = l.n := by omega
      simp (dsimp := false) (implicitDefEqProofs := false) [go_sem, f1, f2, f7, f8, m9]
      rw [podsV, if_pos hm]; exact FLe.refl _
  · simp (dsimp := false) (implicitDefEqProofs := false) [go_sem]
    rw [podsV, if_neg (by simp [hm])]; exact FLe.nil 1
set_option maxRecDepth 100000 in
theorem heatPods_pure (s : SnapD) (ok : SnapOk s) (l : Lst Int) (hl : l.n ≤ 1048576) (x : Int) : Pure Tryz.prog 15 [snapF s, intsF l, I x] (listF (podsV s l x)) := by
  refine Pure.of_run' (lit := true) Tryz.func15 rfl rfl rfl rfl (Nat.le_of_ble_eq_true rfl) (run_of_runL ?_)
  unfold St.enter
  simp (dsimp := false) (implicitDefEqProofs := false) [go_sem, snapF, snapC]
  refine callW_f (heatMay_pure s ok l hl) ?_
  simp (dsimp := false) (implicitDefEqProofs := false) [go_sem]
  cases hm : mayB s l with
  | false =>
    simp (dsimp := false) (implicitDefEqProofs := false) [go_sem]
    rw [podsV_prog, hm]; exact FLe.nil 1
  | true =>
    simp (dsimp := false) (implicitDefEqProofs := false) [go_sem]
    refine gif_dec (fun hx => ?_) (fun hx => ?_)
    · simp (dsimp := false) (implicitDefEqProofs := false) [go_sem]
      rw [podsV_prog, if_neg (by simp; omega)]; exact FLe.nil 1
    simp (dsimp := false) (implicitDefEqProofs := false) [go_sem]
    refine runL_loop [.slot 6 3 1] 14 (by simp (dsimp := false) (implicitDefEqProofs := false) [go_sem]) (fun m st => ∃ j v : Nat, st.n = 33 ∧ st.lit = true ∧ j ≤ l.n ∧ m = l.n - j ∧ st.fr 17 = .f (intsF l) ∧ st.fr 18 = .f (I l.n) ∧ st.fr 2 = .f (I x) ∧ st.fr 6 = .own 13 v ∧ st.fr 19 = .f (I j) ∧
      st.mem 13 = some (.row 3 v 1 ((podsL l x j).map fun n => [I n]))) l.n ⟨0, 0, ?_⟩ ?_
    · simp (dsimp := false) (implicitDefEqProofs := false) [go_sem, podsL]
    rintro m ⟨N, fr, mem, nx, lt⟩ hnx ⟨j, v, hN, hlt, hj, rfl, f1, f18, f2, f7, f8, m9⟩
    dsimp only at *
    subst hN hnx hlt
    simp (dsimp := false) (implicitDefEqProofs := false) [go_sem, f1, f18, f2, f7, f8, m9]
    refine gif_dec (fun hlt => ?_) (fun hge => ?_)
    · simp (dsimp := false) (implicitDefEqProofs := false) [go_sem, f1, f18, f2, f7, f8, m9, hlt]
      have hpl := podsL_len l x j
      refine gif_split (fun he => ?_) (fun he => ?_)
      · simp (dsimp := false) (implicitDefEqProofs := false) [go_sem, f1, f18, f2, f7, f8, m9]
        refine andL_mk (by omega) ?_
        simp (dsimp := false) (implicitDefEqProofs := false) [go_sem, f1, f18, f2, f7, f8, m9]
        exact ⟨_, by omega, j + 1, by omega, rfl, w64 (by omega) (by omega), by rw [podsL_succ, if_pos (by simpa using he)]⟩
      · simp (dsimp := false) (implicitDefEqProofs := false) [go_sem, f1, f18, f2, f7, f8, m9]
        exact ⟨_, by omega, j + 1, by omega, rfl, w64 (by omega) (by omega), by rw [podsL_succ, if_neg (by simpa using he), List.append_nil]⟩
    · obtain rfl : j = l.n := by omega
      simp (dsimp := false) (implicitDefEqProofs := false) [go_sem, f1, f18, f2, f7, f8, m9]
      rw [podsV_prog, if_pos (by simp [hm]; omega)]; exact FLe.refl _
set_option maxRecDepth 100000 in
theorem refIdle_pure (s : SnapD) (ok : SnapOk s) (l : Lst Int) (hl : l.n ≤ 1048576) : Pure Tryz.prog 22 [snapF s, intsF l] (listF (idleV s l)) := by
  have hn := ok.n1
  refine Pure.of_run' (lit := true) Tryz.func22 rfl rfl rfl rfl (Nat.le_of_ble_eq_true rfl) (run_of_runL ?_)
  unfold St.enter
  simp (dsimp := false) (implicitDefEqProofs := false) [go_sem, snapF, snapC]
  refine runL_loop [.slot 5 3 1] 5 (by simp (dsimp := false) (implicitDefEqProofs := false) [go_sem]) (fun m st => ∃ j v : Nat, st.n = 40 ∧ st.lit = true ∧ j ≤ s.nodes.n ∧ m = s.nodes.n - j ∧ st.fr 1 = .f (intsF l) ∧ st.fr 2 = .f (.ref [nodesF s.nodes, podsF s.pods, ownersF s.owners]) ∧ st.fr 5 = .own 4 v ∧ st.fr 6 = .f (I j) ∧
      st.mem 4 = some (.row 3 v 1 ((pickL (idleP s l) j).map fun n => [I n])) ∧ (mayB s l = false → j = 0)) s.nodes.n ⟨0, 0, ?_⟩ ?_
  · simp (dsimp := false) (implicitDefEqProofs := false) [go_sem, pickL, snapC]
  rintro m ⟨N, fr, mem, nx, lt⟩ hnx ⟨j, v, hN, hlt, hj, rfl, f1, f2, f5, f6, m4, h0⟩
  dsimp only at *
  subst hN hnx hlt
  simp (dsimp := false) (implicitDefEqProofs := false) [go_sem, f1, f2, f5, f6, m4, snapC]
  refine gif_dec (fun hlt => ?_) (fun hge => ?_)
  · simp (dsimp := false) (implicitDefEqProofs := false) [go_sem, f1, f2, f5, f6, m4, snapC, hlt]
    refine callW_f (refMay_pure s ok l hl j) ?_
    cases hm : mayB s l with
    | false =>
      obtain rfl := h0 hm
      simp (dsimp := false) (implicitDefEqProofs := false) [go_sem, f1, f2, f5, f6, m4, mayNB_no hm]
      rw [idleV, if_neg (by simp [hm])]; exact FLe.refl _
    | true =>
      simp (dsimp := false) (implicitDefEqProofs := false) [go_sem, f1, f2, f5, f6, m4, mayNB_at hm hlt, hlt, nodeC_eq (s.nodes.el j), snapC]
      have hpl := pickL_len (idleP s l) j
      cases hL : (s.nodes.el j).lost with
      | true =>
        simp (dsimp := false) (implicitDefEqProofs := false) [go_sem, f1, f2, f5, f6, m4]
        exact ⟨_, by omega, j + 1, by omega, rfl, w64 (by omega) (by omega), by rw [pickL_succ, if_neg (by simp [idleP, hL]), List.append_nil]⟩
      | false =>
        simp (dsimp := false) (implicitDefEqProofs := false) [go_sem, f1, f2, f5, f6, m4]
        refine callW_f (refPods_pure s ok l hl j) ?_
        simp (dsimp := false) (implicitDefEqProofs := false) [go_sem, f1, f2, f5, f6, m4]
        refine gif_split (fun he => ?_) (fun he => ?_)
        · simp (dsimp := false) (implicitDefEqProofs := false) [go_sem, f1, f2, f5, f6, m4]
          refine andL_mk (by omega) ?_
          simp (dsimp := false) (implicitDefEqProofs := false) [go_sem, f1, f2, f5, f6, m4]
          exact ⟨_, by omega, j + 1, by omega, rfl, w64 (by omega) (by omega), by rw [pickL_succ, if_pos (by simp at he; simp [idleP, hL, he])]⟩
        · simp (dsimp := false) (implicitDefEqProofs := false) [go_sem, f1, f2, f5, f6, m4]
          exact ⟨_, by omega, j + 1, by omega, rfl, w64 (by omega) (by omega), by rw [pickL_succ, if_neg (by simp at he; simp [idleP, hL, he]), List.append_nil]⟩
  obtain rfl : j = s.nodes.n := by omega
  simp (dsimp := false) (implicitDefEqProofs := false) [go_sem, f1, f2, f5, f6, m4, hge]
  cases hm : mayB s l with
  | false => rw [idleV, if_neg (by simp [hm]), h0 hm]; exact FLe.refl _
  | true => rw [idleV, if_pos hm]; exact FLe.refl _
set_option maxRecDepth 100000 in
theorem refLow_pure (s : SnapD) (ok : SnapOk s) (l : Lst Int) (hl : l.n ≤ 1048576) (g : GoalD) : Pure Tryz.prog 18 [snapF s, intsF l, goalF g] (listF (lowV s l g)) := by
  have hn := ok.n1
  refine Pure.of_run' (lit := true) Tryz.func18 rfl rfl rfl rfl (Nat.le_of_ble_eq_true rfl) (run_of_runL ?_)
  unfold St.enter
  simp (dsimp := false) (implicitDefEqProofs := false) [go_sem, snapF, snapC, goalF, GoalD.cells]
  refine runL_loop [.slot 7 3 1] 6 (by simp (dsimp := false) (implicitDefEqProofs := false) [go_sem]) (fun m st => ∃ j v : Nat, st.n = 68 ∧ st.lit = true ∧ j ≤ s.nodes.n ∧ m = s.nodes.n - j ∧ st.fr 1 = .f (intsF l) ∧ st.fr 3 = .f (.ref [nodesF s.nodes, podsF s.pods, ownersF s.owners]) ∧ st.fr 5 = .f (.ref (g.cells.map .v)) ∧ st.fr 7 = .own 5 v ∧ st.fr 8 = .f (I j) ∧
      st.mem 5 = some (.row 3 v 1 ((pickL (lowP s l g) j).map fun n => [I n])) ∧ (¬ (goalE g = 0 ∧ mayB s l = true) → j = 0)) s.nodes.n ⟨0, 0, ?_⟩ ?_
  · simp (dsimp := false) (implicitDefEqProofs := false) [go_sem, pickL, snapC, GoalD.cells]
  rintro m ⟨N, fr, mem, nx, lt⟩ hnx ⟨j, v, hN, hlt, hj, rfl, f1, f3, f5, f7, f8, m4, h0⟩
  dsimp only at *
  simp only [GoalD.cells, List.map] at f5
  subst hN hnx hlt
  simp (dsimp := false) (implicitDefEqProofs := false) [go_sem, f1, f3, f5, f7, f8, m4]
  refine gif_dec (fun hlt => ?_) (fun hge => ?_)
  · simp (dsimp := false) (implicitDefEqProofs := false) [go_sem, f1, f3, f5, f7, f8, m4, hlt]
    refine callW_f (refPolicyCheck_pure g) ?_
    simp (dsimp := false) (implicitDefEqProofs := false) [go_sem, f1, f3, f5, f7, f8, m4, hlt]
    refine gif_split (fun hg => ?_) (fun hg => ?_)
    · simp (dsimp := false) (implicitDefEqProofs := false) [go_sem, f1, f3, f5, f7, f8, m4, hlt, hg]
      refine callW_f (refMay_pure s ok l hl j) ?_
      cases hm : mayB s l with
      | false =>
        obtain rfl := h0 (by simp [hm])
        simp (dsimp := false) (implicitDefEqProofs := false) [go_sem, f1, f3, f5, f7, f8, m4, mayNB_no hm]
        rw [lowV, if_neg (by simp [hm])]; exact FLe.refl _
      | true =>
        simp (dsimp := false) (implicitDefEqProofs := false) [go_sem, f1, f3, f5, f7, f8, m4, mayNB_at hm hlt, hlt]
        refine callW_f (refShare_pure s ok l hl j) ?_
        simp (dsimp := false) (implicitDefEqProofs := false) [go_sem, f1, f3, f5, f7, f8, m4, hlt, twoF, nodeC_eq (s.nodes.el j)]
        have hpl := pickL_len (lowP s l g) j
        refine gif_split (fun h1 => ?_) (fun h1 => ?_)
        · skip
          simp (dsimp := false) (implicitDefEqProofs := false) [go_sem, f1, f3, f5, f7, f8, m4, h1]
          exact ⟨_, by omega, j + 1, by omega, rfl, rfl, w64 (by omega) (by omega), by rw [pickL_succ, if_neg (by simp [lowP, h1]), List.append_nil], fun h => absurd (by simpa using hg) h⟩
        simp (dsimp := false) (implicitDefEqProofs := false) [go_sem, f1, f3, f5, f7, f8, m4, h1]
        refine callW_f (refPods_pure s ok l hl j) ?_
        simp (dsimp := false) (implicitDefEqProofs := false) [go_sem, f1, f3, f5, f7, f8, m4]
        refine gif_dec (fun h2 => ?_) (fun h2 => ?_)
        · simp (dsimp := false) (implicitDefEqProofs := false) [go_sem, f1, f3, f5, f7, f8, m4, h2]
          refine gif_dec (fun h3 => ?_) (fun h3 => ?_)
          · simp (dsimp := false) (implicitDefEqProofs := false) [go_sem, f1, f3, f5, f7, f8, m4, h3]
            refine gif_dec (fun h4 => ?_) (fun h4 => ?_)
            · skip
              simp (dsimp := false) (implicitDefEqProofs := false) [go_sem, f1, f3, f5, f7, f8, m4, h4]
              refine andL_mk (by omega) ?_
              simp (dsimp := false) (implicitDefEqProofs := false) [go_sem, f1, f3, f5, f7, f8, m4]
              exact ⟨_, by omega, j + 1, by omega, rfl, rfl, w64 (by omega) (by omega), by rw [pickL_succ, if_pos (by simp [lowP, h1, h2, h3, h4])], fun h => absurd (by simpa using hg) h⟩
            · skip
              simp (dsimp := false) (implicitDefEqProofs := false) [go_sem, f1, f3, f5, f7, f8, m4, h4]
              exact ⟨_, by omega, j + 1, by omega, rfl, rfl, w64 (by omega) (by omega), by rw [pickL_succ, if_neg (by simp [lowP, h1, h2, h3, h4]), List.append_nil], fun h => absurd (by simpa using hg) h⟩
          · skip
            simp (dsimp := false) (implicitDefEqProofs := false) [go_sem, f1, f3, f5, f7, f8, m4, h3]
            exact ⟨_, by omega, j + 1, by omega, rfl, rfl, w64 (by omega) (by omega), by rw [pickL_succ, if_neg (by simp [lowP, h1, h2, h3]), List.append_nil], fun h => absurd (by simpa using hg) h⟩
        · skip
          simp (dsimp := false) (implicitDefEqProofs := false) [go_sem, f1, f3, f5, f7, f8, m4, h2]
          exact ⟨_, by omega, j + 1, by omega, rfl, rfl, w64 (by omega) (by omega), by rw [pickL_succ, if_neg (by simp [lowP, h1, h2]), List.append_nil], fun h => absurd (by simpa using hg) h⟩
    · obtain rfl := h0 (by simp at hg; simp [hg])
      simp (dsimp := false) (implicitDefEqProofs := false) [go_sem, f1, f3, f5, f7, f8, m4, hg]
      rw [lowV, if_neg (by simp at hg; simp [hg])]; exact FLe.refl _
  obtain rfl : j = s.nodes.n := by omega
  simp (dsimp := false) (implicitDefEqProofs := false) [go_sem, f1, f3, f5, f7, f8, m4, hge]
  by_cases hm : goalE g = 0 ∧ mayB s l = true
  · rw [lowV, if_pos hm]; exact FLe.refl _
  · rw [lowV, if_neg hm, h0 hm]; exact FLe.refl _
set_option maxRecDepth 100000 in
theorem refHigh_pure (s : SnapD) (ok : SnapOk s) (l : Lst Int) (hl : l.n ≤ 1048576) (g : GoalD) : Pure Tryz.prog 20 [snapF s, intsF l, goalF g] (listF (highV s l g)) := by
  have hn := ok.n1
  refine Pure.of_run' (lit := true) Tryz.func20 rfl rfl rfl rfl (Nat.le_of_ble_eq_true rfl) (run_of_runL ?_)
  unfold St.enter
  simp (dsimp := false) (implicitDefEqProofs := false) [go_sem, snapF, snapC, goalF, GoalD.cells]
  refine runL_loop [.slot 7 3 1] 6 (by simp (dsimp := false) (implicitDefEqProofs := false) [go_sem]) (fun m st => ∃ j v : Nat, st.n = 72 ∧ st.lit = true ∧ j ≤ s.nodes.n ∧ m = s.nodes.n - j ∧ st.fr 1 = .f (intsF l) ∧ st.fr 3 = .f (.ref [nodesF s.nodes, podsF s.pods, ownersF s.owners]) ∧ st.fr 5 = .f (.ref (g.cells.map .v)) ∧ st.fr 7 = .own 5 v ∧ st.fr 8 = .f (I j) ∧
      st.mem 5 = some (.row 3 v 1 ((pickL (highP s l g) j).map fun n => [I n])) ∧ (¬ (goalE g = 0 ∧ mayB s l = true) → j = 0)) s.nodes.n ⟨0, 0, ?_⟩ ?_
  · simp (dsimp := false) (implicitDefEqProofs := false) [go_sem, pickL, snapC, GoalD.cells]
  rintro m ⟨N, fr, mem, nx, lt⟩ hnx ⟨j, v, hN, hlt, hj, rfl, f1, f3, f5, f7, f8, m4, h0⟩
  dsimp only at *
  simp only [GoalD.cells, List.map] at f5
  subst hN hnx hlt
  simp (dsimp := false) (implicitDefEqProofs := false) [go_sem, f1, f3, f5, f7, f8, m4]
  refine gif_dec (fun hlt => ?_) (fun hge => ?_)
  · simp (dsimp := false) (implicitDefEqProofs := false) [go_sem, f1, f3, f5, f7, f8, m4, hlt]
    refine callW_f (refPolicyCheck_pure g) ?_
    simp (dsimp := false) (implicitDefEqProofs := false) [go_sem, f1, f3, f5, f7, f8, m4, hlt]
    refine gif_split (fun hg => ?_) (fun hg => ?_)
    · simp (dsimp := false) (implicitDefEqProofs := false) [go_sem, f1, f3, f5, f7, f8, m4, hlt, hg]
      refine callW_f (refMay_pure s ok l hl j) ?_
      cases hm : mayB s l with
      | false =>
        obtain rfl := h0 (by simp [hm])
        simp (dsimp := false) (implicitDefEqProofs := false) [go_sem, f1, f3, f5, f7, f8, m4, mayNB_no hm]
        rw [highV, if_neg (by simp [hm])]; exact FLe.refl _
      | true =>
        simp (dsimp := false) (implicitDefEqProofs := false) [go_sem, f1, f3, f5, f7, f8, m4, mayNB_at hm hlt, hlt]
        refine callW_f (refShare_pure s ok l hl j) ?_
        simp (dsimp := false) (implicitDefEqProofs := false) [go_sem, f1, f3, f5, f7, f8, m4, hlt, twoF, nodeC_eq (s.nodes.el j)]
        have hpl := pickL_len (highP s l g) j
        refine gif_split (fun h1 => ?_) (fun h1 => ?_)
        · skip
          simp (dsimp := false) (implicitDefEqProofs := false) [go_sem, f1, f3, f5, f7, f8, m4, h1]
          exact ⟨_, by omega, j + 1, by omega, rfl, rfl, w64 (by omega) (by omega), by rw [pickL_succ, if_neg (by simp [highP, h1]), List.append_nil], fun h => absurd (by simpa using hg) h⟩
        simp (dsimp := false) (implicitDefEqProofs := false) [go_sem, f1, f3, f5, f7, f8, m4, h1]
        refine gif_dec (fun h2 => ?_) (fun h2 => ?_)
        · simp (dsimp := false) (implicitDefEqProofs := false) [go_sem, f1, f3, f5, f7, f8, m4, h2]
          refine gif_dec (fun h3 => ?_) (fun h3 => ?_)
          · skip
            simp (dsimp := false) (implicitDefEqProofs := false) [go_sem, f1, f3, f5, f7, f8, m4, h3]
            refine andL_mk (by omega) ?_
            simp (dsimp := false) (implicitDefEqProofs := false) [go_sem, f1, f3, f5, f7, f8, m4]
            exact ⟨_, by omega, j + 1, by omega, rfl, rfl, w64 (by omega) (by omega), by rw [pickL_succ, if_pos (by simp [highP, h1, h2, h3])], fun h => absurd (by simpa using hg) h⟩
          · skip
            simp (dsimp := false) (implicitDefEqProofs := false) [go_sem, f1, f3, f5, f7, f8, m4, h3]
            refine gif_dec (fun h4 => ?_) (fun h4 => ?_)
            · simp (dsimp := false) (implicitDefEqProofs := false) [go_sem, f1, f3, f5, f7, f8, m4, h4]
              refine gif_dec (fun h5 => ?_) (fun h5 => ?_)
              · skip
                simp (dsimp := false) (implicitDefEqProofs := false) [go_sem, f1, f3, f5, f7, f8, m4, h5]
                refine andL_mk (by omega) ?_
                simp (dsimp := false) (implicitDefEqProofs := false) [go_sem, f1, f3, f5, f7, f8, m4]
                exact ⟨_, by omega, j + 1, by omega, rfl, rfl, w64 (by omega) (by omega), by rw [pickL_succ, if_pos (by simp [highP, h1, h2, h3, h4, h5])], fun h => absurd (by simpa using hg) h⟩
              · skip
                simp (dsimp := false) (implicitDefEqProofs := false) [go_sem, f1, f3, f5, f7, f8, m4, h5]
                exact ⟨_, by omega, j + 1, by omega, rfl, rfl, w64 (by omega) (by omega), by rw [pickL_succ, if_neg (by simp [highP, h1, h2, h3, h4, h5]), List.append_nil], fun h => absurd (by simpa using hg) h⟩
            · skip
              simp (dsimp := false) (implicitDefEqProofs := false) [go_sem, f1, f3, f5, f7, f8, m4, h4]
              exact ⟨_, by omega, j + 1, by omega, rfl, rfl, w64 (by omega) (by omega), by rw [pickL_succ, if_neg (by simp [highP, h1, h2, h3, h4]), List.append_nil], fun h => absurd (by simpa using hg) h⟩
        · skip
          simp (dsimp := false) (implicitDefEqProofs := false) [go_sem, f1, f3, f5, f7, f8, m4, h2]
          refine gif_dec (fun h4 => ?_) (fun h4 => ?_)
          · simp (dsimp := false) (implicitDefEqProofs := false) [go_sem, f1, f3, f5, f7, f8, m4, h4]
            refine gif_dec (fun h5 => ?_) (fun h5 => ?_)
            · skip
              simp (dsimp := false) (implicitDefEqProofs := false) [go_sem, f1, f3, f5, f7, f8, m4, h5]
              refine andL_mk (by omega) ?_
              simp (dsimp := false) (implicitDefEqProofs := false) [go_sem, f1, f3, f5, f7, f8, m4]
              exact ⟨_, by omega, j + 1, by omega, rfl, rfl, w64 (by omega) (by omega), by rw [pickL_succ, if_pos (by simp [highP, h1, h2, h4, h5])], fun h => absurd (by simpa using hg) h⟩
            · skip
              simp (dsimp := false) (implicitDefEqProofs := false) [go_sem, f1, f3, f5, f7, f8, m4, h5]
              exact ⟨_, by omega, j + 1, by omega, rfl, rfl, w64 (by omega) (by omega), by rw [pickL_succ, if_neg (by simp [highP, h1, h2, h4, h5]), List.append_nil], fun h => absurd (by simpa using hg) h⟩
          · skip
            simp (dsimp := false) (implicitDefEqProofs := false) [go_sem, f1, f3, f5, f7, f8, m4, h4]
            exact ⟨_, by omega, j + 1, by omega, rfl, rfl, w64 (by omega) (by omega), by rw [pickL_succ, if_neg (by simp [highP, h1, h2, h4]), List.append_nil], fun h => absurd (by simpa using hg) h⟩
    · obtain rfl := h0 (by simp at hg; simp [hg])
      simp (dsimp := false) (implicitDefEqProofs := false) [go_sem, f1, f3, f5, f7, f8, m4, hg]
      rw [highV, if_neg (by simp at hg; simp [hg])]; exact FLe.refl _
  obtain rfl : j = s.nodes.n := by omega
  simp (dsimp := false) (implicitDefEqProofs := false) [go_sem, f1, f3, f5, f7, f8, m4, hge]
  by_cases hm : goalE g = 0 ∧ mayB s l = true
  · rw [highV, if_pos hm]; exact FLe.refl _
  · rw [highV, if_neg hm, h0 hm]; exact FLe.refl _
end Go.Proofs.YtlefoohoeomklaaGreat
