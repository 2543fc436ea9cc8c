/- fitted: a placement that may be, out of numbers. -/
import Derived.Test.YthpmgnbehahkfaaGreatJWo
import Derived.Test.YthpmgnbehahkfaaGreatJDc
set_option linter.unusedSimpArgs false
set_option linter.unusedVariables false
namespace Go.Proofs.YthpmgnbehahkfaaGreat
open Go.RowKit Go.Dk Go.Dn

def fitN (s : SnapD) (l : Lst Int) (i : Nat) : Int := if i < l.n then bringV (l.el i) ((s.nodes.n : Int) + 1) - 1 else -1
def fitV (s : SnapD) (l : Lst Int) (i : Nat) : Int := if 0 ≤ fitN s l i ∧ (s.nodes.el (fitN s l i).toNat).lost = true then -1 else fitN s l i
def fitL (s : SnapD) (l : Lst Int) : Lst Int := ⟨s.pods.n, fitV s l⟩
theorem fitN_range (s : SnapD) (l : Lst Int) (i : Nat) : -1 ≤ fitN s l i ∧ fitN s l i < s.nodes.n := by
  unfold fitN
  split
  · have := bringV_range (a := l.el i) (n := (s.nodes.n : Int) + 1) (by omega)
    omega
  · omega
/-- where a pod may be -/
def Place (s : SnapD) (x : Int) : Prop := x = -1 ∨ ∃ m : Nat, m < s.nodes.n ∧ x = m ∧ (s.nodes.el m).lost = false
theorem fitV_place (s : SnapD) (l : Lst Int) (i : Nat) : Place s (fitV s l i) := by
  have h := fitN_range s l i
  unfold fitV
  split
  · exact .inl rfl
  · rename_i hc
    rcases Int.lt_or_le (fitN s l i) 0 with h0 | h0
    · exact .inl (by omega)
    · refine .inr ⟨(fitN s l i).toNat, by omega, by omega, ?_⟩
      rcases Bool.eq_false_or_eq_true (s.nodes.el (fitN s l i).toNat).lost with hb | hb
      · exact absurd ⟨h0, hb⟩ hc
      · exact hb
theorem placeE_ok {s : SnapD} (hc : checkE s = 0) {f : Nat → Int} (h : ∀ i, i < s.pods.n → Place s (f i)) : placeE s ⟨s.pods.n, f⟩ = 0 := by
  unfold placeE
  rw [if_pos hc, if_pos]
  refine ⟨rfl, anyB_false fun k hk => ?_⟩
  unfold oddP
  rcases h k hk with e | ⟨m, hm, e, hl⟩
  · show (decide (f k < -1) || decide ((s.nodes.n : Int) ≤ f k) || (decide (0 ≤ f k) && (s.nodes.el (f k).toNat).lost)) = false
    rw [e]
    simp
    omega
  · show (decide (f k < -1) || decide ((s.nodes.n : Int) ≤ f k) || (decide (0 ≤ f k) && (s.nodes.el (f k).toNat).lost)) = false
    rw [e, Int.toNat_natCast, hl]
    simp
    omega
theorem placeE_bad {s : SnapD} (hc : ¬ checkE s = 0) (p : Lst Int) : placeE s p = checkE s := by
  unfold placeE
  rw [if_neg hc]
set_option maxRecDepth 100000 in
set_option maxHeartbeats 2000000 in
theorem fitted_pure (s : SnapD) (ok : SnapOk s) (l : Lst Int) (hl : l.n ≤ 1048576) : Pure Tryz.prog 55 [snapF s, intsF l] (intsF (fitL s l)) := by
  have hn1 := ok.n1
  have hp1 := ok.p1
  refine Pure.of_run' (lit := true) Tryz.func55 rfl rfl rfl rfl (Nat.le_of_ble_eq_true rfl) (run_of_runL ?_)
  unfold St.enter
  simp -dsimp -implicitDefEqProofs [go_sem, snapF, snapC]
  refine runL_loop [.slot 5 3 1] 5 (by simp -dsimp -implicitDefEqProofs [go_sem]) (fun m st => ∃ j v : Nat, st.n = 44 ∧ st.lit = true ∧ j ≤ s.pods.n ∧ m = s.pods.n - j ∧ st.fr 1 = .f (intsF l) ∧ st.fr 2 = .f (.ref [nodesF s.nodes, podsF s.pods, ownersF s.owners]) ∧ st.fr 5 = .own 4 v ∧ st.fr 6 = .f (I j) ∧
    st.mem 4 = some (.row 3 v 1 (encL j fun k => [I (fitV s l k)]))) s.pods.n ⟨0, 0, ?_⟩ ?_
  · simp -dsimp -implicitDefEqProofs [go_sem]
  rintro m ⟨N, fr, mem, nx, lt⟩ hnx ⟨j, v, hN, hlt, hj, rfl, f1, f2, f5, f6, m4⟩
  dsimp only at *
  subst hN hnx hlt
  rcases Nat.lt_or_ge j s.pods.n with hlt | hge
  · have hr := fitN_range s l j
    have hpl := fitV_place s l j
    have hwm : ∀ x : Int, -1 ≤ x → x < (s.nodes.n : Int) → IntKind.i64.wrap x = x := fun x h1 h2 => w64 (by omega) (by omega)
    simp -dsimp -implicitDefEqProofs [go_sem, f1, f2, f5, f6, podsF, hlt]
    by_cases hjl : j < l.n
    · have hb := bringV_range (a := l.el j) (n := (s.nodes.n : Int) + 1) (by omega)
      have w1 : IntKind.i64.wrap ((s.nodes.n : Int) + 1) = (s.nodes.n : Int) + 1 := w64 (by omega) (by omega)
      have w2 : IntKind.i64.wrap (bringV (l.el j) ((s.nodes.n : Int) + 1) - 1) = bringV (l.el j) ((s.nodes.n : Int) + 1) - 1 := w64 (by omega) (by omega)
      have hfn : fitN s l j = bringV (l.el j) ((s.nodes.n : Int) + 1) - 1 := by unfold fitN; rw [if_pos hjl]
      simp -dsimp -implicitDefEqProofs [go_sem, f1, f2, f5, f6, intsF, hjl]
      refine runL_draw [[], [], [0, 1], [2, 0, 1], [], [4], [5, 4], [6, 5, 4], [3, 2, 0, 1, 7, 6, 5, 4], [8, 3, 2, 0, 1, 7, 6, 5, 4], [9, 8, 3, 2, 0, 1, 7, 6, 5, 4]] (by kernel_rfl) (by kernel_rfl) ?_
      simp -dsimp -implicitDefEqProofs [go_sem, Tv, Cw, silentAt, silentOp, f1, f2, f5, f6, intsF, nodesF, hjl, encL_get? _ hjl, w1]
      refine callW_f (fs := [I (l.el j), I ((s.nodes.n : Int) + 1)]) (bring_pure _ _ (by omega) (by omega)) ?_
      have hb1 : bringV (l.el j) ((s.nodes.n : Int) + 1) = fitN s l j + 1 := by omega
      have w3 : IntKind.i64.wrap (fitN s l j) = fitN s l j := hwm _ hr.1 hr.2
      rw [hb1]
      rcases Int.lt_or_le (fitN s l j) 0 with h0 | h0
      · have h0' : ¬ 0 ≤ fitN s l j := by omega
        have hfv : fitV s l j = fitN s l j := by unfold fitV; rw [if_neg (fun h => h0' h.1)]
        simp -dsimp -implicitDefEqProofs [go_sem, Tv, Cw, silentAt, silentOp, f1, f2, f5, f6, m4, w3, h0, h0']
        refine andL_mk (by omega) ?_
        simp -dsimp -implicitDefEqProofs [go_sem, f1, f2, f5, f6, m4]
        exact ⟨_, by omega, j + 1, by omega, rfl, w64 (by omega) (by omega), by rw [encL_succ, hfv]⟩
      · have h0' : ¬ fitN s l j < 0 := by omega
        obtain ⟨m, hm⟩ : ∃ m : Nat, fitN s l j = m := ⟨(fitN s l j).toNat, by omega⟩
        have hmn : m < s.nodes.n := by omega
        have w4 : IntKind.i64.wrap (m : Int) = m := w64 (by omega) (by omega)
        rcases Bool.eq_false_or_eq_true (s.nodes.el m).lost with hb | hb
        · have hfv : fitV s l j = -1 := by unfold fitV; rw [hm, Int.toNat_natCast, if_pos ⟨by omega, hb⟩]
          rw [hm]
          simp -dsimp -implicitDefEqProofs [go_sem, Tv, Cw, silentAt, silentOp, f1, f2, f5, f6, m4, w4, nodesF, hmn, encL_get? _ hmn, nodeC_eq (s.nodes.el m), hb]
          refine andL_mk (by omega) ?_
          simp -dsimp -implicitDefEqProofs [go_sem, f1, f2, f5, f6, m4]
          exact ⟨_, by omega, j + 1, by omega, rfl, w64 (by omega) (by omega), by rw [encL_succ, hfv]⟩
        · have hfv : fitV s l j = m := by unfold fitV; rw [hm, Int.toNat_natCast, if_neg (fun h => by rw [hb] at h; cases h.2)]
          rw [hm]
          simp -dsimp -implicitDefEqProofs [go_sem, Tv, Cw, silentAt, silentOp, f1, f2, f5, f6, m4, w4, nodesF, hmn, encL_get? _ hmn, nodeC_eq (s.nodes.el m), hb]
          refine andL_mk (by omega) ?_
          simp -dsimp -implicitDefEqProofs [go_sem, f1, f2, f5, f6, m4]
          exact ⟨_, by omega, j + 1, by omega, rfl, w64 (by omega) (by omega), by rw [encL_succ, hfv]⟩
    · have hfn : fitN s l j = -1 := by unfold fitN; rw [if_neg hjl]
      have hfv : fitV s l j = -1 := by unfold fitV; rw [hfn]; rfl
      simp -dsimp -implicitDefEqProofs [go_sem, f1, f2, f5, f6, intsF, hjl, m4]
      refine andL_mk (by omega) ?_
      simp -dsimp -implicitDefEqProofs [go_sem, f1, f2, f5, f6, m4]
      exact ⟨_, by omega, j + 1, by omega, rfl, w64 (by omega) (by omega), by rw [encL_succ, hfv]⟩
  · obtain rfl : j = s.pods.n := by omega
    simp -dsimp -implicitDefEqProofs [go_sem, f1, f2, f5, f6, m4, podsF]
    exact FLe.refl _
end Go.Proofs.YthpmgnbehahkfaaGreat
