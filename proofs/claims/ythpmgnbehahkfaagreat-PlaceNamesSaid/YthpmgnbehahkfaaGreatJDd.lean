/- snap.Node, place.Check, snap.Placement, as contracts of data. -/
import Derived.Test.YthpmgnbehahkfaaGreatJEb
import Derived.Test.YthpmgnbehahkfaaGreatJZl
set_option linter.unusedSimpArgs false
set_option linter.unusedVariables false
namespace Go.Proofs.YthpmgnbehahkfaaGreat
open Go.RowKit Go.Dk Go.Dn

def onV (s : SnapD) (k : Nat) : Int := if (s.pods.el k).on.toList.isEmpty then -1 else nameIdx (fun k => (s.nodes.el k).name) s.nodes.n (s.pods.el k).on
def placV (s : SnapD) : Lst Int := ⟨s.pods.n, onV s⟩
theorem snapNode_pure (s : SnapD) (ok : SnapOk s) (nm : ByteArray) : Pure Tryz.prog 149 [snapF s, S nm] (I (nameIdx (fun k => (s.nodes.el k).name) s.nodes.n nm)) :=
  pure_of Tryz.func149 rfl rfl fun x vs hr => by
    obtain ⟨u, v, rfl, h1, h2⟩ := repL2 hr
    obtain ⟨n, p, o, lv, tv, pv, rfl, h⟩ := snap_of_rep h1 ok
    unfold Rep at h2
    subst h2
    exact snapNode_any h nm
theorem placeCheck_pure (s : SnapD) (ok : SnapOk s) (l : Lst Int) (hl : l.n ≤ 1048576) : Pure Tryz.prog 56 [snapF s, intsF l] (I (placeE s l)) :=
  pure_of Tryz.func56 rfl rfl fun x vs hr => by
    obtain ⟨u, v, rfl, h1, h2⟩ := repL2 hr
    obtain ⟨n, p, o, lv, tv, pv, rfl, h⟩ := snap_of_rep h1 ok
    exact placeCheck_any h (ints_of_rep h2 hl)

set_option maxRecDepth 100000 in
theorem pl1_pure (s : SnapD) (ok : SnapOk s) (k : Nat) : Pure Tryz.prog 148 [.agg (podC (s.pods.el k)), .ref (snapC s)] (I (onV s k)) := by
  refine Pure.of_run (lit := true) Tryz.func148 rfl rfl rfl rfl (Nat.le_of_ble_eq_true rfl) (run_of_runL ?_)
  unfold St.enter
  simp -dsimp -implicitDefEqProofs [go_sem, podC_eq (s.pods.el k), snapC]
  refine gif_split (fun he => ?_) (fun he => ?_)
  · simp -dsimp -implicitDefEqProofs [go_sem, he]
    simp [onV, he]
  · simp -dsimp -implicitDefEqProofs [go_sem, he]
    refine callW_f (snapNode_pure s ok _) ?_
    simp -dsimp -implicitDefEqProofs [go_sem, he]
    simp [onV, he]
set_option maxRecDepth 100000 in
theorem eachPod_pure (p : Lst PodD) (hp : p.n ≤ 1048576) (g : Nat) (gc : List FD) (f : Nat → Int) (hg : ∀ k, Pure Tryz.prog g (.agg (podC (p.el k)) :: gc) (I (f k))) : Pure Tryz.prog 147 [podsF p, .fn g gc] (intsF ⟨p.n, f⟩) := by
  refine Pure.of_run (lit := true) Tryz.func147 rfl rfl rfl rfl (Nat.le_of_ble_eq_true rfl) (run_of_runL ?_)
  unfold St.enter
  simp -dsimp -implicitDefEqProofs [go_sem]
  refine andL_mk (by omega) ?_
  simp -dsimp -implicitDefEqProofs [go_sem]
  refine runL_loop [] 8 (by simp -dsimp -implicitDefEqProofs [go_sem]) (fun m st => ∃ j v : Nat, st.n = 25 ∧ st.lit = true ∧ j ≤ p.n ∧ m = p.n - j ∧ st.fr 1 = .f (.fn g gc) ∧ st.fr 5 = .own 3 v ∧ st.fr 11 = .f (podsF p) ∧ st.fr 12 = .f (I p.n) ∧ st.fr 13 = .f (I j) ∧ st.mem 3 = some (.row 3 v 1 (encL j fun k => [I (f k)]))) p.n ⟨0, 0, ?_⟩ ?_
  · simp -dsimp -implicitDefEqProofs [go_sem]
  rintro m ⟨N, fr, mem, nx, lt⟩ hnx ⟨j, v, hN, hlt, hj, rfl, f1, f5, f11, f12, f13, m3⟩
  dsimp only at *
  subst hN hnx hlt
  simp -dsimp -implicitDefEqProofs [go_sem, f1, f5, f11, f12, f13, m3]
  refine gif_dec (fun hlt => ?_) (fun hge => ?_)
  · simp -dsimp -implicitDefEqProofs [go_sem, f1, f5, f11, f12, f13, m3, hlt, podC_eq (p.el j)]
    refine callW_f (fs := .agg (podC (p.el j)) :: gc) (hg j) ?_
    simp -dsimp -implicitDefEqProofs [go_sem, f1, f5, f11, f12, f13, m3]
    refine andL_mk (by omega) ?_
    simp -dsimp -implicitDefEqProofs [go_sem, f1, f5, f11, f12, f13, m3]
    exact ⟨_, by omega, j + 1, by omega, rfl, w64 (by omega) (by omega), by rw [encL_succ]⟩
  obtain rfl : j = p.n := by omega
  simp -dsimp -implicitDefEqProofs [go_sem, f1, f5, f11, f12, f13, m3]
  rfl
set_option maxRecDepth 100000 in
theorem snapPlacement_pure (s : SnapD) (ok : SnapOk s) : Pure Tryz.prog 93 [snapF s] (intsF (placV s)) := by
  refine Pure.of_run (lit := true) Tryz.func93 rfl rfl rfl rfl (Nat.le_of_ble_eq_true rfl) (run_of_runL ?_)
  unfold St.enter
  simp -dsimp -implicitDefEqProofs [go_sem, snapF, snapC]
  refine callW_f (eachPod_pure s.pods ok.p1 _ _ (onV s) (fun k => pl1_pure s ok k)) ?_
  simp -dsimp -implicitDefEqProofs [go_sem]
  rfl
end Go.Proofs.YthpmgnbehahkfaaGreat
