/- snap.Copy makes three rows. -/
/- store.New. -/
/- Calls of a store, one by one: what is lost and gone stays so. -/
import Derived.Test.YthpmgnbehahkfaaGreatJQk
import Derived.Test.YthpmgnbehahkfaaGreatJEb
import Derived.Test.YthpmgnbehahkfaaGreatJQl
import Derived.Test.YthpmgnbehahkfaaGreatJDd
import Derived.Test.YthpmgnbehahkfaaGreatJDc
set_option linter.unusedSimpArgs false
set_option linter.unusedVariables false
section
namespace Go.Proofs.YthpmgnbehahkfaaGreat
open Go.RowKit Go.Dk Go.Dn

def nodeRow (l : Lst NodeD) : TypeId × Nat × List (List FD) := (75, 10, encL l.n fun k => nodeC (l.el k))
def podRow (l : Lst PodD) : TypeId × Nat × List (List FD) := (81, 15, encL l.n fun k => podC (l.el k))
def ownerRow (l : Lst OwnerD) : TypeId × Nat × List (List FD) := (100, 5, encL l.n fun k => ownerC (l.el k))
def snapRows (s : SnapD) : List (TypeId × Nat × List (List FD)) := [nodeRow s.nodes, podRow s.pods, ownerRow s.owners]
set_option maxRecDepth 100000 in
set_option maxHeartbeats 2000000 in
theorem snapCopy_rows (s : SnapD) (ok : SnapOk s) : RowsCall Tryz.prog 92 [snapF s] (snapRows s) := by
  have hn1 := ok.n1
  have hp1 := ok.p1
  have ho1 := ok.o1
  refine RowsCall.of_callS ?_ ?_
  · intro r hr
    simp only [snapRows, List.mem_cons, List.not_mem_nil, or_false] at hr
    rcases hr with rfl | rfl | rfl
    · exact ⟨Nat.le_of_ble_eq_true rfl, fun ds h => by simp only [nodeRow, encL, List.mem_map] at h; obtain ⟨k, -, rfl⟩ := h; rfl⟩
    · exact ⟨Nat.le_of_ble_eq_true rfl, fun ds h => by simp only [podRow, encL, List.mem_map] at h; obtain ⟨k, -, rfl⟩ := h; rfl⟩
    · exact ⟨Nat.le_of_ble_eq_true rfl, fun ds h => by simp only [ownerRow, encL, List.mem_map] at h; obtain ⟨k, -, rfl⟩ := h; rfl⟩
  refine callS.of_run (lit := true) (B := fun _ => []) Tryz.func92 rfl rfl rfl rfl (Nat.le_of_ble_eq_true rfl) (runC_of_runCL ?_)
  simp -dsimp -implicitDefEqProofs [go_sem, snapF, snapC]
  refine runCL_draw [[], [0], [1, 0], [], [3], [4, 3, 2, 1, 0], [], [6], [7, 6, 5, 4, 3, 2, 1, 0], [2, 1, 0, 5, 4, 3, 8, 7, 6], [], [10, 9, 2, 1, 0, 5, 4, 3, 8, 7, 6]] rfl (by kernel_rfl) (by kernel_rfl) ?_
  simp -dsimp -implicitDefEqProofs [go_sem, Tv, Cw, silentAt, silentOp]
  refine callW_copy cloneNode_copy (xs := encL s.nodes.n fun k => nodeC (s.nodes.el k)) (elems_nodesF _ _) (by rw [encL_len]; exact hn1) ?_
  simp -dsimp -implicitDefEqProofs [go_sem, Tv, Cw, silentAt, silentOp]
  refine exWL_mk (andL_mk ⟨by kernel_rfl, by kernel_rfl⟩ ?_)
  simp -dsimp -implicitDefEqProofs [go_sem, Tv, Cw, silentAt, silentOp]
  refine callW_copy clonePod_copy (xs := encL s.pods.n fun k => podC (s.pods.el k)) (elems_podsF _ _) (by rw [encL_len]; exact hp1) ?_
  simp -dsimp -implicitDefEqProofs [go_sem, Tv, Cw, silentAt, silentOp]
  refine exWL_mk (andL_mk ⟨by kernel_rfl, by kernel_rfl⟩ ?_)
  simp -dsimp -implicitDefEqProofs [go_sem, Tv, Cw, silentAt, silentOp]
  refine callW_copy cloneOwner_copy (xs := encL s.owners.n fun k => ownerC (s.owners.el k)) (elems_ownersF _ _) (by rw [encL_len]; exact ho1) ?_
  simp -dsimp -implicitDefEqProofs [go_sem, Tv, Cw, silentAt, silentOp]
  refine exWL_mk (andL_mk ⟨by kernel_rfl, by kernel_rfl⟩ ?_)
  simp -dsimp -implicitDefEqProofs [go_sem, Tv, Cw, silentAt, silentOp]
  refine exWL_mk (andL_mk ⟨by kernel_rfl, by kernel_rfl⟩ ?_)
  simp -dsimp -implicitDefEqProofs [go_sem, Tv, Cw, silentAt, silentOp]
  refine exWL_mk (andL_mk ⟨by kernel_rfl, by kernel_rfl⟩ ?_)
  simp -dsimp -implicitDefEqProofs [go_sem, Tv, Cw, silentAt, silentOp]
  refine runCL_loop [] (fun m st => ∃ j : Nat, st.n = 101 ∧ st.lit = true ∧ j ≤ s.nodes.n ∧ m = s.nodes.n - j ∧ 18 ≤ st.next ∧ st.fr 2 = .loc 1 0 ∧ st.fr 3 = .loc 12 0 ∧ st.fr 20 = .f (I s.nodes.n) ∧ st.fr 21 = .f (I j) ∧
      st.mem 1 = some (.blk [.f (.v (.slice none 0 0)), .f (.v (.slice none 0 0)), .f (.v (.slice none 0 0))]) ∧ st.mem 4 = some (.row 75 0 10 (encL s.nodes.n fun k => nodeC (s.nodes.el k))) ∧
      st.mem 7 = some (.row 81 0 15 (encL s.pods.n fun k => podC (s.pods.el k))) ∧ st.mem 10 = some (.row 100 0 5 (encL s.owners.n fun k => ownerC (s.owners.el k))) ∧ st.mem 12 = some (.blk [.own 4 0, .own 7 0, .own 10 0])) s.nodes.n ⟨0, ?_⟩ ?_
  · simp -dsimp -implicitDefEqProofs [go_sem]
  rintro m ⟨N, fr, mem, nx, lt⟩ ⟨j, hN, hlt, hj, rfl, hnx, f2, f3, f20, f21, m1, m4, m7, m10, m12⟩
  dsimp only at *
  subst hN hlt
  have h4 : ∀ k, 4 < nx + k := fun k => by omega
  have h12 : ∀ k, 12 < nx + k := fun k => by omega
  simp -dsimp -implicitDefEqProofs [go_sem, f2, f3, f20, f21, m1, m4, m7, m10, m12]
  refine gif_dec (fun hlt => ?_) (fun hge => ?_)
  · have hset := encL_set s.nodes.n j (fun k => nodeC (s.nodes.el k)) hlt
    simp only [nodeC_eq (s.nodes.el j)] at hset
    obtain ⟨-, ol, ot⟩ := ok.n2 j hlt
    simp -dsimp -implicitDefEqProofs [go_sem, f2, f3, f20, f21, m1, m4, m7, m10, m12, hlt]
    refine runCL_draw [[], [], [], [2], [3, 2], [4, 3, 2], [5, 4, 3, 2], [], [7], [8, 7], [9, 8, 7], [10, 9, 8, 7, 6, 5, 4, 3, 2], [0, 2, 3, 4, 5, 6, 10, 9, 8, 7, 11], [12, 0, 2, 3, 4, 5, 6, 10, 9, 8, 7, 11], [13, 12, 0, 2, 3, 4, 5, 6, 10, 9, 8, 7, 11], [1, 0, 2, 3, 4, 5, 6, 7, 8, 9, 10, 11, 12, 13, 14], [15, 1, 0, 2, 3, 4, 5, 6, 7, 8, 9, 10, 11, 12, 13, 14], [16, 15, 1, 0, 2, 3, 4, 5, 6, 7, 8, 9, 10, 11, 12, 13, 14]] rfl (by kernel_rfl) (by kernel_rfl) ?_
    simp -dsimp -implicitDefEqProofs [go_sem, f2, f3, f20, f21, m1, m4, m7, m10, m12, hlt, Tv, Cw, silentAt, silentOp, h4, h12, encL_get? _ hlt, nodeC_eq (s.nodes.el j)]
    refine callW_f (cloneLabs_pure _ ol.1) ?_
    simp -dsimp -implicitDefEqProofs [go_sem, f2, f3, f20, f21, m1, m4, m7, m10, m12, hlt, Tv, Cw, silentAt, silentOp, h4, h12, encL_get? _ hlt, nodeC_eq (s.nodes.el j)]
    refine callW_f (cloneLabs_pure _ ot.1) ?_
    simp -dsimp -implicitDefEqProofs [go_sem, f2, f3, f20, f21, m1, m4, m7, m10, m12, hlt, Tv, Cw, silentAt, silentOp, h4, h12, encL_get? _ hlt, nodeC_eq (s.nodes.el j)]
    refine exWL_mk (andL_mk ⟨Cw_lt (by omega) (by kernel_rfl), Tv_lt (by omega) (by kernel_rfl)⟩ ?_)
    simp -dsimp -implicitDefEqProofs [go_sem, f2, f3, f20, f21, m1, m4, m7, m10, m12, hlt, Tv, Cw, silentAt, silentOp, h4, h12, encL_get? _ hlt, nodeC_eq (s.nodes.el j), hset]
    refine exWL_mk (andL_mk ⟨Cw_lt (by omega) (by kernel_rfl), Tv_lt (by omega) (by kernel_rfl)⟩ ?_)
    simp -dsimp -implicitDefEqProofs [go_sem, f2, f3, f20, f21, m1, m4, m7, m10, m12, hlt, Tv, Cw, silentAt, silentOp, h4, h12, encL_get? _ hlt, nodeC_eq (s.nodes.el j), hset]
    exact ⟨_, by omega, j + 1, by omega, rfl, w64 (by omega) (by omega)⟩
  obtain rfl : j = s.nodes.n := by omega
  simp -dsimp -implicitDefEqProofs [go_sem, f2, f3, f20, f21, m1, m4, m7, m10, m12]
  refine runCL_loop [] (fun m st => ∃ j : Nat, st.n = 101 ∧ st.lit = true ∧ j ≤ s.pods.n ∧ m = s.pods.n - j ∧ 18 ≤ st.next ∧ st.fr 2 = .loc 1 0 ∧ st.fr 3 = .loc 12 0 ∧ st.fr 47 = .f (I s.pods.n) ∧ st.fr 48 = .f (I j) ∧
      st.mem 1 = some (.blk [.f (.v (.slice none 0 0)), .f (.v (.slice none 0 0)), .f (.v (.slice none 0 0))]) ∧ st.mem 4 = some (.row 75 0 10 (encL s.nodes.n fun k => nodeC (s.nodes.el k))) ∧
      st.mem 7 = some (.row 81 0 15 (encL s.pods.n fun k => podC (s.pods.el k))) ∧ st.mem 10 = some (.row 100 0 5 (encL s.owners.n fun k => ownerC (s.owners.el k))) ∧ st.mem 12 = some (.blk [.own 4 0, .own 7 0, .own 10 0])) s.pods.n ⟨0, ?_⟩ ?_
  · simp -dsimp -implicitDefEqProofs [go_sem, f2, f3, f20, f21, m1, m4, m7, m10, m12]
    omega
  clear f2 f3 f20 f21 m1 m4 m7 m10 m12 h4 h12 hge hj hnx
  rintro m ⟨N, fr, mem, nx, lt⟩ ⟨j, hN, hlt, hj, rfl, hnx, g2, g3, g47, g48, m1, m4, m7, m10, m12⟩
  dsimp only at *
  subst hN hlt
  have h7 : ∀ k, 7 < nx + k := fun k => by omega
  have h12 : ∀ k, 12 < nx + k := fun k => by omega
  simp -dsimp -implicitDefEqProofs [go_sem, g2, g3, g47, g48, m1, m4, m7, m10, m12]
  refine gif_dec (fun hlt => ?_) (fun hge => ?_)
  · have hset := encL_set s.pods.n j (fun k => podC (s.pods.el k)) hlt
    simp only [podC_eq (s.pods.el j)] at hset
    obtain ⟨-, o1, o2, o3, o4, o5⟩ := ok.p2 j hlt
    simp -dsimp -implicitDefEqProofs [go_sem, g2, g3, g47, g48, m1, m4, m7, m10, m12, hlt]
    refine runCL_draw [[], [], [], [], [3], [4, 3], [5, 4, 3], [6, 5, 4, 3], [], [8], [9, 8], [10, 9, 8], [11, 10, 9, 8, 7, 6, 5, 4, 3], [], [13], [14, 13], [15, 14, 13], [16, 15, 14, 13, 12, 11, 10, 9, 8, 7, 6, 5, 4, 3], [0, 3, 4, 5, 6, 7, 11, 10, 9, 8, 12, 16, 15, 14, 13, 17], [18, 0, 3, 4, 5, 6, 7, 11, 10, 9, 8, 12, 16, 15, 14, 13, 17], [19, 18, 0, 3, 4, 5, 6, 7, 11, 10, 9, 8, 12, 16, 15, 14, 13, 17], [1, 0, 3, 4, 5, 6, 7, 8, 9, 10, 11, 12, 16, 15, 14, 13, 17, 18, 19, 20], [21, 1, 0, 3, 4, 5, 6, 7, 8, 9, 10, 11, 12, 16, 15, 14, 13, 17, 18, 19, 20], [22, 21, 1, 0, 3, 4, 5, 6, 7, 8, 9, 10, 11, 12, 16, 15, 14, 13, 17, 18, 19, 20], [2, 0, 1, 3, 4, 5, 6, 7, 8, 9, 10, 11, 12, 13, 14, 15, 16, 17, 18, 19, 20, 21, 22, 23], [24, 2, 0, 1, 3, 4, 5, 6, 7, 8, 9, 10, 11, 12, 13, 14, 15, 16, 17, 18, 19, 20, 21, 22, 23], [25, 24, 2, 0, 1, 3, 4, 5, 6, 7, 8, 9, 10, 11, 12, 13, 14, 15, 16, 17, 18, 19, 20, 21, 22, 23]] rfl (by kernel_rfl) (by kernel_rfl) ?_
    simp -dsimp -implicitDefEqProofs [go_sem, g2, g3, g47, g48, m1, m4, m7, m10, m12, hlt, Tv, Cw, silentAt, silentOp, h7, h12, encL_get? _ hlt, podC_eq (s.pods.el j), hset]
    refine callW_f (cloneLabs_pure _ o1.1) ?_
    simp -dsimp -implicitDefEqProofs [go_sem, g2, g3, g47, g48, m1, m4, m7, m10, m12, hlt, Tv, Cw, silentAt, silentOp, h7, h12, encL_get? _ hlt, podC_eq (s.pods.el j), hset]
    refine callW_f (cloneTerms_pure _ o2.1) ?_
    simp -dsimp -implicitDefEqProofs [go_sem, g2, g3, g47, g48, m1, m4, m7, m10, m12, hlt, Tv, Cw, silentAt, silentOp, h7, h12, encL_get? _ hlt, podC_eq (s.pods.el j), hset]
    refine callW_f (cloneLabs_pure _ o3.1) ?_
    simp -dsimp -implicitDefEqProofs [go_sem, g2, g3, g47, g48, m1, m4, m7, m10, m12, hlt, Tv, Cw, silentAt, silentOp, h7, h12, encL_get? _ hlt, podC_eq (s.pods.el j), hset]
    refine exWL_mk (andL_mk ⟨Cw_lt (by omega) (by kernel_rfl), Tv_lt (by omega) (by kernel_rfl)⟩ ?_)
    simp -dsimp -implicitDefEqProofs [go_sem, g2, g3, g47, g48, m1, m4, m7, m10, m12, hlt, Tv, Cw, silentAt, silentOp, h7, h12, encL_get? _ hlt, podC_eq (s.pods.el j), hset]
    refine exWL_mk (andL_mk ⟨Cw_lt (by omega) (by kernel_rfl), Tv_lt (by omega) (by kernel_rfl)⟩ ?_)
    simp -dsimp -implicitDefEqProofs [go_sem, g2, g3, g47, g48, m1, m4, m7, m10, m12, hlt, Tv, Cw, silentAt, silentOp, h7, h12, encL_get? _ hlt, podC_eq (s.pods.el j), hset]
    refine exWL_mk (andL_mk ⟨Cw_lt (by omega) (by kernel_rfl), Tv_lt (by omega) (by kernel_rfl)⟩ ?_)
    simp -dsimp -implicitDefEqProofs [go_sem, g2, g3, g47, g48, m1, m4, m7, m10, m12, hlt, Tv, Cw, silentAt, silentOp, h7, h12, encL_get? _ hlt, podC_eq (s.pods.el j), hset]
    refine runCL_draw [[], [], [], [2], [3, 2], [4, 3, 2], [5, 4, 3, 2], [6, 5, 4, 3, 2], [], [8], [9, 8], [10, 9, 8], [11, 10, 9, 8], [12, 11, 10, 9, 8, 7, 6, 5, 4, 3, 2], [0, 2, 3, 4, 5, 6, 7, 12, 11, 10, 9, 8, 13], [14, 0, 2, 3, 4, 5, 6, 7, 12, 11, 10, 9, 8, 13], [15, 14, 0, 2, 3, 4, 5, 6, 7, 12, 11, 10, 9, 8, 13], [16, 15, 14, 0, 2, 3, 4, 5, 6, 7, 12, 11, 10, 9, 8, 13], [1, 0, 2, 3, 4, 5, 6, 7, 8, 9, 10, 11, 12, 13, 14, 15, 16, 17], [18, 1, 0, 2, 3, 4, 5, 6, 7, 8, 9, 10, 11, 12, 13, 14, 15, 16, 17], [19, 18, 1, 0, 2, 3, 4, 5, 6, 7, 8, 9, 10, 11, 12, 13, 14, 15, 16, 17], [20, 19, 18, 1, 0, 2, 3, 4, 5, 6, 7, 8, 9, 10, 11, 12, 13, 14, 15, 16, 17]] rfl (by kernel_rfl) (by kernel_rfl) ?_
    simp -dsimp -implicitDefEqProofs [go_sem, g2, g3, g47, g48, m1, m4, m7, m10, m12, hlt, Tv, Cw, silentAt, silentOp, h7, h12, encL_get? _ hlt, podC_eq (s.pods.el j), hset]
    refine callW_f (cloneTerms_pure _ o4.1) ?_
    simp -dsimp -implicitDefEqProofs [go_sem, g2, g3, g47, g48, m1, m4, m7, m10, m12, hlt, Tv, Cw, silentAt, silentOp, h7, h12, encL_get? _ hlt, podC_eq (s.pods.el j), hset]
    refine callW_f (cloneTerms_pure _ o5.1) ?_
    simp -dsimp -implicitDefEqProofs [go_sem, g2, g3, g47, g48, m1, m4, m7, m10, m12, hlt, Tv, Cw, silentAt, silentOp, h7, h12, encL_get? _ hlt, podC_eq (s.pods.el j), hset]
    refine exWL_mk (andL_mk ⟨Cw_lt (by omega) (by kernel_rfl), Tv_lt (by omega) (by kernel_rfl)⟩ ?_)
    simp -dsimp -implicitDefEqProofs [go_sem, g2, g3, g47, g48, m1, m4, m7, m10, m12, hlt, Tv, Cw, silentAt, silentOp, h7, h12, encL_get? _ hlt, podC_eq (s.pods.el j), hset]
    refine exWL_mk (andL_mk ⟨Cw_lt (by omega) (by kernel_rfl), Tv_lt (by omega) (by kernel_rfl)⟩ ?_)
    simp -dsimp -implicitDefEqProofs [go_sem, g2, g3, g47, g48, m1, m4, m7, m10, m12, hlt, Tv, Cw, silentAt, silentOp, h7, h12, encL_get? _ hlt, podC_eq (s.pods.el j), hset]
    exact ⟨_, by omega, j + 1, by omega, rfl, w64 (by omega) (by omega)⟩
  · simp -dsimp -implicitDefEqProofs [go_sem, g2, g3, g47, g48, m1, m4, m7, m10, m12]
    refine ⟨[(4, 0), (7, 0), (10, 0)], rfl, rfl, by simp, ?_⟩
    intro j a b a1 a2 b1 h1 h2
    match j, h1, h2 with
    | 0, h1, h2 => cases h1; cases h2; exact (by simp -dsimp -implicitDefEqProofs [go_sem, m4])
    | 1, h1, h2 => cases h1; cases h2; exact (by simp -dsimp -implicitDefEqProofs [go_sem, m7])
    | 2, h1, h2 => cases h1; cases h2; exact (by simp -dsimp -implicitDefEqProofs [go_sem, m10])
    | j + 3, h1, h2 => simp at h1
end Go.Proofs.YthpmgnbehahkfaaGreat
end
section
namespace Go.Proofs.YthpmgnbehahkfaaGreat
open Go.RowKit Go.Dk Go.Dn

theorem snapOwner_pure (s : SnapD) (ok : SnapOk s) (nm : ByteArray) : Pure Tryz.prog 94 [snapF s, S nm] (I (nameIdx (fun k => (s.owners.el k).name) s.owners.n nm)) :=
  pure_of Tryz.func94 rfl rfl fun x vs hr => by
    obtain ⟨u, v, rfl, h1, h2⟩ := repL2 hr
    obtain ⟨n, p, o, lv, tv, pv, rfl, h⟩ := snap_of_rep h1 ok
    unfold Rep at h2
    subst h2
    exact snapOwner_any h nm
theorem snapCheck_pure (s : SnapD) (ok : SnapOk s) : Pure Tryz.prog 91 [snapF s] (I (checkE s)) :=
  pure_of Tryz.func91 rfl rfl fun x vs hr => by
    obtain ⟨u, rfl, h1⟩ := repL1 hr
    obtain ⟨n, p, o, lv, tv, pv, rfl, h⟩ := snap_of_rep h1 ok
    exact snapCheck_any h
theorem check_sok {s : SnapD} (h : checkE s = 0) : SOk s := by
  unfold checkE at h
  split at h
  case isFalse => cases h
  rename_i hs
  split at h
  case isFalse => cases h
  rename_i hc
  have hr := shaped_reqs hs
  simp only [shapedB, Bool.and_eq_true, manyB, Bool.not_eq_true', Bool.or_eq_false_iff, decide_eq_false_iff_not] at hs
  obtain ⟨⟨⟨⟨⟨⟨⟨⟨h1, h2⟩, h3⟩, -⟩, -⟩, -⟩, -⟩, -⟩, -⟩ := hs
  have hsum : ∀ i, i < 5 → addE (fun k => (s.pods.el k).req i) s.pods.n = 0 := by
    have := hc.2
    unfold reqsE plusE at this
    split at this
    · rename_i ha
      exact (allE_iff _ _).1 ha
    · cases this
  refine ⟨by omega, by omega, by omega, fun p hp i hi => (hr i hi p hp).1, fun i hi => ?_⟩
  have := hsum i hi
  unfold addE at this
  split at this
  · assumption
  · cases this
def ownV (s : SnapD) (k : Nat) : Int := nameIdx (fun k => (s.owners.el k).name) s.owners.n (s.pods.el k).owner
theorem onV_range (s : SnapD) (k : Nat) : onV s k = -1 ∨ ∃ n : Nat, n < s.nodes.n ∧ onV s k = n := by
  unfold onV
  split
  · exact .inl rfl
  · exact nameIdx_cases _ _ _
theorem ownV_range (s : SnapD) (k : Nat) : -1 ≤ ownV s k ∧ ownV s k < s.owners.n := by
  rcases nameIdx_cases (fun k => (s.owners.el k).name) s.owners.n (s.pods.el k).owner with e | ⟨n, hn, e⟩
  · unfold ownV; rw [e]; omega
  · unfold ownV; rw [e]; omega
/-- a store at its beginning -/
def startD (s : SnapD) : StD := ⟨s, onV s, fun _ => false, usedOf s (onV s), cntOf s (ownV s) (onV s), ownV s, s.pods.n⟩
theorem startD_ok {s : SnapD} (h : checkE s = 0) : DOk (startD s) :=
  ⟨check_sok h, fun p _ => onV_range s p, fun p _ => ownV_range s p, fun _ _ _ _ => rfl, fun _ _ => rfl, rfl⟩
theorem replicate_encL (n : Nat) (x : List FD) : List.replicate n x = encL n fun _ => x := by
  apply List.ext_getElem?
  intro j
  by_cases hj : j < n
  · rw [encL_get? _ hj]; simp [hj]
  · rw [List.getElem?_eq_none (by simp; omega), List.getElem?_eq_none (by rw [encL_len]; omega)]
/-- where New lays a store; what it says behind j pods -/
def newA (b v : Nat) : SA := ⟨b + 11, b + 17, 0, b + 18, 0, b + 19, 0, b + 5, 0, b + 9, 0, b + 20, v⟩
def stepOn (s : SnapD) (j k : Nat) : Int := if k < j then onV s k else 0
def stepU (s : SnapD) (j n i : Nat) : Int := sumF (fun p => if onV s p = n then (s.pods.el p).req i else 0) j
def stepCnt (s : SnapD) (j o : Nat) : Int := sumF (fun p => if ownV s p = o ∧ onV s p ≠ -1 then 1 else 0) j
def midD (s : SnapD) (j : Nat) : StD := ⟨s, setC (stepOn s j) j (-1), fun _ => false, stepU s j, stepCnt s j, ownV s, j + 1⟩
def stepD (s : SnapD) (j : Nat) : StD := ⟨s, stepOn s j, fun _ => false, stepU s j, stepCnt s j, ownV s, j⟩
theorem encL_congr {n : Nat} {f g : Nat → List FD} (h : ∀ k, k < n → f k = g k) : encL n f = encL n g := by
  unfold encL
  exact List.map_congr_left fun k hk => h k (List.mem_range.1 hk)
theorem stepOn_lt {s : SnapD} {j k : Nat} (h : k < j) : [I (stepOn s j k)] = [I (onV s k)] := by rw [stepOn, if_pos h]
theorem stepOn_succ (s : SnapD) (j : Nat) : setC (stepOn s j) j (onV s j) = stepOn s (j + 1) := by
  funext k
  unfold setC stepOn
  by_cases e : k = j
  · subst e; simp
  · rw [if_neg e]
    by_cases h : k < j
    · rw [if_pos h, if_pos (by omega)]
    · rw [if_neg h, if_neg (by omega)]
theorem mid_none {s : SnapD} {j : Nat} (h : onV s j = -1) : midD s j = stepD s (j + 1) := by
  have e1 := stepOn_succ s j
  rw [h] at e1
  have e2 : stepU s j = stepU s (j + 1) := by
    funext n i
    have : ¬ ((-1 : Int) = (n : Int)) := by omega
    simp [stepU, sumF, h, this]
  have e3 : stepCnt s j = stepCnt s (j + 1) := by
    funext o
    simp [stepCnt, sumF, h]
  unfold midD stepD
  rw [e1, e2, e3]
theorem put_mid {s : SnapD} {j n : Nat} (h : onV s j = n) : putD (midD s j) j n = stepD s (j + 1) := by
  have e1 : setC (setC (stepOn s j) j (-1)) j n = stepOn s (j + 1) := by
    rw [← stepOn_succ, h]
    funext k
    unfold setC
    split <;> rfl
  have e2 : setU (stepU s j) n (fun i => stepU s j n i + (s.pods.el j).req i) = stepU s (j + 1) := by
    funext m i
    unfold setU
    by_cases e : m = n
    · subst e; simp [stepU, sumF, h]
    · have : ¬ ((n : Int) = (m : Int)) := by omega
      simp [stepU, sumF, h, this, e]
  have e3 : (if 0 ≤ ownV s j then setC (stepCnt s j) (ownV s j).toNat (stepCnt s j (ownV s j).toNat + 1) else stepCnt s j) = stepCnt s (j + 1) := by
    have h1 : ¬ ((n : Int) = -1) := by omega
    have h2 := (ownV_range s j).1
    funext o
    by_cases h0 : 0 ≤ ownV s j
    · rw [if_pos h0]
      unfold setC
      by_cases e : o = (ownV s j).toNat
      · rw [if_pos e, ← e]
        have : ownV s j = o := by omega
        simp [stepCnt, sumF, h, this, h1]
      · have : ¬ ownV s j = o := by omega
        simp [stepCnt, sumF, this, e]
    · have : ¬ ownV s j = o := by omega
      rw [if_neg h0]
      simp [stepCnt, sumF, this]
  unfold putD midD stepD
  simp only
  rw [e1, e2, e3]
theorem stepCnt_range (s : SnapD) (j o : Nat) : 0 ≤ stepCnt s j o ∧ stepCnt s j o ≤ j := by
  constructor
  · exact sumF_pos fun k hk => by split <;> omega
  · have h1 : stepCnt s j o ≤ sumF (fun _ => 1) j := sumF_le fun k hk => by split <;> omega
    rw [sumF_const] at h1
    omega
theorem stepU_range {s : SnapD} (h : SOk s) (n : Nat) {i j : Nat} (hi : i < 5) (hj : j ≤ s.pods.n) : 0 ≤ stepU s j n i ∧ stepU s j n i ≤ 1099511627776 := by
  have hp : ∀ k, k < s.pods.n → 0 ≤ (if onV s k = n then (s.pods.el k).req i else 0) := fun k hk => by split; exact h.req k hk i hi; exact Int.le_refl _
  have h1 := used_range h (onV s) n hi
  have h2 := sumF_mono hp s.pods.n hj (Nat.le_refl _)
  have h3 := sumF_nonneg hp j hj
  exact ⟨h3, Int.le_trans h2 h1.2⟩
theorem newA_ok {b v nx : Nat} (h : b + 21 ≤ nx) : (newA b v).Ok nx := by
  constructor
  · simp [SA.ids, newA]
  · intro i hi
    simp only [SA.ids, newA, List.mem_cons, List.not_mem_nil, or_false] at hi
    omega
theorem newA_out {b v id : Nat} (h : id < b) : id ∉ (newA b v).ids := by
  simp only [SA.ids, newA, List.mem_cons, List.not_mem_nil, or_false]
  omega
section
variable {nx : Nat} {K : D → (Nat → Option M) → Nat → Prop} {mem : Nat → Option M}
set_option maxRecDepth 100000 in
set_option maxHeartbeats 2000000 in
theorem new_S (s : SnapD) (ok : SnapOk s) (hbad : checkE s ≠ 0 → ∀ n', nx ≤ n' → ∀ m', Kept [] nx mem m' → K (.tup [.f (.v (.pointer none)), .f (I (checkE s))]) m' n')
    (hgood : checkE s = 0 → ∀ A m' n', nx ≤ n' → Kept [] nx mem m' → StoreM m' A (startD s) → A.Ok n' → (∀ i ∈ A.ids, nx ≤ i) → K (.tup [.loc A.t 0, .f (I 0)]) m' n') :
    callS Tryz.prog 41 [.f (snapF s)] mem nx K := by
  have hp1 := ok.p1
  refine callS.of_run (lit := false) (B := fun n => if n = 11 then [3] else []) Tryz.func41 rfl rfl rfl rfl (Nat.le_of_ble_eq_true rfl) (runC_of_runCL ?_)
  simp -dsimp -implicitDefEqProofs [go_sem, snapF, snapC]
  refine callW_f (snapCheck_pure s ok) ?_
  by_cases he : checkE s = 0
  case neg =>
    have he' : (checkE s != 0) = true := by simpa using he
    simp -dsimp -implicitDefEqProofs [go_sem, he']
    refine hbad he _ (by omega) _ fun id hid _ => ?_
    have : ¬ id = nx := by omega
    simp -dsimp -implicitDefEqProofs [upd, this]
  simp -dsimp -implicitDefEqProofs [go_sem, he]
  generalize hb : nx + 3 + 3 + 2 = b
  have h0 : ∀ k, nx < b + k := fun k => by omega
  have h0' : nx < b := by omega
  have e0 : ∀ k, ¬ nx = b + k := fun k => by omega
  have e0' : ∀ k, ¬ b + k = nx := fun k => by omega
  have h3 : ownsD (b + 1) (snapRows s).length = [.own (b + 1) 0, .own (b + 1) 1, .own (b + 1) 2] := rfl
  refine runCL_draw [[], [0], [], [2], [3, 2], [4, 3, 2], [], [6], [7, 6], [8, 7, 6], [1, 0, 5, 4, 3, 2, 9, 8, 7, 6], [10, 1, 0, 5, 4, 3, 2, 9, 8, 7, 6], [11, 10, 1, 0, 5, 4, 3, 2, 9, 8, 7, 6]] rfl (by kernel_rfl) (by kernel_rfl) ?_
  simp -dsimp -implicitDefEqProofs [go_sem, Tv, Cw, silentAt, silentOp, h0, h0']
  refine callW_rows (fs := [snapF s]) (snapCopy_rows s ok) ?_
  simp -dsimp -implicitDefEqProofs [go_sem, Tv, Cw, silentAt, silentOp, h0, h0']
  refine exWL_mk (andL_mk ⟨Cw_new, Tv_new (by kernel_rfl)⟩ ?_)
  simp -dsimp -implicitDefEqProofs [go_sem, Tv, Cw, silentAt, silentOp, h0, h0', e0, e0', h3]
  refine andL_mk ⟨by omega, by omega⟩ ?_
  simp -dsimp -implicitDefEqProofs [go_sem, Tv, Cw, silentAt, silentOp, h0, h0', e0, e0', h3]
  refine exWL_mk (andL_mk ⟨Cw_new, Tv_new (by kernel_rfl)⟩ ?_)
  simp -dsimp -implicitDefEqProofs [go_sem, Tv, Cw, silentAt, silentOp, h0, h0', e0, e0', h3]
  refine andL_mk ⟨by omega, by omega⟩ ?_
  simp -dsimp -implicitDefEqProofs [go_sem, Tv, Cw, silentAt, silentOp, h0, h0', e0, e0', h3]
  refine exWL_mk (andL_mk ⟨Cw_new, Tv_new (by kernel_rfl)⟩ ?_)
  simp -dsimp -implicitDefEqProofs [go_sem, Tv, Cw, silentAt, silentOp, h0, h0', e0, e0', h3]
  refine exWL_mk (andL_mk ⟨Cw_new, Tv_new (by kernel_rfl)⟩ ?_)
  simp -dsimp -implicitDefEqProofs [go_sem, Tv, Cw, silentAt, silentOp, h0, h0', e0, e0', h3]
  refine callW_f (snapPlacement_pure s ok) ?_
  simp -dsimp -implicitDefEqProofs [go_sem, h0, h0', e0, e0']
  have hC : ∀ k, ¬ b + 17 + k = b + 1 := fun k => by omega
  refine runCL_loop [.opn (b + 1) (b + 11), .cell (b + 11) 53 3 1] (fun m st => ∃ j v : Nat, st.n = 64 ∧ st.lit = false ∧ j ≤ s.pods.n ∧ m = s.pods.n - j ∧ b + 21 ≤ st.next ∧ st.fr 1 = .loc nx 0 ∧ st.fr 5 = .loc (b + 11) 0 ∧ st.fr 26 = .f (intsF (placV s)) ∧ st.fr 27 = .f (I s.pods.n) ∧ st.fr 28 = .f (I j) ∧
      st.mem nx = some (.blk [.f (nodesF s.nodes), .f (podsF s.pods), .f (ownersF s.owners)]) ∧ Kept [] nx mem st.mem ∧ StoreM st.mem (newA b v) (stepD s j)) s.pods.n ⟨0, 0, ?_⟩ ?_
  · simp -dsimp -implicitDefEqProofs [go_sem, redir, snapRows, h0, h0', e0, e0']
    rw [show b + 13 + 4 = b + 17 from rfl, show b + 17 + 3 = b + 20 from rfl]
    have hk : ∀ id, id < nx → ∀ k, ¬ id = b + k := fun id hid k => by omega
    have hk' : ∀ id, id < nx → ∀ k, ¬ b + k ≤ id := fun id hid k => by omega
    refine ⟨rfl, ?_, ?_, ?_, ?_, ?_, ?_, ?_, ?_, ?_⟩
    · simp -dsimp -implicitDefEqProofs [upd, openM, e0, show ¬ b + 17 ≤ nx by omega]
    · intro id hid _
      have := hk id hid
      have := hk' id hid
      have hne : ¬ id = nx := by omega
      simp -dsimp -implicitDefEqProofs [upd, openM, *]
    · simp -dsimp -implicitDefEqProofs [upd, openM, newA]
      rfl
    · simp -dsimp -implicitDefEqProofs [upd, openM, newA, nodeRow, stepD]
    · simp -dsimp -implicitDefEqProofs [upd, openM, newA, podRow, stepD]
    · simp -dsimp -implicitDefEqProofs [upd, openM, newA, ownerRow, stepD]
    · simp -dsimp -implicitDefEqProofs [upd, openM, newA, stepD]
      exact (replicate_encL _ _).trans (congrArg _ (funext fun k => by simp [stepOn]))
    · simp -dsimp -implicitDefEqProofs [upd, openM, newA, stepD]
      exact replicate_encL _ _
    · simp -dsimp -implicitDefEqProofs [upd, openM, newA, stepD]
      rfl
  rintro m ⟨N, fr, mem2, nx2, lt⟩ ⟨j, v, hN, hlt, hj, rfl, hnx, f1, f5, f26, f27, f28, mnx, hkept, hS⟩
  dsimp only at *
  subst hN hlt
  simp -dsimp -implicitDefEqProofs [go_sem, f1, f5, f26, f27, f28]
  refine gif_dec (fun hlt => ?_) (fun hge => ?_)
  · have hln : j < (placV s).n := hlt
    have hSt : mem2 (b + 11) = some (.blk (stC (newA b v) (stepD s j))) := hS.t
    have hSw : mem2 (b + 20) = some (.row 3 v 1 (encL j fun k => [I (ownV s k)])) := hS.w
    have hSo : mem2 (b + 5) = some (.row 3 0 1 (encL s.pods.n fun k => [I (stepOn s j k)])) := hS.o
    have hcell : cellSt (newA b v) (stepD s j) 53 = .own (b + 20) v := rfl
    simp -dsimp -implicitDefEqProofs [go_sem, f1, f5, f26, f27, f28, encL_get? _ hln, hln, intsF]
    generalize hb8 : nx2 + 1 + 5 = b8
    have L1 : ∀ k, nx < b8 + k := fun k => by omega
    have L2 : ∀ k, b + 11 < b8 + k := fun k => by omega
    have L3 : ∀ k, b + 20 < b8 + k := fun k => by omega
    have M1 : nx < b8 := by omega
    have M2 : b + 11 < b8 := by omega
    have M3 : b + 20 < b8 := by omega
    have N5 : ∀ k, ¬ b = b8 + k := fun k => by omega
    have N6 : ¬ b + 1 = b8 ∧ ¬ b + 2 = b8 ∧ ¬ b + 3 = b8 ∧ ¬ b + 4 = b8 ∧ ¬ b + 5 = b8 ∧ ¬ b + 6 = b8 ∧ ¬ b + 7 = b8 ∧ ¬ b + 8 = b8 ∧ ¬ b + 9 = b8 ∧ ¬ b + 10 = b8 ∧ ¬ b + 11 = b8 ∧ ¬ b + 12 = b8 ∧ ¬ b + 13 = b8 ∧ ¬ b + 14 = b8 ∧ ¬ b + 15 = b8 ∧ ¬ b + 16 = b8 ∧ ¬ b + 17 = b8 ∧ ¬ b + 18 = b8 ∧ ¬ b + 19 = b8 ∧ ¬ b + 20 = b8 := by omega
    have N1 : ∀ k, ¬ b + 20 = b8 + k := fun k => by omega
    have N2 : ∀ k, ¬ b + 11 = b8 + k := fun k => by omega
    have N3 : ∀ k, ¬ nx = b8 + k := fun k => by omega
    have N4 : ∀ k, ¬ b + 5 = b8 + k := fun k => by omega
    refine runCL_draw [[], [], [1], [2, 1], [3, 2, 1], [], [], [6], [], [7, 6, 8], [9, 7, 6, 8], [10, 9, 7, 6, 8], [5, 11, 10, 9, 7, 6, 8], [12, 5, 11, 10, 9, 7, 6, 8], [4, 3, 2, 1, 13, 12, 5, 11, 10, 9, 7, 6, 8], [0, 1, 2, 3, 4, 5, 6, 7, 8, 9, 10, 11, 12, 13, 14], [15, 0, 1, 2, 3, 4, 5, 6, 7, 8, 9, 10, 11, 12, 13, 14], [16, 15, 0, 1, 2, 3, 4, 5, 6, 7, 8, 9, 10, 11, 12, 13, 14]] rfl (by kernel_rfl) (by kernel_rfl) ?_
    simp -dsimp -implicitDefEqProofs [go_sem, f1, f5, f26, f27, f28, hSt, mnx, L1, L2, L3, M1, M2, M3, hcell, hlt, encL_get? _ hlt, podC_eq (s.pods.el j), Tv, Cw, silentAt, silentOp]
    refine callW_f (fs := [snapF s, S (s.pods.el j).owner]) (snapOwner_pure s ok _) ?_
    simp -dsimp -implicitDefEqProofs [go_sem, f1, f5, f26, f27, f28, hSt, mnx, L1, L2, L3, M1, M2, M3, hcell, hlt, encL_get? _ hlt, podC_eq (s.pods.el j), Tv, Cw, silentAt, silentOp]
    refine exWL_mk (andL_mk ⟨Cw_new, Tv_new (by kernel_rfl)⟩ ?_)
    simp -dsimp -implicitDefEqProofs [go_sem, f1, f5, f26, f27, f28, hSt, hSw, hSo, mnx, L1, L2, L3, M1, M2, M3, N1, N2, N3, N4, N5, N6, hcell, hlt, encL_get? _ hlt, Tv, Cw, silentAt, silentOp]
    refine andL_mk ⟨by omega, by omega⟩ ?_
    simp -dsimp -implicitDefEqProofs [go_sem, f1, f5, f26, f27, f28, hSt, hSw, hSo, mnx, L1, L2, L3, M1, M2, M3, N1, N2, N3, N4, N5, N6, hcell, hlt, encL_get? _ hlt, Tv, Cw, silentAt, silentOp]
    refine exWL_mk (andL_mk ⟨Cw_lt (by omega) (by kernel_rfl), Tv_lt (by omega) (by kernel_rfl)⟩ ?_)
    simp -dsimp -implicitDefEqProofs [go_sem, f1, f5, f26, f27, f28, hSt, hSw, hSo, mnx, L1, L2, L3, M1, M2, M3, N1, N2, N3, N4, N5, N6, hcell, hlt, encL_get? _ hlt, Tv, Cw, silentAt, silentOp]
    refine exWL_mk (andL_mk ⟨Cw_lt (by omega) (by kernel_rfl), Tv_lt (by omega) (by kernel_rfl)⟩ ?_)
    simp -dsimp -implicitDefEqProofs [go_sem, f1, f5, f26, f27, f28, hSt, hSw, hSo, mnx, L1, L2, L3, M1, M2, M3, N1, N2, N3, N4, N5, N6, hcell, hlt, encL_get? _ hlt, Tv, Cw, silentAt, silentOp]
    have hgo : (newA b v).go = b + 5 := rfl
    have hvo : (newA b v).vo = 0 := rfl
    simp -dsimp -implicitDefEqProofs [go_sem, f1, f5, f26, f27, f28, hSt, hSw, hSo, hgo, hvo, mnx, N5, N6, hlt, encL_get? _ hlt, encI_set _ _ _ _ hlt]
    generalize hm3 : (upd (upd (upd (upd mem2 (b8 + 13) _) (b + 20) _) (b + 11) _) (b + 5) _) = mem3
    have hS3 : StoreM mem3 (newA b (v + 1)) (midD s j) := by
      have e : (stC (newA b v) (stepD s j)).set 53 (.own (b + 20) (v + 1)) = stC (newA b (v + 1)) (midD s j) := stC_own (newA b v) (stepD s j) (v + 1)
      refine ⟨?_, ?_, ?_, ?_, ?_, ?_, ?_⟩
      · rw [← hm3]; rw [← e]; simp -dsimp -implicitDefEqProofs [upd, newA]
      · rw [← hm3]; simp -dsimp -implicitDefEqProofs [upd, newA, N5, N6]; exact hS.n
      · rw [← hm3]; simp -dsimp -implicitDefEqProofs [upd, newA, N5, N6]; exact hS.p
      · rw [← hm3]; simp -dsimp -implicitDefEqProofs [upd, newA, N5, N6]; exact hS.q
      · rw [← hm3]; simp -dsimp -implicitDefEqProofs [upd, newA, N5, N6]; rfl
      · rw [← hm3]; simp -dsimp -implicitDefEqProofs [upd, newA, N5, N6]; exact hS.g
      · rw [← hm3]; simp -dsimp -implicitDefEqProofs [upd, newA, N5, N6]; exact (encL_succ _ _).symm
    have hk3 : Kept [] nx mem mem3 := fun id hid hl => by
      have h1 := hkept id hid hl
      rw [← hm3]
      have : ∀ k, ¬ id = b + k := fun k => by omega
      have : ∀ k, ¬ id = b8 + k := fun k => by omega
      simp -dsimp -implicitDefEqProofs [upd, *]
    have hx3 : mem3 nx = some (.blk [.f (nodesF s.nodes), .f (podsF s.pods), .f (ownersF s.owners)]) := by
      rw [← hm3]
      simp -dsimp -implicitDefEqProofs [upd, N3, e0, mnx]
    clear hm3
    by_cases hon : onV s j = -1
    · have hb1 : ((placV s).el j != -1) = false := by simpa [placV] using hon
      simp -dsimp -implicitDefEqProofs [go_sem, hb1, f1, f5, f26, f27, f28]
      exact ⟨_, by omega, j + 1, by omega, rfl, by omega, w64 (by omega) (by omega), hx3, hk3, v + 1, by rw [← mid_none hon]; exact hS3⟩
    · have hb1 : ((placV s).el j != -1) = true := by simpa [placV] using hon
      obtain ⟨n, hn, en⟩ := (onV_range s j).resolve_left hon
      have sok := check_sok he
      have hn8 := sok.n8
      have ho8 := sok.o8
      have hp24 := sok.p24
      have en' : (placV s).el j = (n : Int) := en
      have hb2 : ((n : Int) != -1) = true := by simp
      simp -dsimp -implicitDefEqProofs [go_sem, hb2, f1, f5, f26, f27, f28, en']
      refine put_S (A := newA b (v + 1)) (d := midD s j) (p := j) (n := n) hS3 (newA_ok (by omega)) hlt (Nat.lt_succ_self j) (by omega) ?_ ?_ ?_ ?_
      · show ownV s j < 8
        have := ownV_range s j
        omega
      · intro o _
        have := stepCnt_range s j o
        show 0 ≤ stepCnt s j o ∧ stepCnt s j o ≤ 1048576
        omega
      · intro i hi
        show 0 ≤ stepU s j n i ∧ 0 ≤ (s.pods.el j).req i ∧ stepU s j n i + (s.pods.el j).req i ≤ 1099511627776
        have e1 : stepU s (j + 1) n i = stepU s j n i + (s.pods.el j).req i := by simp [stepU, sumF, en]
        have h1 := stepU_range sok n hi (show j ≤ s.pods.n by omega)
        have h2 := stepU_range sok n hi (show j + 1 ≤ s.pods.n by omega)
        exact ⟨h1.1, sok.req j hlt i hi, by omega⟩
      · intro m4 n4 hn4 hS4 hk4
        simp -dsimp -implicitDefEqProofs [go_sem, f1, f5, f26, f27, f28]
        rw [put_mid en] at hS4
        have hx4 : m4 nx = mem3 nx := hk4 nx (by omega) (newA_out (by omega))
        exact ⟨_, by omega, j + 1, by omega, rfl, by omega, w64 (by omega) (by omega), by rw [hx4]; exact hx3, fun id hid _ => (hk4 id (by omega) (newA_out (by omega))).trans (hk3 id hid (by simp)), v + 1, hS4⟩
  · obtain rfl : j = s.pods.n := by omega
    simp -dsimp -implicitDefEqProofs [go_sem, f1, f5, f26, f27, f28]
    refine hgood he (newA b v) mem2 _ (by omega) hkept ?_ (newA_ok (by omega)) ?_
    · exact ⟨hS.t, hS.n, hS.p, hS.q, by rw [hS.o]; exact congrArg _ (congrArg _ (encL_congr fun k hk => stepOn_lt hk)), hS.g, hS.w⟩
    · intro i hi
      simp only [SA.ids, newA, List.mem_cons, List.not_mem_nil, or_false] at hi
      omega
end
end Go.Proofs.YthpmgnbehahkfaaGreat
end
section
namespace Go.Proofs.YthpmgnbehahkfaaGreat
open Go.RowKit Go.Dk Go.Dn

structure DoD where
  kind : Int
  a : Int
  b : Int
  raw : Bool
/-- what does makes of a store -/
def doesD (d : StD) (x : DoD) : StD :=
  if bringV x.kind 6 = 0 then evictD d (bringV x.a (d.s.pods.n + 1))
  else if bringV x.kind 6 = 1 ∨ bringV x.kind 6 = 2 then bindD d (bringV x.a (d.s.pods.n + 1)) (bringV x.b (d.s.nodes.n + 1))
  else if bringV x.kind 6 = 3 then cordonD d (bringV x.a (d.s.nodes.n + 1)) ((bringV x.b (d.s.nodes.n + 1)).tmod 2 == 0)
  else if bringV x.kind 6 = 4 then loseD d (bringV x.a (d.s.nodes.n + 1))
  else goneD d (bringV x.a (d.s.pods.n + 1))
/-- no pod is on a lost node; none that is gone is anywhere -/
structure DInv (d : StD) : Prop where
  ok : DOk d
  lost : ∀ m : Nat, m < d.s.nodes.n → (d.s.nodes.el m).lost = true → ∀ q, q < d.s.pods.n → d.on q ≠ m
  gone : ∀ q, q < d.s.pods.n → d.gone q = true → d.on q = -1
/-- what a store has come from -/
structure Fol (d e : StD) : Prop where
  nn : e.s.nodes.n = d.s.nodes.n
  pods : e.s.pods = d.s.pods
  owners : e.s.owners = d.s.owners
  own : e.own = d.own
  lost : ∀ m, (d.s.nodes.el m).lost = true → (e.s.nodes.el m).lost = true
  name : ∀ m, (e.s.nodes.el m).name = (d.s.nodes.el m).name
  gone : ∀ q, d.gone q = true → e.gone q = true
theorem Fol.refl (d : StD) : Fol d d := ⟨rfl, rfl, rfl, rfl, fun _ h => h, fun _ => rfl, fun _ h => h⟩
theorem Fol.trans {a b c : StD} (h : Fol a b) (k : Fol b c) : Fol a c :=
  ⟨k.nn.trans h.nn, k.pods.trans h.pods, k.owners.trans h.owners, k.own.trans h.own, fun m e => k.lost m (h.lost m e), fun m => (k.name m).trans (h.name m), fun q e => k.gone q (h.gone q e)⟩
theorem takeD_inv {d : StD} (h : DInv d) {p n : Nat} (hp : p < d.s.pods.n) (hon : d.on p = n) : DInv (takeD d p n) ∧ Fol d (takeD d p n) := by
  refine ⟨⟨takeD_ok h.ok hp hon, fun m hm hl q hq => ?_, fun q hq hg => ?_⟩, ⟨rfl, rfl, rfl, rfl, fun _ h => h, fun _ => rfl, fun _ h => h⟩⟩
  · show setC d.on p (-1) q ≠ m
    unfold setC
    split
    · omega
    · exact h.lost m hm hl q hq
  · show setC d.on p (-1) q = -1
    unfold setC
    split
    · rfl
    · exact h.gone q hq hg
theorem evictD_inv {d : StD} (h : DInv d) (k : Int) : DInv (evictD d k) ∧ Fol d (evictD d k) := by
  unfold evictD
  split
  · rename_i he
    obtain ⟨p, rfl, hp⟩ := podE_ok he.1
    simp only [Int.toNat_natCast] at he ⊢
    rcases h.ok.on p hp with e | ⟨n, hn, e⟩
    · exact absurd e he.2
    · rw [e, Int.toNat_natCast]
      exact takeD_inv h hp e
  · exact ⟨h, Fol.refl d⟩
theorem bindD_inv {d : StD} (h : DInv d) (k n : Int) : DInv (bindD d k n) ∧ Fol d (bindD d k n) := by
  unfold bindD
  split
  · rename_i he
    obtain ⟨p, m, rfl, rfl, hp, hm, hon, hg, hl⟩ := bindR_ok he
    simp only [Int.toNat_natCast]
    refine ⟨⟨putD_ok h.ok hp hm hon, fun m' hm' hl' q hq => ?_, fun q hq hg' => ?_⟩, ⟨rfl, rfl, rfl, rfl, fun _ h => h, fun _ => rfl, fun _ h => h⟩⟩
    · show setC d.on p m q ≠ m'
      unfold setC
      split
      · intro e
        have : m = m' := by omega
        subst this
        have hl2 : (d.s.nodes.el m).lost = true := hl'
        rw [hl] at hl2
        cases hl2
      · exact h.lost m' hm' hl' q hq
    · show setC d.on p m q = -1
      have hg2 : d.gone q = true := hg'
      unfold setC
      split
      · rename_i e
        subst e
        rw [hg] at hg2
        cases hg2
      · exact h.gone q hq hg2
  · exact ⟨h, Fol.refl d⟩
theorem nodeD_fol {d : StD} (k : Nat) (x : NodeD) (hl : (d.s.nodes.el k).lost = true → x.lost = true) (hn : x.name = (d.s.nodes.el k).name) : Fol d (nodeD d k x) := by
  refine ⟨rfl, rfl, rfl, rfl, fun m h => ?_, fun m => ?_, fun _ h => h⟩
  · show (if m = k then x else d.s.nodes.el m).lost = true
    split
    · rename_i e; subst e; exact hl h
    · exact h
  · show (if m = k then x else d.s.nodes.el m).name = _
    split
    · rename_i e; subst e; exact hn
    · rfl
theorem cordonD_inv {d : StD} (h : DInv d) (k : Int) (b : Bool) : DInv (cordonD d k b) ∧ Fol d (cordonD d k b) := by
  unfold cordonD
  split
  · refine ⟨⟨nodeD_ok h.ok _ _, fun m hm hl q hq => h.lost m hm ?_ q hq, h.gone⟩, nodeD_fol _ _ (fun h => h) rfl⟩
    have hl2 : (if m = k.toNat then { d.s.nodes.el k.toNat with cordon := b } else d.s.nodes.el m).lost = true := hl
    split at hl2
    · rename_i e; subst e; exact hl2
    · exact hl2
  · exact ⟨h, Fol.refl d⟩
theorem cordonR_ok {d : StD} {k : Int} (h : cordonR d k = 0) : ∃ n : Nat, k = n ∧ n < d.s.nodes.n ∧ (d.s.nodes.el n).lost = false := by
  unfold cordonR at h
  split at h
  · rename_i h1
    obtain ⟨n, rfl, hn⟩ := nodeE_ok h1
    simp only [Int.toNat_natCast] at h
    split at h
    · cases h
    · rename_i h2
      exact ⟨n, rfl, hn, by simpa using h2⟩
  · cases h
theorem loseD_at {d : StD} {n : Nat} (h : cordonR d n = 0) : (loseD d n).s = { d.s with nodes := setN d.s.nodes n { d.s.nodes.el n with lost := true } } ∧ (loseD d n).gone = d.gone ∧ (loseD d n).own = d.own ∧ ∀ q, q < d.s.pods.n → (loseD d n).on q = if d.on q = n then -1 else d.on q := by
  have e : loseD d n = loseN (lostD d n) n d.s.pods.n := by unfold loseD; rw [if_pos h]; rfl
  obtain ⟨h1, h2, h3⟩ := loseN_s (lostD d n) n d.s.pods.n
  refine ⟨by rw [e, h1]; rfl, by rw [e, h2]; rfl, by rw [e, h3]; rfl, fun q hq => ?_⟩
  rw [e, loseN_on]
  show (if q < d.s.pods.n ∧ d.on q = n then -1 else d.on q) = _
  simp [hq]
theorem loseD_inv {d : StD} (h : DInv d) (k : Int) : DInv (loseD d k) ∧ Fol d (loseD d k) := by
  by_cases hr : cordonR d k = 0
  · obtain ⟨n, rfl, hn, hl⟩ := cordonR_ok hr
    obtain ⟨e1, e2, e3, e4⟩ := loseD_at hr
    refine ⟨⟨loseD_ok h.ok _, fun m hm hlm q hq => ?_, fun q hq hg => ?_⟩, ⟨by rw [e1]; rfl, by rw [e1], by rw [e1], e3, fun m hm => ?_, fun m => ?_, fun q hg => by rw [e2]; exact hg⟩⟩
    · rw [e1] at hm hlm hq
      rw [e4 q hq]
      have hlm2 : (if m = n then { d.s.nodes.el n with lost := true } else d.s.nodes.el m).lost = true := hlm
      split
      · omega
      · rename_i hne
        split at hlm2
        · rename_i e; subst e; exact hne
        · exact h.lost m hm hlm2 q hq
    · rw [e1] at hq
      rw [e2] at hg
      rw [e4 q hq, h.gone q hq hg]
      simp
    · rw [e1]
      show (if m = n then { d.s.nodes.el n with lost := true } else d.s.nodes.el m).lost = true
      split
      · rfl
      · exact hm
    · rw [e1]
      show (if m = n then { d.s.nodes.el n with lost := true } else d.s.nodes.el m).name = _
      split
      · rename_i e; subst e; rfl
      · rfl
  · have : loseD d k = d := by unfold loseD; rw [if_neg hr]
    rw [this]
    exact ⟨h, Fol.refl d⟩
theorem goneR_ok {d : StD} {k : Int} (h : goneR d k = 0) : ∃ p : Nat, k = p ∧ p < d.s.pods.n ∧ d.gone p = false := by
  unfold goneR at h
  split at h
  · rename_i h1
    obtain ⟨p, rfl, hp⟩ := podE_ok h1
    simp only [Int.toNat_natCast] at h
    split at h
    · cases h
    · rename_i h2
      exact ⟨p, rfl, hp, by simpa using h2⟩
  · cases h
theorem outD_on {d : StD} {p : Nat} (hp : p < d.s.pods.n) (q : Nat) : (outD d p).on q = if q = p then -1 else d.on q := by
  unfold outD
  split
  · rename_i e
    split
    · rename_i e2; subst e2; exact e
    · rfl
  · show setC d.on p (-1) q = _
    rfl
theorem outD_s (d : StD) (p : Nat) : (outD d p).s = d.s ∧ (outD d p).gone = d.gone ∧ (outD d p).own = d.own := by
  unfold outD
  split <;> exact ⟨rfl, rfl, rfl⟩
theorem goneD_at {d : StD} {p : Nat} (h : goneR d p = 0) : (goneD d p).s = d.s ∧ (goneD d p).gone = setBf d.gone p true ∧ (goneD d p).own = d.own ∧ ∀ q, (goneD d p).on q = if q = p then -1 else d.on q := by
  obtain ⟨p', e, hp, -⟩ := goneR_ok h
  have : p' = p := by omega
  subst this
  have e : goneD d p' = outD { d with gone := setBf d.gone p' true } p' := by unfold goneD; rw [if_pos h]; rfl
  obtain ⟨h1, h2, h3⟩ := outD_s { d with gone := setBf d.gone p' true } p'
  refine ⟨by rw [e, h1], by rw [e, h2], by rw [e, h3], fun q => ?_⟩
  rw [e]
  exact outD_on (d := { d with gone := setBf d.gone p' true }) hp q
theorem goneD_inv {d : StD} (h : DInv d) (k : Int) : DInv (goneD d k) ∧ Fol d (goneD d k) := by
  by_cases hr : goneR d k = 0
  · obtain ⟨p, rfl, hp, hg⟩ := goneR_ok hr
    obtain ⟨e1, e2, e3, e4⟩ := goneD_at hr
    refine ⟨⟨goneD_ok h.ok _, fun m hm hlm q hq => ?_, fun q hq hg => ?_⟩, ⟨by rw [e1], by rw [e1], by rw [e1], e3, fun m hm => by rw [e1]; exact hm, fun m => by rw [e1], fun q hg => ?_⟩⟩
    · rw [e1] at hm hlm hq
      rw [e4 q]
      split
      · omega
      · exact h.lost m hm hlm q hq
    · rw [e1] at hq
      rw [e2] at hg
      rw [e4 q]
      split
      · rfl
      · rename_i hne
        refine h.gone q hq ?_
        unfold setBf at hg
        rw [if_neg hne] at hg
        exact hg
    · rw [e2]
      unfold setBf
      split
      · rfl
      · exact hg
  · have : goneD d k = d := by unfold goneD; rw [if_neg hr]
    rw [this]
    exact ⟨h, Fol.refl d⟩
theorem doesD_inv {d : StD} (h : DInv d) (x : DoD) : DInv (doesD d x) ∧ Fol d (doesD d x) := by
  unfold doesD
  split
  · exact evictD_inv h _
  split
  · exact bindD_inv h _ _
  split
  · exact cordonD_inv h _ _
  split
  · exact loseD_inv h _
  · exact goneD_inv h _
theorem startD_inv {s : SnapD} (h : checkE s = 0) : DInv (startD s) := by
  refine ⟨startD_ok h, fun m hm hl q hq => ?_, fun q hq hg => by cases hg⟩
  unfold checkE at h
  split at h
  case isFalse => cases h
  rename_i hs
  simp only [shapedB, Bool.and_eq_true] at hs
  have hp := allB_iff.1 hs.2 q hq
  simp only [podB, Bool.and_eq_true] at hp
  have ho := hp.1.2
  intro e
  have e2 : onV s q = m := e
  unfold onV at e2
  split at e2
  · omega
  · rename_i hne
    unfold onOk at ho
    rw [Bool.or_eq_true] at ho
    rcases ho with ho | ho
    · exact hne ho
    · rw [Bool.and_eq_true] at ho
      have e3 : nodeIdx s (s.pods.el q).on = m := e2
      rw [e3, Int.toNat_natCast] at ho
      have hl2 : (s.nodes.el m).lost = true := hl
      rw [hl2] at ho
      exact absurd ho.2 (by simp)
theorem StoreM.other {m m' : Nat → Option M} {A : SA} {d : StD} (h : StoreM m A d) (e : ∀ i ∈ A.ids, m' i = m i) : StoreM m' A d :=
  ⟨(e A.t (by simp [SA.ids])).trans h.t, (e A.gn (by simp [SA.ids])).trans h.n, (e A.gp (by simp [SA.ids])).trans h.p, (e A.gq (by simp [SA.ids])).trans h.q, (e A.go (by simp [SA.ids])).trans h.o, (e A.gg (by simp [SA.ids])).trans h.g, (e A.gw (by simp [SA.ids])).trans h.w⟩
/-- calls, one by one -/
def playD (l : Nat → DoD) : Nat → StD → StD
  | 0, d => d
  | j + 1, d => doesD (playD l j d) (l j)
theorem playD_inv {l : Nat → DoD} {d : StD} (h : DInv d) : ∀ j, DInv (playD l j d) ∧ Fol d (playD l j d)
  | 0 => ⟨h, Fol.refl d⟩
  | j + 1 => by
    obtain ⟨h1, h2⟩ := playD_inv (l := l) h j
    obtain ⟨h3, h4⟩ := doesD_inv h1 (l j)
    exact ⟨h3, h2.trans h4⟩
theorem lose_on {d : StD} (h : DInv d) {n : Nat} {q : Nat} (hq : q < d.s.pods.n) : (loseD d n).on q = if d.on q = n then -1 else d.on q := by
  by_cases hr : cordonR d n = 0
  · exact (loseD_at hr).2.2.2 q hq
  · have e : loseD d n = d := by unfold loseD; rw [if_neg hr]
    rw [e, if_neg]
    intro e2
    rcases h.ok.on q hq with e3 | ⟨m, hm, e3⟩
    · omega
    · have : m = n := by omega
      subst this
      refine h.lost m hm ?_ q hq e2
      unfold cordonR at hr
      have h0 : nodeE d m = 0 := by unfold nodeE; rw [if_pos (by omega)]
      rw [if_pos h0, Int.toNat_natCast] at hr
      by_cases hl : (d.s.nodes.el m).lost = true
      · exact hl
      · rw [if_neg hl] at hr
        exact absurd rfl hr
theorem gone_on {d : StD} (h : DInv d) {p : Nat} {q : Nat} (hq : q < d.s.pods.n) : (goneD d p).on q = if q = p then -1 else d.on q := by
  by_cases hr : goneR d p = 0
  · exact (goneD_at hr).2.2.2 q
  · have e : goneD d p = d := by unfold goneD; rw [if_neg hr]
    rw [e]
    split
    · rename_i e2
      subst e2
      refine h.gone q hq ?_
      unfold goneR at hr
      have h0 : podE d q = 0 := by unfold podE; rw [if_pos (by omega)]
      rw [if_pos h0, Int.toNat_natCast] at hr
      by_cases hl : d.gone q = true
      · exact hl
      · rw [if_neg hl] at hr
        exact absurd rfl hr
    · rfl
theorem lose_lost {d : StD} {n : Nat} (hn : n < d.s.nodes.n) : ((loseD d n).s.nodes.el n).lost = true := by
  by_cases hr : cordonR d n = 0
  · rw [(loseD_at hr).1]
    show (if n = n then { d.s.nodes.el n with lost := true } else d.s.nodes.el n).lost = true
    rw [if_pos rfl]
  · have e : loseD d n = d := by unfold loseD; rw [if_neg hr]
    rw [e]
    unfold cordonR at hr
    have h0 : nodeE d n = 0 := by unfold nodeE; rw [if_pos (by omega)]
    rw [if_pos h0, Int.toNat_natCast] at hr
    by_cases hl : (d.s.nodes.el n).lost = true
    · exact hl
    · rw [if_neg hl] at hr
      exact absurd rfl hr
theorem gone_gone {d : StD} {p : Nat} (hp : p < d.s.pods.n) : (goneD d p).gone p = true := by
  by_cases hr : goneR d p = 0
  · rw [(goneD_at hr).2.1]
    simp [setBf]
  · have e : goneD d p = d := by unfold goneD; rw [if_neg hr]
    rw [e]
    unfold goneR at hr
    have h0 : podE d p = 0 := by unfold podE; rw [if_pos (by omega)]
    rw [if_pos h0, Int.toNat_natCast] at hr
    by_cases hl : d.gone p = true
    · exact hl
    · rw [if_neg hl] at hr
      exact absurd rfl hr
/-- behind the loss of n and the going of p -/
theorem after_on {d : StD} (h : DInv d) {n p k : Nat} (hn : n < d.s.nodes.n → (d.s.nodes.el n).lost = true) (hp : p < d.s.pods.n → d.gone p = true) (hn2 : n ≤ d.s.nodes.n) (hk : k < d.s.pods.n) : (k = p → d.on k = -1) ∧ d.on k ≠ n := by
  refine ⟨fun e => h.gone k hk (by subst e; exact hp hk), fun e => ?_⟩
  rcases h.ok.on k hk with e3 | ⟨m, hm, e3⟩
  · omega
  · have : m = n := by omega
    subst this
    exact h.lost m hm (hn hm) k hk e
theorem used_none {d : StD} (h : DInv d) {n i : Nat} (hn : n < d.s.nodes.n) (hl : (d.s.nodes.el n).lost = true) (hi : i < 5) : usedR d n i = 0 := by
  unfold usedR
  have h0 : nodeE d n = 0 := by unfold nodeE; rw [if_pos (by omega)]
  have := h.ok.s.n8
  rw [if_pos h0, Int.toNat_natCast, h.ok.used n (by omega) i hi]
  unfold usedOf
  have e : sumF (fun p => if d.on p = n then (d.s.pods.el p).req i else 0) d.s.pods.n = sumF (fun _ => 0) d.s.pods.n := sumF_congr fun p hp => if_neg (h.lost n hn hl p hp)
  rw [e, sumF_const]
  simp
end Go.Proofs.YthpmgnbehahkfaaGreat
end
