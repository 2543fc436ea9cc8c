/- snap.Copy of rows that are someone's own. -/
/- snap.With of own rows. -/
/- store.Snap. -/
/- What Snap tells may be: the plain law. -/
import Derived.Test.YthpmgnbehahkfaaGreatJQm
import Derived.Test.YthpmgnbehahkfaaGreatJQl
import Derived.Test.YthpmgnbehahkfaaGreatJQd
import Derived.Test.YthpmgnbehahkfaaGreatJDd
set_option linter.unusedSimpArgs false
set_option linter.unusedVariables false
section
namespace Go.Proofs.YthpmgnbehahkfaaGreat
open Go.RowKit Go.Dk Go.Dn

section
variable {mem0 : Nat → Option M} {e gn vn gp vp gq vq : Nat} {K : D → (Nat → Option M) → Nat → Prop}
set_option maxRecDepth 100000 in
set_option maxHeartbeats 2000000 in
theorem copy_S (s : SnapD) (ok : SnapOk s) (hN : mem0 gn = some (.row 75 vn 10 (encL s.nodes.n fun k => nodeC (s.nodes.el k)))) (hP : mem0 gp = some (.row 81 vp 15 (encL s.pods.n fun k => podC (s.pods.el k))))
    (hQ : mem0 gq = some (.row 100 vq 5 (encL s.owners.n fun k => ownerC (s.owners.el k)))) (ln : gn < e) (lp : gp < e) (lq : gq < e)
    (hk : ∀ m' n' g1 g2 g3, e ≤ g1 → e ≤ g2 → e ≤ g3 → g1 < g2 → g2 < g3 → g3 < n' → e ≤ n' → Kept [] e mem0 m' → m' g1 = some (.row 75 0 10 (encL s.nodes.n fun k => nodeC (s.nodes.el k))) → m' g2 = some (.row 81 0 15 (encL s.pods.n fun k => podC (s.pods.el k))) →
      m' g3 = some (.row 100 0 5 (encL s.owners.n fun k => ownerC (s.owners.el k))) → K (.agg [.own g1 0, .own g2 0, .own g3 0]) m' n') :
    callS Tryz.prog 92 [.agg [.own gn vn, .own gp vp, .own gq vq]] mem0 e K := by
  have hn1 := ok.n1
  have hp1 := ok.p1
  have ho1 := ok.o1
  refine callS.of_run (lit := false) (B := fun _ => []) Tryz.func92 rfl rfl rfl rfl (Nat.le_of_ble_eq_true rfl) (runC_of_runCL ?_)
  simp -dsimp -implicitDefEqProofs [go_sem]
  generalize hb : e + 2 = b
  have h0 : e < b := by omega
  have e0 : ∀ k, e < b + k := fun k => by omega
  have q0 : gn < b ∧ gp < b ∧ gq < b := by omega
  have u0 : ∀ k, ¬ e = b + k := fun k => by omega
  have u1 : ∀ k, ¬ e + 1 = b + k := fun k => by omega
  have u3 : (∀ k, ¬ gn = b + k) ∧ (∀ k, ¬ gp = b + k) ∧ (∀ k, ¬ gq = b + k) := ⟨fun k => by omega, fun k => by omega, fun k => by omega⟩
  have u2 : ¬ gn = e ∧ ¬ gn = e + 1 ∧ ¬ gp = e ∧ ¬ gp = e + 1 ∧ ¬ gq = e ∧ ¬ gq = e + 1 := by omega
  refine runCL_draw [[], [0], [1, 0], [], [3], [4, 3, 2, 1, 0], [], [6], [7, 6, 5, 4, 3, 2, 1, 0], [2, 1, 0, 5, 4, 3, 8, 7, 6], [], [10, 9, 2, 1, 0, 5, 4, 3, 8, 7, 6]] rfl (by kernel_rfl) (by kernel_rfl) ?_
  simp -dsimp -implicitDefEqProofs [go_sem, Tv, Cw, silentAt, silentOp, h0, q0, u0, u1, u2, u3]
  refine callW_copy cloneNode_copy (xs := encL s.nodes.n fun k => nodeC (s.nodes.el k)) (by simp -dsimp -implicitDefEqProofs [go_sem, Tv, Cw, silentAt, silentOp, q0, u2, u3, hN]) (by rw [encL_len]; exact hn1) ?_
  simp -dsimp -implicitDefEqProofs [go_sem, Tv, Cw, silentAt, silentOp, h0, q0, u0, u1, u2, u3]
  refine exWL_mk (andL_mk ⟨Cw_new, Tv_new (by kernel_rfl)⟩ ?_)
  simp -dsimp -implicitDefEqProofs [go_sem, Tv, Cw, silentAt, silentOp, h0, q0, u0, u1, u2, u3]
  refine callW_copy clonePod_copy (xs := encL s.pods.n fun k => podC (s.pods.el k)) (by simp -dsimp -implicitDefEqProofs [go_sem, Tv, Cw, silentAt, silentOp, q0, u2, u3, hP]) (by rw [encL_len]; exact hp1) ?_
  simp -dsimp -implicitDefEqProofs [go_sem, Tv, Cw, silentAt, silentOp, h0, q0, u0, u1, u2, u3]
  refine exWL_mk (andL_mk ⟨Cw_new, Tv_new (by kernel_rfl)⟩ ?_)
  simp -dsimp -implicitDefEqProofs [go_sem, Tv, Cw, silentAt, silentOp, h0, q0, u0, u1, u2, u3]
  refine callW_copy cloneOwner_copy (xs := encL s.owners.n fun k => ownerC (s.owners.el k)) (by simp -dsimp -implicitDefEqProofs [go_sem, Tv, Cw, silentAt, silentOp, q0, u2, u3, hQ]) (by rw [encL_len]; exact ho1) ?_
  simp -dsimp -implicitDefEqProofs [go_sem, Tv, Cw, silentAt, silentOp, h0, q0, u0, u1, u2, u3]
  refine exWL_mk (andL_mk ⟨Cw_new, Tv_new (by kernel_rfl)⟩ ?_)
  simp -dsimp -implicitDefEqProofs [go_sem, Tv, Cw, silentAt, silentOp, h0, q0, u0, u1, u2, u3]
  refine exWL_mk (andL_mk ⟨Cw_new, Tv_new (by kernel_rfl)⟩ ?_)
  simp -dsimp -implicitDefEqProofs [go_sem, Tv, Cw, silentAt, silentOp, h0, q0, u0, u1, u2, u3]
  refine exWL_mk (andL_mk ⟨Cw_at (by kernel_rfl), Tv_at (by kernel_rfl) (by kernel_rfl)⟩ ?_)
  simp -dsimp -implicitDefEqProofs [go_sem, Tv, Cw, silentAt, silentOp, h0, q0, u0, u1, u2, u3]
  generalize hg1 : b + 2 = g1
  generalize hg2 : b + 5 = g2
  generalize hg3 : b + 8 = g3
  generalize hbx : b + 10 = bx
  generalize ho : e + 1 = o
  have n1 : (¬ g1 = g2 ∧ ¬ g2 = g1 ∧ ¬ g1 = g3 ∧ ¬ g3 = g1 ∧ ¬ g2 = g3 ∧ ¬ g3 = g2) ∧ (¬ g1 = bx ∧ ¬ bx = g1 ∧ ¬ g2 = bx ∧ ¬ bx = g2 ∧ ¬ g3 = bx ∧ ¬ bx = g3) ∧ (¬ g1 = o ∧ ¬ o = g1 ∧ ¬ g2 = o ∧ ¬ o = g2 ∧ ¬ g3 = o ∧ ¬ o = g3 ∧ ¬ bx = o ∧ ¬ o = bx) ∧ (¬ g1 = e ∧ ¬ g2 = e ∧ ¬ g3 = e ∧ ¬ bx = e ∧ ¬ o = e) := by omega
  refine runCL_loop [] (fun m st => ∃ j : Nat, st.n = 101 ∧ st.lit = false ∧ j ≤ s.nodes.n ∧ m = s.nodes.n - j ∧ b + 16 ≤ st.next ∧ st.fr 2 = .loc o 0 ∧ st.fr 3 = .loc bx 0 ∧ st.fr 20 = .f (I s.nodes.n) ∧ st.fr 21 = .f (I j) ∧
      st.mem o = some (.blk [.f (.v (.slice none 0 0)), .f (.v (.slice none 0 0)), .f (.v (.slice none 0 0))]) ∧ st.mem g1 = some (.row 75 0 10 (encL s.nodes.n fun k => nodeC (s.nodes.el k))) ∧
      st.mem g2 = some (.row 81 0 15 (encL s.pods.n fun k => podC (s.pods.el k))) ∧ st.mem g3 = some (.row 100 0 5 (encL s.owners.n fun k => ownerC (s.owners.el k))) ∧ st.mem bx = some (.blk [.own g1 0, .own g2 0, .own g3 0]) ∧ Kept [] e mem0 st.mem) s.nodes.n ⟨0, ?_⟩ ?_
  · simp -dsimp -implicitDefEqProofs [go_sem, n1]
    intro id hid _
    have v : ¬ id = e ∧ ¬ id = o ∧ ¬ id = g1 ∧ ¬ id = g2 ∧ ¬ id = g3 ∧ ¬ id = bx := by omega
    simp -dsimp -implicitDefEqProofs [upd, v]
  rintro m ⟨N, fr, mem, nx, lt⟩ ⟨j, hN, hlt, hj, rfl, hnx, f2, f3, f20, f21, m1, m4, m7, m10, m12, hkp⟩
  dsimp only at *
  subst hN hlt
  have h4 : ∀ k, g1 < nx + k := fun k => by omega
  have h12 : ∀ k, bx < nx + k := fun k => by omega
  simp -dsimp -implicitDefEqProofs [go_sem, f2, f3, f20, f21, m1, m4, m7, m10, m12, n1]
  refine gif_dec (fun hlt => ?_) (fun hge => ?_)
  · have hset := encL_set s.nodes.n j (fun k => nodeC (s.nodes.el k)) hlt
    simp only [nodeC_eq (s.nodes.el j)] at hset
    obtain ⟨-, ol, ot⟩ := ok.n2 j hlt
    simp -dsimp -implicitDefEqProofs [go_sem, f2, f3, f20, f21, m1, m4, m7, m10, m12, n1, hlt]
    refine runCL_draw [[], [], [], [2], [3, 2], [4, 3, 2], [5, 4, 3, 2], [], [7], [8, 7], [9, 8, 7], [10, 9, 8, 7, 6, 5, 4, 3, 2], [0, 2, 3, 4, 5, 6, 10, 9, 8, 7, 11], [12, 0, 2, 3, 4, 5, 6, 10, 9, 8, 7, 11], [13, 12, 0, 2, 3, 4, 5, 6, 10, 9, 8, 7, 11], [1, 0, 2, 3, 4, 5, 6, 7, 8, 9, 10, 11, 12, 13, 14], [15, 1, 0, 2, 3, 4, 5, 6, 7, 8, 9, 10, 11, 12, 13, 14], [16, 15, 1, 0, 2, 3, 4, 5, 6, 7, 8, 9, 10, 11, 12, 13, 14]] rfl (by kernel_rfl) (by kernel_rfl) ?_
    simp -dsimp -implicitDefEqProofs [go_sem, f2, f3, f20, f21, m1, m4, m7, m10, m12, n1, hlt, Tv, Cw, silentAt, silentOp, h4, h12, encL_get? _ hlt, nodeC_eq (s.nodes.el j)]
    refine callW_f (cloneLabs_pure _ ol.1) ?_
    simp -dsimp -implicitDefEqProofs [go_sem, f2, f3, f20, f21, m1, m4, m7, m10, m12, n1, hlt, Tv, Cw, silentAt, silentOp, h4, h12, encL_get? _ hlt, nodeC_eq (s.nodes.el j)]
    refine callW_f (cloneLabs_pure _ ot.1) ?_
    simp -dsimp -implicitDefEqProofs [go_sem, f2, f3, f20, f21, m1, m4, m7, m10, m12, n1, hlt, Tv, Cw, silentAt, silentOp, h4, h12, encL_get? _ hlt, nodeC_eq (s.nodes.el j)]
    refine exWL_mk (andL_mk ⟨Cw_lt (by omega) (by kernel_rfl), Tv_lt (by omega) (by kernel_rfl)⟩ ?_)
    simp -dsimp -implicitDefEqProofs [go_sem, f2, f3, f20, f21, m1, m4, m7, m10, m12, n1, hlt, Tv, Cw, silentAt, silentOp, h4, h12, encL_get? _ hlt, nodeC_eq (s.nodes.el j), hset]
    refine exWL_mk (andL_mk ⟨Cw_lt (by omega) (by kernel_rfl), Tv_lt (by omega) (by kernel_rfl)⟩ ?_)
    simp -dsimp -implicitDefEqProofs [go_sem, f2, f3, f20, f21, m1, m4, m7, m10, m12, n1, hlt, Tv, Cw, silentAt, silentOp, h4, h12, encL_get? _ hlt, nodeC_eq (s.nodes.el j), hset]
    exact ⟨_, by omega, j + 1, by omega, rfl, by omega, w64 (by omega) (by omega), fun id hid hl => by
      have v : ¬ id = g1 ∧ ¬ id = g2 := by omega
      simp -dsimp -implicitDefEqProofs [upd, v, hkp id hid hl]⟩
  obtain rfl : j = s.nodes.n := by omega
  simp -dsimp -implicitDefEqProofs [go_sem, f2, f3, f20, f21, m1, m4, m7, m10, m12, n1]
  refine runCL_loop [] (fun m st => ∃ j : Nat, st.n = 101 ∧ st.lit = false ∧ j ≤ s.pods.n ∧ m = s.pods.n - j ∧ b + 16 ≤ st.next ∧ st.fr 2 = .loc o 0 ∧ st.fr 3 = .loc bx 0 ∧ st.fr 47 = .f (I s.pods.n) ∧ st.fr 48 = .f (I j) ∧
      st.mem o = some (.blk [.f (.v (.slice none 0 0)), .f (.v (.slice none 0 0)), .f (.v (.slice none 0 0))]) ∧ st.mem g1 = some (.row 75 0 10 (encL s.nodes.n fun k => nodeC (s.nodes.el k))) ∧
      st.mem g2 = some (.row 81 0 15 (encL s.pods.n fun k => podC (s.pods.el k))) ∧ st.mem g3 = some (.row 100 0 5 (encL s.owners.n fun k => ownerC (s.owners.el k))) ∧ st.mem bx = some (.blk [.own g1 0, .own g2 0, .own g3 0]) ∧ Kept [] e mem0 st.mem) s.pods.n ⟨0, ?_⟩ ?_
  · simp -dsimp -implicitDefEqProofs [go_sem, f2, f3, f20, f21, m1, m4, m7, m10, m12, n1]
    exact ⟨by omega, hkp⟩
  clear f2 f3 f20 f21 m1 m4 m7 m10 m12 h4 h12 hge hj hnx hkp
  rintro m ⟨N, fr, mem, nx, lt⟩ ⟨j, hN, hlt, hj, rfl, hnx, k2, k3, k47, k48, m1, m4, m7, m10, m12, hkp⟩
  dsimp only at *
  subst hN hlt
  have h7 : ∀ k, g2 < nx + k := fun k => by omega
  have h12 : ∀ k, bx < nx + k := fun k => by omega
  simp -dsimp -implicitDefEqProofs [go_sem, k2, k3, k47, k48, m1, m4, m7, m10, m12, n1]
  refine gif_dec (fun hlt => ?_) (fun hge => ?_)
  · have hset := encL_set s.pods.n j (fun k => podC (s.pods.el k)) hlt
    simp only [podC_eq (s.pods.el j)] at hset
    obtain ⟨-, o1, o2, o3, o4, o5⟩ := ok.p2 j hlt
    simp -dsimp -implicitDefEqProofs [go_sem, k2, k3, k47, k48, m1, m4, m7, m10, m12, n1, hlt]
    refine runCL_draw [[], [], [], [], [3], [4, 3], [5, 4, 3], [6, 5, 4, 3], [], [8], [9, 8], [10, 9, 8], [11, 10, 9, 8, 7, 6, 5, 4, 3], [], [13], [14, 13], [15, 14, 13], [16, 15, 14, 13, 12, 11, 10, 9, 8, 7, 6, 5, 4, 3], [0, 3, 4, 5, 6, 7, 11, 10, 9, 8, 12, 16, 15, 14, 13, 17], [18, 0, 3, 4, 5, 6, 7, 11, 10, 9, 8, 12, 16, 15, 14, 13, 17], [19, 18, 0, 3, 4, 5, 6, 7, 11, 10, 9, 8, 12, 16, 15, 14, 13, 17], [1, 0, 3, 4, 5, 6, 7, 8, 9, 10, 11, 12, 16, 15, 14, 13, 17, 18, 19, 20], [21, 1, 0, 3, 4, 5, 6, 7, 8, 9, 10, 11, 12, 16, 15, 14, 13, 17, 18, 19, 20], [22, 21, 1, 0, 3, 4, 5, 6, 7, 8, 9, 10, 11, 12, 16, 15, 14, 13, 17, 18, 19, 20], [2, 0, 1, 3, 4, 5, 6, 7, 8, 9, 10, 11, 12, 13, 14, 15, 16, 17, 18, 19, 20, 21, 22, 23], [24, 2, 0, 1, 3, 4, 5, 6, 7, 8, 9, 10, 11, 12, 13, 14, 15, 16, 17, 18, 19, 20, 21, 22, 23], [25, 24, 2, 0, 1, 3, 4, 5, 6, 7, 8, 9, 10, 11, 12, 13, 14, 15, 16, 17, 18, 19, 20, 21, 22, 23]] rfl (by kernel_rfl) (by kernel_rfl) ?_
    simp -dsimp -implicitDefEqProofs [go_sem, k2, k3, k47, k48, m1, m4, m7, m10, m12, n1, hlt, Tv, Cw, silentAt, silentOp, h7, h12, encL_get? _ hlt, podC_eq (s.pods.el j), hset]
    refine callW_f (cloneLabs_pure _ o1.1) ?_
    simp -dsimp -implicitDefEqProofs [go_sem, k2, k3, k47, k48, m1, m4, m7, m10, m12, n1, hlt, Tv, Cw, silentAt, silentOp, h7, h12, encL_get? _ hlt, podC_eq (s.pods.el j), hset]
    refine callW_f (cloneTerms_pure _ o2.1) ?_
    simp -dsimp -implicitDefEqProofs [go_sem, k2, k3, k47, k48, m1, m4, m7, m10, m12, n1, hlt, Tv, Cw, silentAt, silentOp, h7, h12, encL_get? _ hlt, podC_eq (s.pods.el j), hset]
    refine callW_f (cloneLabs_pure _ o3.1) ?_
    simp -dsimp -implicitDefEqProofs [go_sem, k2, k3, k47, k48, m1, m4, m7, m10, m12, n1, hlt, Tv, Cw, silentAt, silentOp, h7, h12, encL_get? _ hlt, podC_eq (s.pods.el j), hset]
    refine exWL_mk (andL_mk ⟨Cw_lt (by omega) (by kernel_rfl), Tv_lt (by omega) (by kernel_rfl)⟩ ?_)
    simp -dsimp -implicitDefEqProofs [go_sem, k2, k3, k47, k48, m1, m4, m7, m10, m12, n1, hlt, Tv, Cw, silentAt, silentOp, h7, h12, encL_get? _ hlt, podC_eq (s.pods.el j), hset]
    refine exWL_mk (andL_mk ⟨Cw_lt (by omega) (by kernel_rfl), Tv_lt (by omega) (by kernel_rfl)⟩ ?_)
    simp -dsimp -implicitDefEqProofs [go_sem, k2, k3, k47, k48, m1, m4, m7, m10, m12, n1, hlt, Tv, Cw, silentAt, silentOp, h7, h12, encL_get? _ hlt, podC_eq (s.pods.el j), hset]
    refine exWL_mk (andL_mk ⟨Cw_lt (by omega) (by kernel_rfl), Tv_lt (by omega) (by kernel_rfl)⟩ ?_)
    simp -dsimp -implicitDefEqProofs [go_sem, k2, k3, k47, k48, m1, m4, m7, m10, m12, n1, hlt, Tv, Cw, silentAt, silentOp, h7, h12, encL_get? _ hlt, podC_eq (s.pods.el j), hset]
    refine runCL_draw [[], [], [], [2], [3, 2], [4, 3, 2], [5, 4, 3, 2], [6, 5, 4, 3, 2], [], [8], [9, 8], [10, 9, 8], [11, 10, 9, 8], [12, 11, 10, 9, 8, 7, 6, 5, 4, 3, 2], [0, 2, 3, 4, 5, 6, 7, 12, 11, 10, 9, 8, 13], [14, 0, 2, 3, 4, 5, 6, 7, 12, 11, 10, 9, 8, 13], [15, 14, 0, 2, 3, 4, 5, 6, 7, 12, 11, 10, 9, 8, 13], [16, 15, 14, 0, 2, 3, 4, 5, 6, 7, 12, 11, 10, 9, 8, 13], [1, 0, 2, 3, 4, 5, 6, 7, 8, 9, 10, 11, 12, 13, 14, 15, 16, 17], [18, 1, 0, 2, 3, 4, 5, 6, 7, 8, 9, 10, 11, 12, 13, 14, 15, 16, 17], [19, 18, 1, 0, 2, 3, 4, 5, 6, 7, 8, 9, 10, 11, 12, 13, 14, 15, 16, 17], [20, 19, 18, 1, 0, 2, 3, 4, 5, 6, 7, 8, 9, 10, 11, 12, 13, 14, 15, 16, 17]] rfl (by kernel_rfl) (by kernel_rfl) ?_
    simp -dsimp -implicitDefEqProofs [go_sem, k2, k3, k47, k48, m1, m4, m7, m10, m12, n1, hlt, Tv, Cw, silentAt, silentOp, h7, h12, encL_get? _ hlt, podC_eq (s.pods.el j), hset]
    refine callW_f (cloneTerms_pure _ o4.1) ?_
    simp -dsimp -implicitDefEqProofs [go_sem, k2, k3, k47, k48, m1, m4, m7, m10, m12, n1, hlt, Tv, Cw, silentAt, silentOp, h7, h12, encL_get? _ hlt, podC_eq (s.pods.el j), hset]
    refine callW_f (cloneTerms_pure _ o5.1) ?_
    simp -dsimp -implicitDefEqProofs [go_sem, k2, k3, k47, k48, m1, m4, m7, m10, m12, n1, hlt, Tv, Cw, silentAt, silentOp, h7, h12, encL_get? _ hlt, podC_eq (s.pods.el j), hset]
    refine exWL_mk (andL_mk ⟨Cw_lt (by omega) (by kernel_rfl), Tv_lt (by omega) (by kernel_rfl)⟩ ?_)
    simp -dsimp -implicitDefEqProofs [go_sem, k2, k3, k47, k48, m1, m4, m7, m10, m12, n1, hlt, Tv, Cw, silentAt, silentOp, h7, h12, encL_get? _ hlt, podC_eq (s.pods.el j), hset]
    refine exWL_mk (andL_mk ⟨Cw_lt (by omega) (by kernel_rfl), Tv_lt (by omega) (by kernel_rfl)⟩ ?_)
    simp -dsimp -implicitDefEqProofs [go_sem, k2, k3, k47, k48, m1, m4, m7, m10, m12, n1, hlt, Tv, Cw, silentAt, silentOp, h7, h12, encL_get? _ hlt, podC_eq (s.pods.el j), hset]
    exact ⟨_, by omega, j + 1, by omega, rfl, by omega, w64 (by omega) (by omega), fun id hid hl => by
      have v : ¬ id = g1 ∧ ¬ id = g2 := by omega
      simp -dsimp -implicitDefEqProofs [upd, v, hkp id hid hl]⟩
  · simp -dsimp -implicitDefEqProofs [go_sem, k2, k3, k47, k48, m1, m4, m7, m10, m12, n1]
    exact hk _ _ g1 g2 g3 (by omega) (by omega) (by omega) (by omega) (by omega) (by omega) (by omega) (fun id hid hl => by
      have v : ¬ id = o := by omega
      simp -dsimp -implicitDefEqProofs [upd, v, hkp id hid hl]) (by simp -dsimp -implicitDefEqProofs [upd, n1, m4]) (by simp -dsimp -implicitDefEqProofs [upd, n1, m7]) (by simp -dsimp -implicitDefEqProofs [upd, n1, m10])
end
end Go.Proofs.YthpmgnbehahkfaaGreat
end
section
namespace Go.Proofs.YthpmgnbehahkfaaGreat
open Go.RowKit Go.Dk Go.Dn

set_option maxRecDepth 100000 in
theorem idxInt_none (l : Lst Int) (hl : l.n ≤ 1048576) (g : Nat) (gc : List FD) (hg : ∀ k, k < l.n → Pure Tryz.prog g (I (l.el k) :: gc) (B false)) : Pure Tryz.prog 167 [intsF l, .fn g gc] (I (-1)) := by
  refine Pure.of_run (lit := true) Tryz.func167 rfl rfl rfl rfl (Nat.le_of_ble_eq_true rfl) (run_of_runL ?_)
  unfold St.enter
  simp -dsimp -implicitDefEqProofs [go_sem]
  refine runL_loop [] 4 (by simp -dsimp -implicitDefEqProofs [go_sem]) (fun m st => ∃ j : Nat, st.n = 19 ∧ st.lit = true ∧ j ≤ l.n ∧ m = l.n - j ∧ st.fr 0 = .f (intsF l) ∧ st.fr 1 = .f (.fn g gc) ∧ st.fr 7 = .f (I l.n) ∧ st.fr 8 = .f (I j)) l.n ⟨0, ?_⟩ ?_
  · simp -dsimp -implicitDefEqProofs [go_sem]
  rintro m ⟨N, fr, mem, nx, lt⟩ hnx ⟨j, hN, hlt, hj, rfl, f0, f1, f7, f8⟩
  dsimp only at *
  subst hN hnx hlt
  simp -dsimp -implicitDefEqProofs [go_sem, f0, f1, f7, f8]
  refine gif_dec (fun hlt => ?_) (fun hge => ?_)
  · simp -dsimp -implicitDefEqProofs [go_sem, f0, f1, f7, f8, hlt, encL_get? _ hlt]
    refine callW_f (fs := I (l.el j) :: gc) (hg j hlt) ?_
    simp -dsimp -implicitDefEqProofs [go_sem, f0, f1, f7, f8]
    exact ⟨_, by omega, j + 1, by omega, rfl, w64 (by omega) (by omega)⟩
  · simp -dsimp -implicitDefEqProofs [go_sem]
theorem hasInt_none (l : Lst Int) (hl : l.n ≤ 1048576) (g : Nat) (gc : List FD) (hg : ∀ k, k < l.n → Pure Tryz.prog g (I (l.el k) :: gc) (B false)) : Pure Tryz.prog 107 [intsF l, .fn g gc] (B false) := by
  refine Pure.of_run (lit := true) Tryz.func107 rfl rfl rfl rfl (Nat.le_of_ble_eq_true rfl) (run_of_runL ?_)
  unfold St.enter
  simp -dsimp -implicitDefEqProofs [go_sem]
  refine callW_f (idxInt_none l hl g gc hg) ?_
  simp -dsimp -implicitDefEqProofs [go_sem]
/-- where pods may be -/
def OnOk (s : SnapD) (on : Nat → Int) : Prop := ∀ p, p < s.pods.n → on p = -1 ∨ ∃ n : Nat, n < s.nodes.n ∧ on p = n ∧ (s.nodes.el n).lost = false
theorem withOdd_pure (s : SnapD) (hn : s.nodes.n ≤ 1048576) (x : Int) (h : x = -1 ∨ ∃ n : Nat, n < s.nodes.n ∧ x = n ∧ (s.nodes.el n).lost = false) : Pure Tryz.prog 122 [I x, .ref (snapC s)] (B false) := by
  refine Pure.of_run (lit := true) Tryz.func122 rfl rfl rfl rfl (Nat.le_of_ble_eq_true rfl) (run_of_runL ?_)
  unfold St.enter
  rcases h with rfl | ⟨n, hn2, rfl, hl⟩
  · have e1 : ¬ ((s.nodes.n : Int) ≤ -1) := by omega
    simp -dsimp -implicitDefEqProofs [go_sem, snapC, e1]
  · have e1 : ¬ ((n : Int) < -1) := by omega
    have e2 : ¬ (s.nodes.n ≤ n) := by omega
    simp -dsimp -implicitDefEqProofs [go_sem, snapC, e1, e2, hn2, encL_get? _ hn2, nodeC_eq (s.nodes.el n), hl]
def nameOn (s : SnapD) (on : Nat → Int) (k : Nat) : ByteArray := if on k = -1 then ByteArray.empty else (s.nodes.el (on k).toNat).name
/-- a cluster with pods where they are now -/
def onPod (s : SnapD) (on : Nat → Int) (k : Nat) : PodD := { s.pods.el k with on := nameOn s on k }
def onS (s : SnapD) (on : Nat → Int) : SnapD := { s with pods := ⟨s.pods.n, onPod s on⟩ }
def onStep (s : SnapD) (on : Nat → Int) (j k : Nat) : PodD := if k < j then onPod s on k else s.pods.el k
theorem encL_same {n : Nat} {f g : Nat → List FD} (h : ∀ k, k < n → f k = g k) : encL n f = encL n g := by
  unfold encL
  exact List.map_congr_left fun k hk => h k (List.mem_range.1 hk)
theorem encPod_set (N j : Nat) (f : Nat → PodD) (x : PodD) (h : j < N) : (encL N fun k => podC (f k)).set j (podC x) = encL N fun k => podC (if k = j then x else f k) := by
  refine map_set _ _ _ _ _ h (by simp) fun k _ hne => ?_
  simp [hne]
section
variable {mem0 : Nat → Option M} {e gn vn gp vp gq vq go vo : Nat} {K : D → (Nat → Option M) → Nat → Prop}
set_option maxRecDepth 100000 in
set_option maxHeartbeats 2000000 in
theorem with_S (s : SnapD) (ok : SnapOk s) (on : Nat → Int) (hon : OnOk s on) (hN : mem0 gn = some (.row 75 vn 10 (encL s.nodes.n fun k => nodeC (s.nodes.el k)))) (hP : mem0 gp = some (.row 81 vp 15 (encL s.pods.n fun k => podC (s.pods.el k))))
    (hQ : mem0 gq = some (.row 100 vq 5 (encL s.owners.n fun k => ownerC (s.owners.el k)))) (hO : mem0 go = some (.row 3 vo 1 (encL s.pods.n fun k => [I (on k)]))) (ln : gn < e) (lp : gp < e) (lq : gq < e) (lo : go < e)
    (hk : ∀ m' n' g1 g2 g3, e ≤ g1 → e ≤ g2 → e ≤ g3 → g1 < g2 → g2 < g3 → g3 < n' → e ≤ n' → Kept [] e mem0 m' → m' g1 = some (.row 75 0 10 (encL s.nodes.n fun k => nodeC (s.nodes.el k))) → m' g2 = some (.row 81 0 15 (encL s.pods.n fun k => podC (onPod s on k))) →
      m' g3 = some (.row 100 0 5 (encL s.owners.n fun k => ownerC (s.owners.el k))) → K (.tup [.agg [.own g1 0, .own g2 0, .own g3 0], .f (I 0)]) m' n') :
    callS Tryz.prog 89 [.agg [.own gn vn, .own gp vp, .own gq vq], .own go vo] mem0 e K := by
  have hn1 := ok.n1
  have hp1 := ok.p1
  have ho1 := ok.o1
  refine callS.of_run (lit := false) (B := fun n => if n = 4 then [1] else []) Tryz.func89 rfl rfl rfl rfl (Nat.le_of_ble_eq_true rfl) (runC_of_runCL ?_)
  have u0 : ¬ gn = e ∧ ¬ gp = e ∧ ¬ gq = e ∧ ¬ go = e := by omega
  have u1 : ¬ gn = e + 1 ∧ ¬ gp = e + 1 ∧ ¬ gq = e + 1 ∧ ¬ go = e + 1 := by omega
  simp -dsimp -implicitDefEqProofs [go_sem, u0, u1, hO, hP]
  refine callW_z (fs := [intsF ⟨s.pods.n, on⟩, .fn 122 [.ref (snapC s)]]) (by simp -dsimp -implicitDefEqProofs [upd, omap, frz, u0, u1, hO, hN, hP, hQ, intsF, snapC, nodesF, podsF, ownersF]) (hasInt_none ⟨s.pods.n, on⟩ hp1 _ _ fun k hk => withOdd_pure s hn1 (on k) (hon k hk)) rfl ?_
  simp -dsimp -implicitDefEqProofs [go_sem, u0, u1, hO, hP]
  refine copy_S s ok (by simp -dsimp -implicitDefEqProofs [upd, u0, u1, hN]) (by simp -dsimp -implicitDefEqProofs [upd, u0, u1, hP]) (by simp -dsimp -implicitDefEqProofs [upd, u0, u1, hQ]) (by omega) (by omega) (by omega) fun m1 n1 g1 g2 g3 l1 l2 l3 l4 l5 l6 l7 hkp1 r1 r2 r3 => ?_
  have s0 : m1 e = some (.blk [.own gn vn, .own gp vp, .own gq vq]) := by
    rw [hkp1 e (by omega) (by simp)]
    simp -dsimp -implicitDefEqProofs [upd]
  have s1 : m1 (e + 1) = some (.blk [.f (.v (.slice none 0 0)), .f (.v (.slice none 0 0)), .f (.v (.slice none 0 0))]) := by
    rw [hkp1 (e + 1) (by omega) (by simp)]
    simp -dsimp -implicitDefEqProofs [upd]
  have sN : m1 gn = some (.row 75 vn 10 (encL s.nodes.n fun k => nodeC (s.nodes.el k))) := by
    rw [hkp1 gn (by omega) (by simp)]
    simp -dsimp -implicitDefEqProofs [upd, u0, u1, hN]
  have sO : m1 go = some (.row 3 vo 1 (encL s.pods.n fun k => [I (on k)])) := by
    rw [hkp1 go (by omega) (by simp)]
    simp -dsimp -implicitDefEqProofs [upd, u0, u1, hO]
  have sK : Kept [] e mem0 m1 := fun id hid hl => by
    have v : ¬ id = e ∧ ¬ id = e + 1 := by omega
    rw [hkp1 id (by omega) hl]
    simp -dsimp -implicitDefEqProofs [upd, v]
  generalize ho : e + 1 = o at s1 ⊢
  clear hkp1
  simp -dsimp -implicitDefEqProofs [go_sem]
  generalize hbx : n1 + 2 = bx
  have n2 : ¬ g1 = bx ∧ ¬ g2 = bx ∧ ¬ g3 = bx ∧ ¬ e = bx ∧ ¬ o = bx ∧ ¬ gn = bx ∧ ¬ go = bx := by omega
  simp -dsimp -implicitDefEqProofs [go_sem, n2, sO]
  refine runCL_loop [] (fun m st => ∃ j : Nat, st.n = 52 ∧ st.lit = false ∧ j ≤ s.pods.n ∧ m = s.pods.n - j ∧ bx + 1 ≤ st.next ∧ st.fr 2 = .loc e 0 ∧ st.fr 4 = .loc o 0 ∧ st.fr 5 = .f (I 0) ∧ st.fr 7 = .loc bx 0 ∧ st.fr 25 = .own go vo ∧ st.fr 26 = .f (I s.pods.n) ∧ st.fr 27 = .f (I j) ∧
      st.mem e = some (.blk [.own gn vn, .own gp vp, .own gq vq]) ∧ st.mem o = some (.blk [.f (.v (.slice none 0 0)), .f (.v (.slice none 0 0)), .f (.v (.slice none 0 0))]) ∧ st.mem bx = some (.blk [.own g1 0, .own g2 0, .own g3 0]) ∧
      st.mem gn = some (.row 75 vn 10 (encL s.nodes.n fun k => nodeC (s.nodes.el k))) ∧ st.mem go = some (.row 3 vo 1 (encL s.pods.n fun k => [I (on k)])) ∧ st.mem g1 = some (.row 75 0 10 (encL s.nodes.n fun k => nodeC (s.nodes.el k))) ∧
      st.mem g2 = some (.row 81 0 15 (encL s.pods.n fun k => podC (onStep s on j k))) ∧ st.mem g3 = some (.row 100 0 5 (encL s.owners.n fun k => ownerC (s.owners.el k))) ∧ Kept [] e mem0 st.mem) s.pods.n ⟨0, ?_⟩ ?_
  · simp -dsimp -implicitDefEqProofs [go_sem, upd, n2, s0, s1, sN, sO, r1, r2, r3]
    exact ⟨by omega, encL_same fun k _ => by simp [onStep], fun id hid hl => by
      have v : ¬ id = bx := by omega
      simp -dsimp -implicitDefEqProofs [upd, v, sK id hid hl]⟩
  rintro m ⟨N, fr, mem, nx, lt⟩ ⟨j, hN, hlt, hj, rfl, hnx, f2, f4, f5, f7, f25, f26, f27, t0, t1, tb, tn, to, w1, w2, w3, hkp⟩
  dsimp only at *
  subst hN hlt
  rcases Nat.lt_or_ge j s.pods.n with hlt | hge
  · have cur : onStep s on j j = s.pods.el j := by unfold onStep; rw [if_neg (by omega)]
    simp -dsimp -implicitDefEqProofs [go_sem, f2, f4, f5, f7, f25, f26, f27, t0, t1, tb, tn, to, w1, w2, w3, hlt, encL_get? _ hlt, cur, podC_eq (s.pods.el j)]
    have fin : ∀ nm, nm = nameOn s on j → ((encL s.pods.n fun k => podC (onStep s on j k)).set j (podC { s.pods.el j with on := nm })) = encL s.pods.n fun k => podC (onStep s on (j + 1) k) := fun nm hnm => by
      rw [encPod_set _ _ _ _ hlt]
      refine encL_same fun k _ => congrArg podC ?_
      unfold onStep
      by_cases c1 : k = j
      · subst c1
        rw [if_pos rfl, if_pos (by omega), hnm]
        rfl
      · rw [if_neg c1]
        by_cases c2 : k < j
        · rw [if_pos c2, if_pos (by omega)]
        · rw [if_neg c2, if_neg (by omega)]
    rcases hon j hlt with e1 | ⟨n, hn, e1, -⟩
    · have fin1 := fin ByteArray.empty (by unfold nameOn; rw [if_pos e1])
      simp only [podC_eq { s.pods.el j with on := ByteArray.empty }] at fin1
      have e2 : (on j != -1) = false := by simpa using e1
      have n3 : ¬ g2 = e ∧ ¬ e = g2 ∧ ¬ o = g2 ∧ ¬ bx = g2 ∧ ¬ gn = g2 ∧ ¬ go = g2 ∧ ¬ g1 = g2 ∧ ¬ g3 = g2 := by omega
      simp -dsimp -implicitDefEqProofs [go_sem, e2, f2, f4, f5, f7, f25, f26, f27]
      refine ⟨_, by omega, j + 1, by omega, rfl, by omega, w64 (by omega) (by omega), ?_⟩
      refine ⟨by simp -dsimp -implicitDefEqProofs [upd, n3, t0], by simp -dsimp -implicitDefEqProofs [upd, n3, t1], by simp -dsimp -implicitDefEqProofs [upd, n3, tb], by simp -dsimp -implicitDefEqProofs [upd, n3, tn], by simp -dsimp -implicitDefEqProofs [upd, n3, to], by simp -dsimp -implicitDefEqProofs [upd, n3, w1], ?_, by simp -dsimp -implicitDefEqProofs [upd, n3, w3], fun id hid hl => by
        have v : ¬ id = g2 := by omega
        simp -dsimp -implicitDefEqProofs [upd, v, hkp id hid hl]⟩
      exact fin1
    · have e2 : (on j != -1) = true := by rw [e1]; simp
      have n3 : ¬ g2 = e ∧ ¬ e = g2 ∧ ¬ o = g2 ∧ ¬ bx = g2 ∧ ¬ gn = g2 ∧ ¬ go = g2 ∧ ¬ g1 = g2 ∧ ¬ g3 = g2 := by omega
      have fin1 := fin (s.nodes.el n).name (by unfold nameOn; rw [if_neg (by omega), e1, Int.toNat_natCast])
      have mid : ∀ c : List FD, ((encL s.pods.n fun k => podC (onStep s on j k)).set j c)[j]? = some c := fun c => by
        rw [List.getElem?_set_self (by rw [encL_len]; exact hlt)]
      simp -dsimp -implicitDefEqProofs [go_sem, e2, f2, f4, f5, f7, f25, f26, f27]
      generalize hb3 : nx + 1 + 5 + 6 + 2 = b3
      have n4 : g2 < b3 ∧ bx < b3 ∧ e < b3 ∧ gn < b3 := by omega
      refine runCL_draw [[], [0], [], [], [3], [], [4, 3, 5], [6, 4, 3, 5], [7, 6, 4, 3, 5], [1, 0, 2, 3, 4, 5, 6, 7, 8], [9, 1, 0, 2, 3, 4, 5, 6, 7, 8], [10, 9, 1, 0, 2, 3, 4, 5, 6, 7, 8]] rfl (by kernel_rfl) (by kernel_rfl) ?_
      simp -dsimp -implicitDefEqProofs [go_sem, Tv, Cw, silentAt, silentOp, f2, f4, f5, f7, f25, f26, f27, n3, n4, t0, tb, tn, e1, hn, encL_get? _ hn, nodeC_eq (s.nodes.el n), hlt, mid]
      refine exWL_mk (andL_mk ⟨Cw_lt (by omega) (by kernel_rfl), Tv_lt (by omega) (by kernel_rfl)⟩ ?_)
      simp -dsimp -implicitDefEqProofs [go_sem, Tv, Cw, silentAt, silentOp, f2, f4, f5, f7, f25, f26, f27, n3, n4, t0, tb, tn, e1, hn, encL_get? _ hn, nodeC_eq (s.nodes.el n), hlt, mid]
      refine ⟨_, by omega, j + 1, by omega, rfl, by omega, w64 (by omega) (by omega), ?_⟩
      exact ⟨t1, to, w1, fin1, w3, fun id hid hl => by
        have v : ¬ id = g2 := by omega
        simp -dsimp -implicitDefEqProofs [upd, v, hkp id hid hl]⟩
  · obtain rfl : j = s.pods.n := by omega
    simp -dsimp -implicitDefEqProofs [go_sem, f2, f4, f5, f7, f25, f26, f27, t0, t1, tb, tn, to, w1, w2, w3]
    have n3 : ¬ g1 = o ∧ ¬ g2 = o ∧ ¬ g3 = o := by omega
    exact hk _ _ g1 g2 g3 (by omega) (by omega) (by omega) (by omega) (by omega) (by omega) (by omega) (fun id hid hl => by
      have v : ¬ id = o := by omega
      simp -dsimp -implicitDefEqProofs [upd, v, hkp id hid hl]) (by simp -dsimp -implicitDefEqProofs [upd, n3, w1]) (by
        simp -dsimp -implicitDefEqProofs [upd, n3, w2]
        exact encL_same fun k hk => congrArg podC (by unfold onStep; rw [if_pos hk])) (by simp -dsimp -implicitDefEqProofs [upd, n3, w3])
end
end Go.Proofs.YthpmgnbehahkfaaGreat
end
section
namespace Go.Proofs.YthpmgnbehahkfaaGreat
open Go.RowKit Go.Dk Go.Dn

section
variable {mem : Nat → Option M} {A : SA} {d : StD} {nx : Nat} {K : D → (Nat → Option M) → Nat → Prop}
theorem DInv.onOk (h : DInv d) : OnOk d.s d.on := fun p hp => by
  rcases h.ok.on p hp with e | ⟨n, hn, e⟩
  · exact .inl e
  · refine .inr ⟨n, hn, e, ?_⟩
    cases hl : (d.s.nodes.el n).lost with
    | false => rfl
    | true => exact absurd e (h.lost n hn hl p hp)
/-- what Snap tells -/
def nowS (d : StD) : SnapD := onS d.s d.on
theorem with_St (h : StoreM mem A d) (hd : DInv d) (hA : A.Ok nx) (ok : SnapOk d.s)
    (hk : ∀ m' n' g1 g2 g3, nx ≤ g1 → g1 < g2 → g2 < g3 → g3 < n' → Kept [] nx mem m' → m' g1 = some (.row 75 0 10 (encL d.s.nodes.n fun k => nodeC (d.s.nodes.el k))) → m' g2 = some (.row 81 0 15 (encL d.s.pods.n fun k => podC (onPod d.s d.on k))) →
      m' g3 = some (.row 100 0 5 (encL d.s.owners.n fun k => ownerC (d.s.owners.el k))) → K (.tup [.agg [.own g1 0, .own g2 0, .own g3 0], .f (I 0)]) m' n') : callS Tryz.prog 89 [.agg [.own A.gn A.vn, .own A.gp A.vp, .own A.gq A.vq], .own A.go A.vo] mem nx K :=
  have l := hA.lts
  with_S d.s ok d.on hd.onOk h.n h.p h.q h.o (by simpa using l.2.1 0) (by simpa using l.2.2.1 0) (by simpa using l.2.2.2.1 0) (by simpa using l.2.2.2.2.1 0) fun m' n' g1 g2 g3 l1 _ _ l4 l5 l6 _ k1 k2 k3 k4 => hk m' n' g1 g2 g3 l1 l4 l5 l6 k1 k2 k3 k4
set_option maxRecDepth 100000 in
set_option maxHeartbeats 4000000 in
theorem snap_S (h : StoreM mem A d) (hd : DInv d) (hA : A.Ok nx) (ok : SnapOk d.s)
    (hk : ∀ m' n' g1 g2 g3, nx ≤ g1 → g1 < g2 → g2 < g3 → g3 < n' → Kept [] nx mem m' → m' g1 = some (.row 75 0 10 (encL d.s.nodes.n fun k => nodeC (d.s.nodes.el k))) → m' g2 = some (.row 81 0 15 (encL d.s.pods.n fun k => podC (onPod d.s d.on k))) →
      m' g3 = some (.row 100 0 5 (encL d.s.owners.n fun k => ownerC (d.s.owners.el k))) → K (.agg [.own g1 0, .own g2 0, .own g3 0]) m' n') : callS Tryz.prog 39 [.loc A.t 0] mem nx K := by
  have hL := hA.lts
  refine callS.of_runG (lit := true) (B := fun n => if n = 1 then [1] else []) Tryz.func39 rfl rfl rfl rfl (Nat.le_of_ble_eq_true rfl) (runG_of_runGL ?_)
  have hS0 : ∀ x, StoreM (upd mem nx x) A d := fun x => h.other fun i hi => by
    have := hA.lt i hi
    have e : ¬ i = nx := by omega
    simp -dsimp -implicitDefEqProofs [upd, e]
  refine runGL_on ?_
  simp -dsimp -implicitDefEqProofs [go_sem]
  refine runGL_on ?_
  simp -dsimp -implicitDefEqProofs [go_sem]
  refine none_S (hS0 _) fun n1 hn1 => ?_
  simp -dsimp -implicitDefEqProofs [go_sem]
  generalize hm1 : upd mem nx _ = m1
  have hS1 : StoreM m1 A d := by rw [← hm1]; exact hS0 _
  have b0 : m1 nx = some (.blk [.f (.v (.slice none 0 0)), .f (.v (.slice none 0 0)), .f (.v (.slice none 0 0))]) := by rw [← hm1]; simp -dsimp -implicitDefEqProofs [upd]
  have bk : Kept [] nx mem m1 := fun id hid _ => by
    have e : ¬ id = nx := by omega
    rw [← hm1]
    simp -dsimp -implicitDefEqProofs [upd, e]
  clear hm1
  refine runGL_gcut (fun st => st.n = 21 ∧ st.lit = true ∧ st.fr 2 = .loc nx 0 ∧ ∃ bx g1 g2 g3, st.fr 3 = .loc bx 0 ∧ nx ≤ g1 ∧ g1 < g2 ∧ g2 < g3 ∧ g3 < st.next ∧ ¬ g1 = nx ∧ ¬ bx = nx ∧ st.mem bx = some (.blk [.own g1 0, .own g2 0, .own g3 0]) ∧ Kept [] nx mem st.mem ∧ st.mem nx = some (.blk [.f (.v (.slice none 0 0)), .f (.v (.slice none 0 0)), .f (.v (.slice none 0 0))]) ∧
      st.mem g1 = some (.row 75 0 10 (encL d.s.nodes.n fun k => nodeC (d.s.nodes.el k))) ∧ st.mem g2 = some (.row 81 0 15 (encL d.s.pods.n fun k => podC (onPod d.s d.on k))) ∧ st.mem g3 = some (.row 100 0 5 (encL d.s.owners.n fun k => ownerC (d.s.owners.el k)))) ?_ ?_
  · generalize hb : n1 + 2 = b
    have hSx : ∀ i x, n1 ≤ i → StoreM (upd m1 i x) A d := fun i x hi => hS1.other fun j hj => by
      have := hA.lt j hj
      have e : ¬ j = i := by omega
      simp -dsimp -implicitDefEqProofs [upd, e]
    have q0 : A.t < b ∧ nx < b := by have := hL.1 0; omega
    refine runGL_float 8 12 _ [[], [0], [1, 0], [2, 1, 0], [], [4], [5, 4], [6, 5, 4]] [[], [0], [1, 0], [2, 1, 0], [], [4], [5, 4], [6, 5, 4], []] (.two 8 (.two 9 (.three 10 (.two 11 (.one 12 (.one 13 (.one 14 .done))) 12 (.two 11 (.one 13 (.one 14 .done)) 13 (.one 11 (.one 14 .done)))) 11 (.two 10 (.one 12 (.one 13 (.one 14 .done))) 12 (.one 10 (.one 13 (.one 14 .done)))) 12 (.two 10 (.two 11 (.one 13 (.one 14 .done)) 13 (.one 11 (.one 14 .done))) 11 (.one 10 (.one 13 (.one 14 .done))))) 12 (.one 9 (.two 10 (.two 11 (.one 13 (.one 14 .done)) 13 (.one 11 (.one 14 .done))) 11 (.one 10 (.one 13 (.one 14 .done)))))) 12 (.one 8 (.one 9 (.two 10 (.two 11 (.one 13 (.one 14 .done)) 13 (.one 11 (.one 14 .done))) 11 (.one 10 (.one 13 (.one 14 .done))))))) (.one 8 (.one 9 (.two 10 (.two 11 (.one 13 (.one 14 .done)) 13 (.one 11 (.one 14 .done))) 11 (.one 10 (.one 13 (.one 14 .done)))))) [8] (by kernel_rfl) rfl ⟨by decide, by kernel_rfl, by kernel_rfl, by kernel_rfl, rfl, by kernel_rfl, by kernel_rfl, by kernel_rfl, by kernel_rfl⟩ ?_ ?_
    · simp -dsimp -implicitDefEqProofs [go_sem, Tv, Cw, silentAt, silentOp, q0, hS1.t]
      refine tailTL_two ?_ ?_
      · simp -dsimp -implicitDefEqProofs [go_sem]
        refine with_St hS1 hd (hA.le (by omega)) ok fun m2 n2 g1 g2 g3 l1 l2 l3 l4 k0 k1 k2 k3 => ?_
        repeat' (first | refine tailTL_three ?_ ?_ ?_ | refine tailTL_two ?_ ?_ | simp -dsimp -implicitDefEqProofs [go_sem])
        all_goals exact ⟨g1, by omega, g2, by omega, g3, by omega, by omega, by omega, by omega, ⟨rfl, rfl, rfl⟩, fun id hid hl => by
          simp only [upd]
          rw [if_neg (by omega), if_neg (by omega)]
          exact (k0 id (by omega) hl).trans (bk id hid hl), by
          simp only [upd]
          rw [if_neg (by omega), if_neg (by omega)]
          exact (k0 nx (by omega) (by simp)).trans (b0), by
          simp only [upd]
          rw [if_neg (by omega), if_neg (by omega)]
          exact k1, by
          simp only [upd]
          rw [if_neg (by omega), if_neg (by omega)]
          exact k2, by
          simp only [upd]
          rw [if_neg (by omega), if_neg (by omega)]
          exact k3⟩
      · simp -dsimp -implicitDefEqProofs [go_sem]
        refine with_St (hSx _ _ (by omega)) hd (hA.le (by omega)) ok fun m2 n2 g1 g2 g3 l1 l2 l3 l4 k0 k1 k2 k3 => ?_
        have hx := k0 (b + 8) (by omega) (by simp)
        simp only [upd, if_true] at hx
        repeat' (first | refine tailTL_three ?_ ?_ ?_ | refine tailTL_two ?_ ?_ | simp -dsimp -implicitDefEqProofs [go_sem, hx])
        all_goals exact ⟨g1, by omega, g2, by omega, g3, by omega, by omega, by omega, by omega, ⟨rfl, rfl, rfl⟩, fun id hid hl => by
          simp only [upd]
          rw [if_neg (by omega)]
          exact (k0 id (by omega) hl).trans (by simp only [upd]; rw [if_neg (by omega)]; exact bk id hid hl), by
          simp only [upd]
          rw [if_neg (by omega)]
          exact (k0 nx (by omega) (by simp)).trans (by simp only [upd]; rw [if_neg (by omega)]; exact b0), by
          simp only [upd]
          rw [if_neg (by omega)]
          exact k1, by
          simp only [upd]
          rw [if_neg (by omega)]
          exact k2, by
          simp only [upd]
          rw [if_neg (by omega)]
          exact k3⟩
    · simp -dsimp -implicitDefEqProofs [go_sem, Tv, Cw, silentAt, silentOp, q0, hS1.t]
      refine exWL_mk (andL_mk ⟨Cw_new, Tv_new (by kernel_rfl)⟩ ?_)
      simp -dsimp -implicitDefEqProofs [go_sem, Tv, Cw, silentAt, silentOp, q0, hS1.t]
      refine with_St (hSx _ _ (by omega)) hd (hA.le (by omega)) ok fun m2 n2 g1 g2 g3 l1 l2 l3 l4 k0 k1 k2 k3 => ?_
      have hx := k0 (b + 8) (by omega) (by simp)
      simp only [upd, if_true] at hx
      repeat' (first | refine tailTL_three ?_ ?_ ?_ | refine tailTL_two ?_ ?_ | simp -dsimp -implicitDefEqProofs [go_sem, hx])
      all_goals exact ⟨g1, by omega, g2, by omega, g3, by omega, by omega, by omega, by omega, ⟨rfl, rfl, rfl⟩, fun id hid hl => by
        simp only [upd]
        rw [if_neg (by omega)]
        exact (k0 id (by omega) hl).trans (by simp only [upd]; rw [if_neg (by omega)]; exact bk id hid hl), by
        simp only [upd]
        rw [if_neg (by omega)]
        exact (k0 nx (by omega) (by simp)).trans (by simp only [upd]; rw [if_neg (by omega)]; exact b0), by
        simp only [upd]
        rw [if_neg (by omega)]
        exact k1, by
        simp only [upd]
        rw [if_neg (by omega)]
        exact k2, by
        simp only [upd]
        rw [if_neg (by omega)]
        exact k3⟩
  rintro ⟨N, fr, mem', nx', lt⟩ ⟨hN, hlt, f2, bx, g1, g2, g3, f3, l1, l2, l3, l4, l5, l6, hbx, hkp, t0, k1, k2, k3⟩
  dsimp only at *
  subst hN hlt
  refine runGL_end ?_
  simp -dsimp -implicitDefEqProofs [go_sem, f2, f3, hbx, t0]
  refine hk _ _ g1 g2 g3 l1 l2 l3 (by omega) (fun id hid hl => ?_) ?_ ?_ ?_
  · simp only [upd]
    rw [if_neg (by omega)]
    exact hkp id hid hl
  · simp only [upd]
    rw [if_neg (by omega)]
    exact k1
  · simp only [upd]
    rw [if_neg (by omega)]
    exact k2
  · simp only [upd]
    rw [if_neg (by omega)]
    exact k3
end
end Go.Proofs.YthpmgnbehahkfaaGreat
end
section
namespace Go.Proofs.YthpmgnbehahkfaaGreat
open Go.RowKit Go.Dk Go.Dn

theorem less_trans : ∀ a b c : List UInt8, Op.bytesLess a b = true → Op.bytesLess b c = true → Op.bytesLess a c = true
  | _, [], _, h, _ => by simp [Op.bytesLess] at h
  | _, _ :: _, [], _, h => by simp [Op.bytesLess] at h
  | [], _ :: _, _ :: _, _, _ => by simp [Op.bytesLess]
  | x :: a, y :: b, z :: c, h, k => by
    simp only [Op.bytesLess, Bool.or_eq_true, Bool.and_eq_true, decide_eq_true_eq, beq_iff_eq] at h k ⊢
    rcases h with h | ⟨rfl, h⟩
    · rcases k with k | ⟨rfl, k⟩
      · exact .inl (UInt8.lt_trans h k)
      · exact .inl h
    · rcases k with k | ⟨rfl, k⟩
      · exact .inl k
      · exact .inr ⟨rfl, less_trans a b c h k⟩
theorem rise_less {f : Nat → ByteArray} {n : Nat} (h : riseB f n = true) {i : Nat} : ∀ j, i < j → j < n → Op.bytesLess (f i).toList (f j).toList = true
  | 0, hij, _ => by omega
  | j + 1, hij, hj => by
    unfold riseB at h
    have h := of_decide_eq_true h
    have h1 := (h (j + 1) hj).2 (by omega)
    rw [Nat.add_sub_cancel] at h1
    by_cases e : i = j
    · rw [e]; exact h1
    · exact less_trans _ _ _ (rise_less (by unfold riseB; exact decide_eq_true h) j (by omega) (by omega)) h1
theorem nameIdx_at {f : Nat → ByteArray} {n k : Nat} (h : riseB f n = true) (hk : k < n) : nameIdx f n (f k) = k := by
  unfold nameIdx
  refine idxB_hit hk (by simp) fun j hj => ?_
  have := rise_less h k hj hk
  cases e : ((f j).toList == (f k).toList) with
  | false => rfl
  | true =>
    have e2 : (f j).toList = (f k).toList := by simpa using e
    rw [e2, less_irr] at this
    cases this
/-- all but its marks is the same -/
def LikeN (x y : NodeD) : Prop := x.name = y.name ∧ x.cap = y.cap ∧ x.labels = y.labels ∧ x.taints = y.taints
def LikeS (s t : SnapD) : Prop := t.nodes.n = s.nodes.n ∧ t.pods = s.pods ∧ t.owners = s.owners ∧ ∀ m, LikeN (t.nodes.el m) (s.nodes.el m)
theorem LikeS.refl (s : SnapD) : LikeS s s := ⟨rfl, rfl, rfl, fun _ => ⟨rfl, rfl, rfl, rfl⟩⟩
theorem LikeS.trans {a b c : SnapD} (h : LikeS a b) (k : LikeS b c) : LikeS a c :=
  ⟨k.1.trans h.1, k.2.1.trans h.2.1, k.2.2.1.trans h.2.2.1, fun m => ⟨(k.2.2.2 m).1.trans (h.2.2.2 m).1, (k.2.2.2 m).2.1.trans (h.2.2.2 m).2.1, (k.2.2.2 m).2.2.1.trans (h.2.2.2 m).2.2.1, (k.2.2.2 m).2.2.2.trans (h.2.2.2 m).2.2.2⟩⟩
theorem likeS_set (s : SnapD) (k : Nat) (x : NodeD) (h : LikeN x (s.nodes.el k)) : LikeS s { s with nodes := setN s.nodes k x } := by
  refine ⟨rfl, rfl, rfl, fun m => ?_⟩
  show LikeN (if m = k then x else s.nodes.el m) _
  split
  · rename_i e; subst e; exact h
  · exact ⟨rfl, rfl, rfl, rfl⟩
theorem evictD_s (d : StD) (k : Int) : (evictD d k).s = d.s := by unfold evictD; split <;> rfl
theorem bindD_s (d : StD) (k n : Int) : (bindD d k n).s = d.s := by unfold bindD; split <;> rfl
theorem goneD_s (d : StD) (k : Int) : (goneD d k).s = d.s := by
  unfold goneD
  split
  · rw [(outD_s _ _).1]
  · rfl
theorem doesD_like (d : StD) (x : DoD) : LikeS d.s (doesD d x).s := by
  unfold doesD
  split
  · rw [evictD_s]; exact LikeS.refl _
  split
  · rw [bindD_s]; exact LikeS.refl _
  split
  · unfold cordonD
    split
    · exact likeS_set _ _ _ ⟨rfl, rfl, rfl, rfl⟩
    · exact LikeS.refl _
  split
  · unfold loseD
    split
    · rw [(loseN_s _ _ _).1]
      exact likeS_set _ _ _ ⟨rfl, rfl, rfl, rfl⟩
    · exact LikeS.refl _
  · rw [goneD_s]; exact LikeS.refl _
theorem like_ok {s t : SnapD} (h : LikeS s t) (ok : SnapOk s) : SnapOk t := by
  obtain ⟨h1, h2, h3, h4⟩ := h
  refine ⟨by rw [h1]; exact ok.n1, fun k hk => ?_, by rw [h2]; exact ok.p1, by rw [h2]; exact ok.p2, by rw [h3]; exact ok.o1, by rw [h3]; exact ok.o2⟩
  obtain ⟨e1, e2, e3, e4⟩ := h4 k
  obtain ⟨k1, k2, k3⟩ := ok.n2 k (by omega)
  exact ⟨by rw [e1]; exact k1, by rw [e3]; exact k2, by rw [e4]; exact k3⟩
theorem onS_ok {s : SnapD} {on : Nat → Int} (hon : OnOk s on) (ok : SnapOk s) : SnapOk (onS s on) := by
  refine ⟨ok.n1, ok.n2, ok.p1, fun k hk => ?_, ok.o1, ok.o2⟩
  obtain ⟨⟨a1, a2, a3, a4, a5⟩, b1, b2, b3, b4, b5⟩ := ok.p2 k hk
  refine ⟨⟨a1, a2, ?_, a4, a5⟩, b1, b2, b3, b4, b5⟩
  show Sm (nameOn s on k)
  unfold nameOn
  split
  · unfold Sm; decide
  · rename_i hne
    rcases hon k hk with e | ⟨n, hn, e, -⟩
    · exact absurd e hne
    · rw [e, Int.toNat_natCast]
      exact (ok.n2 n hn).1
theorem allE_congr {f g : Nat → Nat → Int} : ∀ n, (∀ k, f k = g k) → plusE f n = plusE g n := fun n h => by
  have : f = g := funext h
  rw [this]
/-- a cluster with its pods where they are may be -/
theorem now_check {s t : SnapD} (h : LikeS s t) (hc : checkE s = 0) {on : Nat → Int} (hon : OnOk t on) : checkE (onS t on) = 0 := by
  obtain ⟨h1, h2, h3, h4⟩ := h
  unfold checkE at hc
  split at hc
  case isFalse => cases hc
  rename_i hs
  split at hc
  case isFalse => cases hc
  rename_i hcr
  have hnm : ∀ k, (t.nodes.el k).name = (s.nodes.el k).name := fun k => (h4 k).1
  simp only [shapedB, Bool.and_eq_true] at hs
  obtain ⟨⟨⟨⟨⟨⟨m0, m1⟩, m2⟩, m3⟩, m4⟩, m5⟩, m6⟩ := hs
  have hrN : riseN (onS t on) = true := by
    have : riseN (onS t on) = riseN s := by
      unfold riseN
      show riseB (fun k => (t.nodes.el k).name) t.nodes.n = _
      rw [h1, show (fun k => (t.nodes.el k).name) = fun k => (s.nodes.el k).name from funext hnm]
    rw [this]; exact m1
  have hsh : shapedB (onS t on) = true := by
    simp only [shapedB, Bool.and_eq_true]
    refine ⟨⟨⟨⟨⟨⟨?_, hrN⟩, ?_⟩, ?_⟩, ?_⟩, ?_⟩, ?_⟩
    · have : manyB (onS t on) = manyB s := by
        unfold manyB
        show (decide (8 < t.nodes.n) || decide (24 < t.pods.n) || decide (8 < t.owners.n)) = _
        rw [h1, h2, h3]
      rw [this]; exact m0
    · have : riseP (onS t on) = riseP s := by
        unfold riseP
        show riseB (fun k => (t.pods.el k).name) t.pods.n = _
        rw [h2]
      rw [this]; exact m2
    · have : riseO (onS t on) = riseO s := by
        unfold riseO
        show riseB (fun k => (t.owners.el k).name) t.owners.n = _
        rw [h3]
      rw [this]; exact m3
    · have : allN (onS t on) = allN s := by
        unfold allN
        show allB (fun k => nodeB (t.nodes.el k)) t.nodes.n = _
        rw [h1, show (fun k => nodeB (t.nodes.el k)) = fun k => nodeB (s.nodes.el k) from funext fun k => by
          unfold nodeB
          rw [(h4 k).2.1, (h4 k).2.2.1, (h4 k).2.2.2]]
      rw [this]; exact m4
    · have : allO (onS t on) = allO s := by
        unfold allO
        show allB (fun k => ownerB (t.owners.el k)) t.owners.n = _
        rw [h3]
      rw [this]; exact m5
    · refine allB_iff.2 fun k hk => ?_
      have hk' : k < t.pods.n := hk
      have hp := allB_iff.1 m6 k (by rw [← h2]; exact hk')
      simp only [podB, Bool.and_eq_true] at hp ⊢
      obtain ⟨⟨p1, p2⟩, p3⟩ := hp
      refine ⟨⟨?_, ?_⟩, ?_⟩
      · have : ownOk (onS t on) ((onS t on).pods.el k) = ownOk s (s.pods.el k) := by
          unfold ownOk ownerIdx
          show ((t.pods.el k).owner.toList.isEmpty || decide (0 ≤ nameIdx (fun k => (t.owners.el k).name) t.owners.n (t.pods.el k).owner)) = _
          rw [h2, h3]
        rw [this]; exact p1
      · show onOk (onS t on) (onPod t on k) = true
        unfold onOk
        show ((nameOn t on k).toList.isEmpty || (decide (0 ≤ nodeIdx (onS t on) (nameOn t on k)) && !(t.nodes.el (nodeIdx (onS t on) (nameOn t on k)).toNat).lost)) = true
        unfold nameOn
        split
        · rw [show ByteArray.empty.toList.isEmpty = true by decide +kernel]
          rfl
        · rename_i hne
          rcases hon k hk' with e | ⟨n, hn, e, hl⟩
          · exact absurd e hne
          · rw [e, Int.toNat_natCast]
            have : nodeIdx (onS t on) (t.nodes.el n).name = n := nameIdx_at (f := fun k => (t.nodes.el k).name) hrN hn
            rw [this, Int.toNat_natCast, hl]
            simp
      · have : restB ((onS t on).pods.el k) = restB (s.pods.el k) := by
          rw [← h2]
          rfl
        rw [this]; exact p3
  unfold checkE
  rw [if_pos hsh, if_pos ?_]
  have e1 : capsE (onS t on) = capsE s := by
    unfold capsE
    show plusE (fun k => (t.nodes.el k).cap) t.nodes.n = _
    rw [h1]
    exact allE_congr _ fun k => (h4 k).2.1
  have e2 : reqsE (onS t on) = reqsE s := by
    unfold reqsE
    show plusE (fun k => (t.pods.el k).req) t.pods.n = _
    rw [h2]
  rw [e1, e2]
  exact hcr
theorem now_place {s t : SnapD} (h : LikeS s t) (hc : checkE s = 0) {on : Nat → Int} (hon : OnOk t on) : placeE (onS t on) ⟨t.pods.n, on⟩ = 0 := by
  have hodd : anyB (fun k => oddP (onS t on) (on k)) t.pods.n = false := ?_
  · unfold placeE
    rw [if_pos (now_check h hc hon)]
    exact if_pos ⟨rfl, hodd⟩
  refine anyB_false fun k hk => ?_
  rcases oddWay (onS t on) (on k) with ⟨h1, hb⟩ | ⟨h1, h2, hb⟩ | ⟨h1, h2, h3, hb⟩ | ⟨n, hn, e, l, hl, hb⟩
  · rcases hon k hk with e | ⟨m, hm, e, -⟩ <;> omega
  · have h2 : (t.nodes.n : Int) ≤ on k := h2
    rcases hon k hk with e | ⟨m, hm, e, -⟩ <;> omega
  · exact hb
  · rcases hon k hk with e2 | ⟨m, hm, e2, hl2⟩
    · omega
    · have : m = n := by omega
      subst this
      have hl : (t.nodes.el m).lost = l := hl
      show oddP (onS t on) (on k) = false
      rw [hb, ← hl, hl2]
end Go.Proofs.YthpmgnbehahkfaaGreat
end
