/- cutSnap; PlaceDomains over data. -/
import Derived.Test.YthpmgnbehahkfaaGreatJQv
set_option linter.unusedSimpArgs false
set_option linter.unusedVariables false
namespace Go.Proofs.YthpmgnbehahkfaaGreat
open Go.RowKit Go.Dk Go.Dn

theorem encL_tk (n m : Nat) (f : Nat → List FD) (h : m ≤ n) : (encL n f).take m = encL m f := by
  unfold encL
  rw [← List.map_take, List.take_range, Nat.min_eq_left h]
def cutD (s : SnapD) : SnapD := ⟨⟨min s.nodes.n 12, s.nodes.el⟩, ⟨min s.pods.n 30, s.pods.el⟩, ⟨min s.owners.n 12, s.owners.el⟩⟩
theorem cutD_ok {s : SnapD} (ok : SnapOk s) : SnapOk (cutD s) :=
  ⟨by show min s.nodes.n 12 ≤ 1048576; omega, fun k hk => ok.n2 k (by have : k < min s.nodes.n 12 := hk; omega), by show min s.pods.n 30 ≤ 1048576; omega, fun k hk => ok.p2 k (by have : k < min s.pods.n 30 := hk; omega), by show min s.owners.n 12 ≤ 1048576; omega, fun k hk => ok.o2 k (by have : k < min s.owners.n 12 := hk; omega)⟩
theorem min_int (n c : Nat) : (if (c : Int) < (n : Int) then (c : Int) else (n : Int)) = ((min n c : Nat) : Int) := by split <;> omega
set_option maxRecDepth 100000 in
theorem cutSnap_pure (s : SnapD) : Pure Tryz.prog 43 [snapF s] (snapF (cutD s)) := by
  refine Pure.of_run' (lit := true) Tryz.func43 rfl rfl rfl rfl (Nat.le_of_ble_eq_true rfl) (run_of_runL ?_)
  unfold St.enter
  have h1 : (if (12 : Int) < (s.nodes.n : Int) then (12 : Int) else (s.nodes.n : Int)) = ((min s.nodes.n 12 : Nat) : Int) := min_int _ 12
  have h2 : (if (30 : Int) < (s.pods.n : Int) then (30 : Int) else (s.pods.n : Int)) = ((min s.pods.n 30 : Nat) : Int) := min_int _ 30
  have h3 : (if (12 : Int) < (s.owners.n : Int) then (12 : Int) else (s.owners.n : Int)) = ((min s.owners.n 12 : Nat) : Int) := min_int _ 12
  have g1 : min s.nodes.n 12 ≤ s.nodes.n := Nat.min_le_left _ _
  have g2 : min s.pods.n 30 ≤ s.pods.n := Nat.min_le_left _ _
  have g3 : min s.owners.n 12 ≤ s.owners.n := Nat.min_le_left _ _
  have e : snapF (cutD s) = .agg [.sl 10 (encL (min s.nodes.n 12) fun k => nodeC (s.nodes.el k)), .sl 15 (encL (min s.pods.n 30) fun k => podC (s.pods.el k)), .sl 5 (encL (min s.owners.n 12) fun k => ownerC (s.owners.el k))] := rfl
  rw [e]
  generalize min s.nodes.n 12 = a at *
  generalize min s.pods.n 30 = b at *
  generalize min s.owners.n 12 = c at *
  simp -dsimp -implicitDefEqProofs [go_sem, snapF, snapC]
  refine runL_draw [[], [0], [], [2], [3, 2], [4, 3, 2], [1, 0, 5, 4, 3, 2], [], [7], [], [9], [10, 9], [11, 10, 9], [8, 7, 12, 11, 10, 9], [], [14], [], [16], [17, 16], [18, 17, 16], [15, 14, 19, 18, 17, 16], [6, 1, 0, 5, 4, 3, 2, 13, 8, 7, 12, 11, 10, 9, 20, 15, 14, 19, 18, 17, 16], [21, 6, 1, 0, 5, 4, 3, 2, 13, 8, 7, 12, 11, 10, 9, 20, 15, 14, 19, 18, 17, 16]] (by kernel_rfl) (by kernel_rfl) ?_
  simp -dsimp -implicitDefEqProofs [go_sem, Tv, Cw, silentAt, silentOp, nodesF, podsF, ownersF, h1, h2, h3, g1, g2, g3, encL_tk _ _ _ g1, encL_tk _ _ _ g2, encL_tk _ _ _ g3]
  refine exWL_mk (andL_mk ⟨by kernel_rfl, by kernel_rfl⟩ ?_)
  simp -dsimp -implicitDefEqProofs [go_sem, Tv, Cw, silentAt, silentOp, nodesF, podsF, ownersF, h1, h2, h3, g1, g2, g3, encL_tk _ _ _ g1, encL_tk _ _ _ g2, encL_tk _ _ _ g3]
  exact FLe.refl _
theorem domF_tup (s : SnapD) (k : Int) (key : ByteArray) : ∃ a b, domF s k key = .tup [S a, B b] := by
  unfold domF
  split
  · exact ⟨_, _, rfl⟩
  · exact ⟨_, _, rfl⟩
theorem domsF_strs (s : SnapD) (key : ByteArray) : ∃ l : List ByteArray, domsF s key = strsF l ∧ l.length ≤ s.nodes.n := by
  unfold domsF
  split
  · exact ⟨_, rfl, domL_len _ _ _⟩
  · exact ⟨_, rfl, Nat.zero_le _⟩
def rackB : ByteArray := ⟨#[114, 97, 99, 107]⟩
def keysP (key : ByteArray) : List ByteArray := [key, ByteArray.empty, zoneB, rackB]
theorem keysP_len (key : ByteArray) : (keysP key).length = 4 := rfl
set_option maxRecDepth 100000 in
set_option maxHeartbeats 4000000 in
theorem placeDomains_pure (s : SnapD) (ok : SnapOk s) (k : Int) (key : ByteArray) : Pure Tryz.prog 6 [snapF s, I k, S key] (B true) := by
  have okc := cutD_ok ok
  refine Pure.of_run (lit := false) Tryz.func6 rfl rfl rfl rfl (Nat.le_of_ble_eq_true rfl) (run_of_runL ?_)
  unfold St.enter
  simp -dsimp -implicitDefEqProofs [go_sem, snapF, snapC]
  refine callW_f (fs := [snapF s]) (cutSnap_pure s) ?_
  simp -dsimp -implicitDefEqProofs [go_sem, snapF, snapC]
  generalize cutD s = c at okc ⊢
  refine runL_loop [] 9 (by simp -dsimp -implicitDefEqProofs [go_sem]) (fun m st => ∃ j : Nat, st.n = 68 ∧ st.lit = false ∧ j ≤ 4 ∧ m = 4 - j ∧ st.fr 1 = .f (I k) ∧ st.fr 3 = .loc 0 0 ∧ st.fr 7 = .own 6 0 ∧ st.fr 8 = .f (I j) ∧
    st.mem 0 = some (.blk [.f (nodesF c.nodes), .f (podsF c.pods), .f (ownersF c.owners)]) ∧ st.mem 6 = some (.row 9 0 1 (strsR (keysP key)))) 4 ⟨0, ?_⟩ ?_
  · simp -dsimp -implicitDefEqProofs [go_sem]
    rfl
  rintro m ⟨N, fr, mem, nx, lt⟩ hnx ⟨j, hN, hlt, hj, rfl, f1, f3, f7, f8, m0, m6⟩
  dsimp only at *
  subst hN hnx hlt
  rcases Nat.lt_or_ge j 4 with hlt | hge
  · have hjk : j < (keysP key).length := hlt
    have hlt2 : (j : Int) < 4 := by omega
    obtain ⟨a, b, hd⟩ := domF_tup c k (keysP key)[j]
    obtain ⟨l, hl, hln⟩ := domsF_strs c (keysP key)[j]
    have hn := okc.n1
    simp -dsimp -implicitDefEqProofs [go_sem, f1, f3, f7, f8, m0, m6, strsR_len, keysP_len, hlt2, hlt]
    refine runL_draw [[], [], [], [], [2, 3], [4, 2, 3], [0, 1, 5, 4, 2, 3], [6, 0, 1, 5, 4, 2, 3], [7, 6, 0, 1, 5, 4, 2, 3], [7, 6, 0, 1, 5, 4, 2, 3], [8, 7, 6, 0, 1, 5, 4, 2, 3], [9, 7, 6, 0, 1, 5, 4, 2, 3, 10, 8]] (by kernel_rfl) (by kernel_rfl) ?_
    simp -dsimp -implicitDefEqProofs [go_sem, Tv, Cw, silentAt, silentOp, f1, f3, f7, f8, m0, m6, strsR_len, keysP_len, hlt2, hlt, strsR_get hjk, strsR_at]
    refine callW_f (fs := [snapF c, I k, S (keysP key)[j]]) (domain_pure c okc k _) ?_
    rw [hd]
    simp -dsimp -implicitDefEqProofs [go_sem, Tv, Cw, silentAt, silentOp, f1, f3, f7, f8, m0, m6, strsR_len, keysP_len, hlt2, hlt, strsR_get hjk, strsR_at]
    refine runL_draw [[], [], [], [], [2, 3], [4, 2, 3], [0, 1, 5, 4, 2, 3], [6, 0, 1, 5, 4, 2, 3], [7, 6, 0, 1, 5, 4, 2, 3], [7, 6, 0, 1, 5, 4, 2, 3], [8, 7, 6, 0, 1, 5, 4, 2, 3], [9, 7, 6, 0, 1, 5, 4, 2, 3, 10, 8]] (by kernel_rfl) (by kernel_rfl) ?_
    simp -dsimp -implicitDefEqProofs [go_sem, Tv, Cw, silentAt, silentOp, f1, f3, f7, f8, m0, m6, strsR_len, keysP_len, hlt2, hlt, strsR_get hjk, strsR_at]
    refine callW_f (fs := [snapF c, I k, S (keysP key)[j]]) (refDomain_pure c okc k _) ?_
    rw [hd]
    simp -dsimp -implicitDefEqProofs [go_sem, Tv, Cw, silentAt, silentOp, f1, f3, f7, f8, m0, m6, strsR_len, keysP_len, hlt2, hlt, strsR_get hjk, strsR_at]
    refine runL_draw [[], [], [0, 1], [2, 0, 1], [3, 2, 0, 1], [3, 2, 0, 1], [4, 3, 2, 0, 1, 5], [3, 2, 0, 1, 6, 4, 5], [7, 3, 2, 0, 1, 6, 4, 5], [8, 7, 3, 2, 0, 1, 6, 4, 5], [8, 7, 3, 2, 0, 1, 6, 4, 5], [8, 7, 3, 2, 0, 1, 6, 4, 5], [10, 8, 7, 3, 2, 0, 1, 6, 4, 5, 11], [12, 10, 8, 7, 3, 2, 0, 1, 6, 4, 5, 11], [9, 8, 7, 3, 2, 0, 1, 6, 4, 5, 13, 12, 10, 11], [8, 7, 3, 2, 0, 1, 6, 4, 5], [8, 7, 3, 2, 0, 1, 6, 4, 5], [8, 7, 3, 2, 0, 1, 6, 4, 5], [16, 8, 7, 3, 2, 0, 1, 6, 4, 5, 17], [18, 16, 8, 7, 3, 2, 0, 1, 6, 4, 5, 17], [15, 8, 7, 3, 2, 0, 1, 6, 4, 5, 19, 18, 16, 17, 14, 9, 13, 12, 10, 11], [14, 9, 8, 7, 3, 2, 0, 1, 6, 4, 5, 13, 12, 10, 11, 20, 15, 19, 18, 16, 17], [21, 14, 9, 8, 7, 3, 2, 0, 1, 6, 4, 5, 13, 12, 10, 11, 20, 15, 19, 18, 16, 17], [8, 7, 3, 2, 0, 1, 6, 4, 5, 22, 21, 14, 9, 13, 12, 10, 11, 20, 15, 19, 18, 16, 17]] (by kernel_rfl) (by kernel_rfl) ?_
    simp -dsimp -implicitDefEqProofs [go_sem, Tv, Cw, silentAt, silentOp, f1, f3, f7, f8, m0, m6, strsR_len, keysP_len, hlt2, hlt, strsR_get hjk, strsR_at]
    refine callW_f (fs := [snapF c, S (keysP key)[j]]) (domains_pure c okc _) ?_
    rw [hl]
    simp -dsimp -implicitDefEqProofs [go_sem, Tv, Cw, silentAt, silentOp, f1, f3, f7, f8, m0, m6, strsR_len, keysP_len, hlt2, hlt, strsR_get hjk, strsR_at]
    refine callW_f (fs := [snapF c, S (keysP key)[j]]) (ref07Domains_pure c okc _) ?_
    rw [hl]
    simp -dsimp -implicitDefEqProofs [go_sem, Tv, Cw, silentAt, silentOp, f1, f3, f7, f8, m0, m6, strsR_len, keysP_len, hlt2, hlt, strsR_get hjk, strsR_at]
    refine callW_f (fs := [strsF l, strsF l]) (eqTexts_pure l (by omega)) ?_
    simp -dsimp -implicitDefEqProofs [go_sem, Tv, Cw, silentAt, silentOp, f1, f3, f7, f8, m0, m6, strsR_len, keysP_len, hlt2, hlt, strsR_get hjk, strsR_at]
    exact ⟨_, by omega, j + 1, by omega, rfl, w64 (by omega) (by omega)⟩
  · obtain rfl : j = 4 := by omega
    simp -dsimp -implicitDefEqProofs [go_sem, f1, f3, f7, f8, m0, m6, strsR_len, keysP_len]
    refine callW_f (fs := []) placeWorks_pure ?_
    simp -dsimp -implicitDefEqProofs [go_sem]
end Go.Proofs.YthpmgnbehahkfaaGreat
