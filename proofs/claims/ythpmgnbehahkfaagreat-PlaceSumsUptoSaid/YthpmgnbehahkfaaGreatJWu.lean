/- PlaceSums over data. -/
import Derived.Test.YthpmgnbehahkfaaGreatJWt
set_option linter.unusedSimpArgs false
set_option linter.unusedVariables false
namespace Go.Proofs.YthpmgnbehahkfaaGreat
open Go.RowKit Go.Dk Go.Dn

set_option maxRecDepth 100000 in
set_option maxHeartbeats 2000000 in
theorem total_pure (a b : Nat → Int) (ha : ∀ i, i < 5 → 0 ≤ a i ∧ a i ≤ 1152921504606846976) (hb : ∀ i, i < 5 → 0 ≤ b i ∧ b i ≤ 1152921504606846976) : Pure Tryz.prog 59 [fiveF a, fiveF b] (fiveF fun i => a i + b i) := by
  have w : ∀ i, i < 5 → IntKind.i64.wrap (a i + b i) = a i + b i := fun i hi => by
    have := ha i hi
    have := hb i hi
    exact w64 (by omega) (by omega)
  have w0 := w 0 (by omega)
  have w1 := w 1 (by omega)
  have w2 := w 2 (by omega)
  have w3 := w 3 (by omega)
  have w4 := w 4 (by omega)
  have r0 : IntKind.i64.wrap 1 = 1 := by decide
  have r1 : IntKind.i64.wrap 2 = 2 := by decide
  have r2 : IntKind.i64.wrap 3 = 3 := by decide
  have r3 : IntKind.i64.wrap 4 = 4 := by decide
  have r4 : IntKind.i64.wrap 5 = 5 := by decide
  clear w ha hb
  refine Pure.of_run' (lit := false) Tryz.func59 rfl rfl rfl rfl (Nat.le_of_ble_eq_true rfl) (run_of_runL ?_)
  unfold St.enter
  simp -dsimp -implicitDefEqProofs [go_sem, fiveF]
  refine runL_unroll 6 (iter_step ?_)
  simp -dsimp -implicitDefEqProofs [go_sem]
  refine runL_draw [[], [], [1], [2, 1], [], [4], [5, 4], [3, 2, 1, 6, 5, 4], [0, 1, 2, 3, 4, 5, 6, 7], [8, 0, 1, 2, 3, 4, 5, 6, 7]] (by kernel_rfl) (by kernel_rfl) ?_
  simp -dsimp -implicitDefEqProofs [go_sem, Tv, Cw, silentAt, silentOp, w0]
  refine exWL_mk (andL_mk ⟨by kernel_rfl, by kernel_rfl⟩ ?_)
  simp -dsimp -implicitDefEqProofs [go_sem, r0, r1, r2, r3, r4]
  refine iter_step ?_
  simp -dsimp -implicitDefEqProofs [go_sem, r0, r1, r2, r3, r4]
  refine runL_draw [[], [], [1], [2, 1], [], [4], [5, 4], [3, 2, 1, 6, 5, 4], [0, 1, 2, 3, 4, 5, 6, 7], [8, 0, 1, 2, 3, 4, 5, 6, 7]] (by kernel_rfl) (by kernel_rfl) ?_
  simp -dsimp -implicitDefEqProofs [go_sem, Tv, Cw, silentAt, silentOp, w1, r0, r1, r2, r3, r4]
  refine exWL_mk (andL_mk ⟨by kernel_rfl, by kernel_rfl⟩ ?_)
  simp -dsimp -implicitDefEqProofs [go_sem, r0, r1, r2, r3, r4]
  refine iter_step ?_
  simp -dsimp -implicitDefEqProofs [go_sem, r0, r1, r2, r3, r4]
  refine runL_draw [[], [], [1], [2, 1], [], [4], [5, 4], [3, 2, 1, 6, 5, 4], [0, 1, 2, 3, 4, 5, 6, 7], [8, 0, 1, 2, 3, 4, 5, 6, 7]] (by kernel_rfl) (by kernel_rfl) ?_
  simp -dsimp -implicitDefEqProofs [go_sem, Tv, Cw, silentAt, silentOp, w2, r0, r1, r2, r3, r4]
  refine exWL_mk (andL_mk ⟨by kernel_rfl, by kernel_rfl⟩ ?_)
  simp -dsimp -implicitDefEqProofs [go_sem, r0, r1, r2, r3, r4]
  refine iter_step ?_
  simp -dsimp -implicitDefEqProofs [go_sem, r0, r1, r2, r3, r4]
  refine runL_draw [[], [], [1], [2, 1], [], [4], [5, 4], [3, 2, 1, 6, 5, 4], [0, 1, 2, 3, 4, 5, 6, 7], [8, 0, 1, 2, 3, 4, 5, 6, 7]] (by kernel_rfl) (by kernel_rfl) ?_
  simp -dsimp -implicitDefEqProofs [go_sem, Tv, Cw, silentAt, silentOp, w3, r0, r1, r2, r3, r4]
  refine exWL_mk (andL_mk ⟨by kernel_rfl, by kernel_rfl⟩ ?_)
  simp -dsimp -implicitDefEqProofs [go_sem, r0, r1, r2, r3, r4]
  refine iter_step ?_
  simp -dsimp -implicitDefEqProofs [go_sem, r0, r1, r2, r3, r4]
  refine runL_draw [[], [], [1], [2, 1], [], [4], [5, 4], [3, 2, 1, 6, 5, 4], [0, 1, 2, 3, 4, 5, 6, 7], [8, 0, 1, 2, 3, 4, 5, 6, 7]] (by kernel_rfl) (by kernel_rfl) ?_
  simp -dsimp -implicitDefEqProofs [go_sem, Tv, Cw, silentAt, silentOp, w4, r0, r1, r2, r3, r4]
  refine exWL_mk (andL_mk ⟨by kernel_rfl, by kernel_rfl⟩ ?_)
  simp -dsimp -implicitDefEqProofs [go_sem, r0, r1, r2, r3, r4]
  refine iter_step ?_
  simp -dsimp -implicitDefEqProofs [go_sem, r0, r1, r2, r3, r4]
  exact FLe.refl _
def fiveM (u : Nat → Int) : M := .blk [.f (I (u 0)), .f (I (u 1)), .f (I (u 2)), .f (I (u 3)), .f (I (u 4))]
set_option maxRecDepth 100000 in
set_option maxHeartbeats 8000000 in
theorem placeSums_pure (s : SnapD) (ok : SnapOk s) (l : Lst Int) (hl : l.n ≤ 1048576) : Pure Tryz.prog 8 [snapF s, intsF l] (B true) := by
  have okc := cutD_ok ok
  refine Pure.of_run' (lit := false) Tryz.func8 rfl rfl rfl rfl (Nat.le_of_ble_eq_true rfl) (run_of_runL ?_)
  unfold St.enter
  simp -dsimp -implicitDefEqProofs [go_sem, snapF, snapC]
  refine callW_f (fs := []) placeWorks_pure ?_
  simp -dsimp -implicitDefEqProofs [go_sem, snapF, snapC]
  refine callW_f (fs := [snapF s]) (cutSnap_pure s) ?_
  simp -dsimp -implicitDefEqProofs [go_sem, snapF, snapC]
  generalize cutD s = c at okc ⊢
  refine callW_f (fs := [snapF c, intsF l]) (fitted_pure c okc l hl) ?_
  simp -dsimp -implicitDefEqProofs [go_sem]
  have hn : c.pods.n ≤ 1048576 := okc.p1
  have hn1 : c.nodes.n ≤ 1048576 := okc.n1
  have ho1 : c.owners.n ≤ 1048576 := okc.o1
  have hpv : ∀ i, i < c.pods.n → Place c ((fitL c l).el i) := fun i _ => fitV_place c l i
  have hp1 : (fitL c l).n = c.pods.n := rfl
  generalize fitL c l = p at *
  obtain ⟨pn, p⟩ := p
  dsimp only at hp1 hpv
  subst hp1
  refine callW_f (fs := [snapF c, intsF ⟨c.pods.n, p⟩]) (placeCheck_pure c okc _ hn) ?_
  by_cases hc : checkE c = 0
  · have hpe : placeE c ⟨c.pods.n, p⟩ = 0 := placeE_ok hc hpv
    rw [hpe]
    simp -dsimp -implicitDefEqProofs [go_sem]
    refine runL_loop [] 18 (by simp -dsimp -implicitDefEqProofs [go_sem]) (fun m st => ∃ j : Nat, st.n = 147 ∧ st.lit = false ∧ j ≤ c.nodes.n ∧ m = c.nodes.n - j ∧ st.fr 2 = .loc 0 0 ∧ st.fr 5 = .f (intsF ⟨c.pods.n, p⟩) ∧ st.fr 6 = .loc 15 0 ∧ st.fr 7 = .loc 16 0 ∧ st.fr 8 = .f (I j) ∧
      st.mem 0 = some (.blk [.f (nodesF c.nodes), .f (podsF c.pods), .f (ownersF c.owners)]) ∧ st.mem 15 = some (fiveM fun i => sumF (fun m => usedV c ⟨c.pods.n, p⟩ (m : Int) i) j) ∧ st.mem 16 = some (fiveM fun _ => 0)) c.nodes.n ⟨0, ?_⟩ ?_
    · simp -dsimp -implicitDefEqProofs [go_sem]
      exact ⟨rfl, rfl⟩
    rintro m ⟨N, fr, mem, nx, lt⟩ hnx ⟨j, hN, hlt, hj, rfl, f2, f5, f6, f7, f8, m0, m15, m16⟩
    dsimp only at *
    subst hN hnx hlt
    rcases Nat.lt_or_ge j c.nodes.n with hlt | hge
    · simp -dsimp -implicitDefEqProofs [go_sem, f2, f5, f6, f7, f8, m0, m15, nodesF, hlt]
      refine runL_draw [[], [], [], [], [1, 2, 3], [0, 4, 1, 2, 3], [5, 0, 4, 1, 2, 3]] (by kernel_rfl) (by kernel_rfl) ?_
      simp -dsimp -implicitDefEqProofs [go_sem, Tv, Cw, silentAt, silentOp, f2, f5, f6, f7, f8, m0, m15, fiveM]
      refine callW_f (fs := [snapF c, intsF ⟨c.pods.n, p⟩, I j]) (placeUsed_pure c okc _ hn _) ?_
      simp -dsimp -implicitDefEqProofs [go_sem, Tv, Cw, silentAt, silentOp, f2, f5, f6, f7, f8, m0, m15, fiveM]
      refine callW_f (fs := [fiveF fun i => sumF (fun m => usedV c ⟨c.pods.n, p⟩ (m : Int) i) j, fiveF (usedV c ⟨c.pods.n, p⟩ j)]) (total_pure _ _ (fun i hi => ?_) (fun i hi => ?_)) ?_
      · have := fit_nodes hc hpv hi j (by omega)
        exact ⟨this.1, by omega⟩
      · have h1 := used_pos hc hpv hi (j : Int)
        have h2 := fit_nodes hc hpv hi (j + 1) (by omega)
        have h3 := fit_nodes hc hpv hi j (by omega)
        simp only [sumF] at h2
        exact ⟨h1, by omega⟩
      simp -dsimp -implicitDefEqProofs [go_sem, Tv, Cw, silentAt, silentOp, f2, f5, f6, f7, f8, m0, m15, fiveM, fiveF]
      refine exWL_mk (andL_mk ⟨by kernel_rfl, by kernel_rfl⟩ ?_)
      simp -dsimp -implicitDefEqProofs [go_sem, f2, f5, f6, f7, f8, m0, m15, m16]
      exact ⟨_, by omega, j + 1, by omega, rfl, w64 (by omega) (by omega), rfl, rfl⟩
    · obtain rfl : j = c.nodes.n := by omega
      rw [show (fun i => sumF (fun m => usedV c ⟨c.pods.n, p⟩ (m : Int) i) c.nodes.n) = fun i => sumF (placedR c p i) c.pods.n from funext fun i => fit_used hc hpv i] at m15
      simp -dsimp -implicitDefEqProofs [go_sem, f2, f5, f6, f7, f8, m0, m15, nodesF]
      refine runL_loop [] 24 (by simp -dsimp -implicitDefEqProofs [go_sem]) (fun m st => ∃ j : Nat, st.n = 147 ∧ st.lit = false ∧ j ≤ c.pods.n ∧ m = c.pods.n - j ∧ st.fr 2 = .loc 0 0 ∧ st.fr 5 = .f (intsF ⟨c.pods.n, p⟩) ∧ st.fr 6 = .loc 15 0 ∧ st.fr 7 = .loc 16 0 ∧ st.fr 9 = .f (I j) ∧
        st.mem 0 = some (.blk [.f (nodesF c.nodes), .f (podsF c.pods), .f (ownersF c.owners)]) ∧ st.mem 15 = some (fiveM fun i => sumF (placedR c p i) c.pods.n) ∧ st.mem 16 = some (fiveM fun i => sumF (placedR c p i) j)) c.pods.n ⟨0, ?_⟩ ?_
      · simp -dsimp -implicitDefEqProofs [go_sem, f2, f5, f6, f7, m0, m15, m16]
        exact ⟨rfl, rfl⟩
      clear f2 f5 f6 f7 f8 m0 m15 m16
      rintro m ⟨N, fr, mem, nx, lt⟩ hnx ⟨j, hN, hlt, hj, rfl, f2, f5, f6, f7, f9, m0, m15, m16⟩
      dsimp only at *
      subst hN hnx hlt
      rcases Nat.lt_or_ge j c.pods.n with hlt | hge
      · rcases hpv j hlt with hpj | ⟨m, hm, hpj, -⟩
        · have hz : (fun i => sumF (placedR c p i) (j + 1)) = fun i => sumF (placedR c p i) j := funext fun i => by
            simp only [sumF, placedR]
            rw [hpj, if_neg (by decide)]
            exact Int.add_zero _
          simp -dsimp -implicitDefEqProofs [go_sem, f2, f5, f6, f7, f9, m0, m15, m16, intsF, hlt, encL_get? _ hlt, hpj]
          exact ⟨_, by omega, j + 1, by omega, rfl, w64 (by omega) (by omega), rfl, by rw [hz]; rfl⟩
        · have hpj0 : ¬ (m : Int) < 0 := by omega
          have hz : (fun i => sumF (placedR c p i) j + (c.pods.el j).req i) = fun i => sumF (placedR c p i) (j + 1) := funext fun i => by
            simp only [sumF, placedR]
            rw [hpj, if_pos (by omega)]
          simp -dsimp -implicitDefEqProofs [go_sem, f2, f5, f6, f7, f9, m0, m15, m16, intsF, hlt, encL_get? _ hlt, hpj, hpj0]
          refine runL_draw [[], [], [1], [], [2, 1, 3], [4, 2, 1, 3], [5, 4, 2, 1, 3], [0, 6, 5, 4, 2, 1, 3], [7, 0, 6, 5, 4, 2, 1, 3]] (by kernel_rfl) (by kernel_rfl) ?_
          simp -dsimp -implicitDefEqProofs [go_sem, Tv, Cw, silentAt, silentOp, f2, f5, f6, f7, f9, m0, m15, m16, fiveM, podsF, hlt, encL_get? _ hlt, podC_eq (c.pods.el j)]
          refine callW_f (fs := [fiveF fun i => sumF (placedR c p i) j, fiveF (c.pods.el j).req]) (total_pure _ _ (fun i hi => ?_) (fun i hi => ?_)) ?_
          · have := fit_reqs hc hpv hi j (by omega)
            exact ⟨this.1, by omega⟩
          · have := placed_qty hc hpv hi hlt
            exact ⟨this.1, by omega⟩
          rw [hz]
          simp -dsimp -implicitDefEqProofs [go_sem, Tv, Cw, silentAt, silentOp, f2, f5, f6, f7, f9, m0, m15, m16, fiveM, fiveF]
          refine exWL_mk (andL_mk ⟨by kernel_rfl, by kernel_rfl⟩ ?_)
          simp -dsimp -implicitDefEqProofs [go_sem, f2, f5, f6, f7, f9, m0, m15, m16]
          exact ⟨_, by omega, j + 1, by omega, rfl, w64 (by omega) (by omega), rfl, rfl⟩
      · obtain rfl : j = c.pods.n := by omega
        simp -dsimp -implicitDefEqProofs [go_sem, f2, f5, f6, f7, f9, m0, m15, m16, intsF, fiveM]
        refine runL_loop [] 32 (by simp -dsimp -implicitDefEqProofs [go_sem]) (fun m st => ∃ j : Nat, st.n = 147 ∧ st.lit = false ∧ j ≤ c.owners.n ∧ m = c.owners.n - j ∧ st.fr 2 = .loc 0 0 ∧ st.fr 5 = .f (intsF ⟨c.pods.n, p⟩) ∧ st.fr 10 = .f (I j) ∧
          st.mem 0 = some (.blk [.f (nodesF c.nodes), .f (podsF c.pods), .f (ownersF c.owners)])) c.owners.n ⟨0, ?_⟩ ?_
        · simp -dsimp -implicitDefEqProofs [go_sem, f2, f5, m0]
        clear f2 f5 f6 f7 f9 m0 m15 m16
        rintro m ⟨N, fr, mem, nx, lt⟩ hnx ⟨j, hN, hlt, hj, rfl, f2, f5, f10, m0⟩
        dsimp only at *
        subst hN hnx hlt
        rcases Nat.lt_or_ge j c.owners.n with hlt | hge
        · simp -dsimp -implicitDefEqProofs [go_sem, f2, f5, f10, m0, ownersF, hlt]
          refine runL_draw [[], [], [], [0, 1, 2], [], [], [], [4, 5, 6, 3, 0, 1, 2], [3, 0, 1, 2, 7, 4, 5, 6], [7, 4, 5, 6, 3, 0, 1, 2, 8]] (by kernel_rfl) (by kernel_rfl) ?_
          simp -dsimp -implicitDefEqProofs [go_sem, Tv, Cw, silentAt, silentOp, f2, f5, f10, m0]
          refine callW_f (fs := [snapF c, intsF ⟨c.pods.n, p⟩, I j]) (counts_pure c okc _ hn _) ?_
          simp -dsimp -implicitDefEqProofs [go_sem, Tv, Cw, silentAt, silentOp, f2, f5, f10, m0]
          refine callW_f (fs := [snapF c, intsF ⟨c.pods.n, p⟩, I j]) (spread_pure c okc _ hn _) ?_
          rw [fit_counts hc hpv hlt, fit_spread hc hpv hlt]
          have hpl := fit_placed hc hpv hlt
          have hXn := fit_owned hpv j
          have hXl := ownL_len c ⟨c.pods.n, p⟩ j c.pods.n
          have hYl : ((ownL c ⟨c.pods.n, p⟩ j c.pods.n).map (inD c (c.owners.el j).topo)).length = (ownL c ⟨c.pods.n, p⟩ j c.pods.n).length := List.length_map _
          have hDl := domL_len c (c.owners.el j).topo c.nodes.n
          generalize hX : ownL c ⟨c.pods.n, p⟩ j c.pods.n = X at *
          generalize hY : X.map (inD c (c.owners.el j).topo) = Y at *
          generalize hD : (domL c (c.owners.el j).topo c.nodes.n).length = Dn at *
          simp -dsimp -implicitDefEqProofs [go_sem, Tv, Cw, silentAt, silentOp, f2, f5, f10, m0]
          refine runL_loop [] 50 (by simp -dsimp -implicitDefEqProofs [go_sem]) (fun m st => ∃ i : Nat, st.n = 147 ∧ st.lit = false ∧ i ≤ c.nodes.n ∧ m = c.nodes.n - i ∧ st.fr 2 = .loc 0 0 ∧ st.fr 5 = .f (intsF ⟨c.pods.n, p⟩) ∧ st.fr 10 = .f (I j) ∧ st.fr 11 = .f (I (sumF (numL X) i)) ∧ st.fr 12 = .f (I 0) ∧ st.fr 13 = .f (intsF ⟨c.nodes.n, numL X⟩) ∧ st.fr 14 = .f (intsF ⟨Dn, numL Y⟩) ∧ st.fr 15 = .f (I i) ∧
            st.mem 0 = some (.blk [.f (nodesF c.nodes), .f (podsF c.pods), .f (ownersF c.owners)])) c.nodes.n ⟨0, ?_⟩ ?_
          · simp -dsimp -implicitDefEqProofs [go_sem, f2, f5, f10, m0]
            rfl
          clear f2 f5 f10 m0
          rintro m ⟨N, fr, mem, nx, lt⟩ hnx ⟨i, hN, hlt2, hi, rfl, f2, f5, f10, f11, f12, f13, f14, f15, m0⟩
          dsimp only at *
          subst hN hnx hlt2
          have hs1 := sums_part X i
          rcases Nat.lt_or_ge i c.nodes.n with hlt2 | hge
          · have hs2 := sums_part X (i + 1)
            have hr := numL_range X i
            have hw : IntKind.i64.wrap (sumF (numL X) i + numL X i) = sumF (numL X) i + numL X i := w64 (by omega) (by omega)
            simp -dsimp -implicitDefEqProofs [go_sem, f2, f5, f10, f11, f12, f13, f14, f15, m0, intsF, hlt2, encL_get? _ hlt2, hw]
            exact ⟨_, by omega, i + 1, by omega, rfl, rfl, w64 (by omega) (by omega)⟩
          · obtain rfl : i = c.nodes.n := by omega
            rw [hXn] at f11
            simp -dsimp -implicitDefEqProofs [go_sem, f2, f5, f10, f11, f12, f13, f14, f15, m0, intsF]
            refine runL_loop [] 55 (by simp -dsimp -implicitDefEqProofs [go_sem]) (fun m st => ∃ i : Nat, st.n = 147 ∧ st.lit = false ∧ i ≤ Dn ∧ m = Dn - i ∧ st.fr 2 = .loc 0 0 ∧ st.fr 5 = .f (intsF ⟨c.pods.n, p⟩) ∧ st.fr 10 = .f (I j) ∧ st.fr 11 = .f (I X.length) ∧ st.fr 12 = .f (I (sumF (numL Y) i)) ∧ st.fr 13 = .f (intsF ⟨c.nodes.n, numL X⟩) ∧ st.fr 14 = .f (intsF ⟨Dn, numL Y⟩) ∧ st.fr 16 = .f (I i) ∧
              st.mem 0 = some (.blk [.f (nodesF c.nodes), .f (podsF c.pods), .f (ownersF c.owners)])) Dn ⟨0, ?_⟩ ?_
            · simp -dsimp -implicitDefEqProofs [go_sem, f2, f5, f10, f11, f12, f13, f14, m0]
              rfl
            clear f2 f5 f10 f11 f12 f13 f14 f15 m0
            rintro m ⟨N, fr, mem, nx, lt⟩ hnx ⟨i, hN, hlt3, hi, rfl, f2, f5, f10, f11, f12, f13, f14, f16, m0⟩
            dsimp only at *
            subst hN hnx hlt3
            have hs3 := sums_part Y i
            rcases Nat.lt_or_ge i Dn with hlt3 | hge
            · have hr := numL_range Y i
              have hw : IntKind.i64.wrap (sumF (numL Y) i + numL Y i) = sumF (numL Y) i + numL Y i := w64 (by omega) (by omega)
              simp -dsimp -implicitDefEqProofs [go_sem, f2, f5, f10, f11, f12, f13, f14, f16, m0, intsF, hlt3, encL_get? _ hlt3, hw]
              exact ⟨_, by omega, i + 1, by omega, rfl, rfl, w64 (by omega) (by omega)⟩
            · obtain rfl : i = Dn := by omega
              simp -dsimp -implicitDefEqProofs [go_sem, f2, f5, f10, f11, f12, f13, f14, f16, m0, intsF]
              have hle : ¬ (X.length : Int) < sumF (numL Y) i := by omega
              refine runL_draw [[], [0], [], [2], [3, 2], [1, 0, 4, 3, 2], [5, 1, 0, 4, 3, 2], [6, 5, 1, 0, 4, 3, 2], [7, 6, 5, 1, 0, 4, 3, 2], [6, 5, 1, 0, 4, 3, 2], [6, 5, 1, 0, 4, 3, 2], [10, 6, 5, 1, 0, 4, 3, 2], [6, 5, 1, 0, 4, 3, 2], [11, 10, 6, 5, 1, 0, 4, 3, 2, 12], [13, 11, 10, 6, 5, 1, 0, 4, 3, 2, 12], [14, 13, 11, 10, 6, 5, 1, 0, 4, 3, 2, 12], [9, 6, 5, 1, 0, 4, 3, 2, 15, 14, 13, 11, 10, 12], [16, 9, 6, 5, 1, 0, 4, 3, 2, 15, 14, 13, 11, 10, 12], [8, 7, 6, 5, 1, 0, 4, 3, 2, 17, 16, 9, 15, 14, 13, 11, 10, 12], [6, 5, 1, 0, 4, 3, 2, 18, 8, 7, 17, 16, 9, 15, 14, 13, 11, 10, 12], [19, 6, 5, 1, 0, 4, 3, 2, 18, 8, 7, 17, 16, 9, 15, 14, 13, 11, 10, 12], [20, 19, 6, 5, 1, 0, 4, 3, 2, 18, 8, 7, 17, 16, 9, 15, 14, 13, 11, 10, 12], [20, 19, 6, 5, 1, 0, 4, 3, 2, 18, 8, 7, 17, 16, 9, 15, 14, 13, 11, 10, 12], [20, 19, 6, 5, 1, 0, 4, 3, 2, 18, 8, 7, 17, 16, 9, 15, 14, 13, 11, 10, 12], [20, 19, 6, 5, 1, 0, 4, 3, 2, 18, 8, 7, 17, 16, 9, 15, 14, 13, 11, 10, 12], [22, 20, 19, 6, 5, 1, 0, 4, 3, 2, 18, 8, 7, 17, 16, 9, 15, 14, 13, 11, 10, 12, 23, 24], [21, 20, 19, 6, 5, 1, 0, 4, 3, 2, 18, 8, 7, 17, 16, 9, 15, 14, 13, 11, 10, 12, 25, 22, 23, 24], [20, 19, 6, 5, 1, 0, 4, 3, 2, 18, 8, 7, 17, 16, 9, 15, 14, 13, 11, 10, 12, 26, 21, 25, 22, 23, 24], [27, 20, 19, 6, 5, 1, 0, 4, 3, 2, 18, 8, 7, 17, 16, 9, 15, 14, 13, 11, 10, 12, 26, 21, 25, 22, 23, 24], [28, 27, 20, 19, 6, 5, 1, 0, 4, 3, 2, 18, 8, 7, 17, 16, 9, 15, 14, 13, 11, 10, 12, 26, 21, 25, 22, 23, 24], [28, 27, 20, 19, 6, 5, 1, 0, 4, 3, 2, 18, 8, 7, 17, 16, 9, 15, 14, 13, 11, 10, 12, 26, 21, 25, 22, 23, 24], [29, 28, 27, 20, 19, 6, 5, 1, 0, 4, 3, 2, 18, 8, 7, 17, 16, 9, 15, 14, 13, 11, 10, 12, 26, 21, 25, 22, 23, 24, 30], [28, 27, 20, 19, 6, 5, 1, 0, 4, 3, 2, 18, 8, 7, 17, 16, 9, 15, 14, 13, 11, 10, 12, 26, 21, 25, 22, 23, 24, 31, 29, 30]] (by kernel_rfl) (by kernel_rfl) ?_
              simp -dsimp -implicitDefEqProofs [go_sem, Tv, Cw, silentAt, silentOp, f2, f5, f10, f11, f12, f13, f14, f16, m0, intsF, nodesF, ownersF, hlt, encL_get? _ hlt, ownerC_eq (c.owners.el j)]
              refine callW_f (fs := [snapF c, S (c.owners.el j).topo]) (domains_pure c okc _) ?_
              simp -dsimp -implicitDefEqProofs [go_sem, Tv, Cw, silentAt, silentOp, f2, f5, f10, f11, f12, f13, f14, f16, m0, domsF, strsF, strsR_len, hc, hD]
              refine callW_f (fs := [snapF c, intsF ⟨c.pods.n, p⟩, I j]) (placed_pure c okc _ hn _) ?_
              rw [hpl]
              simp -dsimp -implicitDefEqProofs [go_sem, Tv, Cw, silentAt, silentOp, f2, f5, f10, f11, f12, f13, f14, f16, m0, hle]
              exact ⟨_, by omega, j + 1, by omega, rfl, w64 (by omega) (by omega)⟩
        · obtain rfl : j = c.owners.n := by omega
          simp -dsimp -implicitDefEqProofs [go_sem, f2, f5, f10, m0, ownersF]
          exact FLe.refl _
  · have hpe : (placeE c ⟨c.pods.n, p⟩ != 0) = true := by rw [placeE_bad hc]; simpa using hc
    have hmay : mayB c ⟨c.pods.n, p⟩ = false := by
      unfold mayB
      rw [placeE_bad hc]
      simpa using hc
    have hu : usedV c ⟨c.pods.n, p⟩ 0 = fun _ => 0 := funext fun i => by
      unfold usedV mayNB
      rw [hmay]
      rfl
    have hcn : countsL c ⟨c.pods.n, p⟩ 0 = ⟨0, numL (ownL c ⟨c.pods.n, p⟩ 0 c.pods.n)⟩ := by
      unfold countsL askedB
      rw [hmay]
      rfl
    simp -dsimp -implicitDefEqProofs [go_sem, hpe]
    refine callW_f (fs := [snapF c, intsF ⟨c.pods.n, p⟩, I 0]) (placeUsed_pure c okc _ hn _) ?_
    rw [hu]
    simp -dsimp -implicitDefEqProofs [go_sem, fiveF]
    refine callW_f (fs := [snapF c, intsF ⟨c.pods.n, p⟩, I 0]) (counts_pure c okc _ hn _) ?_
    rw [hcn]
    simp -dsimp -implicitDefEqProofs [go_sem, intsF]
    exact FLe.refl _
end Go.Proofs.YthpmgnbehahkfaaGreat
