/- StoreLost, over data. -/
import Derived.Test.YtlefoohoeomklaaGreatJQn
set_option linter.unusedSimpArgs false
set_option linter.unusedVariables false
namespace Go.Proofs.YtlefoohoeomklaaGreat
open Go.RowKit Go.Dk Go.Dn

/-- where the law's own lie -/
structure LostF (l : Lst DoD) (s : SnapD) (A : SA) (a b : Int) (n0 : Nat) (st : St) : Prop where
  n : st.n = 217
  lit : st.lit = false
  nx : n0 ≤ st.next
  f1 : st.fr 1 = .f (dosF l)
  f3 : st.fr 3 = .loc 0 0
  f5 : st.fr 5 = .loc 1 0
  f7 : st.fr 7 = .loc A.t 0
  m0 : st.mem 0 = some (.blk [.f (nodesF s.nodes), .f (podsF s.pods), .f (ownersF s.owners)])
  m1 : st.mem 1 = some (.blk [.f (I a), .f (I b)])
theorem cordonR_cases (d : StD) (n : Nat) : (n < d.s.nodes.n ∧ (cordonR d n = 0 ∨ cordonR d n = 110)) ∨ (d.s.nodes.n ≤ n ∧ cordonR d n = 9) := by
  unfold cordonR nodeE
  by_cases h : n < d.s.nodes.n
  · have e : 0 ≤ (n : Int) ∧ (n : Int) < d.s.nodes.n := by omega
    simp only [e, and_self, if_true]
    refine .inl ⟨h, ?_⟩
    split <;> simp
  · have e : ¬ (0 ≤ (n : Int) ∧ (n : Int) < d.s.nodes.n) := by omega
    simp only [e, if_false]
    exact .inr ⟨by omega, by simp⟩
theorem goneR_cases (d : StD) (n : Nat) : (n < d.s.pods.n ∧ (goneR d n = 0 ∨ goneR d n = 110)) ∨ (d.s.pods.n ≤ n ∧ goneR d n = 9) := by
  unfold goneR podE
  by_cases h : n < d.s.pods.n
  · have e : 0 ≤ (n : Int) ∧ (n : Int) < d.s.pods.n := by omega
    simp only [e, and_self, if_true]
    refine .inl ⟨h, ?_⟩
    split <;> simp
  · have e : ¬ (0 ≤ (n : Int) ∧ (n : Int) < d.s.pods.n) := by omega
    simp only [e, if_false]
    exact .inr ⟨by omega, by simp⟩
theorem cordonR_lost {d : StD} {n : Nat} (hn : n < d.s.nodes.n) (hl : (d.s.nodes.el n).lost = true) : cordonR d n = 110 := by
  unfold cordonR nodeE
  have e : 0 ≤ (n : Int) ∧ (n : Int) < d.s.nodes.n := by omega
  simp [e, hl, hn]
theorem isGoneR_gone {d : StD} {p : Nat} (hp : p < d.s.pods.n) (hg : d.gone p = true) : isGoneR d p = true := by
  unfold isGoneR podE
  have e : 0 ≤ (p : Int) ∧ (p : Int) < d.s.pods.n := by omega
  simp [e, hg, hp]
set_option maxRecDepth 100000 in
set_option maxHeartbeats 4000000 in
theorem storeLost_pure (s : SnapD) (ok : SnapOk s) (l : Lst DoD) (hl : l.n ≤ 1048576) (a b : Int) : Pure Tryz.prog 4 [snapF s, dosF l, .agg [I a, I b]] (B true) := by
  refine Pure.of_runG (lit := false) (fun n => if n = 1 then [1] else if n = 7 then [6] else if n = 8 then [1] else if n = 10 then [2, 5] else if n = 11 then [1] else if n = 22 then [6] else if n = 23 then [1] else if n = 29 then [8, 19, 25, 31] else []) Tryz.func4 rfl rfl rfl rfl (Nat.le_of_ble_eq_true rfl) (runG_of_runGL ?_)
  unfold St.enter
  refine runGL_on ?_
  simp (dsimp := false) (implicitDefEqProofs := false) [go_sem, snapF, snapC]
  refine runGL_on ?_
  simp (dsimp := false) (implicitDefEqProofs := false) [go_sem]
  refine live_S s ok fun s' A m' n' ok' he hn' hkept hS hA hids => ?_
  have k1 : m' 1 = some (.blk [.f (I a), .f (I b)]) := by
    rw [hkept 1 (by omega) (by simp)]
    simp (dsimp := false) (implicitDefEqProofs := false) [upd]
  have k0 : m' 0 = some (.blk [.f (nodesF s.nodes), .f (podsF s.pods), .f (ownersF s.owners)]) := by
    rw [hkept 0 (by omega) (by simp)]
    simp (dsimp := false) (implicitDefEqProofs := false) [upd]
  have hi0 : 0 ∉ A.ids := fun h => by have := hids 0 h; omega
  have hi1 : 1 ∉ A.ids := fun h => by have := hids 1 h; omega
  simp (dsimp := false) (implicitDefEqProofs := false) [go_sem, k0, snapF, snapC]
  have hS1 : ∀ x, StoreM (upd m' 0 x) A (startD s') := fun x => hS.other (fun i hi => by have : ¬ i = 0 := fun e => hi0 (e ▸ hi); simp (dsimp := false) (implicitDefEqProofs := false) [upd, this])
  have inv0 : DInv (startD s') := startD_inv he
  have fol0 : Fol (startD s') (startD s') := Fol.refl _
  refine runGL_on ?_
  simp (dsimp := false) (implicitDefEqProofs := false) [go_sem]
  refine runGL_cut (fun st => LostF l s' A a b n' st ∧ ∃ d, StoreM st.mem A d ∧ A.Ok st.next ∧ DInv d ∧ Fol (startD s') d) ?_ ?_
  · simp (dsimp := false) (implicitDefEqProofs := false) [go_sem]
    refine runCL_loop [] (fun m st => ∃ (j : Nat) (d : StD), j ≤ l.n ∧ m = l.n - j ∧ LostF l s' A a b n' st ∧ st.fr 8 = .f (I j) ∧ StoreM st.mem A d ∧ A.Ok st.next ∧ DInv d ∧ Fol (startD s') d) l.n ⟨0, startD s', by omega, rfl, ⟨rfl, rfl, ?_, rfl, rfl, rfl, rfl, ?_, ?_⟩, rfl, ?_, ?_, inv0, fol0⟩ ?_
    · simp (dsimp := false) (implicitDefEqProofs := false) [go_sem]; omega
    · simp (dsimp := false) (implicitDefEqProofs := false) [go_sem, upd]
    · simp (dsimp := false) (implicitDefEqProofs := false) [go_sem, upd, k1]
    · exact hS1 _
    · exact hA.le (by first | omega | (simp (dsimp := false) (implicitDefEqProofs := false) [go_sem] <;> omega))
    rintro m ⟨N, fr, mem, nx, lt⟩ ⟨j, d, hj, rfl, hf, f8, hS, hA, inv, fol⟩
    obtain ⟨rfl, rfl, hnx, f1, f3, f5, f7, m0, m1⟩ := hf
    dsimp only at *
    by_cases hc : j < l.n ∧ j < 20
    · have hc1 := hc.1
      have hc2 : (j : Int) < 20 := by omega
      simp (dsimp := false) (implicitDefEqProofs := false) [go_sem, f1, f3, f5, f7, f8, hc1, hc2]
      refine runCL_cdraw 6 [] [[], [], [], [], [2, 3], [4, 2, 3], [0, 1, 5, 4, 2, 3]] rfl rfl rfl (by decide) (by kernel_rfl) (by kernel_rfl) (by kernel_rfl) (by kernel_rfl) (by kernel_rfl) ?_
      simp (dsimp := false) (implicitDefEqProofs := false) [go_sem, Tv, Cw, silentAt, silentOp, f1, f3, f5, f7, f8, hc1, hc2, m0, encL_get? _ hc1, doC_eq (l.el j)]
      refine does_S hS inv (hA.le (by omega)) s' (by rw [fol.nn]; rfl) (by rw [fol.pods]; rfl) (l.el j) fun m2 n2 hn2 hS2 hk2 => ?_
      obtain ⟨inv2, fol2⟩ := doesD_inv inv (l.el j)
      have m20 := (hk2 0 (by omega) hi0).trans m0
      have m21 := (hk2 1 (by omega) hi1).trans m1
      simp (dsimp := false) (implicitDefEqProofs := false) [go_sem, f1, f3, f5, f7, f8]
      exact ⟨_, by omega, j + 1, by omega, rfl, ⟨rfl, rfl, by first | omega | (simp (dsimp := false) (implicitDefEqProofs := false) [go_sem] <;> omega), f1, f3, f5, f7, m20, m21⟩, w64 (by omega) (by omega), doesD d (l.el j), hS2, hA.le (by first | omega | (simp (dsimp := false) (implicitDefEqProofs := false) [go_sem] <;> omega)), inv2, fol.trans fol2⟩
    · rcases Nat.lt_or_ge j l.n with h1 | h1
      · have h2 : ¬ (j : Int) < 20 := by omega
        simp (dsimp := false) (implicitDefEqProofs := false) [go_sem, f1, f3, f5, f7, f8, h1, h2]
        exact ⟨⟨rfl, rfl, by first | omega | (simp (dsimp := false) (implicitDefEqProofs := false) [go_sem] <;> omega), f1, f3, f5, f7, m0, m1⟩, d, hS, hA.le (by first | omega | (simp (dsimp := false) (implicitDefEqProofs := false) [go_sem] <;> omega)), inv, fol⟩
      · have h3 : ¬ j < l.n := by omega
        simp (dsimp := false) (implicitDefEqProofs := false) [go_sem, f1, f3, f5, f7, f8, h3]
        exact ⟨⟨rfl, rfl, by first | omega | (simp (dsimp := false) (implicitDefEqProofs := false) [go_sem] <;> omega), f1, f3, f5, f7, m0, m1⟩, d, hS, hA.le (by first | omega | (simp (dsimp := false) (implicitDefEqProofs := false) [go_sem] <;> omega)), inv, fol⟩
  rintro ⟨N, fr, mem, nx, lt⟩ ⟨hf, d1, hS1, hA1, inv1, fol1⟩
  obtain ⟨rfl, rfl, hnx, f1, f3, f5, f7, m0, m1⟩ := hf
  dsimp only at *
  have hn8 := inv1.ok.s.n8
  have hp24 := inv1.ok.s.p24
  have en : s'.nodes.n = d1.s.nodes.n := fol1.nn.symm
  have ep : s'.pods.n = d1.s.pods.n := by rw [fol1.pods]; rfl
  refine runGL_on ?_
  simp (dsimp := false) (implicitDefEqProofs := false) [go_sem, f7]
  refine placement_S hS1 inv1.ok (hA1.le (by omega)) fun g mg ng hg hgn hkg hrow => ?_
  have hSg : StoreM mg A d1 := hS1.same (hA1.le (by omega)) hkg
  have mg0 := (hkg 0 (by omega) (by simp)).trans m0
  have mg1 := (hkg 1 (by omega) (by simp)).trans m1
  simp (dsimp := false) (implicitDefEqProofs := false) [go_sem]
  have wn : IntKind.i64.wrap ((d1.s.nodes.n : Int) + 1) = (d1.s.nodes.n : Int) + 1 := w64 (by omega) (by omega)
  have wp : IntKind.i64.wrap ((d1.s.pods.n : Int) + 1) = (d1.s.pods.n : Int) + 1 := w64 (by omega) (by omega)
  have bn := bring_pure a ((d1.s.nodes.n : Int) + 1) (by omega) (by omega)
  have bp := bring_pure b ((d1.s.pods.n : Int) + 1) (by omega) (by omega)
  obtain ⟨a1, a2⟩ := bringV_range (a := a) (n := (d1.s.nodes.n : Int) + 1) (by omega)
  obtain ⟨b1, b2⟩ := bringV_range (a := b) (n := (d1.s.pods.n : Int) + 1) (by omega)
  obtain ⟨n, hn⟩ : ∃ n : Nat, bringV a ((d1.s.nodes.n : Int) + 1) = n := ⟨_, (Int.toNat_of_nonneg a1).symm⟩
  obtain ⟨p, hp⟩ : ∃ p : Nat, bringV b ((d1.s.pods.n : Int) + 1) = p := ⟨_, (Int.toNat_of_nonneg b1).symm⟩
  rw [hn] at a2 bn
  rw [hp] at b2 bp
  have hn2 : n ≤ d1.s.nodes.n := by omega
  have hp2 : p ≤ d1.s.pods.n := by omega
  clear a1 b1 hn hp
  refine runGL_on ?_
  generalize hb : ng + 1 = e
  have e0 : 0 < e ∧ 1 < e := by omega
  refine runCL_draw [[], [0], [], [2], [3, 2], [4, 3, 2], [1, 0, 5, 4, 3, 2], [], [7], [], [9], [10, 9], [11, 10, 9], [8, 7, 12, 11, 10, 9, 6, 1, 0, 5, 4, 3, 2], [6, 1, 0, 5, 4, 3, 2, 13, 8, 7, 12, 11, 10, 9], [13, 8, 7, 12, 11, 10, 9, 6, 1, 0, 5, 4, 3, 2, 14]] rfl (by kernel_rfl) (by kernel_rfl) ?_
  simp (dsimp := false) (implicitDefEqProofs := false) [go_sem, Tv, Cw, silentAt, silentOp, f1, f3, f5, f7, mg0, mg1, e0, en, ep, wn, wp]
  refine callW_f bn ?_
  simp (dsimp := false) (implicitDefEqProofs := false) [go_sem, Tv, Cw, silentAt, silentOp, f1, f3, f5, f7, mg0, mg1, e0, en, ep, wn, wp]
  refine callW_f bp ?_
  simp (dsimp := false) (implicitDefEqProofs := false) [go_sem, Tv, Cw, silentAt, silentOp, f1, f3, f5, f7, mg0, mg1, e0, en, ep, wn, wp]
  refine runGL_on ?_
  simp (dsimp := false) (implicitDefEqProofs := false) [go_sem, f1, f3, f5, f7]
  refine lose_S hSg inv1.ok (hA1.le (by omega)) n fun m3 n3 hn3 hS3 hk3 => ?_
  obtain ⟨inv2, fol2⟩ := loseD_inv inv1 (n : Int)
  simp (dsimp := false) (implicitDefEqProofs := false) [go_sem, f1, f3, f5, f7]
  refine gone_S hS3 inv2.ok (hA1.le (by omega)) p fun m4 n4 hn4 hS4 hk4 => ?_
  obtain ⟨inv3, fol3⟩ := goneD_inv inv2 (p : Int)
  simp (dsimp := false) (implicitDefEqProofs := false) [go_sem, f1, f3, f5, f7]
  have hgA : g ∉ A.ids := fun h => by have := hA1.lt g h; omega
  have row4 := (hk4 g (by omega) hgA).trans ((hk3 g (by omega) hgA).trans hrow)
  have m40 := (hk4 0 (by omega) hi0).trans ((hk3 0 (by omega) hi0).trans mg0)
  have m41 := (hk4 1 (by omega) hi1).trans ((hk3 1 (by omega) hi1).trans mg1)
  refine runGL_on ?_
  simp (dsimp := false) (implicitDefEqProofs := false) [go_sem, f1, f3, f5, f7]
  refine placement_S hS4 inv3.ok (hA1.le (by omega)) fun g5 m5 n5 hg5 hgn5 hk5 hrow5 => ?_
  have hS5 : StoreM m5 A (goneD (loseD d1 n) p) := hS4.same (hA1.le (by omega)) hk5
  have row5 := (hk5 g (by omega) (by simp)).trans row4
  have m50 := (hk5 0 (by omega) (by simp)).trans m40
  have m51 := (hk5 1 (by omega) (by simp)).trans m41
  simp (dsimp := false) (implicitDefEqProofs := false) [go_sem, f1, f3, f5, f7]
  have pn2 : (loseD d1 n).s.pods = d1.s.pods := fol2.pods
  have nn2 : (loseD d1 n).s.nodes.n = d1.s.nodes.n := fol2.nn
  have hnow : ∀ q, q < d1.s.pods.n → (goneD (loseD d1 n) p).on q = if q = p then -1 else if d1.on q = n then -1 else d1.on q := fun q hq => by
    rw [gone_on inv2 (by rw [pn2]; exact hq), lose_on inv1 hq]
  have gonep : p < d1.s.pods.n → (goneD (loseD d1 n) p).gone p = true := fun h => gone_gone (by rw [pn2]; exact h)
  have lostn : n < d1.s.nodes.n → ((goneD (loseD d1 n) p).s.nodes.el n).lost = true := fun h => fol3.lost n (lose_lost h)
  have hpods : (goneD (loseD d1 n) p).s.pods = d1.s.pods := fol3.pods.trans pn2
  have hnodes : (goneD (loseD d1 n) p).s.nodes.n = d1.s.nodes.n := fol3.nn.trans nn2
  have hcR := cordonR_cases d1 n
  have hgR := goneR_cases (loseD d1 n) p
  rw [pn2] at hgR
  revert hS5 inv3 hnow gonep lostn hpods hnodes hrow5
  generalize goneD (loseD d1 n) p = d3
  intro inv3 hrow5 hS5 hnow gonep lostn hpods hnodes
  rw [hpods] at hrow5
  generalize cordonR d1 n = cR at hcR ⊢
  generalize goneR (loseD d1 n) p = gR at hgR ⊢
  refine runGL_cut (fun st => LostF l s' A a b n5 st ∧ st.mem = m5 ∧ st.fr 10 = .f (I n) ∧ st.fr 11 = .f (I p) ∧ st.fr 12 = .f (I cR) ∧ st.fr 13 = .f (I gR)) ?_ ?_
  · simp (dsimp := false) (implicitDefEqProofs := false) [go_sem]
    refine runCL_loop [] (fun m st => ∃ j : Nat, j ≤ d1.s.pods.n ∧ m = d1.s.pods.n - j ∧ LostF l s' A a b n5 st ∧ st.mem = m5 ∧ st.fr 9 = .own g 0 ∧ st.fr 10 = .f (I n) ∧ st.fr 11 = .f (I p) ∧ st.fr 12 = .f (I cR) ∧ st.fr 13 = .f (I gR) ∧ st.fr 14 = .own g5 0 ∧ st.fr 15 = .f (I j)) d1.s.pods.n ⟨0, by omega, rfl, ⟨rfl, rfl, ?_, f1, f3, f5, f7, m50, m51⟩, rfl, rfl, rfl, rfl, rfl, rfl, rfl, rfl⟩ ?_
    · first | omega | (simp (dsimp := false) (implicitDefEqProofs := false) [go_sem] <;> omega)
    rintro m ⟨N, fr, mem, nx, lt⟩ ⟨j, hj, rfl, hf, rfl, f9, f10, f11, f12, f13, f14, f15⟩
    obtain ⟨rfl, rfl, hnx, f1, f3, f5, f7, m0, m1⟩ := hf
    dsimp only at *
    by_cases hc : j < d1.s.pods.n
    · have hnw := hnow j hc
      simp (dsimp := false) (implicitDefEqProofs := false) [go_sem, f9, f10, f11, f12, f13, f14, f15, hrow5, hc]
      have hrg : ∀ q, q < d1.s.pods.n → d1.on q = -1 ∨ ∃ m : Nat, m < d1.s.nodes.n ∧ d1.on q = m := inv1.ok.on
      have hn3 : d1.on j = n → n < d1.s.nodes.n := fun e => by rcases hrg j hc with h | ⟨m, hm, h⟩ <;> omega
      generalize hb2 : nx + 4 = e2
      have g1 : g < e2 ∧ g5 < e2 ∧ 0 < e2 := by omega
      refine runCL_draw [[], [], [0, 1], [2, 0, 1], [3, 2, 0, 1], [3, 2, 0, 1], [4, 3, 2, 0, 1, 5], [6, 4, 3, 2, 0, 1, 5], [3, 2, 0, 1], [7, 6, 4, 3, 2, 0, 1, 5, 8], [3, 2, 0, 1, 9, 7, 6, 4, 5, 8], [10, 3, 2, 0, 1, 9, 7, 6, 4, 5, 8], [11, 10, 3, 2, 0, 1, 9, 7, 6, 4, 5, 8], [11, 10, 3, 2, 0, 1, 9, 7, 6, 4, 5, 8], [12, 11, 10, 3, 2, 0, 1, 9, 7, 6, 4, 5, 8, 13], [14, 12, 11, 10, 3, 2, 0, 1, 9, 7, 6, 4, 5, 8, 13], [11, 10, 3, 2, 0, 1, 9, 7, 6, 4, 5, 8], [11, 10, 3, 2, 0, 1, 9, 7, 6, 4, 5, 8], [16, 11, 10, 3, 2, 0, 1, 9, 7, 6, 4, 5, 8, 17], [18, 16, 11, 10, 3, 2, 0, 1, 9, 7, 6, 4, 5, 8, 17], [15, 14, 12, 11, 10, 3, 2, 0, 1, 9, 7, 6, 4, 5, 8, 13, 19, 18, 16, 17], [11, 10, 3, 2, 0, 1, 9, 7, 6, 4, 5, 8, 20, 15, 14, 12, 13, 19, 18, 16, 17], [21, 11, 10, 3, 2, 0, 1, 9, 7, 6, 4, 5, 8, 20, 15, 14, 12, 13, 19, 18, 16, 17], [22, 21, 11, 10, 3, 2, 0, 1, 9, 7, 6, 4, 5, 8, 20, 15, 14, 12, 13, 19, 18, 16, 17], [22, 21, 11, 10, 3, 2, 0, 1, 9, 7, 6, 4, 5, 8, 20, 15, 14, 12, 13, 19, 18, 16, 17], [23, 22, 21, 11, 10, 3, 2, 0, 1, 9, 7, 6, 4, 5, 8, 20, 15, 14, 12, 13, 19, 18, 16, 17, 24], [25, 23, 22, 21, 11, 10, 3, 2, 0, 1, 9, 7, 6, 4, 5, 8, 20, 15, 14, 12, 13, 19, 18, 16, 17, 24], [22, 21, 11, 10, 3, 2, 0, 1, 9, 7, 6, 4, 5, 8, 20, 15, 14, 12, 13, 19, 18, 16, 17], [26, 25, 23, 22, 21, 11, 10, 3, 2, 0, 1, 9, 7, 6, 4, 5, 8, 20, 15, 14, 12, 13, 19, 18, 16, 17, 24, 27], [28, 26, 25, 23, 22, 21, 11, 10, 3, 2, 0, 1, 9, 7, 6, 4, 5, 8, 20, 15, 14, 12, 13, 19, 18, 16, 17, 24, 27], [29, 28, 26, 25, 23, 22, 21, 11, 10, 3, 2, 0, 1, 9, 7, 6, 4, 5, 8, 20, 15, 14, 12, 13, 19, 18, 16, 17, 24, 27], [29, 28, 26, 25, 23, 22, 21, 11, 10, 3, 2, 0, 1, 9, 7, 6, 4, 5, 8, 20, 15, 14, 12, 13, 19, 18, 16, 17, 24, 27], [31, 29, 28, 26, 25, 23, 22, 21, 11, 10, 3, 2, 0, 1, 9, 7, 6, 4, 5, 8, 20, 15, 14, 12, 13, 19, 18, 16, 17, 24, 27], [32, 31, 29, 28, 26, 25, 23, 22, 21, 11, 10, 3, 2, 0, 1, 9, 7, 6, 4, 5, 8, 20, 15, 14, 12, 13, 19, 18, 16, 17, 24, 27], [30, 29, 28, 26, 25, 23, 22, 21, 11, 10, 3, 2, 0, 1, 9, 7, 6, 4, 5, 8, 20, 15, 14, 12, 13, 19, 18, 16, 17, 24, 27, 33, 32, 31], [29, 28, 26, 25, 23, 22, 21, 11, 10, 3, 2, 0, 1, 9, 7, 6, 4, 5, 8, 20, 15, 14, 12, 13, 19, 18, 16, 17, 24, 27, 34, 30, 33, 32, 31], [35, 29, 28, 26, 25, 23, 22, 21, 11, 10, 3, 2, 0, 1, 9, 7, 6, 4, 5, 8, 20, 15, 14, 12, 13, 19, 18, 16, 17, 24, 27, 34, 30, 33, 32, 31], [36, 35, 29, 28, 26, 25, 23, 22, 21, 11, 10, 3, 2, 0, 1, 9, 7, 6, 4, 5, 8, 20, 15, 14, 12, 13, 19, 18, 16, 17, 24, 27, 34, 30, 33, 32, 31], [36, 35, 29, 28, 26, 25, 23, 22, 21, 11, 10, 3, 2, 0, 1, 9, 7, 6, 4, 5, 8, 20, 15, 14, 12, 13, 19, 18, 16, 17, 24, 27, 34, 30, 33, 32, 31], [37, 36, 35, 29, 28, 26, 25, 23, 22, 21, 11, 10, 3, 2, 0, 1, 9, 7, 6, 4, 5, 8, 20, 15, 14, 12, 13, 19, 18, 16, 17, 24, 27, 34, 30, 33, 32, 31, 38], [39, 37, 36, 35, 29, 28, 26, 25, 23, 22, 21, 11, 10, 3, 2, 0, 1, 9, 7, 6, 4, 5, 8, 20, 15, 14, 12, 13, 19, 18, 16, 17, 24, 27, 34, 30, 33, 32, 31, 38], [40, 39, 37, 36, 35, 29, 28, 26, 25, 23, 22, 21, 11, 10, 3, 2, 0, 1, 9, 7, 6, 4, 5, 8, 20, 15, 14, 12, 13, 19, 18, 16, 17, 24, 27, 34, 30, 33, 32, 31, 38], [36, 35, 29, 28, 26, 25, 23, 22, 21, 11, 10, 3, 2, 0, 1, 9, 7, 6, 4, 5, 8, 20, 15, 14, 12, 13, 19, 18, 16, 17, 24, 27, 34, 30, 33, 32, 31, 41, 40, 39, 37, 38], [22, 21, 11, 10, 3, 2, 0, 1, 9, 7, 6, 4, 5, 8, 20, 15, 14, 12, 13, 19, 18, 16, 17, 42, 36, 35, 29, 28, 26, 25, 23, 24, 27, 34, 30, 33, 32, 31, 41, 40, 39, 37, 38]] rfl (by kernel_rfl) (by kernel_rfl) ?_
      by_cases c1 : j = p
      · subst c1
        rw [if_pos rfl] at hnw
        by_cases c2 : d1.on j = n
        · have c3 := hn3 c2
          simp (dsimp := false) (implicitDefEqProofs := false) [go_sem, Tv, Cw, silentAt, silentOp, f3, f9, f10, f11, f12, f13, f14, f15, hrow5, row5, m50, g1, encL_get? _ hc, hc, hnw, en, c2, c3]
          exact ⟨_, by omega, j + 1, by omega, rfl, ⟨rfl, rfl, by first | omega | (simp (dsimp := false) (implicitDefEqProofs := false) [go_sem] <;> omega), f1, f3, f5, f7, m50, m51⟩, w64 (by omega) (by omega)⟩
        · have c4 : (d1.on j == (n : Int)) = false := by simpa using c2
          simp (dsimp := false) (implicitDefEqProofs := false) [go_sem, Tv, Cw, silentAt, silentOp, f3, f9, f10, f11, f12, f13, f14, f15, hrow5, row5, m50, g1, encL_get? _ hc, hc, hnw, en, c2, c4]
          exact ⟨_, by omega, j + 1, by omega, rfl, ⟨rfl, rfl, by first | omega | (simp (dsimp := false) (implicitDefEqProofs := false) [go_sem] <;> omega), f1, f3, f5, f7, m50, m51⟩, w64 (by omega) (by omega)⟩
      · have c5 : ((j : Int) != (p : Int)) = true := by simp; omega
        rw [if_neg c1] at hnw
        by_cases c2 : d1.on j = n
        · have c3 := hn3 c2
          rw [if_pos c2] at hnw
          simp (dsimp := false) (implicitDefEqProofs := false) [go_sem, Tv, Cw, silentAt, silentOp, f3, f9, f10, f11, f12, f13, f14, f15, hrow5, row5, m50, g1, encL_get? _ hc, hc, hnw, en, c2, c3, c5]
          exact ⟨_, by omega, j + 1, by omega, rfl, ⟨rfl, rfl, by first | omega | (simp (dsimp := false) (implicitDefEqProofs := false) [go_sem] <;> omega), f1, f3, f5, f7, m50, m51⟩, w64 (by omega) (by omega)⟩
        · have c4 : (d1.on j == (n : Int)) = false := by simpa using c2
          have c6 : (d1.on j != (n : Int)) = true := by simpa using c2
          rw [if_neg c2] at hnw
          simp (dsimp := false) (implicitDefEqProofs := false) [go_sem, Tv, Cw, silentAt, silentOp, f3, f9, f10, f11, f12, f13, f14, f15, hrow5, row5, m50, g1, encL_get? _ hc, hc, hnw, en, c2, c4, c5, c6]
          exact ⟨_, by omega, j + 1, by omega, rfl, ⟨rfl, rfl, by first | omega | (simp (dsimp := false) (implicitDefEqProofs := false) [go_sem] <;> omega), f1, f3, f5, f7, m50, m51⟩, w64 (by omega) (by omega)⟩
    · obtain rfl : j = d1.s.pods.n := by omega
      simp (dsimp := false) (implicitDefEqProofs := false) [go_sem, f9, f10, f11, f12, f13, f14, f15, hrow5]
      exact ⟨rfl, rfl, by first | omega | (simp (dsimp := false) (implicitDefEqProofs := false) [go_sem] <;> omega), f1, f3, f5, f7, m50, m51⟩
  rintro ⟨N, fr, mem, nx, lt⟩ ⟨hf, rfl, f10, f11, f12, f13⟩
  obtain ⟨rfl, rfl, hnx, f1, f3, f5, f7, m0, m1⟩ := hf
  dsimp only at *
  refine runGL_cut (fun st => LostF l s' A a b n5 st ∧ st.mem = mem ∧ st.fr 10 = .f (I n) ∧ st.fr 11 = .f (I p)) ?_ ?_
  · rcases hcR with ⟨h1, h2⟩ | ⟨h1, h2⟩
    · have h3 : ¬ d1.s.nodes.n ≤ n := by omega
      have h4 : (cR == 9) = false := by rcases h2 with h | h <;> rw [h] <;> rfl
      rcases hgR with ⟨q1, q2⟩ | ⟨q1, q2⟩
      · have q3 : ¬ d1.s.pods.n ≤ p := by omega
        have q4 : (gR == 9) = false := by rcases q2 with h | h <;> rw [h] <;> rfl
        simp (dsimp := false) (implicitDefEqProofs := false) [go_sem, f3, f10, f11, f12, f13, m50, en, ep, h3, h4, q3, q4]
        exact ⟨rfl, rfl, by first | omega | (simp (dsimp := false) (implicitDefEqProofs := false) [go_sem] <;> omega), f1, f3, f5, f7, m50, m51⟩
      · simp (dsimp := false) (implicitDefEqProofs := false) [go_sem, f3, f10, f11, f12, f13, m50, en, ep, h3, h4, q1, q2]
        exact ⟨rfl, rfl, by first | omega | (simp (dsimp := false) (implicitDefEqProofs := false) [go_sem] <;> omega), f1, f3, f5, f7, m50, m51⟩
    · rcases hgR with ⟨q1, q2⟩ | ⟨q1, q2⟩
      · have q3 : ¬ d1.s.pods.n ≤ p := by omega
        have q4 : (gR == 9) = false := by rcases q2 with h | h <;> rw [h] <;> rfl
        simp (dsimp := false) (implicitDefEqProofs := false) [go_sem, f3, f10, f11, f12, f13, m50, en, ep, h1, h2, q3, q4]
        exact ⟨rfl, rfl, by first | omega | (simp (dsimp := false) (implicitDefEqProofs := false) [go_sem] <;> omega), f1, f3, f5, f7, m50, m51⟩
      · simp (dsimp := false) (implicitDefEqProofs := false) [go_sem, f3, f10, f11, f12, f13, m50, en, ep, h1, h2, q1, q2]
        exact ⟨rfl, rfl, by first | omega | (simp (dsimp := false) (implicitDefEqProofs := false) [go_sem] <;> omega), f1, f3, f5, f7, m50, m51⟩
  clear f10 f11 f12 f13 f1 f3 f5 f7 m0 m1
  rintro ⟨N, fr, mem', nx, lt⟩ ⟨hf, rfl, f10, f11⟩
  obtain ⟨rfl, rfl, hnx, f1, f3, f5, f7, m0, m1⟩ := hf
  dsimp only at *
  refine runGL_cut (fun st => LostF l s' A a b n5 st ∧ st.fr 10 = .f (I n) ∧ st.fr 11 = .f (I p) ∧ ∃ d, StoreM st.mem A d ∧ A.Ok st.next ∧ DInv d ∧ Fol d3 d) ?_ ?_
  · simp (dsimp := false) (implicitDefEqProofs := false) [go_sem]
    refine runCL_loop [] (fun m st => ∃ (j : Nat) (d : StD), 20 ≤ j ∧ j ≤ 60 ∧ m = 60 - j ∧ LostF l s' A a b n5 st ∧ st.fr 10 = .f (I n) ∧ st.fr 11 = .f (I p) ∧ st.fr 16 = .f (I j) ∧ StoreM st.mem A d ∧ A.Ok st.next ∧ DInv d ∧ Fol d3 d) 40 ⟨20, d3, by omega, by omega, rfl, ⟨rfl, rfl, ?_, f1, f3, f5, f7, m50, m51⟩, f10, f11, rfl, hS5, ?_, inv3, Fol.refl d3⟩ ?_
    · first | omega | (simp (dsimp := false) (implicitDefEqProofs := false) [go_sem] <;> omega)
    · exact hA1.le (by first | omega | (simp (dsimp := false) (implicitDefEqProofs := false) [go_sem] <;> omega))
    clear f10 f11 f1 f3 f5 f7 m0 m1 hnx
    rintro m ⟨N, fr, mem', nx, lt⟩ ⟨j, d, hj20, hj, rfl, hf, f10, f11, f16, hS, hA, inv, fol⟩
    obtain ⟨rfl, rfl, hnx, f1, f3, f5, f7, m0, m1⟩ := hf
    dsimp only at *
    by_cases hc : j < l.n ∧ j < 60
    · have hc1 := hc.1
      have hc2 : (j : Int) < 60 := by omega
      simp (dsimp := false) (implicitDefEqProofs := false) [go_sem, f1, f3, f5, f7, f10, f11, f16, hc1, hc2]
      refine runCL_cdraw 6 [] [[], [], [], [], [2, 3], [4, 2, 3], [0, 1, 5, 4, 2, 3]] rfl rfl rfl (by decide) (by kernel_rfl) (by kernel_rfl) (by kernel_rfl) (by kernel_rfl) (by kernel_rfl) ?_
      simp (dsimp := false) (implicitDefEqProofs := false) [go_sem, Tv, Cw, silentAt, silentOp, f1, f3, f5, f7, f10, f11, f16, hc1, hc2, m0, encL_get? _ hc1, doC_eq (l.el j)]
      refine does_S hS inv (hA.le (by omega)) s' (by rw [fol.nn, hnodes]; exact en) (by rw [fol.pods, hpods]; exact ep) (l.el j) fun m2 n2 hn2 hS2 hk2 => ?_
      obtain ⟨inv2', fol2'⟩ := doesD_inv inv (l.el j)
      have folX := fol.trans fol2'
      have m20 := (hk2 0 (by omega) hi0).trans m0
      have m21 := (hk2 1 (by omega) hi1).trans m1
      simp (dsimp := false) (implicitDefEqProofs := false) [go_sem, f1, f3, f5, f7, f10, f11, f16]
      refine placement_S hS2 inv2'.ok (hA.le (by omega)) fun g6 m6 n6 hg6 hgn6 hk6 hrow6 => ?_
      have hS6 : StoreM m6 A (doesD d (l.el j)) := hS2.same (hA.le (by omega)) hk6
      have m60 := (hk6 0 (by omega) (by simp)).trans m20
      have m61 := (hk6 1 (by omega) (by simp)).trans m21
      simp (dsimp := false) (implicitDefEqProofs := false) [go_sem, f1, f3, f5, f7, f10, f11, f16]
      have hPd : (doesD d (l.el j)).s.pods.n = d1.s.pods.n := by rw [folX.pods, hpods]
      have hNd : (doesD d (l.el j)).s.nodes.n = d1.s.nodes.n := by rw [folX.nn, hnodes]
      have hln : n < (doesD d (l.el j)).s.nodes.n → ((doesD d (l.el j)).s.nodes.el n).lost = true := fun h => folX.lost n (lostn (by omega))
      have hgp : p < (doesD d (l.el j)).s.pods.n → (doesD d (l.el j)).gone p = true := fun h => folX.gone p (gonep (by omega))
      have haft := fun k hk => after_on (k := k) inv2' hln hgp (by omega) hk
      rw [hPd] at hrow6
      clear hS2 fol2' hk2
      revert hrow6 hS6 inv2' folX hPd hNd haft hln hgp
      generalize doesD d (l.el j) = d'
      intro inv2' folX hrow6 hS6 hPd hNd hln hgp haft
      have hnx0 : n5 ≤ nx := hnx
      refine runCL_loop [] (fun m st => ∃ k : Nat, k ≤ d1.s.pods.n ∧ m = d1.s.pods.n - k ∧ LostF l s' A a b n6 st ∧ st.mem = m6 ∧ st.fr 10 = .f (I n) ∧ st.fr 11 = .f (I p) ∧ st.fr 16 = .f (I j) ∧ st.fr 17 = .own g6 0 ∧ st.fr 18 = .f (I k)) d1.s.pods.n ⟨0, by omega, rfl, ⟨rfl, rfl, ?_, f1, f3, f5, f7, m60, m61⟩, rfl, f10, f11, f16, rfl, rfl⟩ ?_
      · first | omega | (simp (dsimp := false) (implicitDefEqProofs := false) [go_sem] <;> omega)
      clear f10 f11 f1 f3 f5 f7 m0 m1 hnx
      rintro m ⟨N, fr, mem', nx', lt⟩ ⟨k, hk, rfl, hf, rfl, f10, f11, f16, f17, f18⟩
      obtain ⟨rfl, rfl, hnx, f1, f3, f5, f7, m0, m1⟩ := hf
      dsimp only at *
      by_cases hkc : k < d1.s.pods.n
      · obtain ⟨af1, af2⟩ := haft k (by omega)
        have af3 : (d'.on k == (n : Int)) = false := by simpa using af2
        by_cases c1 : k = p
        · subst c1
          have e1 := af1 rfl
          have e2 : ((-1 : Int) == (n : Int)) = false := by rw [← e1]; exact af3
          simp (dsimp := false) (implicitDefEqProofs := false) [go_sem, f10, f11, f16, f17, f18, hrow6, hkc, encL_get? _ hkc, e1, e2]
          exact ⟨_, by omega, k + 1, by omega, rfl, ⟨rfl, rfl, by first | omega | (simp (dsimp := false) (implicitDefEqProofs := false) [go_sem] <;> omega), f1, f3, f5, f7, m60, m61⟩, w64 (by omega) (by omega)⟩
        · have c2 : ((k : Int) == (p : Int)) = false := by simp; omega
          simp (dsimp := false) (implicitDefEqProofs := false) [go_sem, f10, f11, f16, f17, f18, hrow6, hkc, encL_get? _ hkc, c2, af3]
          exact ⟨_, by omega, k + 1, by omega, rfl, ⟨rfl, rfl, by first | omega | (simp (dsimp := false) (implicitDefEqProofs := false) [go_sem] <;> omega), f1, f3, f5, f7, m60, m61⟩, w64 (by omega) (by omega)⟩
      · obtain rfl : k = d1.s.pods.n := by omega
        simp (dsimp := false) (implicitDefEqProofs := false) [go_sem, f10, f11, f16, f17, f18, hrow6]
        exact ⟨_, by omega, j + 1, by omega, by omega, rfl, ⟨rfl, rfl, by first | omega | (simp (dsimp := false) (implicitDefEqProofs := false) [go_sem] <;> omega), f1, f3, f5, f7, m60, m61⟩, w64 (by omega) (by omega), d', hS6, hA.le (by first | omega | (simp (dsimp := false) (implicitDefEqProofs := false) [go_sem] <;> omega)), inv2', folX⟩
    · rcases Nat.lt_or_ge j l.n with h1 | h1
      · have h2 : ¬ (j : Int) < 60 := by omega
        simp (dsimp := false) (implicitDefEqProofs := false) [go_sem, f1, f3, f5, f7, f10, f11, f16, h1, h2]
        exact ⟨⟨rfl, rfl, by first | omega | (simp (dsimp := false) (implicitDefEqProofs := false) [go_sem] <;> omega), f1, f3, f5, f7, m0, m1⟩, d, hS, hA.le (by first | omega | (simp (dsimp := false) (implicitDefEqProofs := false) [go_sem] <;> omega)), inv, fol⟩
      · have h3 : ¬ j < l.n := by omega
        simp (dsimp := false) (implicitDefEqProofs := false) [go_sem, f1, f3, f5, f7, f10, f11, f16, h3]
        exact ⟨⟨rfl, rfl, by first | omega | (simp (dsimp := false) (implicitDefEqProofs := false) [go_sem] <;> omega), f1, f3, f5, f7, m0, m1⟩, d, hS, hA.le (by first | omega | (simp (dsimp := false) (implicitDefEqProofs := false) [go_sem] <;> omega)), inv, fol⟩
  clear f10 f11 f1 f3 f5 f7 m0 m1 hnx
  rintro ⟨N, fr, mem', nx, lt⟩ ⟨hf, f10, f11, d, hS, hA, inv, fol⟩
  obtain ⟨rfl, rfl, hnx, f1, f3, f5, f7, m0, m1⟩ := hf
  dsimp only at *
  refine runGL_end ?_
  have hPd : d.s.pods.n = d1.s.pods.n := by rw [fol.pods, hpods]
  have hNd : d.s.nodes.n = d1.s.nodes.n := by rw [fol.nn, hnodes]
  by_cases hp3 : p < d1.s.pods.n
  · have q3 : ¬ d1.s.pods.n ≤ p := by omega
    have hgd : isGoneR d p = true := isGoneR_gone (by omega) (fol.gone p (gonep hp3))
    simp (dsimp := false) (implicitDefEqProofs := false) [go_sem, f3, f7, f10, f11, m0, ep, q3]
    refine isGone_S hS p fun n7 hn7 => ?_
    by_cases hn3 : n < d1.s.nodes.n
    · have h3 : ¬ d1.s.nodes.n ≤ n := by omega
      have hlo : (d.s.nodes.el n).lost = true := fol.lost n (lostn hn3)
      have hcl : cordonR d n = 110 := cordonR_lost (by omega) hlo
      have hu := fun i hi => used_none inv (n := n) (i := i) (by omega) hlo hi
      have hu5 : fiveF (usedR d n) = .agg [I 0, I 0, I 0, I 0, I 0] := by unfold fiveF; rw [hu 0 (by omega), hu 1 (by omega), hu 2 (by omega), hu 3 (by omega), hu 4 (by omega)]
      have hcd : cordonD d n true = d := by unfold cordonD; rw [if_neg (by rw [hcl]; decide)]
      simp (dsimp := false) (implicitDefEqProofs := false) [go_sem, f3, f7, f10, f11, m0, ep, q3, hgd, en, h3]
      refine used_S hS inv.ok (hA.le (by omega)) n fun m8 n8 hn8' hk8 => ?_
      have hS8 : StoreM m8 A d := hS.same (hA.le (by omega)) hk8
      rw [hu5]
      simp (dsimp := false) (implicitDefEqProofs := false) [go_sem, f3, f7, f10, f11, m0, ep, q3, hgd, en, h3]
      refine cordon_S hS8 (hA.le (by omega)) n true fun m9 n9 hn9 hS9 hk9 => ?_
      rw [hcd] at hS9
      simp (dsimp := false) (implicitDefEqProofs := false) [go_sem, f3, f7, f10, f11, m0, ep, q3, hgd, en, h3, hcl]
      refine lose_S hS9 inv.ok (hA.le (by omega)) n fun m10 n10 hn10 hS10 hk10 => ?_
      simp (dsimp := false) (implicitDefEqProofs := false) [go_sem, f3, f7, f10, f11, m0, ep, q3, hgd, en, h3, hcl]
      refine callW_f (fs := []) storeWorks_pure ?_
      simp (dsimp := false) (implicitDefEqProofs := false) [go_sem, f3, f7, f10, f11, m0, ep, q3, hgd]
    · have h3 : d1.s.nodes.n ≤ n := by omega
      simp (dsimp := false) (implicitDefEqProofs := false) [go_sem, f3, f7, f10, f11, m0, ep, q3, hgd, en, h3]
      refine callW_f (fs := []) storeWorks_pure ?_
      simp (dsimp := false) (implicitDefEqProofs := false) [go_sem, f3, f7, f10, f11, m0, ep, q3, hgd]
  · have q3 : d1.s.pods.n ≤ p := by omega
    by_cases hn3 : n < d1.s.nodes.n
    · have h3 : ¬ d1.s.nodes.n ≤ n := by omega
      have hlo : (d.s.nodes.el n).lost = true := fol.lost n (lostn hn3)
      have hcl : cordonR d n = 110 := cordonR_lost (by omega) hlo
      have hu := fun i hi => used_none inv (n := n) (i := i) (by omega) hlo hi
      have hu5 : fiveF (usedR d n) = .agg [I 0, I 0, I 0, I 0, I 0] := by unfold fiveF; rw [hu 0 (by omega), hu 1 (by omega), hu 2 (by omega), hu 3 (by omega), hu 4 (by omega)]
      have hcd : cordonD d n true = d := by unfold cordonD; rw [if_neg (by rw [hcl]; decide)]
      simp (dsimp := false) (implicitDefEqProofs := false) [go_sem, f3, f7, f10, f11, m0, ep, q3, en, h3]
      refine used_S hS inv.ok (hA.le (by omega)) n fun m8 n8 hn8' hk8 => ?_
      have hS8 : StoreM m8 A d := hS.same (hA.le (by omega)) hk8
      rw [hu5]
      simp (dsimp := false) (implicitDefEqProofs := false) [go_sem, f3, f7, f10, f11, m0, ep, q3, en, h3]
      refine cordon_S hS8 (hA.le (by omega)) n true fun m9 n9 hn9 hS9 hk9 => ?_
      rw [hcd] at hS9
      simp (dsimp := false) (implicitDefEqProofs := false) [go_sem, f3, f7, f10, f11, m0, ep, q3, en, h3, hcl]
      refine lose_S hS9 inv.ok (hA.le (by omega)) n fun m10 n10 hn10 hS10 hk10 => ?_
      simp (dsimp := false) (implicitDefEqProofs := false) [go_sem, f3, f7, f10, f11, m0, ep, q3, en, h3, hcl]
      refine callW_f (fs := []) storeWorks_pure ?_
      simp (dsimp := false) (implicitDefEqProofs := false) [go_sem, f3, f7, f10, f11, m0, ep, q3]
    · have h3 : d1.s.nodes.n ≤ n := by omega
      simp (dsimp := false) (implicitDefEqProofs := false) [go_sem, f3, f7, f10, f11, m0, ep, q3, en, h3]
      refine callW_f (fs := []) storeWorks_pure ?_
      simp (dsimp := false) (implicitDefEqProofs := false) [go_sem, f3, f7, f10, f11, m0, ep, q3]
end Go.Proofs.YtlefoohoeomklaaGreat
