/- StoreSteps, over data. -/
import Derived.Test.YtlefoohoeomklaaGreatJQn
import Derived.Test.YtlefoohoeomklaaGreatJDe
import Derived.Test.YtlefoohoeomklaaGreatJQp
set_option linter.unusedSimpArgs false
set_option linter.unusedVariables false
namespace Go.Proofs.YtlefoohoeomklaaGreat
open Go.RowKit Go.Dk Go.Dn

/-- where the law's own lie -/
structure StepsF (l : Lst DoD) (s : SnapD) (A : SA) (n0 : Nat) (st : St) : Prop where
  n : st.n = 139
  lit : st.lit = false
  nx : n0 ≤ st.next
  f1 : st.fr 1 = .f (dosF l)
  f2 : st.fr 2 = .loc 0 0
  f5 : st.fr 5 = .loc A.t 0
  m0 : st.mem 0 = some (.blk [.f (nodesF s.nodes), .f (podsF s.pods), .f (ownersF s.owners)])
section
variable {d : StD} {k m n0 : Nat}
theorem podE_in (hk : k < d.s.pods.n) : podE d k = 0 := by unfold podE; rw [if_pos (by omega)]
theorem podE_out (hk : d.s.pods.n ≤ k) : podE d k = 9 := by unfold podE; rw [if_neg (by omega)]
theorem nodeE_in (hk : k < d.s.nodes.n) : nodeE d k = 0 := by unfold nodeE; rw [if_pos (by omega)]
theorem nodeE_out (hk : d.s.nodes.n ≤ k) : nodeE d k = 9 := by unfold nodeE; rw [if_neg (by omega)]
theorem ev_none (hk : k < d.s.pods.n) (h : d.on k = -1) : evictR d k = 110 ∧ evictD d k = d := by simp [evictR, evictD, podE_in hk, h]
theorem ev_out (hk : d.s.pods.n ≤ k) : evictR d k = 9 ∧ evictD d k = d := by simp [evictR, evictD, podE_out hk]
theorem ev_some (inv : DInv d) (hk : k < d.s.pods.n) (h : d.on k = n0) : evictR d k = 0 ∧ (evictD d k).on = setC d.on k (-1) ∧ (evictD d k).gone k = false ∧ (evictD d k).s = d.s := by
  have h1 : ¬ ((n0 : Int) = -1) := by omega
  have e : evictD d k = takeD d k n0 := by simp [evictD, podE_in hk, h, h1]
  refine ⟨by simp [evictR, podE_in hk, h, h1], by rw [e]; rfl, ?_, by rw [e]; rfl⟩
  rw [e]
  show d.gone k = false
  cases hg : d.gone k with
  | false => rfl
  | true => have := inv.gone k hk hg; omega
theorem bd_out (h : d.s.pods.n ≤ k ∨ d.s.nodes.n ≤ m) : bindR d k m = 9 ∧ bindD d k m = d := by
  have e : bindR d k m = 9 := by
    unfold bindR
    rw [if_neg]
    rintro ⟨h1, h2⟩
    rcases h with h | h
    · rw [podE_out h] at h1; cases h1
    · rw [nodeE_out h] at h2; cases h2
  exact ⟨e, by unfold bindD; rw [e]; rfl⟩
theorem bd_no (hk : k < d.s.pods.n) (hm : m < d.s.nodes.n) (h : d.on k ≠ -1 ∨ d.gone k = true ∨ (d.s.nodes.el m).lost = true) : bindR d k m = 110 ∧ bindD d k m = d := by
  have e : bindR d k m = 110 := by
    unfold bindR
    rw [if_pos ⟨podE_in hk, nodeE_in hm⟩]
    simp only [Int.toNat_natCast]
    rw [if_pos h]
  exact ⟨e, by unfold bindD; rw [e]; rfl⟩
theorem bd_ok (hk : k < d.s.pods.n) (hm : m < d.s.nodes.n) (h1 : d.on k = -1) (h2 : d.gone k = false) (h3 : (d.s.nodes.el m).lost = false) : bindR d k m = 0 ∧ (bindD d k m).on = setC d.on k m ∧ (bindD d k m).gone k = false ∧ (bindD d k m).s = d.s := by
  have e : bindR d k m = 0 := by
    unfold bindR
    rw [if_pos ⟨podE_in hk, nodeE_in hm⟩]
    simp [h1, h2, h3]
  have e2 : bindD d k m = putD d k m := by unfold bindD; rw [if_pos e]; rfl
  exact ⟨e, by rw [e2]; rfl, by rw [e2]; exact h2, by rw [e2]; rfl⟩
theorem back_ok (inv : DInv d) (hk : k < d.s.pods.n) (hn : n0 < d.s.nodes.n) (h : d.on k = n0) : bindR (evictD d k) k n0 = 0 ∧ (bindD (evictD d k) k n0).on = d.on ∧ (bindD (evictD d k) k n0).gone k = false ∧ (bindD (evictD d k) k n0).s = d.s := by
  obtain ⟨-, v2, v3, v4⟩ := ev_some inv hk h
  have hl : (d.s.nodes.el n0).lost = false := by
    cases hl : (d.s.nodes.el n0).lost with
    | false => rfl
    | true => exact absurd h (inv.lost n0 hn hl k hk)
  obtain ⟨b1, b2, b3, b4⟩ := bd_ok (d := evictD d k) (k := k) (m := n0) (by rw [v4]; exact hk) (by rw [v4]; exact hn) (by rw [v2]; simp [setC]) v3 (by rw [v4]; exact hl)
  refine ⟨b1, ?_, b3, b4.trans v4⟩
  rw [b2, v2]
  funext i
  unfold setC
  by_cases e : i = k
  · subst e; simp [h]
  · simp [e]
theorem isGone_at (hk : k < d.s.pods.n) : isGoneR d k = d.gone k := by simp [isGoneR, podE_in hk]
theorem isGone_out (hk : d.s.pods.n ≤ k) : isGoneR d k = false := by simp [isGoneR, podE_out hk]
end
set_option maxRecDepth 100000 in
set_option maxHeartbeats 8000000 in
theorem storeSteps_pure (s : SnapD) (ok : SnapOk s) (l : Lst DoD) (hl : l.n ≤ 1048576) : Pure Tryz.prog 7 [snapF s, dosF l] (B true) := by
  refine Pure.of_runG (lit := false) (fun n => if n = 1 then [1] else if n = 8 then [1, 3] else if n = 15 then [3] else if n = 16 then [3] else if n = 17 then [2] else if n = 20 then [6] else if n = 21 then [3] else if n = 22 then [2] else if n = 25 then [8, 19] else []) Tryz.func7 rfl rfl rfl rfl (Nat.le_of_ble_eq_true rfl) (runG_of_runGL ?_)
  unfold St.enter
  refine runGL_on ?_
  simp (dsimp := false) (implicitDefEqProofs := false) [go_sem, snapF, snapC]
  refine runGL_on ?_
  simp (dsimp := false) (implicitDefEqProofs := false) [go_sem]
  refine live_S s ok fun s' A m' n' ok' he hn' hkept hS hA hids => ?_
  have k0 : m' 0 = some (.blk [.f (nodesF s.nodes), .f (podsF s.pods), .f (ownersF s.owners)]) := by
    rw [hkept 0 (by omega) (by simp)]
    simp (dsimp := false) (implicitDefEqProofs := false) [upd]
  have hi0 : 0 ∉ A.ids := fun h => by have := hids 0 h; omega
  simp (dsimp := false) (implicitDefEqProofs := false) [go_sem, k0, snapF, snapC]
  have hS1 : ∀ x, StoreM (upd m' 0 x) A (startD s') := fun x => hS.other (fun i hi => by have : ¬ i = 0 := fun e => hi0 (e ▸ hi); simp (dsimp := false) (implicitDefEqProofs := false) [upd, this])
  have inv0 : DInv (startD s') := startD_inv he
  refine runGL_on ?_
  simp (dsimp := false) (implicitDefEqProofs := false) [go_sem]
  refine runGL_cut (fun st => StepsF l s' A n' st) ?_ ?_
  · simp (dsimp := false) (implicitDefEqProofs := false) [go_sem]
    refine runCL_loop [] (fun m st => ∃ (j : Nat) (d : StD), j ≤ 60 ∧ m = 60 - j ∧ StepsF l s' A n' st ∧ st.fr 6 = .f (I j) ∧ StoreM st.mem A d ∧ A.Ok st.next ∧ DInv d ∧ LikeS s' d.s) 60 ⟨0, startD s', by omega, rfl, ⟨rfl, rfl, ?_, rfl, rfl, rfl, ?_⟩, rfl, ?_, ?_, inv0, LikeS.refl _⟩ ?_
    · first | omega | (simp (dsimp := false) (implicitDefEqProofs := false) [go_sem] <;> omega)
    · simp (dsimp := false) (implicitDefEqProofs := false) [go_sem, upd]
    · exact hS1 _
    · exact hA.le (by first | omega | (simp (dsimp := false) (implicitDefEqProofs := false) [go_sem] <;> omega))
    rintro m ⟨N, fr, mem, nx, lt⟩ ⟨j, d, hj, rfl, hf, f6, hS, hA, inv, like⟩
    obtain ⟨rfl, rfl, hnx, f1, f2, f5, m0⟩ := hf
    dsimp only at *
    by_cases hc : j < l.n ∧ j < 60
    · have hc1 := hc.1
      have hc2 : (j : Int) < 60 := by omega
      have okd : SnapOk d.s := like_ok like ok'
      simp (dsimp := false) (implicitDefEqProofs := false) [go_sem, f1, f2, f5, f6, hc1, hc2, encL_get? _ hc1, doC_eq (l.el j)]
      generalize hbi : nx + 8 + 4 = bi
      generalize hmb : upd (upd mem bi _) bi _ = mb
      have q0 : mb 0 = some (.blk [.f (nodesF s'.nodes), .f (podsF s'.pods), .f (ownersF s'.owners)]) := by
        have : ¬ 0 = bi := by omega
        rw [← hmb]
        simp (dsimp := false) (implicitDefEqProofs := false) [upd, this, m0]
      have qi : mb bi = some (.blk [.f (I (l.el j).kind), .f (I (l.el j).a), .f (I (l.el j).b), .f (B (l.el j).raw)]) := by
        rw [← hmb]
        simp (dsimp := false) (implicitDefEqProofs := false) [upd]
      have hSb : StoreM mb A d := hS.other fun i hi => by
        have := hA.lt i hi
        have e : ¬ i = bi := by omega
        rw [← hmb]
        simp (dsimp := false) (implicitDefEqProofs := false) [upd, e]
      clear hmb m0 hS
      have hbiA : bi ∉ A.ids := fun h => by have := hA.lt bi h; omega
      refine snap_S hSb inv (hA.le (by omega)) okd fun m1 n1 g1 g2 g3 l1 l2 l3 l4 kp1 r1 r2 r3 => ?_
      have hSb1 : StoreM m1 A d := hSb.same (hA.le (by omega)) kp1
      have q01 := (kp1 0 (by omega) (by simp)).trans q0
      have qi1 := (kp1 bi (by omega) (by simp)).trans qi
      simp (dsimp := false) (implicitDefEqProofs := false) [go_sem, f1, f2, f5, f6]
      refine placement_S hSb1 inv.ok (hA.le (by omega)) fun g m2 n2 lg lgn kp2 rg => ?_
      have hS2 : StoreM m2 A d := hSb1.same (hA.le (by omega)) kp2
      have q02 := (kp2 0 (by omega) (by simp)).trans q01
      have qi2 := (kp2 bi (by omega) (by simp)).trans qi1
      have r12 := (kp2 g1 (by omega) (by simp)).trans r1
      have r22 := (kp2 g2 (by omega) (by simp)).trans r2
      have r32 := (kp2 g3 (by omega) (by simp)).trans r3
      clear kp1 kp2 hSb hSb1 q01 qi1 r1 r2 r3 q0 qi
      simp (dsimp := false) (implicitDefEqProofs := false) [go_sem, f1, f2, f5, f6]
      generalize hb8 : n2 + 4 = b8
      generalize hmb : upd (upd m2 b8 _) b8 _ = mb3
      have q8 : mb3 b8 = some (.blk [.own g1 0, .own g2 0, .own g3 0]) := by
        rw [← hmb]
        simp (dsimp := false) (implicitDefEqProofs := false) [upd]
      have oth : ∀ i, i < n2 → mb3 i = m2 i := fun i hi => by
        have e : ¬ i = b8 := by omega
        rw [← hmb]
        simp (dsimp := false) (implicitDefEqProofs := false) [upd, e]
      clear hmb
      have q03 := (oth 0 (by omega)).trans q02
      have qi3 := (oth bi (by omega)).trans qi2
      have r13 := (oth g1 (by omega)).trans r12
      have r23 := (oth g2 (by omega)).trans r22
      have r33 := (oth g3 (by omega)).trans r32
      have rg3 := (oth g (by omega)).trans rg
      have hS3 : StoreM mb3 A d := hS2.other fun i hi => by
        have := hA.lt i hi
        exact oth i (by omega)
      clear oth q02 qi2 r12 r22 r32 rg hS2
      have hgA : ∀ i, nx ≤ i → i ∉ A.ids := fun i hi h => by have := hA.lt i h; omega
      have hn8 := inv.ok.s.n8
      have hp24 := inv.ok.s.p24
      have en : s'.nodes.n = d.s.nodes.n := like.1.symm
      have ep : s'.pods.n = d.s.pods.n := by rw [like.2.1]
      have wn : IntKind.i64.wrap ((d.s.nodes.n : Int) + 1) = (d.s.nodes.n : Int) + 1 := w64 (by omega) (by omega)
      have wp : IntKind.i64.wrap ((d.s.pods.n : Int) + 1) = (d.s.pods.n : Int) + 1 := w64 (by omega) (by omega)
      have bp := bring_pure (l.el j).a ((d.s.pods.n : Int) + 1) (by omega) (by omega)
      have bn := bring_pure (l.el j).b ((d.s.nodes.n : Int) + 1) (by omega) (by omega)
      obtain ⟨a1, a2⟩ := bringV_range (a := (l.el j).a) (n := (d.s.pods.n : Int) + 1) (by omega)
      obtain ⟨b1, b2⟩ := bringV_range (a := (l.el j).b) (n := (d.s.nodes.n : Int) + 1) (by omega)
      obtain ⟨k, hk⟩ : ∃ k : Nat, bringV (l.el j).a ((d.s.pods.n : Int) + 1) = k := ⟨_, (Int.toNat_of_nonneg a1).symm⟩
      obtain ⟨m, hm⟩ : ∃ m : Nat, bringV (l.el j).b ((d.s.nodes.n : Int) + 1) = m := ⟨_, (Int.toNat_of_nonneg b1).symm⟩
      rw [hk] at a2 bp
      rw [hm] at b2 bn
      have hk2 : k ≤ d.s.pods.n := by omega
      have hm2 : m ≤ d.s.nodes.n := by omega
      clear a1 b1 hk hm a2 b2
      generalize hb9 : n2 + 7 = b9
      have v9 : 0 < b9 ∧ bi < b9 := by omega
      refine runCL_draw [[], [0], [], [2], [3, 2], [4, 3, 2], [1, 0, 5, 4, 3, 2], [], [7], [], [9], [10, 9], [11, 10, 9], [8, 7, 12, 11, 10, 9, 6, 1, 0, 5, 4, 3, 2], [6, 1, 0, 5, 4, 3, 2, 13, 8, 7, 12, 11, 10, 9], [13, 8, 7, 12, 11, 10, 9, 6, 1, 0, 5, 4, 3, 2, 14]] rfl (by kernel_rfl) (by kernel_rfl) ?_
      simp (dsimp := false) (implicitDefEqProofs := false) [go_sem, Tv, Cw, silentAt, silentOp, f1, f2, f5, f6, q03, qi3, v9, en, ep, wn, wp]
      refine callW_f bp ?_
      simp (dsimp := false) (implicitDefEqProofs := false) [go_sem, Tv, Cw, silentAt, silentOp, f1, f2, f5, f6, q03, qi3, v9, en, ep, wn, wp]
      refine callW_f bn ?_
      simp (dsimp := false) (implicitDefEqProofs := false) [go_sem, Tv, Cw, silentAt, silentOp, f1, f2, f5, f6, q03, qi3, v9, en, ep, wn, wp]
      generalize hbx : b9 + 16 + 3 = bx
      generalize hmb : upd (upd mb3 bx _) bx _ = mb4
      have qA0 : mb4 bx = some (.blk ((stepC true k m).map .f)) := by
        rw [← hmb]
        simp (dsimp := false) (implicitDefEqProofs := false) [upd, stepC]
      have oth : ∀ i, i < b9 → mb4 i = mb3 i := fun i hi => by
        have e : ¬ i = bx := by omega
        rw [← hmb]
        simp (dsimp := false) (implicitDefEqProofs := false) [upd, e]
      clear hmb
      have hS4 : StoreM mb4 A d := hS3.other fun i hi => by
        have := hA.lt i hi
        exact oth i (by omega)
      have r14 := (oth g1 (by omega)).trans r13
      have r24 := (oth g2 (by omega)).trans r23
      have r34 := (oth g3 (by omega)).trans r33
      have rp4 := (oth g (by omega)).trans rg3
      have qi4 := (oth bi (by omega)).trans qi3
      have q84 := (oth b8 (by omega)).trans q8
      have q04 := (oth 0 (by omega)).trans q03
      simp (dsimp := false) (implicitDefEqProofs := false) [go_sem, qi4]
      have r6 := bringV_range (a := (l.el j).kind) (n := 6) (by decide)
      refine callW_f (bring_pure (l.el j).kind 6 (by decide) (by decide)) ?_
      obtain ⟨c, hc⟩ : ∃ c : Nat, bringV (l.el j).kind 6 = c := ⟨_, (Int.toNat_of_nonneg r6.1).symm⟩
      rw [hc] at r6
      rcases (by omega : c = 0 ∨ (c = 1 ∨ c = 2) ∨ 3 ≤ c) with rfl | c12 | c3
      · simp (dsimp := false) (implicitDefEqProofs := false) [go_sem, hc, qA0, stepC]
        generalize hmb : upd mb4 bx _ = mbA
        have oth2 : ∀ i, i < b9 → mbA i = mb4 i := fun i hi => by
          have e : ¬ i = bx := by omega
          rw [← hmb]
          simp (dsimp := false) (implicitDefEqProofs := false) [upd, e]
        have qAx : mbA bx = some (.blk ((stepC false k m).map .f)) := by
          rw [← hmb]
          simp (dsimp := false) (implicitDefEqProofs := false) [upd, stepC]
        clear hmb
        have hSA : StoreM mbA A d := hS4.other fun i hi => by
          have := hA.lt i hi
          exact oth2 i (by omega)
        have qA := (oth2 0 (by omega)).trans q04
        have q8A := (oth2 b8 (by omega)).trans q84
        have r1A := (oth2 g1 (by omega)).trans r14
        have r2A := (oth2 g2 (by omega)).trans r24
        have r3A := (oth2 g3 (by omega)).trans r34
        have rpA := (oth2 g (by omega)).trans rp4
        simp (dsimp := false) (implicitDefEqProofs := false) [go_sem, f1, f2, f5, f6, q8A, qAx, stepC]
        rcases Nat.lt_or_ge k d.s.pods.n with hkn | hkn
        · rcases inv.ok.on k hkn with e1 | ⟨n0, hn0, e1⟩
          · have hE : applyE (nowS d) d.on false k m = 110 := by simp [applyE, nowS, onS, hkn, e1]
            refine apply_S (nowS d) (onS_ok inv.onOk okd) d.on inv.onOk (now_place like he inv.onOk) r1A r2A r3A rpA (by omega) (by omega) (by omega) (by omega) false k m (fun _ m5 n5 hn5 kp5 => ?_) (fun hg5 => absurd (hE.symm.trans hg5) (by decide))
            rw [hE]
            have hS5 := hSA.same (hA.le (by omega)) kp5
            have q5 := (kp5 0 (by omega) (by simp)).trans qA
            have rp5 := (kp5 g (by omega) (by simp)).trans rpA
            simp (dsimp := false) (implicitDefEqProofs := false) [go_sem, f1, f2, f5, f6]
            refine evict_S hS5 inv.ok (hA.le (by omega)) k fun m6 n6 hn6 hS6 kp6 => ?_
            have q6 := (kp6 0 (by omega) hi0).trans q5
            have rp6 := (kp6 g (by omega) (hgA g (by omega))).trans rp5
            have hf := (ev_none hkn e1).1
            rw [(ev_none hkn e1).2] at hS6
            simp (dsimp := false) (implicitDefEqProofs := false) [go_sem, f1, f2, f5, f6, hf]
            have hgo := isGone_at hkn
            cases hgk : d.gone k with
            | true =>
              rw [hgk] at hgo
              refine isGone_S hS6 k fun ni1 hni1 => ?_
              simp (dsimp := false) (implicitDefEqProofs := false) [go_sem, f1, f2, f5, f6, hgo, hf]
              exact ⟨_, by omega, j + 1, by omega, rfl, ⟨rfl, rfl, by first | omega | (simp (dsimp := false) (implicitDefEqProofs := false) [go_sem] <;> omega), f1, f2, f5, q6⟩, w64 (by omega) (by omega), d, hS6, hA.le (by first | omega | (simp (dsimp := false) (implicitDefEqProofs := false) [go_sem] <;> omega)), inv, like⟩
            | false =>
              rw [hgk] at hgo
              refine isGone_S hS6 k fun ni2 hni2 => ?_
              simp (dsimp := false) (implicitDefEqProofs := false) [go_sem, f1, f2, f5, f6, hgo, hf]
              refine placement_S hS6 inv.ok (hA.le (by omega)) fun g9 m9 n9 lg9 lgn9 kp9 rg9 => ?_
              have hS9 := hS6.same (hA.le (by omega)) kp9
              have q9 := (kp9 0 (by omega) (by simp)).trans q6
              have rp9 := (kp9 g (by omega) (by simp)).trans rp6
              rw [show d.s.pods.n = d.s.pods.n from rfl] at rg9
              simp (dsimp := false) (implicitDefEqProofs := false) [go_sem, f1, f2, f5, f6]
              refine callW_z (fs := [.sl 1 (encL d.s.pods.n fun i => [I (d.on i)]), .sl 1 (encL d.s.pods.n fun i => [I (d.on i)])]) (by simp (dsimp := false) (implicitDefEqProofs := false) [omap, frz, rg9, rp9]) (eqInts_row _ _ okd.p1) rfl ?_
              simp (dsimp := false) (implicitDefEqProofs := false) [go_sem, f1, f2, f5, f6]
              exact ⟨_, by omega, j + 1, by omega, rfl, ⟨rfl, rfl, by first | omega | (simp (dsimp := false) (implicitDefEqProofs := false) [go_sem] <;> omega), f1, f2, f5, q9⟩, w64 (by omega) (by omega), d, hS9, hA.le (by first | omega | (simp (dsimp := false) (implicitDefEqProofs := false) [go_sem] <;> omega)), inv, like⟩
          · have hE : applyE (nowS d) d.on false k m = 0 := by
              have : ¬ ((n0 : Int) = -1) := by omega
              simp [applyE, nowS, onS, hkn, e1, this]
            refine apply_S (nowS d) (onS_ok inv.onOk okd) d.on inv.onOk (now_place like he inv.onOk) r1A r2A r3A rpA (by omega) (by omega) (by omega) (by omega) false k m (fun hb5 => absurd hE hb5) (fun _ m5 n5 q lq5 lqn5 kp5 rq5 => ?_)
            have rq5 : m5 q = some (.row 3 0 1 (encL d.s.pods.n fun i => [I (setC d.on k (-1) i)])) := rq5
            have hS5 := hSA.same (hA.le (by omega)) kp5
            have q5 := (kp5 0 (by omega) (by simp)).trans qA
            have rp5 := (kp5 g (by omega) (by simp)).trans rpA
            simp (dsimp := false) (implicitDefEqProofs := false) [go_sem, f1, f2, f5, f6]
            obtain ⟨v1, v2, v3, v4⟩ := ev_some inv hkn e1
            obtain ⟨inv6, -⟩ := evictD_inv inv (k : Int)
            refine evict_S hS5 inv.ok (hA.le (by omega)) k fun m6 n6 hn6 hS6 kp6 => ?_
            have q6 := (kp6 0 (by omega) hi0).trans q5
            have rp6 := (kp6 g (by omega) (hgA g (by omega))).trans rp5
            have rq6 := (kp6 q (by omega) (hgA q (by omega))).trans rq5
            have hf := v1
            simp (dsimp := false) (implicitDefEqProofs := false) [go_sem, f1, f2, f5, f6, hf]
            have hgo : isGoneR (evictD d k) k = false := by rw [isGone_at (by rw [v4]; exact hkn)]; exact v3
            refine isGone_S hS6 k fun ni3 hni3 => ?_
            simp (dsimp := false) (implicitDefEqProofs := false) [go_sem, f1, f2, f5, f6, hgo, hf]
            refine placement_S hS6 inv6.ok (hA.le (by omega)) fun g9 m9 n9 lg9 lgn9 kp9 rg9 => ?_
            have hS9 := hS6.same (hA.le (by omega)) kp9
            have q9 := (kp9 0 (by omega) (by simp)).trans q6
            have rp9 := (kp9 g (by omega) (by simp)).trans rp6
            have rq9 := (kp9 q (by omega) (by simp)).trans rq6
            rw [v2, v4] at rg9
            simp (dsimp := false) (implicitDefEqProofs := false) [go_sem, f1, f2, f5, f6]
            refine callW_z (fs := [.sl 1 (encL d.s.pods.n fun i => [I (setC d.on k (-1) i)]), .sl 1 (encL d.s.pods.n fun i => [I (setC d.on k (-1) i)])]) (by simp (dsimp := false) (implicitDefEqProofs := false) [omap, frz, rg9, rq9]) (eqInts_row _ _ okd.p1) rfl ?_
            simp (dsimp := false) (implicitDefEqProofs := false) [go_sem, f1, f2, f5, f6]
            exact ⟨_, by omega, j + 1, by omega, rfl, ⟨rfl, rfl, by first | omega | (simp (dsimp := false) (implicitDefEqProofs := false) [go_sem] <;> omega), f1, f2, f5, q9⟩, w64 (by omega) (by omega), (evictD d k), hS9, hA.le (by first | omega | (simp (dsimp := false) (implicitDefEqProofs := false) [go_sem] <;> omega)), inv6, (by rw [v4]; exact like)⟩
        · have hE : applyE (nowS d) d.on false k m = 9 := by
            have : ¬ k < d.s.pods.n := by omega
            simp [applyE, nowS, onS, this]
          refine apply_S (nowS d) (onS_ok inv.onOk okd) d.on inv.onOk (now_place like he inv.onOk) r1A r2A r3A rpA (by omega) (by omega) (by omega) (by omega) false k m (fun _ m5 n5 hn5 kp5 => ?_) (fun hg5 => absurd (hE.symm.trans hg5) (by decide))
          rw [hE]
          have hS5 := hSA.same (hA.le (by omega)) kp5
          have q5 := (kp5 0 (by omega) (by simp)).trans qA
          have rp5 := (kp5 g (by omega) (by simp)).trans rpA
          simp (dsimp := false) (implicitDefEqProofs := false) [go_sem, f1, f2, f5, f6]
          refine evict_S hS5 inv.ok (hA.le (by omega)) k fun m6 n6 hn6 hS6 kp6 => ?_
          have q6 := (kp6 0 (by omega) hi0).trans q5
          have rp6 := (kp6 g (by omega) (hgA g (by omega))).trans rp5
          have hf := (ev_out hkn).1
          rw [(ev_out hkn).2] at hS6
          simp (dsimp := false) (implicitDefEqProofs := false) [go_sem, f1, f2, f5, f6, hf]
          have hgo := isGone_out hkn
          refine isGone_S hS6 k fun ni4 hni4 => ?_
          simp (dsimp := false) (implicitDefEqProofs := false) [go_sem, f1, f2, f5, f6, hgo, hf]
          refine placement_S hS6 inv.ok (hA.le (by omega)) fun g9 m9 n9 lg9 lgn9 kp9 rg9 => ?_
          have hS9 := hS6.same (hA.le (by omega)) kp9
          have q9 := (kp9 0 (by omega) (by simp)).trans q6
          have rp9 := (kp9 g (by omega) (by simp)).trans rp6
          rw [show d.s.pods.n = d.s.pods.n from rfl] at rg9
          simp (dsimp := false) (implicitDefEqProofs := false) [go_sem, f1, f2, f5, f6]
          refine callW_z (fs := [.sl 1 (encL d.s.pods.n fun i => [I (d.on i)]), .sl 1 (encL d.s.pods.n fun i => [I (d.on i)])]) (by simp (dsimp := false) (implicitDefEqProofs := false) [omap, frz, rg9, rp9]) (eqInts_row _ _ okd.p1) rfl ?_
          simp (dsimp := false) (implicitDefEqProofs := false) [go_sem, f1, f2, f5, f6]
          exact ⟨_, by omega, j + 1, by omega, rfl, ⟨rfl, rfl, by first | omega | (simp (dsimp := false) (implicitDefEqProofs := false) [go_sem] <;> omega), f1, f2, f5, q9⟩, w64 (by omega) (by omega), d, hS9, hA.le (by first | omega | (simp (dsimp := false) (implicitDefEqProofs := false) [go_sem] <;> omega)), inv, like⟩
      · have c0 : ((c : Int) == 0) = false := by simp; omega
        have c2 : ¬ (2 < (c : Int)) := by omega
        have c00 : 0 < c := by omega
        have hSA := hS4
        have qA := q04
        have r1A := r14
        have r2A := r24
        have r3A := r34
        have rpA := rp4
        simp (dsimp := false) (implicitDefEqProofs := false) [go_sem, hc, c0, c2, f1, f2, f5, f6, q84, qA0, stepC]
        rcases Nat.lt_or_ge k d.s.pods.n with hkn | hkn
        · rcases inv.ok.on k hkn with e1 | ⟨n0, hn0, e1⟩
          · have hgo0 := isGone_at hkn
            rcases Nat.lt_or_ge m d.s.nodes.n with hmn | hmn
            · cases hgk : d.gone k with
              | true =>
                rw [hgk] at hgo0
                cases hlm : (d.s.nodes.el m).lost with
                | true =>
                  have hE : applyE (nowS d) d.on true k m = 110 := by simp [applyE, nowS, onS, hkn, hmn, e1, hlm]
                  refine apply_S (nowS d) (onS_ok inv.onOk okd) d.on inv.onOk (now_place like he inv.onOk) r1A r2A r3A rpA (by omega) (by omega) (by omega) (by omega) true k m (fun _ m5 n5 hn5 kp5 => ?_) (fun hg5 => absurd (hE.symm.trans hg5) (by decide))
                  rw [hE]
                  have hS5 := hSA.same (hA.le (by omega)) kp5
                  have q5 := (kp5 0 (by omega) (by simp)).trans qA
                  have rp5 := (kp5 g (by omega) (by simp)).trans rpA
                  simp (dsimp := false) (implicitDefEqProofs := false) [go_sem, f1, f2, f5, f6, c00]
                  refine evict_S hS5 inv.ok (hA.le (by omega)) k fun m6 n6 hn6 hS6 kp6 => ?_
                  have q6 := (kp6 0 (by omega) hi0).trans q5
                  have rp6 := (kp6 g (by omega) (hgA g (by omega))).trans rp5
                  have hf := (ev_none hkn e1).1
                  rw [(ev_none hkn e1).2] at hS6
                  simp (dsimp := false) (implicitDefEqProofs := false) [go_sem, f1, f2, f5, f6, c00, hf]
                  refine bind_S hS6 inv.ok (hA.le (by omega)) k m fun m7 n7 hn7 hS7 kp7 => ?_
                  have q7 := (kp7 0 (by omega) hi0).trans q6
                  have rp7 := (kp7 g (by omega) (hgA g (by omega))).trans rp6
                  have hf := (bd_no hkn hmn (.inr (.inl hgk))).1
                  rw [(bd_no hkn hmn (.inr (.inl hgk))).2] at hS7
                  simp (dsimp := false) (implicitDefEqProofs := false) [go_sem, f1, f2, f5, f6, c00, hf]
                  refine isGone_S hS7 k fun ni1 hni1 => ?_
                  simp (dsimp := false) (implicitDefEqProofs := false) [go_sem, f1, f2, f5, f6, c00, hgo0, hf]
                  exact ⟨_, by omega, j + 1, by omega, rfl, ⟨rfl, rfl, by first | omega | (simp (dsimp := false) (implicitDefEqProofs := false) [go_sem] <;> omega), f1, f2, f5, q7⟩, w64 (by omega) (by omega), d, hS7, hA.le (by first | omega | (simp (dsimp := false) (implicitDefEqProofs := false) [go_sem] <;> omega)), inv, like⟩
                | false =>
                  have hE : applyE (nowS d) d.on true k m = 0 := by simp [applyE, nowS, onS, hkn, hmn, e1, hlm]
                  refine apply_S (nowS d) (onS_ok inv.onOk okd) d.on inv.onOk (now_place like he inv.onOk) r1A r2A r3A rpA (by omega) (by omega) (by omega) (by omega) true k m (fun hb5 => absurd hE hb5) (fun _ m5 n5 q lq5 lqn5 kp5 rq5 => ?_)
                  have rq5 : m5 q = some (.row 3 0 1 (encL d.s.pods.n fun i => [I (setC d.on k (m) i)])) := rq5
                  have hS5 := hSA.same (hA.le (by omega)) kp5
                  have q5 := (kp5 0 (by omega) (by simp)).trans qA
                  have rp5 := (kp5 g (by omega) (by simp)).trans rpA
                  simp (dsimp := false) (implicitDefEqProofs := false) [go_sem, f1, f2, f5, f6, c00]
                  refine evict_S hS5 inv.ok (hA.le (by omega)) k fun m6 n6 hn6 hS6 kp6 => ?_
                  have q6 := (kp6 0 (by omega) hi0).trans q5
                  have rp6 := (kp6 g (by omega) (hgA g (by omega))).trans rp5
                  have hf := (ev_none hkn e1).1
                  rw [(ev_none hkn e1).2] at hS6
                  simp (dsimp := false) (implicitDefEqProofs := false) [go_sem, f1, f2, f5, f6, c00, hf]
                  refine bind_S hS6 inv.ok (hA.le (by omega)) k m fun m7 n7 hn7 hS7 kp7 => ?_
                  have q7 := (kp7 0 (by omega) hi0).trans q6
                  have rp7 := (kp7 g (by omega) (hgA g (by omega))).trans rp6
                  have hf := (bd_no (m := m) hkn hmn (.inr (.inl hgk))).1
                  rw [(bd_no (m := m) hkn hmn (.inr (.inl hgk))).2] at hS7
                  simp (dsimp := false) (implicitDefEqProofs := false) [go_sem, f1, f2, f5, f6, c00, hf]
                  refine isGone_S hS7 k fun ni2 hni2 => ?_
                  simp (dsimp := false) (implicitDefEqProofs := false) [go_sem, f1, f2, f5, f6, c00, hgo0, hf]
                  exact ⟨_, by omega, j + 1, by omega, rfl, ⟨rfl, rfl, by first | omega | (simp (dsimp := false) (implicitDefEqProofs := false) [go_sem] <;> omega), f1, f2, f5, q7⟩, w64 (by omega) (by omega), d, hS7, hA.le (by first | omega | (simp (dsimp := false) (implicitDefEqProofs := false) [go_sem] <;> omega)), inv, like⟩
              | false =>
                rw [hgk] at hgo0
                cases hlm : (d.s.nodes.el m).lost with
                | true =>
                  have hE : applyE (nowS d) d.on true k m = 110 := by simp [applyE, nowS, onS, hkn, hmn, e1, hlm]
                  refine apply_S (nowS d) (onS_ok inv.onOk okd) d.on inv.onOk (now_place like he inv.onOk) r1A r2A r3A rpA (by omega) (by omega) (by omega) (by omega) true k m (fun _ m5 n5 hn5 kp5 => ?_) (fun hg5 => absurd (hE.symm.trans hg5) (by decide))
                  rw [hE]
                  have hS5 := hSA.same (hA.le (by omega)) kp5
                  have q5 := (kp5 0 (by omega) (by simp)).trans qA
                  have rp5 := (kp5 g (by omega) (by simp)).trans rpA
                  simp (dsimp := false) (implicitDefEqProofs := false) [go_sem, f1, f2, f5, f6, c00]
                  refine evict_S hS5 inv.ok (hA.le (by omega)) k fun m6 n6 hn6 hS6 kp6 => ?_
                  have q6 := (kp6 0 (by omega) hi0).trans q5
                  have rp6 := (kp6 g (by omega) (hgA g (by omega))).trans rp5
                  have hf := (ev_none hkn e1).1
                  rw [(ev_none hkn e1).2] at hS6
                  simp (dsimp := false) (implicitDefEqProofs := false) [go_sem, f1, f2, f5, f6, c00, hf]
                  refine bind_S hS6 inv.ok (hA.le (by omega)) k m fun m7 n7 hn7 hS7 kp7 => ?_
                  have q7 := (kp7 0 (by omega) hi0).trans q6
                  have rp7 := (kp7 g (by omega) (hgA g (by omega))).trans rp6
                  have hf := (bd_no hkn hmn (.inr (.inr hlm))).1
                  rw [(bd_no hkn hmn (.inr (.inr hlm))).2] at hS7
                  simp (dsimp := false) (implicitDefEqProofs := false) [go_sem, f1, f2, f5, f6, c00, hf]
                  refine isGone_S hS7 k fun ni3 hni3 => ?_
                  simp (dsimp := false) (implicitDefEqProofs := false) [go_sem, f1, f2, f5, f6, c00, hgo0, hf]
                  refine placement_S hS7 inv.ok (hA.le (by omega)) fun g9 m9 n9 lg9 lgn9 kp9 rg9 => ?_
                  have hS9 := hS7.same (hA.le (by omega)) kp9
                  have q9 := (kp9 0 (by omega) (by simp)).trans q7
                  have rp9 := (kp9 g (by omega) (by simp)).trans rp7
                  rw [show d.s.pods.n = d.s.pods.n from rfl] at rg9
                  simp (dsimp := false) (implicitDefEqProofs := false) [go_sem, f1, f2, f5, f6, c00]
                  refine callW_z (fs := [.sl 1 (encL d.s.pods.n fun i => [I (d.on i)]), .sl 1 (encL d.s.pods.n fun i => [I (d.on i)])]) (by simp (dsimp := false) (implicitDefEqProofs := false) [omap, frz, rg9, rp9]) (eqInts_row _ _ okd.p1) rfl ?_
                  simp (dsimp := false) (implicitDefEqProofs := false) [go_sem, f1, f2, f5, f6, c00]
                  exact ⟨_, by omega, j + 1, by omega, rfl, ⟨rfl, rfl, by first | omega | (simp (dsimp := false) (implicitDefEqProofs := false) [go_sem] <;> omega), f1, f2, f5, q9⟩, w64 (by omega) (by omega), d, hS9, hA.le (by first | omega | (simp (dsimp := false) (implicitDefEqProofs := false) [go_sem] <;> omega)), inv, like⟩
                | false =>
                  have hE : applyE (nowS d) d.on true k m = 0 := by simp [applyE, nowS, onS, hkn, hmn, e1, hlm]
                  refine apply_S (nowS d) (onS_ok inv.onOk okd) d.on inv.onOk (now_place like he inv.onOk) r1A r2A r3A rpA (by omega) (by omega) (by omega) (by omega) true k m (fun hb5 => absurd hE hb5) (fun _ m5 n5 q lq5 lqn5 kp5 rq5 => ?_)
                  have rq5 : m5 q = some (.row 3 0 1 (encL d.s.pods.n fun i => [I (setC d.on k (m) i)])) := rq5
                  have hS5 := hSA.same (hA.le (by omega)) kp5
                  have q5 := (kp5 0 (by omega) (by simp)).trans qA
                  have rp5 := (kp5 g (by omega) (by simp)).trans rpA
                  simp (dsimp := false) (implicitDefEqProofs := false) [go_sem, f1, f2, f5, f6, c00]
                  refine evict_S hS5 inv.ok (hA.le (by omega)) k fun m6 n6 hn6 hS6 kp6 => ?_
                  have q6 := (kp6 0 (by omega) hi0).trans q5
                  have rp6 := (kp6 g (by omega) (hgA g (by omega))).trans rp5
                  have rq6 := (kp6 q (by omega) (hgA q (by omega))).trans rq5
                  have hf := (ev_none hkn e1).1
                  rw [(ev_none hkn e1).2] at hS6
                  simp (dsimp := false) (implicitDefEqProofs := false) [go_sem, f1, f2, f5, f6, c00, hf]
                  obtain ⟨v1, v2, v3, v4⟩ := bd_ok hkn hmn e1 hgk hlm
                  obtain ⟨inv7, -⟩ := bindD_inv inv (k : Int) (m : Int)
                  refine bind_S hS6 inv.ok (hA.le (by omega)) k m fun m7 n7 hn7 hS7 kp7 => ?_
                  have q7 := (kp7 0 (by omega) hi0).trans q6
                  have rp7 := (kp7 g (by omega) (hgA g (by omega))).trans rp6
                  have rq7 := (kp7 q (by omega) (hgA q (by omega))).trans rq6
                  have hf := v1
                  simp (dsimp := false) (implicitDefEqProofs := false) [go_sem, f1, f2, f5, f6, c00, hf]
                  have hgo : isGoneR (bindD d k m) k = false := by rw [isGone_at (by rw [v4]; exact hkn)]; exact v3
                  refine isGone_S hS7 k fun ni4 hni4 => ?_
                  simp (dsimp := false) (implicitDefEqProofs := false) [go_sem, f1, f2, f5, f6, c00, hgo, hf]
                  refine placement_S hS7 inv7.ok (hA.le (by omega)) fun g9 m9 n9 lg9 lgn9 kp9 rg9 => ?_
                  have hS9 := hS7.same (hA.le (by omega)) kp9
                  have q9 := (kp9 0 (by omega) (by simp)).trans q7
                  have rp9 := (kp9 g (by omega) (by simp)).trans rp7
                  have rq9 := (kp9 q (by omega) (by simp)).trans rq7
                  rw [v2, v4] at rg9
                  simp (dsimp := false) (implicitDefEqProofs := false) [go_sem, f1, f2, f5, f6, c00]
                  refine callW_z (fs := [.sl 1 (encL d.s.pods.n fun i => [I (setC d.on k (m) i)]), .sl 1 (encL d.s.pods.n fun i => [I (setC d.on k (m) i)])]) (by simp (dsimp := false) (implicitDefEqProofs := false) [omap, frz, rg9, rq9]) (eqInts_row _ _ okd.p1) rfl ?_
                  simp (dsimp := false) (implicitDefEqProofs := false) [go_sem, f1, f2, f5, f6, c00]
                  exact ⟨_, by omega, j + 1, by omega, rfl, ⟨rfl, rfl, by first | omega | (simp (dsimp := false) (implicitDefEqProofs := false) [go_sem] <;> omega), f1, f2, f5, q9⟩, w64 (by omega) (by omega), (bindD d k m), hS9, hA.le (by first | omega | (simp (dsimp := false) (implicitDefEqProofs := false) [go_sem] <;> omega)), inv7, (by rw [v4]; exact like)⟩
            · have hm0 : ¬ m < d.s.nodes.n := by omega
              have hE : applyE (nowS d) d.on true k m = 9 := by simp [applyE, nowS, onS, hm0]
              refine apply_S (nowS d) (onS_ok inv.onOk okd) d.on inv.onOk (now_place like he inv.onOk) r1A r2A r3A rpA (by omega) (by omega) (by omega) (by omega) true k m (fun _ m5 n5 hn5 kp5 => ?_) (fun hg5 => absurd (hE.symm.trans hg5) (by decide))
              rw [hE]
              have hS5 := hSA.same (hA.le (by omega)) kp5
              have q5 := (kp5 0 (by omega) (by simp)).trans qA
              have rp5 := (kp5 g (by omega) (by simp)).trans rpA
              simp (dsimp := false) (implicitDefEqProofs := false) [go_sem, f1, f2, f5, f6, c00]
              refine evict_S hS5 inv.ok (hA.le (by omega)) k fun m6 n6 hn6 hS6 kp6 => ?_
              have q6 := (kp6 0 (by omega) hi0).trans q5
              have rp6 := (kp6 g (by omega) (hgA g (by omega))).trans rp5
              have hf := (ev_none hkn e1).1
              rw [(ev_none hkn e1).2] at hS6
              simp (dsimp := false) (implicitDefEqProofs := false) [go_sem, f1, f2, f5, f6, c00, hf]
              refine bind_S hS6 inv.ok (hA.le (by omega)) k m fun m7 n7 hn7 hS7 kp7 => ?_
              have q7 := (kp7 0 (by omega) hi0).trans q6
              have rp7 := (kp7 g (by omega) (hgA g (by omega))).trans rp6
              have hf := (bd_out (d := d) (k := k) (.inr hmn)).1
              rw [(bd_out (d := d) (k := k) (.inr hmn)).2] at hS7
              simp (dsimp := false) (implicitDefEqProofs := false) [go_sem, f1, f2, f5, f6, c00, hf]
              cases hgk : d.gone k with
              | true =>
                rw [hgk] at hgo0
                refine isGone_S hS7 k fun ni5 hni5 => ?_
                simp (dsimp := false) (implicitDefEqProofs := false) [go_sem, f1, f2, f5, f6, c00, hgo0, hf]
                exact ⟨_, by omega, j + 1, by omega, rfl, ⟨rfl, rfl, by first | omega | (simp (dsimp := false) (implicitDefEqProofs := false) [go_sem] <;> omega), f1, f2, f5, q7⟩, w64 (by omega) (by omega), d, hS7, hA.le (by first | omega | (simp (dsimp := false) (implicitDefEqProofs := false) [go_sem] <;> omega)), inv, like⟩
              | false =>
                rw [hgk] at hgo0
                refine isGone_S hS7 k fun ni6 hni6 => ?_
                simp (dsimp := false) (implicitDefEqProofs := false) [go_sem, f1, f2, f5, f6, c00, hgo0, hf]
                refine placement_S hS7 inv.ok (hA.le (by omega)) fun g9 m9 n9 lg9 lgn9 kp9 rg9 => ?_
                have hS9 := hS7.same (hA.le (by omega)) kp9
                have q9 := (kp9 0 (by omega) (by simp)).trans q7
                have rp9 := (kp9 g (by omega) (by simp)).trans rp7
                rw [show d.s.pods.n = d.s.pods.n from rfl] at rg9
                simp (dsimp := false) (implicitDefEqProofs := false) [go_sem, f1, f2, f5, f6, c00]
                refine callW_z (fs := [.sl 1 (encL d.s.pods.n fun i => [I (d.on i)]), .sl 1 (encL d.s.pods.n fun i => [I (d.on i)])]) (by simp (dsimp := false) (implicitDefEqProofs := false) [omap, frz, rg9, rp9]) (eqInts_row _ _ okd.p1) rfl ?_
                simp (dsimp := false) (implicitDefEqProofs := false) [go_sem, f1, f2, f5, f6, c00]
                exact ⟨_, by omega, j + 1, by omega, rfl, ⟨rfl, rfl, by first | omega | (simp (dsimp := false) (implicitDefEqProofs := false) [go_sem] <;> omega), f1, f2, f5, q9⟩, w64 (by omega) (by omega), d, hS9, hA.le (by first | omega | (simp (dsimp := false) (implicitDefEqProofs := false) [go_sem] <;> omega)), inv, like⟩
          · have e3 : ¬ ((n0 : Int) = -1) := by omega
            obtain ⟨v1, v2, v3, v4⟩ := ev_some inv hkn e1
            obtain ⟨inv6, -⟩ := evictD_inv inv (k : Int)
            obtain ⟨z1, z2, z3, z4⟩ := back_ok inv hkn hn0 e1
            obtain ⟨inv7, -⟩ := bindD_inv inv6 (k : Int) (n0 : Int)
            have hgo : isGoneR (bindD (evictD d k) k n0) k = false := by rw [isGone_at (by rw [z4]; exact hkn)]; exact z3
            rcases Nat.lt_or_ge m d.s.nodes.n with hmn | hmn
            · have hE : applyE (nowS d) d.on true k m = 110 := by simp [applyE, nowS, onS, hkn, hmn, e1, e3]
              refine apply_S (nowS d) (onS_ok inv.onOk okd) d.on inv.onOk (now_place like he inv.onOk) r1A r2A r3A rpA (by omega) (by omega) (by omega) (by omega) true k m (fun _ m5 n5 hn5 kp5 => ?_) (fun hg5 => absurd (hE.symm.trans hg5) (by decide))
              rw [hE]
              have hS5 := hSA.same (hA.le (by omega)) kp5
              have q5 := (kp5 0 (by omega) (by simp)).trans qA
              have rp5 := (kp5 g (by omega) (by simp)).trans rpA
              simp (dsimp := false) (implicitDefEqProofs := false) [go_sem, f1, f2, f5, f6, c00]
              refine evict_S hS5 inv.ok (hA.le (by omega)) k fun m6 n6 hn6 hS6 kp6 => ?_
              have q6 := (kp6 0 (by omega) hi0).trans q5
              have rp6 := (kp6 g (by omega) (hgA g (by omega))).trans rp5
              have hf := v1
              simp (dsimp := false) (implicitDefEqProofs := false) [go_sem, f1, f2, f5, f6, c00, hf]
              simp (dsimp := false) (implicitDefEqProofs := false) [go_sem, f1, f2, f5, f6, c00, rp6, hkn, encL_get? _ hkn, e1]
              refine bind_S hS6 inv6.ok (hA.le (by omega)) k n0 fun m7 n7 hn7 hS7 kp7 => ?_
              have q7 := (kp7 0 (by omega) hi0).trans q6
              have rp7 := (kp7 g (by omega) (hgA g (by omega))).trans rp6
              have hf := z1
              simp (dsimp := false) (implicitDefEqProofs := false) [go_sem, f1, f2, f5, f6, c00, hf]
              refine bind_S hS7 inv7.ok (hA.le (by omega)) k m fun m8 n8 hn8 hS8 kp8 => ?_
              have q8 := (kp8 0 (by omega) hi0).trans q7
              have rp8 := (kp8 g (by omega) (hgA g (by omega))).trans rp7
              have hf := (bd_no (m := m) (by rw [z4]; exact hkn) (by rw [z4]; exact hmn) (.inl (by rw [z2, e1]; exact e3))).1
              rw [(bd_no (m := m) (by rw [z4]; exact hkn) (by rw [z4]; exact hmn) (.inl (by rw [z2, e1]; exact e3))).2] at hS8
              simp (dsimp := false) (implicitDefEqProofs := false) [go_sem, f1, f2, f5, f6, c00, hf]
              refine isGone_S hS8 k fun ni7 hni7 => ?_
              simp (dsimp := false) (implicitDefEqProofs := false) [go_sem, f1, f2, f5, f6, c00, hgo, hf]
              refine placement_S hS8 inv7.ok (hA.le (by omega)) fun g9 m9 n9 lg9 lgn9 kp9 rg9 => ?_
              have hS9 := hS8.same (hA.le (by omega)) kp9
              have q9 := (kp9 0 (by omega) (by simp)).trans q8
              have rp9 := (kp9 g (by omega) (by simp)).trans rp8
              rw [z2, z4] at rg9
              simp (dsimp := false) (implicitDefEqProofs := false) [go_sem, f1, f2, f5, f6, c00]
              refine callW_z (fs := [.sl 1 (encL d.s.pods.n fun i => [I (d.on i)]), .sl 1 (encL d.s.pods.n fun i => [I (d.on i)])]) (by simp (dsimp := false) (implicitDefEqProofs := false) [omap, frz, rg9, rp9]) (eqInts_row _ _ okd.p1) rfl ?_
              simp (dsimp := false) (implicitDefEqProofs := false) [go_sem, f1, f2, f5, f6, c00]
              exact ⟨_, by omega, j + 1, by omega, rfl, ⟨rfl, rfl, by first | omega | (simp (dsimp := false) (implicitDefEqProofs := false) [go_sem] <;> omega), f1, f2, f5, q9⟩, w64 (by omega) (by omega), (bindD (evictD d k) k n0), hS9, hA.le (by first | omega | (simp (dsimp := false) (implicitDefEqProofs := false) [go_sem] <;> omega)), inv7, (by rw [z4]; exact like)⟩
            · have hE : applyE (nowS d) d.on true k m = 9 := by simp [applyE, nowS, onS, show ¬ m < d.s.nodes.n by omega]
              refine apply_S (nowS d) (onS_ok inv.onOk okd) d.on inv.onOk (now_place like he inv.onOk) r1A r2A r3A rpA (by omega) (by omega) (by omega) (by omega) true k m (fun _ m5 n5 hn5 kp5 => ?_) (fun hg5 => absurd (hE.symm.trans hg5) (by decide))
              rw [hE]
              have hS5 := hSA.same (hA.le (by omega)) kp5
              have q5 := (kp5 0 (by omega) (by simp)).trans qA
              have rp5 := (kp5 g (by omega) (by simp)).trans rpA
              simp (dsimp := false) (implicitDefEqProofs := false) [go_sem, f1, f2, f5, f6, c00]
              refine evict_S hS5 inv.ok (hA.le (by omega)) k fun m6 n6 hn6 hS6 kp6 => ?_
              have q6 := (kp6 0 (by omega) hi0).trans q5
              have rp6 := (kp6 g (by omega) (hgA g (by omega))).trans rp5
              have hf := v1
              simp (dsimp := false) (implicitDefEqProofs := false) [go_sem, f1, f2, f5, f6, c00, hf]
              simp (dsimp := false) (implicitDefEqProofs := false) [go_sem, f1, f2, f5, f6, c00, rp6, hkn, encL_get? _ hkn, e1]
              refine bind_S hS6 inv6.ok (hA.le (by omega)) k n0 fun m7 n7 hn7 hS7 kp7 => ?_
              have q7 := (kp7 0 (by omega) hi0).trans q6
              have rp7 := (kp7 g (by omega) (hgA g (by omega))).trans rp6
              have hf := z1
              simp (dsimp := false) (implicitDefEqProofs := false) [go_sem, f1, f2, f5, f6, c00, hf]
              refine bind_S hS7 inv7.ok (hA.le (by omega)) k m fun m8 n8 hn8 hS8 kp8 => ?_
              have q8 := (kp8 0 (by omega) hi0).trans q7
              have rp8 := (kp8 g (by omega) (hgA g (by omega))).trans rp7
              have hf := (bd_out (d := bindD (evictD d k) k n0) (k := k) (.inr (by rw [z4]; exact hmn))).1
              rw [(bd_out (d := bindD (evictD d k) k n0) (k := k) (.inr (by rw [z4]; exact hmn))).2] at hS8
              simp (dsimp := false) (implicitDefEqProofs := false) [go_sem, f1, f2, f5, f6, c00, hf]
              refine isGone_S hS8 k fun ni8 hni8 => ?_
              simp (dsimp := false) (implicitDefEqProofs := false) [go_sem, f1, f2, f5, f6, c00, hgo, hf]
              refine placement_S hS8 inv7.ok (hA.le (by omega)) fun g9 m9 n9 lg9 lgn9 kp9 rg9 => ?_
              have hS9 := hS8.same (hA.le (by omega)) kp9
              have q9 := (kp9 0 (by omega) (by simp)).trans q8
              have rp9 := (kp9 g (by omega) (by simp)).trans rp8
              rw [z2, z4] at rg9
              simp (dsimp := false) (implicitDefEqProofs := false) [go_sem, f1, f2, f5, f6, c00]
              refine callW_z (fs := [.sl 1 (encL d.s.pods.n fun i => [I (d.on i)]), .sl 1 (encL d.s.pods.n fun i => [I (d.on i)])]) (by simp (dsimp := false) (implicitDefEqProofs := false) [omap, frz, rg9, rp9]) (eqInts_row _ _ okd.p1) rfl ?_
              simp (dsimp := false) (implicitDefEqProofs := false) [go_sem, f1, f2, f5, f6, c00]
              exact ⟨_, by omega, j + 1, by omega, rfl, ⟨rfl, rfl, by first | omega | (simp (dsimp := false) (implicitDefEqProofs := false) [go_sem] <;> omega), f1, f2, f5, q9⟩, w64 (by omega) (by omega), (bindD (evictD d k) k n0), hS9, hA.le (by first | omega | (simp (dsimp := false) (implicitDefEqProofs := false) [go_sem] <;> omega)), inv7, (by rw [z4]; exact like)⟩
        · have hE : applyE (nowS d) d.on true k m = 9 := by simp [applyE, nowS, onS, show ¬ k < d.s.pods.n by omega]
          refine apply_S (nowS d) (onS_ok inv.onOk okd) d.on inv.onOk (now_place like he inv.onOk) r1A r2A r3A rpA (by omega) (by omega) (by omega) (by omega) true k m (fun _ m5 n5 hn5 kp5 => ?_) (fun hg5 => absurd (hE.symm.trans hg5) (by decide))
          rw [hE]
          have hS5 := hSA.same (hA.le (by omega)) kp5
          have q5 := (kp5 0 (by omega) (by simp)).trans qA
          have rp5 := (kp5 g (by omega) (by simp)).trans rpA
          simp (dsimp := false) (implicitDefEqProofs := false) [go_sem, f1, f2, f5, f6, c00]
          refine evict_S hS5 inv.ok (hA.le (by omega)) k fun m6 n6 hn6 hS6 kp6 => ?_
          have q6 := (kp6 0 (by omega) hi0).trans q5
          have rp6 := (kp6 g (by omega) (hgA g (by omega))).trans rp5
          have hf := (ev_out hkn).1
          rw [(ev_out hkn).2] at hS6
          simp (dsimp := false) (implicitDefEqProofs := false) [go_sem, f1, f2, f5, f6, c00, hf]
          refine bind_S hS6 inv.ok (hA.le (by omega)) k m fun m7 n7 hn7 hS7 kp7 => ?_
          have q7 := (kp7 0 (by omega) hi0).trans q6
          have rp7 := (kp7 g (by omega) (hgA g (by omega))).trans rp6
          have hf := (bd_out (d := d) (m := m) (.inl hkn)).1
          rw [(bd_out (d := d) (m := m) (.inl hkn)).2] at hS7
          simp (dsimp := false) (implicitDefEqProofs := false) [go_sem, f1, f2, f5, f6, c00, hf]
          have hgo := isGone_out hkn
          refine isGone_S hS7 k fun ni9 hni9 => ?_
          simp (dsimp := false) (implicitDefEqProofs := false) [go_sem, f1, f2, f5, f6, c00, hgo, hf]
          refine placement_S hS7 inv.ok (hA.le (by omega)) fun g9 m9 n9 lg9 lgn9 kp9 rg9 => ?_
          have hS9 := hS7.same (hA.le (by omega)) kp9
          have q9 := (kp9 0 (by omega) (by simp)).trans q7
          have rp9 := (kp9 g (by omega) (by simp)).trans rp7
          rw [show d.s.pods.n = d.s.pods.n from rfl] at rg9
          simp (dsimp := false) (implicitDefEqProofs := false) [go_sem, f1, f2, f5, f6, c00]
          refine callW_z (fs := [.sl 1 (encL d.s.pods.n fun i => [I (d.on i)]), .sl 1 (encL d.s.pods.n fun i => [I (d.on i)])]) (by simp (dsimp := false) (implicitDefEqProofs := false) [omap, frz, rg9, rp9]) (eqInts_row _ _ okd.p1) rfl ?_
          simp (dsimp := false) (implicitDefEqProofs := false) [go_sem, f1, f2, f5, f6, c00]
          exact ⟨_, by omega, j + 1, by omega, rfl, ⟨rfl, rfl, by first | omega | (simp (dsimp := false) (implicitDefEqProofs := false) [go_sem] <;> omega), f1, f2, f5, q9⟩, w64 (by omega) (by omega), d, hS9, hA.le (by first | omega | (simp (dsimp := false) (implicitDefEqProofs := false) [go_sem] <;> omega)), inv, like⟩
      · have c0 : ((c : Int) == 0) = false := by simp; omega
        have c2 : 2 < (c : Int) := by omega
        simp (dsimp := false) (implicitDefEqProofs := false) [go_sem, hc, c0, c2, f1, f2, f5, f6, q04, qi4]
        refine does_S hS4 inv (hA.le (by omega)) s' en ep (l.el j) fun m5 n5 hn5 hS5 kp5 => ?_
        obtain ⟨inv5, -⟩ := doesD_inv inv (l.el j)
        have q5 := (kp5 0 (by omega) hi0).trans q04
        simp (dsimp := false) (implicitDefEqProofs := false) [go_sem, f1, f2, f5, f6]
        exact ⟨_, by omega, j + 1, by omega, rfl, ⟨rfl, rfl, by first | omega | (simp (dsimp := false) (implicitDefEqProofs := false) [go_sem] <;> omega), f1, f2, f5, q5⟩, w64 (by omega) (by omega), doesD d (l.el j), hS5, hA.le (by first | omega | (simp (dsimp := false) (implicitDefEqProofs := false) [go_sem] <;> omega)), inv5, like.trans (doesD_like d (l.el j))⟩
    · rcases Nat.lt_or_ge j l.n with h1 | h1
      · have h2 : ¬ (j : Int) < 60 := by omega
        simp (dsimp := false) (implicitDefEqProofs := false) [go_sem, f1, f2, f5, f6, h1, h2]
        exact ⟨rfl, rfl, by first | omega | (simp (dsimp := false) (implicitDefEqProofs := false) [go_sem] <;> omega), f1, f2, f5, m0⟩
      · have h3 : ¬ j < l.n := by omega
        simp (dsimp := false) (implicitDefEqProofs := false) [go_sem, f1, f2, f5, f6, h3]
        exact ⟨rfl, rfl, by first | omega | (simp (dsimp := false) (implicitDefEqProofs := false) [go_sem] <;> omega), f1, f2, f5, m0⟩
  rintro ⟨N, fr, mem, nx, lt⟩ hf
  obtain ⟨rfl, rfl, hnx, f1, f2, f5, m0⟩ := hf
  dsimp only at *
  refine runGL_end ?_
  simp (dsimp := false) (implicitDefEqProofs := false) [go_sem]
  refine callW_f (fs := []) storeWorks_pure ?_
  simp (dsimp := false) (implicitDefEqProofs := false) [go_sem]
end Go.Proofs.YtlefoohoeomklaaGreat
