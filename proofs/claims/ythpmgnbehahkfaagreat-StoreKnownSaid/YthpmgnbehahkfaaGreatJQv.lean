/- The reference's store: its methods that write. -/
/- The reference's store: Cordon, Gone, Lose. -/
/- The reference's store: Lose. -/
/- The reference's store: New; drayageref05.Copy as data. -/
/- drayagelaw11.step of both stores. -/
/- StorePlays, over data. -/
import Derived.Test.YthpmgnbehahkfaaGreatJQu
import Derived.Test.YthpmgnbehahkfaaGreatJQl
import Derived.Test.YthpmgnbehahkfaaGreatJQm
import Derived.Test.YthpmgnbehahkfaaGreatJQn
set_option linter.unusedSimpArgs false
set_option linter.unusedVariables false
section
namespace Go.Proofs.YthpmgnbehahkfaaGreat
open Go.RowKit Go.Dk Go.Dn

def refC (A : SA) : List D := [.own A.gn A.vn, .own A.gp A.vp, .own A.gq A.vq, .own A.go A.vo, .own A.gg A.vg]
structure RefM (mem : Nat → Option M) (A : SA) (d : StD) : Prop where
  t : mem A.t = some (.blk (refC A))
  n : mem A.gn = some (.row 75 A.vn 10 (encL d.s.nodes.n fun k => nodeC (d.s.nodes.el k)))
  p : mem A.gp = some (.row 81 A.vp 15 (encL d.s.pods.n fun k => podC (d.s.pods.el k)))
  q : mem A.gq = some (.row 100 A.vq 5 (encL d.s.owners.n fun k => ownerC (d.s.owners.el k)))
  o : mem A.go = some (.row 3 A.vo 1 (encL d.s.pods.n fun k => [I (d.on k)]))
  g : mem A.gg = some (.row 4 A.vg 1 (encL d.s.pods.n fun k => [B (d.gone k)]))
section
variable {mem : Nat → Option M} {A : SA} {d d' : StD} {nx : Nat} {K : D → (Nat → Option M) → Nat → Prop}
theorem RefM.other {m' : Nat → Option M} (h : RefM mem A d) (e : ∀ i ∈ A.ids, m' i = mem i) : RefM m' A d :=
  ⟨(e A.t (by simp [SA.ids])).trans h.t, (e A.gn (by simp [SA.ids])).trans h.n, (e A.gp (by simp [SA.ids])).trans h.p, (e A.gq (by simp [SA.ids])).trans h.q, (e A.go (by simp [SA.ids])).trans h.o, (e A.gg (by simp [SA.ids])).trans h.g⟩
theorem RefM.same {m' : Nat → Option M} (h : RefM mem A d) (hA : A.Ok nx) (hk : Kept [] nx mem m') : RefM m' A d := h.other fun i hi => hk i (hA.lt i hi) (by simp)
theorem RefM.on' (h : RefM mem A d) (hA : A.Ok nx) (e1 : d'.s = d.s) (e2 : d'.gone = d.gone) : RefM (upd mem A.go (some (.row 3 A.vo 1 (encL d.s.pods.n fun j => [I (d'.on j)])))) A d' := by
  have hD := hA.ne
  refine ⟨?_, ?_, ?_, ?_, ?_, ?_⟩
  · simp -dsimp -implicitDefEqProofs [upd, hD, h.t]
  · rw [e1]; simp -dsimp -implicitDefEqProofs [upd, hD, h.n]
  · rw [e1]; simp -dsimp -implicitDefEqProofs [upd, hD, h.p]
  · rw [e1]; simp -dsimp -implicitDefEqProofs [upd, hD, h.q]
  · rw [e1]; simp -dsimp -implicitDefEqProofs [upd]
  · rw [e1, e2]; simp -dsimp -implicitDefEqProofs [upd, hD, h.g]
theorem RefM.gone' (h : RefM mem A d) (hA : A.Ok nx) (e1 : d'.s = d.s) (e2 : d'.on = d.on) : RefM (upd mem A.gg (some (.row 4 A.vg 1 (encL d.s.pods.n fun j => [B (d'.gone j)])))) A d' := by
  have hD := hA.ne
  refine ⟨?_, ?_, ?_, ?_, ?_, ?_⟩
  · simp -dsimp -implicitDefEqProofs [upd, hD, h.t]
  · rw [e1]; simp -dsimp -implicitDefEqProofs [upd, hD, h.n]
  · rw [e1]; simp -dsimp -implicitDefEqProofs [upd, hD, h.p]
  · rw [e1]; simp -dsimp -implicitDefEqProofs [upd, hD, h.q]
  · rw [e1, e2]; simp -dsimp -implicitDefEqProofs [upd, hD, h.o]
  · rw [e1]; simp -dsimp -implicitDefEqProofs [upd]
theorem RefM.node' (h : RefM mem A d) (hA : A.Ok nx) (k : Nat) (x : NodeD) : RefM (upd mem A.gn (some (.row 75 A.vn 10 (encL (setN d.s.nodes k x).n fun j => nodeC ((setN d.s.nodes k x).el j))))) A (nodeD d k x) := by
  have hD := hA.ne
  refine ⟨?_, ?_, ?_, ?_, ?_, ?_⟩
  · simp -dsimp -implicitDefEqProofs [upd, hD, h.t]
  · simp -dsimp -implicitDefEqProofs [upd, nodeD]
  · simp -dsimp -implicitDefEqProofs [upd, hD, h.p, nodeD]
  · simp -dsimp -implicitDefEqProofs [upd, hD, h.q, nodeD]
  · simp -dsimp -implicitDefEqProofs [upd, hD, h.o, nodeD]
  · simp -dsimp -implicitDefEqProofs [upd, hD, h.g, nodeD]
theorem ref_frz (h : RefM mem A d) : frz mem 4 (.loc A.t 0) = some (.ref (refF d)) := by
  simp only [frz, h.t, List.drop_zero]
  unfold refC
  simp [frz, omap, h.n, h.p, h.q, h.o, h.g, refF, nodesF, podsF, ownersF]
theorem kept_upd {l : List Nat} {i : Nat} (hi : i ∈ l) (x : Option M) : Kept l nx mem (upd mem i x) := fun id _ hl => by
  have : ¬ id = i := fun e => hl (e ▸ hi)
  simp -dsimp -implicitDefEqProofs [upd, this]
theorem SA.in_go (A : SA) : A.go ∈ A.ids := by simp [SA.ids]
theorem SA.in_gg (A : SA) : A.gg ∈ A.ids := by simp [SA.ids]
theorem SA.in_gn (A : SA) : A.gn ∈ A.ids := by simp [SA.ids]
theorem refNode_F (d : StD) (k : Int) : Pure Tryz.prog 202 [.ref (refF d), I k] (B (decide (nodeE d k = 0))) := by
  refine Pure.of_run (lit := true) Tryz.func202 rfl rfl rfl rfl (Nat.le_of_ble_eq_true rfl) (run_of_runL ?_)
  unfold St.enter
  by_cases h0 : 0 ≤ k
  · by_cases h1 : k < (d.s.nodes.n : Int)
    · have e : nodeE d k = 0 := by unfold nodeE; rw [if_pos ⟨h0, h1⟩]
      simp -dsimp -implicitDefEqProofs [go_sem, refF, h0, h1, e]
    · have e : nodeE d k = 9 := by unfold nodeE; rw [if_neg (by omega)]
      simp -dsimp -implicitDefEqProofs [go_sem, refF, h0, h1, e]
  · have e : nodeE d k = 9 := by unfold nodeE; rw [if_neg (by omega)]
    simp -dsimp -implicitDefEqProofs [go_sem, refF, h0, e]
set_option maxRecDepth 100000 in
theorem evict_R (h : RefM mem A d) (hd : DOk d) (hA : A.Ok nx) (k : Int) (hk : ∀ m' n', nx ≤ n' → RefM m' A (evictD d k) → Kept A.ids nx mem m' → K (.f (I (evictR d k))) m' n') : callS Tryz.prog 150 [.loc A.t 0, .f (I k)] mem nx K := by
  have z := ref_frz h
  refine callS.of_run (lit := true) (B := fun _ => []) Tryz.func150 rfl rfl rfl rfl (Nat.le_of_ble_eq_true rfl) (runC_of_runCL ?_)
  simp -dsimp -implicitDefEqProofs [go_sem]
  refine callW_z (fs := [.ref (refF d), I k]) (by simp -dsimp -implicitDefEqProofs [omap, z, frz_f]) (refPod_F d k) rfl ?_
  rcases podE_or d k with e | e
  · obtain ⟨p, rfl, hp⟩ := podE_ok e
    rcases hd.on p hp with e2 | ⟨n, hn, e2⟩
    · simp -dsimp -implicitDefEqProofs [go_sem, e, h.t, refC, h.o, hp, encL_get? _ hp, e2]
      simp only [evictR, evictD, e, Int.toNat_natCast, e2, if_true, ne_eq, not_true_eq_false, and_false, if_false] at hk
      exact hk _ _ (by omega) h (Kept.refl _ _ _)
    · have e4 : ¬ ((n : Int) = -1) := by omega
      have e5 : ¬ ((n : Int) < 0) := by omega
      simp -dsimp -implicitDefEqProofs [go_sem, e, h.t, refC, h.o, hp, encL_get? _ hp, e2, e5, encI_set _ _ _ _ hp]
      simp only [evictR, evictD, e, Int.toNat_natCast, e2, e4, if_true, ne_eq, not_false_eq_true, and_self, if_false] at hk
      exact hk _ _ (by omega) (h.on' (d' := takeD d p n) hA rfl rfl) (kept_upd A.in_go _)
  · simp -dsimp -implicitDefEqProofs [go_sem, e]
    simp only [evictR, evictD, e] at hk
    exact hk _ _ (by omega) h (Kept.refl _ _ _)
set_option maxRecDepth 100000 in
theorem bind_R (h : RefM mem A d) (hd : DOk d) (hA : A.Ok nx) (k n : Int) (hk : ∀ m' n', nx ≤ n' → RefM m' A (bindD d k n) → Kept A.ids nx mem m' → K (.f (I (bindR d k n))) m' n') : callS Tryz.prog 151 [.loc A.t 0, .f (I k), .f (I n)] mem nx K := by
  have z := ref_frz h
  have bad : ∀ m' n', bindR d k n ≠ 0 → nx ≤ n' → m' = mem → K (.f (I (bindR d k n))) m' n' := fun m' n' hb hn e => by
    subst e
    refine hk _ _ hn ?_ (Kept.refl _ _ _)
    have : bindD d k n = d := by unfold bindD; rw [if_neg hb]
    rw [this]
    exact h
  refine callS.of_run (lit := true) (B := fun _ => []) Tryz.func151 rfl rfl rfl rfl (Nat.le_of_ble_eq_true rfl) (runC_of_runCL ?_)
  simp -dsimp -implicitDefEqProofs [go_sem]
  refine callW_z (fs := [.ref (refF d), I k]) (by simp -dsimp -implicitDefEqProofs [omap, z, frz_f]) (refPod_F d k) rfl ?_
  rcases podE_or d k with e | e
  · obtain ⟨p, rfl, hp⟩ := podE_ok e
    simp -dsimp -implicitDefEqProofs [go_sem, e]
    refine callW_z (fs := [.ref (refF d), I n]) (by simp -dsimp -implicitDefEqProofs [omap, z, frz_f]) (refNode_F d n) rfl ?_
    rcases nodeE_or d n with e1 | e1
    · obtain ⟨m, rfl, hm⟩ := nodeE_ok e1
      have eR : bindR d p m = if d.on p ≠ -1 ∨ d.gone p = true ∨ (d.s.nodes.el m).lost = true then 110 else 0 := by
        unfold bindR
        rw [if_pos ⟨e, e1⟩]
        simp only [Int.toNat_natCast]
      rcases hd.on p hp with e2 | ⟨q, hq, e2⟩
      · cases hg : d.gone p with
        | true =>
          have eR : bindR d p m = 110 := by rw [eR, if_pos (.inr (.inl hg))]
          simp -dsimp -implicitDefEqProofs [go_sem, e1, h.t, refC, h.o, h.g, h.n, hp, encL_get? _ hp, e2, hg]
          rw [eR] at bad
          exact bad _ _ (by decide) (by omega) rfl
        | false =>
          cases hl : (d.s.nodes.el m).lost with
          | true =>
            have eR : bindR d p m = 110 := by rw [eR, if_pos (.inr (.inr hl))]
            simp -dsimp -implicitDefEqProofs [go_sem, e1, h.t, refC, h.o, h.g, h.n, hp, encL_get? _ hp, e2, hg, hm, encL_get? _ hm, nodeC_eq (d.s.nodes.el m), hl]
            rw [eR] at bad
            exact bad _ _ (by decide) (by omega) rfl
          | false =>
            have eR : bindR d p m = 0 := by rw [eR]; simp [e2, hg, hl]
            have eD : bindD d p m = putD d p m := by unfold bindD; rw [if_pos eR]; rfl
            simp -dsimp -implicitDefEqProofs [go_sem, e1, h.t, refC, h.o, h.g, h.n, hp, encL_get? _ hp, e2, hg, hm, encL_get? _ hm, nodeC_eq (d.s.nodes.el m), hl, encI_set _ _ _ _ hp]
            rw [eR, eD] at hk
            exact hk _ _ (by omega) (h.on' (d' := putD d p m) hA rfl rfl) (kept_upd A.in_go _)
      · have e3 : ¬ ((q : Int) = -1) := by omega
        have eR : bindR d p m = 110 := by rw [eR, if_pos (.inl (by rw [e2]; exact e3))]
        simp -dsimp -implicitDefEqProofs [go_sem, e1, h.t, refC, h.o, h.g, h.n, hp, encL_get? _ hp, e2]
        rw [eR] at bad
        exact bad _ _ (by decide) (by omega) rfl
    · have eR : bindR d p n = 9 := by unfold bindR; rw [if_neg (by rw [e1]; simp)]
      simp -dsimp -implicitDefEqProofs [go_sem, e1]
      rw [eR] at bad
      exact bad _ _ (by decide) (by omega) rfl
  · have eR : bindR d k n = 9 := by unfold bindR; rw [if_neg (by rw [e]; simp)]
    simp -dsimp -implicitDefEqProofs [go_sem, e]
    rw [eR] at bad
    exact bad _ _ (by decide) (by omega) rfl
end
end Go.Proofs.YthpmgnbehahkfaaGreat
end
section
namespace Go.Proofs.YthpmgnbehahkfaaGreat
open Go.RowKit Go.Dk Go.Dn

section
variable {mem : Nat → Option M} {A : SA} {d d' : StD} {nx : Nat} {K : D → (Nat → Option M) → Nat → Prop}
set_option maxRecDepth 100000 in
theorem cordon_R (h : RefM mem A d) (hA : A.Ok nx) (k : Int) (b : Bool) (hk : ∀ m' n', nx ≤ n' → RefM m' A (cordonD d k b) → Kept A.ids nx mem m' → K (.f (I (cordonR d k))) m' n') : callS Tryz.prog 152 [.loc A.t 0, .f (I k), .f (B b)] mem nx K := by
  have z := ref_frz h
  have hL := hA.lts
  refine callS.of_run (lit := true) (B := fun _ => []) Tryz.func152 rfl rfl rfl rfl (Nat.le_of_ble_eq_true rfl) (runC_of_runCL ?_)
  simp -dsimp -implicitDefEqProofs [go_sem]
  refine callW_z (fs := [.ref (refF d), I k]) (by simp -dsimp -implicitDefEqProofs [omap, z, frz_f]) (refNode_F d k) rfl ?_
  rcases nodeE_or d k with e | e
  · obtain ⟨p, rfl, hp⟩ := nodeE_ok e
    cases h1 : (d.s.nodes.el p).lost with
    | true =>
      have eR : cordonR d p = 110 := by simp [cordonR, e, h1]
      have eD : cordonD d p b = d := by simp [cordonD, eR]
      rw [eR, eD] at hk
      simp -dsimp -implicitDefEqProofs [go_sem, e, h.t, refC, h.n, hp, encL_get? _ hp, nodeC_eq (d.s.nodes.el p), h1]
      exact hk _ _ (by omega) h (Kept.refl _ _ _)
    | false =>
      have eR : cordonR d p = 0 := by simp [cordonR, e, h1]
      have eD : cordonD d p b = nodeD d p { d.s.nodes.el p with cordon := b } := by simp [cordonD, eR]
      rw [eR, eD] at hk
      simp -dsimp -implicitDefEqProofs [go_sem, e, h.t, refC, h.n, hp, encL_get? _ hp, nodeC_eq (d.s.nodes.el p), h1]
      generalize hb : nx + 1 + 4 + 9 + 10 + 3 = b3
      generalize hx : nx + 1 + 4 + 9 + 8 = bx
      have q0 : A.t < b3 ∧ A.gn < b3 ∧ bx < b3 := by have := hL.1 0; have := hL.2.1 0; omega
      have q1 : ¬ A.t = bx ∧ ¬ A.gn = bx := by have := hL.1 0; have := hL.2.1 0; omega
      have hC := nodeC_cordon (d.s.nodes.el p) b
      rw [h1] at hC
      have hs := encN_set d.s.nodes p { d.s.nodes.el p with cordon := b } hp
      simp only [h1] at hs
      rw [← hC] at hs
      refine runCL_draw [[], [0], [1, 0], [2, 1, 0], [3, 2, 1, 0], [], [], [4, 3, 2, 1, 0, 5, 6], [7, 4, 3, 2, 1, 0, 5, 6]] rfl (by kernel_rfl) (by kernel_rfl) ?_
      simp -dsimp -implicitDefEqProofs [go_sem, Tv, Cw, silentAt, silentOp, q0, q1, h.t, refC, h.n, hp, encL_get? _ hp, nodeC_eq (d.s.nodes.el p), hs]
      refine exWL_mk (andL_mk ⟨Cw_lt (by omega) (by kernel_rfl), Tv_lt (by omega) (by kernel_rfl)⟩ ?_)
      simp -dsimp -implicitDefEqProofs [go_sem, Tv, Cw, silentAt, silentOp, q0, q1, h.t, refC, h.n, hp, encL_get? _ hp, nodeC_eq (d.s.nodes.el p), hs]
      have ex : ({ d.s.nodes.el p with cordon := b } : NodeD) = { d.s.nodes.el p with cordon := b, lost := false } := by rw [← h1]
      rw [ex] at hk
      refine hk _ _ (by omega) (RefM.node' (RefM.other h fun i hi => ?_) hA p _) fun id hid hl => ?_
      · have := hA.lt i hi
        have v : ¬ i = bx := by omega
        simp -dsimp -implicitDefEqProofs [upd, v]
      · have v : ¬ id = bx := by omega
        have v2 : ¬ id = A.gn := fun e => hl (e ▸ A.in_gn)
        simp -dsimp -implicitDefEqProofs [upd, v, v2]
  · have eR : cordonR d k = 9 := by simp [cordonR, e]
    have eD : cordonD d k b = d := by simp [cordonD, eR]
    rw [eR, eD] at hk
    simp -dsimp -implicitDefEqProofs [go_sem, e]
    exact hk _ _ (by omega) h (Kept.refl _ _ _)
set_option maxRecDepth 100000 in
theorem gone_R (h : RefM mem A d) (hd : DOk d) (hA : A.Ok nx) (k : Int) (hk : ∀ m' n', nx ≤ n' → RefM m' A (goneD d k) → Kept A.ids nx mem m' → K (.f (I (goneR d k))) m' n') : callS Tryz.prog 154 [.loc A.t 0, .f (I k)] mem nx K := by
  have z := ref_frz h
  have hD := hA.ne
  refine callS.of_run (lit := true) (B := fun _ => []) Tryz.func154 rfl rfl rfl rfl (Nat.le_of_ble_eq_true rfl) (runC_of_runCL ?_)
  simp -dsimp -implicitDefEqProofs [go_sem]
  refine callW_z (fs := [.ref (refF d), I k]) (by simp -dsimp -implicitDefEqProofs [omap, z, frz_f]) (refPod_F d k) rfl ?_
  rcases podE_or d k with e | e
  · obtain ⟨p, rfl, hp⟩ := podE_ok e
    cases h1 : d.gone p with
    | true =>
      have eR : goneR d p = 110 := by simp [goneR, e, h1]
      have eD : goneD d p = d := by simp [goneD, eR]
      rw [eR, eD] at hk
      simp -dsimp -implicitDefEqProofs [go_sem, e, h.t, refC, h.g, hp, encL_get? _ hp, h1]
      exact hk _ _ (by omega) h (Kept.refl _ _ _)
    | false =>
      have eR : goneR d p = 0 := by simp [goneR, e, h1]
      have eD : goneD d p = outD { d with gone := setBf d.gone p true } p := by simp [goneD, eR]
      have e1 : (outD { d with gone := setBf d.gone p true } p).on = setC d.on p (-1) := by
        unfold outD
        split
        · rename_i c
          have c : d.on p = -1 := c
          show d.on = _
          funext i
          unfold setC
          by_cases ci : i = p
          · subst ci; rw [if_pos rfl, c]
          · rw [if_neg ci]
        · rfl
      rw [eR, eD] at hk
      simp -dsimp -implicitDefEqProofs [go_sem, e, h.t, refC, h.g, h.o, hD, hp, encL_get? _ hp, h1, encB_set _ _ _ _ hp, encI_set _ _ _ _ hp]
      have h2 := h.gone' (d' := { d with gone := setBf d.gone p true }) hA rfl rfl
      have h3 := h2.on' (d' := outD { d with gone := setBf d.gone p true } p) hA (outD_s _ _).1 (outD_s _ _).2.1
      rw [e1] at h3
      exact hk _ _ (by omega) h3 ((kept_upd A.in_gg _).trans (kept_upd (nx := nx) A.in_go _) (Nat.le_refl _))
  · have eR : goneR d k = 9 := by simp [goneR, e]
    have eD : goneD d k = d := by simp [goneD, eR]
    rw [eR, eD] at hk
    simp -dsimp -implicitDefEqProofs [go_sem, e]
    exact hk _ _ (by omega) h (Kept.refl _ _ _)
end
end Go.Proofs.YthpmgnbehahkfaaGreat
end
section
namespace Go.Proofs.YthpmgnbehahkfaaGreat
open Go.RowKit Go.Dk Go.Dn

section
variable {mem : Nat → Option M} {A : SA} {d d' : StD} {nx : Nat} {K : D → (Nat → Option M) → Nat → Prop}
set_option maxRecDepth 100000 in
set_option maxHeartbeats 1000000 in
theorem lose_R (h : RefM mem A d) (hd : DOk d) (hA : A.Ok nx) (k : Int) (hk : ∀ m' n', nx ≤ n' → RefM m' A (loseD d k) → Kept A.ids nx mem m' → K (.f (I (cordonR d k))) m' n') : callS Tryz.prog 153 [.loc A.t 0, .f (I k)] mem nx K := by
  have z := ref_frz h
  have hL := hA.lts
  have hp24 := hd.s.p24
  refine callS.of_run (lit := true) (B := fun _ => []) Tryz.func153 rfl rfl rfl rfl (Nat.le_of_ble_eq_true rfl) (runC_of_runCL ?_)
  simp -dsimp -implicitDefEqProofs [go_sem]
  refine callW_z (fs := [.ref (refF d), I k]) (by simp -dsimp -implicitDefEqProofs [omap, z, frz_f]) (refNode_F d k) rfl ?_
  rcases nodeE_or d k with e | e
  · obtain ⟨p, rfl, hp⟩ := nodeE_ok e
    cases h1 : (d.s.nodes.el p).lost with
    | true =>
      have eR : cordonR d p = 110 := by simp [cordonR, e, h1]
      have eD : loseD d p = d := by simp [loseD, eR]
      rw [eR, eD] at hk
      simp -dsimp -implicitDefEqProofs [go_sem, e, h.t, refC, h.n, hp, encL_get? _ hp, nodeC_eq (d.s.nodes.el p), h1]
      exact hk _ _ (by omega) h (Kept.refl _ _ _)
    | false =>
      have eR : cordonR d p = 0 := by simp [cordonR, e, h1]
      have eD : loseD d p = loseN (lostD d p) p d.s.pods.n := by simp [loseD, eR]
      rw [eR, eD] at hk
      simp -dsimp -implicitDefEqProofs [go_sem, e, h.t, refC, h.n, hp, encL_get? _ hp, nodeC_eq (d.s.nodes.el p), h1]
      generalize hb : nx + 1 + 4 + 9 + 10 + 2 = b3
      generalize hx : nx + 1 + 4 + 9 + 8 = bx
      have q0 : A.t < b3 ∧ A.gn < b3 ∧ bx < b3 := by have := hL.1 0; have := hL.2.1 0; omega
      have q1 : ¬ A.t = bx ∧ ¬ A.gn = bx := by have := hL.1 0; have := hL.2.1 0; omega
      have hC := nodeC_lost (d.s.nodes.el p) true
      have hs := encN_set d.s.nodes p { d.s.nodes.el p with lost := true } hp
      rw [← hC] at hs
      refine runCL_draw [[], [0], [1, 0], [2, 1, 0], [3, 2, 1, 0], [], [], [4, 3, 2, 1, 0, 5, 6], [7, 4, 3, 2, 1, 0, 5, 6]] rfl (by kernel_rfl) (by kernel_rfl) ?_
      simp -dsimp -implicitDefEqProofs [go_sem, Tv, Cw, silentAt, silentOp, q0, q1, h.t, refC, h.n, hp, encL_get? _ hp, nodeC_eq (d.s.nodes.el p), hs]
      refine exWL_mk (andL_mk ⟨Cw_lt (by omega) (by kernel_rfl), Tv_lt (by omega) (by kernel_rfl)⟩ ?_)
      simp -dsimp -implicitDefEqProofs [go_sem, Tv, Cw, silentAt, silentOp, q0, q1, h.t, refC, h.n, hp, encL_get? _ hp, nodeC_eq (d.s.nodes.el p), hs]
      refine runCL_loop [] (fun m st => ∃ j : Nat, st.n = 61 ∧ st.lit = true ∧ j ≤ d.s.pods.n ∧ m = d.s.pods.n - j ∧ nx ≤ st.next ∧ st.fr 0 = .loc A.t 0 ∧ st.fr 1 = .f (I p) ∧ st.fr 6 = .f (I j) ∧ RefM st.mem A (loseN (lostD d p) p j) ∧ Kept A.ids nx mem st.mem) d.s.pods.n ⟨0, ?_⟩ ?_
      · simp -dsimp -implicitDefEqProofs [go_sem]
        refine ⟨by omega, RefM.node' (RefM.other h fun i hi => ?_) hA p _, fun id hid hl => ?_⟩
        · have := hA.lt i hi
          have v : ¬ i = bx := by omega
          simp -dsimp -implicitDefEqProofs [upd, v]
        · have v : ¬ id = bx := by omega
          have v2 : ¬ id = A.gn := fun e => hl (e ▸ A.in_gn)
          simp -dsimp -implicitDefEqProofs [upd, v, v2]
      rintro m ⟨N, fr, mem2, nx2, lt⟩ ⟨j, hN, hlt, hj, rfl, hnx, f0, f1, f6, hR, hkp⟩
      dsimp only at *
      subst hN hlt
      have eP : (loseN (lostD d p) p j).s.pods.n = d.s.pods.n := by rw [(loseN_s _ _ _).1]; rfl
      have hO := hR.o
      rw [eP] at hO
      rcases Nat.lt_or_ge j d.s.pods.n with hlt | hge
      · simp -dsimp -implicitDefEqProofs [go_sem, f0, f1, f6, hR.t, refC, hO, hlt, encL_get? _ hlt]
        by_cases c : (loseN (lostD d p) p j).on j = p
        · have hstep : loseN (lostD d p) p (j + 1) = takeD (loseN (lostD d p) p j) j p := by simp only [loseN]; rw [if_pos c]
          simp -dsimp -implicitDefEqProofs [go_sem, f0, f1, f6, hR.t, refC, hO, hlt, encL_get? _ hlt, c, encI_set _ _ _ _ hlt]
          have hr := hR.on' (d' := takeD (loseN (lostD d p) p j) j p) hA rfl rfl
          rw [eP] at hr
          exact ⟨_, by omega, j + 1, by omega, rfl, by omega, w64 (by omega) (by omega), by rw [hstep]; exact hr, hkp.trans (kept_upd (nx := nx) A.in_go _) (Nat.le_refl _)⟩
        · have hstep : loseN (lostD d p) p (j + 1) = loseN (lostD d p) p j := by simp only [loseN]; rw [if_neg c]
          have c' : ((loseN (lostD d p) p j).on j == (p : Int)) = false := by simpa using c
          simp -dsimp -implicitDefEqProofs [go_sem, f0, f1, f6, hR.t, refC, hO, hlt, encL_get? _ hlt, c']
          exact ⟨_, by omega, j + 1, by omega, rfl, by omega, w64 (by omega) (by omega), by rw [hstep]; exact hR, hkp⟩
      · obtain rfl : j = d.s.pods.n := by omega
        simp -dsimp -implicitDefEqProofs [go_sem, f0, f1, f6, hR.t, refC, hO]
        exact hk _ _ (by omega) hR hkp
  · have eR : cordonR d k = 9 := by simp [cordonR, e]
    have eD : loseD d k = d := by simp [loseD, eR]
    rw [eR, eD] at hk
    simp -dsimp -implicitDefEqProofs [go_sem, e]
    exact hk _ _ (by omega) h (Kept.refl _ _ _)
end
end Go.Proofs.YthpmgnbehahkfaaGreat
end
section
namespace Go.Dn
open Go.RowKit Go.Dk
variable {P : Program}
theorem repC_slices {x : X} {us : List Value} : ∀ (rs : List (TypeId × Nat × List (List FD))) (vs : List Value), vs.length = rs.length → (∀ (j : Nat) (u : Value) (r : TypeId × Nat × List (List FD)), vs[j]? = some u → rs[j]? = some r → u.oneCell' = true ∧ Rep x u (.sl r.2.1 r.2.2)) → RepC x vs (rs.map fun r => .sl r.2.1 r.2.2)
  | [], [], _, _ => by simp [RepC]
  | r :: rs, u :: vs, hl, h => by
    simp only [List.map_cons]
    unfold RepC
    obtain ⟨h1, h2⟩ := h 0 u r rfl rfl
    exact ⟨u, vs, rfl, h1, h2, repC_slices (us := us) rs vs (by simpa using hl) fun j u' r' e1 e2 => h (j + 1) u' r' e1 e2⟩
  | [], _ :: _, hl, _ => by simp at hl
  | _ :: _, [], hl, _ => by simp at hl
theorem Pure.of_rows {f : FuncId} {fs : List FD} {rs : List (TypeId × Nat × List (List FD))} (h : RowsCall P f fs rs) : Pure P f fs (.agg (rs.map fun r => .sl r.2.1 r.2.2)) := by
  refine ⟨h.1.1, fun x vs hws hr => (h.2 x vs hws hr).mono ?_⟩
  rintro en w' ⟨us, rfl, hul, hch, hrow, -⟩
  refine ⟨_, rfl, ?_, hch⟩
  unfold Rep
  refine ⟨us, rfl, repC_slices (us := us) rs us hul fun j u r e1 e2 => ?_⟩
  obtain ⟨cells, ho, hc⟩ := hrow j u r e1 e2
  refine ⟨?_, rep_of_row (x := ⟨x.WS, w'⟩) ho (RepC.mono (x := ⟨fun b o => (∃ u ∈ us, u.ownBlock = some b) ∨ x.WS b o, w'⟩) (y := ⟨x.WS, w'⟩) (fun b o v hv hn => ⟨hv, fun hw => hn (show (∃ u ∈ us, u.ownBlock = some b) ∨ x.WS b o from Or.inr hw)⟩) hc) (h.1.2 r (List.mem_of_getElem? e2)).2 fun b o hb hw => ?_⟩
  · rcases ho.2 with ⟨rfl, -⟩ | ⟨g, cap, cur, rfl, -⟩ <;> rfl
  · have h1 := ownsRow_from ho b hb
    have h2 := hws b o hw
    omega
end Go.Dn
namespace Go.Proofs.YthpmgnbehahkfaaGreat
open Go.RowKit Go.Dk Go.Dn

theorem refCopy_pure (s : SnapD) (ok : SnapOk s) : Pure Tryz.prog 12 [snapF s] (snapF s) := Pure.of_rows (refCopy_rows s ok)
section
variable {nx : Nat} {K : D → (Nat → Option M) → Nat → Prop} {mem : Nat → Option M}
set_option maxRecDepth 100000 in
set_option maxHeartbeats 2000000 in
theorem refNew_R (s : SnapD) (ok : SnapOk s) (hbad : checkE s ≠ 0 → ∀ n', nx ≤ n' → ∀ m', Kept [] nx mem m' → K (.tup [.f (.v (.pointer none)), .f (I (checkE s))]) m' n')
    (hgood : checkE s = 0 → ∀ t c go gg m' n', nx ≤ c → c < go → go < gg → gg < t → t < n' → Kept [] nx mem m' → m' t = some (.blk [.own c 0, .own c 1, .own c 2, .own go 0, .own gg 0]) → m' c = some (.rows (snapRows s)) →
      m' go = some (.row 3 0 1 (encL s.pods.n fun k => [I (onV s k)])) → m' gg = some (.row 4 0 1 (encL s.pods.n fun _ => [B false])) → K (.tup [.loc t 0, .f (I 0)]) m' n') :
    callS Tryz.prog 95 [.f (snapF s)] mem nx K := by
  have hp1 := ok.p1
  refine callS.of_run (lit := false) (B := fun _ => []) Tryz.func95 rfl rfl rfl rfl (Nat.le_of_ble_eq_true rfl) (runC_of_runCL ?_)
  simp -dsimp -implicitDefEqProofs [go_sem, snapF, snapC]
  refine callW_f (refCheck_pure s ok) ?_
  by_cases he : checkE s = 0
  case neg =>
    have he' : (checkE s != 0) = true := by simpa using he
    simp -dsimp -implicitDefEqProofs [go_sem, he']
    refine hbad he _ (by omega) _ fun id hid _ => ?_
    have : ¬ id = nx := by omega
    simp -dsimp -implicitDefEqProofs [upd, this]
  simp -dsimp -implicitDefEqProofs [go_sem, he]
  generalize hb : nx + 3 + 3 + 2 = b
  have h0 : ∀ k, nx < b + k := fun k => by omega
  have h0' : nx < b := by omega
  have e0 : ∀ k, ¬ nx = b + k := fun k => by omega
  have e0' : ∀ k, ¬ b + k = nx := fun k => by omega
  have h3 : ownsD (b + 1) (snapRows s).length = [.own (b + 1) 0, .own (b + 1) 1, .own (b + 1) 2] := rfl
  refine runCL_draw [[], [0], [], [2, 1, 0], [], [4], [5, 4], [6, 5, 4], [1, 0, 3, 2, 7, 6, 5, 4], [8, 1, 0, 3, 2, 7, 6, 5, 4], [9, 8, 1, 0, 3, 2, 7, 6, 5, 4], [10, 9, 8, 1, 0, 3, 2, 7, 6, 5, 4]] rfl (by kernel_rfl) (by kernel_rfl) ?_
  simp -dsimp -implicitDefEqProofs [go_sem, Tv, Cw, silentAt, silentOp, h0, h0']
  refine callW_rows (fs := [snapF s]) (refCopy_rows s ok) ?_
  simp -dsimp -implicitDefEqProofs [go_sem, Tv, Cw, silentAt, silentOp, h0, h0']
  refine exWL_mk (andL_mk ⟨Cw_new, Tv_new (by kernel_rfl)⟩ ?_)
  simp -dsimp -implicitDefEqProofs [go_sem, Tv, Cw, silentAt, silentOp, h0, h0', e0, e0', h3]
  refine callW_row (fs := [snapF s]) (refPlacement_row s ok) ?_
  simp -dsimp -implicitDefEqProofs [go_sem, Tv, Cw, silentAt, silentOp, h0, h0', e0, e0', h3]
  refine exWL_mk (andL_mk ⟨Cw_new, Tv_new (by kernel_rfl)⟩ ?_)
  simp -dsimp -implicitDefEqProofs [go_sem, Tv, Cw, silentAt, silentOp, h0, h0', e0, e0', h3]
  refine andL_mk ⟨by omega, by omega⟩ ?_
  simp -dsimp -implicitDefEqProofs [go_sem, Tv, Cw, silentAt, silentOp, h0, h0', e0, e0', h3]
  refine exWL_mk (andL_mk ⟨Cw_new, Tv_new (by kernel_rfl)⟩ ?_)
  simp -dsimp -implicitDefEqProofs [go_sem, Tv, Cw, silentAt, silentOp, h0, h0', e0, e0', h3]
  refine exWL_mk (andL_mk ⟨Cw_new, Tv_new (by kernel_rfl)⟩ ?_)
  simp -dsimp -implicitDefEqProofs [go_sem, Tv, Cw, silentAt, silentOp, h0, h0', e0, e0', h3]
  refine hgood he (b + 9) (b + 1) (b + 3) (b + 7) _ _ (by omega) (by omega) (by omega) (by omega) (by omega) (fun id hid _ => ?_) (by simp -dsimp -implicitDefEqProofs [upd]) (by simp -dsimp -implicitDefEqProofs [upd]) (by simp -dsimp -implicitDefEqProofs [upd]) ?_
  · have v : ¬ id = nx ∧ ¬ id = b + 1 ∧ ¬ id = b + 3 ∧ ¬ id = b + 7 ∧ ¬ id = b + 9 := by omega
    simp -dsimp -implicitDefEqProofs [upd, v]
  · simp -dsimp -implicitDefEqProofs [upd, replicate_encL]
end
end Go.Proofs.YthpmgnbehahkfaaGreat
end
section
namespace Go.Proofs.YthpmgnbehahkfaaGreat
open Go.RowKit Go.Dk Go.Dn

/-- what a call is of -/
def rawA (d : StD) (x : DoD) : Int := if x.raw then x.a else if bringV x.kind 6 = 3 ∨ bringV x.kind 6 = 4 then bringV x.a ((d.s.nodes.n : Int) + 1) else bringV x.a ((d.s.pods.n : Int) + 1)
def rawB (d : StD) (x : DoD) : Int := if x.raw then x.b else bringV x.b ((d.s.nodes.n : Int) + 1)
def stepDD (d : StD) (x : DoD) : StD :=
  if bringV x.kind 6 = 0 then evictD d (rawA d x) else if bringV x.kind 6 = 1 ∨ bringV x.kind 6 = 2 then bindD d (rawA d x) (rawB d x) else if bringV x.kind 6 = 3 then cordonD d (rawA d x) (decide ((rawB d x).tmod 2 = 0))
  else if bringV x.kind 6 = 4 then loseD d (rawA d x) else goneD d (rawA d x)
theorem Kept.app {l r : List Nat} {nx nx' : Nat} {a b c : Nat → Option M} (h : Kept l nx a b) (k : Kept r nx' b c) (hn : nx ≤ nx') : Kept (l ++ r) nx a c := fun id hid hl =>
  (k id (by omega) (fun h => hl (List.mem_append_right _ h))).trans (h id hid (fun h => hl (List.mem_append_left _ h)))
section
variable {mem : Nat → Option M} {A R : SA} {d : StD} {nx : Nat} {K : D → (Nat → Option M) → Nat → Prop}
set_option maxRecDepth 100000 in
set_option maxHeartbeats 4000000 in
theorem step_S (h : StoreM mem A d) (hR : RefM mem R d) (hd : DInv d) (hA : A.Ok nx) (hRO : R.Ok nx) (dis : ∀ i ∈ R.ids, i ∉ A.ids) (x : DoD)
    (hk : ∀ m' n', nx ≤ n' → StoreM m' A (stepDD d x) → RefM m' R (stepDD d x) → Kept (A.ids ++ R.ids) nx mem m' → K (.f (B true)) m' n') : callS Tryz.prog 96 [.loc A.t 0, .loc R.t 0, .f (.agg (doC x))] mem nx K := by
  have hn8 := hd.ok.s.n8
  have hp24 := hd.ok.s.p24
  have hL := hRO.lts
  have w1 : IntKind.i64.wrap ((d.s.pods.n : Int) + 1) = (d.s.pods.n : Int) + 1 := w64 (by omega) (by omega)
  have w2 : IntKind.i64.wrap ((d.s.nodes.n : Int) + 1) = (d.s.nodes.n : Int) + 1 := w64 (by omega) (by omega)
  have p1 := fun a => bring_pure a ((d.s.pods.n : Int) + 1) (by omega) (by omega)
  have p2 := fun a => bring_pure a ((d.s.nodes.n : Int) + 1) (by omega) (by omega)
  have r6 := bringV_range (a := x.kind) (n := 6) (by decide)
  have fin : ∀ {dd : StD} {m1 m2 : Nat → Option M} {n0 n1 n2 : Nat}, StoreM m1 A dd → RefM m2 R dd → Kept A.ids n0 mem m1 → Kept R.ids n1 m1 m2 → nx ≤ n0 → n0 ≤ n1 → n1 ≤ n2 → stepDD d x = dd → K (.f (B true)) m2 n2 := fun {dd m1 m2 n0 n1 n2} h1 h2 k1 k2 l1 l2 l3 e => by
    subst e
    refine hk m2 n2 (by omega) (h1.other fun i hi => k2 i (by have := hA.lt i hi; omega) (fun hr => dis i hr hi)) h2 (Kept.app (fun id hid hl => k1 id (by omega) hl) k2 (by omega))
  refine callS.of_run (lit := true) (B := fun n => if n = 10 then [2, 5] else if n = 13 then [3, 7] else if n = 15 then [5, 11] else if n = 17 then [2, 5] else if n = 18 then [2, 5] else []) Tryz.func96 rfl rfl rfl rfl (Nat.le_of_ble_eq_true rfl) (runC_of_runCL ?_)
  simp -dsimp -implicitDefEqProofs [go_sem, doC]
  refine runCL_draw [[], [0], [], [2], [1, 0], [3, 2, 4, 1, 0]] rfl (by kernel_rfl) (by kernel_rfl) ?_
  simp -dsimp -implicitDefEqProofs [go_sem, Tv, Cw, silentAt, silentOp, doC]
  refine callW_f (bring_pure x.kind 6 (by decide) (by decide)) ?_
  rcases Bool.eq_false_or_eq_true x.raw with hraw | hraw
  · have hr : x.raw = true := hraw
    simp -dsimp -implicitDefEqProofs [go_sem, hr]
    rcases (by omega : bringV x.kind 6 = 0 ∨ bringV x.kind 6 = 1 ∨ bringV x.kind 6 = 2 ∨ bringV x.kind 6 = 3 ∨ bringV x.kind 6 = 4 ∨ bringV x.kind 6 = 5) with e | e | e | e | e | e
    · have eS : stepDD d x = evictD d x.a := by unfold stepDD rawA; simp [e, hr]
      simp -dsimp -implicitDefEqProofs [go_sem, ibin, e, hr]
      refine evict_S h hd.ok (hA.le (by omega)) x.a fun m1 n1 hn1 h1 k1 => ?_
      simp -dsimp -implicitDefEqProofs [go_sem, ibin, e]
      refine evict_R (hR.other fun i hi => k1 i (by have := hRO.lt i hi; omega) (dis i hi)) hd.ok (hRO.le (by omega)) x.a fun m2 n2 hn2 h2 k2 => ?_
      simp -dsimp -implicitDefEqProofs [go_sem]
      exact fin h1 h2 k1 k2 (by omega) (by omega) (by omega) eS
    · have eS : stepDD d x = bindD d x.a x.b := by unfold stepDD rawA rawB; simp [e, hr]
      simp -dsimp -implicitDefEqProofs [go_sem, ibin, e, hr]
      refine bind_S h hd.ok (hA.le (by omega)) x.a x.b fun m1 n1 hn1 h1 k1 => ?_
      simp -dsimp -implicitDefEqProofs [go_sem, ibin, e]
      refine bind_R (hR.other fun i hi => k1 i (by have := hRO.lt i hi; omega) (dis i hi)) hd.ok (hRO.le (by omega)) x.a x.b fun m2 n2 hn2 h2 k2 => ?_
      simp -dsimp -implicitDefEqProofs [go_sem]
      exact fin h1 h2 k1 k2 (by omega) (by omega) (by omega) eS
    · have eS : stepDD d x = bindD d x.a x.b := by unfold stepDD rawA rawB; simp [e, hr]
      simp -dsimp -implicitDefEqProofs [go_sem, ibin, e, hr]
      refine bind_S h hd.ok (hA.le (by omega)) x.a x.b fun m1 n1 hn1 h1 k1 => ?_
      simp -dsimp -implicitDefEqProofs [go_sem, ibin, e]
      refine bind_R (hR.other fun i hi => k1 i (by have := hRO.lt i hi; omega) (dis i hi)) hd.ok (hRO.le (by omega)) x.a x.b fun m2 n2 hn2 h2 k2 => ?_
      simp -dsimp -implicitDefEqProofs [go_sem]
      exact fin h1 h2 k1 k2 (by omega) (by omega) (by omega) eS
    · have eS : stepDD d x = cordonD d x.a (decide ((x.b).tmod 2 = 0)) := by unfold stepDD rawA rawB; simp [e, hr]
      simp -dsimp -implicitDefEqProofs [go_sem, ibin, e, hr]
      refine cordon_S h (hA.le (by omega)) x.a _ fun m1 n1 hn1 h1 k1 => ?_
      simp -dsimp -implicitDefEqProofs [go_sem, ibin, e]
      refine cordon_R (hR.other fun i hi => k1 i (by have := hRO.lt i hi; omega) (dis i hi)) (hRO.le (by omega)) x.a _ fun m2 n2 hn2 h2 k2 => ?_
      simp -dsimp -implicitDefEqProofs [go_sem]
      exact fin h1 h2 k1 k2 (by omega) (by omega) (by omega) eS
    · have eS : stepDD d x = loseD d x.a := by unfold stepDD rawA; simp [e, hr]
      simp -dsimp -implicitDefEqProofs [go_sem, ibin, e, hr]
      refine lose_S h hd.ok (hA.le (by omega)) x.a fun m1 n1 hn1 h1 k1 => ?_
      simp -dsimp -implicitDefEqProofs [go_sem, ibin, e]
      refine lose_R (hR.other fun i hi => k1 i (by have := hRO.lt i hi; omega) (dis i hi)) hd.ok (hRO.le (by omega)) x.a fun m2 n2 hn2 h2 k2 => ?_
      simp -dsimp -implicitDefEqProofs [go_sem]
      exact fin h1 h2 k1 k2 (by omega) (by omega) (by omega) eS
    · have eS : stepDD d x = goneD d x.a := by unfold stepDD rawA; simp [e, hr]
      simp -dsimp -implicitDefEqProofs [go_sem, ibin, e, hr]
      refine gone_S h hd.ok (hA.le (by omega)) x.a fun m1 n1 hn1 h1 k1 => ?_
      simp -dsimp -implicitDefEqProofs [go_sem, ibin, e]
      refine gone_R (hR.other fun i hi => k1 i (by have := hRO.lt i hi; omega) (dis i hi)) hd.ok (hRO.le (by omega)) x.a fun m2 n2 hn2 h2 k2 => ?_
      simp -dsimp -implicitDefEqProofs [go_sem]
      exact fin h1 h2 k1 k2 (by omega) (by omega) (by omega) eS
  · have hr : x.raw = false := hraw
    simp -dsimp -implicitDefEqProofs [go_sem, hr]
    simp -dsimp -implicitDefEqProofs [go_sem, hR.t, refC, hR.n, hR.o, w1, w2, doC]
    refine callW_f (p2 x.b) ?_
    simp -dsimp -implicitDefEqProofs [go_sem, hR.t, refC, hR.n, hR.o, w1, w2, doC]
    refine callW_f (p1 x.a) ?_
    simp -dsimp -implicitDefEqProofs [go_sem, hR.t, refC, hR.n, hR.o, w1, w2, doC]
    rcases (by omega : bringV x.kind 6 = 0 ∨ bringV x.kind 6 = 1 ∨ bringV x.kind 6 = 2 ∨ bringV x.kind 6 = 3 ∨ bringV x.kind 6 = 4 ∨ bringV x.kind 6 = 5) with e | e | e | e | e | e
    · have eS : stepDD d x = evictD d (bringV x.a ((d.s.pods.n : Int) + 1)) := by unfold stepDD rawA; simp [e, hr]
      simp -dsimp -implicitDefEqProofs [go_sem, ibin, e, hr, hR.t, refC, hR.n, w2]
      refine evict_S h hd.ok (hA.le (by omega)) (bringV x.a ((d.s.pods.n : Int) + 1)) fun m1 n1 hn1 h1 k1 => ?_
      simp -dsimp -implicitDefEqProofs [go_sem, ibin, e]
      refine evict_R (hR.other fun i hi => k1 i (by have := hRO.lt i hi; omega) (dis i hi)) hd.ok (hRO.le (by omega)) (bringV x.a ((d.s.pods.n : Int) + 1)) fun m2 n2 hn2 h2 k2 => ?_
      simp -dsimp -implicitDefEqProofs [go_sem]
      exact fin h1 h2 k1 k2 (by omega) (by omega) (by omega) eS
    · have eS : stepDD d x = bindD d (bringV x.a ((d.s.pods.n : Int) + 1)) (bringV x.b ((d.s.nodes.n : Int) + 1)) := by unfold stepDD rawA rawB; simp [e, hr]
      simp -dsimp -implicitDefEqProofs [go_sem, ibin, e, hr, hR.t, refC, hR.n, w2]
      refine bind_S h hd.ok (hA.le (by omega)) (bringV x.a ((d.s.pods.n : Int) + 1)) (bringV x.b ((d.s.nodes.n : Int) + 1)) fun m1 n1 hn1 h1 k1 => ?_
      simp -dsimp -implicitDefEqProofs [go_sem, ibin, e]
      refine bind_R (hR.other fun i hi => k1 i (by have := hRO.lt i hi; omega) (dis i hi)) hd.ok (hRO.le (by omega)) (bringV x.a ((d.s.pods.n : Int) + 1)) (bringV x.b ((d.s.nodes.n : Int) + 1)) fun m2 n2 hn2 h2 k2 => ?_
      simp -dsimp -implicitDefEqProofs [go_sem]
      exact fin h1 h2 k1 k2 (by omega) (by omega) (by omega) eS
    · have eS : stepDD d x = bindD d (bringV x.a ((d.s.pods.n : Int) + 1)) (bringV x.b ((d.s.nodes.n : Int) + 1)) := by unfold stepDD rawA rawB; simp [e, hr]
      simp -dsimp -implicitDefEqProofs [go_sem, ibin, e, hr, hR.t, refC, hR.n, w2]
      refine bind_S h hd.ok (hA.le (by omega)) (bringV x.a ((d.s.pods.n : Int) + 1)) (bringV x.b ((d.s.nodes.n : Int) + 1)) fun m1 n1 hn1 h1 k1 => ?_
      simp -dsimp -implicitDefEqProofs [go_sem, ibin, e]
      refine bind_R (hR.other fun i hi => k1 i (by have := hRO.lt i hi; omega) (dis i hi)) hd.ok (hRO.le (by omega)) (bringV x.a ((d.s.pods.n : Int) + 1)) (bringV x.b ((d.s.nodes.n : Int) + 1)) fun m2 n2 hn2 h2 k2 => ?_
      simp -dsimp -implicitDefEqProofs [go_sem]
      exact fin h1 h2 k1 k2 (by omega) (by omega) (by omega) eS
    · have eS : stepDD d x = cordonD d (bringV x.a ((d.s.nodes.n : Int) + 1)) (decide (((bringV x.b ((d.s.nodes.n : Int) + 1))).tmod 2 = 0)) := by unfold stepDD rawA rawB; simp [e, hr]
      simp -dsimp -implicitDefEqProofs [go_sem, ibin, e, hr, hR.t, refC, hR.n, w2]
      refine runCL_draw [[], [0], [], [2], [3, 2], [4, 3, 2], [5, 4, 3, 2], [6, 5, 4, 3, 2], [7, 6, 5, 4, 3, 2], [1, 0, 8, 7, 6, 5, 4, 3, 2], [9, 1, 0, 8, 7, 6, 5, 4, 3, 2]] rfl (by kernel_rfl) (by kernel_rfl) ?_
      simp -dsimp -implicitDefEqProofs [go_sem, Tv, Cw, silentAt, silentOp, hL, hR.t, refC, hR.n, w2]
      refine callW_f (p2 x.a) ?_
      simp -dsimp -implicitDefEqProofs [go_sem, ibin, e]
      refine cordon_S h (hA.le (by omega)) (bringV x.a ((d.s.nodes.n : Int) + 1)) _ fun m1 n1 hn1 h1 k1 => ?_
      simp -dsimp -implicitDefEqProofs [go_sem, ibin, e]
      refine cordon_R (hR.other fun i hi => k1 i (by have := hRO.lt i hi; omega) (dis i hi)) (hRO.le (by omega)) (bringV x.a ((d.s.nodes.n : Int) + 1)) _ fun m2 n2 hn2 h2 k2 => ?_
      simp -dsimp -implicitDefEqProofs [go_sem]
      exact fin h1 h2 k1 k2 (by omega) (by omega) (by omega) eS
    · have eS : stepDD d x = loseD d (bringV x.a ((d.s.nodes.n : Int) + 1)) := by unfold stepDD rawA; simp [e, hr]
      simp -dsimp -implicitDefEqProofs [go_sem, ibin, e, hr, hR.t, refC, hR.n, w2]
      refine runCL_draw [[], [0], [], [2], [3, 2], [4, 3, 2], [5, 4, 3, 2], [6, 5, 4, 3, 2], [7, 6, 5, 4, 3, 2], [1, 0, 8, 7, 6, 5, 4, 3, 2], [9, 1, 0, 8, 7, 6, 5, 4, 3, 2]] rfl (by kernel_rfl) (by kernel_rfl) ?_
      simp -dsimp -implicitDefEqProofs [go_sem, Tv, Cw, silentAt, silentOp, hL, hR.t, refC, hR.n, w2]
      refine callW_f (p2 x.a) ?_
      simp -dsimp -implicitDefEqProofs [go_sem, ibin, e]
      refine lose_S h hd.ok (hA.le (by omega)) (bringV x.a ((d.s.nodes.n : Int) + 1)) fun m1 n1 hn1 h1 k1 => ?_
      simp -dsimp -implicitDefEqProofs [go_sem, ibin, e]
      refine lose_R (hR.other fun i hi => k1 i (by have := hRO.lt i hi; omega) (dis i hi)) hd.ok (hRO.le (by omega)) (bringV x.a ((d.s.nodes.n : Int) + 1)) fun m2 n2 hn2 h2 k2 => ?_
      simp -dsimp -implicitDefEqProofs [go_sem]
      exact fin h1 h2 k1 k2 (by omega) (by omega) (by omega) eS
    · have eS : stepDD d x = goneD d (bringV x.a ((d.s.pods.n : Int) + 1)) := by unfold stepDD rawA; simp [e, hr]
      simp -dsimp -implicitDefEqProofs [go_sem, ibin, e, hr, hR.t, refC, hR.n, w2]
      refine gone_S h hd.ok (hA.le (by omega)) (bringV x.a ((d.s.pods.n : Int) + 1)) fun m1 n1 hn1 h1 k1 => ?_
      simp -dsimp -implicitDefEqProofs [go_sem, ibin, e]
      refine gone_R (hR.other fun i hi => k1 i (by have := hRO.lt i hi; omega) (dis i hi)) hd.ok (hRO.le (by omega)) (bringV x.a ((d.s.pods.n : Int) + 1)) fun m2 n2 hn2 h2 k2 => ?_
      simp -dsimp -implicitDefEqProofs [go_sem]
      exact fin h1 h2 k1 k2 (by omega) (by omega) (by omega) eS
end
end Go.Proofs.YthpmgnbehahkfaaGreat
end
section
namespace Go.Proofs.YthpmgnbehahkfaaGreat
open Go.RowKit Go.Dk Go.Dn

theorem stepDD_inv {d : StD} (h : DInv d) (x : DoD) : DInv (stepDD d x) ∧ Fol d (stepDD d x) := by
  unfold stepDD
  split
  · exact evictD_inv h _
  split
  · exact bindD_inv h _ _
  split
  · exact cordonD_inv h _ _
  split
  · exact loseD_inv h _
  · exact goneD_inv h _
theorem stepDD_like (d : StD) (x : DoD) : LikeS d.s (stepDD d x).s := by
  unfold stepDD
  split
  · rw [evictD_s]; exact LikeS.refl _
  split
  · rw [bindD_s]; exact LikeS.refl _
  split
  · unfold cordonD
    split
    · exact likeS_set _ _ _ ⟨rfl, rfl, rfl, rfl⟩
    · exact LikeS.refl _
  split
  · unfold loseD
    split
    · rw [(loseN_s _ _ _).1]
      exact likeS_set _ _ _ ⟨rfl, rfl, rfl, rfl⟩
    · exact LikeS.refl _
  · rw [goneD_s]; exact LikeS.refl _
/-- where the law's own lie -/
structure PlayF (l : Lst DoD) (s : SnapD) (A R : SA) (w n0 : Nat) (st : St) : Prop where
  n : st.n = 81
  lit : st.lit = true
  nx : n0 ≤ st.next
  f1 : st.fr 1 = .f (dosF l)
  f2 : st.fr 2 = .f (.ref [nodesF s.nodes, podsF s.pods, ownersF s.owners])
  f5 : st.fr 5 = .loc w 0
  f6 : st.fr 6 = .loc A.t 0
  f8 : st.fr 8 = .loc R.t 0
  f9 : st.fr 9 = .f (I 0)
  mw : st.mem w = some (.blk [.f (nodesF s.nodes), .f (podsF s.pods), .f (ownersF s.owners)])
set_option maxRecDepth 100000 in
set_option maxHeartbeats 8000000 in
theorem storePlays_pure (s : SnapD) (ok : SnapOk s) (l : Lst DoD) (hl : l.n ≤ 1048576) : Pure Tryz.prog 42 [snapF s, dosF l] (B true) := by
  refine Pure.of_runC (lit := true) (fun n => if n = 2 then [1] else if n = 3 then [1] else if n = 9 then [6] else []) Tryz.func42 rfl rfl rfl rfl (Nat.le_of_ble_eq_true rfl) (runC_of_runCL ?_)
  unfold St.enter
  simp -dsimp -implicitDefEqProofs [go_sem, snapF, snapC]
  refine callW_f (fs := [snapF s]) (refCopy_pure s ok) ?_
  simp -dsimp -implicitDefEqProofs [go_sem, snapF, snapC]
  refine new_S s ok (fun he n' hn' m' hm' => ?_) (fun he A m' n' hn' hkept hS hA hids => ?_)
  · have k4 : m' 4 = some (.blk [.f (nodesF s.nodes), .f (podsF s.pods), .f (ownersF s.owners)]) := by
      rw [hm' 4 (by omega) (by simp)]
      simp -dsimp -implicitDefEqProofs [upd]
    have he2 : (checkE s == 0) = false := by simpa using he
    have he3 : (checkE s != 0) = true := by simpa using he
    simp -dsimp -implicitDefEqProofs [go_sem, k4]
    refine refNew_R s ok (fun _ n2 hn2 m2 hm2 => ?_) (fun he2 => absurd he2 he)
    have k42 := (hm2 4 (by omega) (by simp)).trans k4
    simp -dsimp -implicitDefEqProofs [go_sem, he2, he3, k42]
    refine runCL_unroll 1 (iterC_step ?_)
    rcases Nat.eq_zero_or_pos l.n with h0 | h0
    · simp -dsimp -implicitDefEqProofs [go_sem, he2, he3, k42, h0]
      refine callW_f (fs := [snapF s, snapF s]) (same_pure s ok) ?_
      simp -dsimp -implicitDefEqProofs [go_sem, he2, he3, k42]
      refine callW_f (fs := []) storeWorks_pure ?_
      simp -dsimp -implicitDefEqProofs [go_sem]
    · simp -dsimp -implicitDefEqProofs [go_sem, he2, he3, k42, h0]
      refine callW_f (fs := [snapF s, snapF s]) (same_pure s ok) ?_
      simp -dsimp -implicitDefEqProofs [go_sem, he2, he3, k42]
      refine callW_f (fs := []) storeWorks_pure ?_
      simp -dsimp -implicitDefEqProofs [go_sem]
  · have k4 : m' 4 = some (.blk [.f (nodesF s.nodes), .f (podsF s.pods), .f (ownersF s.owners)]) := by
      rw [hkept 4 (by omega) (by simp)]
      simp -dsimp -implicitDefEqProofs [upd]
    simp -dsimp -implicitDefEqProofs [go_sem, k4]
    refine refNew_R s ok (fun h => absurd he h) (fun _ t c go gg m2 n2 l1 l2 l3 l4 l5 hk2 rt rc rg rb => ?_)
    have k42 := (hk2 4 (by omega) (by simp)).trans k4
    have hS2 : StoreM m2 A (startD s) := hS.same (hA.le (by omega)) hk2
    simp -dsimp -implicitDefEqProofs [go_sem, k42]
    obtain ⟨q, hq⟩ : ∃ q, q = n2 + 7 + 10 + 1 := ⟨_, rfl⟩
    obtain ⟨R, hRd⟩ : ∃ R : SA, R = ⟨t, q, 0, q + 1, 0, q + 2, 0, go, 0, gg, 0, c, 0⟩ := ⟨_, rfl⟩
    refine runCL_loop [.opn c t] (fun m st => ∃ (j : Nat) (d : StD), j ≤ 60 ∧ m = 60 - j ∧ PlayF l s A R 4 (q + 3) st ∧ st.fr 10 = .f (I j) ∧ StoreM st.mem A d ∧ RefM st.mem R d ∧ A.Ok st.next ∧ R.Ok st.next ∧ DInv d ∧ LikeS s d.s ∧ d.own = ownV s) 60 ⟨0, startD s, by omega, rfl, ?_⟩ ?_
    · simp -dsimp -implicitDefEqProofs [go_sem, redir, rt, rc]
      rw [← hq]
      have h3 : (snapRows s).length = 3 := rfl
      have old : ∀ i x, i < c → upd (openM m2 c q (snapRows s)) t x i = m2 i := fun i x hi => by
        have v : ¬ i = c ∧ ¬ i = t ∧ ¬ q ≤ i := by omega
        simp -dsimp -implicitDefEqProofs [upd, openM, v]
      have hcn : m' 4 = m' 4 ∧ 4 < c := ⟨rfl, by omega⟩
      refine ⟨⟨rfl, rfl, by simp only [h3]; omega, rfl, rfl, rfl, rfl, by rw [hRd]; rfl, rfl, (old 4 _ hcn.2).trans k42⟩, hS2.other fun i hi => old i _ (by have := hA.lt i hi; omega), ?_, hA.le (by simp only [h3]; omega), ?_, startD_inv he, LikeS.refl _, rfl⟩
      · have v : ¬ q = c ∧ ¬ q = t ∧ ¬ q + 1 = c ∧ ¬ q + 1 = t ∧ ¬ q + 2 = c ∧ ¬ q + 2 = t ∧ ¬ go = c ∧ ¬ go = t ∧ ¬ gg = c ∧ ¬ gg = t ∧ ¬ q ≤ go ∧ ¬ q ≤ gg := by omega
        subst hRd
        refine ⟨?_, ?_, ?_, ?_, ?_, ?_⟩
        · simp -dsimp -implicitDefEqProofs [upd, refC, h3]
          exact ⟨fun h => by omega, fun h => by omega⟩
        · simp -dsimp -implicitDefEqProofs [upd, openM, v, snapRows, nodeRow, startD]
        · simp -dsimp -implicitDefEqProofs [upd, openM, v, snapRows, podRow, startD]
        · simp -dsimp -implicitDefEqProofs [upd, openM, v, snapRows, ownerRow, startD]
        · simp -dsimp -implicitDefEqProofs [upd, openM, v, rg, startD]
        · simp -dsimp -implicitDefEqProofs [upd, openM, v, rb, startD]
      · subst hRd
        refine ⟨?_, fun i hi => ?_⟩
        · simp only [SA.ids, List.nodup_cons, List.mem_cons, List.not_mem_nil, or_false, not_or, not_false_iff, true_and, List.nodup_nil, and_true]
          omega
        · simp only [SA.ids, List.mem_cons, List.not_mem_nil, or_false] at hi
          simp only [h3]
          omega
    have dis : ∀ i ∈ R.ids, i ∉ A.ids := fun i hi h => by
      have := hA.lt i h
      subst hRd
      simp only [SA.ids, List.mem_cons, List.not_mem_nil, or_false] at hi
      omega
    have w4 : 4 ∉ A.ids ++ R.ids := fun h => by
      rcases List.mem_append.1 h with h | h
      · have := hids 4 h; omega
      · subst hRd
        simp only [SA.ids, List.mem_cons, List.not_mem_nil, or_false] at h
        omega
    clear hRd hS2 k42 rt rc rg rb hk2 k4 hS hkept hA
    rintro m ⟨N, fr, mem, nx, lt⟩ ⟨j, d, hj, rfl, hf, f10, hS, hR, hA, hRO, inv, like, hown⟩
    obtain ⟨rfl, rfl, hnx, f1, f2, f5, f6, f8, f9, mw⟩ := hf
    dsimp only at *
    by_cases hc : j < l.n ∧ j < 60
    · have hc1 := hc.1
      have hc2 : (j : Int) < 60 := by omega
      simp -dsimp -implicitDefEqProofs [go_sem, f1, f2, f5, f6, f8, f9, f10, hc1, hc2, encL_get? _ hc1, doC_eq (l.el j)]
      refine step_S hS hR inv (hA.le (by omega)) (hRO.le (by omega)) dis (l.el j) fun m3 n3 hn3 hS3 hR3 hk3 => ?_
      obtain ⟨inv3, fol3⟩ := stepDD_inv inv (l.el j)
      have like3 := like.trans (stepDD_like d (l.el j))
      have hown3 : (stepDD d (l.el j)).own = ownV s := fol3.own.trans hown
      have mw3 := (hk3 4 (by omega) w4).trans mw
      generalize stepDD d (l.el j) = d3 at hS3 hR3 inv3 like3 hown3
      have okd : SnapOk d3.s := like_ok like3 ok
      simp -dsimp -implicitDefEqProofs [go_sem, f1, f2, f5, f6, f8, f9, f10]
      rcases Bool.eq_false_or_eq_true ((j : Int).tmod 8 == 7) with h7 | h7
      · simp -dsimp -implicitDefEqProofs [go_sem, f1, f2, f5, f6, f8, f9, f10, h7]
        refine callW_z (fs := [.ref (stF d3), .ref (refF d3)]) (by simp -dsimp -implicitDefEqProofs [omap, st_frz hS3, ref_frz hR3]) (same_F like3 he okd inv3 hown3) rfl ?_
        simp -dsimp -implicitDefEqProofs [go_sem, f1, f2, f5, f6, f8, f9, f10, h7]
        exact ⟨_, by omega, j + 1, by omega, rfl, ⟨rfl, rfl, by first | omega | (simp -dsimp -implicitDefEqProofs [go_sem] <;> omega), f1, f2, f5, f6, f8, f9, mw3⟩, w64 (by omega) (by omega), d3, hS3, hR3, hA.le (by first | omega | (simp -dsimp -implicitDefEqProofs [go_sem] <;> omega)), hRO.le (by first | omega | (simp -dsimp -implicitDefEqProofs [go_sem] <;> omega)), inv3, like3, hown3⟩
      · simp -dsimp -implicitDefEqProofs [go_sem, f1, f2, f5, f6, f8, f9, f10, h7]
        exact ⟨_, by omega, j + 1, by omega, rfl, ⟨rfl, rfl, by first | omega | (simp -dsimp -implicitDefEqProofs [go_sem] <;> omega), f1, f2, f5, f6, f8, f9, mw3⟩, w64 (by omega) (by omega), d3, hS3, hR3, hA.le (by first | omega | (simp -dsimp -implicitDefEqProofs [go_sem] <;> omega)), hRO.le (by first | omega | (simp -dsimp -implicitDefEqProofs [go_sem] <;> omega)), inv3, like3, hown3⟩
    · have okd : SnapOk d.s := like_ok like ok
      rcases Nat.lt_or_ge j l.n with h1 | h1
      · have h2 : ¬ (j : Int) < 60 := by omega
        simp -dsimp -implicitDefEqProofs [go_sem, f1, f2, f5, f6, f8, f9, f10, mw, h1, h2]
        refine callW_f (fs := [snapF s, snapF s]) (same_pure s ok) ?_
        simp -dsimp -implicitDefEqProofs [go_sem, f1, f2, f5, f6, f8, f9, f10, mw]
        refine callW_z (fs := [.ref (stF d), .ref (refF d)]) (by simp -dsimp -implicitDefEqProofs [omap, st_frz hS, ref_frz hR]) (same_F like he okd inv hown) rfl ?_
        simp -dsimp -implicitDefEqProofs [go_sem]
        refine callW_f (fs := []) storeWorks_pure ?_
        simp -dsimp -implicitDefEqProofs [go_sem]
      · have h3 : ¬ j < l.n := by omega
        simp -dsimp -implicitDefEqProofs [go_sem, f1, f2, f5, f6, f8, f9, f10, mw, h3]
        refine callW_f (fs := [snapF s, snapF s]) (same_pure s ok) ?_
        simp -dsimp -implicitDefEqProofs [go_sem, f1, f2, f5, f6, f8, f9, f10, mw]
        refine callW_z (fs := [.ref (stF d), .ref (refF d)]) (by simp -dsimp -implicitDefEqProofs [omap, st_frz hS, ref_frz hR]) (same_F like he okd inv hown) rfl ?_
        simp -dsimp -implicitDefEqProofs [go_sem]
        refine callW_f (fs := []) storeWorks_pure ?_
        simp -dsimp -implicitDefEqProofs [go_sem]
end Go.Proofs.YthpmgnbehahkfaaGreat
end
