/- PlaceSteps over data. -/
import Derived.Test.YthpmgnbehahkfaaGreatJWn
set_option linter.unusedSimpArgs false
set_option linter.unusedVariables false
namespace Go.Dn
open Go.RowKit Go.Dk
variable {P : Program} {B : Nat → List Nat} {st : St} {k : Ex → St → Prop} {u : Lk k}
/-- many ways meet -/
theorem runHL_gcut {a b : Code} (Mid : St → Prop) (h : runHL P B a st (fun e s => match e with
    | .normal => Mid s
    | e => k e s) ⟨⟩) (h2 : ∀ s, Mid s → runHL P B b s k ⟨⟩) : runHL P B (.seq a b) st k u := runH_mono a _ _ _ (fun e s h => by cases e <;> first | exact ⟨0, [], h2 s h⟩ | exact h) h
end Go.Dn
namespace Go.Proofs.YthpmgnbehahkfaaGreat
open Go.RowKit Go.Dk Go.Dn

/-- a step -/
structure StepD where
  kind : Int
  pod : Int
  node : Int
def stepF (x : StepD) : List FD := [I x.kind, I x.pod, I x.node]
def stepsF (l : Lst StepD) : FD := .sl 3 (encL l.n fun k => stepF (l.el k))
theorem stepF_eq (x : StepD) : stepF x = [I x.kind, I x.pod, I x.node] := rfl
theorem copyI_pure (l : Lst Int) (hn : l.n ≤ 1048576) : Pure Tryz.prog 13 [intsF l] (intsF l) := by
  refine Pure.of_run (lit := false) Tryz.func13 rfl rfl rfl rfl (Nat.le_of_ble_eq_true rfl) (run_of_runL ?_)
  unfold St.enter
  simp -dsimp -implicitDefEqProofs [go_sem, intsF]
  refine andL_mk (by omega) ?_
  simp -dsimp -implicitDefEqProofs [go_sem, intsF]
theorem eqL_same (a : Lst Int) : eqL a a = true := by simp [eqL, allB, anyB]
theorem eqI_same (a : Lst Int) (h : a.n ≤ 1048576) : Pure Tryz.prog 16 [intsF a, intsF a] (B true) := by
  have := eqI_pure a a h h
  rwa [eqL_same] at this
theorem eqI_nil (a : Lst Int) : Pure Tryz.prog 16 [.v (.slice none 0 0), intsF ⟨0, a.el⟩] (B true) := by
  have h := eqI_same ⟨0, a.el⟩ (Nat.zero_le _)
  exact ⟨h.1, fun x vs hws hr => h.2 x vs hws (FLeL.repL hr (FLeL.cons (FLe.nil _) (FLeL.refl _)))⟩
theorem appL_n (s : SnapD) (l : Lst Int) (a b c : Int) : (appL s l a b c).n ≤ l.n := by
  unfold appL
  split
  · exact Nat.le_refl _
  · exact Nat.zero_le _
theorem movesL_len (p q : Lst Int) (hp : p.n ≤ 1048576) : (movesL p q).length ≤ 1048576 := by
  have := movP_len p q (min p.n q.n)
  unfold movesL
  omega
/-- what is there when a step is made -/
structure StepM (c : SnapD) (q : Lst Int) (l : Lst StepD) (j nx : Nat) (e : Int) (st : St) : Prop where
  n : st.n = 90
  lit : st.lit = false
  nx : nx ≤ st.next
  f1 : st.fr 1 = .f (intsF q)
  f2 : st.fr 2 = .f (stepsF l)
  f3 : st.fr 3 = .loc 0 0
  f7 : st.fr 7 = .f (I j)
  f8 : st.fr 8 = .f (intsF q)
  f10 : st.fr 10 = .f (I e)
  m0 : st.mem 0 = some (.blk [.f (nodesF c.nodes), .f (podsF c.pods), .f (ownersF c.owners)])
set_option maxRecDepth 100000 in
set_option maxHeartbeats 8000000 in
theorem placeSteps_pure (s : SnapD) (ok : SnapOk s) (p : Lst Int) (hp : p.n ≤ 1048576) (l : Lst StepD) (hl : l.n ≤ 1048576) : Pure Tryz.prog 7 [snapF s, intsF p, stepsF l] (B true) := by
  have okc := cutD_ok ok
  refine Pure.of_runH (lit := false) (fun _ => []) Tryz.func7 rfl rfl rfl rfl (Nat.le_of_ble_eq_true rfl) (runH_of_runHL ?_)
  unfold St.enter
  refine runHL_on ?_
  simp -dsimp -implicitDefEqProofs [go_sem, snapF, snapC]
  refine runHL_on ?_
  simp -dsimp -implicitDefEqProofs [go_sem, snapF, snapC]
  refine callW_f (fs := [snapF s]) (cutSnap_pure s) ?_
  simp -dsimp -implicitDefEqProofs [go_sem, snapF, snapC]
  generalize cutD s = c at okc ⊢
  refine runHL_sub ?_
  refine runHL_on ?_
  simp -dsimp -implicitDefEqProofs [go_sem]
  refine runHL_loop [] (fun m st => ∃ (j : Nat) (q : Lst Int), st.n = 90 ∧ st.lit = false ∧ j ≤ 12 ∧ m = 12 - j ∧ q.n ≤ 1048576 ∧ 1 ≤ st.next ∧ st.fr 1 = .f (intsF q) ∧ st.fr 2 = .f (stepsF l) ∧ st.fr 3 = .loc 0 0 ∧ st.fr 7 = .f (I j) ∧
    st.mem 0 = some (.blk [.f (nodesF c.nodes), .f (podsF c.pods), .f (ownersF c.owners)])) 12 ⟨0, p, ?_⟩ ?_
  · simp -dsimp -implicitDefEqProofs [go_sem]
    exact hp
  rintro m ⟨N, fr, mem, nx, lt⟩ ⟨j, q, hN, hlt, hj, rfl, hq, hnx, f1, f2, f3, f7, m0⟩
  dsimp only at *
  subst hN hlt
  refine ⟨0, [], ?_⟩
  simp -dsimp -implicitDefEqProofs [go_sem]
  by_cases hc : j < l.n ∧ j < 12
  · obtain ⟨hc1, hc2⟩ := hc
    have hc3 : (j : Int) < 12 := by omega
    obtain ⟨x, hx⟩ : ∃ x, x = l.el j := ⟨_, rfl⟩
    obtain ⟨E, hE⟩ : ∃ E, E = appE c q x.kind x.pod x.node := ⟨_, rfl⟩
    refine runHL_on ?_
    simp -dsimp -implicitDefEqProofs [go_sem, f1, f2, f3, f7, stepsF, hc1, hc3]
    refine runHL_sub ?_
    simp -dsimp -implicitDefEqProofs [go_sem]
    refine runHL_on ?_
    simp -dsimp -implicitDefEqProofs [go_sem, f1, f2, f3, f7]
    refine callW_f (fs := [intsF q]) (copyI_pure q hq) ?_
    simp -dsimp -implicitDefEqProofs [go_sem, f1, f2, f3, f7]
    refine runHL_gcut (fun st => StepM c q l j nx E st ∧ ((E ≠ 0 ∧ st.fr 9 = .f (.v (.slice none 0 0))) ∨ (E = 0 ∧ ∃ g, 0 < g ∧ g < st.next ∧ st.fr 9 = .own g 0 ∧ st.mem g = some (.row 3 0 1 (encL q.n fun i => [I (setC q.el x.pod.toNat (appTo x.kind x.node) i)]))))) ?_ ?_
    · refine runHL_ntree 6 (List.take 6 [[], [], [], [], [2, 3], [4, 2, 3], [0, 1, 5, 4, 2, 3], [6, 0, 1, 5, 4, 2, 3], [7, 6, 0, 1, 5, 4, 2, 3], [7, 6, 0, 1, 5, 4, 2, 3], [8, 7, 6, 0, 1, 5, 4, 2, 3], [9, 7, 6, 0, 1, 5, 4, 2, 3, 10, 8]]) (.one 6 (.one 7 (.two 8 (.two 9 (.one 10 (.one 11 .done)) 10 (.one 9 (.one 11 .done))) 9 (.one 8 (.one 10 (.one 11 .done)))))) [6] rfl rfl ⟨by decide, by kernel_rfl, by kernel_rfl, by kernel_rfl, by kernel_rfl, by kernel_rfl⟩ ?_
      simp -dsimp -implicitDefEqProofs [go_sem, Tv, Cw, silentAt, silentOp, f1, f2, f3, f7, m0, stepsF, hc1, encL_get? _ hc1, stepF_eq (l.el j)]
      rw [hx] at hE
      refine apply_C c okc q hq (l.el j).kind (l.el j).pod (l.el j).node (fun hne m1 n1 a1 k1 => ?_) (fun h0 m1 n1 q1 a1 b1 k1 row1 => ?_)
      · rw [← hE] at hne ⊢
        simp -dsimp -implicitDefEqProofs [go_sem]
        refine tailTL_two ?_ ?_
        · simp -dsimp -implicitDefEqProofs [go_sem]
          refine tailTL_two ?_ ?_
          · simp -dsimp -implicitDefEqProofs [go_sem]
            exact ⟨⟨rfl, rfl, by first | omega | (simp -dsimp -implicitDefEqProofs [go_sem] <;> omega), f1, f2, f3, f7, rfl, rfl, (k1 0 (by omega) (by simp)).trans m0⟩, hne⟩
          · simp -dsimp -implicitDefEqProofs [go_sem]
            exact ⟨⟨rfl, rfl, by first | omega | (simp -dsimp -implicitDefEqProofs [go_sem] <;> omega), f1, f2, f3, f7, rfl, rfl, (k1 0 (by omega) (by simp)).trans m0⟩, hne⟩
        · simp -dsimp -implicitDefEqProofs [go_sem]
          exact ⟨⟨rfl, rfl, by first | omega | (simp -dsimp -implicitDefEqProofs [go_sem] <;> omega), f1, f2, f3, f7, rfl, rfl, (k1 0 (by omega) (by simp)).trans m0⟩, hne⟩
      · rw [← hx] at row1
        simp -dsimp -implicitDefEqProofs [go_sem]
        refine tailTL_two ?_ ?_
        · simp -dsimp -implicitDefEqProofs [go_sem]
          refine tailTL_two ?_ ?_
          · simp -dsimp -implicitDefEqProofs [go_sem]
            exact ⟨⟨rfl, rfl, by first | omega | (simp -dsimp -implicitDefEqProofs [go_sem] <;> omega), f1, f2, f3, f7, rfl, by rw [hE.trans h0]; rfl, (k1 0 (by omega) (by simp)).trans m0⟩, hE.trans h0, q1, by omega, by first | omega | (simp -dsimp -implicitDefEqProofs [go_sem] <;> omega), rfl, row1⟩
          · simp -dsimp -implicitDefEqProofs [go_sem]
            exact ⟨⟨rfl, rfl, by first | omega | (simp -dsimp -implicitDefEqProofs [go_sem] <;> omega), f1, f2, f3, f7, rfl, by rw [hE.trans h0]; rfl, (k1 0 (by omega) (by simp)).trans m0⟩, hE.trans h0, q1, by omega, by first | omega | (simp -dsimp -implicitDefEqProofs [go_sem] <;> omega), rfl, row1⟩
        · simp -dsimp -implicitDefEqProofs [go_sem]
          exact ⟨⟨rfl, rfl, by first | omega | (simp -dsimp -implicitDefEqProofs [go_sem] <;> omega), f1, f2, f3, f7, rfl, by rw [hE.trans h0]; rfl, (k1 0 (by omega) (by simp)).trans m0⟩, hE.trans h0, q1, by omega, by first | omega | (simp -dsimp -implicitDefEqProofs [go_sem] <;> omega), rfl, row1⟩
    · rintro ⟨N, fr, mem, nx2, lt⟩ ⟨⟨hN, hlt, hnx2, f1, f2, f3, f7, f8, f10, m0⟩, hr⟩
      dsimp only at *
      subst hN hlt
      have hp0 : 0 < nx2 := by omega
      have hqa := appL_n c q (l.el j).kind (l.el j).pod (l.el j).node
      have hFA : appF c q (l.el j).kind (l.el j).pod (l.el j).node = .tup [intsF (appL c q (l.el j).kind (l.el j).pod (l.el j).node), I E] := by
        rw [hE, hx]
        rfl
      refine runHL_on ?_
      refine runCL_draw [[], [], [], [], [2, 3], [4, 2, 3], [0, 1, 5, 4, 2, 3], [6, 0, 1, 5, 4, 2, 3], [7, 6, 0, 1, 5, 4, 2, 3], [7, 6, 0, 1, 5, 4, 2, 3], [8, 7, 6, 0, 1, 5, 4, 2, 3], [9, 7, 6, 0, 1, 5, 4, 2, 3, 10, 8]] rfl (by kernel_rfl) (by kernel_rfl) ?_
      simp -dsimp -implicitDefEqProofs [go_sem, Tv, Cw, silentAt, silentOp, hp0, f1, f2, f3, f7, f8, f10, m0, stepsF, hc1, encL_get? _ hc1, stepF_eq (l.el j)]
      refine callW_f (fs := [snapF c, intsF q, .agg [I (l.el j).kind, I (l.el j).pod, I (l.el j).node]]) (refApply_pure c okc q hq _ _ _) ?_
      rw [hFA]
      rw [hx] at hE
      rcases hr with ⟨hne, f9⟩ | ⟨h0, g, hg0, hg, f9, mg⟩
      · have hA : appL c q (l.el j).kind (l.el j).pod (l.el j).node = ⟨0, q.el⟩ := by
          unfold appL
          rw [← hE, if_neg hne]
        rw [hA]
        simp -dsimp -implicitDefEqProofs [go_sem, Tv, Cw, silentAt, silentOp, hp0, f1, f2, f3, f7, f8, f9, f10, m0]
        refine runHL_on ?_
        simp -dsimp -implicitDefEqProofs [go_sem, f1, f2, f3, f7, f8, f9, f10, m0]
        refine callW_f (fs := [.v (.slice none 0 0), intsF ⟨0, q.el⟩]) (eqI_nil q) ?_
        simp -dsimp -implicitDefEqProofs [go_sem, f1, f2, f3, f7, f8, f9, f10, m0]
        refine callW_f (fs := [intsF q, intsF q]) (eqI_same q hq) ?_
        simp -dsimp -implicitDefEqProofs [go_sem, f1, f2, f3, f7, f8, f9, f10, m0]
        refine callW_f (fs := [intsF q, intsF ⟨0, q.el⟩]) (moves_pure q ⟨0, q.el⟩ hq (Nat.zero_le _)) ?_
        simp -dsimp -implicitDefEqProofs [go_sem, f1, f2, f3, f7, f8, f9, f10, m0]
        refine callW_f (fs := [intsF q, intsF ⟨0, q.el⟩]) (refMoves_pure q ⟨0, q.el⟩ hq (Nat.zero_le _)) ?_
        simp -dsimp -implicitDefEqProofs [go_sem, f1, f2, f3, f7, f8, f9, f10, m0]
        refine callW_f (fs := [movF (movesL q ⟨0, q.el⟩), movF (movesL q ⟨0, q.el⟩)]) (sameMoves_pure _ (movesL_len _ _ hq)) ?_
        simp -dsimp -implicitDefEqProofs [go_sem, f1, f2, f3, f7, f8, f9, f10, m0]
        have e0 : (E == 0) = false := by simpa using hne
        refine runHL_end ?_
        simp -dsimp -implicitDefEqProofs [go_sem, f1, f2, f3, f7, f8, f9, f10, m0]
        refine runCL_unroll 1 (iterC_step ?_)
        simp -dsimp -implicitDefEqProofs [go_sem, f1, f2, f3, f7, f8, f9, f10, m0]
        refine callW_f (fs := [intsF q, intsF q]) (eqI_same q hq) ?_
        simp -dsimp -implicitDefEqProofs [go_sem, f1, f2, f3, f7, f8, f9, f10, m0, e0]
        refine runHL_end ?_
        simp -dsimp -implicitDefEqProofs [go_sem, f1, f2, f3, f7, f8, f9, f10, m0, e0]
        exact ⟨_, by omega, j + 1, by omega, rfl, q, hq, rfl, w64 (by omega) (by omega)⟩
      · have hA : intsF (appL c q (l.el j).kind (l.el j).pod (l.el j).node) = .sl 1 (encL q.n fun i => [I (setC q.el x.pod.toNat (appTo x.kind x.node) i)]) := by
          unfold appL
          rw [← hE, if_pos h0, hx]
          rfl
        obtain ⟨u, hu⟩ : ∃ u : Lst Int, u = ⟨q.n, setC q.el x.pod.toNat (appTo x.kind x.node)⟩ := ⟨_, rfl⟩
        have hA2 : intsF (appL c q (l.el j).kind (l.el j).pod (l.el j).node) = intsF u := by rw [hA, hu]; rfl
        have hun : u.n = q.n := by rw [hu]
        have hul : u.n ≤ 1048576 := by omega
        have mg' : mem g = some (.row 3 0 1 (encL q.n fun i => [I (u.el i)])) := by rw [mg, hu]
        rw [hA2]
        simp -dsimp -implicitDefEqProofs [go_sem, Tv, Cw, silentAt, silentOp, f1, f2, f3, f7, f8, f9, f10, m0]
        refine runHL_on ?_
        simp -dsimp -implicitDefEqProofs [go_sem, f1, f2, f3, f7, f8, f9, f10, m0]
        refine callW_z (fs := [intsF u, intsF u]) (by simp -dsimp -implicitDefEqProofs [omap, frz, mg', intsF, hun]) (eqI_same u hul) rfl ?_
        simp -dsimp -implicitDefEqProofs [go_sem, f1, f2, f3, f7, f8, f9, f10, m0]
        refine callW_f (fs := [intsF q, intsF q]) (eqI_same q hq) ?_
        simp -dsimp -implicitDefEqProofs [go_sem, f1, f2, f3, f7, f8, f9, f10, m0]
        refine callW_f (fs := [intsF q, intsF u]) (moves_pure q u hq hul) ?_
        simp -dsimp -implicitDefEqProofs [go_sem, f1, f2, f3, f7, f8, f9, f10, m0]
        refine callW_f (fs := [intsF q, intsF u]) (refMoves_pure q u hq hul) ?_
        simp -dsimp -implicitDefEqProofs [go_sem, f1, f2, f3, f7, f8, f9, f10, m0]
        refine callW_f (fs := [movF (movesL q u), movF (movesL q u)]) (sameMoves_pure _ (movesL_len _ _ hq)) ?_
        simp -dsimp -implicitDefEqProofs [go_sem, f1, f2, f3, f7, f8, f9, f10, m0]
        refine runHL_end ?_
        simp -dsimp -implicitDefEqProofs [go_sem, f1, f2, f3, f7, f8, f9, f10, m0]
        refine runCL_loop [] (fun m st => ∃ (k : Nat) (f : Nat → Int), st.n = 90 ∧ st.lit = false ∧ k ≤ q.n ∧ m = q.n - k ∧ 1 ≤ st.next ∧ st.fr 1 = .f (intsF q) ∧ st.fr 2 = .f (stepsF l) ∧ st.fr 3 = .loc 0 0 ∧ st.fr 7 = .f (I j) ∧ st.fr 8 = .f (intsF q) ∧ st.fr 9 = .own g 0 ∧ st.fr 11 = .f (intsF u) ∧ st.fr 12 = .f (I E) ∧ st.fr 13 = .f (I k) ∧
          st.mem 0 = some (.blk [.f (nodesF c.nodes), .f (podsF c.pods), .f (ownersF c.owners)]) ∧ st.mem g = some (.row 3 0 1 (encL q.n fun i => [I (f i)]))) q.n ⟨0, u.el, ?_⟩ ?_
        · simp -dsimp -implicitDefEqProofs [go_sem, f1, f2, f3, f7, f8, f9, f10, m0, mg']
        clear f1 f2 f3 f7 f8 f9 f10 m0 mg mg'
        have hg1 : ¬ 0 = g := by omega
        have hg2 : ¬ g = 0 := by omega
        rintro m ⟨N, fr, mem, nx3, lt⟩ ⟨k, f, hN, hlt, hk, rfl, hnx3, f1, f2, f3, f7, f8, f9, f11, f12, f13, m0, mg⟩
        dsimp only at *
        subst hN hlt
        rcases Nat.lt_or_ge k q.n with hkq | hkq
        · simp -dsimp -implicitDefEqProofs [go_sem, f1, f2, f3, f7, f8, f9, f11, f12, f13, m0, mg, hkq, hg1, hg2, encI_set _ _ _ _ hkq]
          exact ⟨_, by omega, k + 1, by omega, rfl, w64 (by omega) (by omega), _, rfl⟩
        · obtain rfl : k = q.n := by omega
          have e0 : (E == 0) = true := by simpa using h0
          simp -dsimp -implicitDefEqProofs [go_sem, f1, f2, f3, f7, f8, f9, f11, f12, f13, m0, mg, hg1, hg2]
          refine callW_f (fs := [intsF q, intsF q]) (eqI_same q hq) ?_
          simp -dsimp -implicitDefEqProofs [go_sem, f1, f2, f3, f7, f8, f9, f11, f12, f13, m0, e0]
          refine runHL_end ?_
          simp -dsimp -implicitDefEqProofs [go_sem, f1, f2, f3, f7, f8, f9, f11, f12, f13, m0, e0]
          exact ⟨_, by omega, j + 1, by omega, rfl, u, hul, rfl, w64 (by omega) (by omega)⟩
  · refine runHL_on ?_
    rcases Nat.lt_or_ge j l.n with h1 | h1
    · have h2 : ¬ (j : Int) < 12 := by omega
      simp -dsimp -implicitDefEqProofs [go_sem, f1, f2, f3, f7, stepsF, h1, h2]
      refine runHL_end ?_
      simp -dsimp -implicitDefEqProofs [go_sem]
      refine callW_f (fs := []) placeWorks_pure ?_
      simp -dsimp -implicitDefEqProofs [go_sem]
      exact FLe.refl _
    · have h2 : ¬ j < l.n := by omega
      simp -dsimp -implicitDefEqProofs [go_sem, f1, f2, f3, f7, stepsF, h2]
      refine runHL_end ?_
      simp -dsimp -implicitDefEqProofs [go_sem]
      refine callW_f (fs := []) placeWorks_pure ?_
      simp -dsimp -implicitDefEqProofs [go_sem]
      exact FLe.refl _
end Go.Proofs.YthpmgnbehahkfaaGreat
