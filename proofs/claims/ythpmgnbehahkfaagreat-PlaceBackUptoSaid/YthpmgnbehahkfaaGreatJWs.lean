/- PlaceBack over data. -/
import Derived.Test.YthpmgnbehahkfaaGreatJWr
set_option linter.unusedSimpArgs false
set_option linter.unusedVariables false
namespace Go.Proofs.YthpmgnbehahkfaaGreat
open Go.RowKit Go.Dk Go.Dn

theorem appE_evict {s : SnapD} {l : Lst Int} (h : placeE s l = 0) {i : Nat} (hi : i < l.n) (hp : ¬ l.el i = -1) : appE s l 1 i 0 = 0 :=
  appE_ok h (.inl rfl) (by rw [if_neg (by decide)]; omega) (by rw [Int.toNat_natCast]; simp [hp])
theorem appE_bind {s : SnapD} {l : Lst Int} (h : placeE s l = 0) {i m : Nat} (hi : i < l.n) (hp : l.el i = -1) (hm : m < s.nodes.n) (hl : (s.nodes.el m).lost = false) : appE s l 2 i m = 0 :=
  appE_ok h (.inr rfl) (by rw [if_pos rfl]; omega) (by rw [Int.toNat_natCast, Int.toNat_natCast]; simp [hp, hl])
theorem setC_place {s : SnapD} {f : Nat → Int} (h : ∀ i, i < s.pods.n → Place s (f i)) (k : Nat) {x : Int} (hx : Place s x) : ∀ i, i < s.pods.n → Place s (setC f k x i) := fun i hi => by
  unfold setC
  split
  · exact hx
  · exact h i hi
theorem setC_back (f : Nat → Int) (i : Nat) : setC (setC f i (-1)) i (f i) = f := by
  funext j
  unfold setC
  split
  · rename_i h; rw [h]
  · rfl
theorem setC_id {f : Nat → Int} {i : Nat} {x : Int} (h : f i = x) : setC f i x = f := by
  funext j
  unfold setC
  split
  · rename_i e; rw [e, h]
  · rfl
/-- behind both calls -/
def BackM (c : SnapD) (p q : Nat → Int) (j nx : Nat) (st : St) : Prop :=
  st.n = 155 ∧ st.lit = false ∧ nx < st.next ∧ st.fr 3 = .loc 0 0 ∧ st.fr 7 = .f (intsF ⟨c.pods.n, p⟩) ∧ st.fr 8 = .f (intsF ⟨c.pods.n, q⟩) ∧ st.fr 9 = .f (I j) ∧
    st.mem 0 = some (.blk [.f (nodesF c.nodes), .f (podsF c.pods), .f (ownersF c.owners)])
/-- in the middle of a round: a placement, and the move -/
def MidM (c : SnapD) (q : Nat → Int) (L : List (Int × Int)) (k i : Nat) (g : Nat → Int) (nx : Nat) (st : St) : Prop :=
  st.n = 155 ∧ st.lit = false ∧ nx < st.next ∧ st.fr 3 = .loc 0 0 ∧ st.fr 7 = .f (intsF ⟨c.pods.n, g⟩) ∧ st.fr 8 = .f (intsF ⟨c.pods.n, q⟩) ∧ st.fr 14 = .f (movF L) ∧ st.fr 15 = .f (I k) ∧
    st.mem 0 = some (.blk [.f (nodesF c.nodes), .f (podsF c.pods), .f (ownersF c.owners)]) ∧ ∃ b, 0 < b ∧ b < st.next ∧ st.fr 16 = .loc b 0 ∧ st.mem b = some (.blk [.f (I i), .f (I (q i))])
set_option maxRecDepth 100000 in
set_option maxHeartbeats 8000000 in
theorem placeBack_pure (s : SnapD) (ok : SnapOk s) (l : Lst Int) (hl : l.n ≤ 1048576) (l2 : Lst Int) (hl2 : l2.n ≤ 1048576) : Pure Tryz.prog 9 [snapF s, intsF l, intsF l2] (B true) := by
  have okc := cutD_ok ok
  refine Pure.of_runH (lit := false) (fun n => if n = 9 then [4] else if n = 21 then [5] else if n = 26 then [7] else []) Tryz.func9 rfl rfl rfl rfl (Nat.le_of_ble_eq_true rfl) (runH_of_runHL ?_)
  unfold St.enter
  refine runHL_on ?_
  simp -dsimp -implicitDefEqProofs [go_sem, snapF, snapC]
  refine runHL_on ?_
  simp -dsimp -implicitDefEqProofs [go_sem, snapF, snapC]
  refine callW_f (fs := [snapF s]) (cutSnap_pure s) ?_
  simp -dsimp -implicitDefEqProofs [go_sem, snapF, snapC]
  generalize cutD s = c at okc ⊢
  refine runHL_on ?_
  refine runCL_draw [[], [], [0, 1], [], [], [3, 4, 2, 0, 1], [2, 0, 1, 5, 3, 4], [5, 3, 4, 2, 0, 1, 6]] rfl (by kernel_rfl) (by kernel_rfl) ?_
  simp -dsimp -implicitDefEqProofs [go_sem, Tv, Cw, silentAt, silentOp]
  refine callW_f (fs := [snapF c, intsF l]) (fitted_pure c okc l hl) ?_
  simp -dsimp -implicitDefEqProofs [go_sem, Tv, Cw, silentAt, silentOp]
  refine callW_f (fs := [snapF c, intsF l2]) (fitted_pure c okc l2 hl2) ?_
  simp -dsimp -implicitDefEqProofs [go_sem, Tv, Cw, silentAt, silentOp]
  have hn : c.pods.n ≤ 1048576 := okc.p1
  have hpv : ∀ i, i < c.pods.n → Place c ((fitL c l).el i) := fun i _ => fitV_place c l i
  have hqv : ∀ i, i < c.pods.n → Place c ((fitL c l2).el i) := fun i _ => fitV_place c l2 i
  have hp1 : (fitL c l).n = c.pods.n := rfl
  have hq1 : (fitL c l2).n = c.pods.n := rfl
  generalize fitL c l = p at *
  generalize fitL c l2 = q at *
  obtain ⟨pn, p⟩ := p
  obtain ⟨qn, q⟩ := q
  dsimp only at hp1 hq1 hpv hqv
  subst hp1
  subst hq1
  refine runHL_on ?_
  simp -dsimp -implicitDefEqProofs [go_sem]
  refine callW_f (fs := [snapF c, intsF ⟨c.pods.n, p⟩]) (placeCheck_pure c okc _ hn) ?_
  by_cases hc : checkE c = 0
  · have hpe : placeE c ⟨c.pods.n, p⟩ = 0 := placeE_ok hc hpv
    rw [hpe]
    simp -dsimp -implicitDefEqProofs [go_sem]
    refine runHL_sub ?_
    refine runHL_on ?_
    simp -dsimp -implicitDefEqProofs [go_sem]
    refine runHL_loop [] (fun m st => ∃ j : Nat, st.n = 155 ∧ st.lit = false ∧ j ≤ c.pods.n ∧ m = c.pods.n - j ∧ 1 ≤ st.next ∧ st.fr 3 = .loc 0 0 ∧ st.fr 7 = .f (intsF ⟨c.pods.n, p⟩) ∧ st.fr 8 = .f (intsF ⟨c.pods.n, q⟩) ∧ st.fr 9 = .f (I j) ∧
      st.mem 0 = some (.blk [.f (nodesF c.nodes), .f (podsF c.pods), .f (ownersF c.owners)])) c.pods.n ⟨0, ?_⟩ ?_
    · simp -dsimp -implicitDefEqProofs [go_sem]
    rintro m ⟨N, fr, mem, nx, lt⟩ ⟨j, hN, hlt, hj, rfl, hnx, f3, f7, f8, f9, m0⟩
    dsimp only at *
    subst hN hlt
    refine ⟨0, [], ?_⟩
    simp -dsimp -implicitDefEqProofs [go_sem]
    rcases Nat.lt_or_ge j c.pods.n with hjn | hjn
    · refine runHL_on ?_
      simp -dsimp -implicitDefEqProofs [go_sem, f3, f7, f8, f9, intsF, hjn]
      refine runHL_sub ?_
      simp -dsimp -implicitDefEqProofs [go_sem]
      refine runHL_on ?_
      rcases hpv j hjn with hpj | ⟨m, hm, hpj, hlost⟩
      · simp -dsimp -implicitDefEqProofs [go_sem, f3, f7, f8, f9, intsF, hjn, encL_get? _ hjn, hpj]
        refine runHL_end ?_
        simp -dsimp -implicitDefEqProofs [go_sem, f3, f7, f8, f9, intsF]
        exact ⟨_, by omega, j + 1, by omega, rfl, w64 (by omega) (by omega), m0⟩
      · have hpj0 : ¬ (m : Int) < 0 := by omega
        simp -dsimp -implicitDefEqProofs [go_sem, f3, f7, f8, f9, intsF, hjn, encL_get? _ hjn, hpj, hpj0]
        have hE1 : appE c ⟨c.pods.n, p⟩ 1 j 0 = 0 := appE_evict hpe hjn (by show ¬ p j = -1; rw [hpj]; omega)
        have hav : placeE c ⟨c.pods.n, setC p j (-1)⟩ = 0 := placeE_ok hc (setC_place hpv j (.inl rfl))
        have hE2 : appE c ⟨c.pods.n, setC p j (-1)⟩ 2 j m = 0 := appE_bind hav hjn (by show setC p j (-1) j = -1; unfold setC; rw [if_pos rfl]) hm hlost
        refine runHL_fsub ?_
        refine runHL_end ?_
        simp -dsimp -implicitDefEqProofs [go_sem, f3, f7, f8, f9, m0]
        refine apply_C c okc ⟨c.pods.n, p⟩ hn 1 j 0 (fun h => absurd hE1 h) (fun _ m1 n1 q1 a1 b1 k1 row1 => ?_)
        have m01 := (k1 0 (by omega) (by simp)).trans m0
        have hq0 : ¬ 0 = q1 := by omega
        have hq0' : ¬ q1 = 0 := by omega
        have hqn : 0 < n1 := by omega
        have row1' : m1 q1 = some (.row 3 0 1 (encL c.pods.n fun i => [I (setC p j (-1) i)])) := row1
        simp -dsimp -implicitDefEqProofs [go_sem]
        refine ⟨0, [q1], ?_⟩
        simp -dsimp -implicitDefEqProofs [go_sem, row1', m01, hq0]
        refine runHL_gcut (fun st => BackM c p q j nx st ∧ st.fr 10 = .f (intsF ⟨c.pods.n, setC p j (-1)⟩) ∧ st.fr 11 = .f (I 0) ∧ st.fr 13 = .f (I 0) ∧ ∃ g, 0 < g ∧ g < st.next ∧ st.fr 12 = .own g 0 ∧ st.mem g = some (.row 3 0 1 (encL c.pods.n fun i => [I (setC (setC p j (-1)) j m i)]))) ?_ ?_
        · refine runHL_ntree 8 (List.take 8 [[], [], [], [], [], [3, 4], [5, 3, 4], [2, 6, 5, 3, 4], [0, 1, 7, 2, 6, 5, 3, 4], [8, 0, 1, 7, 2, 6, 5, 3, 4], [9, 8, 0, 1, 7, 2, 6, 5, 3, 4], [9, 8, 0, 1, 7, 2, 6, 5, 3, 4], [10, 9, 8, 0, 1, 7, 2, 6, 5, 3, 4], [11, 9, 8, 0, 1, 7, 2, 6, 5, 3, 4, 12, 10]]) (.one 8 (.one 9 (.two 10 (.two 11 (.one 12 (.one 13 .done)) 12 (.one 11 (.one 13 .done))) 11 (.one 10 (.one 12 (.one 13 .done)))))) [8] rfl rfl ⟨by decide, by kernel_rfl, by kernel_rfl, by kernel_rfl, by kernel_rfl, by kernel_rfl⟩ ?_
          simp -dsimp -implicitDefEqProofs [go_sem, Tv, Cw, silentAt, silentOp, f3, f7, f8, f9, m01, hq0, hq0', hjn, encL_get? _ hjn, hpj]
          refine apply_C c okc ⟨c.pods.n, setC p j (-1)⟩ hn 2 j m (fun h => absurd hE2 h) (fun _ m2 n2 q2 a2 b2 k2 row2 => ?_)
          have m02 : m2 0 = some (.blk [.f (nodesF c.nodes), .f (podsF c.pods), .f (ownersF c.owners)]) := (k2 0 (by omega) (by simp)).trans (by simp -dsimp -implicitDefEqProofs [go_sem, hq0, m01])
          simp -dsimp -implicitDefEqProofs [go_sem]
          refine tailTL_two ?_ ?_
          · simp -dsimp -implicitDefEqProofs [go_sem]
            refine tailTL_two ?_ ?_
            · simp -dsimp -implicitDefEqProofs [go_sem, BackM, f3, f7, f8, f9, m02, intsF]
              exact ⟨by first | omega | (simp -dsimp -implicitDefEqProofs [go_sem] <;> omega), q2, by omega, by first | omega | (simp -dsimp -implicitDefEqProofs [go_sem] <;> omega), rfl, row2⟩
            · simp -dsimp -implicitDefEqProofs [go_sem, BackM, f3, f7, f8, f9, m02, intsF]
              exact ⟨by first | omega | (simp -dsimp -implicitDefEqProofs [go_sem] <;> omega), q2, by omega, by first | omega | (simp -dsimp -implicitDefEqProofs [go_sem] <;> omega), rfl, row2⟩
          · simp -dsimp -implicitDefEqProofs [go_sem, BackM, f3, f7, f8, f9, m02, intsF]
            exact ⟨by first | omega | (simp -dsimp -implicitDefEqProofs [go_sem] <;> omega), q2, by omega, by first | omega | (simp -dsimp -implicitDefEqProofs [go_sem] <;> omega), rfl, row2⟩
        · rintro ⟨N, fr, mem, nx2, lt⟩ ⟨⟨hN, hlt, hnx2, f3, f7, f8, f9, m0⟩, f10, f11, f13, g, hg0, hg, f12, mg⟩
          dsimp only at *
          subst hN hlt
          rw [show setC (setC p j (-1)) j (m : Int) = p from by rw [← hpj]; exact setC_back p j] at mg
          have hs : setC p j (-1) j = -1 := by unfold setC; rw [if_pos rfl]
          refine runHL_on ?_
          simp -dsimp -implicitDefEqProofs [go_sem, f3, f7, f8, f9, f10, f11, f12, f13, mg]
          refine callW_z (fs := [intsF ⟨c.pods.n, p⟩, intsF ⟨c.pods.n, p⟩]) (by simp -dsimp -implicitDefEqProofs [omap, frz, mg, intsF]) (eqI_same ⟨c.pods.n, p⟩ hn) rfl ?_
          simp -dsimp -implicitDefEqProofs [go_sem, f3, f7, f8, f9, f10, f11, f12, f13, intsF, hjn, encL_get? _ hjn, hs]
          refine runHL_end ?_
          simp -dsimp -implicitDefEqProofs [go_sem, f3, f7, f8, f9, f10, f11, f12, f13, intsF]
          exact ⟨_, by omega, j + 1, by omega, rfl, w64 (by omega) (by omega), m0⟩
    · obtain rfl : j = c.pods.n := by omega
      have hlt : ¬ c.pods.n < c.pods.n := Nat.lt_irrefl _
      refine runHL_on ?_
      simp -dsimp -implicitDefEqProofs [go_sem, f3, f7, f8, f9, intsF]
      refine runHL_on ?_
      simp -dsimp -implicitDefEqProofs [go_sem, f3, f7, f8, f9]
      refine callW_f (fs := [intsF ⟨c.pods.n, p⟩, intsF ⟨c.pods.n, q⟩]) (moves_pure ⟨c.pods.n, p⟩ ⟨c.pods.n, q⟩ hn hn) ?_
      have hML : movesL ⟨c.pods.n, p⟩ ⟨c.pods.n, q⟩ = movP ⟨c.pods.n, p⟩ ⟨c.pods.n, q⟩ c.pods.n := by unfold movesL; rw [Nat.min_self]
      rw [hML]
      have hlen : (movP ⟨c.pods.n, p⟩ ⟨c.pods.n, q⟩ c.pods.n).length ≤ 1048576 := Nat.le_trans (movP_len _ _ _) hn
      have hor := @behind_or ⟨c.pods.n, p⟩ ⟨c.pods.n, q⟩ c.pods.n
      have hat := @behind_at ⟨c.pods.n, p⟩ ⟨c.pods.n, q⟩ c.pods.n
      have hend := @behind_end ⟨c.pods.n, p⟩ ⟨c.pods.n, q⟩ c.pods.n
      dsimp only at hor hat hend
      generalize hL : movP ⟨c.pods.n, p⟩ ⟨c.pods.n, q⟩ c.pods.n = L at *
      simp -dsimp -implicitDefEqProofs [go_sem, f3, f7, f8, f9]
      refine runHL_sub ?_
      refine runHL_on ?_
      simp -dsimp -implicitDefEqProofs [go_sem]
      refine runHL_loop [] (fun m st => ∃ k : Nat, st.n = 155 ∧ st.lit = false ∧ k ≤ L.length ∧ m = L.length - k ∧ 1 ≤ st.next ∧ st.fr 3 = .loc 0 0 ∧ st.fr 7 = .f (intsF ⟨c.pods.n, behind p L k⟩) ∧ st.fr 8 = .f (intsF ⟨c.pods.n, q⟩) ∧ st.fr 14 = .f (movF L) ∧ st.fr 15 = .f (I k) ∧
        st.mem 0 = some (.blk [.f (nodesF c.nodes), .f (podsF c.pods), .f (ownersF c.owners)])) L.length ⟨0, ?_⟩ ?_
      · simp -dsimp -implicitDefEqProofs [go_sem, f3, f7, f8, m0]
        rfl
      clear hnx f3 f7 f8 f9 m0
      rintro m ⟨N, fr, mem, nx, lt⟩ ⟨k, hN, hlt, hk, rfl, hnx, f3, f7, f8, f14, f15, m0⟩
      dsimp only at *
      subst hN hlt
      refine ⟨0, [], ?_⟩
      simp -dsimp -implicitDefEqProofs [go_sem]
      have hf : ∀ i, i < c.pods.n → Place c (behind p L k i) := fun i hi => by
        rcases hor k hk i with e | e
        · rw [e]; exact hpv i hi
        · rw [e]; exact hqv i hi
      rcases Nat.lt_or_ge k L.length with hkl | hkl
      · obtain ⟨i, hi, hx, -⟩ := hat hkl
        have hsucc := behind_succ p L hkl
        rw [hx] at hsucc
        dsimp only at hsucc
        rw [Int.toNat_natCast] at hsucc
        generalize hf2 : behind p L (k + 1) = f2 at *
        generalize behind p L k = f at *
        have hfE : placeE c ⟨c.pods.n, f⟩ = 0 := placeE_ok hc hf
        have hi0 : ¬ (i : Int) < 0 := by omega
        have hi2 : ¬ c.pods.n ≤ i := by omega
        have hga : ∀ h : k < (movR L).length, (movR L)[k] = [I i, I (q i)] := fun h => by rw [movR_at h]; simp only [hx]
        refine runHL_on ?_
        simp -dsimp -implicitDefEqProofs [go_sem, f3, f7, f8, f14, f15, movF, movR_len, hkl]
        refine runHL_sub ?_
        simp -dsimp -implicitDefEqProofs [go_sem]
        refine runHL_on ?_
        simp -dsimp -implicitDefEqProofs [go_sem, f3, f7, f8, f14, f15, movF, movR_len, hkl, hga]
        refine runHL_on ?_
        simp -dsimp -implicitDefEqProofs [go_sem, f3, f7, f8, f14, f15, movF, movR_len, hkl, hi, hi0, hi2]
        refine runHL_gcut (MidM c q L k i (setC f i (-1)) nx) ?_ ?_
        · refine runHL_on ?_
          rcases hf i hi with hfi | ⟨m, hm, hfi, hlost⟩
          · simp -dsimp -implicitDefEqProofs [go_sem, f3, f7, f8, f14, f15, intsF, hi, hi0, hi2, encL_get? _ hi, hfi]
            simp -dsimp -implicitDefEqProofs [go_sem, MidM, f3, f7, f8, f14, f15, m0, intsF, setC_id hfi]
            exact ⟨nx + 4 + 4, by omega, by omega, rfl, by simp -dsimp -implicitDefEqProofs [go_sem]⟩
          · have hfi0 : ¬ (m : Int) < 0 := by omega
            have hE1 : appE c ⟨c.pods.n, f⟩ 1 i 0 = 0 := appE_evict hfE hi (by show ¬ f i = -1; rw [hfi]; omega)
            simp -dsimp -implicitDefEqProofs [go_sem, f3, f7, f8, f14, f15, intsF, hi, hi0, hi2, encL_get? _ hi, hfi, hfi0]
            refine runHL_fsub ?_
            refine runHL_end ?_
            simp -dsimp -implicitDefEqProofs [go_sem, f3, f7, f8, m0]
            refine apply_C c okc ⟨c.pods.n, f⟩ hn 1 i 0 (fun h => absurd hE1 h) (fun _ m1 n1 q1 a1 b1 k1 row1 => ?_)
            have m01 : m1 0 = some (.blk [.f (nodesF c.nodes), .f (podsF c.pods), .f (ownersF c.owners)]) := (k1 0 (by omega) (by simp)).trans (by simp -dsimp -implicitDefEqProofs [go_sem, m0])
            have mb1 : m1 (nx + 4 + 4) = some (.blk [.f (I i), .f (I (q i))]) := (k1 (nx + 4 + 4) (by omega) (by simp)).trans (by simp -dsimp -implicitDefEqProofs [go_sem])
            have row1' : m1 q1 = some (.row 3 0 1 (encL c.pods.n fun j => [I (setC f i (-1) j)])) := row1
            have hq0 : ¬ 0 = q1 := by omega
            have hqb : ¬ nx + 4 + 4 = q1 := by omega
            simp -dsimp -implicitDefEqProofs [go_sem]
            refine ⟨0, [q1], ?_⟩
            simp -dsimp -implicitDefEqProofs [go_sem, row1', m01, mb1, hq0, hqb]
            refine runHL_on ?_
            simp -dsimp -implicitDefEqProofs [go_sem]
            refine runHL_end ?_
            simp -dsimp -implicitDefEqProofs [go_sem, MidM, f3, f7, f8, f14, f15, m01, mb1, hq0, hqb, intsF]
            exact ⟨by first | omega | (simp -dsimp -implicitDefEqProofs [go_sem] <;> omega), nx + 4 + 4, by omega, by first | omega | (simp -dsimp -implicitDefEqProofs [go_sem] <;> omega), rfl, by simp -dsimp -implicitDefEqProofs [go_sem, mb1, hqb]⟩
        · clear f3 f7 f8 f14 f15 m0
          rintro ⟨N, fr, mem, nx2, lt⟩ ⟨hN, hlt, hnx2, f3, f7, f8, f14, f15, m0, b, hb0, hb, f16, mb⟩
          dsimp only at *
          subst hN hlt
          refine runHL_on ?_
          have hg : ∀ j, j < c.pods.n → Place c (setC f i (-1) j) := setC_place hf i (.inl rfl)
          have hgE : placeE c ⟨c.pods.n, setC f i (-1)⟩ = 0 := placeE_ok hc hg
          have hgi : setC f i (-1) i = -1 := by unfold setC; rw [if_pos rfl]
          rcases hqv i hi with hqi | ⟨m, hm, hqi, hlost⟩
          · rw [hqi] at mb hsucc
            subst hsucc
            simp -dsimp -implicitDefEqProofs [go_sem, f3, f7, f8, f14, f15, f16, mb]
            refine runHL_end ?_
            simp -dsimp -implicitDefEqProofs [go_sem, f3, f7, f8, f14, f15, m0]
            exact ⟨_, by omega, k + 1, by omega, rfl, by rw [hf2], w64 (by omega) (by omega)⟩
          · have hqi0 : ¬ (m : Int) < 0 := by omega
            have hE1 : appE c ⟨c.pods.n, setC f i (-1)⟩ 2 i m = 0 := appE_bind hgE hi hgi hm hlost
            rw [hqi] at mb hsucc
            simp -dsimp -implicitDefEqProofs [go_sem, f3, f7, f8, f14, f15, f16, mb, hqi0]
            refine runHL_fsub ?_
            refine runHL_end ?_
            simp -dsimp -implicitDefEqProofs [go_sem, f3, f7, f8, f16, mb, m0]
            refine apply_C c okc ⟨c.pods.n, setC f i (-1)⟩ hn 2 i m (fun h => absurd hE1 h) (fun _ m1 n1 q1 a1 b1 k1 row1 => ?_)
            have m01 : m1 0 = some (.blk [.f (nodesF c.nodes), .f (podsF c.pods), .f (ownersF c.owners)]) := (k1 0 (by omega) (by simp)).trans (by simp -dsimp -implicitDefEqProofs [go_sem, m0])
            have row1' : m1 q1 = some (.row 3 0 1 (encL c.pods.n fun j => [I (behind p L (k + 1) j)])) := by
              rw [hf2, hsucc, ← setC_twice f i (-1) m]
              exact row1
            have hq0 : ¬ 0 = q1 := by omega
            simp -dsimp -implicitDefEqProofs [go_sem]
            refine ⟨0, [q1], ?_⟩
            simp -dsimp -implicitDefEqProofs [go_sem, row1', m01, hq0]
            refine runHL_on ?_
            simp -dsimp -implicitDefEqProofs [go_sem]
            refine runHL_end ?_
            simp -dsimp -implicitDefEqProofs [go_sem, f3, f7, f8, f14, f15, m01, hq0]
            refine runHL_end ?_
            simp -dsimp -implicitDefEqProofs [go_sem, f3, f7, f8, f14, f15, m01, hq0]
            exact ⟨_, by omega, k + 1, by omega, rfl, rfl, w64 (by omega) (by omega)⟩
      · obtain rfl : k = L.length := by omega
        have hend' : encL c.pods.n (fun j => [I (behind p L L.length j)]) = encL c.pods.n (fun j => [I (q j)]) := by
          unfold encL
          exact List.map_congr_left fun j hj => by rw [hend (List.mem_range.1 hj)]
        refine runHL_on ?_
        simp -dsimp -implicitDefEqProofs [go_sem, f3, f7, f8, f14, f15, movF, movR_len]
        refine runHL_end ?_
        simp -dsimp -implicitDefEqProofs [go_sem, f3, f7, f8]
        rw [show intsF ⟨c.pods.n, behind p L L.length⟩ = intsF ⟨c.pods.n, q⟩ from congrArg (FD.sl 1) hend']
        refine callW_f (fs := [intsF ⟨c.pods.n, q⟩, intsF ⟨c.pods.n, q⟩]) (eqI_same ⟨c.pods.n, q⟩ hn) ?_
        simp -dsimp -implicitDefEqProofs [go_sem]
        refine callW_f (fs := []) placeWorks_pure ?_
        simp -dsimp -implicitDefEqProofs [go_sem]
        exact FLe.refl _
  · have hpe : (placeE c ⟨c.pods.n, p⟩ != 0) = true := by rw [placeE_bad hc]; simpa using hc
    simp -dsimp -implicitDefEqProofs [go_sem, hpe]
    refine callW_f (fs := []) placeWorks_pure ?_
    simp -dsimp -implicitDefEqProofs [go_sem]
    exact FLe.refl _
end Go.Proofs.YthpmgnbehahkfaaGreat
