/- snap.Placement makes a new row; Used and Count of a store that is only read. -/
/- place.asked, place.owned: the nodes of an owner's pods, one behind the other. -/
/- place.Placed. -/
/- place.Used over data. -/
/- Used and Count of a store that is only read. -/
/- StoreKeeps: the plain law. -/
/- StoreKeeps, over data. -/
import Derived.Test.YtlefoohoeomklaaGreatJQp
import Derived.Test.YtlefoohoeomklaaGreatJQd
import Derived.Test.YtlefoohoeomklaaGreatJQi
import Derived.RangeFuncNested
import Derived.RangeFuncBound
import Derived.RangeFuncCalls
import Derived.RangeFuncLeaves
import Derived.RangeFuncBox
import Derived.Shelf.Abstract
import Derived.Shelf.RegionOpen
import Derived.WalkKit
import Derived.OwnWalkIn
import Derived.TacticsInMore
import Derived.LoopNIn
import Derived.LoopIn
import Derived.Test.YtlefoohoeomklaaGreatJQs
import Derived.Test.YtlefoohoeomklaaGreatJQn
import Derived.Test.YtlefoohoeomklaaGreatJDe
set_option linter.unusedSimpArgs false
set_option linter.unusedVariables false
section
namespace Go.Proofs.YtlefoohoeomklaaGreat
open Go.RowKit Go.Dk Go.Dn

theorem encI_row (n : Nat) (f : Nat → Int) : (0 < 1 ∧ ∀ ds ∈ encL n fun k => [I (f k)], ds.length = 1) ∧ (encL n fun k => [I (f k)]).flatten.all isV = true := by
  refine ⟨⟨by decide, fun ds hd => ?_⟩, ?_⟩
  · obtain ⟨k, -, rfl⟩ := List.mem_map.1 hd
    rfl
  · unfold encL
    simp [isV]
set_option maxRecDepth 100000 in
theorem eachPod_row (p : Lst PodD) (hp : p.n ≤ 1048576) (g : Nat) (gc : List FD) (f : Nat → Int) (hg : ∀ k, Pure Tryz.prog g (.agg (podC (p.el k)) :: gc) (I (f k))) : PureRow Tryz.prog 113 [podsF p, .fn g gc] 3 1 (encL p.n fun k => [I (f k)]) := by
  refine PureRow.of_run (lit := true) Tryz.func113 rfl rfl rfl rfl (Nat.le_of_ble_eq_true rfl) (encI_row _ _) (run_of_runL ?_)
  unfold St.enter
  simp (dsimp := false) (implicitDefEqProofs := false) [go_sem]
  refine andL_mk (by omega) ?_
  simp (dsimp := false) (implicitDefEqProofs := false) [go_sem]
  refine runL_loop [] 8 (by simp (dsimp := false) (implicitDefEqProofs := false) [go_sem]) (fun m st => ∃ j v : Nat, st.n = 25 ∧ st.lit = true ∧ j ≤ p.n ∧ m = p.n - j ∧ st.fr 1 = .f (.fn g gc) ∧ st.fr 5 = .own 3 v ∧ st.fr 11 = .f (podsF p) ∧ st.fr 12 = .f (I p.n) ∧ st.fr 13 = .f (I j) ∧ st.mem 3 = some (.row 3 v 1 (encL j fun k => [I (f k)]))) p.n ⟨0, 0, ?_⟩ ?_
  · simp (dsimp := false) (implicitDefEqProofs := false) [go_sem]
  rintro m ⟨N, fr, mem, nx, lt⟩ hnx ⟨j, v, hN, hlt, hj, rfl, f1, f5, f11, f12, f13, m3⟩
  dsimp only at *
  subst hN hnx hlt
  simp (dsimp := false) (implicitDefEqProofs := false) [go_sem, f1, f5, f11, f12, f13, m3]
  refine gif_dec (fun hlt => ?_) (fun hge => ?_)
  · simp (dsimp := false) (implicitDefEqProofs := false) [go_sem, f1, f5, f11, f12, f13, m3, hlt, podC_eq (p.el j)]
    refine callW_f (fs := .agg (podC (p.el j)) :: gc) (hg j) ?_
    simp (dsimp := false) (implicitDefEqProofs := false) [go_sem, f1, f5, f11, f12, f13, m3]
    refine andL_mk (by omega) ?_
    simp (dsimp := false) (implicitDefEqProofs := false) [go_sem, f1, f5, f11, f12, f13, m3]
    exact ⟨_, by omega, j + 1, by omega, rfl, w64 (by omega) (by omega), by rw [encL_succ]⟩
  obtain rfl : j = p.n := by omega
  simp (dsimp := false) (implicitDefEqProofs := false) [go_sem, f1, f5, f11, f12, f13, m3]
  exact ⟨3, v, ⟨rfl, rfl⟩, m3⟩
set_option maxRecDepth 100000 in
theorem snapPlacement_row (s : SnapD) (ok : SnapOk s) : PureRow Tryz.prog 46 [snapF s] 3 1 (encL s.pods.n fun k => [I (onV s k)]) := by
  refine PureRow.of_run (lit := true) Tryz.func46 rfl rfl rfl rfl (Nat.le_of_ble_eq_true rfl) (encI_row _ _) (run_of_runL ?_)
  unfold St.enter
  simp (dsimp := false) (implicitDefEqProofs := false) [go_sem, snapF, snapC]
  refine callW_row (eachPod_row s.pods ok.p1 _ _ (onV s) (fun k => pl1_pure s ok k)) ?_
  simp (dsimp := false) (implicitDefEqProofs := false) [go_sem]
  exact ⟨5, 0, ⟨rfl, rfl⟩, by simp (dsimp := false) (implicitDefEqProofs := false) [upd]⟩
theorem callS_prow {P : Program} {f : FuncId} {ds : List D} {fs : List FD} {e sz : Nat} {xs : List (List FD)} {mem : Nat → Option M} {nx : Nat} {K : D → (Nat → Option M) → Nat → Prop} (hfs : omap (frz mem 4) ds = some fs) (hp : PureRow P f fs e sz xs)
    (hk : K (.own nx 0) (upd mem nx (some (.row e 0 sz xs))) (nx + 1)) : callS P f ds mem nx K := by
  obtain ⟨⟨hgo, hsz, hl, hsv⟩, hp⟩ := hp
  refine callS_of (nx' := nx + 1) ⟨hgo, fun w0 WS0 c vs hv hM hfr => ?_⟩
  refine (hp (c.hold w0) vs (fun b o hb => hM.wsd b o hb.1) (omap_repL (fun d y v h1 h2 => frz_rep hM 4 d y v h1 h2) hfs hv)).mono ?_
  rintro en w' ⟨v', cells, rfl, hown, hr, hch⟩
  refine ⟨v', rfl, (goes_nextS hfr).grow hM (g := nx) (ver := 0) (e := e) (sz := sz) (v := .slice none 0 0) (zs := xs) (vs := cells) ((hfr nx (Nat.le_refl _)).2 0) (fun k _ => (hfr nx (Nat.le_refl _)).2 k) (.inr ⟨(hfr nx (Nat.le_refl _)).1, rfl, rfl⟩) (ownsRow_less hown hM.chg.size) (Chg.grown_none hch) (fun k hk => .inr (ownsRow_from hown k hk)) (repC_isV _ _ hsv hr) hl hsz ?_⟩
  exact hk
end Go.Proofs.YtlefoohoeomklaaGreat
end
section
namespace Go.Proofs.YtlefoohoeomklaaGreat
open Go.RowKit Go.Dk Go.Dn

def askedB (s : SnapD) (l : Lst Int) (k : Int) : Bool := mayB s l && (decide (0 ≤ k) && decide (k < (s.owners.n : Int)))
set_option maxRecDepth 100000 in
theorem asked_pure (s : SnapD) (ok : SnapOk s) (l : Lst Int) (hl : l.n ≤ 1048576) (k : Int) : Pure Tryz.prog 117 [snapF s, intsF l, I k] (B (askedB s l k)) := by
  refine Pure.of_run (lit := true) Tryz.func117 rfl rfl rfl rfl (Nat.le_of_ble_eq_true rfl) (run_of_runL ?_)
  unfold St.enter
  simp (dsimp := false) (implicitDefEqProofs := false) [go_sem, snapF, snapC]
  refine callW_f (fs := [snapF s, intsF l]) (placeCheck_pure s ok l hl) ?_
  by_cases h : placeE s l = 0
  · simp (dsimp := false) (implicitDefEqProofs := false) [go_sem, h]
    refine callW_f (there_pure _ _) ?_
    simp (dsimp := false) (implicitDefEqProofs := false) [go_sem]
    simp [askedB, mayB, h]
  · have h' : (placeE s l == 0) = false := by simp [h]
    simp (dsimp := false) (implicitDefEqProofs := false) [go_sem, h']
    simp [askedB, mayB, h]
def ownP (s : SnapD) (l : Lst Int) (o : Nat) (k : Nat) : Bool := decide (0 ≤ l.el k) && ((s.pods.el k).owner.toList == (s.owners.el o).name.toList)
def ownL (s : SnapD) (l : Lst Int) (o : Nat) : Nat → List Int
  | 0 => []
  | k + 1 => ownL s l o k ++ if ownP s l o k then [l.el k] else []
theorem ownL_len (s : SnapD) (l : Lst Int) (o : Nat) : ∀ k, (ownL s l o k).length ≤ k
  | 0 => Nat.le_refl _
  | k + 1 => by
    have := ownL_len s l o k
    simp only [ownL, List.length_append]
    split <;> simp <;> omega
theorem ownL_mono (s : SnapD) (l : Lst Int) (o : Nat) {a b : Nat} (h : a ≤ b) : (ownL s l o a).length ≤ (ownL s l o b).length := by
  induction h with
  | refl => exact Nat.le_refl _
  | step h ih => simp only [ownL, List.length_append]; omega
set_option maxRecDepth 100000 in
set_option maxHeartbeats 4000000 in
theorem owned1_iter (s : SnapD) (l : Lst Int) (hl : l.n ≤ 1048576) (hn : l.n ≤ s.pods.n) (o : Nat) (ho : o < s.owners.n) :
    IterI Tryz.prog 169 [.ref [intsF l], .ref (snapC s), .ref [I o]] (ownL s l o l.n) := by
  refine IterI.of_run (lit := true) Tryz.func169 rfl rfl rfl rfl (Nat.le_of_ble_eq_true rfl) (fun lp => runI_of_runIL ?_)
  unfold St.enter
  simp (dsimp := false) (implicitDefEqProofs := false) [go_sem, snapC]
  refine runIL_reg ?_
  simp (dsimp := false) (implicitDefEqProofs := false) [go_sem]
  refine runIL_loop [] 3 (by simp (dsimp := false) (implicitDefEqProofs := false) [go_sem]) (fun m st y => ∃ j : Nat, st.n = 38 ∧ st.lit = true ∧ j ≤ l.n ∧ m = l.n - j ∧ st.fr 0 = .f (.v (.func (.yield lp) #[] #[])) ∧ st.fr 1 = .f (.ref [intsF l]) ∧ st.fr 2 = .f (.ref [nodesF s.nodes, podsF s.pods, ownersF s.owners]) ∧ st.fr 3 = .f (.ref [I o]) ∧
      st.fr 7 = .f (intsF l) ∧ st.fr 8 = .f (I l.n) ∧ st.fr 9 = .f (I j) ∧ y = ⟨ownL s l o j, false⟩) l.n ⟨0, ?_⟩ ?_
  · simp (dsimp := false) (implicitDefEqProofs := false) [go_sem, ownL]
  rintro m ⟨nn, fr, mem, nx, lt⟩ y hnx ⟨j, hN, hlt, hj, rfl, f0, f1, f2, f3, f7, f8, f9, rfl⟩
  dsimp only at *
  subst hN hnx hlt
  simp (dsimp := false) (implicitDefEqProofs := false) [go_sem]
  refine runIL_reg ?_
  simp (dsimp := false) (implicitDefEqProofs := false) [go_sem, f0, f1, f2, f3, f7, f8, f9]
  refine gif_dec (fun hlt => ?_) (fun hge => ?_)
  · have hp : j < s.pods.n := by omega
    have hst : ownL s l o (j + 1) = ownL s l o j ++ if ownP s l o j then [l.el j] else [] := rfl
    have hlen := ownL_len s l o j
    have hmono := ownL_mono s l o (show j + 1 ≤ l.n by omega)
    rw [hst] at hmono
    simp (dsimp := false) (implicitDefEqProofs := false) [go_sem, f0, f1, f2, f3, f7, f8, f9]
    refine runIL_reg ?_
    simp (dsimp := false) (implicitDefEqProofs := false) [go_sem, f0, f1, f2, f3, f7, f8, f9, hlt]
    by_cases h0 : 0 ≤ l.el j
    · rcases Bool.eq_false_or_eq_true ((s.pods.el j).owner.toList == (s.owners.el o).name.toList) with h1 | h1
      · have hP : ownP s l o j = true := by simp [ownP, h0, h1]
        rw [hP, if_pos rfl, List.length_append] at hmono
        refine runIL_ydraw 20 (List.take 20 [[], [0], [1, 0], [2, 1, 0], [3, 2, 1, 0], [2, 1, 0], [4, 3, 2, 1, 0, 5], [6, 4, 3, 2, 1, 0, 5], [7, 6, 4, 3, 2, 1, 0, 5], [2, 1, 0], [9, 2, 1, 0], [2, 1, 0], [10, 9, 2, 1, 0, 11], [12, 10, 9, 2, 1, 0, 11], [13, 12, 10, 9, 2, 1, 0, 11], [8, 7, 6, 4, 3, 2, 1, 0, 5, 14, 13, 12, 10, 9, 11], [2, 1, 0, 15, 8, 7, 6, 4, 3, 5, 14, 13, 12, 10, 9, 11], [16, 2, 1, 0, 15, 8, 7, 6, 4, 3, 5, 14, 13, 12, 10, 9, 11], [17, 16, 2, 1, 0, 15, 8, 7, 6, 4, 3, 5, 14, 13, 12, 10, 9, 11], [17, 16, 2, 1, 0, 15, 8, 7, 6, 4, 3, 5, 14, 13, 12, 10, 9, 11], [18, 17, 16, 2, 1, 0, 15, 8, 7, 6, 4, 3, 5, 14, 13, 12, 10, 9, 11, 19], [20, 18, 17, 16, 2, 1, 0, 15, 8, 7, 6, 4, 3, 5, 14, 13, 12, 10, 9, 11, 19], [17, 16, 2, 1, 0, 15, 8, 7, 6, 4, 3, 5, 14, 13, 12, 10, 9, 11, 21, 20, 18, 19]]) rfl rfl (by kernel_rfl) (by kernel_rfl) (by kernel_rfl) (by kernel_rfl) (by kernel_rfl) ?_
        simp (dsimp := false) (implicitDefEqProofs := false) [go_sem, f0, f1, f2, f3, f7, f8, f9, Tv, Cw, silentAt, silentOp, h0, h1, hp, ho, podC_eq (s.pods.el j), ownerC_eq (s.owners.el o)]
        refine yieldL_mk (l.el j) (by simp (dsimp := false) (implicitDefEqProofs := false) [go_sem, f0, f1, f2, f3, f7, f8, f9]) (by simp (dsimp := false) (implicitDefEqProofs := false) [go_sem, f0, f1, f2, f3, f7, f8, f9]) (Nat.lt_of_succ_le (by simpa using hmono)) ?_ ?_
        · simp (dsimp := false) (implicitDefEqProofs := false) [go_sem, f0, f1, f2, f3, f7, f8, f9]
          refine runIL_reg ?_
          simp (dsimp := false) (implicitDefEqProofs := false) [go_sem, f0, f1, f2, f3, f7, f8, f9]
          exact ⟨_, by omega, j + 1, by omega, rfl, w64 (by omega) (by omega), by rw [hst, hP, if_pos rfl]⟩
        · simp (dsimp := false) (implicitDefEqProofs := false) [go_sem, f0, f1, f2, f3, f7, f8, f9]
      · have hP : ownP s l o j = false := by simp [ownP, h1]
        refine runIL_ydraw 20 (List.take 20 [[], [0], [1, 0], [2, 1, 0], [3, 2, 1, 0], [2, 1, 0], [4, 3, 2, 1, 0, 5], [6, 4, 3, 2, 1, 0, 5], [7, 6, 4, 3, 2, 1, 0, 5], [2, 1, 0], [9, 2, 1, 0], [2, 1, 0], [10, 9, 2, 1, 0, 11], [12, 10, 9, 2, 1, 0, 11], [13, 12, 10, 9, 2, 1, 0, 11], [8, 7, 6, 4, 3, 2, 1, 0, 5, 14, 13, 12, 10, 9, 11], [2, 1, 0, 15, 8, 7, 6, 4, 3, 5, 14, 13, 12, 10, 9, 11], [16, 2, 1, 0, 15, 8, 7, 6, 4, 3, 5, 14, 13, 12, 10, 9, 11], [17, 16, 2, 1, 0, 15, 8, 7, 6, 4, 3, 5, 14, 13, 12, 10, 9, 11], [17, 16, 2, 1, 0, 15, 8, 7, 6, 4, 3, 5, 14, 13, 12, 10, 9, 11], [18, 17, 16, 2, 1, 0, 15, 8, 7, 6, 4, 3, 5, 14, 13, 12, 10, 9, 11, 19], [20, 18, 17, 16, 2, 1, 0, 15, 8, 7, 6, 4, 3, 5, 14, 13, 12, 10, 9, 11, 19], [17, 16, 2, 1, 0, 15, 8, 7, 6, 4, 3, 5, 14, 13, 12, 10, 9, 11, 21, 20, 18, 19]]) rfl rfl (by kernel_rfl) (by kernel_rfl) (by kernel_rfl) (by kernel_rfl) (by kernel_rfl) ?_
        simp (dsimp := false) (implicitDefEqProofs := false) [go_sem, f0, f1, f2, f3, f7, f8, f9, Tv, Cw, silentAt, silentOp, h0, h1, hp, ho, podC_eq (s.pods.el j), ownerC_eq (s.owners.el o)]
        refine runIL_reg ?_
        simp (dsimp := false) (implicitDefEqProofs := false) [go_sem, f0, f1, f2, f3, f7, f8, f9]
        exact ⟨_, by omega, j + 1, by omega, rfl, w64 (by omega) (by omega), by rw [hst, if_neg (by simp [hP]), List.append_nil]⟩
    · have hP : ownP s l o j = false := by simp [ownP, h0]
      refine runIL_ydraw 20 (List.take 20 [[], [0], [1, 0], [2, 1, 0], [3, 2, 1, 0], [2, 1, 0], [4, 3, 2, 1, 0, 5], [6, 4, 3, 2, 1, 0, 5], [7, 6, 4, 3, 2, 1, 0, 5], [2, 1, 0], [9, 2, 1, 0], [2, 1, 0], [10, 9, 2, 1, 0, 11], [12, 10, 9, 2, 1, 0, 11], [13, 12, 10, 9, 2, 1, 0, 11], [8, 7, 6, 4, 3, 2, 1, 0, 5, 14, 13, 12, 10, 9, 11], [2, 1, 0, 15, 8, 7, 6, 4, 3, 5, 14, 13, 12, 10, 9, 11], [16, 2, 1, 0, 15, 8, 7, 6, 4, 3, 5, 14, 13, 12, 10, 9, 11], [17, 16, 2, 1, 0, 15, 8, 7, 6, 4, 3, 5, 14, 13, 12, 10, 9, 11], [17, 16, 2, 1, 0, 15, 8, 7, 6, 4, 3, 5, 14, 13, 12, 10, 9, 11], [18, 17, 16, 2, 1, 0, 15, 8, 7, 6, 4, 3, 5, 14, 13, 12, 10, 9, 11, 19], [20, 18, 17, 16, 2, 1, 0, 15, 8, 7, 6, 4, 3, 5, 14, 13, 12, 10, 9, 11, 19], [17, 16, 2, 1, 0, 15, 8, 7, 6, 4, 3, 5, 14, 13, 12, 10, 9, 11, 21, 20, 18, 19]]) rfl rfl (by kernel_rfl) (by kernel_rfl) (by kernel_rfl) (by kernel_rfl) (by kernel_rfl) ?_
      simp (dsimp := false) (implicitDefEqProofs := false) [go_sem, f0, f1, f2, f3, f7, f8, f9, Tv, Cw, silentAt, silentOp, h0]
      refine runIL_reg ?_
      simp (dsimp := false) (implicitDefEqProofs := false) [go_sem, f0, f1, f2, f3, f7, f8, f9]
      exact ⟨_, by omega, j + 1, by omega, rfl, w64 (by omega) (by omega), by rw [hst, if_neg (by simp [hP]), List.append_nil]⟩
  · obtain rfl : j = l.n := by omega
    simp (dsimp := false) (implicitDefEqProofs := false) [go_sem, f0, f1, f2, f3, f7, f8, f9, hge]
theorem layIo : lay Tryz.prog 105 = some ⟨1, false, [Value.nilFunc], Ki.other⟩ := by kernel_rfl
attribute [local go_sem] layIo
theorem owned_pure (s : SnapD) (l : Lst Int) (o : Int) : Pure Tryz.prog 118 [snapF s, intsF l, I o] (.fn 169 [.ref [intsF l], .ref (snapC s), .ref [I o]]) := by
  refine Pure.of_run (lit := true) Tryz.func118 rfl rfl rfl rfl (Nat.le_of_ble_eq_true rfl) (run_of_runL ?_)
  unfold St.enter
  simp (dsimp := false) (implicitDefEqProofs := false) [go_sem, snapF, snapC]
end Go.Proofs.YtlefoohoeomklaaGreat
end
section
namespace Go.Proofs.YtlefoohoeomklaaGreat
open Go.RowKit Go.Dk Go.Dn Go.Shelf

attribute [local go_sem] Oper.semAt_some

def placedV (s : SnapD) (l : Lst Int) (k : Int) : Int := if askedB s l k then (ownL s l k.toNat l.n).length else 0

/-- a block is one's own -/
def isB (B : Nat) (_ : World) (b : Nat) : Prop := b = B
def gB (B : Nat) (W : World) : Prop := B < W.heap.size
theorem own1B (B : Nat) : Own1 (isB B) (gB B) where
  bnd W h b hb := by unfold isB at hb; subst hb; exact h
  stab W W' h hc := ⟨Nat.lt_of_lt_of_le h hc.size, fun b => Iff.rfl⟩
theorem kpB_t {own : World → Nat → Prop} {G : World → Prop} {A B C : World} (h : KpO own G A B) (k : KpO own G B C) : KpO own G A C := fun g =>
  let ⟨g1, s1, n1⟩ := h g
  let ⟨g2, s2, n2⟩ := k g1
  ⟨g2, s1.trans s2, Nat.le_trans n1 n2⟩
theorem kpB_b {B : Nat} {W : World} {l : Nat} {o o' : Obj} (hl : B < l) (h : W.heap[l]? = some o) (ho : o.isCells = false) : KpO (isB B) (gB B) W (W.putObj l o') := by
  intro hG
  refine ⟨by unfold gB at *; simpa using hG, fun b oo u hc hn => ⟨?_, hn⟩, by simp⟩
  have hbl : b ≠ l := by
    rintro rfl
    cases o <;> simp_all [Obj.isCells, World.cell?]
  exact (World.cell?_of_block (a := ⟨b, oo, none⟩) (World.putObj_heap_other (by simpa using hbl))).trans hc
theorem kpB_s {B : Nat} {W : World} {v : Value} (j : Nat) : KpO (isB B) (gB B) W (W.setCell ⟨B, j, none⟩ v) := by
  intro hG
  refine ⟨by unfold gB at *; simpa using hG, fun b oo u hc hn => ⟨?_, hn⟩, by simp⟩
  exact (World.cell?_of_block (a := ⟨b, oo, none⟩) (Below.heap_setCell _ _ _ _ (show b ≠ B from hn))).trans hc
def OneIs (W : World) (B : Nat) (n : Int) : Prop := W.heap[B]? = some (.cells #[.int .i64 n] 3 (0, 0))
theorem OneIs.set {W : World} {B : Nat} {n : Int} (h : OneIs W B n) (m : Int) : OneIs (W.setCell ⟨B, 0, none⟩ (.int .i64 m)) B m := by
  unfold OneIs at *
  rw [hset_same h]
  rfl
theorem OneIs.cell {W : World} {B : Nat} {n : Int} (h : OneIs W B n) : W.cell? ⟨B, 0, none⟩ = some (.int .i64 n) := cell_of_heap h rfl
theorem OneIs.free {W : World} {B : Nat} {n : Int} (h : OneIs W B n) : W.frozen? ⟨B, 0, none⟩ = false := free_of_heap h
theorem one_own (B : Nat) (f : List Int → Int) : Own (fun s W => OneIs W B (f s)) := fun s X Y row hs hg hr =>
  (grownBy_keeps_cells hg hr (show X.heap[B]? = _ from hs) rfl).trans hs
theorem snapF_split {x : X} {u : Value} {s : SnapD} (h : Rep x u (snapF s)) : ∃ n p o, u = .agg #[n, p, o] := by
  unfold snapF snapC nodesF podsF ownersF Rep at h
  obtain ⟨cs, rfl, h⟩ := h
  unfold RepC at h
  obtain ⟨n, c1, h1, -, -, h⟩ := h
  unfold RepC at h
  obtain ⟨p, c2, h2, -, -, h⟩ := h
  unfold RepC at h
  obtain ⟨o, c3, h3, -, -, h⟩ := h
  unfold RepC at h
  subst h3 h2 h1 h
  exact ⟨n, p, o, rfl⟩
theorem repL_3 {x : X} {a b c : Value} {d e f : FD} (h1 : Rep x a d) (h2 : Rep x b e) (h3 : Rep x c f) : RepL x [a, b, c] [d, e, f] := by
  unfold RepL
  refine ⟨_, _, rfl, h1, ?_⟩
  unfold RepL
  refine ⟨_, _, rfl, h2, ?_⟩
  unfold RepL
  refine ⟨_, _, rfl, h3, ?_⟩
  unfold RepL
  rfl
set_option maxRecDepth 100000 in
set_option maxHeartbeats 4000000 in
theorem placed_any (s : SnapD) (ok : SnapOk s) (l : Lst Int) (hl : l.n ≤ 1048576) (k : Int) (WS : Nat → Nat → Prop) (w : World) (hws : ∀ b o, WS b o → b < w.heap.size) {n p o q : Value} (h1 : Rep ⟨WS, w⟩ (.agg #[n, p, o]) (snapF s)) (h2 : Rep ⟨WS, w⟩ q (intsF l)) :
    Calls Tryz.prog 48 #[.agg #[n, p, o], q, .int .i64 k] w fun e w' => e = .returned (.int .i64 (placedV s l k)) ∧ Chg No w w' := by
  have hb1 := heap_alloc_old' (heap_alloc_new w (.cells #[n, p, o] 26)) (o' := .cells #[.int .i64 0] 3)
  have hb2 := heap_alloc_new (w.alloc (.cells #[n, p, o] 26)) (.cells #[.int .i64 0] 3)
  have hcw := ((Chg.refl No w).alloc (.cells #[n, p, o] 26)).alloc (.cells #[.int .i64 0] 3)
  simp only [World.size_alloc] at hb2
  refine (callsIn_wide (n := 6)).1 ?_
  refine callsIn_of_wp_marks Tryz.func48 rfl trivial ?_ rfl
  simp only [Tryz.ntmps48, List.size_toArray, List.length_cons, List.length_nil, Nat.reduceAdd, Nat.reduceSub, Array.replicate_succ, Array.replicate_zero, List.push_toArray, List.append_toArray, List.nil_append, List.cons_append]
  gi_wp2_with fail
  have hwC := hcw
  generalize hW : (w.alloc _).alloc _ = W at hb1 hb2 hcw ⊢
  generalize hBe : w.heap.size = B at hb1 hb2 ⊢
  have hws1 : ∀ b o, (WS b o ∨ b = B + 1) → b < W.heap.size := fun b o h => by
    rcases h with h | rfl
    · exact Nat.lt_of_lt_of_le (hws b o h) hcw.size
    · exact lt_of_heap hb2
  have hsub : ∀ V, Chg No w V → Sub ⟨WS, w⟩ ⟨fun b o => WS b o ∨ b = B + 1, V⟩ := fun V hc b o u hu hn => by
    refine ⟨hc.cell hu id, fun h => ?_⟩
    rcases h with h | rfl
    · exact hn h
    · have := World.block_lt_of_cell? _ _ hu
      dsimp only at this
      omega
  have r1 := fun V hc => Rep.mono (hsub V hc) h1
  have r2 := fun V hc => Rep.mono (hsub V hc) h2
  have r3 : ∀ x : X, Rep x (.int .i64 k) (I k) := fun x => by unfold Rep; rfl
  refine ⟨trivial, (callsIn_wide.2 ((asked_pure s ok l hl k).2 ⟨_, W⟩ _ hws1 (repL_3 (r1 _ hcw) (r2 _ hcw) (r3 _)))).mono ?_⟩
  rintro e V ⟨v, rfl, hv, hc⟩
  unfold Rep at hv
  subst hv
  have c0 := hc.cell (cell_of_heap (j := 0) hb1 rfl) id
  have c1 := hc.cell (cell_of_heap (j := 1) hb1 rfl) id
  have c2 := hc.cell (cell_of_heap (j := 2) hb1 rfl) id
  have hO : OneIs V (B + 1) 0 := hc.heap hb2 id
  have hcV := hcw.trans hc
  have z0 := hO.cell
  have f0 := hO.free
  clear hc hcw hb1 hb2 hws1
  rcases Bool.eq_false_or_eq_true (askedB s l k) with ha | ha
  · rw [ha]
    gi_wp2_with fail
    have hws2 : ∀ b o, (WS b o ∨ b = B + 1) → b < V.heap.size := fun b o h => by
      rcases h with h | rfl
      · exact Nat.lt_of_lt_of_le (hws b o h) hcV.size
      · exact lt_of_heap hO
    have hk : 0 ≤ k ∧ k < (s.owners.n : Int) ∧ mayB s l = true := by
      simp [askedB] at ha
      exact ⟨ha.2.1, ha.2.2, ha.1⟩
    obtain ⟨j, rfl⟩ : ∃ j : Nat, k = j := ⟨k.toNat, by omega⟩
    have hln : l.n = s.pods.n := (may_facts hk.2.2).2.2.2.1
    refine ⟨trivial, (callsIn_wide.2 ((owned_pure s l j).2 ⟨_, V⟩ _ hws2 (repL_3 (r1 _ hcV) (r2 _ hcV) (r3 _)))).mono ?_⟩
    rintro e U ⟨v, rfl, hv, hc⟩
    unfold Rep at hv
    obtain ⟨vs, rfl, hr⟩ := hv
    have hO : OneIs U (B + 1) 0 := hc.heap hO id
    have hcU := hcV.trans hc
    have it := owned1_iter s l hl (by omega) j (by omega)
    have hlen := ownL_len s l j l.n
    have hseq : SeqStopsK Fence.wide 5 Tryz.prog 169 vs.toArray (fun i : Int => #[.int .i64 i]) (KpO (isB (B + 1)) (gB (B + 1))) (fun ys => ys = ownL s l j l.n) (fun _ => True) (ownL s l j l.n).length U := by
      refine it.2 _ _ 5 _ vs (own1B _) (lt_of_heap hO) (RepL.mono ?_ hr)
      intro b o u hc hn
      exact ⟨hc, fun h => hn (.inr h)⟩
    have hbig : (B : Nat) + 1 < U.heap.size := lt_of_heap hO
    generalize vs.toArray = lb at *
    obtain ⟨xs, hxs⟩ : ∃ xs, xs = ownL s l j l.n := ⟨_, rfl⟩
    rw [← hxs] at hseq hlen
    have HX := Go.Lib.hid hxs
    clear hxs
    clear hr c0 c1 c2 z0 f0 hc hws2 hws r1 r2 r3 hsub it
    gi_wp2_with fail
    refine wpIn_rangeFunc_ownG rfl (by omega) (gf := 169) (lb := lb) rfl trivial (enters_of Tryz.func169 (by kernel_rfl) rfl)
      hseq kpB_t (fun W l o o' hl ho hoc _ => kpB_b (by have := hl; omega) ho hoc) (Below.refl _ _) (fun _ => rfl)
      (fun pre W => OneIs W (B + 1) pre.length ∧ Below w.heap.size w W)
      (fun _ _ _ => False)
      (OwnFrom.and (Own.from (one_own (B + 1) (fun pre => pre.length)) _) (ownFrom_below (Nat.le_refl _) hcU.size))
      (fun _ _ _ _ _ hs _ _ => hs)
      ⟨hO, hcU.below⟩
      (fun x => { tmps := #[.agg #[n, p, o], q, .int .i64 j, .pointer (some ⟨B, 0, none⟩), undef, undef, .pointer (some ⟨B + 1, 0, none⟩), .agg #[n, p, o], q, .int .i64 j, .bool true, .bool false, .agg #[n, p, o], q, .int .i64 j, .func (.func 169) #[] lb, .int .i64 x, undef, undef, undef], defers := [] })
      ?assign ?body ?done ?stop
    case assign =>
      intro l x W K hK
      gi_wp2
      simpa [undef] using hK
    case body =>
      rintro lr pre x W ⟨h1, hB⟩ hlt
      have c0 := h1.cell
      have f0 := h1.free
      gi_wp2
      have hw : IntKind.i64.wrap ((pre.length : Int) + 1) = pre.length + 1 := w64 (by omega) (by omega)
      have h2 := h1.set ((pre.length : Int) + 1)
      try rw [hw]
      refine ⟨(KeepsOthers.setCell _ _ _).from _, kpB_s 0, ?_, ?_⟩
      · simpa using h2
      · exact hB.trans (((Chg.refl (· = B + 1) W).setCell (p := ⟨B + 1, 0, none⟩) (fun _ => rfl) _).belowB hB.size (fun k hk => by omega))
    case done =>
      rintro E ys W hE rfl ⟨h1, hB⟩ hK
      have c0 := h1.cell
      have f0 := h1.free
      gi_wp2
      have h2 := h1.set (ys.length : Int)
      have hko : KeepsOthers W _ := KeepsOthers.setCell W ⟨B + 1, 0, none⟩ (.int .i64 (ys.length : Int))
      have hch : Chg (· = B + 1) W _ := (Chg.refl (· = B + 1) W).setCell (p := ⟨B + 1, 0, none⟩) (fun _ => rfl) (.int .i64 (ys.length : Int))
      generalize W.setCell _ _ = W3 at h2 hko hch ⊢
      have hK3 := hko.same E _ hK rfl
      have hEs := lt_of_heap hK3
      refine ⟨by simp, .inl ⟨_, _, rfl, run_takeDeferred hK3, ?_⟩⟩
      have h7 : OneIs (W3.putObj E (.deferred none)) (B + 1) ys.length := (World.putObj_heap_other (by omega)).trans h2
      have c7 := h7.cell
      refine ⟨.int .i64 ys.length, by simp [results, Tryz.results48, go_sem, c7], ?_, ?_⟩
      · unfold placedV
        rw [if_pos ha, Int.toNat_natCast, ← HX.out]
      · exact Chg.of_below ((hB.trans (hch.belowB hB.size (fun k hk => by omega))).trans (belowK_b (w := w) (Nat.le_refl _) W3 E _ _ (by have := hcU.size; omega) hK3 rfl rfl))
    case stop =>
      rintro D c pre W _ _ h _
      exact h.elim
  · rw [ha]
    gi_wp2_with fail
    have h1 := (hO.set 0).cell
    have hP : placedV s l k = 0 := by simp [placedV, ha]
    refine ⟨.int .i64 0, by simp [results, Tryz.results48, go_sem, h1], by rw [hP], ?_⟩
    exact hcV.trans' ((Chg.refl (· = B + 1) V).setCell (p := ⟨B + 1, 0, none⟩) (fun _ => rfl) _) (fun i h1 h2 => by omega)
theorem placed_pure (s : SnapD) (ok : SnapOk s) (l : Lst Int) (hl : l.n ≤ 1048576) (k : Int) : Pure Tryz.prog 48 [snapF s, intsF l, I k] (I (placedV s l k)) :=
  ⟨goes_of Tryz.func48 rfl rfl, fun x vs hws hr => by
    obtain ⟨u, v, z, rfl, h1, h2, h3⟩ := repL3 hr
    obtain ⟨n, p, o, rfl⟩ := snapF_split h1
    unfold Rep at h3
    subst h3
    refine (placed_any s ok l hl k x.WS x.W hws h1 h2).mono fun e w' ⟨h1, h2⟩ => ⟨_, h1, ?_, h2⟩
    unfold Rep
    rfl⟩
end Go.Proofs.YtlefoohoeomklaaGreat
end
section
namespace Go.Proofs.YtlefoohoeomklaaGreat
open Go.RowKit Go.Dk Go.Dn

theorem rep_five {x : X} {u : Nat → Int} : Rep x (.agg (cells5 u).toArray) (fiveF u) := by
  unfold fiveF Rep
  refine ⟨_, rfl, ?_⟩
  simp only [repC_V, repC_nil, cells5]
  exact ⟨_, rfl, rfl, _, rfl, rfl, _, rfl, rfl, _, rfl, rfl, _, rfl, rfl, rfl⟩
theorem placeUsed_pure (s : SnapD) (ok : SnapOk s) (l : Lst Int) (hl : l.n ≤ 1048576) (k : Int) : Pure Tryz.prog 47 [snapF s, intsF l, I k] (fiveF (usedV s l k)) :=
  ⟨goes_of Tryz.func47 rfl rfl, fun x vs _ hr => by
    obtain ⟨u, v, z, rfl, h1, h2, h3⟩ := repL3 hr
    obtain ⟨n, p, o, lv, tv, pv, rfl, h⟩ := snap_of_rep h1 ok
    unfold Rep at h3
    subst h3
    exact (placeUsed_any h (ints_of_rep h2 hl) k).mono fun e w' ⟨h1, h2⟩ => ⟨_, h1, rep_five, h2⟩⟩
end Go.Proofs.YtlefoohoeomklaaGreat
end
section
namespace Go.Proofs.YtlefoohoeomklaaGreat
open Go.RowKit Go.Dk Go.Dn

/-- a store's cells, as data that nobody writes -/
def stFD (d : StD) (k : Nat) : FD :=
  if k = 0 then nodesF d.s.nodes else if k = 1 then podsF d.s.pods else if k = 2 then ownersF d.s.owners else if k = 3 then .sl 1 (encL d.s.pods.n fun k => [I (d.on k)]) else if k = 4 then .sl 1 (encL d.s.pods.n fun k => [B (d.gone k)])
  else if k < 45 then I (d.used ((k - 5) / 5) ((k - 5) % 5)) else if k < 53 then I (d.cnt (k - 45)) else if k = 53 then .sl 1 (encL d.wn fun k => [I (d.own k)]) else B true
def stF (d : StD) : List FD := (List.range 55).map (stFD d)
theorem stF_0 (d : StD) : (stF d)[0]? = some (nodesF d.s.nodes) := rfl
theorem stF_2 (d : StD) : (stF d)[2]? = some (ownersF d.s.owners) := rfl
theorem stF_54 (d : StD) : (stF d)[54]? = some (B true) := rfl
theorem stF_len (d : StD) : (stF d).length = 55 := by simp [stF]
theorem stF_used (d : StD) {n : Nat} (hn : n < 8) : ((stF d).drop (5 + n * 5)).take 5 = [I (d.used n 0), I (d.used n 1), I (d.used n 2), I (d.used n 3), I (d.used n 4)] := by
  have h : ∀ i, i < 5 → stFD d (5 + n * 5 + i) = I (d.used n i) := fun i hi => by
    unfold stFD
    rw [if_neg (by omega), if_neg (by omega), if_neg (by omega), if_neg (by omega), if_neg (by omega), if_pos (by omega)]
    have e1 : (5 + n * 5 + i - 5) / 5 = n := by omega
    have e2 : (5 + n * 5 + i - 5) % 5 = i := by omega
    rw [e1, e2]
  rw [stF, map_drop_take _ _ _ _ (by omega)]
  show [stFD d (5 + n * 5 + 0), stFD d (5 + n * 5 + 1), stFD d (5 + n * 5 + 2), stFD d (5 + n * 5 + 3), stFD d (5 + n * 5 + 4)] = _
  rw [h 0 (by omega), h 1 (by omega), h 2 (by omega), h 3 (by omega), h 4 (by omega)]
theorem stF_cnt (d : StD) {o : Nat} (ho : o < 8) : (stF d)[45 + o]? = some (I (d.cnt o)) := by
  have h : stFD d (45 + o) = I (d.cnt o) := by
    unfold stFD
    rw [if_neg (by omega), if_neg (by omega), if_neg (by omega), if_neg (by omega), if_neg (by omega), if_neg (by omega), if_pos (by omega)]
    have e1 : 45 + o - 45 = o := by omega
    rw [e1]
  rw [stF, List.getElem?_map, List.getElem?_range (by omega)]
  show some (stFD d (45 + o)) = _
  rw [h]
theorem none_F (d : StD) : Pure Tryz.prog 68 [.ref (stF d)] (B false) := by
  refine Pure.of_run (lit := true) Tryz.func68 rfl rfl rfl rfl (Nat.le_of_ble_eq_true rfl) (run_of_runL ?_)
  unfold St.enter
  simp (dsimp := false) (implicitDefEqProofs := false) [go_sem, stF_54]
theorem node_F (d : StD) (k : Int) : Pure Tryz.prog 70 [.ref (stF d), I k] (I (nodeE d k)) := by
  refine Pure.of_run (lit := true) Tryz.func70 rfl rfl rfl rfl (Nat.le_of_ble_eq_true rfl) (run_of_runL ?_)
  unfold St.enter
  simp (dsimp := false) (implicitDefEqProofs := false) [go_sem]
  refine callW_f (none_F d) ?_
  simp (dsimp := false) (implicitDefEqProofs := false) [go_sem, stF_0]
  refine callW_f (stIn_pure _ _) ?_
  by_cases hp : 0 ≤ k ∧ k < (d.s.nodes.n : Int)
  · rw [nodeE, if_pos hp]
    obtain ⟨p1, p2⟩ := hp
    simp (dsimp := false) (implicitDefEqProofs := false) [go_sem, p1, p2]
  · rw [nodeE, if_neg hp]
    have e : (!decide (0 ≤ k) || !decide (k < (d.s.nodes.n : Int))) = true := by simp; omega
    simp (dsimp := false) (implicitDefEqProofs := false) [go_sem, e]
theorem used_F (d : StD) (hd : DOk d) (k : Int) : Pure Tryz.prog 32 [.ref (stF d), I k] (fiveF (usedR d k)) := by
  refine Pure.of_run (lit := true) Tryz.func32 rfl rfl rfl rfl (Nat.le_of_ble_eq_true rfl) (run_of_runL ?_)
  unfold St.enter
  simp (dsimp := false) (implicitDefEqProofs := false) [go_sem]
  refine callW_f (node_F d k) ?_
  rcases nodeE_or d k with e | e
  · obtain ⟨p, rfl, hp⟩ := nodeE_ok e
    have hn8 := hd.s.n8
    have hp8 : p < 8 := by omega
    have hp8' : (p : Int) < 8 := by omega
    have hp50 : 5 + p * 5 ≤ 50 := by omega
    have eR : usedR d p = d.used p := by simp [usedR, e]
    have hp51 : 5 ≤ 55 - (5 + p * 5) := by omega
    simp (dsimp := false) (implicitDefEqProofs := false) [go_sem, e, hp8', hp50, stF_len, hp51, stF_used _ hp8, eR]
    rfl
  · have eR : usedR d k = fun _ => 0 := by simp [usedR, e]
    simp (dsimp := false) (implicitDefEqProofs := false) [go_sem, e, eR]
    rfl
theorem count_F (d : StD) (hd : DOk d) (k : Int) : Pure Tryz.prog 42 [.ref (stF d), I k] (I (cntR d k)) := by
  refine Pure.of_run (lit := true) Tryz.func42 rfl rfl rfl rfl (Nat.le_of_ble_eq_true rfl) (run_of_runL ?_)
  unfold St.enter
  simp (dsimp := false) (implicitDefEqProofs := false) [go_sem]
  refine callW_f (none_F d) ?_
  simp (dsimp := false) (implicitDefEqProofs := false) [go_sem, stF_2]
  refine callW_f (stIn_pure _ _) ?_
  by_cases hp : 0 ≤ k ∧ k < (d.s.owners.n : Int)
  · have eR : cntR d k = d.cnt k.toNat := by simp [cntR, hp]
    obtain ⟨o, rfl⟩ : ∃ o : Nat, k = o := ⟨k.toNat, by omega⟩
    have ho8 := hd.s.o8
    have h8 : o < 8 := by omega
    have h8' : (o : Int) < 8 := by omega
    obtain ⟨p1, p2⟩ := hp
    simp (dsimp := false) (implicitDefEqProofs := false) [go_sem, p1, p2, h8', stF_cnt _ h8, eR, stF_len]
  · have eR : cntR d k = 0 := by simp only [cntR, if_neg hp]
    have e : (!decide (0 ≤ k) || !decide (k < (d.s.owners.n : Int))) = true := by simp; omega
    simp (dsimp := false) (implicitDefEqProofs := false) [go_sem, e, eR]
end Go.Proofs.YtlefoohoeomklaaGreat
end
section
namespace Go.Proofs.YtlefoohoeomklaaGreat
open Go.RowKit Go.Dk Go.Dn

theorem name_full {s : ByteArray} (h : nameB s = true) : s.toList.isEmpty = false := by
  rw [isEmpty_eq]
  unfold nameB valueB at h
  simp only [Bool.and_eq_true, decide_eq_true_iff] at h
  exact decide_eq_false (by omega)
theorem nameIdx_iff {f : Nat → ByteArray} {n o : Nat} (h : riseB f n = true) (ho : o < n) (nm : ByteArray) : (nameIdx f n nm = (o : Int)) ↔ (nm.toList == (f o).toList) = true := by
  constructor
  · intro e
    unfold nameIdx idxB at e
    split at e
    · rename_i k hk
      have hk := (List.find?_range_eq_some.1 hk).1
      obtain rfl : k = o := by omega
      have : (f k).toList = nm.toList := by simpa using hk
      simp [this]
    · omega
  · intro e
    have e : nm.toList = (f o).toList := by simpa using e
    rw [← nameIdx_at h ho]
    unfold nameIdx
    rw [e]
theorem riseN_of {s : SnapD} (he : checkE s = 0) : riseN s = true ∧ riseO s = true := by
  unfold checkE at he
  split at he
  case isFalse => cases he
  rename_i hs
  simp only [shapedB, Bool.and_eq_true] at hs
  exact ⟨hs.1.1.1.1.1.2, hs.1.1.1.2⟩
theorem riseB_name {f : Nat → ByteArray} {n k : Nat} (h : riseB f n = true) (hk : k < n) : nameB (f k) = true := by
  unfold riseB at h
  exact (of_decide_eq_true h k hk).1
section
variable {s : SnapD} {d : StD}
theorem now_mayB (like : LikeS s d.s) (he : checkE s = 0) (inv : DInv d) : mayB (nowS d) ⟨d.s.pods.n, d.on⟩ = true := by
  unfold mayB
  exact decide_eq_true (now_place like he inv.onOk)
theorem now_used (like : LikeS s d.s) (he : checkE s = 0) (inv : DInv d) {n : Nat} (hn : n < d.s.nodes.n) : fiveF (usedV (nowS d) ⟨d.s.pods.n, d.on⟩ n) = fiveF (usedR d n) := by
  have hn8 := inv.ok.s.n8
  have hF : ∀ i k, usedF (nowS d) ⟨d.s.pods.n, d.on⟩ n i k = sumF (fun p => if d.on p = n then (d.s.pods.el p).req i else 0) k := fun i k => by
    induction k with
    | zero => rfl
    | succ k ih =>
      simp only [usedF, sumF, ih]
      rfl
  have hm : mayNB (nowS d) ⟨d.s.pods.n, d.on⟩ n = true := by
    unfold mayNB
    rw [now_mayB like he inv]
    have : (n : Int) < (nowS d).nodes.n := by show (n : Int) < (d.s.nodes.n : Int); omega
    simp [this]
  have hV : ∀ i, i < 5 → usedV (nowS d) ⟨d.s.pods.n, d.on⟩ n i = d.used n i := fun i hi => by
    unfold usedV
    rw [if_pos hm, hF, inv.ok.used n (by omega) i hi]
    rfl
  have hR : usedR d n = d.used n := by unfold usedR nodeE; rw [if_pos (by rw [if_pos (by omega)]), Int.toNat_natCast]
  unfold fiveF
  rw [hR, hV 0 (by omega), hV 1 (by omega), hV 2 (by omega), hV 3 (by omega), hV 4 (by omega)]
theorem now_placed (like : LikeS s d.s) (he : checkE s = 0) (inv : DInv d) (hown : d.own = ownV s) {o : Nat} (ho : o < d.s.owners.n) : placedV (nowS d) ⟨d.s.pods.n, d.on⟩ o = cntR d o := by
  have ho8 := inv.ok.s.o8
  have hr := (riseN_of he).2
  obtain ⟨l1, l2, l3, l4⟩ := like
  have hL : ∀ k, k ≤ d.s.pods.n → ((ownL (nowS d) ⟨d.s.pods.n, d.on⟩ o k).length : Int) = sumF (fun p => if d.own p = o ∧ d.on p ≠ -1 then 1 else 0) k := by
    intro k
    induction k with
    | zero => intro _; rfl
    | succ k ih =>
      intro hk
      have ih := ih (by omega)
      have e : ownP (nowS d) ⟨d.s.pods.n, d.on⟩ o k = decide (d.own k = o ∧ d.on k ≠ -1) := by
        unfold ownP
        have h1 : ((nowS d).pods.el k).owner = (s.pods.el k).owner := by
          show (d.s.pods.el k).owner = _
          rw [l2]
        have h2 : ((nowS d).owners.el o).name = (s.owners.el o).name := by
          show (d.s.owners.el o).name = _
          rw [l3]
        have h3 := nameIdx_iff (f := fun k => (s.owners.el k).name) (n := s.owners.n) (o := o) hr (by rw [← l3]; exact ho) (s.pods.el k).owner
        have h4 : d.own k = nameIdx (fun k => (s.owners.el k).name) s.owners.n (s.pods.el k).owner := by rw [hown]; rfl
        rw [h1, h2]
        have h5 : ((0 : Int) ≤ d.on k) ↔ d.on k ≠ -1 := by
          rcases inv.ok.on k (by omega) with e | ⟨m, -, e⟩ <;> omega
        rw [← h4] at h3
        cases hb : ((s.pods.el k).owner.toList == (s.owners.el o).name.toList) with
        | true =>
          have := h3.2 hb
          simp [this, h5]
        | false =>
          have h6 : ¬ d.own k = (o : Int) := fun e => by rw [h3.1 e] at hb; cases hb
          simp [h6]
      simp only [ownL, sumF, List.length_append, Int.natCast_add, ih, e]
      by_cases hc : d.own k = o ∧ d.on k ≠ -1
      · simp [hc]
      · have hd : decide (d.own k = o ∧ d.on k ≠ -1) = false := decide_eq_false hc
        rw [hd, if_neg hc]
        simp
  have ha : askedB (nowS d) ⟨d.s.pods.n, d.on⟩ o = true := by
    unfold askedB
    rw [now_mayB ⟨l1, l2, l3, l4⟩ he inv]
    have : (o : Int) < (nowS d).owners.n := by show (o : Int) < (d.s.owners.n : Int); omega
    simp [this]
  have hc : cntR d o = d.cnt o := by
    unfold cntR
    rw [if_pos (by omega), Int.toNat_natCast]
  unfold placedV
  rw [if_pos ha, Int.toNat_natCast, hc, hL _ (Nat.le_refl _), inv.ok.cnt o (by omega)]
  rfl
theorem now_on (like : LikeS s d.s) (he : checkE s = 0) (inv : DInv d) {k : Nat} (hk : k < d.s.pods.n) : onV (nowS d) k = d.on k := by
  have hr := (riseN_of he).1
  obtain ⟨l1, l2, l3, l4⟩ := like
  show (if (nameOn d.s d.on k).toList.isEmpty then (-1 : Int) else nameIdx (fun k => (d.s.nodes.el k).name) d.s.nodes.n (nameOn d.s d.on k)) = d.on k
  unfold nameOn
  rcases inv.ok.on k hk with e | ⟨n, hn, e⟩
  · rw [if_pos e, e]
    rw [show ByteArray.empty.toList.isEmpty = true by decide +kernel]
    rfl
  · have hne : ¬ d.on k = -1 := by omega
    have hf : (fun k => (d.s.nodes.el k).name) = fun k => (s.nodes.el k).name := funext fun k => (l4 k).1
    have hr2 : riseB (fun k => (d.s.nodes.el k).name) d.s.nodes.n = true := by
      rw [hf, l1]
      exact hr
    rw [if_neg hne, e, Int.toNat_natCast, name_full (riseB_name hr2 hn)]
    exact nameIdx_at hr2 hn
theorem now_onL (like : LikeS s d.s) (he : checkE s = 0) (inv : DInv d) : (encL d.s.pods.n fun k => [I (onV (nowS d) k)]) = encL d.s.pods.n fun k => [I (d.on k)] := by
  unfold encL
  refine List.map_congr_left fun k hk => ?_
  rw [now_on like he inv (List.mem_range.1 hk)]
end
/-- what is there, as data -/
theorem omap_map {α β γ : Type} {f : β → Option γ} {g : α → β} {h : α → γ} : ∀ (l : List α), (∀ a ∈ l, f (g a) = some (h a)) → omap f (l.map g) = some (l.map h)
  | [], _ => rfl
  | a :: l, hh => by
    simp only [List.map_cons, omap, hh a (List.mem_cons_self ..), omap_map l fun b hb => hh b (List.mem_cons_of_mem _ hb)]
    rfl
theorem st_frz {mem : Nat → Option M} {A : SA} {d : StD} (h : StoreM mem A d) : frz mem 4 (.loc A.t 0) = some (.ref (stF d)) := by
  simp only [frz, h.t, List.drop_zero]
  unfold stC stF
  rw [omap_map (h := stFD d)]
  · rfl
  intro k _
  unfold cellSt stFD
  by_cases e : k = 0
  · rw [if_pos e, if_pos e]
    simp [frz, h.n, nodesF]
  rw [if_neg e, if_neg e]
  clear e
  by_cases e : k = 1
  · rw [if_pos e, if_pos e]
    simp [frz, h.p, podsF]
  rw [if_neg e, if_neg e]
  clear e
  by_cases e : k = 2
  · rw [if_pos e, if_pos e]
    simp [frz, h.q, ownersF]
  rw [if_neg e, if_neg e]
  clear e
  by_cases e : k = 3
  · rw [if_pos e, if_pos e]
    simp [frz, h.o]
  rw [if_neg e, if_neg e]
  clear e
  by_cases e : k = 4
  · rw [if_pos e, if_pos e]
    simp [frz, h.g]
  rw [if_neg e, if_neg e]
  clear e
  by_cases e : k < 45
  · rw [if_pos e, if_pos e]
  rw [if_neg e, if_neg e]
  clear e
  by_cases e : k < 53
  · rw [if_pos e, if_pos e]
  rw [if_neg e, if_neg e]
  clear e
  by_cases e : k = 53
  · rw [if_pos e, if_pos e]
    simp [frz, h.w]
  rw [if_neg e, if_neg e]
end Go.Proofs.YtlefoohoeomklaaGreat
end
section
namespace Go.Proofs.YtlefoohoeomklaaGreat
open Go.RowKit Go.Dk Go.Dn

/-- where the law's own lie -/
structure KeepF (l : Lst DoD) (s : SnapD) (A : SA) (n0 : Nat) (st : St) : Prop where
  n : st.n = 111
  lit : st.lit = false
  nx : n0 ≤ st.next
  f1 : st.fr 1 = .f (dosF l)
  f2 : st.fr 2 = .loc 0 0
  f5 : st.fr 5 = .loc A.t 0
  m0 : st.mem 0 = some (.blk [.f (nodesF s.nodes), .f (podsF s.pods), .f (ownersF s.owners)])
/-- what stands while a round is looked at -/
structure RoundF (l : Lst DoD) (A : SA) (j b7 g n0 : Nat) (mc : Nat → Option M) (st : St) : Prop where
  n : st.n = 111
  lit : st.lit = false
  nx : n0 ≤ st.next
  f1 : st.fr 1 = .f (dosF l)
  f2 : st.fr 2 = .loc 0 0
  f5 : st.fr 5 = .loc A.t 0
  f6 : st.fr 6 = .f (I j)
  f7 : st.fr 7 = .loc b7 0
  f8 : st.fr 8 = .own g 0
  mem : st.mem = mc
theorem keep_frz {mem : Nat → Option M} {A : SA} {d : StD} {g1 g2 g3 g : Nat} (hS : StoreM mem A d) (r1 : mem g1 = some (.row 81 0 10 (encL d.s.nodes.n fun k => nodeC (d.s.nodes.el k)))) (r2 : mem g2 = some (.row 86 0 15 (encL d.s.pods.n fun k => podC (onPod d.s d.on k))))
    (r3 : mem g3 = some (.row 111 0 5 (encL d.s.owners.n fun k => ownerC (d.s.owners.el k)))) (rg : mem g = some (.row 3 0 1 (encL d.s.pods.n fun k => [I (d.on k)]))) :
    frz mem 4 (.agg [.own g1 0, .own g2 0, .own g3 0]) = some (snapF (nowS d)) ∧ frz mem 4 (.own g 0) = some (intsF ⟨d.s.pods.n, d.on⟩) ∧ frz mem 4 (.loc A.t 0) = some (.ref (stF d)) := by
  refine ⟨?_, ?_, st_frz hS⟩
  · simp [frz, omap, r1, r2, r3]
    rfl
  · simp [frz, rg, intsF]
theorem vis_lt {l : List Oper} {As : List (List Nat)} {base k : Nat} {mem : Nat → Option M} {i : Nat} (hs : silentAt l k = false) (h : i < base) : visM (Tv l As base k) mem i = mem i := by
  unfold visM
  rw [Tv_lt h hs]
  rfl
theorem keep_vis {mem : Nat → Option M} {A : SA} {d : StD} {g1 g2 g3 g base : Nat} (hS : StoreM mem A d) (hA : A.Ok base) (r1 : mem g1 = some (.row 81 0 10 (encL d.s.nodes.n fun k => nodeC (d.s.nodes.el k)))) (r2 : mem g2 = some (.row 86 0 15 (encL d.s.pods.n fun k => podC (onPod d.s d.on k))))
    (r3 : mem g3 = some (.row 111 0 5 (encL d.s.owners.n fun k => ownerC (d.s.owners.el k)))) (rg : mem g = some (.row 3 0 1 (encL d.s.pods.n fun k => [I (d.on k)]))) (l1 : g1 < base) (l2 : g2 < base) (l3 : g3 < base) (lg : g < base) (l : List Oper) (As : List (List Nat)) (k : Nat) (hs : silentAt l k = false) :
    frz (visM (Tv l As base k) mem) 4 (.agg [.own g1 0, .own g2 0, .own g3 0]) = some (snapF (nowS d)) ∧ frz (visM (Tv l As base k) mem) 4 (.own g 0) = some (intsF ⟨d.s.pods.n, d.on⟩) ∧ frz (visM (Tv l As base k) mem) 4 (.loc A.t 0) = some (.ref (stF d)) :=
  keep_frz (hS.other fun i hi => vis_lt hs (hA.lt i hi)) ((vis_lt hs l1).trans r1) ((vis_lt hs l2).trans r2) ((vis_lt hs l3).trans r3) ((vis_lt hs lg).trans rg)
theorem frz_f (mem : Nat → Option M) (x : FD) : frz mem 4 (.f x) = some x := rfl
set_option maxRecDepth 100000 in
set_option maxHeartbeats 8000000 in
theorem storeKeeps_pure (s : SnapD) (ok : SnapOk s) (l : Lst DoD) (hl : l.n ≤ 1048576) : Pure Tryz.prog 8 [snapF s, dosF l] (B true) := by
  refine Pure.of_runG (lit := false) (fun n => if n = 3 then [1] else if n = 9 then [6] else if n = 10 then [1, 3] else if n = 11 then [11] else []) Tryz.func8 rfl rfl rfl rfl (Nat.le_of_ble_eq_true rfl) (runG_of_runGL ?_)
  unfold St.enter
  refine runGL_on ?_
  simp (dsimp := false) (implicitDefEqProofs := false) [go_sem, snapF, snapC]
  refine runGL_on ?_
  simp (dsimp := false) (implicitDefEqProofs := false) [go_sem]
  refine callW_f (fs := []) storeWorks_pure ?_
  simp (dsimp := false) (implicitDefEqProofs := false) [go_sem]
  refine runGL_on ?_
  simp (dsimp := false) (implicitDefEqProofs := false) [go_sem]
  refine live_S s ok fun s' A m' n' ok' he hn' hkept hS hA hids => ?_
  have k0 : m' 0 = some (.blk [.f (nodesF s.nodes), .f (podsF s.pods), .f (ownersF s.owners)]) := by
    rw [hkept 0 (by omega) (by simp)]
    simp (dsimp := false) (implicitDefEqProofs := false) [upd]
  have hi0 : 0 ∉ A.ids := fun h => by have := hids 0 h; omega
  simp (dsimp := false) (implicitDefEqProofs := false) [go_sem, k0, snapF, snapC]
  have hS1 : ∀ x, StoreM (upd m' 0 x) A (startD s') := fun x => hS.other (fun i hi => by have : ¬ i = 0 := fun e => hi0 (e ▸ hi); simp (dsimp := false) (implicitDefEqProofs := false) [upd, this])
  have inv0 : DInv (startD s') := startD_inv he
  refine runGL_on ?_
  simp (dsimp := false) (implicitDefEqProofs := false) [go_sem]
  refine runGL_end ?_
  simp (dsimp := false) (implicitDefEqProofs := false) [go_sem]
  refine runCL_loop [] (fun m st => ∃ (j : Nat) (d : StD), j ≤ 60 ∧ m = 60 - j ∧ KeepF l s' A n' st ∧ st.fr 6 = .f (I j) ∧ StoreM st.mem A d ∧ A.Ok st.next ∧ DInv d ∧ LikeS s' d.s ∧ d.own = ownV s') 60 ⟨0, startD s', by omega, rfl, ⟨rfl, rfl, ?_, rfl, rfl, rfl, ?_⟩, rfl, ?_, ?_, inv0, LikeS.refl _, rfl⟩ ?_
  · first | omega | (simp (dsimp := false) (implicitDefEqProofs := false) [go_sem] <;> omega)
  · simp (dsimp := false) (implicitDefEqProofs := false) [go_sem, upd]
  · exact hS1 _
  · exact hA.le (by first | omega | (simp (dsimp := false) (implicitDefEqProofs := false) [go_sem] <;> omega))
  rintro m ⟨N, fr, mem, nx, lt⟩ ⟨j, d, hj, rfl, hf, f6, hS, hA, inv, like, hown⟩
  obtain ⟨rfl, rfl, hnx, f1, f2, f5, m0⟩ := hf
  dsimp only at *
  by_cases hc : j < l.n ∧ j < 60
  · have hc1 := hc.1
    have hc2 : (j : Int) < 60 := by omega
    simp (dsimp := false) (implicitDefEqProofs := false) [go_sem, f1, f2, f5, f6, hc1, hc2]
    refine runCL_cdraw 6 [] [[], [], [], [], [2, 3], [4, 2, 3], [0, 1, 5, 4, 2, 3]] rfl rfl rfl (by decide) (by kernel_rfl) (by kernel_rfl) (by kernel_rfl) (by kernel_rfl) (by kernel_rfl) ?_
    simp (dsimp := false) (implicitDefEqProofs := false) [go_sem, Tv, Cw, silentAt, silentOp, f1, f2, f5, f6, hc1, hc2, m0, encL_get? _ hc1, doC_eq (l.el j)]
    have en : s'.nodes.n = d.s.nodes.n := like.1.symm
    have ep : s'.pods.n = d.s.pods.n := by rw [like.2.1]
    refine does_S hS inv (hA.le (by omega)) s' en ep (l.el j) fun m2 n2 hn2 hS2 hk2 => ?_
    obtain ⟨inv2, fol2⟩ := doesD_inv inv (l.el j)
    have like2 := like.trans (doesD_like d (l.el j))
    have hown2 : (doesD d (l.el j)).own = ownV s' := fol2.own.trans hown
    have m20 := (hk2 0 (by omega) hi0).trans m0
    generalize doesD d (l.el j) = d2 at hS2 inv2 like2 hown2
    clear fol2 hk2 en ep inv like hown hS m0
    have okd : SnapOk d2.s := like_ok like2 ok'
    simp (dsimp := false) (implicitDefEqProofs := false) [go_sem, f1, f2, f5, f6]
    refine snap_S hS2 inv2 (hA.le (by omega)) okd fun m1 n1 g1 g2 g3 l1 l2 l3 l4 kp1 r1 r2 r3 => ?_
    have hSb1 : StoreM m1 A d2 := hS2.same (hA.le (by omega)) kp1
    have q01 := (kp1 0 (by omega) (by simp)).trans m20
    simp (dsimp := false) (implicitDefEqProofs := false) [go_sem, f1, f2, f5, f6]
    refine placement_S hSb1 inv2.ok (hA.le (by omega)) fun g m3 n3 lg lgn kp2 rg => ?_
    have hS3 : StoreM m3 A d2 := hSb1.same (hA.le (by omega)) kp2
    have q02 := (kp2 0 (by omega) (by simp)).trans q01
    have r12 := (kp2 g1 (by omega) (by simp)).trans r1
    have r22 := (kp2 g2 (by omega) (by simp)).trans r2
    have r32 := (kp2 g3 (by omega) (by simp)).trans r3
    clear kp1 kp2 hSb1 q01 r1 r2 r3 hS2 m20
    simp (dsimp := false) (implicitDefEqProofs := false) [go_sem, f1, f2, f5, f6]
    have oknow : SnapOk (nowS d2) := onS_ok inv2.onOk okd
    generalize hb7 : n3 + 4 = b7
    generalize hmb : upd (upd m3 b7 _) b7 _ = mb
    have q7 : mb b7 = some (.blk [.own g1 0, .own g2 0, .own g3 0]) := by
      rw [← hmb]
      simp (dsimp := false) (implicitDefEqProofs := false) [upd]
    have oth : ∀ i, i < n3 → mb i = m3 i := fun i hi => by
      have e : ¬ i = b7 := by omega
      rw [← hmb]
      simp (dsimp := false) (implicitDefEqProofs := false) [upd, e]
    clear hmb
    have q03 := (oth 0 (by omega)).trans q02
    have r13 := (oth g1 (by omega)).trans r12
    have r23 := (oth g2 (by omega)).trans r22
    have r33 := (oth g3 (by omega)).trans r32
    have rg3 := (oth g (by omega)).trans rg
    have hS4 : StoreM mb A d2 := hS3.other fun i hi => by
      have := hA.lt i hi
      exact oth i (by omega)
    clear oth q02 r12 r22 r32 rg hS3
    obtain ⟨z1, z2, z3⟩ := keep_frz hS4 r13 r23 r33 rg3
    have hck : checkE (nowS d2) = 0 := now_check like2 he inv2.onOk
    have hpl : placeE (nowS d2) ⟨d2.s.pods.n, d2.on⟩ = 0 := now_place like2 he inv2.onOk
    have hp24 := inv2.ok.s.p24
    refine callW_z (fs := [snapF (nowS d2)]) (by simp (dsimp := false) (implicitDefEqProofs := false) [omap, z1]) (snapCheck_pure (nowS d2) oknow) rfl ?_
    simp (dsimp := false) (implicitDefEqProofs := false) [go_sem, f1, f2, f5, f6, q7, hck]
    refine callW_z (fs := [snapF (nowS d2), intsF ⟨d2.s.pods.n, d2.on⟩]) (by simp (dsimp := false) (implicitDefEqProofs := false) [omap, z1, z2]) (placeCheck_pure (nowS d2) oknow _ (by show d2.s.pods.n ≤ 1048576; omega)) rfl ?_
    simp (dsimp := false) (implicitDefEqProofs := false) [go_sem, f1, f2, f5, f6, q7, hpl]
    have hrow : PureRow Tryz.prog 46 [snapF (nowS d2)] 3 1 (encL d2.s.pods.n fun k => [I (d2.on k)]) := by
      rw [← now_onL like2 he inv2]
      exact snapPlacement_row (nowS d2) oknow
    refine callS_prow (fs := [snapF (nowS d2)]) (by simp (dsimp := false) (implicitDefEqProofs := false) [omap, z1]) hrow ?_
    generalize hgq : n3 + 7 + 25 = gq
    generalize hmb : upd mb gq _ = mc
    have rq : mc gq = some (.row 3 0 1 (encL d2.s.pods.n fun k => [I (d2.on k)])) := by
      rw [← hmb]
      simp (dsimp := false) (implicitDefEqProofs := false) [upd]
    have oth : ∀ i, i < gq → mc i = mb i := fun i hi => by
      have e : ¬ i = gq := by omega
      rw [← hmb]
      simp (dsimp := false) (implicitDefEqProofs := false) [upd, e]
    clear hmb
    have q04 := (oth 0 (by omega)).trans q03
    have q74 := (oth b7 (by omega)).trans q7
    have r14 := (oth g1 (by omega)).trans r13
    have r24 := (oth g2 (by omega)).trans r23
    have r34 := (oth g3 (by omega)).trans r33
    have rg4 := (oth g (by omega)).trans rg3
    have hS5 : StoreM mc A d2 := hS4.other fun i hi => by
      have := hA.lt i hi
      exact oth i (by omega)
    clear oth q03 q7 r13 r23 r33 rg3 hS4 z1 z2 z3 hrow
    obtain ⟨z1, z2, z3⟩ := keep_frz hS5 r14 r24 r34 rg4
    have ep2 : s'.pods.n = d2.s.pods.n := by rw [like2.2.1]
    have en2 : s'.nodes.n = d2.s.nodes.n := like2.1.symm
    have eo2 : s'.owners.n = d2.s.owners.n := by rw [like2.2.2.1]
    simp (dsimp := false) (implicitDefEqProofs := false) [go_sem, f1, f2, f5, f6, q74]
    refine callW_z (fs := [.sl 1 (encL d2.s.pods.n fun i => [I (d2.on i)]), .sl 1 (encL d2.s.pods.n fun i => [I (d2.on i)])]) (by simp (dsimp := false) (implicitDefEqProofs := false) [omap, frz, rg4, rq]) (eqInts_row _ _ okd.p1) rfl ?_
    simp (dsimp := false) (implicitDefEqProofs := false) [go_sem, f1, f2, f5, f6, q74, r24, q04, ep2]
    have hn8 := inv2.ok.s.n8
    have ho8 := inv2.ok.s.o8
    refine runCL_loop [] (fun m st => ∃ n : Nat, n ≤ d2.s.nodes.n ∧ m = d2.s.nodes.n - n ∧ RoundF l A j b7 g gq mc st ∧ st.fr 9 = .f (I n)) d2.s.nodes.n ⟨0, by omega, rfl, ⟨rfl, rfl, ?_, f1, f2, f5, f6, rfl, rfl, rfl⟩, rfl⟩ ?_
    · first | omega | (simp (dsimp := false) (implicitDefEqProofs := false) [go_sem] <;> omega)
    clear f1 f2 f5 f6
    rintro m ⟨N, fr, mem, nx3, lt⟩ ⟨n, hn, rfl, ⟨rfl, rfl, hnx3, f1, f2, f5, f6, f7, f8, rfl⟩, f9⟩
    dsimp only at *
    rcases Nat.lt_or_ge n d2.s.nodes.n with hn1 | hn1
    · have hu := now_used like2 he inv2 hn1
      have hnm : (d2.s.nodes.el n).name = (s'.nodes.el n).name := (like2.2.2.2 n).1
      have hn2 : n < s'.nodes.n := by omega
      simp (dsimp := false) (implicitDefEqProofs := false) [go_sem, f1, f2, f5, f6, f7, f8, f9, q04, en2, hn1]
      refine runCL_draw [[], [], [0, 1], [], [], [], [3, 4, 5, 2, 0, 1], [2, 0, 1, 6, 3, 4, 5], [7, 2, 0, 1, 6, 3, 4, 5], [8, 7, 2, 0, 1, 6, 3, 4, 5], [9, 8, 7, 2, 0, 1, 6, 3, 4, 5], [8, 7, 2, 0, 1, 6, 3, 4, 5], [10, 9, 8, 7, 2, 0, 1, 6, 3, 4, 5, 11], [12, 10, 9, 8, 7, 2, 0, 1, 6, 3, 4, 5, 11], [13, 12, 10, 9, 8, 7, 2, 0, 1, 6, 3, 4, 5, 11], [8, 7, 2, 0, 1, 6, 3, 4, 5], [15, 8, 7, 2, 0, 1, 6, 3, 4, 5], [8, 7, 2, 0, 1, 6, 3, 4, 5], [16, 15, 8, 7, 2, 0, 1, 6, 3, 4, 5, 17], [18, 16, 15, 8, 7, 2, 0, 1, 6, 3, 4, 5, 17], [19, 18, 16, 15, 8, 7, 2, 0, 1, 6, 3, 4, 5, 17], [14, 13, 12, 10, 9, 8, 7, 2, 0, 1, 6, 3, 4, 5, 11, 20, 19, 18, 16, 15, 17], [8, 7, 2, 0, 1, 6, 3, 4, 5, 21, 14, 13, 12, 10, 9, 11, 20, 19, 18, 16, 15, 17]] rfl (by kernel_rfl) (by kernel_rfl) ?_
      simp (dsimp := false) (implicitDefEqProofs := false) [go_sem, Tv, Cw, silentAt, silentOp, f1, f2, f5, f6, f7, f8, f9, q04, q74]
      have v1 : b7 < nx3 + 5 ∧ 0 < nx3 + 5 ∧ g1 < nx3 + 5 := by omega
      have kv := keep_vis hS5 (hA.le (show nx ≤ nx3 + 5 by omega)) r14 r24 r34 rg4 (by omega) (by omega) (by omega) (by omega)
      refine callW_z (fs := [.ref (stF d2), I n]) (by simp (dsimp := false) (implicitDefEqProofs := false) [omap, kv, frz_f, silentAt, silentOp]) (used_F d2 inv2.ok n) rfl ?_
      simp (dsimp := false) (implicitDefEqProofs := false) [go_sem, Tv, Cw, silentAt, silentOp, f1, f2, f5, f6, f7, f8, f9, q04, q74, v1]
      refine callW_z (fs := [snapF (nowS d2), intsF ⟨d2.s.pods.n, d2.on⟩, I n]) (by simp (dsimp := false) (implicitDefEqProofs := false) [omap, kv, frz_f, silentAt, silentOp]) (placeUsed_pure (nowS d2) oknow _ (by show d2.s.pods.n ≤ 1048576; omega) n) rfl ?_
      rw [hu]
      simp (dsimp := false) (implicitDefEqProofs := false) [go_sem, Tv, Cw, silentAt, silentOp, f1, f2, f5, f6, f7, f8, f9, q04, q74, v1, r14, encL_get? _ hn1, encL_get? _ hn2, nodeC_eq (d2.s.nodes.el n), nodeC_eq (s'.nodes.el n), hnm, fiveF, eqC, hn1, hn2]
      exact ⟨_, by omega, n + 1, by omega, rfl, ⟨rfl, rfl, by first | omega | (simp (dsimp := false) (implicitDefEqProofs := false) [go_sem] <;> omega), f1, f2, f5, f6, f7, f8, rfl⟩, w64 (by omega) (by omega)⟩
    obtain rfl : n = d2.s.nodes.n := by omega
    simp (dsimp := false) (implicitDefEqProofs := false) [go_sem, f1, f2, f5, f6, f7, f8, f9, q04, en2]
    refine runCL_loop [] (fun m st => ∃ o : Nat, o ≤ d2.s.owners.n ∧ m = d2.s.owners.n - o ∧ RoundF l A j b7 g gq mem st ∧ st.fr 10 = .f (I o)) d2.s.owners.n ⟨0, by omega, rfl, ⟨rfl, rfl, ?_, f1, f2, f5, f6, f7, f8, rfl⟩, rfl⟩ ?_
    · first | omega | (simp (dsimp := false) (implicitDefEqProofs := false) [go_sem] <;> omega)
    clear f1 f2 f5 f6 f7 f8 f9
    rintro m ⟨N, fr, mem, nx4, lt⟩ ⟨o, ho, rfl, ⟨rfl, rfl, hnx4, f1, f2, f5, f6, f7, f8, rfl⟩, f10⟩
    dsimp only at *
    rcases Nat.lt_or_ge o d2.s.owners.n with ho1 | ho1
    · have hp := now_placed like2 he inv2 hown2 ho1
      simp (dsimp := false) (implicitDefEqProofs := false) [go_sem, f1, f2, f5, f6, f7, f8, f10, q04, eo2, ho1]
      have v1 : b7 < nx4 + 5 ∧ 0 < nx4 + 5 ∧ g1 < nx4 + 5 := by omega
      have kv := keep_vis hS5 (hA.le (show nx ≤ nx4 + 5 by omega)) r14 r24 r34 rg4 (by omega) (by omega) (by omega) (by omega)
      refine runCL_draw [[], [], [0, 1], [], [], [], [3, 4, 5, 2, 0, 1], [2, 0, 1, 6, 3, 4, 5]] rfl (by kernel_rfl) (by kernel_rfl) ?_
      simp (dsimp := false) (implicitDefEqProofs := false) [go_sem, Tv, Cw, silentAt, silentOp, f1, f2, f5, f6, f7, f8, f10, q04, q74, v1]
      refine callW_z (fs := [.ref (stF d2), I o]) (by simp (dsimp := false) (implicitDefEqProofs := false) [omap, kv, frz_f, silentAt, silentOp]) (count_F d2 inv2.ok o) rfl ?_
      simp (dsimp := false) (implicitDefEqProofs := false) [go_sem, Tv, Cw, silentAt, silentOp, f1, f2, f5, f6, f7, f8, f10, q04, q74, v1]
      refine callW_z (fs := [snapF (nowS d2), intsF ⟨d2.s.pods.n, d2.on⟩, I o]) (by simp (dsimp := false) (implicitDefEqProofs := false) [omap, kv, frz_f, silentAt, silentOp]) (placed_pure (nowS d2) oknow _ (by show d2.s.pods.n ≤ 1048576; omega) o) rfl ?_
      rw [hp]
      simp (dsimp := false) (implicitDefEqProofs := false) [go_sem, Tv, Cw, silentAt, silentOp, f1, f2, f5, f6, f7, f8, f10, q04, q74, v1]
      exact ⟨_, by omega, o + 1, by omega, rfl, ⟨rfl, rfl, by first | omega | (simp (dsimp := false) (implicitDefEqProofs := false) [go_sem] <;> omega), f1, f2, f5, f6, f7, f8, rfl⟩, w64 (by omega) (by omega)⟩
    obtain rfl : o = d2.s.owners.n := by omega
    simp (dsimp := false) (implicitDefEqProofs := false) [go_sem, f1, f2, f5, f6, f7, f8, f10, q04, eo2]
    exact ⟨_, by omega, j + 1, by omega, rfl, ⟨rfl, rfl, by first | omega | (simp (dsimp := false) (implicitDefEqProofs := false) [go_sem] <;> omega), f1, f2, f5, q04⟩, w64 (by omega) (by omega), d2, hS5, hA.le (by first | omega | (simp (dsimp := false) (implicitDefEqProofs := false) [go_sem] <;> omega)), inv2, like2, hown2⟩
  · rcases Nat.lt_or_ge j l.n with h1 | h1
    · have h2 : ¬ (j : Int) < 60 := by omega
      simp (dsimp := false) (implicitDefEqProofs := false) [go_sem, f1, f2, f5, f6, h1, h2]
    · have h3 : ¬ j < l.n := by omega
      simp (dsimp := false) (implicitDefEqProofs := false) [go_sem, f1, f2, f5, f6, h3]
end Go.Proofs.YtlefoohoeomklaaGreat
end
