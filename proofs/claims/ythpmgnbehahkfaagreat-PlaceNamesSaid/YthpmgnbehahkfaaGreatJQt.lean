/- place.asked, place.owned: the nodes of an owner's pods, one behind the other. -/
/- place.Placed. -/
/- place.Used over data. -/
import Derived.Test.YthpmgnbehahkfaaGreatJQd
import Derived.Test.YthpmgnbehahkfaaGreatJQi
import Derived.Test.YthpmgnbehahkfaaGreatJPa
import Derived.RangeFuncNested
import Derived.RangeFuncBound
import Derived.RangeFuncCalls
import Derived.RangeFuncLeaves
import Derived.RangeFuncBox
import Derived.Shelf.Abstract
import Derived.Shelf.RegionOpen
import Derived.WalkKit
import Derived.OwnWalkIn
import Derived.TacticsInMore
import Derived.LoopNIn
import Derived.LoopIn
import Derived.Test.YthpmgnbehahkfaaGreatJYs
set_option linter.unusedSimpArgs false
set_option linter.unusedVariables false
section
namespace Go.Proofs.YthpmgnbehahkfaaGreat
open Go.RowKit Go.Dk Go.Dn

def askedB (s : SnapD) (l : Lst Int) (k : Int) : Bool := mayB s l && (decide (0 ≤ k) && decide (k < (s.owners.n : Int)))
set_option maxRecDepth 100000 in
theorem asked_pure (s : SnapD) (ok : SnapOk s) (l : Lst Int) (hl : l.n ≤ 1048576) (k : Int) : Pure Tryz.prog 109 [snapF s, intsF l, I k] (B (askedB s l k)) := by
  refine Pure.of_run (lit := true) Tryz.func109 rfl rfl rfl rfl (Nat.le_of_ble_eq_true rfl) (run_of_runL ?_)
  unfold St.enter
  simp -dsimp -implicitDefEqProofs [go_sem, snapF, snapC]
  refine callW_f (fs := [snapF s, intsF l]) (placeCheck_pure s ok l hl) ?_
  by_cases h : placeE s l = 0
  · simp -dsimp -implicitDefEqProofs [go_sem, h]
    refine callW_f (there_pure _ _) ?_
    simp -dsimp -implicitDefEqProofs [go_sem]
    simp [askedB, mayB, h]
  · have h' : (placeE s l == 0) = false := by simp [h]
    simp -dsimp -implicitDefEqProofs [go_sem, h']
    simp [askedB, mayB, h]
def ownP (s : SnapD) (l : Lst Int) (o : Nat) (k : Nat) : Bool := decide (0 ≤ l.el k) && ((s.pods.el k).owner.toList == (s.owners.el o).name.toList)
def ownL (s : SnapD) (l : Lst Int) (o : Nat) : Nat → List Int
  | 0 => []
  | k + 1 => ownL s l o k ++ if ownP s l o k then [l.el k] else []
theorem ownL_len (s : SnapD) (l : Lst Int) (o : Nat) : ∀ k, (ownL s l o k).length ≤ k
  | 0 => Nat.le_refl _
  | k + 1 => by
    have := ownL_len s l o k
    simp only [ownL, List.length_append]
    split <;> simp <;> omega
theorem ownL_mono (s : SnapD) (l : Lst Int) (o : Nat) {a b : Nat} (h : a ≤ b) : (ownL s l o a).length ≤ (ownL s l o b).length := by
  induction h with
  | refl => exact Nat.le_refl _
  | step h ih => simp only [ownL, List.length_append]; omega
set_option maxRecDepth 100000 in
set_option maxHeartbeats 4000000 in
theorem owned1_iterR (s : SnapD) (l : Lst Int) (hl : l.n ≤ 1048576) (hn : l.n ≤ s.pods.n) (o : Nat) (ho : o < s.owners.n) (R : Int → Prop) (hR : ∀ k, k < l.n → 0 ≤ l.el k → R (l.el k)) :
    IterR R Tryz.prog 169 [.ref [intsF l], .ref (snapC s), .ref [I o]] (ownL s l o l.n) := by
  refine IterR.of_run (lit := true) R Tryz.func169 rfl rfl rfl rfl (Nat.le_of_ble_eq_true rfl) (fun lp => runI_of_runIL ?_)
  unfold St.enter
  simp -dsimp -implicitDefEqProofs [go_sem, snapC]
  refine runIL_reg ?_
  simp -dsimp -implicitDefEqProofs [go_sem]
  refine runIL_loop [] 3 (by simp -dsimp -implicitDefEqProofs [go_sem]) (fun m st y => ∃ j : Nat, st.n = 38 ∧ st.lit = true ∧ j ≤ l.n ∧ m = l.n - j ∧ st.fr 0 = .f (.v (.func (.yield lp) #[] #[])) ∧ st.fr 1 = .f (.ref [intsF l]) ∧ st.fr 2 = .f (.ref [nodesF s.nodes, podsF s.pods, ownersF s.owners]) ∧ st.fr 3 = .f (.ref [I o]) ∧
      st.fr 7 = .f (intsF l) ∧ st.fr 8 = .f (I l.n) ∧ st.fr 9 = .f (I j) ∧ y = ⟨ownL s l o j, false⟩) l.n ⟨0, ?_⟩ ?_
  · simp -dsimp -implicitDefEqProofs [go_sem, ownL]
  rintro m ⟨nn, fr, mem, nx, lt⟩ y hnx ⟨j, hN, hlt, hj, rfl, f0, f1, f2, f3, f7, f8, f9, rfl⟩
  dsimp only at *
  subst hN hnx hlt
  simp -dsimp -implicitDefEqProofs [go_sem]
  refine runIL_reg ?_
  simp -dsimp -implicitDefEqProofs [go_sem, f0, f1, f2, f3, f7, f8, f9]
  refine gif_dec (fun hlt => ?_) (fun hge => ?_)
  · have hp : j < s.pods.n := by omega
    have hst : ownL s l o (j + 1) = ownL s l o j ++ if ownP s l o j then [l.el j] else [] := rfl
    have hlen := ownL_len s l o j
    have hmono := ownL_mono s l o (show j + 1 ≤ l.n by omega)
    rw [hst] at hmono
    simp -dsimp -implicitDefEqProofs [go_sem, f0, f1, f2, f3, f7, f8, f9]
    refine runIL_reg ?_
    simp -dsimp -implicitDefEqProofs [go_sem, f0, f1, f2, f3, f7, f8, f9, hlt]
    by_cases h0 : 0 ≤ l.el j
    · rcases Bool.eq_false_or_eq_true ((s.pods.el j).owner.toList == (s.owners.el o).name.toList) with h1 | h1
      · have hP : ownP s l o j = true := by simp [ownP, h0, h1]
        rw [hP, if_pos rfl, List.length_append] at hmono
        refine runIL_ydraw 20 (List.take 20 [[], [0], [1, 0], [2, 1, 0], [3, 2, 1, 0], [2, 1, 0], [4, 3, 2, 1, 0, 5], [6, 4, 3, 2, 1, 0, 5], [7, 6, 4, 3, 2, 1, 0, 5], [2, 1, 0], [9, 2, 1, 0], [2, 1, 0], [10, 9, 2, 1, 0, 11], [12, 10, 9, 2, 1, 0, 11], [13, 12, 10, 9, 2, 1, 0, 11], [8, 7, 6, 4, 3, 2, 1, 0, 5, 14, 13, 12, 10, 9, 11], [2, 1, 0, 15, 8, 7, 6, 4, 3, 5, 14, 13, 12, 10, 9, 11], [16, 2, 1, 0, 15, 8, 7, 6, 4, 3, 5, 14, 13, 12, 10, 9, 11], [17, 16, 2, 1, 0, 15, 8, 7, 6, 4, 3, 5, 14, 13, 12, 10, 9, 11], [17, 16, 2, 1, 0, 15, 8, 7, 6, 4, 3, 5, 14, 13, 12, 10, 9, 11], [18, 17, 16, 2, 1, 0, 15, 8, 7, 6, 4, 3, 5, 14, 13, 12, 10, 9, 11, 19], [20, 18, 17, 16, 2, 1, 0, 15, 8, 7, 6, 4, 3, 5, 14, 13, 12, 10, 9, 11, 19], [17, 16, 2, 1, 0, 15, 8, 7, 6, 4, 3, 5, 14, 13, 12, 10, 9, 11, 21, 20, 18, 19]]) rfl rfl (by kernel_rfl) (by kernel_rfl) (by kernel_rfl) (by kernel_rfl) (by kernel_rfl) ?_
        simp -dsimp -implicitDefEqProofs [go_sem, f0, f1, f2, f3, f7, f8, f9, Tv, Cw, silentAt, silentOp, h0, h1, hp, ho, podC_eq (s.pods.el j), ownerC_eq (s.owners.el o)]
        refine yieldL_mk (l.el j) (by simp -dsimp -implicitDefEqProofs [go_sem, f0, f1, f2, f3, f7, f8, f9]) (by simp -dsimp -implicitDefEqProofs [go_sem, f0, f1, f2, f3, f7, f8, f9]) ⟨Nat.lt_of_succ_le (by simpa using hmono), hR j hlt h0⟩ ?_ ?_
        · simp -dsimp -implicitDefEqProofs [go_sem, f0, f1, f2, f3, f7, f8, f9]
          refine runIL_reg ?_
          simp -dsimp -implicitDefEqProofs [go_sem, f0, f1, f2, f3, f7, f8, f9]
          exact ⟨_, by omega, j + 1, by omega, rfl, w64 (by omega) (by omega), by rw [hst, hP, if_pos rfl]⟩
        · simp -dsimp -implicitDefEqProofs [go_sem, f0, f1, f2, f3, f7, f8, f9]
      · have hP : ownP s l o j = false := by simp [ownP, h1]
        refine runIL_ydraw 20 (List.take 20 [[], [0], [1, 0], [2, 1, 0], [3, 2, 1, 0], [2, 1, 0], [4, 3, 2, 1, 0, 5], [6, 4, 3, 2, 1, 0, 5], [7, 6, 4, 3, 2, 1, 0, 5], [2, 1, 0], [9, 2, 1, 0], [2, 1, 0], [10, 9, 2, 1, 0, 11], [12, 10, 9, 2, 1, 0, 11], [13, 12, 10, 9, 2, 1, 0, 11], [8, 7, 6, 4, 3, 2, 1, 0, 5, 14, 13, 12, 10, 9, 11], [2, 1, 0, 15, 8, 7, 6, 4, 3, 5, 14, 13, 12, 10, 9, 11], [16, 2, 1, 0, 15, 8, 7, 6, 4, 3, 5, 14, 13, 12, 10, 9, 11], [17, 16, 2, 1, 0, 15, 8, 7, 6, 4, 3, 5, 14, 13, 12, 10, 9, 11], [17, 16, 2, 1, 0, 15, 8, 7, 6, 4, 3, 5, 14, 13, 12, 10, 9, 11], [18, 17, 16, 2, 1, 0, 15, 8, 7, 6, 4, 3, 5, 14, 13, 12, 10, 9, 11, 19], [20, 18, 17, 16, 2, 1, 0, 15, 8, 7, 6, 4, 3, 5, 14, 13, 12, 10, 9, 11, 19], [17, 16, 2, 1, 0, 15, 8, 7, 6, 4, 3, 5, 14, 13, 12, 10, 9, 11, 21, 20, 18, 19]]) rfl rfl (by kernel_rfl) (by kernel_rfl) (by kernel_rfl) (by kernel_rfl) (by kernel_rfl) ?_
        simp -dsimp -implicitDefEqProofs [go_sem, f0, f1, f2, f3, f7, f8, f9, Tv, Cw, silentAt, silentOp, h0, h1, hp, ho, podC_eq (s.pods.el j), ownerC_eq (s.owners.el o)]
        refine runIL_reg ?_
        simp -dsimp -implicitDefEqProofs [go_sem, f0, f1, f2, f3, f7, f8, f9]
        exact ⟨_, by omega, j + 1, by omega, rfl, w64 (by omega) (by omega), by rw [hst, if_neg (by simp [hP]), List.append_nil]⟩
    · have hP : ownP s l o j = false := by simp [ownP, h0]
      refine runIL_ydraw 20 (List.take 20 [[], [0], [1, 0], [2, 1, 0], [3, 2, 1, 0], [2, 1, 0], [4, 3, 2, 1, 0, 5], [6, 4, 3, 2, 1, 0, 5], [7, 6, 4, 3, 2, 1, 0, 5], [2, 1, 0], [9, 2, 1, 0], [2, 1, 0], [10, 9, 2, 1, 0, 11], [12, 10, 9, 2, 1, 0, 11], [13, 12, 10, 9, 2, 1, 0, 11], [8, 7, 6, 4, 3, 2, 1, 0, 5, 14, 13, 12, 10, 9, 11], [2, 1, 0, 15, 8, 7, 6, 4, 3, 5, 14, 13, 12, 10, 9, 11], [16, 2, 1, 0, 15, 8, 7, 6, 4, 3, 5, 14, 13, 12, 10, 9, 11], [17, 16, 2, 1, 0, 15, 8, 7, 6, 4, 3, 5, 14, 13, 12, 10, 9, 11], [17, 16, 2, 1, 0, 15, 8, 7, 6, 4, 3, 5, 14, 13, 12, 10, 9, 11], [18, 17, 16, 2, 1, 0, 15, 8, 7, 6, 4, 3, 5, 14, 13, 12, 10, 9, 11, 19], [20, 18, 17, 16, 2, 1, 0, 15, 8, 7, 6, 4, 3, 5, 14, 13, 12, 10, 9, 11, 19], [17, 16, 2, 1, 0, 15, 8, 7, 6, 4, 3, 5, 14, 13, 12, 10, 9, 11, 21, 20, 18, 19]]) rfl rfl (by kernel_rfl) (by kernel_rfl) (by kernel_rfl) (by kernel_rfl) (by kernel_rfl) ?_
      simp -dsimp -implicitDefEqProofs [go_sem, f0, f1, f2, f3, f7, f8, f9, Tv, Cw, silentAt, silentOp, h0]
      refine runIL_reg ?_
      simp -dsimp -implicitDefEqProofs [go_sem, f0, f1, f2, f3, f7, f8, f9]
      exact ⟨_, by omega, j + 1, by omega, rfl, w64 (by omega) (by omega), by rw [hst, if_neg (by simp [hP]), List.append_nil]⟩
  · obtain rfl : j = l.n := by omega
    simp -dsimp -implicitDefEqProofs [go_sem, f0, f1, f2, f3, f7, f8, f9, hge]
theorem owned1_iter (s : SnapD) (l : Lst Int) (hl : l.n ≤ 1048576) (hn : l.n ≤ s.pods.n) (o : Nat) (ho : o < s.owners.n) :
    IterI Tryz.prog 169 [.ref [intsF l], .ref (snapC s), .ref [I o]] (ownL s l o l.n) :=
  (owned1_iterR s l hl hn o ho (fun _ => True) fun _ _ _ => trivial).toI
theorem layIo : lay Tryz.prog 117 = some ⟨1, false, [Value.nilFunc], Ki.other⟩ := by kernel_rfl
attribute [local go_sem] layIo
theorem owned_pure (s : SnapD) (l : Lst Int) (o : Int) : Pure Tryz.prog 110 [snapF s, intsF l, I o] (.fn 169 [.ref [intsF l], .ref (snapC s), .ref [I o]]) := by
  refine Pure.of_run (lit := true) Tryz.func110 rfl rfl rfl rfl (Nat.le_of_ble_eq_true rfl) (run_of_runL ?_)
  unfold St.enter
  simp -dsimp -implicitDefEqProofs [go_sem, snapF, snapC]
end Go.Proofs.YthpmgnbehahkfaaGreat
end
section
namespace Go.Proofs.YthpmgnbehahkfaaGreat
open Go.RowKit Go.Dk Go.Dn Go.Shelf

attribute [local go_sem] Oper.semAt_some

def placedV (s : SnapD) (l : Lst Int) (k : Int) : Int := if askedB s l k then (ownL s l k.toNat l.n).length else 0

/-- a block is one's own -/
def isB (B : Nat) (_ : World) (b : Nat) : Prop := b = B
def gB (B : Nat) (W : World) : Prop := B < W.heap.size
theorem own1B (B : Nat) : Own1 (isB B) (gB B) where
  bnd W h b hb := by unfold isB at hb; subst hb; exact h
  stab W W' h hc := ⟨Nat.lt_of_lt_of_le h hc.size, fun b => Iff.rfl⟩
theorem kpB_t {own : World → Nat → Prop} {G : World → Prop} {A B C : World} (h : KpO own G A B) (k : KpO own G B C) : KpO own G A C := fun g =>
  let ⟨g1, s1, n1⟩ := h g
  let ⟨g2, s2, n2⟩ := k g1
  ⟨g2, s1.trans s2, Nat.le_trans n1 n2⟩
theorem kpB_b {B : Nat} {W : World} {l : Nat} {o o' : Obj} (hl : B < l) (h : W.heap[l]? = some o) (ho : o.isCells = false) : KpO (isB B) (gB B) W (W.putObj l o') := by
  intro hG
  refine ⟨by unfold gB at *; simpa using hG, fun b oo u hc hn => ⟨?_, hn⟩, by simp⟩
  have hbl : b ≠ l := by
    rintro rfl
    cases o <;> simp_all [Obj.isCells, World.cell?]
  exact (World.cell?_of_block (a := ⟨b, oo, none⟩) (World.putObj_heap_other (by simpa using hbl))).trans hc
theorem kpB_s {B : Nat} {W : World} {v : Value} (j : Nat) : KpO (isB B) (gB B) W (W.setCell ⟨B, j, none⟩ v) := by
  intro hG
  refine ⟨by unfold gB at *; simpa using hG, fun b oo u hc hn => ⟨?_, hn⟩, by simp⟩
  exact (World.cell?_of_block (a := ⟨b, oo, none⟩) (Below.heap_setCell _ _ _ _ (show b ≠ B from hn))).trans hc
def OneIs (W : World) (B : Nat) (n : Int) : Prop := W.heap[B]? = some (.cells #[.int .i64 n] 3 (0, 0))
theorem OneIs.set {W : World} {B : Nat} {n : Int} (h : OneIs W B n) (m : Int) : OneIs (W.setCell ⟨B, 0, none⟩ (.int .i64 m)) B m := by
  unfold OneIs at *
  rw [hset_same h]
  rfl
theorem OneIs.cell {W : World} {B : Nat} {n : Int} (h : OneIs W B n) : W.cell? ⟨B, 0, none⟩ = some (.int .i64 n) := cell_of_heap h rfl
theorem OneIs.free {W : World} {B : Nat} {n : Int} (h : OneIs W B n) : W.frozen? ⟨B, 0, none⟩ = false := free_of_heap h
theorem one_own (B : Nat) (f : List Int → Int) : Own (fun s W => OneIs W B (f s)) := fun s X Y row hs hg hr =>
  (grownBy_keeps_cells hg hr (show X.heap[B]? = _ from hs) rfl).trans hs
theorem snapF_split {x : X} {u : Value} {s : SnapD} (h : Rep x u (snapF s)) : ∃ n p o, u = .agg #[n, p, o] := by
  unfold snapF snapC nodesF podsF ownersF Rep at h
  obtain ⟨cs, rfl, h⟩ := h
  unfold RepC at h
  obtain ⟨n, c1, h1, -, -, h⟩ := h
  unfold RepC at h
  obtain ⟨p, c2, h2, -, -, h⟩ := h
  unfold RepC at h
  obtain ⟨o, c3, h3, -, -, h⟩ := h
  unfold RepC at h
  subst h3 h2 h1 h
  exact ⟨n, p, o, rfl⟩
theorem repL_3 {x : X} {a b c : Value} {d e f : FD} (h1 : Rep x a d) (h2 : Rep x b e) (h3 : Rep x c f) : RepL x [a, b, c] [d, e, f] := by
  unfold RepL
  refine ⟨_, _, rfl, h1, ?_⟩
  unfold RepL
  refine ⟨_, _, rfl, h2, ?_⟩
  unfold RepL
  refine ⟨_, _, rfl, h3, ?_⟩
  unfold RepL
  rfl
set_option maxRecDepth 100000 in
set_option maxHeartbeats 4000000 in
theorem placed_any (s : SnapD) (ok : SnapOk s) (l : Lst Int) (hl : l.n ≤ 1048576) (k : Int) (WS : Nat → Nat → Prop) (w : World) (hws : ∀ b o, WS b o → b < w.heap.size) {n p o q : Value} (h1 : Rep ⟨WS, w⟩ (.agg #[n, p, o]) (snapF s)) (h2 : Rep ⟨WS, w⟩ q (intsF l)) :
    Calls Tryz.prog 61 #[.agg #[n, p, o], q, .int .i64 k] w fun e w' => e = .returned (.int .i64 (placedV s l k)) ∧ Chg No w w' := by
  have hb1 := heap_alloc_old' (heap_alloc_new w (.cells #[n, p, o] 26)) (o' := .cells #[.int .i64 0] 3)
  have hb2 := heap_alloc_new (w.alloc (.cells #[n, p, o] 26)) (.cells #[.int .i64 0] 3)
  have hcw := ((Chg.refl No w).alloc (.cells #[n, p, o] 26)).alloc (.cells #[.int .i64 0] 3)
  simp only [World.size_alloc] at hb2
  refine (callsIn_wide (n := 6)).1 ?_
  refine callsIn_of_wp_marks Tryz.func61 rfl trivial ?_ rfl
  simp only [Tryz.ntmps61, List.size_toArray, List.length_cons, List.length_nil, Nat.reduceAdd, Nat.reduceSub, Array.replicate_succ, Array.replicate_zero, List.push_toArray, List.append_toArray, List.nil_append, List.cons_append]
  gi_wp2_with fail
  have hwC := hcw
  generalize hW : (w.alloc _).alloc _ = W at hb1 hb2 hcw ⊢
  generalize hBe : w.heap.size = B at hb1 hb2 ⊢
  have hws1 : ∀ b o, (WS b o ∨ b = B + 1) → b < W.heap.size := fun b o h => by
    rcases h with h | rfl
    · exact Nat.lt_of_lt_of_le (hws b o h) hcw.size
    · exact lt_of_heap hb2
  have hsub : ∀ V, Chg No w V → Sub ⟨WS, w⟩ ⟨fun b o => WS b o ∨ b = B + 1, V⟩ := fun V hc b o u hu hn => by
    refine ⟨hc.cell hu id, fun h => ?_⟩
    rcases h with h | rfl
    · exact hn h
    · have := World.block_lt_of_cell? _ _ hu
      dsimp only at this
      omega
  have r1 := fun V hc => Rep.mono (hsub V hc) h1
  have r2 := fun V hc => Rep.mono (hsub V hc) h2
  have r3 : ∀ x : X, Rep x (.int .i64 k) (I k) := fun x => by unfold Rep; rfl
  refine ⟨trivial, (callsIn_wide.2 ((asked_pure s ok l hl k).2 ⟨_, W⟩ _ hws1 (repL_3 (r1 _ hcw) (r2 _ hcw) (r3 _)))).mono ?_⟩
  rintro e V ⟨v, rfl, hv, hc⟩
  unfold Rep at hv
  subst hv
  have c0 := hc.cell (cell_of_heap (j := 0) hb1 rfl) id
  have c1 := hc.cell (cell_of_heap (j := 1) hb1 rfl) id
  have c2 := hc.cell (cell_of_heap (j := 2) hb1 rfl) id
  have hO : OneIs V (B + 1) 0 := hc.heap hb2 id
  have hcV := hcw.trans hc
  have z0 := hO.cell
  have f0 := hO.free
  clear hc hcw hb1 hb2 hws1
  rcases Bool.eq_false_or_eq_true (askedB s l k) with ha | ha
  · rw [ha]
    gi_wp2_with fail
    have hws2 : ∀ b o, (WS b o ∨ b = B + 1) → b < V.heap.size := fun b o h => by
      rcases h with h | rfl
      · exact Nat.lt_of_lt_of_le (hws b o h) hcV.size
      · exact lt_of_heap hO
    have hk : 0 ≤ k ∧ k < (s.owners.n : Int) ∧ mayB s l = true := by
      simp [askedB] at ha
      exact ⟨ha.2.1, ha.2.2, ha.1⟩
    obtain ⟨j, rfl⟩ : ∃ j : Nat, k = j := ⟨k.toNat, by omega⟩
    have hln : l.n = s.pods.n := (may_facts hk.2.2).2.2.2.1
    refine ⟨trivial, (callsIn_wide.2 ((owned_pure s l j).2 ⟨_, V⟩ _ hws2 (repL_3 (r1 _ hcV) (r2 _ hcV) (r3 _)))).mono ?_⟩
    rintro e U ⟨v, rfl, hv, hc⟩
    unfold Rep at hv
    obtain ⟨vs, rfl, hr⟩ := hv
    have hO : OneIs U (B + 1) 0 := hc.heap hO id
    have hcU := hcV.trans hc
    have it := owned1_iter s l hl (by omega) j (by omega)
    have hlen := ownL_len s l j l.n
    have hseq : SeqStopsK Fence.wide 5 Tryz.prog 169 vs.toArray (fun i : Int => #[.int .i64 i]) (KpO (isB (B + 1)) (gB (B + 1))) (fun ys => ys = ownL s l j l.n) (fun _ => True) (ownL s l j l.n).length U := by
      refine it.2 _ _ 5 _ vs (own1B _) (lt_of_heap hO) (RepL.mono ?_ hr)
      intro b o u hc hn
      exact ⟨hc, fun h => hn (.inr h)⟩
    have hbig : (B : Nat) + 1 < U.heap.size := lt_of_heap hO
    generalize vs.toArray = lb at *
    obtain ⟨xs, hxs⟩ : ∃ xs, xs = ownL s l j l.n := ⟨_, rfl⟩
    rw [← hxs] at hseq hlen
    have HX := Go.Lib.hid hxs
    clear hxs
    clear hr c0 c1 c2 z0 f0 hc hws2 hws r1 r2 r3 hsub it
    gi_wp2_with fail
    refine wpIn_rangeFunc_ownG rfl (by omega) (gf := 169) (lb := lb) rfl trivial (enters_of Tryz.func169 (by kernel_rfl) rfl)
      hseq kpB_t (fun W l o o' hl ho hoc _ => kpB_b (by have := hl; omega) ho hoc) (Below.refl _ _) (fun _ => rfl)
      (fun pre W => OneIs W (B + 1) pre.length ∧ Below w.heap.size w W)
      (fun _ _ _ => False)
      (OwnFrom.and (Own.from (one_own (B + 1) (fun pre => pre.length)) _) (ownFrom_below (Nat.le_refl _) hcU.size))
      (fun _ _ _ _ _ hs _ _ => hs)
      ⟨hO, hcU.below⟩
      (fun x => { tmps := #[.agg #[n, p, o], q, .int .i64 j, .pointer (some ⟨B, 0, none⟩), undef, undef, .pointer (some ⟨B + 1, 0, none⟩), .agg #[n, p, o], q, .int .i64 j, .bool true, .bool false, .agg #[n, p, o], q, .int .i64 j, .func (.func 169) #[] lb, .int .i64 x, undef, undef, undef], defers := [] })
      ?assign ?body ?done ?stop
    case assign =>
      intro l x W K hK
      gi_wp2
      simpa [undef] using hK
    case body =>
      rintro lr pre x W ⟨h1, hB⟩ hlt
      have c0 := h1.cell
      have f0 := h1.free
      gi_wp2
      have hw : IntKind.i64.wrap ((pre.length : Int) + 1) = pre.length + 1 := w64 (by omega) (by omega)
      have h2 := h1.set ((pre.length : Int) + 1)
      try rw [hw]
      refine ⟨(KeepsOthers.setCell _ _ _).from _, kpB_s 0, ?_, ?_⟩
      · simpa using h2
      · exact hB.trans (((Chg.refl (· = B + 1) W).setCell (p := ⟨B + 1, 0, none⟩) (fun _ => rfl) _).belowB hB.size (fun k hk => by omega))
    case done =>
      rintro E ys W hE rfl ⟨h1, hB⟩ hK
      have c0 := h1.cell
      have f0 := h1.free
      gi_wp2
      have h2 := h1.set (ys.length : Int)
      have hko : KeepsOthers W _ := KeepsOthers.setCell W ⟨B + 1, 0, none⟩ (.int .i64 (ys.length : Int))
      have hch : Chg (· = B + 1) W _ := (Chg.refl (· = B + 1) W).setCell (p := ⟨B + 1, 0, none⟩) (fun _ => rfl) (.int .i64 (ys.length : Int))
      generalize W.setCell _ _ = W3 at h2 hko hch ⊢
      have hK3 := hko.same E _ hK rfl
      have hEs := lt_of_heap hK3
      refine ⟨by simp, .inl ⟨_, _, rfl, run_takeDeferred hK3, ?_⟩⟩
      have h7 : OneIs (W3.putObj E (.deferred none)) (B + 1) ys.length := (World.putObj_heap_other (by omega)).trans h2
      have c7 := h7.cell
      refine ⟨.int .i64 ys.length, by simp [results, Tryz.results61, go_sem, c7], ?_, ?_⟩
      · unfold placedV
        rw [if_pos ha, Int.toNat_natCast, ← HX.out]
      · exact Chg.of_below ((hB.trans (hch.belowB hB.size (fun k hk => by omega))).trans (belowK_b (w := w) (Nat.le_refl _) W3 E _ _ (by have := hcU.size; omega) hK3 rfl rfl))
    case stop =>
      rintro D c pre W _ _ h _
      exact h.elim
  · rw [ha]
    gi_wp2_with fail
    have h1 := (hO.set 0).cell
    have hP : placedV s l k = 0 := by simp [placedV, ha]
    refine ⟨.int .i64 0, by simp [results, Tryz.results61, go_sem, h1], by rw [hP], ?_⟩
    exact hcV.trans' ((Chg.refl (· = B + 1) V).setCell (p := ⟨B + 1, 0, none⟩) (fun _ => rfl) _) (fun i h1 h2 => by omega)
theorem placed_pure (s : SnapD) (ok : SnapOk s) (l : Lst Int) (hl : l.n ≤ 1048576) (k : Int) : Pure Tryz.prog 61 [snapF s, intsF l, I k] (I (placedV s l k)) :=
  ⟨goes_of Tryz.func61 rfl rfl, fun x vs hws hr => by
    obtain ⟨u, v, z, rfl, h1, h2, h3⟩ := repL3 hr
    obtain ⟨n, p, o, rfl⟩ := snapF_split h1
    unfold Rep at h3
    subst h3
    refine (placed_any s ok l hl k x.WS x.W hws h1 h2).mono fun e w' ⟨h1, h2⟩ => ⟨_, h1, ?_, h2⟩
    unfold Rep
    rfl⟩
end Go.Proofs.YthpmgnbehahkfaaGreat
end
section
namespace Go.Proofs.YthpmgnbehahkfaaGreat
open Go.RowKit Go.Dk Go.Dn

theorem rep_five {x : X} {u : Nat → Int} : Rep x (.agg (cells5 u).toArray) (fiveF u) := by
  unfold fiveF Rep
  refine ⟨_, rfl, ?_⟩
  simp only [repC_V, repC_nil, cells5]
  exact ⟨_, rfl, rfl, _, rfl, rfl, _, rfl, rfl, _, rfl, rfl, _, rfl, rfl, rfl⟩
theorem placeUsed_pure (s : SnapD) (ok : SnapOk s) (l : Lst Int) (hl : l.n ≤ 1048576) (k : Int) : Pure Tryz.prog 57 [snapF s, intsF l, I k] (fiveF (usedV s l k)) :=
  ⟨goes_of Tryz.func57 rfl rfl, fun x vs _ hr => by
    obtain ⟨u, v, z, rfl, h1, h2, h3⟩ := repL3 hr
    obtain ⟨n, p, o, lv, tv, pv, rfl, h⟩ := snap_of_rep h1 ok
    unfold Rep at h3
    subst h3
    exact (placeUsed_any h (ints_of_rep h2 hl) k).mono fun e w' ⟨h1, h2⟩ => ⟨_, h1, rep_five, h2⟩⟩
end Go.Proofs.YthpmgnbehahkfaaGreat
end
