/- Stores that are none. -/
/- StoreKnown: its clusters and its calls. -/
/- StoreKnown, over data. -/
import Derived.Test.YthpmgnbehahkfaaGreatJQl
import Derived.Test.YthpmgnbehahkfaaGreatJQn
import Derived.Test.YthpmgnbehahkfaaGreatJQv
set_option linter.unusedSimpArgs false
set_option linter.unusedVariables false
section
namespace Go.Proofs.YthpmgnbehahkfaaGreat
open Go.RowKit Go.Dk Go.Dn

/-- a store that is none -/
def NoneF (x : FD) : Prop := Pure Tryz.prog 82 [x] (B true)
theorem none_nil : NoneF (.v (.pointer none)) := by
  refine Pure.of_run (lit := true) Tryz.func82 rfl rfl rfl rfl (Nat.le_of_ble_eq_true rfl) (run_of_runL ?_)
  unfold St.enter
  simp -dsimp -implicitDefEqProofs [go_sem]
section
variable {x : FD} (hn : NoneF x)
include hn
theorem pod_none (k : Int) : Pure Tryz.prog 87 [x, I k] (I 1) := by
  refine Pure.of_run (lit := true) Tryz.func87 rfl rfl rfl rfl (Nat.le_of_ble_eq_true rfl) (run_of_runL ?_)
  unfold St.enter
  simp -dsimp -implicitDefEqProofs [go_sem]
  refine callW_f (fs := [x]) hn ?_
  simp -dsimp -implicitDefEqProofs [go_sem]
theorem node_none (k : Int) : Pure Tryz.prog 84 [x, I k] (I 1) := by
  refine Pure.of_run (lit := true) Tryz.func84 rfl rfl rfl rfl (Nat.le_of_ble_eq_true rfl) (run_of_runL ?_)
  unfold St.enter
  simp -dsimp -implicitDefEqProofs [go_sem]
  refine callW_f (fs := [x]) hn ?_
  simp -dsimp -implicitDefEqProofs [go_sem]
theorem evict_none (k : Int) : Pure Tryz.prog 37 [x, I k] (I 1) := by
  refine Pure.of_run (lit := true) Tryz.func37 rfl rfl rfl rfl (Nat.le_of_ble_eq_true rfl) (run_of_runL ?_)
  unfold St.enter
  simp -dsimp -implicitDefEqProofs [go_sem]
  refine callW_f (fs := [x, I k]) (pod_none hn k) ?_
  simp -dsimp -implicitDefEqProofs [go_sem]
theorem bind_none (k n : Int) : Pure Tryz.prog 38 [x, I k, I n] (I 1) := by
  refine Pure.of_run (lit := true) Tryz.func38 rfl rfl rfl rfl (Nat.le_of_ble_eq_true rfl) (run_of_runL ?_)
  unfold St.enter
  simp -dsimp -implicitDefEqProofs [go_sem]
  refine callW_f (fs := [x, I k]) (pod_none hn k) ?_
  simp -dsimp -implicitDefEqProofs [go_sem]
  refine callW_f (fs := [x, I n]) (node_none hn n) ?_
  simp -dsimp -implicitDefEqProofs [go_sem]
theorem cordon_none (k : Int) (b : Bool) : Pure Tryz.prog 35 [x, I k, B b] (I 1) := by
  refine Pure.of_run (lit := true) Tryz.func35 rfl rfl rfl rfl (Nat.le_of_ble_eq_true rfl) (run_of_runL ?_)
  unfold St.enter
  simp -dsimp -implicitDefEqProofs [go_sem]
  refine callW_f (fs := [x, I k]) (node_none hn k) ?_
  simp -dsimp -implicitDefEqProofs [go_sem]
theorem lose_none (k : Int) : Pure Tryz.prog 31 [x, I k] (I 1) := by
  refine Pure.of_run (lit := true) Tryz.func31 rfl rfl rfl rfl (Nat.le_of_ble_eq_true rfl) (run_of_runL ?_)
  unfold St.enter
  simp -dsimp -implicitDefEqProofs [go_sem]
  refine callW_f (fs := [x, I k]) (node_none hn k) ?_
  simp -dsimp -implicitDefEqProofs [go_sem]
theorem gone_none (k : Int) : Pure Tryz.prog 32 [x, I k] (I 1) := by
  refine Pure.of_run (lit := true) Tryz.func32 rfl rfl rfl rfl (Nat.le_of_ble_eq_true rfl) (run_of_runL ?_)
  unfold St.enter
  simp -dsimp -implicitDefEqProofs [go_sem]
  refine callW_f (fs := [x, I k]) (pod_none hn k) ?_
  simp -dsimp -implicitDefEqProofs [go_sem]
theorem placement_none : Pure Tryz.prog 29 [x] nilV := by
  refine Pure.of_run (lit := true) Tryz.func29 rfl rfl rfl rfl (Nat.le_of_ble_eq_true rfl) (run_of_runL ?_)
  unfold St.enter
  simp -dsimp -implicitDefEqProofs [go_sem]
  refine callW_f (fs := [x]) hn ?_
  simp -dsimp -implicitDefEqProofs [go_sem]
theorem snap_none : Pure Tryz.prog 39 [x] (.agg [nilV, nilV, nilV]) := by
  refine Pure.of_run (lit := true) Tryz.func39 rfl rfl rfl rfl (Nat.le_of_ble_eq_true rfl) (run_of_runL ?_)
  unfold St.enter
  simp -dsimp -implicitDefEqProofs [go_sem]
  refine callW_f (fs := [x]) hn ?_
  simp -dsimp -implicitDefEqProofs [go_sem]
theorem isGone_none (k : Int) : Pure Tryz.prog 33 [x, I k] (B false) := by
  refine Pure.of_run (lit := true) Tryz.func33 rfl rfl rfl rfl (Nat.le_of_ble_eq_true rfl) (run_of_runL ?_)
  unfold St.enter
  simp -dsimp -implicitDefEqProofs [go_sem]
  refine callW_f (fs := [x, I k]) (pod_none hn k) ?_
  simp -dsimp -implicitDefEqProofs [go_sem]
theorem count_none (k : Int) : Pure Tryz.prog 40 [x, I k] (I 0) := by
  refine Pure.of_run (lit := true) Tryz.func40 rfl rfl rfl rfl (Nat.le_of_ble_eq_true rfl) (run_of_runL ?_)
  unfold St.enter
  simp -dsimp -implicitDefEqProofs [go_sem]
  refine callW_f (fs := [x]) hn ?_
  simp -dsimp -implicitDefEqProofs [go_sem]
theorem usedX_none (k : Int) : Pure Tryz.prog 34 [x, I k] (.agg [I 0, I 0, I 0, I 0, I 0]) := by
  refine Pure.of_run (lit := true) Tryz.func34 rfl rfl rfl rfl (Nat.le_of_ble_eq_true rfl) (run_of_runL ?_)
  unfold St.enter
  simp -dsimp -implicitDefEqProofs [go_sem]
  refine callW_f (fs := [x, I k]) (node_none hn k) ?_
  simp -dsimp -implicitDefEqProofs [go_sem]
end
end Go.Proofs.YthpmgnbehahkfaaGreat
end
section
namespace Go.Proofs.YthpmgnbehahkfaaGreat
open Go.RowKit Go.Dk Go.Dn

theorem Pure.le {P : Program} {f : FuncId} {fs gs : List FD} {d : FD} (h : Pure P f gs d) (hl : FLeL fs gs) : Pure P f fs d :=
  ⟨h.1, fun x vs hws hr => h.2 x vs hws (FLeL.repL hr hl)⟩
/-- a cluster whose node is called B; one whose node has no name; none; one whose pod is on no node -/
def bN : NodeD := ⟨ch1 66, fun _ => 0, noL, noL, false, false⟩
def bS : SnapD := ⟨⟨1, fun _ => bN⟩, ⟨0, fun _ => fallP 0⟩, ⟨0, fun _ => ⟨z0, 0, z0, 0, false⟩⟩⟩
def eN : NodeD := ⟨z0, fun _ => 0, noL, noL, false, false⟩
def eS : SnapD := ⟨⟨1, fun _ => eN⟩, ⟨0, fun _ => fallP 0⟩, ⟨0, fun _ => ⟨z0, 0, z0, 0, false⟩⟩⟩
def oS : SnapD := ⟨⟨0, fun _ => eN⟩, ⟨0, fun _ => fallP 0⟩, ⟨0, fun _ => ⟨z0, 0, z0, 0, false⟩⟩⟩
def xP : PodD := ⟨ch1 120, z0, fun _ => 0, noL, noT, noL, z0, noT, z0, noT, ch1 121⟩
def xS : SnapD := ⟨⟨0, fun _ => eN⟩, ⟨1, fun _ => xP⟩, ⟨0, fun _ => ⟨z0, 0, z0, 0, false⟩⟩⟩
theorem bS_check : checkE bS = 50 := by decide +kernel
theorem bN_ok (c : ByteArray) (h : Sm c) : SnapOk ⟨⟨1, fun _ => ⟨c, fun _ => 0, noL, noL, false, false⟩⟩, ⟨0, fun _ => fallP 0⟩, ⟨0, fun _ => ⟨z0, 0, z0, 0, false⟩⟩⟩ :=
  ⟨by show 1 ≤ 1048576; decide, fun k _ => ⟨h, noL_ok, noL_ok⟩, by show 0 ≤ 1048576; decide, fun k hk => absurd hk (Nat.not_lt_zero k), by show 0 ≤ 1048576; decide, fun k hk => absurd hk (Nat.not_lt_zero k)⟩
theorem bS_ok : SnapOk bS := bN_ok _ (ch1_ok _)
theorem eS_ok : SnapOk eS := bN_ok _ z0_ok
theorem oS_ok : SnapOk oS := ⟨by decide, fun k hk => absurd hk (Nat.not_lt_zero k), by decide, fun k hk => absurd hk (Nat.not_lt_zero k), by decide, fun k hk => absurd hk (Nat.not_lt_zero k)⟩
theorem xS_ok : SnapOk xS := ⟨by decide, fun k hk => absurd hk (Nat.not_lt_zero k), by decide, fun k _ => ⟨⟨ch1_ok _, z0_ok, ch1_ok _, z0_ok, z0_ok⟩, noL_ok, noT_ok, noL_ok, noT_ok, noT_ok⟩, by decide, fun k hk => absurd hk (Nat.not_lt_zero k)⟩
theorem oS_le : FLeL [.agg [nilV, nilV, nilV]] [snapF oS] := FLeL.cons (FLe.agg (FLeL.cons (FLe.nil _) (FLeL.cons (FLe.nil _) (FLeL.cons (FLe.nil _) (FLeL.refl _))))) (FLeL.refl _)
def nodeX (c : ByteArray) : List FD := [S c, I 0, I 0, I 0, I 0, I 0, nilV, nilV, B false, B false]
theorem nX_le (c : ByteArray) : FLe (.agg [.sl 10 [nodeX c], nilV, nilV]) (snapF ⟨⟨1, fun _ => ⟨c, fun _ => 0, noL, noL, false, false⟩⟩, ⟨0, fun _ => fallP 0⟩, ⟨0, fun _ => ⟨z0, 0, z0, 0, false⟩⟩⟩) := by
  refine FLe.agg (FLeL.cons (FLe.sl (FLeLL.cons ?_ (FLeLL.refl _))) (FLeL.cons (FLe.nil _) (FLeL.cons (FLe.nil _) (FLeL.refl _))))
  all_goals (repeat' (first | exact FLeL.refl [] | refine FLeL.cons ?_ ?_))
  all_goals first | exact FLe.refl _ | exact FLe.nil _
def podX : List FD := [S (ch1 120), S z0, I 0, I 0, I 0, I 0, I 0, nilV, nilV, nilV, S z0, nilV, S z0, nilV, S (ch1 121)]
theorem xS_le : FLe (.agg [nilV, .sl 15 [podX], nilV]) (snapF xS) := by
  refine FLe.agg (FLeL.cons (FLe.nil _) (FLeL.cons (FLe.sl (FLeLL.cons ?_ (FLeLL.refl _))) (FLeL.cons (FLe.nil _) (FLeL.refl _))))
  all_goals (repeat' (first | exact FLeL.refl [] | refine FLeL.cons ?_ ?_))
  all_goals first | exact FLe.refl _ | exact FLe.nil _
def endV (k : Nat) : Int := if k = 0 then -9223372036854775808 else if k = 1 then -1 else if k = 7 then 9223372036854775807 else (k : Int) - 2
def endsF : FD := .sl 1 (encL 8 fun k => [I (endV k)])
def callK (k : Nat) : DoD := ⟨(k / 8 + k % 8 : Nat), endV (k / 8), endV (k % 8), true⟩
end Go.Proofs.YthpmgnbehahkfaaGreat
end
section
namespace Go.Proofs.YthpmgnbehahkfaaGreat
open Go.RowKit Go.Dk Go.Dn

theorem wr0' : IntKind.i64.wrap 0 = 0 := rfl
theorem ends_eq : FD.sl 1 [[I (-9223372036854775808)], [I (-1)], [I 0], [I 1], [I 2], [I 3], [I 4], [I 9223372036854775807]] = endsF := by kernel_rfl
def zeroF : FD := .ref [nilV, nilV, nilV, nilV, nilV, I 0, I 0, I 0, I 0, I 0, I 0, I 0, I 0, I 0, I 0, I 0, I 0, I 0, I 0, I 0, I 0, I 0, I 0, I 0, I 0, I 0, I 0, I 0, I 0, I 0, I 0, I 0, I 0, I 0, I 0, I 0, I 0, I 0, I 0, I 0, I 0, I 0, I 0, I 0, I 0, I 0, I 0, I 0, I 0, I 0, I 0, I 0, I 0, nilV, B false]
set_option maxRecDepth 100000 in
theorem zero_none : NoneF zeroF := by
  refine Pure.of_run (lit := true) Tryz.func82 rfl rfl rfl rfl (Nat.le_of_ble_eq_true rfl) (run_of_runL ?_)
  unfold St.enter
  simp -dsimp -implicitDefEqProofs [go_sem, zeroF]
theorem zeroF_eq : FD.ref [nilV, nilV, nilV, nilV, nilV, I 0, I 0, I 0, I 0, I 0, I 0, I 0, I 0, I 0, I 0, I 0, I 0, I 0, I 0, I 0, I 0, I 0, I 0, I 0, I 0, I 0, I 0, I 0, I 0, I 0, I 0, I 0, I 0, I 0, I 0, I 0, I 0, I 0, I 0, I 0, I 0, I 0, I 0, I 0, I 0, I 0, I 0, I 0, I 0, I 0, I 0, I 0, I 0, nilV, B false] = zeroF := rfl
theorem encL_tk (n m : Nat) (f : Nat → List FD) (h : m ≤ n) : (encL n f).take m = encL m f := by
  unfold encL
  rw [← List.map_take, List.take_range, Nat.min_eq_left h]
theorem encL_dr (n m : Nat) (f : Nat → List FD) : (encL n f).drop m = encL (n - m) fun k => f (m + k) := by
  refine List.ext_getElem? fun i => ?_
  simp only [encL, List.getElem?_drop, List.getElem?_map, List.getElem?_range']
  by_cases h : i < n - m
  · rw [List.getElem?_range (show m + i < n by omega), List.getElem?_range h]
    rfl
  · rw [List.getElem?_eq_none (by simp; omega), List.getElem?_eq_none (by simp; omega)]
    rfl
def calls64 : Lst DoD := ⟨64, callK⟩
theorem cut30 : (encL 64 fun k => doC (callK k)).take 30 = encL 30 fun k => doC (callK k) := encL_tk _ _ _ (by decide)
theorem cut40 : (encL 64 fun k => doC (callK k)).take 40 = encL 40 fun k => doC (callK k) := encL_tk _ _ _ (by decide)
theorem cut30' : (encL 64 fun k => doC (callK k)).drop 30 = encL 34 fun k => doC (callK (30 + k)) := encL_dr _ _ _
theorem cut64 : (encL 64 fun k => doC (callK k)).take 64 = encL 64 fun k => doC (callK k) := encL_tk _ _ _ (by decide)
set_option maxRecDepth 100000 in
set_option maxHeartbeats 8000000 in
theorem storeKnown_pure : Pure Tryz.prog 5 [] (B true) := by
  refine Pure.of_runG (lit := true) (fun n => if n = 8 then [3] else if n = 10 then [3] else []) Tryz.func5 rfl rfl rfl rfl (Nat.le_of_ble_eq_true rfl) (runG_of_runGL ?_)
  unfold St.enter
  refine runGL_on ?_
  simp -dsimp -implicitDefEqProofs [go_sem]
  refine runGL_on ?_
  simp -dsimp -implicitDefEqProofs [go_sem]
  refine runGL_on ?_
  simp -dsimp -implicitDefEqProofs [go_sem]
  refine runCL_unroll 3 (iterC_step ?_)
  simp -dsimp -implicitDefEqProofs [go_sem]
  refine callW_f (fs := [.v (.pointer none), I 0]) (evict_none none_nil _) ?_
  simp -dsimp -implicitDefEqProofs [go_sem, eqC, wr0', wr1', wr2']
  refine callW_f (fs := [.v (.pointer none), I (-1), I 9]) (bind_none none_nil _ _) ?_
  simp -dsimp -implicitDefEqProofs [go_sem, eqC, wr0', wr1', wr2']
  refine callW_f (fs := [.v (.pointer none), I 0, B true]) (cordon_none none_nil _ _) ?_
  simp -dsimp -implicitDefEqProofs [go_sem, eqC, wr0', wr1', wr2']
  refine callW_f (fs := [.v (.pointer none), I 9]) (lose_none none_nil _) ?_
  simp -dsimp -implicitDefEqProofs [go_sem, eqC, wr0', wr1', wr2']
  refine callW_f (fs := [.v (.pointer none), I 0]) (gone_none none_nil _) ?_
  simp -dsimp -implicitDefEqProofs [go_sem, eqC, wr0', wr1', wr2']
  refine callW_f (fs := [.v (.pointer none)]) (placement_none none_nil) ?_
  simp -dsimp -implicitDefEqProofs [go_sem, eqC, wr0', wr1', wr2']
  refine callW_f (fs := [.v (.pointer none)]) (snap_none none_nil) ?_
  simp -dsimp -implicitDefEqProofs [go_sem, eqC, wr0', wr1', wr2']
  refine callW_f (fs := [.v (.pointer none), I 0]) (count_none none_nil _) ?_
  simp -dsimp -implicitDefEqProofs [go_sem, eqC, wr0', wr1', wr2']
  refine callW_f (fs := [.v (.pointer none), I 0]) (isGone_none none_nil _) ?_
  simp -dsimp -implicitDefEqProofs [go_sem, eqC, wr0', wr1', wr2']
  refine callW_f (fs := [.v (.pointer none), I 0]) (usedX_none none_nil _) ?_
  simp -dsimp -implicitDefEqProofs [go_sem, eqC, wr0', wr1', wr2']
  rw [zeroF_eq]
  refine iterC_step ?_
  simp -dsimp -implicitDefEqProofs [go_sem, eqC, wr0', wr1', wr2']
  refine callW_f (fs := [zeroF, I 0]) (evict_none zero_none _) ?_
  simp -dsimp -implicitDefEqProofs [go_sem, eqC, wr0', wr1', wr2']
  refine callW_f (fs := [zeroF, I (-1), I 9]) (bind_none zero_none _ _) ?_
  simp -dsimp -implicitDefEqProofs [go_sem, eqC, wr0', wr1', wr2']
  refine callW_f (fs := [zeroF, I 0, B true]) (cordon_none zero_none _ _) ?_
  simp -dsimp -implicitDefEqProofs [go_sem, eqC, wr0', wr1', wr2']
  refine callW_f (fs := [zeroF, I 9]) (lose_none zero_none _) ?_
  simp -dsimp -implicitDefEqProofs [go_sem, eqC, wr0', wr1', wr2']
  refine callW_f (fs := [zeroF, I 0]) (gone_none zero_none _) ?_
  simp -dsimp -implicitDefEqProofs [go_sem, eqC, wr0', wr1', wr2']
  refine callW_f (fs := [zeroF]) (placement_none zero_none) ?_
  simp -dsimp -implicitDefEqProofs [go_sem, eqC, wr0', wr1', wr2']
  refine callW_f (fs := [zeroF]) (snap_none zero_none) ?_
  simp -dsimp -implicitDefEqProofs [go_sem, eqC, wr0', wr1', wr2']
  refine callW_f (fs := [zeroF, I 0]) (count_none zero_none _) ?_
  simp -dsimp -implicitDefEqProofs [go_sem, eqC, wr0', wr1', wr2']
  refine callW_f (fs := [zeroF, I 0]) (isGone_none zero_none _) ?_
  simp -dsimp -implicitDefEqProofs [go_sem, eqC, wr0', wr1', wr2']
  refine callW_f (fs := [zeroF, I 0]) (usedX_none zero_none _) ?_
  simp -dsimp -implicitDefEqProofs [go_sem, eqC, wr0', wr1', wr2']
  refine iterC_step ?_
  simp -dsimp -implicitDefEqProofs [go_sem, eqC, wr0', wr1', wr2']
  refine runGL_on ?_
  simp -dsimp -implicitDefEqProofs [go_sem]
  refine callS_le (ds' := [.f (snapF bS)]) (DLeL.cons (nX_le (ch1 66)) (DLeL.refl _)) ?_
  refine new_S bS bS_ok (fun _ n1 hn1 m1 hm1 => ?_) (fun he => absurd (bS_check.symm.trans he) (by decide))
  rw [bS_check]
  simp -dsimp -implicitDefEqProofs [go_sem]
  refine runGL_on ?_
  simp -dsimp -implicitDefEqProofs [go_sem]
  refine runGL_on ?_
  simp -dsimp -implicitDefEqProofs [go_sem]
  refine callS_le (ds' := [.f (snapF eS)]) (DLeL.cons (nX_le z0) (DLeL.refl _)) ?_
  refine live_S eS eS_ok fun s' A m2 n2 ok' he hn2 hk2 hS hA hids => ?_
  simp -dsimp -implicitDefEqProofs [go_sem, snapF, snapC]
  rw [ends_eq]
  refine runGL_on ?_
  simp -dsimp -implicitDefEqProofs [go_sem]
  obtain ⟨g, hg⟩ : ∃ g, g = n2 + 10 + 1 + 1 := ⟨_, rfl⟩
  refine runGL_frz 0 [g] ?_
  simp -dsimp -implicitDefEqProofs [go_sem]
  have e7 : ∀ k, ¬ n2 + 7 = g + k := fun k => by omega
  refine runCL_loop [.slot 8 51 4] (fun m st => ∃ i v : Nat, st.n = 138 ∧ st.lit = true ∧ i ≤ 8 ∧ m = 8 - i ∧ g + 1 ≤ st.next ∧ st.fr 4 = .f (I 50) ∧ st.fr 5 = .f endsF ∧ st.fr 7 = .loc (n2 + 7) 0 ∧ st.fr 8 = .own g v ∧ st.fr 9 = .f (I i) ∧
      st.mem (n2 + 7) = some (.blk [.f (nodesF s'.nodes), .f (podsF s'.pods), .f (ownersF s'.owners)]) ∧ st.mem g = some (.row 51 v 4 (encL (8 * i) fun k => doC (callK k)))) 8 ⟨0, 0, ?_⟩ ?_
  · simp -dsimp -implicitDefEqProofs [go_sem]
    exact ⟨by omega, by omega, by rw [hg]; simp -dsimp -implicitDefEqProofs [upd]⟩
  rintro m ⟨N, fr, mem, nx, lt⟩ ⟨i, v, hN, hlt, hi, rfl, hnx, f4, f5, f7, f8, f9, m7, mg⟩
  dsimp only at *
  subst hN hlt
  rcases Nat.lt_or_ge i 8 with hi8 | hi8
  · have hi8' : (i : Int) < 8 := by omega
    have e7 : ¬ n2 + 7 = g := by omega
    simp -dsimp -implicitDefEqProofs [go_sem, f4, f5, f7, f8, f9, endsF, hi8']
    refine runCL_loop [] (fun m st => ∃ j v : Nat, st.n = 138 ∧ st.lit = true ∧ j ≤ 8 ∧ m = 8 - j ∧ g + 1 ≤ st.next ∧ st.fr 4 = .f (I 50) ∧ st.fr 5 = .f endsF ∧ st.fr 7 = .loc (n2 + 7) 0 ∧ st.fr 8 = .own g v ∧ st.fr 9 = .f (I i) ∧ st.fr 10 = .f (I j) ∧
        st.mem (n2 + 7) = some (.blk [.f (nodesF s'.nodes), .f (podsF s'.pods), .f (ownersF s'.owners)]) ∧ st.mem g = some (.row 51 v 4 (encL (8 * i + j) fun k => doC (callK k)))) 8 ⟨0, v, ?_⟩ ?_
    · simp -dsimp -implicitDefEqProofs [go_sem, f4, f5, f7, f8, f9, m7, mg, endsF]
      omega
    clear f4 f5 f7 f8 f9 m7 mg
    rintro m ⟨N, fr, mem, nx5, lt⟩ ⟨j, v, hN, hlt, hj, rfl, hnx5, f4, f5, f7, f8, f9, f10, m7, mg⟩
    dsimp only at *
    subst hN hlt
    rcases Nat.lt_or_ge j 8 with hj8 | hj8
    · have hj8' : (j : Int) < 8 := by omega
      have c1 : (8 * i + j) / 8 = i := by omega
      have c2 : (8 * i + j) % 8 = j := by omega
      have w1 : IntKind.i64.wrap ((i : Int) + j) = (i : Int) + j := w64 (by omega) (by omega)
      simp -dsimp -implicitDefEqProofs [go_sem, f4, f5, f7, f8, f9, f10, endsF, hj8']
      generalize hb5 : nx5 + 4 = b5
      have q0 : g < b5 := by omega
      refine runCL_draw [[], [], [], [1, 2], [], [], [4, 5], [6, 4, 5], [], [], [8, 9], [10, 8, 9], [3, 1, 2, 7, 6, 4, 5, 11, 10, 8, 9], [12, 3, 1, 2, 7, 6, 4, 5, 11, 10, 8, 9], [0, 13, 12, 3, 1, 2, 7, 6, 4, 5, 11, 10, 8, 9], [14, 0, 13, 12, 3, 1, 2, 7, 6, 4, 5, 11, 10, 8, 9]] rfl (by kernel_rfl) (by kernel_rfl) ?_
      simp -dsimp -implicitDefEqProofs [go_sem, Tv, Cw, silentAt, silentOp, f4, f5, f7, f8, f9, f10, endsF, hj8, hi8, encL_get? _ hj8, encL_get? _ hi8, w1, q0, mg]
      refine andL_mk (by omega) ?_
      simp -dsimp -implicitDefEqProofs [go_sem, Tv, Cw, silentAt, silentOp, f4, f5, f7, f8, f9, f10, endsF, hj8, hi8, w1, q0, mg]
      refine exWL_mk (andL_mk ⟨Cw_lt (by omega) (by kernel_rfl), Tv_lt (by omega) (by kernel_rfl)⟩ ?_)
      simp -dsimp -implicitDefEqProofs [go_sem, Tv, Cw, silentAt, silentOp, f4, f5, f7, f8, f9, f10, endsF, hj8, hi8, w1, q0, mg, e7, m7]
      refine ⟨_, by omega, j + 1, by omega, rfl, by omega, w64 (by omega) (by omega), ?_⟩
      rw [show 8 * i + (j + 1) = (8 * i + j) + 1 by omega, encL_succ]
      have c3 : ((i : Int) + (j : Int)) = ((i + j : Nat) : Int) := by omega
      rw [c3]
      simp only [callK, doC, c1, c2]
    · obtain rfl : j = 8 := by omega
      simp -dsimp -implicitDefEqProofs [go_sem, f4, f5, f7, f8, f9, f10, endsF]
      exact ⟨_, by omega, i + 1, by omega, rfl, by omega, w64 (by omega) (by omega), m7, by rw [show 8 * (i + 1) = 8 * i + 8 by omega]; exact mg⟩
  · obtain rfl : i = 8 := by omega
    have e8 : ¬ n2 + 7 = g := by omega
    have hL : (encL (8 * 8) fun k => doC (callK k)) = encL 64 fun k => doC (callK k) := rfl
    rw [hL] at mg
    simp -dsimp -implicitDefEqProofs [go_sem, f4, f5, f7, f8, f9, endsF]
    refine runGL_on ?_
    refine runCL_draw [[], [0], [0, 1], [2, 0, 1], [3, 2, 0, 1], [4, 3, 2, 0, 1], [3, 2, 0, 1, 5, 4], [6, 3, 2, 0, 1, 5, 4], [7, 6, 3, 2, 0, 1, 5, 4], [7, 6, 3, 2, 0, 1, 5, 4], [9, 7, 6, 3, 2, 0, 1, 5, 4], [8, 7, 6, 3, 2, 0, 1, 5, 4, 10, 9], [7, 6, 3, 2, 0, 1, 5, 4, 11, 8, 10, 9], [12, 7, 6, 3, 2, 0, 1, 5, 4, 11, 8, 10, 9], [13, 12, 7, 6, 3, 2, 0, 1, 5, 4, 11, 8, 10, 9], [13, 12, 7, 6, 3, 2, 0, 1, 5, 4, 11, 8, 10, 9], [15, 13, 12, 7, 6, 3, 2, 0, 1, 5, 4, 11, 8, 10, 9], [14, 13, 12, 7, 6, 3, 2, 0, 1, 5, 4, 11, 8, 10, 9, 16, 15], [13, 12, 7, 6, 3, 2, 0, 1, 5, 4, 11, 8, 10, 9, 17, 14, 16, 15], [18, 13, 12, 7, 6, 3, 2, 0, 1, 5, 4, 11, 8, 10, 9, 17, 14, 16, 15], [19, 18, 13, 12, 7, 6, 3, 2, 0, 1, 5, 4, 11, 8, 10, 9, 17, 14, 16, 15], [19, 18, 13, 12, 7, 6, 3, 2, 0, 1, 5, 4, 11, 8, 10, 9, 17, 14, 16, 15], [21, 19, 18, 13, 12, 7, 6, 3, 2, 0, 1, 5, 4, 11, 8, 10, 9, 17, 14, 16, 15], [20, 19, 18, 13, 12, 7, 6, 3, 2, 0, 1, 5, 4, 11, 8, 10, 9, 17, 14, 16, 15, 22, 21], [19, 18, 13, 12, 7, 6, 3, 2, 0, 1, 5, 4, 11, 8, 10, 9, 17, 14, 16, 15, 23, 20, 22, 21], [24, 19, 18, 13, 12, 7, 6, 3, 2, 0, 1, 5, 4, 11, 8, 10, 9, 17, 14, 16, 15, 23, 20, 22, 21], [25, 24, 19, 18, 13, 12, 7, 6, 3, 2, 0, 1, 5, 4, 11, 8, 10, 9, 17, 14, 16, 15, 23, 20, 22, 21], [26, 25, 24, 19, 18, 13, 12, 7, 6, 3, 2, 0, 1, 5, 4, 11, 8, 10, 9, 17, 14, 16, 15, 23, 20, 22, 21], [27, 26, 25, 24, 19, 18, 13, 12, 7, 6, 3, 2, 0, 1, 5, 4, 11, 8, 10, 9, 17, 14, 16, 15, 23, 20, 22, 21], [25, 24, 19, 18, 13, 12, 7, 6, 3, 2, 0, 1, 5, 4, 11, 8, 10, 9, 17, 14, 16, 15, 23, 20, 22, 21], [28, 27, 26, 25, 24, 19, 18, 13, 12, 7, 6, 3, 2, 0, 1, 5, 4, 11, 8, 10, 9, 17, 14, 16, 15, 23, 20, 22, 21, 29], [25, 24, 19, 18, 13, 12, 7, 6, 3, 2, 0, 1, 5, 4, 11, 8, 10, 9, 17, 14, 16, 15, 23, 20, 22, 21, 30, 28, 27, 26, 29], [31, 25, 24, 19, 18, 13, 12, 7, 6, 3, 2, 0, 1, 5, 4, 11, 8, 10, 9, 17, 14, 16, 15, 23, 20, 22, 21, 30, 28, 27, 26, 29]] rfl (by kernel_rfl) (by kernel_rfl) ?_
    simp -dsimp -implicitDefEqProofs [go_sem, Tv, Cw, silentAt, silentOp, f4, f7, f8, mg, m7, e8]
    have q9 : n2 + 7 < nx + 4 := by omega
    refine callW_f (fs := []) storeWorks_pure ?_
    simp -dsimp -implicitDefEqProofs [go_sem, Tv, Cw, silentAt, silentOp, f4, f7, f8, mg, m7, e8, q9, cut30, cut40, cut30', cut64]
    refine callW_f (fs := [snapF s', dosF ⟨30, callK⟩]) (storePlays_pure s' ok' _ (by decide)) ?_
    simp -dsimp -implicitDefEqProofs [go_sem, Tv, Cw, silentAt, silentOp, f4, f7, f8, mg, m7, e8, q9, cut30, cut40, cut30', cut64]
    refine callW_f (fs := [snapF s', dosF ⟨34, fun k => callK (30 + k)⟩]) (storePlays_pure s' ok' _ (by decide)) ?_
    simp -dsimp -implicitDefEqProofs [go_sem, Tv, Cw, silentAt, silentOp, f4, f7, f8, mg, m7, e8, q9, cut30, cut40, cut30', cut64]
    refine callW_f (fs := [.agg [nilV, nilV, nilV], dosF ⟨40, callK⟩]) (Pure.le (storePlays_pure oS oS_ok _ (by decide)) (FLeL.cons (FLe.agg (FLeL.cons (FLe.nil _) (FLeL.cons (FLe.nil _) (FLeL.cons (FLe.nil _) (FLeL.refl _))))) (FLeL.refl _))) ?_
    simp -dsimp -implicitDefEqProofs [go_sem, Tv, Cw, silentAt, silentOp, f4, f7, f8, mg, m7, e8, q9, cut30, cut40, cut30', cut64]
    refine callW_f (fs := [.agg [nilV, .sl 15 [podX], nilV], dosF ⟨64, callK⟩]) (Pure.le (storePlays_pure xS xS_ok _ (by decide)) (FLeL.cons xS_le (FLeL.refl _))) ?_
    simp -dsimp -implicitDefEqProofs [go_sem, Tv, Cw, silentAt, silentOp, f4, f7, f8, mg, m7, e8, q9, cut30, cut40, cut30', cut64]
end Go.Proofs.YthpmgnbehahkfaaGreat
end
