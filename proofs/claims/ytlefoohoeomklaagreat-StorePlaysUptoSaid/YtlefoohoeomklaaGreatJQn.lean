/- The two clusters that the statements make. -/
/- does: something is done with a store. -/
/- Rows of calls, out of the law's arguments. -/
/- works: the chapter's store. -/
import Derived.Test.YtlefoohoeomklaaGreatJQm
import Derived.Test.YtlefoohoeomklaaGreatJQo
import Derived.Test.YtlefoohoeomklaaGreatJQd
import Derived.Test.YtlefoohoeomklaaGreatJDe
set_option linter.unusedSimpArgs false
set_option linter.unusedVariables false
section
namespace Go.Proofs.YtlefoohoeomklaaGreat
open Go.RowKit Go.Dk Go.Dn

def z0 : ByteArray := ByteArray.empty
def ch1 (c : UInt8) : ByteArray := ⟨#[c]⟩
def noL : Lst LabD := ⟨0, fun _ => ⟨z0, z0⟩⟩
def noT : Lst TermD := ⟨0, fun _ => ⟨0, z0, z0⟩⟩
abbrev nilV : FD := .v (.slice none 0 0)
def fallN (k : Nat) : NodeD := ⟨ch1 (UInt8.ofNat (97 + k)), fun _ => 0, noL, noL, false, false⟩
def fallCh (k : Nat) : ByteArray := ch1 (UInt8.ofNat (112 + k))
def fallP (k : Nat) : PodD := ⟨fallCh k, if k % 2 = 0 then ch1 111 else z0, fun i => if i = 0 then (k : Int) + 1 else if i = 1 then 2 * (k : Int) else 0, noL, noT, noL, z0, noT, z0, noT, z0⟩
/-- the cluster of three nodes and four pods -/
def fallS : SnapD := ⟨⟨3, fallN⟩, ⟨4, fallP⟩, ⟨1, fun _ => ⟨ch1 111, 0, z0, 0, false⟩⟩⟩
def fallNC (c : UInt8) : List FD := [S (ch1 c), I 0, I 0, I 0, I 0, I 0, nilV, nilV, B false, B false]
def fallPC (c : UInt8) (o : ByteArray) (a b : Int) : List FD := [S (ch1 c), S o, I a, I b, I 0, I 0, I 0, nilV, nilV, nilV, S z0, nilV, S z0, nilV, S z0]
def fallF : FD := .agg [.sl 10 [fallNC 97, fallNC 98, fallNC 99], .sl 15 [fallPC 112 (ch1 111) 1 0, fallPC 113 z0 2 2, fallPC 114 (ch1 111) 3 4, fallPC 115 z0 4 6], .sl 5 [[S (ch1 111), I 0, S z0, I 0, B false]]]
theorem fall_le : FLe fallF (snapF fallS) := by
  refine FLe.agg (FLeL.cons (FLe.sl (FLeLL.cons ?_ (FLeLL.cons ?_ (FLeLL.cons ?_ (FLeLL.refl _))))) (FLeL.cons (FLe.sl (FLeLL.cons ?_ (FLeLL.cons ?_ (FLeLL.cons ?_ (FLeLL.cons ?_ (FLeLL.refl _)))))) (FLeL.refl _)))
  all_goals (repeat' (first | exact FLeL.refl [] | refine FLeL.cons ?_ ?_))
  all_goals first | exact FLe.refl _ | exact FLe.nil _
theorem noL_ok : LabsOk noL := ⟨by decide, fun k hk => absurd hk (Nat.not_lt_zero k)⟩
theorem noT_ok : TermsOk noT := ⟨by decide, fun k hk => absurd hk (Nat.not_lt_zero k)⟩
theorem ch1_ok (c : UInt8) : Sm (ch1 c) := by unfold Sm ch1; show 1 ≤ 1048576; decide
theorem z0_ok : Sm z0 := by unfold Sm z0; decide
theorem fallS_ok : SnapOk fallS :=
  ⟨by decide, fun k _ => ⟨ch1_ok _, noL_ok, noL_ok⟩, by decide, fun k _ => ⟨⟨ch1_ok _, by show Sm (if k % 2 = 0 then ch1 111 else z0); split; exact ch1_ok _; exact z0_ok, z0_ok, z0_ok, z0_ok⟩, noL_ok, noT_ok, noL_ok, noT_ok, noT_ok⟩, by decide, fun k _ => ⟨ch1_ok _, z0_ok⟩⟩
theorem fallS_check : checkE fallS = 0 := by decide +kernel
def wkP (k : Nat) : PodD := ⟨ch1 (UInt8.ofNat (112 + k)), z0, fun i => if i = 0 then 10 else 0, noL, noT, noL, z0, noT, z0, noT, if k = 0 then ch1 97 else z0⟩
/-- the cluster of works: two nodes, two pods, one of them on the first -/
def wkS : SnapD := ⟨⟨2, fallN⟩, ⟨2, wkP⟩, ⟨0, fun _ => ⟨z0, 0, z0, 0, false⟩⟩⟩
def wkPC (c : UInt8) (on : ByteArray) : List FD := [S (ch1 c), S z0, I 10, I 0, I 0, I 0, I 0, nilV, nilV, nilV, S z0, nilV, S z0, nilV, S on]
def wkF : FD := .agg [.sl 10 [fallNC 97, fallNC 98], .sl 15 [wkPC 112 (ch1 97), wkPC 113 z0], nilV]
theorem wk_le : FLe wkF (snapF wkS) := by
  refine FLe.agg (FLeL.cons (FLe.sl (FLeLL.cons ?_ (FLeLL.cons ?_ (FLeLL.refl _)))) (FLeL.cons (FLe.sl (FLeLL.cons ?_ (FLeLL.cons ?_ (FLeLL.refl _)))) (FLeL.cons (FLe.nil _) (FLeL.refl _))))
  all_goals (repeat' (first | exact FLeL.refl [] | refine FLeL.cons ?_ ?_))
  all_goals first | exact FLe.refl _ | exact FLe.nil _
theorem wkS_ok : SnapOk wkS :=
  ⟨by decide, fun k _ => ⟨ch1_ok _, noL_ok, noL_ok⟩, by decide, fun k _ => ⟨⟨ch1_ok _, z0_ok, by show Sm (if k = 0 then ch1 97 else z0); split; exact ch1_ok _; exact z0_ok, z0_ok, z0_ok⟩, noL_ok, noT_ok, noL_ok, noT_ok, noT_ok⟩, by decide, fun k hk => absurd hk (Nat.not_lt_zero k)⟩
theorem wkS_check : checkE wkS = 0 := by decide +kernel
end Go.Proofs.YtlefoohoeomklaaGreat
end
section
namespace Go.Proofs.YtlefoohoeomklaaGreat
open Go.RowKit Go.Dk Go.Dn

def doC (x : DoD) : List FD := [I x.kind, I x.a, I x.b, B x.raw]
def dosF (l : Lst DoD) : FD := .sl 4 (encL l.n fun k => doC (l.el k))
theorem cellsD_dosF (l : Lst DoD) : cellsD (.f (dosF l)) = some [.f (dosF l)] := by rw [dosF]; rfl
theorem elems_dosF (mem : Nat → Option M) (l : Lst DoD) : elems mem 4 (.f (dosF l)) = some (encL l.n fun k => doC (l.el k)) := by simp [dosF, elems]
theorem lenD_dosF (mem : Nat → Option M) (l : Lst DoD) : lenD mem (.f (dosF l)) = some l.n := by simp [dosF, lenD, encL_len]
attribute [go_sem high] cellsD_dosF elems_dosF lenD_dosF
theorem doC_eq (x : DoD) : doC x = [I x.kind, I x.a, I x.b, B x.raw] := rfl
section
variable {mem : Nat → Option M} {A : SA} {d : StD} {nx : Nat} {K : D → (Nat → Option M) → Nat → Prop}
set_option maxRecDepth 100000 in
theorem does_S (h : StoreM mem A d) (hd : DInv d) (hA : A.Ok nx) (s : SnapD) (hs : s.nodes.n = d.s.nodes.n) (hp : s.pods.n = d.s.pods.n) (x : DoD)
    (hk : ∀ m' n', nx ≤ n' → StoreM m' A (doesD d x) → Kept A.ids nx mem m' → K (.tup []) m' n') : callS Tryz.prog 26 [.loc A.t 0, .f (snapF s), .f (.agg (doC x))] mem nx K := by
  have hn8 := hd.ok.s.n8
  have hp24 := hd.ok.s.p24
  have w1 : IntKind.i64.wrap ((d.s.pods.n : Int) + 1) = (d.s.pods.n : Int) + 1 := w64 (by omega) (by omega)
  have w2 : IntKind.i64.wrap ((d.s.nodes.n : Int) + 1) = (d.s.nodes.n : Int) + 1 := w64 (by omega) (by omega)
  have p1 := fun a => bring_pure a ((d.s.pods.n : Int) + 1) (by omega) (by omega)
  have p2 := fun a => bring_pure a ((d.s.nodes.n : Int) + 1) (by omega) (by omega)
  have r6 := bringV_range (a := x.kind) (n := 6) (by decide)
  refine callS.of_run (lit := true) (B := fun n => if n = 5 then [2] else if n = 8 then [3] else if n = 10 then [5] else if n = 12 then [2] else if n = 3 then [2] else []) Tryz.func26 rfl rfl rfl rfl (Nat.le_of_ble_eq_true rfl) (runC_of_runCL ?_)
  simp (dsimp := false) (implicitDefEqProofs := false) [go_sem, snapF, snapC, doC]
  refine runCL_draw [[], [0], [], [2], [3, 2], [4, 3, 2], [1, 0, 5, 4, 3, 2], [], [7], [], [9], [10, 9], [11, 10, 9], [8, 7, 12, 11, 10, 9, 6, 1, 0, 5, 4, 3, 2], [], [14], [], [16], [17, 16], [18, 17, 16], [15, 14, 19, 18, 17, 16, 13, 8, 7, 12, 11, 10, 9, 6, 1, 0, 5, 4, 3, 2], [6, 1, 0, 5, 4, 3, 2, 20, 15, 14, 19, 18, 17, 16, 13, 8, 7, 12, 11, 10, 9], [13, 8, 7, 12, 11, 10, 9, 6, 1, 0, 5, 4, 3, 2, 21, 20, 15, 14, 19, 18, 17, 16], [20, 15, 14, 19, 18, 17, 16, 13, 8, 7, 12, 11, 10, 9, 6, 1, 0, 5, 4, 3, 2, 22, 21]] rfl (by kernel_rfl) (by kernel_rfl) ?_
  simp (dsimp := false) (implicitDefEqProofs := false) [go_sem, Tv, Cw, silentAt, silentOp, nodesF, podsF, hs, hp, w1, w2]
  refine callW_f (p1 x.a) ?_
  simp (dsimp := false) (implicitDefEqProofs := false) [go_sem, Tv, Cw, silentAt, silentOp, nodesF, podsF, hs, hp, w1, w2]
  refine callW_f (p2 x.b) ?_
  simp (dsimp := false) (implicitDefEqProofs := false) [go_sem, Tv, Cw, silentAt, silentOp, nodesF, podsF, hs, hp, w1, w2]
  refine callW_f (p2 x.a) ?_
  simp (dsimp := false) (implicitDefEqProofs := false) [go_sem, Tv, Cw, silentAt, silentOp, nodesF, podsF, hs, hp, w1, w2]
  refine callW_f (bring_pure x.kind 6 (by decide) (by decide)) ?_
  have hle : ∀ k : Nat, A.Ok (nx + k) := fun k => hA.le (by omega)
  have hkp : ∀ {k : Nat} {m' : Nat → Option M}, Kept A.ids (nx + k) mem m' → Kept A.ids nx mem m' := fun h id hid hl => h id (by omega) hl
  unfold doesD at hk
  rcases (by omega : bringV x.kind 6 = 0 ∨ bringV x.kind 6 = 1 ∨ bringV x.kind 6 = 2 ∨ bringV x.kind 6 = 3 ∨ bringV x.kind 6 = 4 ∨ bringV x.kind 6 = 5) with e | e | e | e | e | e
  · simp (dsimp := false) (implicitDefEqProofs := false) [go_sem, e]
    simp only [e, if_true] at hk
    refine evict_S h hd.ok (hA.le (by omega)) _ fun m' n' hn' hm' hkept => ?_
    simp (dsimp := false) (implicitDefEqProofs := false) [go_sem]
    exact hk _ _ (by omega) hm' (fun id hid hl => hkept id (by omega) hl)
  · simp (dsimp := false) (implicitDefEqProofs := false) [go_sem, e]
    simp only [e] at hk
    refine bind_S h hd.ok (hA.le (by omega)) _ _ fun m' n' hn' hm' hkept => ?_
    simp (dsimp := false) (implicitDefEqProofs := false) [go_sem]
    exact hk _ _ (by omega) (by simpa using hm') (fun id hid hl => hkept id (by omega) hl)
  · simp (dsimp := false) (implicitDefEqProofs := false) [go_sem, e]
    simp only [e] at hk
    refine bind_S h hd.ok (hA.le (by omega)) _ _ fun m' n' hn' hm' hkept => ?_
    simp (dsimp := false) (implicitDefEqProofs := false) [go_sem]
    exact hk _ _ (by omega) (by simpa using hm') (fun id hid hl => hkept id (by omega) hl)
  · simp (dsimp := false) (implicitDefEqProofs := false) [go_sem, ibin, e]
    simp only [e] at hk
    refine cordon_S h (hA.le (by omega)) _ _ fun m' n' hn' hm' hkept => ?_
    simp (dsimp := false) (implicitDefEqProofs := false) [go_sem]
    exact hk _ _ (by omega) (by simpa using hm') (fun id hid hl => hkept id (by omega) hl)
  · simp (dsimp := false) (implicitDefEqProofs := false) [go_sem, e]
    simp only [e] at hk
    refine lose_S h hd.ok (hA.le (by omega)) _ fun m' n' hn' hm' hkept => ?_
    simp (dsimp := false) (implicitDefEqProofs := false) [go_sem]
    exact hk _ _ (by omega) (by simpa using hm') (fun id hid hl => hkept id (by omega) hl)
  · simp (dsimp := false) (implicitDefEqProofs := false) [go_sem, e]
    simp only [e] at hk
    refine gone_S h hd.ok (hA.le (by omega)) _ fun m' n' hn' hm' hkept => ?_
    simp (dsimp := false) (implicitDefEqProofs := false) [go_sem]
    exact hk _ _ (by omega) (by simpa using hm') (fun id hid hl => hkept id (by omega) hl)
end
end Go.Proofs.YtlefoohoeomklaaGreat
end
section
namespace Go.Proofs.YtlefoohoeomklaaGreat
open Go.RowKit Go.Dk Go.Dn

def doK : List LK := [.i .i64, .i .i64, .i .i64, .b]
theorem dos_of {d : FD} (h : IsK (.sl doK) d) : ∃ r : Lst DoD, d = dosF r ∧ (bk d ≤ 1048576 → r.n ≤ 1048576) ∧ ∀ k, k < r.n → (Lit.int .i64 (r.el k).kind).wf = true ∧ (Lit.int .i64 (r.el k).a).wf = true ∧ (Lit.int .i64 (r.el k).b).wf = true := by
  obtain ⟨r, rfl, hn, hk⟩ := rows_of (α := DoD) ⟨0, 0, 0, false⟩ doC (fun x _ => (Lit.int .i64 x.kind).wf = true ∧ (Lit.int .i64 x.a).wf = true ∧ (Lit.int .i64 x.b).wf = true) (fun a i j hij h => h) (fun c hc => by
    simp only [doK, IsL, IsK] at hc
    obtain ⟨_, _, rfl, ⟨n, rfl, h1⟩, _, _, rfl, ⟨a, rfl, h2⟩, _, _, rfl, ⟨b, rfl, h3⟩, _, _, rfl, ⟨r, rfl⟩, rfl⟩ := hc
    exact ⟨⟨n, a, b, r⟩, rfl, ⟨h1, h2, h3⟩, bkL_pos⟩) h
  exact ⟨r, rfl, fun hb => by omega, hk⟩
end Go.Proofs.YtlefoohoeomklaaGreat
end
section
namespace Go.Proofs.YtlefoohoeomklaaGreat
open Go.RowKit Go.Dk Go.Dn

def k0 : StD := startD wkS
def k1 : StD := evictD k0 0
def k2 : StD := evictD k1 0
def k3 : StD := bindD k2 0 1
def k4 : StD := loseD k3 1
def k5 : StD := bindD k4 0 1
def k6 : StD := goneD k5 1
def k7 : StD := bindD k6 1 0
theorem ok0 : DOk k0 := startD_ok wkS_check
theorem ok1 : DOk k1 := evictD_ok ok0 _
theorem ok2 : DOk k2 := evictD_ok ok1 _
theorem ok3 : DOk k3 := bindD_ok ok2 _ _
theorem ok4 : DOk k4 := loseD_ok ok3 _
theorem ok5 : DOk k5 := bindD_ok ok4 _ _
theorem ok6 : DOk k6 := goneD_ok ok5 _
theorem ok7 : DOk k7 := bindD_ok ok6 _ _
theorem r0 : evictR k0 0 = 0 := by decide +kernel
theorem r1 : evictR k1 0 = 110 := by decide +kernel
theorem r2 : bindR k2 0 1 = 0 := by decide +kernel
theorem r3 : cordonR k3 1 = 0 := by decide +kernel
theorem r4 : bindR k4 0 1 = 110 := by decide +kernel
theorem r5 : goneR k5 1 = 0 := by decide +kernel
theorem r6 : bindR k6 1 0 = 110 := by decide +kernel
theorem r7 : evictR k7 2 = 9 := by decide +kernel
theorem u0 : usedR k3 1 0 = 10 := by decide +kernel
theorem u1 : usedR k3 1 1 = 0 := by decide +kernel
theorem u2 : usedR k3 1 2 = 0 := by decide +kernel
theorem u3 : usedR k3 1 3 = 0 := by decide +kernel
theorem u4 : usedR k3 1 4 = 0 := by decide +kernel
theorem u_five : fiveF (usedR k3 1) = .agg [I 10, I 0, I 0, I 0, I 0] := by unfold fiveF; rw [u0, u1, u2, u3, u4]
theorem p4 : (encL k4.s.pods.n fun k => [I (k4.on k)]) = [[I (-1)], [I (-1)]] := by
  have h0 : k4.on 0 = -1 := by decide +kernel
  have h1 : k4.on 1 = -1 := by decide +kernel
  have hn : k4.s.pods.n = 2 := by decide +kernel
  rw [hn]
  show [[I (k4.on 0)], [I (k4.on 1)]] = _
  rw [h0, h1]
theorem eq_minus : Pure Tryz.prog 14 [.sl 1 [[I (-1)], [I (-1)]], .sl 1 [[I (-1)], [I (-1)]]] (B true) := eqInts_row 2 (fun _ => -1) (by decide)
set_option maxRecDepth 100000 in
set_option maxHeartbeats 2000000 in
theorem storeWorks_pure : Pure Tryz.prog 34 [] (B true) := by
  refine Pure.of_runG (lit := true) (fun n => if n = 2 then [9] else if n = 5 then [1, 5, 11, 16, 21, 26] else []) Tryz.func34 rfl rfl rfl rfl (Nat.le_of_ble_eq_true rfl) (runG_of_runGL ?_)
  unfold St.enter
  refine runGL_on ?_
  simp (dsimp := false) (implicitDefEqProofs := false) [go_sem]
  refine runGL_on ?_
  simp (dsimp := false) (implicitDefEqProofs := false) [go_sem]
  refine runGL_on ?_
  simp (dsimp := false) (implicitDefEqProofs := false) [go_sem]
  refine callS_le (ds' := [.f (snapF wkS)]) (DLeL.cons wk_le (DLeL.refl _)) ?_
  refine new_S wkS wkS_ok (fun he => absurd wkS_check he) (fun _ A m' n' hn' hkept hS hA hids => ?_)
  have hS : StoreM m' A k0 := hS
  have c1 : m' 2 = some (.blk [.f (I 10), .f (I 0), .f (I 0), .f (I 0), .f (I 0)]) := by
    rw [hkept 2 (by omega) (by simp)]
    simp (dsimp := false) (implicitDefEqProofs := false) [upd]
  have hi1 : 2 ∉ A.ids := fun h => by have := hids 2 h; omega
  simp (dsimp := false) (implicitDefEqProofs := false) [go_sem]
  refine runGL_gcut (fun s => s.n = 74 ∧ s.lit = true ∧ s.fr 2 = .loc A.t 0 ∧ StoreM s.mem A k3 ∧ A.Ok s.next) (runGL_sub ?_) ?_
  · refine runGL_tree (.one 0 (.one 1 (.one 2 (.one 3 (.one 4 (.one 5 (.one 6 (.one 7 (.one 8 (.one 9 (.one 10 (.one 11 (.one 12 (.one 13 (.one 14 (.one 15 (.one 16 (.one 17 (.one 18 (.one 19 (.one 20 (.one 21 (.two 22 (.two 23 (.one 24 (.one 25 (.one 26 .done))) 24 (.one 23 (.one 25 (.one 26 .done)))) 24 (.one 22 (.one 23 (.one 25 (.one 26 .done))))))))))))))))))))))))))) [8, 13, 18, 23] (by kernel_rfl) (by kernel_rfl) ?_
    simp (dsimp := false) (implicitDefEqProofs := false) [go_sem]
    refine evict_S hS ok0 (hA.le (by omega)) 0 fun m1 n1 hn1 hS1 hk1 => ?_
    have hS1 : StoreM m1 A k1 := hS1
    have c2 : m1 2 = some (.blk [.f (I 10), .f (I 0), .f (I 0), .f (I 0), .f (I 0)]) := by rw [hk1 2 (by omega) hi1, c1]
    simp (dsimp := false) (implicitDefEqProofs := false) [go_sem, r0]
    refine evict_S hS1 ok1 (hA.le (by omega)) 0 fun m2 n2 hn2 hS2 hk2 => ?_
    have hS2 : StoreM m2 A k2 := hS2
    have c3 : m2 2 = some (.blk [.f (I 10), .f (I 0), .f (I 0), .f (I 0), .f (I 0)]) := by rw [hk2 2 (by omega) hi1, c2]
    simp (dsimp := false) (implicitDefEqProofs := false) [go_sem, r1]
    refine bind_S hS2 ok2 (hA.le (by omega)) 0 1 fun m3 n3 hn3 hS3 hk3 => ?_
    have hS3 : StoreM m3 A k3 := hS3
    have c4 : m3 2 = some (.blk [.f (I 10), .f (I 0), .f (I 0), .f (I 0), .f (I 0)]) := by rw [hk3 2 (by omega) hi1, c3]
    simp (dsimp := false) (implicitDefEqProofs := false) [go_sem, r2]
    refine tailTL_two ?_ ?_
    · simp (dsimp := false) (implicitDefEqProofs := false) [go_sem, c4]
      refine tailTL_two ?_ ?_
      · simp (dsimp := false) (implicitDefEqProofs := false) [go_sem, c4]
        refine used_S hS3 ok3 (hA.le (by omega)) 1 fun m4 n4 hn4 hk4 => ?_
        have hS4 : StoreM m4 A k3 := hS3.same (hA.le (by omega)) hk4
        have c5 : m4 2 = some (.blk [.f (I 10), .f (I 0), .f (I 0), .f (I 0), .f (I 0)]) := by rw [hk4 2 (by omega) (by simp), c4]
        rw [u_five]
        simp (dsimp := false) (implicitDefEqProofs := false) [go_sem, c4, c5]
        exact ⟨hS4, hA.le (by omega)⟩
      · simp (dsimp := false) (implicitDefEqProofs := false) [go_sem, c4]
        refine used_S hS3 ok3 (hA.le (by omega)) 1 fun m4 n4 hn4 hk4 => ?_
        have hS4 : StoreM m4 A k3 := hS3.same (hA.le (by omega)) hk4
        have c5 : m4 2 = some (.blk [.f (I 10), .f (I 0), .f (I 0), .f (I 0), .f (I 0)]) := by rw [hk4 2 (by omega) (by simp), c4]
        rw [u_five]
        simp (dsimp := false) (implicitDefEqProofs := false) [go_sem, c4, c5]
        exact ⟨hS4, hA.le (by omega)⟩
    · simp (dsimp := false) (implicitDefEqProofs := false) [go_sem, c4]
      refine used_S hS3 ok3 (hA.le (by omega)) 1 fun m4 n4 hn4 hk4 => ?_
      have hS4 : StoreM m4 A k3 := hS3.same (hA.le (by omega)) hk4
      have c5 : m4 2 = some (.blk [.f (I 10), .f (I 0), .f (I 0), .f (I 0), .f (I 0)]) := by rw [hk4 2 (by omega) (by simp), c4]
      rw [u_five]
      simp (dsimp := false) (implicitDefEqProofs := false) [go_sem, c4, c5]
      exact ⟨hS4, hA.le (by omega)⟩
  rintro ⟨N, fr, mem, nx, lt⟩ ⟨hN, hlt, f2, hS3, hA⟩
  dsimp only at *
  subst hN hlt
  refine runGL_end ?_
  simp (dsimp := false) (implicitDefEqProofs := false) [go_sem, f2]
  refine lose_S hS3 ok3 (hA.le (by omega)) 1 fun m4 n4 hn4 hS4 _ => ?_
  have hS4 : StoreM m4 A k4 := hS4
  simp (dsimp := false) (implicitDefEqProofs := false) [go_sem, r3, f2]
  refine placement_S hS4 ok4 (hA.le (by omega)) fun g m5 n5 hg hgn hk5 hrow => ?_
  have hS5 : StoreM m5 A k4 := hS4.same (hA.le (by omega)) hk5
  rw [p4] at hrow
  simp (dsimp := false) (implicitDefEqProofs := false) [go_sem, f2]
  refine callW_z (fs := [.sl 1 [[I (-1)], [I (-1)]], .sl 1 [[I (-1)], [I (-1)]]]) (by simp (dsimp := false) (implicitDefEqProofs := false) [omap, frz, hrow]) eq_minus rfl ?_
  simp (dsimp := false) (implicitDefEqProofs := false) [go_sem, f2]
  refine bind_S hS5 ok4 (hA.le (by omega)) 0 1 fun m6 n6 hn6 hS6 _ => ?_
  have hS6 : StoreM m6 A k5 := hS6
  simp (dsimp := false) (implicitDefEqProofs := false) [go_sem, r4, f2]
  refine gone_S hS6 ok5 (hA.le (by omega)) 1 fun m7 n7 hn7 hS7 _ => ?_
  have hS7 : StoreM m7 A k6 := hS7
  simp (dsimp := false) (implicitDefEqProofs := false) [go_sem, r5, f2]
  refine bind_S hS7 ok6 (hA.le (by omega)) 1 0 fun m8 n8 hn8 hS8 _ => ?_
  have hS8 : StoreM m8 A k7 := hS8
  simp (dsimp := false) (implicitDefEqProofs := false) [go_sem, r6, f2]
  refine evict_S hS8 ok7 (hA.le (by omega)) 2 fun m9 n9 hn9 hS9 _ => ?_
  simp (dsimp := false) (implicitDefEqProofs := false) [go_sem, r7, f2]
end Go.Proofs.YtlefoohoeomklaaGreat
end
