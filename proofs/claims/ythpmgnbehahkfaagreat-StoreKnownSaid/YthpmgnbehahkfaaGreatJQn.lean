/- The two clusters that the statements make. -/
/- live: a store of a cluster, or of one of three nodes and four pods. -/
/- does: something is done with a store. -/
/- works: the chapter's store. -/
import Derived.Test.YthpmgnbehahkfaaGreatJQm
import Derived.Test.YthpmgnbehahkfaaGreatJQd
import Derived.Test.YthpmgnbehahkfaaGreatJDe
set_option linter.unusedSimpArgs false
set_option linter.unusedVariables false
section
namespace Go.Proofs.YthpmgnbehahkfaaGreat
open Go.RowKit Go.Dk Go.Dn

def z0 : ByteArray := ByteArray.empty
def ch1 (c : UInt8) : ByteArray := ⟨#[c]⟩
def noL : Lst LabD := ⟨0, fun _ => ⟨z0, z0⟩⟩
def noT : Lst TermD := ⟨0, fun _ => ⟨0, z0, z0⟩⟩
abbrev nilV : FD := .v (.slice none 0 0)
def fallN (k : Nat) : NodeD := ⟨ch1 (UInt8.ofNat (97 + k)), fun _ => 0, noL, noL, false, false⟩
def fallCh (k : Nat) : ByteArray := ch1 (UInt8.ofNat (112 + k))
def fallP (k : Nat) : PodD := ⟨fallCh k, if k % 2 = 0 then ch1 111 else z0, fun i => if i = 0 then (k : Int) + 1 else if i = 1 then 2 * (k : Int) else 0, noL, noT, noL, z0, noT, z0, noT, z0⟩
/-- the cluster of three nodes and four pods -/
def fallS : SnapD := ⟨⟨3, fallN⟩, ⟨4, fallP⟩, ⟨1, fun _ => ⟨ch1 111, 0, z0, 0, false⟩⟩⟩
def fallNC (c : UInt8) : List FD := [S (ch1 c), I 0, I 0, I 0, I 0, I 0, nilV, nilV, B false, B false]
def fallPC (c : UInt8) (o : ByteArray) (a b : Int) : List FD := [S (ch1 c), S o, I a, I b, I 0, I 0, I 0, nilV, nilV, nilV, S z0, nilV, S z0, nilV, S z0]
def fallF : FD := .agg [.sl 10 [fallNC 97, fallNC 98, fallNC 99], .sl 15 [fallPC 112 (ch1 111) 1 0, fallPC 113 z0 2 2, fallPC 114 (ch1 111) 3 4, fallPC 115 z0 4 6], .sl 5 [[S (ch1 111), I 0, S z0, I 0, B false]]]
theorem fall_le : FLe fallF (snapF fallS) := by
  refine FLe.agg (FLeL.cons (FLe.sl (FLeLL.cons ?_ (FLeLL.cons ?_ (FLeLL.cons ?_ (FLeLL.refl _))))) (FLeL.cons (FLe.sl (FLeLL.cons ?_ (FLeLL.cons ?_ (FLeLL.cons ?_ (FLeLL.cons ?_ (FLeLL.refl _)))))) (FLeL.refl _)))
  all_goals (repeat' (first | exact FLeL.refl [] | refine FLeL.cons ?_ ?_))
  all_goals first | exact FLe.refl _ | exact FLe.nil _
theorem noL_ok : LabsOk noL := ⟨by decide, fun k hk => absurd hk (Nat.not_lt_zero k)⟩
theorem noT_ok : TermsOk noT := ⟨by decide, fun k hk => absurd hk (Nat.not_lt_zero k)⟩
theorem ch1_ok (c : UInt8) : Sm (ch1 c) := by unfold Sm ch1; show 1 ≤ 1048576; decide
theorem z0_ok : Sm z0 := by unfold Sm z0; decide
theorem fallS_ok : SnapOk fallS :=
  ⟨by decide, fun k _ => ⟨ch1_ok _, noL_ok, noL_ok⟩, by decide, fun k _ => ⟨⟨ch1_ok _, by show Sm (if k % 2 = 0 then ch1 111 else z0); split; exact ch1_ok _; exact z0_ok, z0_ok, z0_ok, z0_ok⟩, noL_ok, noT_ok, noL_ok, noT_ok, noT_ok⟩, by decide, fun k _ => ⟨ch1_ok _, z0_ok⟩⟩
theorem fallS_check : checkE fallS = 0 := by decide +kernel
def wkP (k : Nat) : PodD := ⟨ch1 (UInt8.ofNat (112 + k)), z0, fun i => if i = 0 then 10 else 0, noL, noT, noL, z0, noT, z0, noT, if k = 0 then ch1 97 else z0⟩
/-- the cluster of works: two nodes, two pods, one of them on the first -/
def wkS : SnapD := ⟨⟨2, fallN⟩, ⟨2, wkP⟩, ⟨0, fun _ => ⟨z0, 0, z0, 0, false⟩⟩⟩
def wkPC (c : UInt8) (on : ByteArray) : List FD := [S (ch1 c), S z0, I 10, I 0, I 0, I 0, I 0, nilV, nilV, nilV, S z0, nilV, S z0, nilV, S on]
def wkF : FD := .agg [.sl 10 [fallNC 97, fallNC 98], .sl 15 [wkPC 112 (ch1 97), wkPC 113 z0], nilV]
theorem wk_le : FLe wkF (snapF wkS) := by
  refine FLe.agg (FLeL.cons (FLe.sl (FLeLL.cons ?_ (FLeLL.cons ?_ (FLeLL.refl _)))) (FLeL.cons (FLe.sl (FLeLL.cons ?_ (FLeLL.cons ?_ (FLeLL.refl _)))) (FLeL.cons (FLe.nil _) (FLeL.refl _))))
  all_goals (repeat' (first | exact FLeL.refl [] | refine FLeL.cons ?_ ?_))
  all_goals first | exact FLe.refl _ | exact FLe.nil _
theorem wkS_ok : SnapOk wkS :=
  ⟨by decide, fun k _ => ⟨ch1_ok _, noL_ok, noL_ok⟩, by decide, fun k _ => ⟨⟨ch1_ok _, z0_ok, by show Sm (if k = 0 then ch1 97 else z0); split; exact ch1_ok _; exact z0_ok, z0_ok, z0_ok⟩, noL_ok, noT_ok, noL_ok, noT_ok, noT_ok⟩, by decide, fun k hk => absurd hk (Nat.not_lt_zero k)⟩
theorem wkS_check : checkE wkS = 0 := by decide +kernel
end Go.Proofs.YthpmgnbehahkfaaGreat
end
section
namespace Go.Proofs.YthpmgnbehahkfaaGreat
open Go.RowKit Go.Dk Go.Dn

def fallC (k : Nat) : List FD := [S (fallCh k), S (if k % 2 = 0 then ch1 111 else z0), I ((k : Int) + 1), I (2 * (k : Int)), I 0, I 0, I 0, nilV, nilV, nilV, S z0, nilV, S z0, nilV, S z0]
theorem str_fall {j : Nat} (h : j < 4) : strOfNums [112 + (j : Int)] = fallCh j := by
  have e : (112 + (j : Int)).toNat = 112 + j := by omega
  unfold strOfNums fallCh ch1
  simp [e]
def fallNR : List (List FD) := [fallNC 97, fallNC 98, fallNC 99]
def fallOR : List (List FD) := [[S (ch1 111), I 0, S z0, I 0, B false]]
theorem fall_le' : FLe (.agg [.sl 10 fallNR, .sl 15 (encL 4 fallC), .sl 5 fallOR]) (snapF fallS) := by
  show FLe (.agg [.sl 10 [fallNC 97, fallNC 98, fallNC 99], .sl 15 [fallC 0, fallC 1, fallC 2, fallC 3], .sl 5 fallOR]) _
  refine FLe.agg (FLeL.cons (FLe.sl (FLeLL.cons ?_ (FLeLL.cons ?_ (FLeLL.cons ?_ (FLeLL.refl _))))) (FLeL.cons (FLe.sl (FLeLL.cons ?_ (FLeLL.cons ?_ (FLeLL.cons ?_ (FLeLL.cons ?_ (FLeLL.refl _)))))) (FLeL.refl _)))
  all_goals (repeat' (first | exact FLeL.refl [] | refine FLeL.cons ?_ ?_))
  all_goals first | exact FLe.refl _ | exact FLe.nil _
section
variable {nx : Nat} {K : D → (Nat → Option M) → Nat → Prop} {mem : Nat → Option M}
set_option maxRecDepth 100000 in
set_option maxHeartbeats 2000000 in
theorem live_S (s : SnapD) (ok : SnapOk s) (hk : ∀ s' A m' n', SnapOk s' → checkE s' = 0 → nx ≤ n' → Kept [] nx mem m' → StoreM m' A (startD s') → A.Ok n' → (∀ i ∈ A.ids, nx ≤ i) → K (.tup [.loc A.t 0, .f (snapF s')]) m' n') :
    callS Tryz.prog 27 [.f (snapF s)] mem nx K := by
  refine callS_up ?_
  refine callS.of_runG (lit := false) (B := fun n => if n = 1 then [1] else if n = 8 then [4] else if n = 12 then [1] else []) Tryz.func27 rfl rfl rfl rfl (Nat.le_of_ble_eq_true rfl) (runG_of_runGL ?_)
  refine runGL_on ?_
  simp -dsimp -implicitDefEqProofs [go_sem, snapF, snapC]
  refine runGL_on ?_
  simp -dsimp -implicitDefEqProofs [go_sem]
  refine new_S s ok (fun he n' hn' m' hm' => ?_) (fun he A m' n' hn' hkept hS hA hids => ?_)
  · have k0 : m' nx = some (.blk [.f (nodesF s.nodes), .f (podsF s.pods), .f (ownersF s.owners)]) := by
      rw [hm' nx (by omega) (by simp)]
      simp -dsimp -implicitDefEqProofs [upd]
    have k2 : m' (nx + 2) = some (.blk [.f nilV, .f nilV, .f nilV]) := by
      rw [hm' (nx + 2) (by omega) (by simp)]
      simp -dsimp -implicitDefEqProofs [upd]
    have he2 : (checkE s == 0) = false := by simpa using he
    simp -dsimp -implicitDefEqProofs [go_sem]
    refine runGL_on ?_
    simp -dsimp -implicitDefEqProofs [go_sem, he2]
    generalize hb : n' + 7 + 2 = b
    have a0 : ∀ k, ¬ nx = b + k := fun k => by omega
    have a1 : ∀ k, ¬ b + k = nx := fun k => by omega
    have a2 : ∀ k, ¬ nx + 2 = b + k := fun k => by omega
    have a3 : ∀ k, ¬ b + k = nx + 2 := fun k => by omega
    refine runGL_on ?_
    simp -dsimp -implicitDefEqProofs [go_sem, k0, a0, a1, a2, a3]
    refine runGL_frz nx [b + 3, b + 8 + 1, b + 5] ?_
    simp -dsimp -implicitDefEqProofs [go_sem]
    generalize hc : b + 8 + 1 = c
    have d0 : ¬ nx = c ∧ ¬ c = nx ∧ ¬ nx + 2 = c ∧ ¬ c = nx + 2 ∧ ¬ c = b + 3 ∧ ¬ c = b + 5 ∧ ¬ b + 3 = c ∧ ¬ b + 5 = c := by omega
    refine runCL_loop [.cell nx 1 81 15] (fun m st => ∃ j v : Nat, st.n = 56 ∧ st.lit = false ∧ j ≤ 4 ∧ m = 4 - j ∧ c + 1 ≤ st.next ∧ st.fr 1 = .loc nx 0 ∧ st.fr 3 = .loc (nx + 2) 0 ∧ st.fr 6 = .f (I j) ∧
      st.mem nx = some (.blk [.own (b + 3) 0, .own (c) v, .own (b + 5) 0]) ∧ st.mem (nx + 2) = some (.blk [.f nilV, .f nilV, .f nilV]) ∧ st.mem (b + 3) = some (.row 75 0 10 fallNR) ∧ st.mem (b + 5) = some (.row 100 0 5 fallOR) ∧
      st.mem (c) = some (.row 81 v 15 (encL j fallC)) ∧ Kept [] nx mem st.mem) 4 ⟨0, 0, ?_⟩ ?_
    · simp -dsimp -implicitDefEqProofs [go_sem, a0, a1, a2, a3, d0]
      refine ⟨k2, rfl, rfl, ?_⟩
      · intro id hid _
        have e1 : ∀ k, ¬ id = b + k := fun k => by omega
        have e2 : ¬ id = nx := by omega
        have e3 : ¬ id = nx + 2 := by omega
        have e4 : ¬ id = c := by omega
        simp -dsimp -implicitDefEqProofs [upd, e1, e2, e3, e4, hm' id (by omega) (by simp)]
    rintro m ⟨N, fr, mem2, nx2, lt⟩ ⟨j, v, hN, hlt, hj, rfl, hnx, f1, f3, f6, m0, m2, mN, mO, mP, hk2⟩
    dsimp only at *
    subst hN hlt
    rcases Nat.lt_or_ge j 4 with h4 | h4
    · have hj4 : (j : Int) < 4 := by omega
      have wA : IntKind.i64.wrap (112 + (j : Int)) = 112 + (j : Int) := w64 (by omega) (by omega)
      have wB : IntKind.u8.wrap (112 + (j : Int)) = 112 + (j : Int) := by
        rcases (by omega : j = 0 ∨ j = 1 ∨ j = 2 ∨ j = 3) with rfl | rfl | rfl | rfl <;> decide
      have wC : IntKind.i64.wrap ((j : Int) + 1) = (j : Int) + 1 := w64 (by omega) (by omega)
      have wD : IntKind.i64.wrap (2 * (j : Int)) = 2 * (j : Int) := w64 (by omega) (by omega)
      simp -dsimp -implicitDefEqProofs [go_sem, f1, f3, f6, hj4, wA, wB, wC, wD]
      refine convSL_mk (xs := [[.v (.int .u8 (112 + (j : Int)))]]) (ns := [112 + (j : Int)]) lay122 lay9 rfl rfl (by kernel_rfl) (by simp -dsimp -implicitDefEqProofs [go_sem]) rfl (by simp) ?_
      rw [str_fall h4]
      generalize he8 : nx2 + 2 + 13 = e
      have q1 : ∀ k, ¬ nx = e + k := fun k => by omega
      have q2 : ∀ k, ¬ c = e + k := fun k => by omega
      have q3 : ∀ k, ¬ b + 3 = e + k := fun k => by omega
      have q4 : ∀ k, ¬ b + 5 = e + k := fun k => by omega
      have q5 : ∀ k, ¬ nx + 2 = e + k := fun k => by omega
      have p2 : (∀ k l, ¬ nx = e + k + l) ∧ (∀ k l, ¬ c = e + k + l) ∧ (∀ k l m, ¬ nx = e + k + l + m) ∧ (∀ k l m, ¬ c = e + k + l + m) ∧ (∀ k l m o, ¬ nx = e + k + l + m + o) ∧ (∀ k l m o, ¬ c = e + k + l + m + o) ∧
        (∀ k l, ¬ e + 11 = e + 13 + k + l) ∧ (∀ k l m, ¬ e + 11 = e + 13 + k + l + m) := ⟨fun _ _ => by omega, fun _ _ => by omega, fun _ _ _ => by omega, fun _ _ _ => by omega, fun _ _ _ _ => by omega, fun _ _ _ _ => by omega, fun _ _ => by omega, fun _ _ _ => by omega⟩
      generalize hy : nx2 + 2 + 3 = y
      have y1 : ¬ nx = y ∧ ¬ c = y ∧ ¬ b + 3 = y ∧ ¬ b + 5 = y ∧ ¬ nx + 2 = y := by omega
      have y2 : ∀ k, ¬ e + k = y := fun k => by omega
      have ht : (j : Int).tmod 2 = ((j % 2 : Nat) : Int) := (Int.ofNat_tmod j 2).symm
      have wE : IntKind.i64.wrap ((j : Int).tmod 2) = (j : Int).tmod 2 := by rw [ht]; exact w64 (by omega) (by omega)
      rcases (by omega : j % 2 = 0 ∨ j % 2 = 1) with hp | hp
      · simp -dsimp -implicitDefEqProofs [go_sem, ibin, f1, f3, f6, hj4, wA, wB, wC, wD, wE, ht, hp, m0, mP, q1, q2, d0, y1, y2, p2]
        refine andL_mk (by omega) ?_
        simp -dsimp -implicitDefEqProofs [go_sem, ibin, f1, f3, f6, hj4, wA, wB, wC, wD, wE, ht, hp, m0, mP, q1, q2, d0, y1, y2, p2]
        have g3 : (∀ k l m, ¬ b + 3 = e + k + l + m) ∧ (∀ k l m o, ¬ b + 3 = e + k + l + m + o) ∧ (∀ k l m, ¬ b + 5 = e + k + l + m) ∧ (∀ k l m o, ¬ b + 5 = e + k + l + m + o) ∧ (∀ k l, ¬ b + 3 = e + k + l) ∧ (∀ k l, ¬ b + 5 = e + k + l) ∧ ¬ b + 3 = nx ∧ ¬ b + 5 = nx :=
          ⟨fun _ _ _ => by omega, fun _ _ _ _ => by omega, fun _ _ _ => by omega, fun _ _ _ _ => by omega, fun _ _ => by omega, fun _ _ => by omega, by omega, by omega⟩
        refine ⟨_, by omega, j + 1, by omega, rfl, by omega, by omega, m2, ?_, ?_, ?_, ?_⟩
        · have g4 : ∀ k, ¬ b = e + k := fun k => by omega
          simp -dsimp -implicitDefEqProofs [upd, y1, q3, q4, d0, g3, g4, mN]
        · have g4 : ∀ k, ¬ b = e + k := fun k => by omega
          simp -dsimp -implicitDefEqProofs [upd, y1, q3, q4, d0, g3, g4, mO]
        · simp -dsimp -implicitDefEqProofs [upd, encL_succ, fallC, hp]
          first | rfl | exact ⟨rfl, rfl⟩
        · intro id hid _
          have v1 : ¬ id = y ∧ ¬ id = c ∧ ¬ id = nx ∧ (∀ k, ¬ id = e + k) ∧ (∀ k l m, ¬ id = e + k + l + m) ∧ (∀ k l m o, ¬ id = e + k + l + m + o) ∧ (∀ k l, ¬ id = e + k + l) := ⟨by omega, by omega, by omega, fun _ => by omega, fun _ _ _ => by omega, fun _ _ _ _ => by omega, fun _ _ => by omega⟩
          simp -dsimp -implicitDefEqProofs [upd, v1, hk2 id hid (by simp)]
      · simp -dsimp -implicitDefEqProofs [go_sem, ibin, f1, f3, f6, hj4, wA, wB, wC, wD, wE, ht, hp, m0, mP, q1, q2, d0, y1, y2, p2]
        refine andL_mk (by omega) ?_
        simp -dsimp -implicitDefEqProofs [go_sem, ibin, f1, f3, f6, hj4, wA, wB, wC, wD, wE, ht, hp, m0, mP, q1, q2, d0, y1, y2, p2]
        have g3 : (∀ k l m, ¬ b + 3 = e + k + l + m) ∧ (∀ k l m o, ¬ b + 3 = e + k + l + m + o) ∧ (∀ k l m, ¬ b + 5 = e + k + l + m) ∧ (∀ k l m o, ¬ b + 5 = e + k + l + m + o) ∧ (∀ k l, ¬ b + 3 = e + k + l) ∧ (∀ k l, ¬ b + 5 = e + k + l) ∧ ¬ b + 3 = nx ∧ ¬ b + 5 = nx :=
          ⟨fun _ _ _ => by omega, fun _ _ _ _ => by omega, fun _ _ _ => by omega, fun _ _ _ _ => by omega, fun _ _ => by omega, fun _ _ => by omega, by omega, by omega⟩
        refine ⟨_, by omega, j + 1, by omega, rfl, by omega, by omega, m2, ?_, ?_, ?_, ?_⟩
        · have g4 : ∀ k, ¬ b = e + k := fun k => by omega
          simp -dsimp -implicitDefEqProofs [upd, y1, q3, q4, d0, g3, g4, mN]
        · have g4 : ∀ k, ¬ b = e + k := fun k => by omega
          simp -dsimp -implicitDefEqProofs [upd, y1, q3, q4, d0, g3, g4, mO]
        · simp -dsimp -implicitDefEqProofs [upd, encL_succ, fallC, hp]
          first | rfl | exact ⟨rfl, rfl⟩
        · intro id hid _
          have v1 : ¬ id = y ∧ ¬ id = c ∧ ¬ id = nx ∧ (∀ k, ¬ id = e + k) ∧ (∀ k l m, ¬ id = e + k + l + m) ∧ (∀ k l m o, ¬ id = e + k + l + m + o) ∧ (∀ k l, ¬ id = e + k + l) := ⟨by omega, by omega, by omega, fun _ => by omega, fun _ _ _ => by omega, fun _ _ _ _ => by omega, fun _ _ => by omega⟩
          simp -dsimp -implicitDefEqProofs [upd, v1, hk2 id hid (by simp)]
    · obtain rfl : j = 4 := by omega
      simp -dsimp -implicitDefEqProofs [go_sem, f1, f3, f6]
      refine runGL_on ?_
      simp -dsimp -implicitDefEqProofs [go_sem, f1, f3, f6, m0, m2, mN, mO, mP, a0, a1, a2, a3, d0]
      generalize hmF : (fun id => if id = b + 5 then none else _) = mF
      have z1 : ¬ c = b + 5 ∧ nx ≤ c := by omega
      have z2 : ¬ b + 3 = b + 5 ∧ nx ≤ b + 3 := by omega
      have z3 : nx ≤ nx + 2 ∧ nx ≤ b + 5 := by omega
      have F0 : mF nx = some (.blk [.f (.sl 10 fallNR), .f (.sl 15 (encL 4 fallC)), .f (.sl 5 fallOR)]) := by
        rw [← hmF]
        simp -dsimp -implicitDefEqProofs [go_sem, a0, d0, z1, z2, z3, m0, mN, mO, mP]
      have F2 : mF (nx + 2) = some (.blk [.f nilV, .f nilV, .f nilV]) := by
        rw [← hmF]
        simp -dsimp -implicitDefEqProofs [go_sem, a0, a2, d0, z1, z2, z3, m2]
      have FK : ∀ id, id < nx → mF id = mem2 id := fun id hid => by
        have e1 : ¬ id = b + 5 ∧ ¬ id = c ∧ ¬ id = b + 3 ∧ ¬ nx ≤ id := by omega
        rw [← hmF]
        simp -dsimp -implicitDefEqProofs [e1]
      refine callS_le (ds' := [.f (snapF fallS)]) (DLeL.cons fall_le' (DLeL.refl _)) ?_
      refine new_S fallS fallS_ok (fun h => absurd fallS_check h) (fun _ A m3 n3 hn3 hk3 hS3 hA3 hids3 => ?_)
      have G0 : m3 nx = some (.blk [.f (.sl 10 fallNR), .f (.sl 15 (encL 4 fallC)), .f (.sl 5 fallOR)]) := (hk3 nx (by omega) (by simp)).trans F0
      have G2 : m3 (nx + 2) = some (.blk [.f nilV, .f nilV, .f nilV]) := (hk3 (nx + 2) (by omega) (by simp)).trans F2
      simp -dsimp -implicitDefEqProofs [go_sem, f1, f3]
      generalize hb6 : n3 + 6 = b6
      have h0 : nx < b6 := by omega
      have h2 : nx + 2 < b6 := by omega
      refine runGL_end ?_
      simp -dsimp -implicitDefEqProofs [go_sem, f1, f3]
      refine runCL_draw [[], [], [0], [1, 2, 0]] rfl (by kernel_rfl) (by kernel_rfl) ?_
      simp -dsimp -implicitDefEqProofs [go_sem, Tv, Cw, silentAt, silentOp, f1, f3, G0, G2, h0, h2]
      refine exWL_mk (andL_mk ⟨Cw_lt (by omega) (by kernel_rfl), Tv_lt (by omega) (by kernel_rfl)⟩ ?_)
      simp -dsimp -implicitDefEqProofs [go_sem, Tv, Cw, silentAt, silentOp, f1, f3, G0, G2, h0, h2]
      refine ⟨_, DLeL.cons (DLe.refl _) (DLeL.cons (show DLe _ (.f (snapF fallS)) from fall_le') (DLeL.refl _)), hk fallS A _ _ fallS_ok fallS_check (by omega) (fun id hid _ => ?_) (hS3.other fun i hi => ?_) (hA3.le (by omega)) (fun i hi => by have := hids3 i hi; omega)⟩
      · have e1 : ¬ id = nx + 2 := by omega
        simp -dsimp -implicitDefEqProofs [upd, e1, hk3 id (by omega) (by simp), FK id hid]
        exact hk2 id hid (by simp)
      · have := hids3 i hi
        have e1 : ¬ i = nx + 2 := by omega
        simp -dsimp -implicitDefEqProofs [upd, e1]
  · have k0 : m' nx = some (.blk [.f (nodesF s.nodes), .f (podsF s.pods), .f (ownersF s.owners)]) := by
      rw [hkept nx (by omega) (by simp)]
      simp -dsimp -implicitDefEqProofs [upd]
    have k2 : m' (nx + 2) = some (.blk [.f nilV, .f nilV, .f nilV]) := by
      rw [hkept (nx + 2) (by omega) (by simp)]
      simp -dsimp -implicitDefEqProofs [upd]
    simp -dsimp -implicitDefEqProofs [go_sem]
    refine runGL_on ?_
    simp -dsimp -implicitDefEqProofs [go_sem]
    generalize hb : n' + 7 + 2 = b
    have h0 : nx < b := by omega
    have h2 : nx + 2 < b := by omega
    refine runCL_draw [[], [], [0], [1, 2, 0]] rfl (by kernel_rfl) (by kernel_rfl) ?_
    simp -dsimp -implicitDefEqProofs [go_sem, Tv, Cw, silentAt, silentOp, k0, k2, h0, h2]
    refine exWL_mk (andL_mk ⟨Cw_lt (by omega) (by kernel_rfl), Tv_lt (by omega) (by kernel_rfl)⟩ ?_)
    simp -dsimp -implicitDefEqProofs [go_sem, Tv, Cw, silentAt, silentOp, k0, k2, h0, h2]
    refine ⟨_, DLeL.refl _, hk s A _ _ ok he (by omega) (fun id hid _ => ?_) (hS.other fun i hi => ?_) (hA.le (by omega)) (fun i hi => by have := hids i hi; omega)⟩
    · have e1 : ¬ id = nx + 2 := by omega
      have e2 : ¬ id = nx := by omega
      simp -dsimp -implicitDefEqProofs [upd, e1, hkept id (by omega) (by simp), e2]
    · have := hids i hi
      have e1 : ¬ i = nx + 2 := by omega
      simp -dsimp -implicitDefEqProofs [upd, e1]
end
end Go.Proofs.YthpmgnbehahkfaaGreat
end
section
namespace Go.Proofs.YthpmgnbehahkfaaGreat
open Go.RowKit Go.Dk Go.Dn

def doC (x : DoD) : List FD := [I x.kind, I x.a, I x.b, B x.raw]
def dosF (l : Lst DoD) : FD := .sl 4 (encL l.n fun k => doC (l.el k))
theorem cellsD_dosF (l : Lst DoD) : cellsD (.f (dosF l)) = some [.f (dosF l)] := by rw [dosF]; rfl
theorem elems_dosF (mem : Nat → Option M) (l : Lst DoD) : elems mem 4 (.f (dosF l)) = some (encL l.n fun k => doC (l.el k)) := by simp [dosF, elems]
theorem lenD_dosF (mem : Nat → Option M) (l : Lst DoD) : lenD mem (.f (dosF l)) = some l.n := by simp [dosF, lenD, encL_len]
attribute [go_sem high] cellsD_dosF elems_dosF lenD_dosF
theorem doC_eq (x : DoD) : doC x = [I x.kind, I x.a, I x.b, B x.raw] := rfl
section
variable {mem : Nat → Option M} {A : SA} {d : StD} {nx : Nat} {K : D → (Nat → Option M) → Nat → Prop}
set_option maxRecDepth 100000 in
theorem does_S (h : StoreM mem A d) (hd : DInv d) (hA : A.Ok nx) (s : SnapD) (hs : s.nodes.n = d.s.nodes.n) (hp : s.pods.n = d.s.pods.n) (x : DoD)
    (hk : ∀ m' n', nx ≤ n' → StoreM m' A (doesD d x) → Kept A.ids nx mem m' → K (.tup []) m' n') : callS Tryz.prog 28 [.loc A.t 0, .f (snapF s), .f (.agg (doC x))] mem nx K := by
  have hn8 := hd.ok.s.n8
  have hp24 := hd.ok.s.p24
  have w1 : IntKind.i64.wrap ((d.s.pods.n : Int) + 1) = (d.s.pods.n : Int) + 1 := w64 (by omega) (by omega)
  have w2 : IntKind.i64.wrap ((d.s.nodes.n : Int) + 1) = (d.s.nodes.n : Int) + 1 := w64 (by omega) (by omega)
  have p1 := fun a => bring_pure a ((d.s.pods.n : Int) + 1) (by omega) (by omega)
  have p2 := fun a => bring_pure a ((d.s.nodes.n : Int) + 1) (by omega) (by omega)
  have r6 := bringV_range (a := x.kind) (n := 6) (by decide)
  refine callS.of_run (lit := true) (B := fun n => if n = 5 then [2] else if n = 8 then [3] else if n = 10 then [5] else if n = 12 then [2] else if n = 3 then [2] else []) Tryz.func28 rfl rfl rfl rfl (Nat.le_of_ble_eq_true rfl) (runC_of_runCL ?_)
  simp -dsimp -implicitDefEqProofs [go_sem, snapF, snapC, doC]
  refine runCL_draw [[], [0], [], [2], [3, 2], [4, 3, 2], [1, 0, 5, 4, 3, 2], [], [7], [], [9], [10, 9], [11, 10, 9], [8, 7, 12, 11, 10, 9, 6, 1, 0, 5, 4, 3, 2], [], [14], [], [16], [17, 16], [18, 17, 16], [15, 14, 19, 18, 17, 16, 13, 8, 7, 12, 11, 10, 9, 6, 1, 0, 5, 4, 3, 2], [6, 1, 0, 5, 4, 3, 2, 20, 15, 14, 19, 18, 17, 16, 13, 8, 7, 12, 11, 10, 9], [13, 8, 7, 12, 11, 10, 9, 6, 1, 0, 5, 4, 3, 2, 21, 20, 15, 14, 19, 18, 17, 16], [20, 15, 14, 19, 18, 17, 16, 13, 8, 7, 12, 11, 10, 9, 6, 1, 0, 5, 4, 3, 2, 22, 21]] rfl (by kernel_rfl) (by kernel_rfl) ?_
  simp -dsimp -implicitDefEqProofs [go_sem, Tv, Cw, silentAt, silentOp, nodesF, podsF, hs, hp, w1, w2]
  refine callW_f (p1 x.a) ?_
  simp -dsimp -implicitDefEqProofs [go_sem, Tv, Cw, silentAt, silentOp, nodesF, podsF, hs, hp, w1, w2]
  refine callW_f (p2 x.b) ?_
  simp -dsimp -implicitDefEqProofs [go_sem, Tv, Cw, silentAt, silentOp, nodesF, podsF, hs, hp, w1, w2]
  refine callW_f (p2 x.a) ?_
  simp -dsimp -implicitDefEqProofs [go_sem, Tv, Cw, silentAt, silentOp, nodesF, podsF, hs, hp, w1, w2]
  refine callW_f (bring_pure x.kind 6 (by decide) (by decide)) ?_
  have hle : ∀ k : Nat, A.Ok (nx + k) := fun k => hA.le (by omega)
  have hkp : ∀ {k : Nat} {m' : Nat → Option M}, Kept A.ids (nx + k) mem m' → Kept A.ids nx mem m' := fun h id hid hl => h id (by omega) hl
  unfold doesD at hk
  rcases (by omega : bringV x.kind 6 = 0 ∨ bringV x.kind 6 = 1 ∨ bringV x.kind 6 = 2 ∨ bringV x.kind 6 = 3 ∨ bringV x.kind 6 = 4 ∨ bringV x.kind 6 = 5) with e | e | e | e | e | e
  · simp -dsimp -implicitDefEqProofs [go_sem, e]
    simp only [e, if_true] at hk
    refine evict_S h hd.ok (hA.le (by omega)) _ fun m' n' hn' hm' hkept => ?_
    simp -dsimp -implicitDefEqProofs [go_sem]
    exact hk _ _ (by omega) hm' (fun id hid hl => hkept id (by omega) hl)
  · simp -dsimp -implicitDefEqProofs [go_sem, e]
    simp only [e] at hk
    refine bind_S h hd.ok (hA.le (by omega)) _ _ fun m' n' hn' hm' hkept => ?_
    simp -dsimp -implicitDefEqProofs [go_sem]
    exact hk _ _ (by omega) (by simpa using hm') (fun id hid hl => hkept id (by omega) hl)
  · simp -dsimp -implicitDefEqProofs [go_sem, e]
    simp only [e] at hk
    refine bind_S h hd.ok (hA.le (by omega)) _ _ fun m' n' hn' hm' hkept => ?_
    simp -dsimp -implicitDefEqProofs [go_sem]
    exact hk _ _ (by omega) (by simpa using hm') (fun id hid hl => hkept id (by omega) hl)
  · simp -dsimp -implicitDefEqProofs [go_sem, ibin, e]
    simp only [e] at hk
    refine cordon_S h (hA.le (by omega)) _ _ fun m' n' hn' hm' hkept => ?_
    simp -dsimp -implicitDefEqProofs [go_sem]
    exact hk _ _ (by omega) (by simpa using hm') (fun id hid hl => hkept id (by omega) hl)
  · simp -dsimp -implicitDefEqProofs [go_sem, e]
    simp only [e] at hk
    refine lose_S h hd.ok (hA.le (by omega)) _ fun m' n' hn' hm' hkept => ?_
    simp -dsimp -implicitDefEqProofs [go_sem]
    exact hk _ _ (by omega) (by simpa using hm') (fun id hid hl => hkept id (by omega) hl)
  · simp -dsimp -implicitDefEqProofs [go_sem, e]
    simp only [e] at hk
    refine gone_S h hd.ok (hA.le (by omega)) _ fun m' n' hn' hm' hkept => ?_
    simp -dsimp -implicitDefEqProofs [go_sem]
    exact hk _ _ (by omega) (by simpa using hm') (fun id hid hl => hkept id (by omega) hl)
end
end Go.Proofs.YthpmgnbehahkfaaGreat
end
section
namespace Go.Proofs.YthpmgnbehahkfaaGreat
open Go.RowKit Go.Dk Go.Dn

def k0 : StD := startD wkS
def k1 : StD := evictD k0 0
def k2 : StD := evictD k1 0
def k3 : StD := bindD k2 0 1
def k4 : StD := loseD k3 1
def k5 : StD := bindD k4 0 1
def k6 : StD := goneD k5 1
def k7 : StD := bindD k6 1 0
theorem ok0 : DOk k0 := startD_ok wkS_check
theorem ok1 : DOk k1 := evictD_ok ok0 _
theorem ok2 : DOk k2 := evictD_ok ok1 _
theorem ok3 : DOk k3 := bindD_ok ok2 _ _
theorem ok4 : DOk k4 := loseD_ok ok3 _
theorem ok5 : DOk k5 := bindD_ok ok4 _ _
theorem ok6 : DOk k6 := goneD_ok ok5 _
theorem ok7 : DOk k7 := bindD_ok ok6 _ _
theorem r0 : evictR k0 0 = 0 := by decide +kernel
theorem r1 : evictR k1 0 = 110 := by decide +kernel
theorem r2 : bindR k2 0 1 = 0 := by decide +kernel
theorem r3 : cordonR k3 1 = 0 := by decide +kernel
theorem r4 : bindR k4 0 1 = 110 := by decide +kernel
theorem r5 : goneR k5 1 = 0 := by decide +kernel
theorem r6 : bindR k6 1 0 = 110 := by decide +kernel
theorem r7 : evictR k7 2 = 9 := by decide +kernel
theorem u0 : usedR k3 1 0 = 10 := by decide +kernel
theorem u1 : usedR k3 1 1 = 0 := by decide +kernel
theorem u2 : usedR k3 1 2 = 0 := by decide +kernel
theorem u3 : usedR k3 1 3 = 0 := by decide +kernel
theorem u4 : usedR k3 1 4 = 0 := by decide +kernel
theorem u_five : fiveF (usedR k3 1) = .agg [I 10, I 0, I 0, I 0, I 0] := by unfold fiveF; rw [u0, u1, u2, u3, u4]
theorem p4 : (encL k4.s.pods.n fun k => [I (k4.on k)]) = [[I (-1)], [I (-1)]] := by
  have h0 : k4.on 0 = -1 := by decide +kernel
  have h1 : k4.on 1 = -1 := by decide +kernel
  have hn : k4.s.pods.n = 2 := by decide +kernel
  rw [hn]
  show [[I (k4.on 0)], [I (k4.on 1)]] = _
  rw [h0, h1]
theorem eq_minus : Pure Tryz.prog 16 [.sl 1 [[I (-1)], [I (-1)]], .sl 1 [[I (-1)], [I (-1)]]] (B true) := eqInts_row 2 (fun _ => -1) (by decide)
set_option maxRecDepth 100000 in
set_option maxHeartbeats 2000000 in
theorem storeWorks_pure : Pure Tryz.prog 36 [] (B true) := by
  refine Pure.of_runG (lit := true) (fun n => if n = 2 then [9] else if n = 5 then [1, 5, 11, 16, 21, 26] else []) Tryz.func36 rfl rfl rfl rfl (Nat.le_of_ble_eq_true rfl) (runG_of_runGL ?_)
  unfold St.enter
  refine runGL_on ?_
  simp -dsimp -implicitDefEqProofs [go_sem]
  refine runGL_on ?_
  simp -dsimp -implicitDefEqProofs [go_sem]
  refine runGL_on ?_
  simp -dsimp -implicitDefEqProofs [go_sem]
  refine callS_le (ds' := [.f (snapF wkS)]) (DLeL.cons wk_le (DLeL.refl _)) ?_
  refine new_S wkS wkS_ok (fun he => absurd wkS_check he) (fun _ A m' n' hn' hkept hS hA hids => ?_)
  have hS : StoreM m' A k0 := hS
  have c1 : m' 2 = some (.blk [.f (I 10), .f (I 0), .f (I 0), .f (I 0), .f (I 0)]) := by
    rw [hkept 2 (by omega) (by simp)]
    simp -dsimp -implicitDefEqProofs [upd]
  have hi1 : 2 ∉ A.ids := fun h => by have := hids 2 h; omega
  simp -dsimp -implicitDefEqProofs [go_sem]
  refine runGL_gcut (fun s => s.n = 74 ∧ s.lit = true ∧ s.fr 2 = .loc A.t 0 ∧ StoreM s.mem A k3 ∧ A.Ok s.next) (runGL_sub ?_) ?_
  · refine runGL_tree (.one 0 (.one 1 (.one 2 (.one 3 (.one 4 (.one 5 (.one 6 (.one 7 (.one 8 (.one 9 (.one 10 (.one 11 (.one 12 (.one 13 (.one 14 (.one 15 (.one 16 (.one 17 (.one 18 (.one 19 (.one 20 (.one 21 (.two 22 (.two 23 (.one 24 (.one 25 (.one 26 .done))) 24 (.one 23 (.one 25 (.one 26 .done)))) 24 (.one 22 (.one 23 (.one 25 (.one 26 .done))))))))))))))))))))))))))) [8, 13, 18, 23] (by kernel_rfl) (by kernel_rfl) ?_
    simp -dsimp -implicitDefEqProofs [go_sem]
    refine evict_S hS ok0 (hA.le (by omega)) 0 fun m1 n1 hn1 hS1 hk1 => ?_
    have hS1 : StoreM m1 A k1 := hS1
    have c2 : m1 2 = some (.blk [.f (I 10), .f (I 0), .f (I 0), .f (I 0), .f (I 0)]) := by rw [hk1 2 (by omega) hi1, c1]
    simp -dsimp -implicitDefEqProofs [go_sem, r0]
    refine evict_S hS1 ok1 (hA.le (by omega)) 0 fun m2 n2 hn2 hS2 hk2 => ?_
    have hS2 : StoreM m2 A k2 := hS2
    have c3 : m2 2 = some (.blk [.f (I 10), .f (I 0), .f (I 0), .f (I 0), .f (I 0)]) := by rw [hk2 2 (by omega) hi1, c2]
    simp -dsimp -implicitDefEqProofs [go_sem, r1]
    refine bind_S hS2 ok2 (hA.le (by omega)) 0 1 fun m3 n3 hn3 hS3 hk3 => ?_
    have hS3 : StoreM m3 A k3 := hS3
    have c4 : m3 2 = some (.blk [.f (I 10), .f (I 0), .f (I 0), .f (I 0), .f (I 0)]) := by rw [hk3 2 (by omega) hi1, c3]
    simp -dsimp -implicitDefEqProofs [go_sem, r2]
    refine tailTL_two ?_ ?_
    · simp -dsimp -implicitDefEqProofs [go_sem, c4]
      refine tailTL_two ?_ ?_
      · simp -dsimp -implicitDefEqProofs [go_sem, c4]
        refine used_S hS3 ok3 (hA.le (by omega)) 1 fun m4 n4 hn4 hk4 => ?_
        have hS4 : StoreM m4 A k3 := hS3.same (hA.le (by omega)) hk4
        have c5 : m4 2 = some (.blk [.f (I 10), .f (I 0), .f (I 0), .f (I 0), .f (I 0)]) := by rw [hk4 2 (by omega) (by simp), c4]
        rw [u_five]
        simp -dsimp -implicitDefEqProofs [go_sem, c4, c5]
        exact ⟨hS4, hA.le (by omega)⟩
      · simp -dsimp -implicitDefEqProofs [go_sem, c4]
        refine used_S hS3 ok3 (hA.le (by omega)) 1 fun m4 n4 hn4 hk4 => ?_
        have hS4 : StoreM m4 A k3 := hS3.same (hA.le (by omega)) hk4
        have c5 : m4 2 = some (.blk [.f (I 10), .f (I 0), .f (I 0), .f (I 0), .f (I 0)]) := by rw [hk4 2 (by omega) (by simp), c4]
        rw [u_five]
        simp -dsimp -implicitDefEqProofs [go_sem, c4, c5]
        exact ⟨hS4, hA.le (by omega)⟩
    · simp -dsimp -implicitDefEqProofs [go_sem, c4]
      refine used_S hS3 ok3 (hA.le (by omega)) 1 fun m4 n4 hn4 hk4 => ?_
      have hS4 : StoreM m4 A k3 := hS3.same (hA.le (by omega)) hk4
      have c5 : m4 2 = some (.blk [.f (I 10), .f (I 0), .f (I 0), .f (I 0), .f (I 0)]) := by rw [hk4 2 (by omega) (by simp), c4]
      rw [u_five]
      simp -dsimp -implicitDefEqProofs [go_sem, c4, c5]
      exact ⟨hS4, hA.le (by omega)⟩
  rintro ⟨N, fr, mem, nx, lt⟩ ⟨hN, hlt, f2, hS3, hA⟩
  dsimp only at *
  subst hN hlt
  refine runGL_end ?_
  simp -dsimp -implicitDefEqProofs [go_sem, f2]
  refine lose_S hS3 ok3 (hA.le (by omega)) 1 fun m4 n4 hn4 hS4 _ => ?_
  have hS4 : StoreM m4 A k4 := hS4
  simp -dsimp -implicitDefEqProofs [go_sem, r3, f2]
  refine placement_S hS4 ok4 (hA.le (by omega)) fun g m5 n5 hg hgn hk5 hrow => ?_
  have hS5 : StoreM m5 A k4 := hS4.same (hA.le (by omega)) hk5
  rw [p4] at hrow
  simp -dsimp -implicitDefEqProofs [go_sem, f2]
  refine callW_z (fs := [.sl 1 [[I (-1)], [I (-1)]], .sl 1 [[I (-1)], [I (-1)]]]) (by simp -dsimp -implicitDefEqProofs [omap, frz, hrow]) eq_minus rfl ?_
  simp -dsimp -implicitDefEqProofs [go_sem, f2]
  refine bind_S hS5 ok4 (hA.le (by omega)) 0 1 fun m6 n6 hn6 hS6 _ => ?_
  have hS6 : StoreM m6 A k5 := hS6
  simp -dsimp -implicitDefEqProofs [go_sem, r4, f2]
  refine gone_S hS6 ok5 (hA.le (by omega)) 1 fun m7 n7 hn7 hS7 _ => ?_
  have hS7 : StoreM m7 A k6 := hS7
  simp -dsimp -implicitDefEqProofs [go_sem, r5, f2]
  refine bind_S hS7 ok6 (hA.le (by omega)) 1 0 fun m8 n8 hn8 hS8 _ => ?_
  have hS8 : StoreM m8 A k7 := hS8
  simp -dsimp -implicitDefEqProofs [go_sem, r6, f2]
  refine evict_S hS8 ok7 (hA.le (by omega)) 2 fun m9 n9 hn9 hS9 _ => ?_
  simp -dsimp -implicitDefEqProofs [go_sem, r7, f2]
end Go.Proofs.YthpmgnbehahkfaaGreat
end
