/- snap.Check's parts (printed by genw.py). -/
import Derived.Test.YthpmgnbehahkfaaGreatJZv
import Derived.Test.YthpmgnbehahkfaaGreatJQh
import Derived.Test.YthpmgnbehahkfaaGreatJQf
import Derived.Test.YthpmgnbehahkfaaGreatJYa
set_option linter.unusedSimpArgs false
set_option linter.unusedVariables false
namespace Go.Proofs.YthpmgnbehahkfaaGreat
open Go.RowKit Go.Dk

theorem many_any {w : World} {n p o : Value} {s : SnapD} {lv tv : Nat → Value} {pv : Nat → PodV} (h : SnapAt w n p o s lv tv pv) :
    Gives 123 #[.agg #[n, p, o]] w (.bool (manyB s)) := by
  obtain ⟨na, nc, pa, pc, oa, oc, rfl, rfl, rfl⟩ := h.args
  have i1 : decide (8 < s.nodes.n) = decide ((8 : Int) < (s.nodes.n : Int)) := decide_eq_decide.2 (by omega)
  have i2 : decide (24 < s.pods.n) = decide ((24 : Int) < (s.pods.n : Int)) := decide_eq_decide.2 (by omega)
  have i3 : decide (8 < s.owners.n) = decide ((8 : Int) < (s.owners.n : Int)) := decide_eq_decide.2 (by omega)
  unfold Gives manyB
  rw [i1, i2, i3]
  clear h i1 i2 i3
  go_enter Tryz.func123, Tryz.ntmps123
  go_wp2
  all_goals (go_ret; exact ⟨by simp_all, (Chg.refl No w).alloc _⟩)

theorem contNodes_any {w : World} {v : Value} {l : Lst NodeD} {lv tv : Nat → Value} (h : NodesAt w v l lv tv) (g : Nat) (cap : Array Value) (eg : Enters Tryz.prog g) (p : Nat → Bool)
    (hp : ∀ k, k < l.n → ∀ w', Chg No w w' → Gives g (#[.agg ((l.el k).cells (lv k) (tv k)).toArray] ++ cap) w' (.bool (p k))) :
    Gives 128 #[v, .func (.func g) #[] cap] w (.bool (anyB p l.n)) := by
  obtain ⟨hn, a, c, rfl, hx, hat⟩ := h
  refine contNode_any g cap eg p a l.n c _ w hx.rd (by omega) (fun k hk x0 x1 x2 x3 x4 x5 x6 x7 x8 x9 h0 h1 h2 h3 h4 h5 h6 h7 h8 h9 w' hc => ?_)
  have hg := fun j u hu => flat_get (fun k => (l.el k).cells (lv k) (tv k)) l.n 10 (fun _ _ => rfl) k j u hk hu
  have e0 := Option.some.inj (h0.symm.trans (hg 0 _ rfl))
  have e1 := Option.some.inj (h1.symm.trans (hg 1 _ rfl))
  have e2 := Option.some.inj (h2.symm.trans (hg 2 _ rfl))
  have e3 := Option.some.inj (h3.symm.trans (hg 3 _ rfl))
  have e4 := Option.some.inj (h4.symm.trans (hg 4 _ rfl))
  have e5 := Option.some.inj (h5.symm.trans (hg 5 _ rfl))
  have e6 := Option.some.inj (h6.symm.trans (hg 6 _ rfl))
  have e7 := Option.some.inj (h7.symm.trans (hg 7 _ rfl))
  have e8 := Option.some.inj (h8.symm.trans (hg 8 _ rfl))
  have e9 := Option.some.inj (h9.symm.trans (hg 9 _ rfl))
  subst e0 e1 e2 e3 e4 e5 e6 e7 e8 e9
  exact hp k hk w' hc

theorem contPods_any {w : World} {v : Value} {l : Lst PodD} {pv : Nat → PodV} (h : PodsAt w v l pv) (g : Nat) (cap : Array Value) (eg : Enters Tryz.prog g) (p : Nat → Bool)
    (hp : ∀ k, k < l.n → ∀ w', Chg No w w' → Gives g (#[.agg ((l.el k).cells (pv k)).toArray] ++ cap) w' (.bool (p k))) :
    Gives 134 #[v, .func (.func g) #[] cap] w (.bool (anyB p l.n)) := by
  obtain ⟨hn, a, c, rfl, hx, hat⟩ := h
  refine contPod_any g cap eg p a l.n c _ w hx.rd (by omega) (fun k hk x0 x1 x2 x3 x4 x5 x6 x7 x8 x9 x10 x11 x12 x13 x14 h0 h1 h2 h3 h4 h5 h6 h7 h8 h9 h10 h11 h12 h13 h14 w' hc => ?_)
  have hg := fun j u hu => flat_get (fun k => (l.el k).cells (pv k)) l.n 15 (fun _ _ => rfl) k j u hk hu
  have e0 := Option.some.inj (h0.symm.trans (hg 0 _ rfl))
  have e1 := Option.some.inj (h1.symm.trans (hg 1 _ rfl))
  have e2 := Option.some.inj (h2.symm.trans (hg 2 _ rfl))
  have e3 := Option.some.inj (h3.symm.trans (hg 3 _ rfl))
  have e4 := Option.some.inj (h4.symm.trans (hg 4 _ rfl))
  have e5 := Option.some.inj (h5.symm.trans (hg 5 _ rfl))
  have e6 := Option.some.inj (h6.symm.trans (hg 6 _ rfl))
  have e7 := Option.some.inj (h7.symm.trans (hg 7 _ rfl))
  have e8 := Option.some.inj (h8.symm.trans (hg 8 _ rfl))
  have e9 := Option.some.inj (h9.symm.trans (hg 9 _ rfl))
  have e10 := Option.some.inj (h10.symm.trans (hg 10 _ rfl))
  have e11 := Option.some.inj (h11.symm.trans (hg 11 _ rfl))
  have e12 := Option.some.inj (h12.symm.trans (hg 12 _ rfl))
  have e13 := Option.some.inj (h13.symm.trans (hg 13 _ rfl))
  have e14 := Option.some.inj (h14.symm.trans (hg 14 _ rfl))
  subst e0 e1 e2 e3 e4 e5 e6 e7 e8 e9 e10 e11 e12 e13 e14
  exact hp k hk w' hc

theorem contOwners_any {w : World} {v : Value} {l : Lst OwnerD} (h : OwnersAt w v l) (g : Nat) (cap : Array Value) (eg : Enters Tryz.prog g) (p : Nat → Bool)
    (hp : ∀ k, k < l.n → ∀ w', Chg No w w' → Gives g (#[.agg ((l.el k).cells).toArray] ++ cap) w' (.bool (p k))) :
    Gives 131 #[v, .func (.func g) #[] cap] w (.bool (anyB p l.n)) := by
  obtain ⟨hn, a, c, rfl, hx, hat⟩ := h
  refine contOwner_any g cap eg p a l.n c _ w hx.rd (by omega) (fun k hk x0 x1 x2 x3 x4 h0 h1 h2 h3 h4 w' hc => ?_)
  have hg := fun j u hu => flat_get (fun k => (l.el k).cells) l.n 5 (fun _ _ => rfl) k j u hk hu
  have e0 := Option.some.inj (h0.symm.trans (hg 0 _ rfl))
  have e1 := Option.some.inj (h1.symm.trans (hg 1 _ rfl))
  have e2 := Option.some.inj (h2.symm.trans (hg 2 _ rfl))
  have e3 := Option.some.inj (h3.symm.trans (hg 3 _ rfl))
  have e4 := Option.some.inj (h4.symm.trans (hg 4 _ rfl))
  subst e0 e1 e2 e3 e4
  exact hp k hk w' hc

theorem check1_any {w : World} {x : NodeD} {lv tv : Value} (h : NodeAt w x lv tv) : Gives 129 #[.agg (x.cells lv tv).toArray] w (.bool (!nodeB x)) := by
  have p1 := fun W (hc : Chg No w W) => node_any (h.no hc)
  obtain ⟨-, ⟨_, _, rfl, -⟩, ⟨_, _, rfl, -⟩⟩ := h
  unfold Gives NodeD.cells at *
  generalize nodeB x = b at *
  go_enter Tryz.func129, Tryz.ntmps129
  go_wp2_with (go_at_call 130; refine (p1 _ ((Chg.refl No w).alloc _)).mono ?_; rintro e w' ⟨rfl, hc⟩)
  go_ret
  exact ⟨rfl, ((Chg.refl No w).alloc _).trans hc⟩
theorem enters_check1 : Enters Tryz.prog 129 := enters_of Tryz.func129 (by kernel_rfl) rfl

theorem check2_any {w : World} {x : OwnerD} (h : OwnerAt x) : Gives 132 #[.agg (x.cells).toArray] w (.bool (!ownerB x)) := by
  have p1 := fun W (hc : Chg No w W) => owner_any (w := W) h
  unfold Gives OwnerD.cells at *
  generalize ownerB x = b at *
  go_enter Tryz.func132, Tryz.ntmps132
  go_wp2_with (go_at_call 133; refine (p1 _ ((Chg.refl No w).alloc _)).mono ?_; rintro e w' ⟨rfl, hc⟩)
  go_ret
  exact ⟨rfl, ((Chg.refl No w).alloc _).trans hc⟩
theorem enters_check2 : Enters Tryz.prog 132 := enters_of Tryz.func132 (by kernel_rfl) rfl

theorem check3_any {w : World} {n p o : Value} {s : SnapD} {lv tv : Nat → Value} {pv : Nat → PodV} (h : SnapAt w n p o s lv tv pv) {x : PodD} {v : PodV} (hp : PodAt w x v) (B : Nat) (hB : w.heap[B]? = some (.cells #[n, p, o] 26 (0, 0))) :
    Gives 135 #[.agg (x.cells v).toArray, .pointer (some ⟨B, 0, none⟩)] w (.bool (!podB s x)) := by
  have p1 := fun W (hc : Chg No w W) => pod_any (h.no hc) (hp.no hc)
  obtain ⟨na, nc, pa, pc, oa, oc, rfl, rfl, rfl⟩ := h.args
  obtain ⟨v1, v2, v3, v4, v5⟩ := v
  obtain ⟨-, ⟨_, _, h1, -⟩, ⟨_, _, h2, -⟩, ⟨_, _, h3, -⟩, ⟨_, _, h4, -⟩, ⟨_, _, h5, -⟩⟩ := hp
  dsimp only at h1 h2 h3 h4 h5
  subst h1 h2 h3 h4 h5
  have c0 := fun o => cell_alloc_of (cell_of_heap (j := 0) hB rfl) o
  have c1 := fun o => cell_alloc_of (cell_of_heap (j := 1) hB rfl) o
  have c2 := fun o => cell_alloc_of (cell_of_heap (j := 2) hB rfl) o
  unfold Gives PodD.cells at *
  generalize podB s x = b at *
  dsimp only at p1
  clear h
  go_enter Tryz.func135, Tryz.ntmps135
  go_wp2_with (go_at_call 136; refine (p1 _ ((Chg.refl No w).alloc _)).mono ?_; rintro e w' ⟨rfl, hc⟩)
  go_ret
  exact ⟨rfl, ((Chg.refl No w).alloc _).trans hc⟩
theorem enters_check3 : Enters Tryz.prog 135 := enters_of Tryz.func135 (by kernel_rfl) rfl
end Go.Proofs.YthpmgnbehahkfaaGreat
