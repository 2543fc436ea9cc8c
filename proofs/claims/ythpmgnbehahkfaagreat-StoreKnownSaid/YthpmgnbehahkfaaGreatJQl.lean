/- A store, where it lies; its small methods. -/
/- A store's small methods: none, in, state, pod, node; put, take. -/
/- A store's take. -/
/- What a store's numbers are of; that they stay so. -/
/- A store's methods. -/
/- A store's methods, II: Cordon, Gone, IsGone, Used, Count, Placement. -/
/- A store's methods, III: Lose. -/
import Derived.Test.YthpmgnbehahkfaaGreatJQk
set_option linter.unusedSimpArgs false
set_option linter.unusedVariables false
section
namespace Go.Proofs.YthpmgnbehahkfaaGreat
open Go.RowKit Go.Dk Go.Dn

/-- where a store lies: the store; its nodes, pods, owners; on, gone, owner -/
structure SA where
  t : Nat
  gn : Nat
  vn : Nat
  gp : Nat
  vp : Nat
  gq : Nat
  vq : Nat
  go : Nat
  vo : Nat
  gg : Nat
  vg : Nat
  gw : Nat
  vw : Nat
/-- what it says -/
structure StD where
  s : SnapD
  on : Nat → Int
  gone : Nat → Bool
  used : Nat → Nat → Int
  cnt : Nat → Int
  own : Nat → Int
  wn : Nat
def cellSt (A : SA) (d : StD) (k : Nat) : D :=
  if k = 0 then .own A.gn A.vn else if k = 1 then .own A.gp A.vp else if k = 2 then .own A.gq A.vq else if k = 3 then .own A.go A.vo else if k = 4 then .own A.gg A.vg
  else if k < 45 then .f (I (d.used ((k - 5) / 5) ((k - 5) % 5))) else if k < 53 then .f (I (d.cnt (k - 45))) else if k = 53 then .own A.gw A.vw else .f (B true)
def stC (A : SA) (d : StD) : List D := (List.range 55).map (cellSt A d)
theorem map_drop_take {α : Type} (f : Nat → α) (n o m : Nat) (h : o + m ≤ n) : (((List.range n).map f).drop o).take m = (List.range m).map fun j => f (o + j) := by
  apply List.ext_getElem?
  intro j
  by_cases hj : j < m
  · rw [List.getElem?_take, if_pos hj, List.getElem?_drop, List.getElem?_map, List.getElem?_range (by omega), List.getElem?_map, List.getElem?_range hj]
    rfl
  · rw [List.getElem?_take, if_neg hj, List.getElem?_map, List.getElem?_eq_none (by simp; omega)]
    rfl
theorem map_set {α : Type} (f g : Nat → α) (n o : Nat) (x : α) (h : o < n) (hx : g o = x) (hg : ∀ j, j < n → j ≠ o → g j = f j) : ((List.range n).map f).set o x = (List.range n).map g := by
  apply List.ext_getElem?
  intro j
  by_cases hj : j < n
  · by_cases e : j = o
    · subst e
      rw [List.getElem?_set_self (by simpa using h), List.getElem?_map, List.getElem?_range hj, ← hx]
      rfl
    · rw [List.getElem?_set_ne (Ne.symm e), List.getElem?_map, List.getElem?_range hj, List.getElem?_map, List.getElem?_range hj]
      simp [hg j hj e]
  · rw [List.getElem?_eq_none (by simp; omega), List.getElem?_eq_none (by simp; omega)]
theorem stC_len (A : SA) (d : StD) : (stC A d).length = 55 := by simp [stC]
theorem stC_get (A : SA) (d : StD) (k : Nat) (h : (k < 55) = True) : (stC A d)[k]? = some (cellSt A d k) := by
  have h : k < 55 := by simpa using h
  rw [stC, List.getElem?_map, List.getElem?_range h]
  rfl
theorem stC_at (A : SA) (d : StD) (k : Nat) (h : k < (stC A d).length) : (stC A d)[k] = cellSt A d k := by simp [stC]
theorem cellSt0 (A : SA) (d : StD) : cellSt A d 0 = .own A.gn A.vn := rfl
theorem cellSt1 (A : SA) (d : StD) : cellSt A d 1 = .own A.gp A.vp := rfl
theorem cellSt2 (A : SA) (d : StD) : cellSt A d 2 = .own A.gq A.vq := rfl
theorem cellSt3 (A : SA) (d : StD) : cellSt A d 3 = .own A.go A.vo := rfl
theorem cellSt4 (A : SA) (d : StD) : cellSt A d 4 = .own A.gg A.vg := rfl
theorem cellSt53 (A : SA) (d : StD) : cellSt A d 53 = .own A.gw A.vw := rfl
theorem cellSt54 (A : SA) (d : StD) : cellSt A d 54 = .f (B true) := rfl
theorem cellStU (A : SA) (d : StD) {n i : Nat} (hn : n < 8) (hi : i < 5) : cellSt A d (5 + n * 5 + i) = .f (I (d.used n i)) := by
  unfold cellSt
  rw [if_neg (by omega), if_neg (by omega), if_neg (by omega), if_neg (by omega), if_neg (by omega), if_pos (by omega)]
  have e1 : (5 + n * 5 + i - 5) / 5 = n := by omega
  have e2 : (5 + n * 5 + i - 5) % 5 = i := by omega
  rw [e1, e2]
theorem cellStC (A : SA) (d : StD) {o : Nat} (ho : o < 8) : cellSt A d (45 + o) = .f (I (d.cnt o)) := by
  unfold cellSt
  rw [if_neg (by omega), if_neg (by omega), if_neg (by omega), if_neg (by omega), if_neg (by omega), if_neg (by omega), if_pos (by omega)]
  have e1 : 45 + o - 45 = o := by omega
  rw [e1]
theorem stC_used (A : SA) (d : StD) {n : Nat} (hn : n < 8) : ((stC A d).drop (5 + n * 5)).take 5 = [.f (I (d.used n 0)), .f (I (d.used n 1)), .f (I (d.used n 2)), .f (I (d.used n 3)), .f (I (d.used n 4))] := by
  rw [stC, map_drop_take _ _ _ _ (by omega)]
  have h := fun i hi => cellStU A d hn (i := i) hi
  show [cellSt A d (5 + n * 5 + 0), cellSt A d (5 + n * 5 + 1), cellSt A d (5 + n * 5 + 2), cellSt A d (5 + n * 5 + 3), cellSt A d (5 + n * 5 + 4)] = _
  rw [h 0 (by omega), h 1 (by omega), h 2 (by omega), h 3 (by omega), h 4 (by omega)]
theorem stC_cnt (A : SA) (d : StD) {o : Nat} (ho : o < 8) : (stC A d)[45 + o]? = some (.f (I (d.cnt o))) := by rw [stC_get _ _ _ (by simp; omega), cellStC A d ho]
def setU (u : Nat → Nat → Int) (n : Nat) (v : Nat → Int) : Nat → Nat → Int := fun m => if m = n then v else u m
def setC (u : Nat → Int) (o : Nat) (x : Int) : Nat → Int := fun m => if m = o then x else u m
theorem stC_setC (A : SA) (d : StD) {o : Nat} (ho : o < 8) (x : Int) : (stC A d).set (45 + o) (.f (I x)) = stC A { d with cnt := setC d.cnt o x } := by
  refine map_set _ _ _ _ _ (by omega) ?_ ?_
  · rw [cellStC _ _ ho]
    simp [setC]
  · intro j hj hne
    unfold cellSt
    simp only
    repeat' split
    all_goals first | rfl | (simp only [setC]; rw [if_neg (by omega)])
theorem stC_own (A : SA) (d : StD) (v : Nat) : (stC A d).set 53 (.own A.gw v) = stC { A with vw := v } d := by
  refine map_set _ _ _ _ _ (by omega) rfl ?_
  intro j hj hne
  unfold cellSt
  simp only
  repeat' split
  all_goals first | rfl | omega
theorem stC_congr (A : SA) {d e : StD} (hu : d.used = e.used) (hc : d.cnt = e.cnt) : stC A d = stC A e := by
  unfold stC cellSt
  rw [hu, hc]
theorem map_five {α : Type} (f g : Nat → α) (n o : Nat) (a b c d e : α) (h : o + 5 ≤ n) (h0 : g o = a) (h1 : g (o + 1) = b) (h2 : g (o + 2) = c) (h3 : g (o + 3) = d) (h4 : g (o + 4) = e) (hg : ∀ j, j < n → (j < o ∨ o + 5 ≤ j) → g j = f j) :
    ((List.range n).map f).take o ++ a :: b :: c :: d :: e :: ((List.range n).map f).drop (o + 5) = (List.range n).map g := by
  apply List.ext_getElem?
  intro j
  have hl : (((List.range n).map f).take o).length = o := by simp; omega
  by_cases hj : j < n
  · rw [List.getElem?_map, List.getElem?_range hj]
    by_cases h5 : j < o
    · rw [List.getElem?_append_left (by omega), List.getElem?_take, if_pos h5, List.getElem?_map, List.getElem?_range hj]
      simp [hg j hj (.inl h5)]
    · rw [List.getElem?_append_right (by omega), hl]
      by_cases h6 : o + 5 ≤ j
      · obtain ⟨m, rfl⟩ : ∃ m, j = o + 5 + m := ⟨j - (o + 5), by omega⟩
        have e1 : o + 5 + m - o = m + 5 := by omega
        rw [e1]
        simp only [List.getElem?_cons_succ]
        rw [List.getElem?_drop, List.getElem?_map, List.getElem?_range hj]
        simp [hg _ hj (.inr h6)]
      · rcases (by omega : j = o ∨ j = o + 1 ∨ j = o + 2 ∨ j = o + 3 ∨ j = o + 4) with rfl | rfl | rfl | rfl | rfl
        · simp [h0]
        · simp [h1]
        · simp [h2]
        · simp [h3]
        · simp [h4]
  · rw [List.getElem?_eq_none (by simp; omega), List.getElem?_eq_none (by simp; omega)]
theorem stC_setU (A : SA) (d : StD) {n : Nat} (hn : n < 8) (v : Nat → Int) : (stC A d).take (5 + n * 5) ++ .f (I (v 0)) :: .f (I (v 1)) :: .f (I (v 2)) :: .f (I (v 3)) :: .f (I (v 4)) :: (stC A d).drop (5 + n * 5 + 5) = stC A { d with used := setU d.used n v } := by
  have h := fun i hi => cellStU A { d with used := setU d.used n v } hn (i := i) hi
  have hs : setU d.used n v n = v := by simp [setU]
  simp only [hs] at h
  refine map_five _ _ _ _ _ _ _ _ _ (by omega) (h 0 (by omega)) (h 1 (by omega)) (h 2 (by omega)) (h 3 (by omega)) (h 4 (by omega)) ?_
  intro j hj hne
  unfold cellSt
  simp only
  repeat' split
  all_goals first | rfl | (simp only [setU]; rw [if_neg (by omega)])
attribute [go_sem] stC_len stC_get stC_at cellSt0 cellSt1 cellSt2 cellSt3 cellSt4 cellSt53 cellSt54
structure StoreM (mem : Nat → Option M) (A : SA) (d : StD) : Prop where
  t : mem A.t = some (.blk (stC A d))
  n : mem A.gn = some (.row 75 A.vn 10 (encL d.s.nodes.n fun k => nodeC (d.s.nodes.el k)))
  p : mem A.gp = some (.row 81 A.vp 15 (encL d.s.pods.n fun k => podC (d.s.pods.el k)))
  q : mem A.gq = some (.row 100 A.vq 5 (encL d.s.owners.n fun k => ownerC (d.s.owners.el k)))
  o : mem A.go = some (.row 3 A.vo 1 (encL d.s.pods.n fun k => [I (d.on k)]))
  g : mem A.gg = some (.row 4 A.vg 1 (encL d.s.pods.n fun k => [B (d.gone k)]))
  w : mem A.gw = some (.row 3 A.vw 1 (encL d.wn fun k => [I (d.own k)]))
def SA.ids (A : SA) : List Nat := [A.t, A.gn, A.gp, A.gq, A.go, A.gg, A.gw]
structure SA.Ok (A : SA) (nx : Nat) : Prop where
  nodup : A.ids.Nodup
  lt : ∀ i ∈ A.ids, i < nx
/-- all but the store's own stays -/
def Kept (l : List Nat) (nx : Nat) (m m' : Nat → Option M) : Prop := ∀ id, id < nx → id ∉ l → m' id = m id
theorem Kept.refl (l : List Nat) (nx : Nat) (m : Nat → Option M) : Kept l nx m m := fun _ _ _ => rfl
theorem Kept.trans {l : List Nat} {nx nx' : Nat} {a b c : Nat → Option M} (h : Kept l nx a b) (k : Kept l nx' b c) (hn : nx ≤ nx') : Kept l nx a c := fun id hid hl => (k id (by omega) hl).trans (h id hid hl)
theorem StoreM.same {m m' : Nat → Option M} {A : SA} {d : StD} {nx : Nat} (h : StoreM m A d) (hA : A.Ok nx) (hk : Kept [] nx m m') : StoreM m' A d := by
  have e := fun i hi => hk i (hA.lt i hi) (by simp)
  have h1 := e A.t (by simp [SA.ids])
  have h2 := e A.gn (by simp [SA.ids])
  have h3 := e A.gp (by simp [SA.ids])
  have h4 := e A.gq (by simp [SA.ids])
  have h5 := e A.go (by simp [SA.ids])
  have h6 := e A.gg (by simp [SA.ids])
  have h7 := e A.gw (by simp [SA.ids])
  exact ⟨h1.trans h.t, h2.trans h.n, h3.trans h.p, h4.trans h.q, h5.trans h.o, h6.trans h.g, h7.trans h.w⟩
theorem SA.Ok.le {A : SA} {nx nx' : Nat} (h : A.Ok nx) (hn : nx ≤ nx') : A.Ok nx' := ⟨h.nodup, fun i hi => Nat.lt_of_lt_of_le (h.lt i hi) hn⟩
theorem SA.Ok.lts {A : SA} {nx : Nat} (h : A.Ok nx) : (∀ k, A.t < nx + k) ∧ (∀ k, A.gn < nx + k) ∧ (∀ k, A.gp < nx + k) ∧ (∀ k, A.gq < nx + k) ∧ (∀ k, A.go < nx + k) ∧ (∀ k, A.gg < nx + k) ∧ ∀ k, A.gw < nx + k :=
  have e := fun i hi k => Nat.lt_of_lt_of_le (h.lt i hi) (Nat.le_add_right nx k)
  ⟨e A.t (by simp [SA.ids]), e A.gn (by simp [SA.ids]), e A.gp (by simp [SA.ids]), e A.gq (by simp [SA.ids]), e A.go (by simp [SA.ids]), e A.gg (by simp [SA.ids]), e A.gw (by simp [SA.ids])⟩
theorem SA.Ok.ne {A : SA} {nx : Nat} (h : A.Ok nx) : ((A.t ≠ A.gn ∧ A.t ≠ A.gp ∧ A.t ≠ A.gq ∧ A.t ≠ A.go ∧ A.t ≠ A.gg ∧ A.t ≠ A.gw) ∧ (A.gn ≠ A.gp ∧ A.gn ≠ A.gq ∧ A.gn ≠ A.go ∧ A.gn ≠ A.gg ∧ A.gn ≠ A.gw) ∧ (A.gp ≠ A.gq ∧ A.gp ≠ A.go ∧ A.gp ≠ A.gg ∧ A.gp ≠ A.gw) ∧ (A.gq ≠ A.go ∧ A.gq ≠ A.gg ∧ A.gq ≠ A.gw) ∧ (A.go ≠ A.gg ∧ A.go ≠ A.gw) ∧ A.gg ≠ A.gw) ∧
    ((A.gn ≠ A.t ∧ A.gp ≠ A.t ∧ A.gq ≠ A.t ∧ A.go ≠ A.t ∧ A.gg ≠ A.t ∧ A.gw ≠ A.t) ∧ (A.gp ≠ A.gn ∧ A.gq ≠ A.gn ∧ A.go ≠ A.gn ∧ A.gg ≠ A.gn ∧ A.gw ≠ A.gn) ∧ (A.gq ≠ A.gp ∧ A.go ≠ A.gp ∧ A.gg ≠ A.gp ∧ A.gw ≠ A.gp) ∧ (A.go ≠ A.gq ∧ A.gg ≠ A.gq ∧ A.gw ≠ A.gq) ∧ (A.gg ≠ A.go ∧ A.gw ≠ A.go) ∧ A.gw ≠ A.gg) := by
  have h1 := h.nodup
  simp only [SA.ids, List.nodup_cons, List.mem_cons, List.not_mem_nil, or_false, not_or, not_false_iff, true_and, List.nodup_nil, and_true] at h1
  obtain ⟨⟨a1, a2, a3, a4, a5, a6⟩, ⟨b1, b2, b3, b4, b5⟩, ⟨c1, c2, c3, c4⟩, ⟨d1, d2, d3⟩, ⟨e1, e2⟩, f1⟩ := h1
  exact ⟨⟨⟨a1, a2, a3, a4, a5, a6⟩, ⟨b1, b2, b3, b4, b5⟩, ⟨c1, c2, c3, c4⟩, ⟨d1, d2, d3⟩, ⟨e1, e2⟩, f1⟩, ⟨Ne.symm a1, Ne.symm a2, Ne.symm a3, Ne.symm a4, Ne.symm a5, Ne.symm a6⟩, ⟨Ne.symm b1, Ne.symm b2, Ne.symm b3, Ne.symm b4, Ne.symm b5⟩, ⟨Ne.symm c1, Ne.symm c2, Ne.symm c3, Ne.symm c4⟩, ⟨Ne.symm d1, Ne.symm d2, Ne.symm d3⟩, ⟨Ne.symm e1, Ne.symm e2⟩, Ne.symm f1⟩
end Go.Proofs.YthpmgnbehahkfaaGreat
end
section
namespace Go.Proofs.YthpmgnbehahkfaaGreat
open Go.RowKit Go.Dk Go.Dn

theorem stIn_pure (n m : Int) : Pure Tryz.prog 90 [I n, I m] (B (decide (0 ≤ n) && decide (n < m))) := by
  refine Pure.of_run (lit := true) Tryz.func90 rfl rfl rfl rfl (Nat.le_of_ble_eq_true rfl) (run_of_runL ?_)
  unfold St.enter
  by_cases h : 0 ≤ n
  · simp -dsimp -implicitDefEqProofs [go_sem, h]
  · simp -dsimp -implicitDefEqProofs [go_sem, h]
theorem state_pure (b : Bool) : Pure Tryz.prog 85 [B b] (I (if b then 110 else 0)) := by
  refine Pure.of_run (lit := true) Tryz.func85 rfl rfl rfl rfl (Nat.le_of_ble_eq_true rfl) (run_of_runL ?_)
  unfold St.enter
  cases b
  · simp -dsimp -implicitDefEqProofs [go_sem]
  · simp -dsimp -implicitDefEqProofs [go_sem]
theorem encI_set (N k : Nat) (f : Nat → Int) (x : Int) (h : k < N) : (encL N fun j => [I (f j)]).set k [I x] = encL N fun j => [I (setC f k x j)] := by
  refine map_set _ _ _ _ _ h (by simp [setC]) fun j _ hne => ?_
  simp [setC, hne]
def setBf (u : Nat → Bool) (o : Nat) (x : Bool) : Nat → Bool := fun m => if m = o then x else u m
theorem encB_set (N k : Nat) (f : Nat → Bool) (x : Bool) (h : k < N) : (encL N fun j => [B (f j)]).set k [B x] = encL N fun j => [B (setBf f k x j)] := by
  refine map_set _ _ _ _ _ h (by simp [setBf]) fun j _ hne => ?_
  simp [setBf, hne]
def setN (l : Lst NodeD) (k : Nat) (x : NodeD) : Lst NodeD := ⟨l.n, fun j => if j = k then x else l.el j⟩
theorem encN_set (l : Lst NodeD) (k : Nat) (x : NodeD) (h : k < l.n) : (encL l.n fun j => nodeC (l.el j)).set k (nodeC x) = encL (setN l k x).n fun j => nodeC ((setN l k x).el j) := by
  refine map_set _ _ _ _ _ h (by simp [setN]) fun j _ hne => ?_
  simp [setN, hne]
section
variable {mem : Nat → Option M} {A : SA} {d : StD} {nx : Nat} {K : D → (Nat → Option M) → Nat → Prop}
theorem none_S (h : StoreM mem A d) (hk : ∀ n, nx ≤ n → K (.f (B false)) mem n) : callS Tryz.prog 82 [.loc A.t 0] mem nx K := by
  refine callS.of_run (lit := true) (B := fun _ => []) Tryz.func82 rfl rfl rfl rfl (Nat.le_of_ble_eq_true rfl) (runC_of_runCL ?_)
  simp -dsimp -implicitDefEqProofs [go_sem, h.t]
  exact hk _ (by omega)
def podE (d : StD) (k : Int) : Int := if 0 ≤ k ∧ k < d.s.pods.n then 0 else 9
def nodeE (d : StD) (k : Int) : Int := if 0 ≤ k ∧ k < d.s.nodes.n then 0 else 9
theorem pod_S (h : StoreM mem A d) (k : Int) (hk : ∀ n, nx ≤ n → K (.f (I (podE d k))) mem n) : callS Tryz.prog 87 [.loc A.t 0, .f (I k)] mem nx K := by
  refine callS.of_run (lit := true) (B := fun n => if n = 1 then [1] else []) Tryz.func87 rfl rfl rfl rfl (Nat.le_of_ble_eq_true rfl) (runC_of_runCL ?_)
  simp -dsimp -implicitDefEqProofs [go_sem, h.t]
  refine none_S h fun n1 hn1 => ?_
  simp -dsimp -implicitDefEqProofs [go_sem, h.t, h.p]
  refine callW_f (stIn_pure _ _) ?_
  by_cases hp : 0 ≤ k ∧ k < (d.s.pods.n : Int)
  · rw [podE, if_pos hp] at hk
    obtain ⟨p1, p2⟩ := hp
    simp -dsimp -implicitDefEqProofs [go_sem, p1, p2]
    exact hk _ (by omega)
  · rw [podE, if_neg hp] at hk
    have e : (!decide (0 ≤ k) || !decide (k < (d.s.pods.n : Int))) = true := by simp; omega
    simp -dsimp -implicitDefEqProofs [go_sem, e]
    exact hk _ (by omega)
theorem node_S (h : StoreM mem A d) (k : Int) (hk : ∀ n, nx ≤ n → K (.f (I (nodeE d k))) mem n) : callS Tryz.prog 84 [.loc A.t 0, .f (I k)] mem nx K := by
  refine callS.of_run (lit := true) (B := fun n => if n = 1 then [1] else []) Tryz.func84 rfl rfl rfl rfl (Nat.le_of_ble_eq_true rfl) (runC_of_runCL ?_)
  simp -dsimp -implicitDefEqProofs [go_sem, h.t]
  refine none_S h fun n1 hn1 => ?_
  simp -dsimp -implicitDefEqProofs [go_sem, h.t, h.n]
  refine callW_f (stIn_pure _ _) ?_
  by_cases hp : 0 ≤ k ∧ k < (d.s.nodes.n : Int)
  · rw [nodeE, if_pos hp] at hk
    obtain ⟨p1, p2⟩ := hp
    simp -dsimp -implicitDefEqProofs [go_sem, p1, p2]
    exact hk _ (by omega)
  · rw [nodeE, if_neg hp] at hk
    have e : (!decide (0 ≤ k) || !decide (k < (d.s.nodes.n : Int))) = true := by simp; omega
    simp -dsimp -implicitDefEqProofs [go_sem, e]
    exact hk _ (by omega)
def putD (d : StD) (p n : Nat) : StD := { d with on := setC d.on p n, used := setU d.used n (fun i => d.used n i + (d.s.pods.el p).req i), cnt := if 0 ≤ d.own p then setC d.cnt (d.own p).toNat (d.cnt (d.own p).toNat + 1) else d.cnt }
set_option maxRecDepth 100000 in
theorem put_S (h : StoreM mem A d) (hA : A.Ok nx) {p n : Nat} (hp : p < d.s.pods.n) (hpw : p < d.wn) (hn : n < 8) (ho : d.own p < 8) (hc : ∀ o, o < 8 → 0 ≤ d.cnt o ∧ d.cnt o ≤ 1048576)
    (hu : ∀ i, i < 5 → 0 ≤ d.used n i ∧ 0 ≤ (d.s.pods.el p).req i ∧ d.used n i + (d.s.pods.el p).req i ≤ 1099511627776)
    (hk : ∀ m' n', nx ≤ n' → StoreM m' A (putD d p n) → Kept A.ids nx mem m' → K (.tup []) m' n') : callS Tryz.prog 88 [.loc A.t 0, .f (I p), .f (I n)] mem nx K := by
  have hD := hA.ne
  have hL := hA.lts
  have hn' : (n : Int) < 8 := by omega
  have hn50 : 5 + n * 5 ≤ 50 := by omega
  have hU := stC_setU A d hn (fun i => d.used n i + (d.s.pods.el p).req i)
  refine callS.of_run (lit := true) (B := fun _ => []) Tryz.func88 rfl rfl rfl rfl (Nat.le_of_ble_eq_true rfl) (runC_of_runCL ?_)
  simp -dsimp -implicitDefEqProofs [go_sem, h.t, h.o, hp, hD, encL_get? _ hp, encI_set _ _ _ _ hp]
  refine runCL_draw [[], [], [], [], [2], [4, 2], [5, 4, 2, 3], [6, 5, 4, 2, 3], [], [8], [9, 8], [10, 9, 8], [11, 10, 9, 8], [], [12, 11, 10, 9, 8, 13], [14, 12, 11, 10, 9, 8, 13], [15, 14, 12, 11, 10, 9, 8, 13], [7, 6, 5, 4, 2, 3, 16, 15, 14, 12, 11, 10, 9, 8, 13], [17, 7, 6, 5, 4, 2, 3, 16, 15, 14, 12, 11, 10, 9, 8, 13], [18, 17, 7, 6, 5, 4, 2, 3, 16, 15, 14, 12, 11, 10, 9, 8, 13], [19, 18, 17, 7, 6, 5, 4, 2, 3, 16, 15, 14, 12, 11, 10, 9, 8, 13], [19, 18, 17, 7, 6, 5, 4, 2, 3, 16, 15, 14, 12, 11, 10, 9, 8, 13], [0], [22, 0], [23, 22, 0, 1, 2, 3, 4, 5, 6, 7, 8, 9, 10, 11, 12, 13, 14, 15, 16, 17, 18, 19, 20], [24, 23, 22, 0, 1, 2, 3, 4, 5, 6, 7, 8, 9, 10, 11, 12, 13, 14, 15, 16, 17, 18, 19, 20]] rfl (by kernel_rfl) (by kernel_rfl) ?_
  simp -dsimp -implicitDefEqProofs [go_sem, h.t, h.o, h.p, hp, hD, hL, hn', hn50, stC_used _ _ hn, Tv, Cw, silentAt, silentOp, podC_eq (d.s.pods.el p)]
  refine callW_f (plus2_pure (d.used n) (d.s.pods.el p).req hu) ?_
  simp -dsimp -implicitDefEqProofs [go_sem, h.t, h.o, h.p, hp, hD, hL, hn', hn50, stC_used _ _ hn, Tv, Cw, silentAt, silentOp, fiveF, podC_eq (d.s.pods.el p)]
  refine exWL_mk (andL_mk ⟨Cw_lt (hL.1 _) (by kernel_rfl), Tv_lt (hL.1 _) (by kernel_rfl)⟩ ?_)
  simp -dsimp -implicitDefEqProofs [go_sem, h.t, h.o, h.p, hp, hD, hL, hn', hn50, stC_used _ _ hn, Tv, Cw, silentAt, silentOp, hU, fiveF, h.w, hpw, encL_get? _ hpw]
  refine gif_dec (fun h0 => ?_) (fun h0 => ?_)
  · obtain ⟨o, ho'⟩ : ∃ o : Nat, d.own p = o := ⟨_, (Int.toNat_of_nonneg h0).symm⟩
    have ho8 : o < 8 := by omega
    have ho8' : (o : Int) < 8 := by omega
    have ho54 : 45 + o ≤ 54 := by omega
    have hC := stC_setC A { d with used := setU d.used n (fun i => d.used n i + (d.s.pods.el p).req i) } ho8 (d.cnt o + 1)
    have hw := w64 (n := d.cnt o + 1) (by have := hc o ho8; omega) (by have := hc o ho8; omega)
    refine runCL_draw [[], [], [0], [2, 0], [3, 2, 0, 1], [4, 3, 2, 0, 1], [5, 4, 3, 2, 0, 1], [0], [7, 0], [8, 7, 0, 1, 2, 3, 4, 5, 6], [9, 8, 7, 0, 1, 2, 3, 4, 5, 6]] rfl (by kernel_rfl) (by kernel_rfl) ?_
    simp -dsimp -implicitDefEqProofs [go_sem, ho', ho8', ho54, hL, Tv, Cw, silentAt, silentOp, stC_cnt _ _ ho8, hw]
    refine exWL_mk (andL_mk ⟨Cw_lt (by have := hL.1 0; omega) (by kernel_rfl), Tv_lt (by have := hL.1 0; omega) (by kernel_rfl)⟩ ?_)
    simp -dsimp -implicitDefEqProofs [go_sem, hC]
    have e : putD d p n = { d with on := setC d.on p n, used := setU d.used n (fun i => d.used n i + (d.s.pods.el p).req i), cnt := setC d.cnt o (d.cnt o + 1) } := by
      simp [putD, ho']
    rw [e] at hk
    refine hk _ _ (by omega) ⟨?_, ?_, ?_, ?_, ?_, ?_, ?_⟩ ?_
    · simp -dsimp -implicitDefEqProofs [go_sem]; rfl
    · simp -dsimp -implicitDefEqProofs [go_sem, hD, h.n]
    · simp -dsimp -implicitDefEqProofs [go_sem, hD, h.p]
    · simp -dsimp -implicitDefEqProofs [go_sem, hD, h.q]
    · simp -dsimp -implicitDefEqProofs [go_sem, hD]
    · simp -dsimp -implicitDefEqProofs [go_sem, hD, h.g]
    · simp -dsimp -implicitDefEqProofs [go_sem, hD, h.w]
    · intro id _ hid
      simp only [SA.ids, List.mem_cons, not_or] at hid
      simp -dsimp -implicitDefEqProofs [upd, hid]
  · simp -dsimp -implicitDefEqProofs [go_sem]
    have e : putD d p n = { d with on := setC d.on p n, used := setU d.used n (fun i => d.used n i + (d.s.pods.el p).req i) } := by
      simp [putD, h0]
    rw [e] at hk
    refine hk _ _ (by omega) ⟨?_, ?_, ?_, ?_, ?_, ?_, ?_⟩ ?_
    · simp -dsimp -implicitDefEqProofs [go_sem]; rfl
    · simp -dsimp -implicitDefEqProofs [go_sem, hD, h.n]
    · simp -dsimp -implicitDefEqProofs [go_sem, hD, h.p]
    · simp -dsimp -implicitDefEqProofs [go_sem, hD, h.q]
    · simp -dsimp -implicitDefEqProofs [go_sem, hD]
    · simp -dsimp -implicitDefEqProofs [go_sem, hD, h.g]
    · simp -dsimp -implicitDefEqProofs [go_sem, hD, h.w]
    · intro id _ hid
      simp only [SA.ids, List.mem_cons, not_or] at hid
      simp -dsimp -implicitDefEqProofs [upd, hid]
end
end Go.Proofs.YthpmgnbehahkfaaGreat
end
section
namespace Go.Proofs.YthpmgnbehahkfaaGreat
open Go.RowKit Go.Dk Go.Dn

section
variable {mem : Nat → Option M} {A : SA} {d : StD} {nx : Nat} {K : D → (Nat → Option M) → Nat → Prop}
def takeD (d : StD) (p n : Nat) : StD := { d with on := setC d.on p (-1), used := setU d.used n (fun i => d.used n i - (d.s.pods.el p).req i), cnt := if 0 ≤ d.own p then setC d.cnt (d.own p).toNat (d.cnt (d.own p).toNat - 1) else d.cnt }
set_option maxRecDepth 100000 in
theorem take_none (h : StoreM mem A d) (hA : A.Ok nx) {p : Nat} (hp : p < d.s.pods.n) (hon : d.on p = -1)
    (hk : ∀ m' n', nx ≤ n' → StoreM m' A d → Kept A.ids nx mem m' → K (.tup []) m' n') : callS Tryz.prog 86 [.loc A.t 0, .f (I p)] mem nx K := by
  refine callS.of_run (lit := true) (B := fun _ => []) Tryz.func86 rfl rfl rfl rfl (Nat.le_of_ble_eq_true rfl) (runC_of_runCL ?_)
  simp -dsimp -implicitDefEqProofs [go_sem, h.t, h.o, hp, encL_get? _ hp, hon]
  exact hk _ _ (by omega) h (Kept.refl _ _ _)
set_option maxRecDepth 100000 in
theorem take_S (h : StoreM mem A d) (hA : A.Ok nx) {p n : Nat} (hp : p < d.s.pods.n) (hpw : p < d.wn) (hon : d.on p = n) (hn : n < 8) (ho : d.own p < 8) (hc : ∀ o, o < 8 → -1048576 ≤ d.cnt o ∧ d.cnt o ≤ 1048576)
    (hu : ∀ i, i < 5 → 0 ≤ (d.s.pods.el p).req i ∧ (d.s.pods.el p).req i ≤ d.used n i ∧ d.used n i ≤ 1099511627776)
    (hk : ∀ m' n', nx ≤ n' → StoreM m' A (takeD d p n) → Kept A.ids nx mem m' → K (.tup []) m' n') : callS Tryz.prog 86 [.loc A.t 0, .f (I p)] mem nx K := by
  have hD := hA.ne
  have hL := hA.lts
  have hn' : (n : Int) < 8 := by omega
  have hn1 : ((n : Int) == -1) = false := by simp
  have hn50 : 5 + n * 5 ≤ 50 := by omega
  have hU := stC_setU A d hn (fun i => d.used n i - (d.s.pods.el p).req i)
  refine callS.of_run (lit := true) (B := fun _ => []) Tryz.func86 rfl rfl rfl rfl (Nat.le_of_ble_eq_true rfl) (runC_of_runCL ?_)
  simp -dsimp -implicitDefEqProofs [go_sem, h.t, h.o, hp, hD, encL_get? _ hp, encI_set _ _ _ _ hp, hon, hn1]
  refine runCL_draw [[], [], [], [], [2], [4, 2], [5, 4, 2, 3], [6, 5, 4, 2, 3], [], [8], [9, 8], [10, 9, 8], [11, 10, 9, 8], [], [12, 11, 10, 9, 8, 13], [14, 12, 11, 10, 9, 8, 13], [15, 14, 12, 11, 10, 9, 8, 13], [7, 6, 5, 4, 2, 3, 16, 15, 14, 12, 11, 10, 9, 8, 13], [17, 7, 6, 5, 4, 2, 3, 16, 15, 14, 12, 11, 10, 9, 8, 13], [18, 17, 7, 6, 5, 4, 2, 3, 16, 15, 14, 12, 11, 10, 9, 8, 13], [18, 17, 7, 6, 5, 4, 2, 3, 16, 15, 14, 12, 11, 10, 9, 8, 13], [0], [21, 0], [22, 21, 0, 1, 2, 3, 4, 5, 6, 7, 8, 9, 10, 11, 12, 13, 14, 15, 16, 17, 18, 19], [23, 22, 21, 0, 1, 2, 3, 4, 5, 6, 7, 8, 9, 10, 11, 12, 13, 14, 15, 16, 17, 18, 19]] rfl (by kernel_rfl) (by kernel_rfl) ?_
  simp -dsimp -implicitDefEqProofs [go_sem, h.t, h.o, h.p, hp, hD, hL, hn', hn50, stC_used _ _ hn, Tv, Cw, silentAt, silentOp, fiveF, podC_eq (d.s.pods.el p)]
  refine callW_f (minus_pure (d.used n) (d.s.pods.el p).req hu) ?_
  simp -dsimp -implicitDefEqProofs [go_sem, h.t, h.o, h.p, hp, hD, hL, hn', hn50, stC_used _ _ hn, Tv, Cw, silentAt, silentOp, fiveF, podC_eq (d.s.pods.el p)]
  refine exWL_mk (andL_mk ⟨Cw_lt (by have := hL.1 0; omega) (by kernel_rfl), Tv_lt (by have := hL.1 0; omega) (by kernel_rfl)⟩ ?_)
  simp -dsimp -implicitDefEqProofs [go_sem, h.t, h.o, h.p, hp, hD, hL, hn', hn50, stC_used _ _ hn, Tv, Cw, silentAt, silentOp, hU, fiveF, h.w, hpw, encL_get? _ hpw]
  refine gif_dec (fun h0 => ?_) (fun h0 => ?_)
  · obtain ⟨o, ho'⟩ : ∃ o : Nat, d.own p = o := ⟨_, (Int.toNat_of_nonneg h0).symm⟩
    have ho8 : o < 8 := by omega
    have ho8' : (o : Int) < 8 := by omega
    have ho54 : 45 + o ≤ 54 := by omega
    have hC := stC_setC A { d with used := setU d.used n (fun i => d.used n i - (d.s.pods.el p).req i) } ho8 (d.cnt o - 1)
    have hw := w64 (n := d.cnt o - 1) (by have := hc o ho8; omega) (by have := hc o ho8; omega)
    refine runCL_draw [[], [], [0], [2, 0], [3, 2, 0, 1], [4, 3, 2, 0, 1], [5, 4, 3, 2, 0, 1], [0], [7, 0], [8, 7, 0, 1, 2, 3, 4, 5, 6], [9, 8, 7, 0, 1, 2, 3, 4, 5, 6]] rfl (by kernel_rfl) (by kernel_rfl) ?_
    simp -dsimp -implicitDefEqProofs [go_sem, ho', ho8', ho54, hL, Tv, Cw, silentAt, silentOp, stC_cnt _ _ ho8, hw]
    refine exWL_mk (andL_mk ⟨Cw_lt (by have := hL.1 0; omega) (by kernel_rfl), Tv_lt (by have := hL.1 0; omega) (by kernel_rfl)⟩ ?_)
    simp -dsimp -implicitDefEqProofs [go_sem, hC]
    have e : takeD d p n = { d with on := setC d.on p (-1), used := setU d.used n (fun i => d.used n i - (d.s.pods.el p).req i), cnt := setC d.cnt o (d.cnt o - 1) } := by
      simp [takeD, ho']
    rw [e] at hk
    refine hk _ _ (by omega) ⟨?_, ?_, ?_, ?_, ?_, ?_, ?_⟩ ?_
    · simp -dsimp -implicitDefEqProofs [go_sem]; rfl
    · simp -dsimp -implicitDefEqProofs [go_sem, hD, h.n]
    · simp -dsimp -implicitDefEqProofs [go_sem, hD, h.p]
    · simp -dsimp -implicitDefEqProofs [go_sem, hD, h.q]
    · simp -dsimp -implicitDefEqProofs [go_sem, hD]
    · simp -dsimp -implicitDefEqProofs [go_sem, hD, h.g]
    · simp -dsimp -implicitDefEqProofs [go_sem, hD, h.w]
    · intro id _ hid
      simp only [SA.ids, List.mem_cons, not_or] at hid
      simp -dsimp -implicitDefEqProofs [upd, hid]
  · simp -dsimp -implicitDefEqProofs [go_sem]
    have e : takeD d p n = { d with on := setC d.on p (-1), used := setU d.used n (fun i => d.used n i - (d.s.pods.el p).req i) } := by
      simp [takeD, h0]
    rw [e] at hk
    refine hk _ _ (by omega) ⟨?_, ?_, ?_, ?_, ?_, ?_, ?_⟩ ?_
    · simp -dsimp -implicitDefEqProofs [go_sem]; rfl
    · simp -dsimp -implicitDefEqProofs [go_sem, hD, h.n]
    · simp -dsimp -implicitDefEqProofs [go_sem, hD, h.p]
    · simp -dsimp -implicitDefEqProofs [go_sem, hD, h.q]
    · simp -dsimp -implicitDefEqProofs [go_sem, hD]
    · simp -dsimp -implicitDefEqProofs [go_sem, hD, h.g]
    · simp -dsimp -implicitDefEqProofs [go_sem, hD, h.w]
    · intro id _ hid
      simp only [SA.ids, List.mem_cons, not_or] at hid
      simp -dsimp -implicitDefEqProofs [upd, hid]
end
end Go.Proofs.YthpmgnbehahkfaaGreat
end
section
namespace Go.Proofs.YthpmgnbehahkfaaGreat
open Go.RowKit Go.Dk Go.Dn

theorem sumF_congr {f g : Nat → Int} : ∀ {n : Nat}, (∀ k, k < n → f k = g k) → sumF f n = sumF g n
  | 0, _ => rfl
  | n + 1, h => by simp only [sumF]; rw [sumF_congr fun k hk => h k (by omega), h n (by omega)]
theorem sumF_upd {f g : Nat → Int} {p : Nat} : ∀ {n : Nat}, p < n → (∀ k, k < n → k ≠ p → g k = f k) → sumF g n = sumF f n - f p + g p
  | 0, hp, _ => by omega
  | n + 1, hp, h => by
    simp only [sumF]
    by_cases e : p = n
    · subst e
      rw [sumF_congr fun k hk => h k (by omega) (by omega)]
      omega
    · rw [sumF_upd (by omega) fun k hk hne => h k (by omega) hne, h n (by omega) (by omega)]
      omega
theorem sumF_le {f g : Nat → Int} : ∀ {n : Nat}, (∀ k, k < n → f k ≤ g k) → sumF f n ≤ sumF g n
  | 0, _ => Int.le_refl _
  | n + 1, h => by
    have := sumF_le (f := f) (g := g) (n := n) fun k hk => h k (by omega)
    have := h n (by omega)
    simp only [sumF]; omega
theorem sumF_pos {f : Nat → Int} : ∀ {n : Nat}, (∀ k, k < n → 0 ≤ f k) → 0 ≤ sumF f n
  | 0, _ => Int.le_refl _
  | n + 1, h => by
    have := sumF_pos (f := f) (n := n) fun k hk => h k (by omega)
    have := h n (by omega)
    simp only [sumF]; omega
theorem sumF_one {f : Nat → Int} {p n : Nat} (h : ∀ k, k < n → 0 ≤ f k) (hp : p < n) : f p ≤ sumF f n := by
  have h1 := sumF_mono h n (show p + 1 ≤ n by omega) (Nat.le_refl _)
  have h2 := sumF_nonneg h p (by omega)
  simp only [sumF] at h1
  omega
theorem sumF_const (c : Int) : ∀ n : Nat, sumF (fun _ => c) n = n * c
  | 0 => by simp [sumF]
  | n + 1 => by simp only [sumF]; rw [sumF_const c n]; rw [Int.natCast_add, Int.add_mul]; simp
/-- what a node has: the sum of what is on it -/
def usedOf (s : SnapD) (on : Nat → Int) (n i : Nat) : Int := sumF (fun p => if on p = n then (s.pods.el p).req i else 0) s.pods.n
/-- how many of an owner's pods do not wait -/
def cntOf (s : SnapD) (own on : Nat → Int) (o : Nat) : Int := sumF (fun p => if own p = o ∧ on p ≠ -1 then 1 else 0) s.pods.n
structure SOk (s : SnapD) : Prop where
  n8 : s.nodes.n ≤ 8
  p24 : s.pods.n ≤ 24
  o8 : s.owners.n ≤ 8
  req : ∀ p, p < s.pods.n → ∀ i, i < 5 → 0 ≤ (s.pods.el p).req i
  sum : ∀ i, i < 5 → sumF (fun p => (s.pods.el p).req i) s.pods.n ≤ 1099511627776
structure DOk (d : StD) : Prop where
  s : SOk d.s
  on : ∀ p, p < d.s.pods.n → d.on p = -1 ∨ ∃ n : Nat, n < d.s.nodes.n ∧ d.on p = n
  own : ∀ p, p < d.s.pods.n → -1 ≤ d.own p ∧ d.own p < d.s.owners.n
  used : ∀ n, n < 8 → ∀ i, i < 5 → d.used n i = usedOf d.s d.on n i
  cnt : ∀ o, o < 8 → d.cnt o = cntOf d.s d.own d.on o
  wn : d.wn = d.s.pods.n
theorem used_range {s : SnapD} (h : SOk s) (on : Nat → Int) (n : Nat) {i : Nat} (hi : i < 5) : 0 ≤ usedOf s on n i ∧ usedOf s on n i ≤ 1099511627776 := by
  constructor
  · exact sumF_pos fun k hk => by split; exact h.req k hk i hi; exact Int.le_refl _
  · exact Int.le_trans (sumF_le fun k hk => by split; exact Int.le_refl _; exact h.req k hk i hi) (h.sum i hi)
theorem cnt_range {s : SnapD} (h : SOk s) (own on : Nat → Int) (o : Nat) : 0 ≤ cntOf s own on o ∧ cntOf s own on o ≤ 24 := by
  have := h.p24
  constructor
  · exact sumF_pos fun k hk => by split <;> omega
  · have h1 : cntOf s own on o ≤ sumF (fun _ => 1) s.pods.n := sumF_le fun k hk => by split <;> omega
    rw [sumF_const] at h1
    omega
theorem usedOf_set {s : SnapD} {on : Nat → Int} {p : Nat} (hp : p < s.pods.n) (x : Int) (n i : Nat) :
    usedOf s (setC on p x) n i = usedOf s on n i - (if on p = n then (s.pods.el p).req i else 0) + (if x = n then (s.pods.el p).req i else 0) := by
  have := sumF_upd (f := fun q => if on q = n then (s.pods.el q).req i else 0) (g := fun q => if setC on p x q = n then (s.pods.el q).req i else 0) hp (fun k _ hne => by simp [setC, hne])
  unfold usedOf
  rw [this]
  simp [setC]
theorem cntOf_set {s : SnapD} {own on : Nat → Int} {p : Nat} (hp : p < s.pods.n) (x : Int) (o : Nat) :
    cntOf s own (setC on p x) o = cntOf s own on o - (if own p = o ∧ on p ≠ -1 then 1 else 0) + (if own p = o ∧ x ≠ -1 then 1 else 0) := by
  have := sumF_upd (f := fun q => if own q = o ∧ on q ≠ -1 then 1 else 0) (g := fun q => if own q = o ∧ setC on p x q ≠ -1 then 1 else 0) hp (fun k _ hne => by simp [setC, hne])
  unfold cntOf
  rw [this]
  simp [setC]
theorem putD_ok {d : StD} (h : DOk d) {p n : Nat} (hp : p < d.s.pods.n) (hn : n < d.s.nodes.n) (hon : d.on p = -1) : DOk (putD d p n) := by
  have hn8 := h.s.n8
  refine ⟨h.s, fun q hq => ?_, h.own, fun m hm i hi => ?_, fun o ho => ?_, h.wn⟩
  · show setC d.on p n q = -1 ∨ ∃ k : Nat, k < d.s.nodes.n ∧ setC d.on p n q = k
    unfold setC
    split
    · exact .inr ⟨n, hn, rfl⟩
    · exact h.on q hq
  · show setU d.used n (fun i => d.used n i + (d.s.pods.el p).req i) m i = usedOf d.s (setC d.on p n) m i
    rw [usedOf_set hp, hon]
    have e : ¬ ((-1 : Int) = (m : Int)) := by omega
    rw [if_neg e]
    unfold setU
    by_cases e2 : m = n
    · subst e2
      rw [if_pos rfl, if_pos rfl, h.used m hm i hi]
      omega
    · rw [if_neg e2, if_neg (by omega), h.used m hm i hi]
      omega
  · show (if 0 ≤ d.own p then setC d.cnt (d.own p).toNat (d.cnt (d.own p).toNat + 1) else d.cnt) o = cntOf d.s d.own (setC d.on p n) o
    have h1 := h.own p hp
    have ho8 := h.s.o8
    rw [cntOf_set hp, hon]
    have e3 : ¬ ((n : Int) = -1) := by omega
    by_cases h0 : 0 ≤ d.own p
    · rw [if_pos h0]
      unfold setC
      by_cases e : o = (d.own p).toNat
      · rw [if_pos e, ← e, h.cnt o ho, if_neg (by simp), if_pos ⟨by omega, e3⟩]
        omega
      · rw [if_neg e, h.cnt o ho, if_neg (by simp), if_neg (by omega)]
        omega
    · rw [if_neg h0, h.cnt o ho, if_neg (by simp), if_neg (by omega)]
      omega
theorem takeD_ok {d : StD} (h : DOk d) {p n : Nat} (hp : p < d.s.pods.n) (hon : d.on p = n) : DOk (takeD d p n) := by
  refine ⟨h.s, fun q hq => ?_, h.own, fun m hm i hi => ?_, fun o ho => ?_, h.wn⟩
  · show setC d.on p (-1) q = -1 ∨ ∃ k : Nat, k < d.s.nodes.n ∧ setC d.on p (-1) q = k
    unfold setC
    split
    · exact .inl rfl
    · exact h.on q hq
  · show setU d.used n (fun i => d.used n i - (d.s.pods.el p).req i) m i = usedOf d.s (setC d.on p (-1)) m i
    rw [usedOf_set hp, hon]
    have e : ¬ ((-1 : Int) = (m : Int)) := by omega
    rw [if_neg e]
    unfold setU
    by_cases e2 : m = n
    · subst e2
      rw [if_pos rfl, if_pos rfl, h.used m hm i hi]
      omega
    · rw [if_neg e2, if_neg (by omega), h.used m hm i hi]
      omega
  · show (if 0 ≤ d.own p then setC d.cnt (d.own p).toNat (d.cnt (d.own p).toNat - 1) else d.cnt) o = cntOf d.s d.own (setC d.on p (-1)) o
    have h1 := h.own p hp
    have ho8 := h.s.o8
    rw [cntOf_set hp, hon]
    have e3 : ¬ ((n : Int) = -1) := by omega
    by_cases h0 : 0 ≤ d.own p
    · rw [if_pos h0]
      unfold setC
      by_cases e : o = (d.own p).toNat
      · rw [if_pos e, ← e, h.cnt o ho, if_pos ⟨by omega, e3⟩, if_neg (by simp)]
        omega
      · rw [if_neg e, h.cnt o ho, if_neg (by omega), if_neg (by simp)]
        omega
    · rw [if_neg h0, h.cnt o ho, if_neg (by omega), if_neg (by simp)]
      omega
section
variable {mem : Nat → Option M} {A : SA} {d : StD} {nx : Nat} {K : D → (Nat → Option M) → Nat → Prop}
/-- put, of a store that is right -/
theorem put_ok (h : StoreM mem A d) (hd : DOk d) (hA : A.Ok nx) {p n : Nat} (hp : p < d.s.pods.n) (hn : n < d.s.nodes.n) (hon : d.on p = -1)
    (hk : ∀ m' n', nx ≤ n' → StoreM m' A (putD d p n) → Kept A.ids nx mem m' → K (.tup []) m' n') : callS Tryz.prog 88 [.loc A.t 0, .f (I p), .f (I n)] mem nx K := by
  have hn8 := hd.s.n8
  have ho8 := hd.s.o8
  have h1 := hd.own p hp
  have hk1 := putD_ok hd hp hn hon
  refine put_S h hA hp (by rw [hd.wn]; exact hp) (by omega) (by omega) (fun o ho => ?_) (fun i hi => ?_) hk
  · rw [hd.cnt o ho]
    have := cnt_range hd.s d.own d.on o
    omega
  · have e := hk1.used n (by omega) i hi
    have h3 := used_range hd.s (putD d p n).on n hi
    rw [show usedOf d.s (putD d p n).on n i = (putD d p n).used n i from e.symm] at h3
    have h4 := used_range hd.s d.on n hi
    rw [← hd.used n (by omega) i hi] at h4
    simp only [putD, setU, if_true] at h3
    exact ⟨h4.1, hd.s.req p hp i hi, h3.2⟩
/-- take, of a store that is right -/
theorem take_ok (h : StoreM mem A d) (hd : DOk d) (hA : A.Ok nx) {p n : Nat} (hp : p < d.s.pods.n) (hn : n < d.s.nodes.n) (hon : d.on p = n)
    (hk : ∀ m' n', nx ≤ n' → StoreM m' A (takeD d p n) → Kept A.ids nx mem m' → K (.tup []) m' n') : callS Tryz.prog 86 [.loc A.t 0, .f (I p)] mem nx K := by
  have hn8 := hd.s.n8
  have ho8 := hd.s.o8
  have h1 := hd.own p hp
  refine take_S h hA hp (by rw [hd.wn]; exact hp) hon (by omega) (by omega) (fun o ho => ?_) (fun i hi => ?_) hk
  · rw [hd.cnt o ho]
    have := cnt_range hd.s d.own d.on o
    omega
  · have h4 := used_range hd.s d.on n hi
    rw [hd.used n (by omega) i hi]
    refine ⟨hd.s.req p hp i hi, ?_, h4.2⟩
    have := sumF_one (f := fun q => if d.on q = n then (d.s.pods.el q).req i else 0) (n := d.s.pods.n) (fun k hk => by split; exact hd.s.req k hk i hi; exact Int.le_refl _) hp
    simp only [hon, if_true] at this
    exact this
end
end Go.Proofs.YthpmgnbehahkfaaGreat
end
section
namespace Go.Proofs.YthpmgnbehahkfaaGreat
open Go.RowKit Go.Dk Go.Dn

section
variable {mem : Nat → Option M} {A : SA} {d : StD} {nx : Nat} {K : D → (Nat → Option M) → Nat → Prop}
def evictR (d : StD) (k : Int) : Int := if podE d k = 0 then (if d.on k.toNat = -1 then 110 else 0) else 9
def evictD (d : StD) (k : Int) : StD := if podE d k = 0 ∧ d.on k.toNat ≠ -1 then takeD d k.toNat (d.on k.toNat).toNat else d
theorem podE_ok {d : StD} {k : Int} (h : podE d k = 0) : ∃ p : Nat, k = p ∧ p < d.s.pods.n := by
  unfold podE at h
  split at h
  · rename_i hh
    exact ⟨k.toNat, by omega, by omega⟩
  · cases h
theorem nodeE_ok {d : StD} {k : Int} (h : nodeE d k = 0) : ∃ p : Nat, k = p ∧ p < d.s.nodes.n := by
  unfold nodeE at h
  split at h
  · rename_i hh
    exact ⟨k.toNat, by omega, by omega⟩
  · cases h
theorem podE_or (d : StD) (k : Int) : podE d k = 0 ∨ podE d k = 9 := by unfold podE; split <;> simp
theorem nodeE_or (d : StD) (k : Int) : nodeE d k = 0 ∨ nodeE d k = 9 := by unfold nodeE; split <;> simp
theorem evictD_ok (hd : DOk d) (k : Int) : DOk (evictD d k) := by
  unfold evictD
  split
  · rename_i h
    obtain ⟨p, rfl, hp⟩ := podE_ok h.1
    simp only [Int.toNat_natCast] at h ⊢
    rcases hd.on p hp with e | ⟨n, hn, e⟩
    · exact absurd e h.2
    · rw [e, Int.toNat_natCast]
      exact takeD_ok hd hp e
  · exact hd
set_option maxRecDepth 100000 in
theorem evict_S (h : StoreM mem A d) (hd : DOk d) (hA : A.Ok nx) (k : Int) (hk : ∀ m' n', nx ≤ n' → StoreM m' A (evictD d k) → Kept A.ids nx mem m' → K (.f (I (evictR d k))) m' n') : callS Tryz.prog 37 [.loc A.t 0, .f (I k)] mem nx K := by
  refine callS.of_run (lit := true) (B := fun n => if n = 1 then [2] else if n = 6 then [2] else []) Tryz.func37 rfl rfl rfl rfl (Nat.le_of_ble_eq_true rfl) (runC_of_runCL ?_)
  simp -dsimp -implicitDefEqProofs [go_sem]
  refine pod_S h k fun n1 hn1 => ?_
  rcases podE_or d k with e | e
  · obtain ⟨p, rfl, hp⟩ := podE_ok e
    simp -dsimp -implicitDefEqProofs [go_sem, e, h.t, h.o, hp, encL_get? _ hp]
    refine callW_f (state_pure _) ?_
    rcases hd.on p hp with e2 | ⟨n, hn, e2⟩
    · simp -dsimp -implicitDefEqProofs [go_sem, e2]
      simp only [evictR, evictD, e, Int.toNat_natCast, e2, if_true, ne_eq, not_true_eq_false, and_false, if_false] at hk
      exact hk _ _ (by omega) h (Kept.refl _ _ _)
    · have e3 : ((n : Int) == -1) = false := by simp
      have e4 : ¬ ((n : Int) = -1) := by omega
      simp -dsimp -implicitDefEqProofs [go_sem, e2, e3]
      refine take_ok h hd (hA.le (by omega)) hp hn e2 fun m' n' hn' hm' hkept => ?_
      simp -dsimp -implicitDefEqProofs [go_sem]
      simp only [evictR, evictD, e, Int.toNat_natCast, e2, e4, if_true, ne_eq, not_false_eq_true, and_self, if_false] at hk
      exact hk _ _ (by omega) hm' (fun id hid hl => hkept id (by omega) hl)
  · simp -dsimp -implicitDefEqProofs [go_sem, e]
    simp only [evictR, evictD, e] at hk
    exact hk _ _ (by omega) h (Kept.refl _ _ _)
def bindR (d : StD) (k n : Int) : Int := if podE d k = 0 ∧ nodeE d n = 0 then (if d.on k.toNat ≠ -1 ∨ d.gone k.toNat = true ∨ (d.s.nodes.el n.toNat).lost = true then 110 else 0) else 9
def bindD (d : StD) (k n : Int) : StD := if bindR d k n = 0 then putD d k.toNat n.toNat else d
theorem bindR_ok {d : StD} {k n : Int} (h : bindR d k n = 0) : ∃ p m : Nat, k = p ∧ n = m ∧ p < d.s.pods.n ∧ m < d.s.nodes.n ∧ d.on p = -1 ∧ d.gone p = false ∧ (d.s.nodes.el m).lost = false := by
  unfold bindR at h
  split at h
  · rename_i h1
    obtain ⟨p, rfl, hp⟩ := podE_ok h1.1
    obtain ⟨m, rfl, hm⟩ := nodeE_ok h1.2
    simp only [Int.toNat_natCast] at h
    split at h
    · cases h
    · rename_i h2
      refine ⟨p, m, rfl, rfl, hp, hm, ?_⟩
      simpa [not_or] using h2
  · cases h
theorem bindD_ok (hd : DOk d) (k n : Int) : DOk (bindD d k n) := by
  unfold bindD
  split
  · rename_i h
    obtain ⟨p, m, rfl, rfl, hp, hm, hon, -, -⟩ := bindR_ok h
    exact putD_ok hd hp hm hon
  · exact hd
set_option maxRecDepth 100000 in
theorem bind_S (h : StoreM mem A d) (hd : DOk d) (hA : A.Ok nx) (k n : Int) (hk : ∀ m' n', nx ≤ n' → StoreM m' A (bindD d k n) → Kept A.ids nx mem m' → K (.f (I (bindR d k n))) m' n') : callS Tryz.prog 38 [.loc A.t 0, .f (I k), .f (I n)] mem nx K := by
  refine callS.of_run (lit := true) (B := fun n => if n = 1 then [2, 5] else if n = 6 then [3] else []) Tryz.func38 rfl rfl rfl rfl (Nat.le_of_ble_eq_true rfl) (runC_of_runCL ?_)
  simp -dsimp -implicitDefEqProofs [go_sem]
  refine pod_S h k fun n1 hn1 => ?_
  simp -dsimp -implicitDefEqProofs [go_sem]
  refine node_S h n fun n2 hn2 => ?_
  by_cases he : podE d k = 0 ∧ nodeE d n = 0
  · have e1 := he.1
    have e2 := he.2
    obtain ⟨p, rfl, hp⟩ := podE_ok e1
    obtain ⟨m, rfl, hm⟩ := nodeE_ok e2
    by_cases h1 : d.on p = -1
    · by_cases h2 : d.gone p = true
      · have eR : bindR d p m = 110 := by simp [bindR, e1, e2, h2]
        have eD : bindD d p m = d := by simp [bindD, eR]
        rw [eR, eD] at hk
        simp -dsimp -implicitDefEqProofs [go_sem, e1, e2, h.t, h.o, h.g, hp, encL_get? _ hp, h1, h2]
        refine callW_f (state_pure true) ?_
        simp -dsimp -implicitDefEqProofs [go_sem]
        exact hk _ _ (by omega) h (Kept.refl _ _ _)
      · have h2 : d.gone p = false := by simpa using h2
        by_cases h3 : (d.s.nodes.el m).lost = true
        · have eR : bindR d p m = 110 := by simp [bindR, e1, e2, h3]
          have eD : bindD d p m = d := by simp [bindD, eR]
          rw [eR, eD] at hk
          simp -dsimp -implicitDefEqProofs [go_sem, e1, e2, h.t, h.o, h.g, h.n, hp, hm, encL_get? _ hp, encL_get? _ hm, h1, h2, h3, nodeC_eq (d.s.nodes.el m)]
          refine callW_f (state_pure true) ?_
          simp -dsimp -implicitDefEqProofs [go_sem]
          exact hk _ _ (by omega) h (Kept.refl _ _ _)
        · have h3 : (d.s.nodes.el m).lost = false := by simpa using h3
          have eR : bindR d p m = 0 := by simp [bindR, e1, e2, h1, h2, h3]
          have eD : bindD d p m = putD d p m := by simp [bindD, eR]
          rw [eR, eD] at hk
          simp -dsimp -implicitDefEqProofs [go_sem, e1, e2, h.t, h.o, h.g, h.n, hp, hm, encL_get? _ hp, encL_get? _ hm, h1, h2, h3, nodeC_eq (d.s.nodes.el m)]
          refine callW_f (state_pure false) ?_
          simp -dsimp -implicitDefEqProofs [go_sem]
          refine put_ok h hd (hA.le (by omega)) hp hm h1 fun m' n' hn' hm' hkept => ?_
          simp -dsimp -implicitDefEqProofs [go_sem]
          exact hk _ _ (by omega) hm' (fun id hid hl => hkept id (by omega) hl)
    · have e3 : (d.on p != -1) = true := by simpa using h1
      have eR : bindR d p m = 110 := by simp [bindR, e1, e2, h1]
      have eD : bindD d p m = d := by simp [bindD, eR]
      rw [eR, eD] at hk
      simp -dsimp -implicitDefEqProofs [go_sem, e1, e2, h.t, h.o, hp, encL_get? _ hp, e3]
      refine callW_f (state_pure true) ?_
      simp -dsimp -implicitDefEqProofs [go_sem]
      exact hk _ _ (by omega) h (Kept.refl _ _ _)
  · have eR : bindR d k n = 9 := by simp [bindR, he]
    have eD : bindD d k n = d := by simp [bindD, eR]
    rw [eR, eD] at hk
    have em : (if nodeE d n > podE d k then nodeE d n else podE d k) = 9 := by
      rcases podE_or d k with e1 | e1 <;> rcases nodeE_or d n with e2 | e2 <;> simp [e1, e2] at he ⊢
    simp -dsimp -implicitDefEqProofs [go_sem, em]
    exact hk _ _ (by omega) h (Kept.refl _ _ _)
end
end Go.Proofs.YthpmgnbehahkfaaGreat
end
section
namespace Go.Proofs.YthpmgnbehahkfaaGreat
open Go.RowKit Go.Dk Go.Dn

theorem usedOf_congr {s t : SnapD} (h : s.pods = t.pods) (on : Nat → Int) (n i : Nat) : usedOf s on n i = usedOf t on n i := by unfold usedOf; rw [h]
theorem nodeC_cordon (x : NodeD) (b : Bool) : [S x.name, I (x.cap 0), I (x.cap 1), I (x.cap 2), I (x.cap 3), I (x.cap 4), labsF x.labels, labsF x.taints, B b, B x.lost] = nodeC { x with cordon := b } := rfl
theorem nodeC_lost (x : NodeD) (b : Bool) : [S x.name, I (x.cap 0), I (x.cap 1), I (x.cap 2), I (x.cap 3), I (x.cap 4), labsF x.labels, labsF x.taints, B x.cordon, B b] = nodeC { x with lost := b } := rfl
section
variable {mem : Nat → Option M} {A : SA} {d : StD} {nx : Nat} {K : D → (Nat → Option M) → Nat → Prop}
/-- a node is another -/
def nodeD (d : StD) (k : Nat) (x : NodeD) : StD := { d with s := { d.s with nodes := setN d.s.nodes k x } }
theorem nodeD_ok (hd : DOk d) (k : Nat) (x : NodeD) : DOk (nodeD d k x) :=
  ⟨⟨hd.s.n8, hd.s.p24, hd.s.o8, hd.s.req, hd.s.sum⟩, hd.on, hd.own, hd.used, hd.cnt, hd.wn⟩
def cordonR (d : StD) (k : Int) : Int := if nodeE d k = 0 then (if (d.s.nodes.el k.toNat).lost = true then 110 else 0) else 9
def cordonD (d : StD) (k : Int) (b : Bool) : StD := if cordonR d k = 0 then nodeD d k.toNat { d.s.nodes.el k.toNat with cordon := b } else d
theorem cordonD_ok (hd : DOk d) (k : Int) (b : Bool) : DOk (cordonD d k b) := by
  unfold cordonD
  split
  · exact nodeD_ok hd _ _
  · exact hd
set_option maxRecDepth 100000 in
theorem cordon_S (h : StoreM mem A d) (hA : A.Ok nx) (k : Int) (b : Bool) (hk : ∀ m' n', nx ≤ n' → StoreM m' A (cordonD d k b) → Kept A.ids nx mem m' → K (.f (I (cordonR d k))) m' n') : callS Tryz.prog 35 [.loc A.t 0, .f (I k), .f (B b)] mem nx K := by
  have hD := hA.ne
  refine callS.of_run (lit := true) (B := fun n => if n = 1 then [2] else []) Tryz.func35 rfl rfl rfl rfl (Nat.le_of_ble_eq_true rfl) (runC_of_runCL ?_)
  simp -dsimp -implicitDefEqProofs [go_sem]
  refine node_S h k fun n1 hn1 => ?_
  rcases nodeE_or d k with e | e
  · obtain ⟨p, rfl, hp⟩ := nodeE_ok e
    by_cases h1 : (d.s.nodes.el p).lost = true
    · have eR : cordonR d p = 110 := by simp [cordonR, e, h1]
      have eD : cordonD d p b = d := by simp [cordonD, eR]
      rw [eR, eD] at hk
      simp -dsimp -implicitDefEqProofs [go_sem, e, h.t, h.n, hp, encL_get? _ hp, h1, nodeC_eq (d.s.nodes.el p)]
      refine callW_f (state_pure true) ?_
      simp -dsimp -implicitDefEqProofs [go_sem]
      exact hk _ _ (by omega) h (Kept.refl _ _ _)
    · have h1 : (d.s.nodes.el p).lost = false := by simpa using h1
      have eR : cordonR d p = 0 := by simp [cordonR, e, h1]
      have eD : cordonD d p b = nodeD d p { d.s.nodes.el p with cordon := b } := by simp [cordonD, eR]
      rw [eR, eD] at hk
      simp -dsimp -implicitDefEqProofs [go_sem, e, h.t, h.n, hp, encL_get? _ hp, h1, nodeC_eq (d.s.nodes.el p)]
      refine callW_f (state_pure false) ?_
      simp -dsimp -implicitDefEqProofs [go_sem, h.t, h.n, hp, encL_get? _ hp, h1, nodeC_eq (d.s.nodes.el p)]
      have hC := nodeC_cordon (d.s.nodes.el p) b
      rw [h1] at hC
      rw [hC, encN_set _ _ _ hp]
      rw [← h1]
      refine hk _ _ (by omega) ⟨?_, ?_, ?_, ?_, ?_, ?_, ?_⟩ ?_
      · simp -dsimp -implicitDefEqProofs [go_sem, hD, h.t]; rfl
      · simp -dsimp -implicitDefEqProofs [go_sem, hD]; rfl
      · simp -dsimp -implicitDefEqProofs [go_sem, hD, h.p]; rfl
      · simp -dsimp -implicitDefEqProofs [go_sem, hD, h.q]; rfl
      · simp -dsimp -implicitDefEqProofs [go_sem, hD, h.o]; rfl
      · simp -dsimp -implicitDefEqProofs [go_sem, hD, h.g]; rfl
      · simp -dsimp -implicitDefEqProofs [go_sem, hD, h.w]; rfl
      · intro id _ hid
        simp only [SA.ids, List.mem_cons, not_or] at hid
        simp -dsimp -implicitDefEqProofs [upd, hid]
  · have eR : cordonR d k = 9 := by simp [cordonR, e]
    have eD : cordonD d k b = d := by simp [cordonD, eR]
    rw [eR, eD] at hk
    simp -dsimp -implicitDefEqProofs [go_sem, e]
    exact hk _ _ (by omega) h (Kept.refl _ _ _)
def goneR (d : StD) (k : Int) : Int := if podE d k = 0 then (if d.gone k.toNat = true then 110 else 0) else 9
def outD (d : StD) (p : Nat) : StD := if d.on p = -1 then d else takeD d p (d.on p).toNat
def goneD (d : StD) (k : Int) : StD := if goneR d k = 0 then outD { d with gone := setBf d.gone k.toNat true } k.toNat else d
theorem outD_ok (hd : DOk d) {p : Nat} (hp : p < d.s.pods.n) : DOk (outD d p) := by
  unfold outD
  split
  · exact hd
  · rename_i h
    rcases hd.on p hp with e | ⟨n, hn, e⟩
    · exact absurd e h
    · rw [e, Int.toNat_natCast]
      exact takeD_ok hd hp e
theorem goneF_ok (hd : DOk d) (f : Nat → Bool) : DOk { d with gone := f } := ⟨hd.s, hd.on, hd.own, hd.used, hd.cnt, hd.wn⟩
theorem goneD_ok (hd : DOk d) (k : Int) : DOk (goneD d k) := by
  unfold goneD
  split
  · rename_i h
    have : podE d k = 0 := by
      unfold goneR at h
      split at h
      · assumption
      · cases h
    obtain ⟨p, rfl, hp⟩ := podE_ok this
    exact outD_ok (goneF_ok hd _) (by simpa using hp)
  · exact hd
/-- take, wherever it is -/
theorem out_S (h : StoreM mem A d) (hd : DOk d) (hA : A.Ok nx) {p : Nat} (hp : p < d.s.pods.n)
    (hk : ∀ m' n', nx ≤ n' → StoreM m' A (outD d p) → Kept A.ids nx mem m' → K (.tup []) m' n') : callS Tryz.prog 86 [.loc A.t 0, .f (I p)] mem nx K := by
  rcases hd.on p hp with e | ⟨n, hn, e⟩
  · refine take_none h hA hp e ?_
    simpa [outD, e] using hk
  · refine take_ok h hd hA hp hn e ?_
    have e4 : ¬ ((n : Int) = -1) := by omega
    simpa [outD, e, e4] using hk
set_option maxRecDepth 100000 in
theorem gone_S (h : StoreM mem A d) (hd : DOk d) (hA : A.Ok nx) (k : Int) (hk : ∀ m' n', nx ≤ n' → StoreM m' A (goneD d k) → Kept A.ids nx mem m' → K (.f (I (goneR d k))) m' n') : callS Tryz.prog 32 [.loc A.t 0, .f (I k)] mem nx K := by
  have hD := hA.ne
  refine callS.of_run (lit := true) (B := fun n => if n = 1 then [2] else if n = 8 then [2] else []) Tryz.func32 rfl rfl rfl rfl (Nat.le_of_ble_eq_true rfl) (runC_of_runCL ?_)
  simp -dsimp -implicitDefEqProofs [go_sem]
  refine pod_S h k fun n1 hn1 => ?_
  rcases podE_or d k with e | e
  · obtain ⟨p, rfl, hp⟩ := podE_ok e
    by_cases h1 : d.gone p = true
    · have eR : goneR d p = 110 := by simp [goneR, e, h1]
      have eD : goneD d p = d := by simp [goneD, eR]
      rw [eR, eD] at hk
      simp -dsimp -implicitDefEqProofs [go_sem, e, h.t, h.g, hp, encL_get? _ hp, h1]
      refine callW_f (state_pure true) ?_
      simp -dsimp -implicitDefEqProofs [go_sem]
      exact hk _ _ (by omega) h (Kept.refl _ _ _)
    · have h1 : d.gone p = false := by simpa using h1
      have eR : goneR d p = 0 := by simp [goneR, e, h1]
      have eD : goneD d p = outD { d with gone := setBf d.gone p true } p := by simp [goneD, eR]
      rw [eR, eD] at hk
      simp -dsimp -implicitDefEqProofs [go_sem, e, h.t, h.g, hp, encL_get? _ hp, h1]
      refine callW_f (state_pure false) ?_
      simp -dsimp -implicitDefEqProofs [go_sem, h.t, h.g, hp, encL_get? _ hp, encB_set _ _ _ _ hp]
      have hS : StoreM (upd mem A.gg (some (.row 4 A.vg 1 (encL d.s.pods.n fun j => [B (setBf d.gone p true j)])))) A { d with gone := setBf d.gone p true } := by
        refine ⟨?_, ?_, ?_, ?_, ?_, ?_, ?_⟩
        · simp -dsimp -implicitDefEqProofs [go_sem, hD, h.t]; rfl
        · simp -dsimp -implicitDefEqProofs [go_sem, hD, h.n]
        · simp -dsimp -implicitDefEqProofs [go_sem, hD, h.p]
        · simp -dsimp -implicitDefEqProofs [go_sem, hD, h.q]
        · simp -dsimp -implicitDefEqProofs [go_sem, hD, h.o]
        · simp -dsimp -implicitDefEqProofs [go_sem, hD]
        · simp -dsimp -implicitDefEqProofs [go_sem, hD, h.w]
      refine out_S hS (goneF_ok hd _) (hA.le (by omega)) hp fun m' n' hn' hm' hkept => ?_
      simp -dsimp -implicitDefEqProofs [go_sem]
      refine hk _ _ (by omega) hm' fun id hid hl => ?_
      rw [hkept id (by omega) hl]
      simp only [SA.ids, List.mem_cons, not_or] at hl
      simp -dsimp -implicitDefEqProofs [upd, hl]
  · have eR : goneR d k = 9 := by simp [goneR, e]
    have eD : goneD d k = d := by simp [goneD, eR]
    rw [eR, eD] at hk
    simp -dsimp -implicitDefEqProofs [go_sem, e]
    exact hk _ _ (by omega) h (Kept.refl _ _ _)
def isGoneR (d : StD) (k : Int) : Bool := decide (podE d k = 0) && d.gone k.toNat
theorem isGone_S (h : StoreM mem A d) (k : Int) (hk : ∀ n', nx ≤ n' → K (.f (B (isGoneR d k))) mem n') : callS Tryz.prog 33 [.loc A.t 0, .f (I k)] mem nx K := by
  refine callS.of_run (lit := true) (B := fun n => if n = 1 then [2] else []) Tryz.func33 rfl rfl rfl rfl (Nat.le_of_ble_eq_true rfl) (runC_of_runCL ?_)
  simp -dsimp -implicitDefEqProofs [go_sem]
  refine pod_S h k fun n1 hn1 => ?_
  rcases podE_or d k with e | e
  · obtain ⟨p, rfl, hp⟩ := podE_ok e
    have eR : isGoneR d p = d.gone p := by simp [isGoneR, e]
    rw [eR] at hk
    simp -dsimp -implicitDefEqProofs [go_sem, e, h.t, h.g, hp, encL_get? _ hp]
    exact hk _ (by omega)
  · have eR : isGoneR d k = false := by simp [isGoneR, e]
    rw [eR] at hk
    simp -dsimp -implicitDefEqProofs [go_sem, e]
    exact hk _ (by omega)
def usedR (d : StD) (k : Int) : Nat → Int := if nodeE d k = 0 then d.used k.toNat else fun _ => 0
set_option maxRecDepth 100000 in
theorem used_S (h : StoreM mem A d) (hd : DOk d) (hA : A.Ok nx) (k : Int) (hk : ∀ m' n', nx ≤ n' → Kept [] nx mem m' → K (.f (fiveF (usedR d k))) m' n') : callS Tryz.prog 34 [.loc A.t 0, .f (I k)] mem nx K := by
  have hL := hA.lts
  have hS : StoreM (upd mem nx (some (.blk [.f (I 0), .f (I 0), .f (I 0), .f (I 0), .f (I 0)]))) A d := h.same hA fun id hid _ => by
    have : ¬ id = nx := by omega
    simp -dsimp -implicitDefEqProofs [upd, this]
  have hne : ¬ A.t = nx := by have := hL.1 0; omega
  refine callS.of_run (lit := true) (B := fun n => if n = 1 then [2] else []) Tryz.func34 rfl rfl rfl rfl (Nat.le_of_ble_eq_true rfl) (runC_of_runCL ?_)
  simp -dsimp -implicitDefEqProofs [go_sem]
  refine node_S hS k fun n1 hn1 => ?_
  rcases nodeE_or d k with e | e
  · obtain ⟨p, rfl, hp⟩ := nodeE_ok e
    have hn8 := hd.s.n8
    have hp8 : p < 8 := by omega
    have hp8' : (p : Int) < 8 := by omega
    have hp50 : 5 + p * 5 ≤ 50 := by omega
    have eR : usedR d p = d.used p := by simp [usedR, e]
    rw [eR] at hk
    simp -dsimp -implicitDefEqProofs [go_sem, e, h.t, hne, hp8', hp50, stC_used _ _ hp8]
    refine hk _ _ (by omega) fun id hid _ => ?_
    have : ¬ id = nx := by omega
    simp -dsimp -implicitDefEqProofs [upd, this]
  · have eR : usedR d k = fun _ => 0 := by simp [usedR, e]
    rw [eR] at hk
    simp -dsimp -implicitDefEqProofs [go_sem, e]
    refine hk _ _ (by omega) fun id hid _ => ?_
    have : ¬ id = nx := by omega
    simp -dsimp -implicitDefEqProofs [upd, this]
def cntR (d : StD) (k : Int) : Int := if 0 ≤ k ∧ k < d.s.owners.n then d.cnt k.toNat else 0
theorem count_S (h : StoreM mem A d) (hd : DOk d) (k : Int) (hk : ∀ n', nx ≤ n' → K (.f (I (cntR d k))) mem n') : callS Tryz.prog 40 [.loc A.t 0, .f (I k)] mem nx K := by
  refine callS.of_run (lit := true) (B := fun n => if n = 1 then [1] else []) Tryz.func40 rfl rfl rfl rfl (Nat.le_of_ble_eq_true rfl) (runC_of_runCL ?_)
  simp -dsimp -implicitDefEqProofs [go_sem]
  refine none_S h fun n1 hn1 => ?_
  simp -dsimp -implicitDefEqProofs [go_sem, h.t, h.q]
  refine callW_f (stIn_pure _ _) ?_
  by_cases hp : 0 ≤ k ∧ k < (d.s.owners.n : Int)
  · have eR : cntR d k = d.cnt k.toNat := by simp [cntR, hp]
    rw [eR] at hk
    obtain ⟨o, rfl⟩ : ∃ o : Nat, k = o := ⟨k.toNat, by omega⟩
    have ho8 := hd.s.o8
    have h8 : o < 8 := by omega
    have h8' : (o : Int) < 8 := by omega
    obtain ⟨p1, p2⟩ := hp
    simp -dsimp -implicitDefEqProofs [go_sem, p1, p2, h.t, h8', stC_cnt _ _ h8]
    exact hk _ (by omega)
  · have eR : cntR d k = 0 := by simp only [cntR, if_neg hp]
    rw [eR] at hk
    have e : (!decide (0 ≤ k) || !decide (k < (d.s.owners.n : Int))) = true := by simp; omega
    simp -dsimp -implicitDefEqProofs [go_sem, e]
    exact hk _ (by omega)
theorem placement_S (h : StoreM mem A d) (hd : DOk d) (hA : A.Ok nx) (hk : ∀ g m' n', nx ≤ g → g < n' → Kept [] nx mem m' → m' g = some (.row 3 0 1 (encL d.s.pods.n fun k => [I (d.on k)])) → K (.own g 0) m' n') : callS Tryz.prog 29 [.loc A.t 0] mem nx K := by
  have hp24 := hd.s.p24
  refine callS.of_run (lit := true) (B := fun n => if n = 1 then [1] else if n = 3 then [4] else []) Tryz.func29 rfl rfl rfl rfl (Nat.le_of_ble_eq_true rfl) (runC_of_runCL ?_)
  simp -dsimp -implicitDefEqProofs [go_sem]
  refine none_S h fun n1 hn1 => ?_
  simp -dsimp -implicitDefEqProofs [go_sem, h.t]
  refine cloneint_S (xs := encL d.s.pods.n fun k => [I (d.on k)]) (by simp -dsimp -implicitDefEqProofs [go_sem, h.o]) (by rw [encL_len]; omega) ?_
  simp -dsimp -implicitDefEqProofs [go_sem]
  refine hk _ _ _ (by omega) (by omega) (fun id hid _ => ?_) ?_
  · have : ¬ id = n1 + 2 + 6 := by omega
    simp -dsimp -implicitDefEqProofs [upd, this]
  · simp -dsimp -implicitDefEqProofs [upd]
end
end Go.Proofs.YthpmgnbehahkfaaGreat
end
section
namespace Go.Proofs.YthpmgnbehahkfaaGreat
open Go.RowKit Go.Dk Go.Dn

section
variable {mem : Nat → Option M} {A : SA} {d : StD} {nx : Nat} {K : D → (Nat → Option M) → Nat → Prop}
/-- those ahead of j that were on node n are taken off -/
def loseN (d : StD) (n : Nat) : Nat → StD
  | 0 => d
  | j + 1 => if (loseN d n j).on j = n then takeD (loseN d n j) j n else loseN d n j
theorem loseN_s (d : StD) (n : Nat) : ∀ j, (loseN d n j).s = d.s ∧ (loseN d n j).gone = d.gone ∧ (loseN d n j).own = d.own
  | 0 => ⟨rfl, rfl, rfl⟩
  | j + 1 => by
    have := loseN_s d n j
    simp only [loseN]
    split
    · exact this
    · exact this
theorem loseN_on (d : StD) (n : Nat) : ∀ j q, (loseN d n j).on q = if q < j ∧ d.on q = n then -1 else d.on q
  | 0, q => by simp [loseN]
  | j + 1, q => by
    simp only [loseN]
    have hj := loseN_on d n j j
    have hq := loseN_on d n j q
    simp only [Nat.lt_irrefl, false_and, if_false] at hj
    rw [hj]
    split
    · rename_i h
      show setC (loseN d n j).on j (-1) q = _
      unfold setC
      by_cases e : q = j
      · subst e; simp [h]
      · rw [if_neg e, hq]
        by_cases e2 : q < j ∧ d.on q = n
        · rw [if_pos e2, if_pos ⟨by omega, e2.2⟩]
        · rw [if_neg e2, if_neg (by omega)]
    · rename_i h
      rw [hq]
      by_cases e : q = j
      · subst e; simp [h]
      · by_cases e2 : q < j ∧ d.on q = n
        · rw [if_pos e2, if_pos ⟨by omega, e2.2⟩]
        · rw [if_neg e2, if_neg (by omega)]
theorem loseN_ok (hd : DOk d) (n : Nat) : ∀ j, j ≤ d.s.pods.n → DOk (loseN d n j)
  | 0, _ => hd
  | j + 1, hj => by
    have ih := loseN_ok hd n j (by omega)
    simp only [loseN]
    split
    · rename_i h
      exact takeD_ok ih (by rw [(loseN_s d n j).1]; omega) h
    · exact ih
def lostD (d : StD) (k : Nat) : StD := nodeD d k { d.s.nodes.el k with lost := true }
def loseD (d : StD) (k : Int) : StD := if cordonR d k = 0 then loseN (lostD d k.toNat) k.toNat d.s.pods.n else d
theorem loseD_ok (hd : DOk d) (k : Int) : DOk (loseD d k) := by
  unfold loseD
  split
  · exact loseN_ok (nodeD_ok hd _ _) _ _ (Nat.le_refl _)
  · exact hd
set_option maxRecDepth 100000 in
theorem lose_S (h : StoreM mem A d) (hd : DOk d) (hA : A.Ok nx) (k : Int) (hk : ∀ m' n', nx ≤ n' → StoreM m' A (loseD d k) → Kept A.ids nx mem m' → K (.f (I (cordonR d k))) m' n') : callS Tryz.prog 31 [.loc A.t 0, .f (I k)] mem nx K := by
  have hD := hA.ne
  have hp24 := hd.s.p24
  refine callS.of_run (lit := true) (B := fun n => if n = 1 then [2] else if n = 12 then [2] else []) Tryz.func31 rfl rfl rfl rfl (Nat.le_of_ble_eq_true rfl) (runC_of_runCL ?_)
  simp -dsimp -implicitDefEqProofs [go_sem]
  refine node_S h k fun n1 hn1 => ?_
  rcases nodeE_or d k with e | e
  · obtain ⟨p, rfl, hp⟩ := nodeE_ok e
    by_cases h1 : (d.s.nodes.el p).lost = true
    · have eR : cordonR d p = 110 := by simp [cordonR, e, h1]
      have eD : loseD d p = d := by simp [loseD, eR]
      rw [eR, eD] at hk
      simp -dsimp -implicitDefEqProofs [go_sem, e, h.t, h.n, hp, encL_get? _ hp, h1, nodeC_eq (d.s.nodes.el p)]
      refine callW_f (state_pure true) ?_
      simp -dsimp -implicitDefEqProofs [go_sem]
      exact hk _ _ (by omega) h (Kept.refl _ _ _)
    · have h1 : (d.s.nodes.el p).lost = false := by simpa using h1
      have eR : cordonR d p = 0 := by simp [cordonR, e, h1]
      have eD : loseD d p = loseN (lostD d p) p d.s.pods.n := by simp [loseD, eR]
      rw [eR, eD] at hk
      simp -dsimp -implicitDefEqProofs [go_sem, e, h.t, h.n, hp, encL_get? _ hp, h1, nodeC_eq (d.s.nodes.el p)]
      refine callW_f (state_pure false) ?_
      simp -dsimp -implicitDefEqProofs [go_sem, h.t, h.n, h.o, hp, hD, encL_get? _ hp, h1, nodeC_eq (d.s.nodes.el p)]
      have hC := nodeC_lost (d.s.nodes.el p) true
      rw [hC, encN_set _ _ _ hp]
      have hS : StoreM (upd mem A.gn (some (.row 75 A.vn 10 (encL (setN d.s.nodes p { d.s.nodes.el p with lost := true }).n fun j => nodeC ((setN d.s.nodes p { d.s.nodes.el p with lost := true }).el j))))) A (lostD d p) := by
        refine ⟨?_, ?_, ?_, ?_, ?_, ?_, ?_⟩
        · simp -dsimp -implicitDefEqProofs [go_sem, hD, h.t]; rfl
        · simp -dsimp -implicitDefEqProofs [go_sem, hD]; rfl
        · simp -dsimp -implicitDefEqProofs [go_sem, hD, h.p]; rfl
        · simp -dsimp -implicitDefEqProofs [go_sem, hD, h.q]; rfl
        · simp -dsimp -implicitDefEqProofs [go_sem, hD, h.o]; rfl
        · simp -dsimp -implicitDefEqProofs [go_sem, hD, h.g]; rfl
        · simp -dsimp -implicitDefEqProofs [go_sem, hD, h.w]; rfl
      have hd2 : DOk (lostD d p) := nodeD_ok hd _ _
      have hkk : Kept A.ids nx mem (upd mem A.gn (some (.row 75 A.vn 10 (encL (setN d.s.nodes p { d.s.nodes.el p with lost := true }).n fun j => nodeC ((setN d.s.nodes p { d.s.nodes.el p with lost := true }).el j))))) := fun id _ hid => by
        simp only [SA.ids, List.mem_cons, not_or] at hid
        simp -dsimp -implicitDefEqProofs [upd, hid]
      revert hS hkk
      generalize (upd mem A.gn _) = mem1
      intro hS hkk
      refine runCL_loop [] (fun m st => ∃ j : Nat, st.n = 53 ∧ st.lit = true ∧ j ≤ d.s.pods.n ∧ m = d.s.pods.n - j ∧ st.fr 0 = .loc A.t 0 ∧ st.fr 1 = .f (I p) ∧ st.fr 39 = .own A.go A.vo ∧ st.fr 40 = .f (I d.s.pods.n) ∧ st.fr 41 = .f (I j) ∧ nx ≤ st.next ∧
        StoreM st.mem A (loseN (lostD d p) p j) ∧ Kept A.ids nx mem st.mem) d.s.pods.n ⟨0, ?_⟩ ?_
      · simp -dsimp -implicitDefEqProofs [go_sem]
        exact ⟨by omega, hS, hkk⟩
      rintro m ⟨N, fr, mem2, nx2, lt⟩ ⟨j, hN, hlt, hj, rfl, f0, f1, f39, f40, f41, hnx2, hS2, hk2⟩
      dsimp only at *
      subst hN hlt
      have es := loseN_s (lostD d p) p j
      have ep : (loseN (lostD d p) p j).s.pods.n = d.s.pods.n := by rw [es.1]; rfl
      have hdj := loseN_ok hd2 p j hj
      simp -dsimp -implicitDefEqProofs [go_sem, f0, f1, f39, f40, f41]
      refine gif_dec (fun hlt => ?_) (fun hge => ?_)
      · have ho := hS2.o
        rw [ep] at ho
        simp -dsimp -implicitDefEqProofs [go_sem, f0, f1, f39, f40, f41, ho, hlt, encL_get? _ hlt]
        by_cases he : (loseN (lostD d p) p j).on j = p
        · simp -dsimp -implicitDefEqProofs [go_sem, f0, f1, f39, f40, f41, he]
          refine take_ok hS2 hdj (hA.le (by omega)) (by rw [ep]; exact hlt) (by rw [es.1]; exact hp) he fun m3 n3 hn3 hS3 hk3 => ?_
          simp -dsimp -implicitDefEqProofs [go_sem, f0, f1, f39, f40, f41]
          refine ⟨_, by omega, j + 1, by omega, rfl, w64 (by omega) (by omega), by omega, ?_, hk2.trans hk3 (by omega)⟩
          rw [loseN, if_pos he]
          exact hS3
        · have he2 : ((loseN (lostD d p) p j).on j == (p : Int)) = false := by simpa using he
          simp -dsimp -implicitDefEqProofs [go_sem, f0, f1, f39, f40, f41, he2]
          refine ⟨_, by omega, j + 1, by omega, rfl, w64 (by omega) (by omega), by omega, ?_, hk2⟩
          rw [loseN, if_neg he]
          exact hS2
      · obtain rfl : j = d.s.pods.n := by omega
        simp -dsimp -implicitDefEqProofs [go_sem]
        exact hk _ _ (by omega) hS2 hk2
  · have eR : cordonR d k = 9 := by simp [cordonR, e]
    have eD : loseD d k = d := by simp [loseD, eR]
    rw [eR, eD] at hk
    simp -dsimp -implicitDefEqProofs [go_sem, e]
    exact hk _ _ (by omega) h (Kept.refl _ _ _)
end
end Go.Proofs.YthpmgnbehahkfaaGreat
end
