/- The plain law of HeatGrows. -/
/- vec.Fits, place.Used, CopyInts as a maker of a row. -/
import Derived.Test.YtipacbaapkdnaaaGreatJXd
import Derived.Test.YtipacbaapkdnaaaGreatJXg
import Derived.Test.YtipacbaapkdnaaaGreatJXa
import Derived.Test.YtipacbaapkdnaaaGreatJYs
set_option linter.unusedSimpArgs false
set_option linter.unusedVariables false
section
namespace Go.Proofs.YtipacbaapkdnaaaGreat
open Go.RowKit Go.Dk Go.Dn

/-- a list of numbers, one of them another -/
def setI (l : Lst Int) (k : Nat) (v : Int) : Lst Int := ⟨l.n, fun t => if t = k then v else l.el t⟩
theorem encL_set' {n k : Nat} (f : Nat → List FD) (v : List FD) (h : k < n) : (encL n f).set k v = encL n fun t => if t = k then v else f t := by
  apply List.ext_getElem?
  intro t
  rw [List.getElem?_set]
  by_cases h1 : k = t
  · subst h1
    rw [if_pos rfl, encL_get? _ h, if_pos rfl, if_pos (by rw [encL_len]; exact h)]
  · rw [if_neg h1]
    by_cases h2 : t < n
    · rw [encL_get? _ h2, encL_get? _ h2, if_neg (Ne.symm h1)]
    · rw [List.getElem?_eq_none (by rw [encL_len]; omega), List.getElem?_eq_none (by rw [encL_len]; omega)]
theorem setI_row {l : Lst Int} {k : Nat} (h : k < l.n) (v : Int) : (encL l.n fun t => [I (l.el t)]).set k [I v] = encL (setI l k v).n fun t => [I ((setI l k v).el t)] := by
  rw [encL_set' _ _ h]
  unfold setI
  congr 1
  funext t
  dsimp only
  split <;> rfl
theorem setI_set (l : Lst Int) (k : Nat) (v u : Int) : setI (setI l k v) k u = setI l k u := by
  unfold setI
  congr 1
  funext t
  dsimp only
  split <;> rfl
theorem may_set {s : SnapD} {l : Lst Int} (h : mayB s l = true) {k : Nat} {v : Int} (hv : oddP s v = false) : mayB s (setI l k v) = true := by
  obtain ⟨h1, h2, h3, h4, h5⟩ := may_facts h
  have hc : checkE s = 0 := by unfold checkE; rw [if_pos h1, if_pos ⟨h2, h3⟩]
  unfold mayB
  refine decide_eq_true ?_
  unfold placeE
  rw [if_pos hc, if_pos]
  refine ⟨h4, anyB_false fun t ht => ?_⟩
  show oddP s (if t = k then v else l.el t) = false
  split
  · exact hv
  · cases ho : oddP s (l.el t) with
    | false => rfl
    | true => have := anyB_true (p := fun k => oddP s (l.el k)) (n := l.n) ht ho; rw [h5] at this; cases this
theorem odd_none (s : SnapD) : oddP s (-1) = false := by
  unfold oddP
  rw [decide_eq_false (by omega), decide_eq_false (by omega), decide_eq_false (by omega)]
  rfl
theorem odd_at {s : SnapD} {n : Nat} (h : n < s.nodes.n) (hl : (s.nodes.el n).lost = false) : oddP s n = false := by
  unfold oddP
  rw [decide_eq_false (by omega), decide_eq_false (by omega), Int.toNat_natCast, hl]
  simp
theorem used_up {s : SnapD} {l : Lst Int} {k i : Nat} {x v : Int} (hx : 0 ≤ x) (hq : ∀ t, t < s.pods.n → 0 ≤ (s.pods.el t).req i) : ∀ m, m ≤ s.pods.n → usedF s (setI l k (-1)) x i m ≤ usedF s (setI l k v) x i m
  | 0, _ => Int.le_refl _
  | m + 1, hm => by
    have ih := used_up (l := l) (k := k) (v := v) hx hq m (by omega)
    have h0 := hq m (by omega)
    simp only [usedF]
    have : (if (setI l k (-1)).el m = x then (s.pods.el m).req i else 0) ≤ (if (setI l k v).el m = x then (s.pods.el m).req i else 0) := by
      show (if (if m = k then -1 else l.el m) = x then (s.pods.el m).req i else 0) ≤ (if (if m = k then v else l.el m) = x then (s.pods.el m).req i else 0)
      by_cases e : m = k
      · rw [if_pos e, if_pos e, if_neg (show ¬ (-1 : Int) = x by omega)]
        split <;> omega
      · rw [if_neg e, if_neg e]
        exact Int.le_refl _
    omega
theorem used_same {s : SnapD} {l : Lst Int} {k i : Nat} {x v : Int} (hx : 0 ≤ x) (hv : v ≠ x) : ∀ m, usedF s (setI l k (-1)) x i m = usedF s (setI l k v) x i m
  | 0 => rfl
  | m + 1 => by
    have ih := used_same (s := s) (l := l) (k := k) (i := i) hx hv m
    simp only [usedF, ih]
    congr 1
    show (if (if m = k then -1 else l.el m) = x then (s.pods.el m).req i else 0) = (if (if m = k then v else l.el m) = x then (s.pods.el m).req i else 0)
    by_cases e : m = k
    · rw [if_pos e, if_pos e, if_neg (show ¬ (-1 : Int) = x by omega), if_neg hv]
    · rw [if_neg e, if_neg e]
theorem share_up {u v c : Int} (hu : Qty u) (hv : Qty v) (hc : Qty c) (h : u ≤ v) : shareV u c ≤ shareV v c := by
  obtain ⟨u0, -⟩ := hu
  obtain ⟨v0, -⟩ := hv
  obtain ⟨c0, -⟩ := hc
  unfold shareV quoV
  by_cases e : c = 0
  · by_cases h1 : 0 < u
    · rw [if_pos ⟨e, h1⟩, if_pos ⟨e, by omega⟩]
      exact Int.le_refl _
    · rw [if_neg (fun x => h1 x.2), if_pos e]
      split
      · decide
      · exact Int.le_refl _
  · have hu' : ¬ (c = 0 ∧ 0 < u) := fun x => e x.1
    have hv' : ¬ (c = 0 ∧ 0 < v) := fun x => e x.1
    rw [if_neg hu', if_neg hv', if_neg e, if_neg e, Int.tdiv_eq_ediv_of_nonneg (by omega), Int.tdiv_eq_ediv_of_nonneg (by omega)]
    exact Int.ediv_le_ediv (by omega) (by omega)
theorem share_fits {u c : Int} (hu : Qty u) (hc : Qty c) (h : u ≤ c) : shareV u c ≤ 1000 := by
  obtain ⟨u0, -⟩ := hu
  obtain ⟨c0, -⟩ := hc
  unfold shareV quoV
  by_cases e : c = 0
  · rw [if_neg (fun x => by omega), if_pos e]
    decide
  · have hu' : ¬ (c = 0 ∧ 0 < u) := fun x => e x.1
    rw [if_neg hu', if_neg e, Int.tdiv_eq_ediv_of_nonneg (by omega)]
    exact Int.ediv_le_of_le_mul (by omega) (by omega)
theorem sh_eq {s : SnapD} {l : Lst Int} (h : mayB s l = true) {x : Nat} (hx : x < s.nodes.n) (i : Nat) : shV s l x i = shareV (usedF s l x i l.n) ((s.nodes.el x).cap i) := by
  have hm := mayNB_at h hx
  unfold shV usedV
  rw [if_pos hm, if_pos hm, Int.toNat_natCast]
theorem used_eq {s : SnapD} {l : Lst Int} (h : mayB s l = true) {x : Nat} (hx : x < s.nodes.n) (i : Nat) : usedV s l x i = usedF s l x i l.n := by
  unfold usedV
  rw [if_pos (mayNB_at h hx)]
/-- THE LAW: a pod more on a node -/
theorem grows {s : SnapD} {l : Lst Int} (h : mayB s l = true) {k : Nat} {v : Int} (hv : oddP s v = false) {x : Nat} (hx : x < s.nodes.n) (i : Nat) (hi : i < 5) :
    shV s (setI l k (-1)) x i ≤ shV s (setI l k v) x i ∧ (v ≠ x → shV s (setI l k (-1)) x i = shV s (setI l k v) x i) ∧ (usedV s (setI l k v) x i ≤ (s.nodes.el x).cap i → shV s (setI l k v) x i ≤ 1000) := by
  have ha := may_set (k := k) h (odd_none s)
  have hb := may_set (k := k) h hv
  obtain ⟨-, -, -, hn, -⟩ := may_facts h
  have hn1 : (setI l k (-1)).n = s.pods.n := hn
  have hn2 : (setI l k v).n = s.pods.n := hn
  have q1 := used_qty ha x i hi s.pods.n (Nat.le_refl _)
  have q2 := used_qty hb x i hi s.pods.n (Nat.le_refl _)
  have qc := cap_qty (mayNB_at h hx) i hi
  rw [Int.toNat_natCast] at qc
  rw [sh_eq ha hx, sh_eq hb hx, used_eq hb hx, hn1, hn2]
  refine ⟨share_up q1 q2 qc (used_up (by omega) (fun t ht => (req_qty h i hi t ht).1) _ (Nat.le_refl _)), fun hne => ?_, fun hf => share_fits q2 qc hf⟩
  rw [used_same (by omega) hne]
end Go.Proofs.YtipacbaapkdnaaaGreat
end
section
namespace Go.Proofs.YtipacbaapkdnaaaGreat
open Go.RowKit Go.Dk Go.Dn

def fiveF (u : Nat → Int) : FD := .agg [I (u 0), I (u 1), I (u 2), I (u 3), I (u 4)]
theorem rep_five {x : X} {u : Nat → Int} : Rep x (.agg (cells5 u).toArray) (fiveF u) := by
  unfold fiveF Rep
  refine ⟨_, rfl, ?_⟩
  simp only [repC_V, repC_nil, cells5]
  exact ⟨_, rfl, rfl, _, rfl, rfl, _, rfl, rfl, _, rfl, rfl, _, rfl, rfl, rfl⟩
theorem placeUsed_pure (s : SnapD) (ok : SnapOk s) (l : Lst Int) (hl : l.n ≤ 1048576) (k : Int) : Pure Tryz.prog 28 [snapF s, intsF l, I k] (fiveF (usedV s l k)) :=
  ⟨goes_of Tryz.func28 rfl rfl, fun x vs _ hr => by
    obtain ⟨u, v, z, rfl, h1, h2, h3⟩ := repL3 hr
    obtain ⟨n, p, o, lv, tv, pv, rfl, h⟩ := snap_of_rep h1 ok
    unfold Rep at h3
    subst h3
    exact (placeUsed_any h (ints_of_rep h2 hl) k).mono fun e w' ⟨h1, h2⟩ => ⟨_, h1, rep_five, h2⟩⟩
theorem copyRow (l : Lst Int) (hn : l.n ≤ 1048576) : PureRow Tryz.prog 9 [intsF l] 3 1 (encL l.n fun k => [I (l.el k)]) := by
  refine PureRow.of_run (lit := false) Tryz.func9 rfl rfl rfl rfl (Nat.le_of_ble_eq_true rfl) ⟨⟨by decide, fun ds hd => ?_⟩, ?_⟩ (run_of_runL ?_)
  · obtain ⟨k, -, rfl⟩ := List.mem_map.1 hd
    rfl
  · unfold encL
    simp [isV]
  unfold St.enter
  simp (dsimp := false) (implicitDefEqProofs := false) [go_sem, intsF]
  refine andL_mk (by omega) ?_
  simp (dsimp := false) (implicitDefEqProofs := false) [go_sem, intsF]
  exact ⟨4, 0, ⟨rfl, rfl⟩, rfl⟩
theorem wr4 : IntKind.i64.wrap 4 = 4 := rfl
theorem wr5 : IntKind.i64.wrap 5 = 5 := rfl
def fitsB (u c : Nat → Int) : Bool := decide (u 0 ≤ c 0) && decide (u 1 ≤ c 1) && decide (u 2 ≤ c 2) && decide (u 3 ≤ c 3) && decide (u 4 ≤ c 4)
set_option maxRecDepth 100000 in
set_option maxHeartbeats 4000000 in
theorem fits_pure (u c : Nat → Int) : Pure Tryz.prog 29 [fiveF u, fiveF c] (B (fitsB u c)) := by
  refine Pure.of_run (lit := true) Tryz.func29 rfl rfl rfl rfl (Nat.le_of_ble_eq_true rfl) (run_of_runL ?_)
  unfold St.enter
  simp (dsimp := false) (implicitDefEqProofs := false) [go_sem, fiveF]
  refine runL_unroll 6 ?_
  refine iter_step ?_
  simp (dsimp := false) (implicitDefEqProofs := false) [go_sem, wr0, wr1, wr2, wr3, wr4, wr5]
  refine runL_draw [[], [0], [1, 0], [], [3], [4, 3], [2, 1, 0, 5, 4, 3]] (by kernel_rfl) (by kernel_rfl) ?_
  simp (dsimp := false) (implicitDefEqProofs := false) [go_sem, wr0, wr1, wr2, wr3, wr4, wr5, Tv, Cw, silentAt, silentOp]
  refine gif_dec (fun h0 => ?_) (fun h0 => ?_)
  · simp (dsimp := false) (implicitDefEqProofs := false) [go_sem, h0]
    have e : decide (u 0 ≤ c 0) = false := decide_eq_false (by omega)
    simp [fitsB, e]
  simp (dsimp := false) (implicitDefEqProofs := false) [go_sem, wr0, wr1, wr2, wr3, wr4, wr5, h0]
  refine iter_step ?_
  simp (dsimp := false) (implicitDefEqProofs := false) [go_sem, wr0, wr1, wr2, wr3, wr4, wr5]
  refine runL_draw [[], [0], [1, 0], [], [3], [4, 3], [2, 1, 0, 5, 4, 3]] (by kernel_rfl) (by kernel_rfl) ?_
  simp (dsimp := false) (implicitDefEqProofs := false) [go_sem, wr0, wr1, wr2, wr3, wr4, wr5, Tv, Cw, silentAt, silentOp]
  refine gif_dec (fun h1 => ?_) (fun h1 => ?_)
  · simp (dsimp := false) (implicitDefEqProofs := false) [go_sem, h1]
    have e : decide (u 1 ≤ c 1) = false := decide_eq_false (by omega)
    simp [fitsB, e]
  simp (dsimp := false) (implicitDefEqProofs := false) [go_sem, wr0, wr1, wr2, wr3, wr4, wr5, h1]
  refine iter_step ?_
  simp (dsimp := false) (implicitDefEqProofs := false) [go_sem, wr0, wr1, wr2, wr3, wr4, wr5]
  refine runL_draw [[], [0], [1, 0], [], [3], [4, 3], [2, 1, 0, 5, 4, 3]] (by kernel_rfl) (by kernel_rfl) ?_
  simp (dsimp := false) (implicitDefEqProofs := false) [go_sem, wr0, wr1, wr2, wr3, wr4, wr5, Tv, Cw, silentAt, silentOp]
  refine gif_dec (fun h2 => ?_) (fun h2 => ?_)
  · simp (dsimp := false) (implicitDefEqProofs := false) [go_sem, h2]
    have e : decide (u 2 ≤ c 2) = false := decide_eq_false (by omega)
    simp [fitsB, e]
  simp (dsimp := false) (implicitDefEqProofs := false) [go_sem, wr0, wr1, wr2, wr3, wr4, wr5, h2]
  refine iter_step ?_
  simp (dsimp := false) (implicitDefEqProofs := false) [go_sem, wr0, wr1, wr2, wr3, wr4, wr5]
  refine runL_draw [[], [0], [1, 0], [], [3], [4, 3], [2, 1, 0, 5, 4, 3]] (by kernel_rfl) (by kernel_rfl) ?_
  simp (dsimp := false) (implicitDefEqProofs := false) [go_sem, wr0, wr1, wr2, wr3, wr4, wr5, Tv, Cw, silentAt, silentOp]
  refine gif_dec (fun h3 => ?_) (fun h3 => ?_)
  · simp (dsimp := false) (implicitDefEqProofs := false) [go_sem, h3]
    have e : decide (u 3 ≤ c 3) = false := decide_eq_false (by omega)
    simp [fitsB, e]
  simp (dsimp := false) (implicitDefEqProofs := false) [go_sem, wr0, wr1, wr2, wr3, wr4, wr5, h3]
  refine iter_step ?_
  simp (dsimp := false) (implicitDefEqProofs := false) [go_sem, wr0, wr1, wr2, wr3, wr4, wr5]
  refine runL_draw [[], [0], [1, 0], [], [3], [4, 3], [2, 1, 0, 5, 4, 3]] (by kernel_rfl) (by kernel_rfl) ?_
  simp (dsimp := false) (implicitDefEqProofs := false) [go_sem, wr0, wr1, wr2, wr3, wr4, wr5, Tv, Cw, silentAt, silentOp]
  refine gif_dec (fun h4 => ?_) (fun h4 => ?_)
  · simp (dsimp := false) (implicitDefEqProofs := false) [go_sem, h4]
    have e : decide (u 4 ≤ c 4) = false := decide_eq_false (by omega)
    simp [fitsB, e]
  simp (dsimp := false) (implicitDefEqProofs := false) [go_sem, wr0, wr1, wr2, wr3, wr4, wr5, h4]
  refine iter_step ?_
  simp (dsimp := false) (implicitDefEqProofs := false) [go_sem, wr0, wr1, wr2, wr3, wr4, wr5]
  rw [fitsB, decide_eq_true (show u 0 ≤ c 0 by omega), decide_eq_true (show u 1 ≤ c 1 by omega), decide_eq_true (show u 2 ≤ c 2 by omega), decide_eq_true (show u 3 ≤ c 3 by omega), decide_eq_true (show u 4 ≤ c 4 by omega)]
  rfl
end Go.Proofs.YtipacbaapkdnaaaGreat
end
