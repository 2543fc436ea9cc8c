/- snap.Placement, place.Check, and the small functions of the law, as contracts of data. -/
/- The plain law of HeatApart. -/
/- in, Bring, fair, as contracts of data. -/
import Derived.Test.YtipacbaapkdnaaaGreatJXb
import Derived.Test.YtipacbaapkdnaaaGreatJEg
import Derived.Test.YtipacbaapkdnaaaGreatJDc
import Derived.Test.YtipacbaapkdnaaaGreatJXd
set_option linter.unusedSimpArgs false
set_option linter.unusedVariables false
section
namespace Go.Proofs.YtipacbaapkdnaaaGreat
open Go.RowKit Go.Dk Go.Dn

theorem snapNode_pure (s : SnapD) (ok : SnapOk s) (nm : ByteArray) : Pure Tryz.prog 51 [snapF s, S nm] (I (nameIdx (fun k => (s.nodes.el k).name) s.nodes.n nm)) :=
  pure_of Tryz.func51 rfl rfl fun x vs hr => by
    obtain ⟨u, v, rfl, h1, h2⟩ := repL2 hr
    obtain ⟨n, p, o, lv, tv, pv, rfl, h⟩ := snap_of_rep h1 ok
    unfold Rep at h2
    subst h2
    exact snapNode_any h nm
theorem placeCheck_pure (s : SnapD) (ok : SnapOk s) (l : Lst Int) (hl : l.n ≤ 1048576) : Pure Tryz.prog 25 [snapF s, intsF l] (I (placeE s l)) :=
  pure_of Tryz.func25 rfl rfl fun x vs hr => by
    obtain ⟨u, v, rfl, h1, h2⟩ := repL2 hr
    obtain ⟨n, p, o, lv, tv, pv, rfl, h⟩ := snap_of_rep h1 ok
    exact placeCheck_any h (ints_of_rep h2 hl)

set_option maxRecDepth 100000 in
theorem pl1_pure (s : SnapD) (ok : SnapOk s) (k : Nat) : Pure Tryz.prog 50 [.agg (podC (s.pods.el k)), .ref (snapC s)] (I (onV s k)) := by
  refine Pure.of_run (lit := true) Tryz.func50 rfl rfl rfl rfl (Nat.le_of_ble_eq_true rfl) (run_of_runL ?_)
  unfold St.enter
  simp (dsimp := false) (implicitDefEqProofs := false) [go_sem, podC_eq (s.pods.el k), snapC]
  refine gif_split (fun he => ?_) (fun he => ?_)
  · simp (dsimp := false) (implicitDefEqProofs := false) [go_sem, he]
    simp [onV, he]
  · simp (dsimp := false) (implicitDefEqProofs := false) [go_sem, he]
    refine callW_f (snapNode_pure s ok _) ?_
    simp (dsimp := false) (implicitDefEqProofs := false) [go_sem, he]
    simp [onV, he]
set_option maxRecDepth 100000 in
theorem eachPod_pure (p : Lst PodD) (hp : p.n ≤ 1048576) (g : Nat) (gc : List FD) (f : Nat → Int) (hg : ∀ k, Pure Tryz.prog g (.agg (podC (p.el k)) :: gc) (I (f k))) : Pure Tryz.prog 49 [podsF p, .fn g gc] (intsF ⟨p.n, f⟩) := by
  refine Pure.of_run (lit := true) Tryz.func49 rfl rfl rfl rfl (Nat.le_of_ble_eq_true rfl) (run_of_runL ?_)
  unfold St.enter
  simp (dsimp := false) (implicitDefEqProofs := false) [go_sem]
  refine andL_mk (by omega) ?_
  simp (dsimp := false) (implicitDefEqProofs := false) [go_sem]
  refine runL_loop [] 8 (by simp (dsimp := false) (implicitDefEqProofs := false) [go_sem]) (fun m st => ∃ j v : Nat, st.n = 25 ∧ st.lit = true ∧ j ≤ p.n ∧ m = p.n - j ∧ st.fr 1 = .f (.fn g gc) ∧ st.fr 5 = .own 3 v ∧ st.fr 11 = .f (podsF p) ∧ st.fr 12 = .f (I p.n) ∧ st.fr 13 = .f (I j) ∧ st.mem 3 = some (.row 3 v 1 (encL j fun k => [I (f k)]))) p.n ⟨0, 0, ?_⟩ ?_
  · simp (dsimp := false) (implicitDefEqProofs := false) [go_sem]
  rintro m ⟨N, fr, mem, nx, lt⟩ hnx ⟨j, v, hN, hlt, hj, rfl, f1, f5, f11, f12, f13, m3⟩
  dsimp only at *
  subst hN hnx hlt
  simp (dsimp := false) (implicitDefEqProofs := false) [go_sem, f1, f5, f11, f12, f13, m3]
  refine gif_dec (fun hlt => ?_) (fun hge => ?_)
  · simp (dsimp := false) (implicitDefEqProofs := false) [go_sem, f1, f5, f11, f12, f13, m3, hlt, podC_eq (p.el j)]
    refine callW_f (fs := .agg (podC (p.el j)) :: gc) (hg j) ?_
    simp (dsimp := false) (implicitDefEqProofs := false) [go_sem, f1, f5, f11, f12, f13, m3]
    refine andL_mk (by omega) ?_
    simp (dsimp := false) (implicitDefEqProofs := false) [go_sem, f1, f5, f11, f12, f13, m3]
    exact ⟨_, by omega, j + 1, by omega, rfl, w64 (by omega) (by omega), by rw [encL_succ]⟩
  obtain rfl : j = p.n := by omega
  simp (dsimp := false) (implicitDefEqProofs := false) [go_sem, f1, f5, f11, f12, f13, m3]
  rfl
set_option maxRecDepth 100000 in
theorem snapPlacement_pure (s : SnapD) (ok : SnapOk s) : Pure Tryz.prog 23 [snapF s] (intsF (placV s)) := by
  refine Pure.of_run (lit := true) Tryz.func23 rfl rfl rfl rfl (Nat.le_of_ble_eq_true rfl) (run_of_runL ?_)
  unfold St.enter
  simp (dsimp := false) (implicitDefEqProofs := false) [go_sem, snapF, snapC]
  refine callW_f (eachPod_pure s.pods ok.p1 _ _ (onV s) (fun k => pl1_pure s ok k)) ?_
  simp (dsimp := false) (implicitDefEqProofs := false) [go_sem]
  rfl

def inB (l : List Int) (n : Int) : Bool := l.any fun x => x == n
end Go.Proofs.YtipacbaapkdnaaaGreat
end
section
namespace Go.Proofs.YtipacbaapkdnaaaGreat
open Go.RowKit Go.Dk Go.Dn

theorem podsL_mem {l : Lst Int} {x a : Int} : ∀ {n : Nat}, a ∈ podsL l x n → ∃ k : Nat, a = k ∧ k < n ∧ l.el k = x
  | 0, h => by cases h
  | n + 1, h => by
    simp only [podsL, List.mem_append] at h
    rcases h with h | h
    · obtain ⟨k, h1, h2, h3⟩ := podsL_mem h
      exact ⟨k, h1, by omega, h3⟩
    · split at h
      · rename_i he
        simp at h
        exact ⟨n, h, by omega, he⟩
      · cases h
theorem podsL_sorted (l : Lst Int) (x : Int) : ∀ n, (podsL l x n).Pairwise (· < ·)
  | 0 => List.Pairwise.nil
  | n + 1 => by
    simp only [podsL]
    rw [List.pairwise_append]
    refine ⟨podsL_sorted l x n, ?_, fun a ha b hb => ?_⟩
    · split <;> simp
    · obtain ⟨k, rfl, hk, -⟩ := podsL_mem ha
      split at hb
      · simp at hb; subst hb; omega
      · cases hb
theorem pods_el {ns : List Int} {i : Nat} (h : i < ns.length) : (ofL ns).el i = ns[i] := by
  show ns.getD i 0 = _
  simp [List.getD, List.getElem?_eq_getElem h]
theorem pods_at {l : Lst Int} {x : Int} {n i : Nat} (h : i < (podsL l x n).length) : ∃ k : Nat, (ofL (podsL l x n)).el i = k ∧ k < n ∧ l.el k = x := by
  rw [pods_el h]
  exact podsL_mem (List.getElem_mem h)
theorem pods_up {l : Lst Int} {x : Int} {n i : Nat} (h : i + 1 < (podsL l x n).length) : (ofL (podsL l x n)).el i < (ofL (podsL l x n)).el (i + 1) := by
  rw [pods_el h, pods_el (by omega)]
  exact List.pairwise_iff_getElem.1 (podsL_sorted l x n) i (i + 1) (by omega) h (by omega)

/-- is a number in a list? -/
def inL (l : Lst Int) (n : Int) : Bool := anyB (fun k => decide (l.el k = n)) l.n
theorem inL_ofL (ns : List Int) (n : Int) : inL (ofL ns) n = decide (n ∈ ns) := by
  unfold inL
  cases h : decide (n ∈ ns) with
  | true =>
    obtain ⟨i, hi, e⟩ := List.getElem_of_mem (of_decide_eq_true h)
    exact anyB_true (k := i) hi (by rw [pods_el hi]; simpa using e)
  | false =>
    refine anyB_false fun k hk => ?_
    rw [decide_eq_false_iff_not]
    intro e
    rw [pods_el hk] at e
    exact of_decide_eq_false h (by rw [← e]; exact List.getElem_mem hk)
theorem pickL_mem {p : Nat → Bool} {j : Nat} : ∀ {m : Nat}, (j : Int) ∈ pickL p m ↔ j < m ∧ p j = true
  | 0 => by simp [pickL]
  | m + 1 => by
    simp only [pickL, List.mem_append, pickL_mem (m := m)]
    constructor
    · rintro (h | h)
      · exact ⟨by omega, h.2⟩
      · split at h
        · rename_i hp
          simp at h
          have : j = m := by omega
          subst this
          exact ⟨by omega, hp⟩
        · cases h
    · rintro ⟨h1, h2⟩
      by_cases e : j = m
      · subst e
        right
        rw [if_pos h2]
        simp
      · exact .inl ⟨by omega, h2⟩
theorem inL_pick {p : Nat → Bool} {j m : Nat} (h : j < m) : inL (ofL (pickL p m)) j = p j := by
  rw [inL_ofL]
  cases hp : p j with
  | true => exact decide_eq_true (pickL_mem.2 ⟨h, hp⟩)
  | false => exact decide_eq_false fun hm => by rw [(pickL_mem.1 hm).2] at hp; cases hp

/-! ### How many there are -/
def sumP (l : Lst Int) (k : Nat) : Nat → Nat
  | 0 => 0
  | n + 1 => sumP l k n + (podsL l n k).length
def cntP (l : Lst Int) : Nat → Nat
  | 0 => 0
  | k + 1 => cntP l k + if 0 ≤ l.el k then 1 else 0
theorem cntP_le (l : Lst Int) : ∀ k, cntP l k ≤ k
  | 0 => Nat.le_refl _
  | k + 1 => by
    have := cntP_le l k
    simp only [cntP]
    split <;> omega
theorem sumP_step (l : Lst Int) (k : Nat) : ∀ n : Nat, sumP l (k + 1) n = sumP l k n + if 0 ≤ l.el k ∧ l.el k < n then 1 else 0
  | 0 => by
    simp only [sumP]
    rw [if_neg (by omega)]
  | n + 1 => by
    have ih := sumP_step l k n
    simp only [sumP, podsL, List.length_append, ih]
    by_cases h1 : l.el k = n
    · rw [if_neg (by omega), if_pos h1, if_pos (by omega)]
      simp
      omega
    · rw [if_neg h1]
      by_cases h2 : 0 ≤ l.el k ∧ l.el k < n
      · rw [if_pos h2, if_pos (by omega)]
        simp
        omega
      · rw [if_neg h2, if_neg (by omega)]
        simp
theorem sumP_zero (l : Lst Int) : ∀ n, sumP l 0 n = 0
  | 0 => rfl
  | n + 1 => by simp [sumP, podsL, sumP_zero l n]
theorem sumP_eq (l : Lst Int) (n : Nat) : ∀ k, (∀ j, j < k → l.el j < n) → sumP l k n = cntP l k
  | 0, _ => sumP_zero l n
  | k + 1, h => by
    rw [sumP_step, sumP_eq l n k fun j hj => h j (by omega)]
    simp only [cntP]
    have := h k (by omega)
    by_cases h0 : 0 ≤ l.el k
    · rw [if_pos ⟨h0, this⟩, if_pos h0]
    · rw [if_neg (by omega), if_neg h0]
theorem sumP_mono (l : Lst Int) (k : Nat) {a b : Nat} (h : a ≤ b) : sumP l k a ≤ sumP l k b := by
  induction h with
  | refl => exact Nat.le_refl _
  | step h ih => simp only [sumP]; omega
theorem may_at {s : SnapD} {l : Lst Int} (h : placeE s l = 0) : l.n = s.pods.n ∧ ∀ j, j < l.n → l.el j < s.nodes.n := by
  unfold placeE at h
  split at h
  · split at h
    · rename_i h2
      refine ⟨h2.1, fun j hj => ?_⟩
      have h3 : oddP s (l.el j) = false := by
        cases ho : oddP s (l.el j) with
        | false => rfl
        | true => have := anyB_true (p := fun k => oddP s (l.el k)) hj ho; rw [h2.2] at this; cases this
      simp only [oddP, Bool.or_eq_false_iff, decide_eq_false_iff_not] at h3
      omega
    · cases h
  · rename_i h1
    exact absurd h h1
theorem pods_of_may {s : SnapD} {l : Lst Int} (h : placeE s l = 0) {k : Nat} (hk : k < s.nodes.n) : podsV s l k = podsL l k l.n := by
  unfold podsV
  rw [if_pos (mayNB_at (by unfold mayB; exact decide_eq_true h) hk)]

/-! ### A policy out of numbers -/
def bringV (a n : Int) : Int := if a.tmod n < 0 then a.tmod n + n else a.tmod n
theorem bringV_range {a n : Int} (h : 0 < n) : 0 ≤ bringV a n ∧ bringV a n < n := by
  have h1 := Int.tmod_lt_of_pos a h
  have h2 := Int.lt_tmod_of_pos a h
  unfold bringV
  split <;> omega
def mnV (a b : Int) : Int := if b < a then b else a
def mxV (a b : Int) : Int := if b > a then b else a
def fairG (a b c d : Int) : GoalD := ⟨fun i => if i = 0 then mnV (bringV a 1001) (bringV b 1001) else mnV (bringV c 1001) (bringV d 1001), fun i => if i = 0 then mxV (bringV a 1001) (bringV b 1001) else mxV (bringV c 1001) (bringV d 1001), 0, 0, 0, false⟩
theorem mnmx {a b : Int} (h1 : 0 ≤ a ∧ a < 1001) (h2 : 0 ≤ b ∧ b < 1001) : 0 ≤ mnV a b ∧ mnV a b ≤ mxV a b ∧ mxV a b ≤ 1000 := by
  unfold mnV mxV
  split <;> split <;> omega
theorem fair_low (a b c d : Int) : (0 ≤ (fairG a b c d).low 0 ∧ (fairG a b c d).low 0 ≤ (fairG a b c d).high 0 ∧ (fairG a b c d).high 0 ≤ 1000) ∧ (0 ≤ (fairG a b c d).low 1 ∧ (fairG a b c d).low 1 ≤ (fairG a b c d).high 1 ∧ (fairG a b c d).high 1 ≤ 1000) :=
  ⟨mnmx (bringV_range (by decide)) (bringV_range (by decide)), mnmx (bringV_range (by decide)) (bringV_range (by decide))⟩
theorem fair_may (a b c d : Int) : goalE (fairG a b c d) = 0 := by
  obtain ⟨h0, h1⟩ := fair_low a b c d
  unfold goalE
  rw [if_pos]
  simp only [goalK, baseB, lowB, winB, Bool.and_eq_true, decide_eq_true_eq]
  refine ⟨⟨⟨⟨⟨?_, ?_⟩, ?_, ?_⟩, ?_, ?_⟩, ⟨?_, ?_⟩, ?_, ?_⟩, ⟨?_, ?_⟩, ?_, ?_⟩
  all_goals first | omega | (show (0 : Int) ≤ 0; decide) | (show (0 : Int) ≤ 31; decide) | (show (0 : Int) ≤ 48; decide) | (show (0 : Int) ≤ 8; decide)
theorem low_high {s : SnapD} {l : Lst Int} {g : GoalD} (h0 : g.low 0 ≤ g.high 0) (h1 : g.low 1 ≤ g.high 1) (k : Nat) : (lowP s l g k && highP s l g k) = false := by
  cases h : lowP s l g k with
  | false => rfl
  | true =>
    simp only [lowP, Bool.and_eq_true, decide_eq_true_eq] at h
    obtain ⟨⟨⟨-, -⟩, h2⟩, h3⟩ := h
    simp only [highP, Bool.true_and]
    rw [decide_eq_false (show ¬ g.high 0 < shV s l k 0 by omega), decide_eq_false (show ¬ g.high 1 < shV s l k 1 by omega)]
    simp
end Go.Proofs.YtipacbaapkdnaaaGreat
end
section
namespace Go.Proofs.YtipacbaapkdnaaaGreat
open Go.RowKit Go.Dk Go.Dn

set_option maxRecDepth 100000 in
theorem in_pure (l : Lst Int) (hl : l.n ≤ 1048576) (n : Int) : Pure Tryz.prog 26 [intsF l, I n] (B (inL l n)) := by
  refine Pure.of_run (lit := true) Tryz.func26 rfl rfl rfl rfl (Nat.le_of_ble_eq_true rfl) (run_of_runL ?_)
  unfold St.enter
  simp (dsimp := false) (implicitDefEqProofs := false) [go_sem]
  refine runL_loop [] 2 (by simp (dsimp := false) (implicitDefEqProofs := false) [go_sem]) (fun m st => ∃ j : Nat, st.n = 18 ∧ st.lit = true ∧ j ≤ l.n ∧ m = l.n - j ∧ st.fr 0 = .f (intsF l) ∧ st.fr 1 = .f (I n) ∧ st.fr 5 = .f (I j) ∧ ∀ k, k < j → l.el k ≠ n) l.n ⟨0, ?_⟩ ?_
  · simp (dsimp := false) (implicitDefEqProofs := false) [go_sem]
  rintro m ⟨N, fr, mem, nx, lt⟩ hnx ⟨j, hN, hlt, hj, rfl, f0, f1, f5, hno⟩
  dsimp only at *
  subst hN hnx hlt
  simp (dsimp := false) (implicitDefEqProofs := false) [go_sem, f0, f1, f5]
  refine gif_dec (fun hlt => ?_) (fun hge => ?_)
  · simp (dsimp := false) (implicitDefEqProofs := false) [go_sem, f0, f1, f5, hlt]
    refine gif_split (fun he => ?_) (fun he => ?_)
    · simp (dsimp := false) (implicitDefEqProofs := false) [go_sem, he]
      exact anyB_true (p := fun k => decide (l.el k = n)) (k := j) hlt (by simpa using he)
    · simp (dsimp := false) (implicitDefEqProofs := false) [go_sem, he, f0, f1, f5]
      refine ⟨_, by omega, j + 1, by omega, rfl, w64 (by omega) (by omega), fun k hk => ?_⟩
      by_cases e : k = j
      · subst e; simpa using he
      · exact hno k (by omega)
  · obtain rfl : j = l.n := by omega
    simp (dsimp := false) (implicitDefEqProofs := false) [go_sem, f0, f1, f5, hge]
    exact anyB_false fun k hk => decide_eq_false (hno k hk)
set_option maxRecDepth 100000 in
theorem bring_pure (a n : Int) (hn : 0 < n) (h2 : n ≤ 4611686018427387904) : Pure Tryz.prog 27 [I a, I n] (I (bringV a n)) := by
  have hn0 : n ≠ 0 := by omega
  have h3 := Int.tmod_lt_of_pos a hn
  have h4 := Int.lt_tmod_of_pos a hn
  refine Pure.of_run (lit := true) Tryz.func27 rfl rfl rfl rfl (Nat.le_of_ble_eq_true rfl) (run_of_runL ?_)
  unfold St.enter
  simp (dsimp := false) (implicitDefEqProofs := false) [go_sem, ibin, hn0]
  refine gif_dec (fun hlt => ?_) (fun hge => ?_)
  · simp (dsimp := false) (implicitDefEqProofs := false) [go_sem, ibin]
    rw [bringV, if_pos hlt, w64 (by omega) (by omega)]
  · simp (dsimp := false) (implicitDefEqProofs := false) [go_sem, ibin]
    rw [bringV, if_neg hge]
set_option maxRecDepth 100000 in
theorem fair_pure (a b c d : Int) : Pure Tryz.prog 24 [.agg [I a, I b, I c, I d]] (goalF (fairG a b c d)) := by
  refine Pure.of_run (lit := true) Tryz.func24 rfl rfl rfl rfl (Nat.le_of_ble_eq_true rfl) (run_of_runL ?_)
  unfold St.enter
  simp (dsimp := false) (implicitDefEqProofs := false) [go_sem]
  refine runL_unroll 3 (iter_step ?_)
  simp (dsimp := false) (implicitDefEqProofs := false) [go_sem, wr0, wr1, wr2, wr3]
  refine runL_draw [[], [0], [1, 0], [2, 1, 0], [3, 2, 1, 0], [], [5], [6, 5], [7, 6, 5], [8, 7, 6, 5], [9, 8, 7, 6, 5, 4, 3, 2, 1, 0], [4, 3, 2, 1, 0, 10, 9, 8, 7, 6, 5], [10, 9, 8, 7, 6, 5, 4, 3, 2, 1, 0, 11]] (by kernel_rfl) (by kernel_rfl) ?_
  simp (dsimp := false) (implicitDefEqProofs := false) [go_sem, wr0, wr1, wr2, wr3, Tv, Cw, silentAt, silentOp]
  refine callW_f (bring_pure a 1001 (by decide) (by decide)) ?_
  simp (dsimp := false) (implicitDefEqProofs := false) [go_sem, wr0, wr1, wr2, wr3, Tv, Cw, silentAt, silentOp]
  refine callW_f (bring_pure b 1001 (by decide) (by decide)) ?_
  simp (dsimp := false) (implicitDefEqProofs := false) [go_sem, wr0, wr1, wr2, wr3, Tv, Cw, silentAt, silentOp]
  refine iter_step ?_
  simp (dsimp := false) (implicitDefEqProofs := false) [go_sem, wr0, wr1, wr2, wr3]
  refine runL_draw [[], [0], [1, 0], [2, 1, 0], [3, 2, 1, 0], [], [5], [6, 5], [7, 6, 5], [8, 7, 6, 5], [9, 8, 7, 6, 5, 4, 3, 2, 1, 0], [4, 3, 2, 1, 0, 10, 9, 8, 7, 6, 5], [10, 9, 8, 7, 6, 5, 4, 3, 2, 1, 0, 11]] (by kernel_rfl) (by kernel_rfl) ?_
  simp (dsimp := false) (implicitDefEqProofs := false) [go_sem, wr0, wr1, wr2, wr3, Tv, Cw, silentAt, silentOp]
  refine callW_f (bring_pure c 1001 (by decide) (by decide)) ?_
  simp (dsimp := false) (implicitDefEqProofs := false) [go_sem, wr0, wr1, wr2, wr3, Tv, Cw, silentAt, silentOp]
  refine callW_f (bring_pure d 1001 (by decide) (by decide)) ?_
  simp (dsimp := false) (implicitDefEqProofs := false) [go_sem, wr0, wr1, wr2, wr3, Tv, Cw, silentAt, silentOp]
  refine iter_step ?_
  simp (dsimp := false) (implicitDefEqProofs := false) [go_sem, wr0, wr1, wr2, wr3]
  rfl
end Go.Proofs.YtipacbaapkdnaaaGreat
end
