/- heat.Pods, drayageref12.Pods (printed by genyi.py). -/
import Derived.Test.YtipacbaapkdnaaaGreatJYh
set_option linter.unusedSimpArgs false
set_option linter.unusedVariables false
namespace Go.Proofs.YtipacbaapkdnaaaGreat
open Go.RowKit Go.Dk

/-- a list of numbers, as data -/
def ofL (ns : List Int) : Lst Int := ⟨ns.length, fun k => ns.getD k 0⟩
theorem own_ints {w : World} {B n : Nat} {v : Value} {ns : List Int} (h : w.ownsRow B 3 1 v n (ns.map (.int .i64))) (hn : n = ns.length) (hb : n ≤ 1048576) : ∃ a c, v = .slice a ns.length c ∧ IntsAt w v (ofL ns) := by
  subst hn
  have e : ns.map (Value.int .i64) = (List.range ns.length).flatMap fun k => [.int .i64 (ns.getD k 0)] := by
    apply List.ext_getElem?
    intro i
    have hf := flat_at (fun k => [Value.int .i64 (ns.getD k 0)]) ns.length 1 (fun _ _ => rfl)
    by_cases hi : i < ns.length
    · have hg := flat_get (fun k => [Value.int .i64 (ns.getD k 0)]) ns.length 1 (fun _ _ => rfl) i 0 _ hi rfl
      rw [Nat.mul_one, Nat.add_zero] at hg
      rw [hg]
      simp [List.getElem?_eq_getElem hi]
    · rw [List.getElem?_eq_none (by simp; omega), List.getElem?_eq_none (by rw [hf.1]; omega)]
  rw [e] at h
  obtain ⟨a, c, rfl, hs, -⟩ := own_sl h (fun _ _ => rfl)
  exact ⟨a, c, rfl, hb, a, c, rfl, hs⟩

/-- the pods of a node, up to a place -/
def podsL (l : Lst Int) (x : Int) : Nat → List Int
  | 0 => []
  | k + 1 => podsL l x k ++ if l.el k = x then [(k : Int)] else []
theorem podsL_len (l : Lst Int) (x : Int) : ∀ k, (podsL l x k).length ≤ k
  | 0 => Nat.le_refl _
  | k + 1 => by
    have := podsL_len l x k
    simp only [podsL, List.length_append]
    split <;> simp <;> omega
theorem podsL_none {l : Lst Int} {x : Int} : ∀ {k : Nat}, (∀ j, j < k → l.el j ≠ x) → podsL l x k = []
  | 0, _ => rfl
  | k + 1, h => by
    have ih := podsL_none (l := l) (x := x) (k := k) (fun j hj => h j (by omega))
    have hk := h k (by omega)
    simp only [podsL, ih, if_neg hk, List.append_nil]
def podsV (s : SnapD) (l : Lst Int) (x : Int) : List Int := if mayNB s l x then podsL l x l.n else []
theorem podsV_prog (s : SnapD) (l : Lst Int) (x : Int) : podsV s l x = if mayB s l && decide (0 ≤ x) then podsL l x l.n else [] := by
  unfold podsV mayNB
  by_cases h1 : (mayB s l && decide (0 ≤ x)) = true
  · rw [h1]
    by_cases h2 : x < s.nodes.n
    · simp [h2]
    · have hm : mayB s l = true := (Bool.and_eq_true _ _ ▸ h1).1
      simp only [mayB, placeE, decide_eq_true_iff] at hm
      have : podsL l x l.n = [] := podsL_none fun j hj e => by
        split at hm
        · split at hm
          · rename_i h3
            have h4 : oddP s (l.el j) = false := by
              cases ho : oddP s (l.el j) with
              | false => rfl
              | true => rw [anyB_true hj ho] at h3; cases h3.2
            rw [e] at h4
            have h5 : (s.nodes.n : Int) ≤ x := by omega
            simp [oddP, h5] at h4
          · cases hm
        · rename_i h3
          exact h3 (by simpa using hm)
      simp [h2, this]
  · simp [h1]

def PodsRel (w : World) (B : Nat) (l : Lst Int) (x : Int) (v i : Value) (wr : World) : Prop :=
  ∃ k : Nat, i = .int .i64 k ∧ k ≤ l.n ∧ wr.ownsRow B 3 1 v (podsL l x k).length ((podsL l x k).map (.int .i64)) ∧ Chg No w wr

set_option maxRecDepth 100000 in
set_option maxHeartbeats 2000000 in
theorem heatPods_any {w : World} {n p o q : Value} {s : SnapD} {lv tv : Nat → Value} {pv : Nat → PodV} (h : SnapAt w n p o s lv tv pv) {l : Lst Int} (hq : IntsAt w q l) (x : Int) :
    Calls Tryz.prog 13 #[.agg #[n, p, o], q, .int .i64 x] w fun e w' => ∃ a c, e = .returned (.slice a (podsV s l x).length c) ∧ IntsAt w' (.slice a (podsV s l x).length c) (ofL (podsV s l x)) ∧ Chg No w w' := by
  obtain ⟨i0, hi, hz0, hz1, hz2⟩ := info_parts Tryz.infoIntR
  have p1 := fun W (hc : Chg No w W) => heatMay_any (h.no hc) (hq.no hc)
  have hv := podsV_prog s l x
  generalize podsV s l x = pl at *
  obtain ⟨na, nc, pa, pc, oa, oc, rfl, rfl, rfl⟩ := h.args
  obtain ⟨hqn, qa, qc, rfl, hqs⟩ := hq
  unfold Gives at p1
  clear h
  generalize mayB s l = b at *
  cases b with
  | false =>
    obtain rfl : pl = [] := by simpa using hv
    clear hv
    go_enter Tryz.func13, Tryz.ntmps13
    go_wp2_with (go_at_call 33; refine (p1 _ ((Chg.refl No w).alloc _)).mono ?_; rintro e V ⟨rfl, hc0⟩)
    go_ret
    exact ⟨none, 0, rfl, ⟨by simp [ofL], none, 0, rfl, ⟨by simp [ofL], by omega, fun _ => rfl, fun k hk => by simp [ofL] at hk⟩⟩, ((Chg.refl No w).alloc _).trans hc0⟩
  | true =>
    by_cases hx : 0 ≤ x
    · have hx' : ¬ x < 0 := by omega
      obtain rfl : pl = podsL l x l.n := by simpa [hx] using hv
      clear hv
      go_enter Tryz.func13, Tryz.ntmps13
      go_wp2_with (go_at_call 33; refine (p1 _ ((Chg.refl No w).alloc _)).mono ?_; rintro e V ⟨rfl, hc0⟩)
      have hqs := hqs.no (((Chg.refl No w).alloc _).trans hc0)
      have hcw := ((Chg.refl No w).alloc (.cells #[.slice na s.nodes.n nc, .slice pa s.pods.n pc, .slice oa s.owners.n oc] 26)).trans hc0
      go_loopw [6, 19] (fun v i wr => PodsRel V V.heap.size l x v i wr) (fun _ i _ => l.n - (intOf i).toNat)
      case atStart => exact ⟨0, rfl, by omega, World.ownsRow_nil _ _ _ _, Chg.refl _ _⟩
      case round =>
        obtain ⟨k, rfl, hk, hown, hc⟩ := hrel
        have hsz := hc.size
        have hpl := podsL_len l x k
        by_cases hlt : k < l.n
        · obtain ⟨-, b1, o1, rfl, c1⟩ := (hqs.no hc).2.2.2 k hlt
          have q1 := c1 0 _ rfl
          rw [Nat.add_zero, Nat.mul_one] at q1
          have hlt' : (k : Int) < (l.n : Int) := by omega
          clear c1 hqs
          by_cases he : l.el k = x
          · have heq : (l.el k == x) = true := by simp [he]
            have hpk : podsL l x (k + 1) = podsL l x k ++ [(k : Int)] := by simp [podsL, he]
            have HP := Go.Lib.hid hpk
            have HE := Go.Lib.hid he
            clear hpk he
            obtain ⟨va, vc, rfl, -⟩ := Rd.of_own hown
            go_wp2_with (at_builtin; refine wpList_append_rd _ rfl _ _ _ rfl V.heap.size 3 i0 _ 1 8 Tryz.underlying27 hi hz0 hz1 hz2 rfl (by decide) (.slice va _ vc) _ _ rfl (hown.alloc _) _ 1 [.int .i64 (k : Int)] rfl (rd_new _ _ _ _ 1 1 rfl (by simp)) (by simp [Value.oneCell']) (by unfold maxLen; omega) (by omega) (by simp; omega) ?_; intro v1 w3 ho1 hg1 hi1 hfr1)
            go_roundw
            case rel => exact ⟨k + 1, by go_num, by omega, (by rw [HP.out]; simpa using ho1), Chg.grown' (hc.alloc _) hown hg1⟩
            case measure => simp [intOf]; omega
          · have heq : (l.el k == x) = false := by simp [he]
            have hpk : podsL l x (k + 1) = podsL l x k := by simp [podsL, he]
            have HP := Go.Lib.hid hpk
            have HE := Go.Lib.hid he
            clear hpk he
            go_wp2_with fail
            go_roundw
            case rel => exact ⟨k + 1, by go_num, by omega, (by rw [HP.out]; exact hown), hc⟩
            case measure => simp [intOf]; omega
        · obtain rfl : k = l.n := by omega
          obtain ⟨a, c, rfl, hI⟩ := own_ints hown rfl (by omega)
          have HI := Go.Lib.hid hI
          clear hI hown
          go_wp2_with fail
          go_ret
          exact ⟨a, c, rfl, HI.out, hcw.trans hc⟩
    · have hx' : x < 0 := by omega
      obtain rfl : pl = [] := by simpa [hx] using hv
      clear hv
      go_enter Tryz.func13, Tryz.ntmps13
      go_wp2_with (go_at_call 33; refine (p1 _ ((Chg.refl No w).alloc _)).mono ?_; rintro e V ⟨rfl, hc0⟩)
      go_ret
      exact ⟨none, 0, rfl, ⟨by simp [ofL], none, 0, rfl, ⟨by simp [ofL], by omega, fun _ => rfl, fun k hk => by simp [ofL] at hk⟩⟩, ((Chg.refl No w).alloc _).trans hc0⟩

set_option maxRecDepth 100000 in
set_option maxHeartbeats 2000000 in
theorem refPods_any {w : World} {n p o q : Value} {s : SnapD} {lv tv : Nat → Value} {pv : Nat → PodV} (h : SnapAt w n p o s lv tv pv) {l : Lst Int} (hq : IntsAt w q l) (x : Int) :
    Calls Tryz.prog 14 #[.agg #[n, p, o], q, .int .i64 x] w fun e w' => ∃ a c, e = .returned (.slice a (podsV s l x).length c) ∧ IntsAt w' (.slice a (podsV s l x).length c) (ofL (podsV s l x)) ∧ Chg No w w' := by
  obtain ⟨i0, hi, hz0, hz1, hz2⟩ := info_parts Tryz.infoIntR
  have p1 := fun W (hc : Chg No w W) => refMay_any (h.no hc) (hq.no hc) x
  have hv : podsV s l x = if mayNB s l x then podsL l x l.n else [] := rfl
  generalize podsV s l x = pl at *
  obtain ⟨na, nc, pa, pc, oa, oc, rfl, rfl, rfl⟩ := h.args
  obtain ⟨hqn, qa, qc, rfl, hqs⟩ := hq
  unfold Gives at p1
  clear h
  generalize mayNB s l x = b at *
  cases b with
  | false =>
    obtain rfl : pl = [] := by simpa using hv
    clear hv
    go_enter Tryz.func14, Tryz.ntmps14
    go_wp2_with (go_at_call 35; refine (p1 _ ((Chg.refl No w).alloc _)).mono ?_; rintro e V ⟨rfl, hc0⟩)
    go_ret
    exact ⟨none, 0, rfl, ⟨by simp [ofL], none, 0, rfl, ⟨by simp [ofL], by omega, fun _ => rfl, fun k hk => by simp [ofL] at hk⟩⟩, ((Chg.refl No w).alloc _).trans hc0⟩
  | true =>
    obtain rfl : pl = podsL l x l.n := by simpa using hv
    clear hv
    go_enter Tryz.func14, Tryz.ntmps14
    go_wp2_with (go_at_call 35; refine (p1 _ ((Chg.refl No w).alloc _)).mono ?_; rintro e V ⟨rfl, hc0⟩)
    have hqs := hqs.no (((Chg.refl No w).alloc _).trans hc0)
    have hcw := ((Chg.refl No w).alloc (.cells #[.slice na s.nodes.n nc, .slice pa s.pods.n pc, .slice oa s.owners.n oc] 26)).trans hc0
    go_loopw [7, 8] (fun v i wr => PodsRel V V.heap.size l x v i wr) (fun _ i _ => l.n - (intOf i).toNat)
    case atStart => exact ⟨0, rfl, by omega, World.ownsRow_nil _ _ _ _, Chg.refl _ _⟩
    case round =>
      obtain ⟨k, rfl, hk, hown, hc⟩ := hrel
      have hsz := hc.size
      have hpl := podsL_len l x k
      by_cases hlt : k < l.n
      · obtain ⟨-, b1, o1, rfl, c1⟩ := (hqs.no hc).2.2.2 k hlt
        have q1 := c1 0 _ rfl
        rw [Nat.add_zero, Nat.mul_one] at q1
        have hlt' : (k : Int) < (l.n : Int) := by omega
        clear c1 hqs
        by_cases he : l.el k = x
        · have heq : (l.el k == x) = true := by simp [he]
          have hpk : podsL l x (k + 1) = podsL l x k ++ [(k : Int)] := by simp [podsL, he]
          have HP := Go.Lib.hid hpk
          have HE := Go.Lib.hid he
          clear hpk he
          obtain ⟨va, vc, rfl, -⟩ := Rd.of_own hown
          go_wp2_with (at_builtin; refine wpList_append_rd _ rfl _ _ _ rfl V.heap.size 3 i0 _ 1 8 Tryz.underlying27 hi hz0 hz1 hz2 rfl (by decide) (.slice va _ vc) _ _ rfl (hown.alloc _) _ 1 [.int .i64 (k : Int)] rfl (rd_new _ _ _ _ 1 1 rfl (by simp)) (by simp [Value.oneCell']) (by unfold maxLen; omega) (by omega) (by simp; omega) ?_; intro v1 w3 ho1 hg1 hi1 hfr1)
          go_roundw
          case rel => exact ⟨k + 1, by go_num, by omega, (by rw [HP.out]; simpa using ho1), Chg.grown' (hc.alloc _) hown hg1⟩
          case measure => simp [intOf]; omega
        · have heq : (l.el k == x) = false := by simp [he]
          have hpk : podsL l x (k + 1) = podsL l x k := by simp [podsL, he]
          have HP := Go.Lib.hid hpk
          have HE := Go.Lib.hid he
          clear hpk he
          go_wp2_with fail
          go_roundw
          case rel => exact ⟨k + 1, by go_num, by omega, (by rw [HP.out]; exact hown), hc⟩
          case measure => simp [intOf]; omega
      · obtain rfl : k = l.n := by omega
        obtain ⟨a, c, rfl, hI⟩ := own_ints hown rfl (by omega)
        have HI := Go.Lib.hid hI
        clear hI hown
        go_wp2_with fail
        go_ret
        exact ⟨a, c, rfl, HI.out, hcw.trans hc⟩

end Go.Proofs.YtipacbaapkdnaaaGreat
