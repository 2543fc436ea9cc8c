/- drayageref07.Check; may (printed by genyf.py). -/
/- Shares of quantities; lists of numbers: EqInts, CopyInts, Pods. -/
/- Shares; EqInts, CopyInts. -/
/- heat.Pods, drayageref12.Pods (printed by genyi.py). -/
/- drayageref07.UsedOf, Used. -/
/- drayageref07.Used (printed by genyk.py). -/
import Derived.Test.YthpmgnbehahkfaaGreatJYe
set_option linter.unusedSimpArgs false
set_option linter.unusedVariables false
section
namespace Go.Proofs.YthpmgnbehahkfaaGreat
open Go.RowKit Go.Dk

set_option maxRecDepth 100000 in
set_option maxHeartbeats 2000000 in
theorem refPlaceCheck_any {w : World} {n p o q : Value} {s : SnapD} {lv tv : Nat → Value} {pv : Nat → PodV} (h : SnapAt w n p o s lv tv pv) {l : Lst Int} (hq : IntsAt w q l) :
    Gives 105 #[.agg #[n, p, o], q] w (.int .i64 (placeE s l)) := by
  have hcw := (Chg.refl No w).alloc (.cells #[n, p, o] 26)
  have hA := heap_alloc_new w (.cells #[n, p, o] 26)
  have hS := h.no hcw
  have hQ := hq.no hcw
  obtain ⟨na, nc, pa, pc, oa, oc, rfl, rfl, rfl⟩ := h.args
  obtain ⟨hqn, qa, qc, rfl, hqs⟩ := hq
  have hqs := hqs.no hcw
  obtain ⟨-, hx⟩ := hS.nodes.sl
  clear h
  unfold Gives
  obtain ⟨r, hr⟩ : ∃ r, r = placeE s l := ⟨_, rfl⟩
  rw [← hr]
  have HRR := Go.Lib.hid hr
  clear hr
  go_enter Tryz.func105, Tryz.ntmps105
  go_wp2_with fail
  generalize w.alloc _ = W at hcw hA hS hQ hqs hx ⊢
  generalize w.heap.size = B at hA ⊢
  have q0 := fun y : Wd No W => refCheckS_any (hS.no y.chg)
  unfold Gives at q0
  have sa := fun y : Wd No W => y.chg.cell (cell_of_heap (j := 0) hA rfl) id
  have sb := fun y : Wd No W => y.chg.cell (cell_of_heap (j := 1) hA rfl) id
  have HQS := Go.Lib.hid hqs
  have HX := Go.Lib.hid hx
  clear hA hS hQ hqs hx
  obtain ⟨y, hy⟩ := Wd.start No W
  rw [← hy]
  clear hy
  by_cases he : checkE s = 0
  · rw [he] at q0
    by_cases hn : l.n = s.pods.n
    · have hni : ((l.n : Int) != (s.pods.n : Int)) = false := by simp; omega
      have hodd : anyB (fun k => oddP s (l.el k)) l.n = true → placeE s l = 2 := fun h => by
        unfold placeE; rw [if_pos he, if_neg]; rintro ⟨_, h2⟩; rw [h] at h2; cases h2
      have hgood : anyB (fun k => oddP s (l.el k)) l.n = false → placeE s l = 0 := fun h => by
        unfold placeE; rw [if_pos he, if_pos ⟨hn, h⟩]
      have HO := Go.Lib.hid hodd
      have HG := Go.Lib.hid hgood
      clear hn he hodd hgood
      go_wp2_with ((go_at_call 100; refine (q0 _).mono ?_; rintro e w' ⟨rfl, hc'⟩; obtain ⟨y, rfl⟩ := Wd.next hc'; clear hc'))
      go_loopw [6] (fun i wr => PlcRel W s l i wr) (fun i _ => l.n - (intOf i).toNat)
      case atStart => exact ⟨0, rfl, by omega, (fun j hj => by omega), Wd.chg _⟩
      case round =>
        obtain ⟨k, rfl, hk, hall, hc⟩ := hrel
        obtain ⟨y, rfl⟩ := Wd.of hc
        by_cases hlt : k < l.n
        · obtain ⟨-, b, o', rfl, lcell⟩ := HQS.out.2.2.2 k hlt
          have n0 := lcell 0 _ rfl
          rw [Nat.add_zero, Nat.mul_one] at n0
          have n0 := fun y : Wd No W => y.chg.cell n0 id
          have hlt' : (k : Int) < (l.n : Int) := by omega
          have hway := oddWay s (l.el k)
          have HT := Go.Lib.hid (fun h : oddP s (l.el k) = true => HO.out (anyB_true hlt h))
          have HALL := Go.Lib.hid hall
          clear lcell hall
          obtain ⟨x, hx⟩ : ∃ x, x = l.el k := ⟨_, rfl⟩
          rw [← hx] at n0 hway HT
          have HXX := Go.Lib.hid hx
          clear hx
          rcases hway with ⟨h1, hb⟩ | ⟨h1, h2, hb⟩ | ⟨h1, h2, h3, hb⟩ | ⟨m, hm, rfl, b', hl, hb⟩
          · have HB := Go.Lib.hid hb
            clear hb
            go_wp2_with fail
            refine wp_region_wd2 _ (by kernel_rfl) (by kernel_rfl) ?_
            repeat (refine WQ.step (fun K hK => ?_); go_simp; first | (refine hK _ ?_; clear hK K) | (apply Exists.intro; refine ⟨fun _ => ?_, hK _ ?_⟩; fail; clear hK K))
            refine WQ.nil ?_
            rintro _ ⟨z, rfl⟩
            go_wp2_with fail
            go_ret
            rw [HRR.out, HT.out HB.out]; exact ⟨rfl, hcw.trans (Wd.chg _)⟩
          · have HB := Go.Lib.hid hb
            clear hb
            go_wp2_with fail
            refine wp_region_wd2 _ (by kernel_rfl) (by kernel_rfl) ?_
            repeat (refine WQ.step (fun K hK => ?_); go_simp; first | (refine hK _ ?_; clear hK K) | (apply Exists.intro; refine ⟨fun _ => ?_, hK _ ?_⟩; fail; clear hK K))
            refine WQ.nil ?_
            rintro _ ⟨z, rfl⟩
            go_wp2_with fail
            go_ret
            rw [HRR.out, HT.out HB.out]; exact ⟨rfl, hcw.trans (Wd.chg _)⟩
          · have HB := Go.Lib.hid hb
            clear hb
            have ex : x = -1 := by omega
            subst ex
            clear h1 h2 h3
            go_wp2_with fail
            refine wp_region_wd2 _ (by kernel_rfl) (by kernel_rfl) ?_
            repeat (refine WQ.step (fun K hK => ?_); go_simp; first | (refine hK _ ?_; clear hK K) | (apply Exists.intro; refine ⟨fun _ => ?_, hK _ ?_⟩; fail; clear hK K))
            refine WQ.nil ?_
            rintro _ ⟨z, rfl⟩
            go_wp2_with fail
            go_roundw
            case rel => exact ⟨k + 1, by go_num, by omega, (fun j hj => by rcases Nat.lt_or_eq_of_le (Nat.le_of_lt_succ hj) with h | h; exact HALL.out j h; subst h; rw [← HXX.out]; exact HB.out), Wd.chg _⟩
            case measure => simp [intOf]; omega
          · obtain ⟨-, nb, no, rfl, ncell⟩ := HX.out.2.2.2 m hm
            have ql := fun y : Wd No W => y.chg.cell (ncell 9 (.bool (s.nodes.el m).lost) rfl) id
            rw [hl] at ql
            have HB := Go.Lib.hid hb
            have h1 : ¬ ((m : Int) < -1) := by omega
            have h2 : ¬ ((s.nodes.n : Int) ≤ (m : Int)) := by omega
            have h3 : (0 : Int) ≤ (m : Int) := by omega
            have h4 : (m : Int) < (s.nodes.n : Int) := by omega
            have h5 : (s.nodes.n ≤ m) = False := by simp; omega
            clear hb ncell hl
            cases b' with
            | true =>
              go_wp2_with fail
              refine wp_region_wd2 _ (by kernel_rfl) (by kernel_rfl) ?_
              repeat (refine WQ.step (fun K hK => ?_); go_simp; first | (refine hK _ ?_; clear hK K) | (apply Exists.intro; refine ⟨fun _ => ?_, hK _ ?_⟩; fail; clear hK K))
              refine WQ.nil ?_
              rintro _ ⟨z, rfl⟩
              go_wp2_with fail
              go_ret
              rw [HRR.out, HT.out HB.out]; exact ⟨rfl, hcw.trans (Wd.chg _)⟩
            | false =>
              go_wp2_with fail
              refine wp_region_wd2 _ (by kernel_rfl) (by kernel_rfl) ?_
              repeat (refine WQ.step (fun K hK => ?_); go_simp; first | (refine hK _ ?_; clear hK K) | (apply Exists.intro; refine ⟨fun _ => ?_, hK _ ?_⟩; fail; clear hK K))
              refine WQ.nil ?_
              rintro _ ⟨z, rfl⟩
              go_wp2_with fail
              go_roundw
              case rel => exact ⟨k + 1, by go_num, by omega, (fun j hj => by rcases Nat.lt_or_eq_of_le (Nat.le_of_lt_succ hj) with h | h; exact HALL.out j h; subst h; rw [← HXX.out]; exact HB.out), Wd.chg _⟩
              case measure => simp [intOf]; omega
        · obtain rfl : k = l.n := by omega
          have HG2 := Go.Lib.hid (HG.out (anyB_false hall))
          clear hall
          go_wp2_with fail
          go_ret
          rw [HRR.out, HG2.out]; exact ⟨rfl, hcw.trans (Wd.chg _)⟩
    · have hni : ((l.n : Int) != (s.pods.n : Int)) = true := by simp; omega
      have hr : placeE s l = 2 := by unfold placeE; rw [if_pos he, if_neg (fun h => hn h.1)]
      have HR := Go.Lib.hid hr
      clear hn he hr
      go_wp2_with ((go_at_call 100; refine (q0 _).mono ?_; rintro e w' ⟨rfl, hc'⟩; obtain ⟨y, rfl⟩ := Wd.next hc'; clear hc'))
      go_ret
      rw [HRR.out, HR.out]; exact ⟨rfl, hcw.trans (Wd.chg _)⟩
  · have hr : placeE s l = checkE s := by unfold placeE; rw [if_neg he]
    have HR := Go.Lib.hid hr
    clear hr
    generalize checkE s = e1 at *
    go_wp2_with ((go_at_call 100; refine (q0 _).mono ?_; rintro e w' ⟨rfl, hc'⟩; obtain ⟨y, rfl⟩ := Wd.next hc'; clear hc'))
    go_ret
    rw [HRR.out, HR.out]; exact ⟨rfl, hcw.trans (Wd.chg _)⟩

def mayB (s : SnapD) (l : Lst Int) : Bool := decide (placeE s l = 0)
theorem heatMay_any {w : World} {n p o q : Value} {s : SnapD} {lv tv : Nat → Value} {pv : Nat → PodV} (h : SnapAt w n p o s lv tv pv) {l : Lst Int} (hq : IntsAt w q l) :
    Gives 66 #[.agg #[n, p, o], q] w (.bool (mayB s l)) := by
  have p1 := fun W (hc : Chg No w W) => placeCheck_any (h.no hc) (hq.no hc)
  obtain ⟨na, nc, pa, pc, oa, oc, rfl, rfl, rfl⟩ := h.args
  obtain ⟨_, _, _, rfl, _⟩ := hq
  unfold Gives mayB at *
  clear h
  generalize placeE s l = e1 at *
  go_enter Tryz.func66, Tryz.ntmps66
  go_wp2_with (go_at_call 56; refine (p1 _ ((Chg.refl No w).alloc _)).mono ?_; rintro e w' ⟨rfl, hc⟩)
  go_ret
  exact ⟨by simp [dec_eqz], ((Chg.refl No w).alloc _).trans hc⟩
/-- may all be, and is there the node -/
def mayNB (s : SnapD) (l : Lst Int) (x : Int) : Bool := mayB s l && decide (0 ≤ x) && decide (x < s.nodes.n)
theorem refMay_any {w : World} {n p o q : Value} {s : SnapD} {lv tv : Nat → Value} {pv : Nat → PodV} (h : SnapAt w n p o s lv tv pv) {l : Lst Int} (hq : IntsAt w q l) (x : Int) :
    Gives 68 #[.agg #[n, p, o], q, .int .i64 x] w (.bool (mayNB s l x)) := by
  have p1 := fun W (hc : Chg No w W) => refPlaceCheck_any (h.no hc) (hq.no hc)
  obtain ⟨na, nc, pa, pc, oa, oc, rfl, rfl, rfl⟩ := h.args
  obtain ⟨_, _, _, rfl, _⟩ := hq
  unfold Gives mayNB mayB at *
  have hA := heap_alloc_new w (.cells #[.slice na s.nodes.n nc, .slice pa s.pods.n pc, .slice oa s.owners.n oc] 26)
  clear h
  generalize placeE s l = e1 at *
  go_enter Tryz.func68, Tryz.ntmps68
  go_wp2_with (go_at_call 105; refine (p1 _ ((Chg.refl No w).alloc _)).mono ?_; rintro e w' ⟨rfl, hc⟩; have c0 := hc.cell (cell_of_heap (j := 0) hA rfl) id)
  all_goals
    go_ret
    refine ⟨?_, ((Chg.refl No w).alloc _).trans hc⟩
    clear p1
    first | (simp_all; done) | (simp_all <;> (intros; omega))
end Go.Proofs.YthpmgnbehahkfaaGreat
end
section
namespace Go.Proofs.YthpmgnbehahkfaaGreat
open Go.RowKit Go.Dk

theorem sl2 (W : World) (u c : Int) (t : TypeId) : Sl (W.alloc (.cells #[.int .i64 u, .int .i64 c] t)) (some ⟨W.heap.size, 0, none⟩) 2 2 1 (fun k => [.int .i64 (if k = 0 then u else c)]) := by
  refine ⟨by omega, by omega, (fun h => by cases h), fun k hk => ⟨rfl, W.heap.size, 0, rfl, fun j v hj => ?_⟩⟩
  have hj0 : j = 0 := by have := (List.getElem?_eq_some_iff.1 hj).1; simp at this; omega
  subst hj0
  simp at hj
  subst hj
  match k, hk with
  | 0, _ => exact cell_of_heap (j := 0) (heap_alloc_new W _) rfl
  | 1, _ => exact cell_of_heap (j := 1) (heap_alloc_new W _) rfl

/-- a quantity that may be -/
def Qty (x : Int) : Prop := 0 ≤ x ∧ x ≤ 1099511627776
def quoV (u c : Int) : Int := if c = 0 then 0 else Int.tdiv (u * 1000) c
def shareV (u c : Int) : Int := if c = 0 ∧ 0 < u then 1000 else quoV u c

set_option maxHeartbeats 1000000 in
theorem quantShare_any (u c : Int) (hu : Qty u) (hc : Qty c) (hz : ¬ (c = 0 ∧ 0 < u)) (w : World) : Gives 112 #[.int .i64 u, .int .i64 c] w (.tuple #[.int .i64 (quoV u c), .int .i64 0]) := by
  obtain ⟨hu1, hu2⟩ := hu
  obtain ⟨hc1, hc2⟩ := hc
  have p1 : ∀ W : World, Gives 170 #[.slice (some ⟨W.heap.size, 0, none⟩) 2 2] (W.alloc (.cells #[.int .i64 u, .int .i64 c] 3)) (.int .i64 0) := fun W =>
    checked_any (fun k => if k = 0 then u else c) _ 2 2 _ (sl2 W u c _) (by omega) (fun k _ => by dsimp only; split <;> omega)
  unfold Gives at *
  have hw : IntKind.i64.wrap (u * 1000) = u * 1000 := IntWalk.i64_in _ (by omega)
  by_cases hc0 : c = 0
  · have hu0 : u = 0 := by
      rcases Int.lt_or_eq_of_le hu1 with h | h
      · exact absurd ⟨hc0, h⟩ hz
      · exact h.symm
    subst hc0; subst hu0
    clear hz
    go_enter Tryz.func112, Tryz.ntmps112
    go_wp2_with (go_at_call 170; refine (p1 _).mono ?_; rintro e w' ⟨rfl, hc'⟩)
    go_returns
    exact ⟨rfl, ((Chg.refl No w).alloc _).trans hc'⟩
  · have hpos : ¬ c < 1 := by omega
    have hmx : max c 1 = c := by omega
    have hq : quoV u c = Int.tdiv (u * 1000) c := if_neg hc0
    have hr : -9223372036854775808 ≤ Int.tdiv (u * 1000) c ∧ Int.tdiv (u * 1000) c ≤ 9223372036854775807 := by
      rw [Int.tdiv_eq_ediv_of_nonneg (by omega)]
      have h1 : 0 ≤ u * 1000 / c := Int.ediv_nonneg (by omega) hc1
      have h2 : u * 1000 / c ≤ u * 1000 := Int.ediv_le_self _ (by omega)
      omega
    have hw2 : IntKind.i64.wrap (Int.tdiv (u * 1000) c) = Int.tdiv (u * 1000) c := IntWalk.i64_in _ hr
    have HQ := Go.Lib.hid hq
    clear hq hz hr
    go_enter Tryz.func112, Tryz.ntmps112
    go_wp2_with (go_at_call 170; refine (p1 _).mono ?_; rintro e w' ⟨rfl, hc'⟩)
    go_returns
    rw [HQ.out]
    exact ⟨by simp_all, ((Chg.refl No w).alloc _).trans hc'⟩
end Go.Proofs.YthpmgnbehahkfaaGreat
end
section
namespace Go.Proofs.YthpmgnbehahkfaaGreat
open Go.RowKit Go.Dk

set_option maxHeartbeats 1000000 in
theorem refQuoShare_any (u c : Int) (hu : Qty u) (hc : Qty c) (hz : ¬ (c = 0 ∧ 0 < u)) (w : World) : Gives 114 #[.int .i64 u, .int .i64 c] w (.tuple #[.int .i64 (quoV u c), .int .i64 0]) := by
  obtain ⟨hu1, hu2⟩ := hu
  obtain ⟨hc1, hc2⟩ := hc
  unfold Gives at *
  have hw : IntKind.i64.wrap (u * 1000) = u * 1000 := IntWalk.i64_in _ (by omega)
  have a1 : ¬ u < 0 := by omega
  have a2 : ¬ c < 0 := by omega
  have a3 : ¬ 1099511627776 < u := by omega
  have a4 : ¬ 1099511627776 < c := by omega
  by_cases hc0 : c = 0
  · have hu0 : u = 0 := by
      rcases Int.lt_or_eq_of_le hu1 with h | h
      · exact absurd ⟨hc0, h⟩ hz
      · exact h.symm
    subst hc0; subst hu0
    clear hz
    go_enter Tryz.func114, Tryz.ntmps114
    go_wp2_with fail
    go_returns
    exact ⟨rfl, Chg.refl _ _⟩
  · have hq : quoV u c = Int.tdiv (u * 1000) c := if_neg hc0
    have hr : -9223372036854775808 ≤ Int.tdiv (u * 1000) c ∧ Int.tdiv (u * 1000) c ≤ 9223372036854775807 := by
      rw [Int.tdiv_eq_ediv_of_nonneg (by omega)]
      have h1 : 0 ≤ u * 1000 / c := Int.ediv_nonneg (by omega) hc1
      have h2 : u * 1000 / c ≤ u * 1000 := Int.ediv_le_self _ (by omega)
      omega
    have hw2 : IntKind.i64.wrap (Int.tdiv (u * 1000) c) = Int.tdiv (u * 1000) c := IntWalk.i64_in _ hr
    have HQ := Go.Lib.hid hq
    clear hq hz hr
    go_enter Tryz.func114, Tryz.ntmps114
    go_wp2_with fail
    go_returns
    rw [HQ.out]
    exact ⟨by simp_all, Chg.refl _ _⟩

theorem heatShare1_any (u c : Int) (hu : Qty u) (hc : Qty c) (w : World) : Gives 67 #[.int .i64 u, .int .i64 c] w (.int .i64 (shareV u c)) := by
  unfold Gives
  by_cases hz : c = 0 ∧ 0 < u
  · have hv : shareV u c = 1000 := if_pos hz
    have HV := Go.Lib.hid hv
    clear hv
    obtain ⟨h1, h2⟩ := hz
    go_enter Tryz.func67, Tryz.ntmps67
    go_wp2_with fail
    go_ret
    rw [HV.out]; exact ⟨rfl, Chg.refl _ _⟩
  · have p1 := quantShare_any u c hu hc hz w
    have hv : shareV u c = quoV u c := if_neg hz
    have HV := Go.Lib.hid hv
    have hz' : c = 0 → ¬ 0 < u := fun a b => hz ⟨a, b⟩
    unfold Gives at p1
    clear hv hz
    by_cases h1 : c = 0
    · have h2 := hz' h1
      clear hz'
      go_enter Tryz.func67, Tryz.ntmps67
      go_wp2_with (go_at_call 112; (try subst h1); refine p1.mono ?_; rintro e w' ⟨rfl, hc'⟩)
      go_ret
      rw [HV.out]; exact ⟨rfl, hc'⟩
    · clear hz'
      go_enter Tryz.func67, Tryz.ntmps67
      go_wp2_with (go_at_call 112; refine p1.mono ?_; rintro e w' ⟨rfl, hc'⟩)
      go_ret
      rw [HV.out]; exact ⟨rfl, hc'⟩
theorem refOne_any (u c : Int) (hu : Qty u) (hc : Qty c) (w : World) : Gives 70 #[.int .i64 u, .int .i64 c] w (.int .i64 (shareV u c)) := by
  unfold Gives
  by_cases hz : c = 0 ∧ 0 < u
  · have hv : shareV u c = 1000 := if_pos hz
    have HV := Go.Lib.hid hv
    clear hv
    obtain ⟨h1, h2⟩ := hz
    go_enter Tryz.func70, Tryz.ntmps70
    go_wp2_with fail
    go_ret
    rw [HV.out]; exact ⟨rfl, Chg.refl _ _⟩
  · have p1 := refQuoShare_any u c hu hc hz w
    have hv : shareV u c = quoV u c := if_neg hz
    have HV := Go.Lib.hid hv
    have hz' : c = 0 → ¬ 0 < u := fun a b => hz ⟨a, b⟩
    unfold Gives at p1
    clear hv hz
    by_cases h1 : c = 0
    · have h2 := hz' h1
      clear hz'
      go_enter Tryz.func70, Tryz.ntmps70
      go_wp2_with (go_at_call 114; (try subst h1); refine p1.mono ?_; rintro e w' ⟨rfl, hc'⟩)
      go_ret
      rw [HV.out]; exact ⟨rfl, hc'⟩
    · clear hz'
      go_enter Tryz.func70, Tryz.ntmps70
      go_wp2_with (go_at_call 114; refine p1.mono ?_; rintro e w' ⟨rfl, hc'⟩)
      go_ret
      rw [HV.out]; exact ⟨rfl, hc'⟩

/-- are two lists of numbers one -/
def eqL (a b : Lst Int) : Bool := decide (a.n = b.n) && allB (fun k => decide (a.el k = b.el k)) a.n
def EqRel (w : World) (a b : Lst Int) (i : Value) (wr : World) : Prop := ∃ k : Nat, i = .int .i64 k ∧ k ≤ a.n ∧ (∀ j, j < k → a.el j = b.el j) ∧ Chg No w wr
set_option maxHeartbeats 1000000 in
theorem eqInts_any {w : World} {v u : Value} {a b : Lst Int} (ha : IntsAt w v a) (hb : IntsAt w u b) : Gives 16 #[v, u] w (.bool (eqL a b)) := by
  obtain ⟨hna, pa, ca, rfl, hsa⟩ := ha
  obtain ⟨hnb, pb, cb, rfl, hsb⟩ := hb
  unfold Gives
  by_cases hn : a.n = b.n
  · have hni : ((a.n : Int) != (b.n : Int)) = false := by simp; omega
    have hbad : ∀ k, k < a.n → a.el k ≠ b.el k → eqL a b = false := fun k hk h => by
      unfold eqL; rw [allB_false hk (by simpa using h)]; simp
    have hgood : (∀ k, k < a.n → a.el k = b.el k) → eqL a b = true := fun h => by
      unfold eqL; rw [allB_iff.2 (fun k hk => by simpa using h k hk)]; simp [hn]
    have HB := Go.Lib.hid hbad
    have HG := Go.Lib.hid hgood
    have HN := Go.Lib.hid hn
    clear hbad hgood hn
    go_enter Tryz.func16, Tryz.ntmps16
    go_wp2_with fail
    go_loopw [5] (fun i wr => EqRel w a b i wr) (fun i _ => a.n - (intOf i).toNat)
    case atStart => exact ⟨0, rfl, by omega, (fun j hj => by omega), Chg.refl _ _⟩
    case round =>
      obtain ⟨k, rfl, hk, hall, hc⟩ := hrel
      by_cases hlt : k < a.n
      · have hltb : k < b.n := by have := HN.out; omega
        obtain ⟨-, b1, o1, rfl, c1⟩ := (hsa.no hc).2.2.2 k hlt
        obtain ⟨-, b2, o2, rfl, c2⟩ := (hsb.no hc).2.2.2 k hltb
        have q1 := c1 0 _ rfl
        have q2 := c2 0 _ rfl
        rw [Nat.add_zero, Nat.mul_one] at q1 q2
        have q1 := fun y : Wd No wr => y.chg.cell q1 id
        have q2 := fun y : Wd No wr => y.chg.cell q2 id
        have hlt' : (k : Int) < (a.n : Int) := by omega
        have hlt2 : (k : Int) < (b.n : Int) := by omega
        have HA := Go.Lib.hid hall
        clear c1 c2 hsa hsb hall
        by_cases he : a.el k = b.el k
        · have heq : (a.el k != b.el k) = false := by simp [he]
          have HE := Go.Lib.hid he
          clear he
          go_wp2_with fail
          refine wp_region_wd (S := No) (by kernel_rfl) (by kernel_rfl) ?_
          repeat (refine WQ.step (fun K hK => ?_); go_simp; first | (refine hK _ ?_; clear hK K) | (apply Exists.intro; refine ⟨fun _ => ?_, hK _ ?_⟩; fail; clear hK K))
          refine WQ.nil ?_
          rintro _ ⟨z, rfl⟩
          go_wp2_with fail
          go_roundw
          case rel => exact ⟨k + 1, by go_num, by omega, (fun j hj => by rcases Nat.lt_or_eq_of_le (Nat.le_of_lt_succ hj) with h | h; exact HA.out j h; subst h; exact HE.out), hc.trans z.chg⟩
          case measure => simp [intOf]; omega
        · have heq : (a.el k != b.el k) = true := by simp [he]
          have HE := Go.Lib.hid he
          clear he
          go_wp2_with fail
          refine wp_region_wd (S := No) (by kernel_rfl) (by kernel_rfl) ?_
          repeat (refine WQ.step (fun K hK => ?_); go_simp; first | (refine hK _ ?_; clear hK K) | (apply Exists.intro; refine ⟨fun _ => ?_, hK _ ?_⟩; fail; clear hK K))
          refine WQ.nil ?_
          rintro _ ⟨z, rfl⟩
          go_wp2_with fail
          go_ret
          rw [HB.out k hlt HE.out]; exact ⟨rfl, hc.trans z.chg⟩
      · obtain rfl : k = a.n := by omega
        have HX := Go.Lib.hid (HG.out hall)
        clear hall
        go_wp2_with fail
        go_ret
        rw [HX.out]; exact ⟨rfl, hc⟩
  · have hni : ((a.n : Int) != (b.n : Int)) = true := by simp; omega
    have hv : eqL a b = false := by unfold eqL; simp [hn]
    have HV := Go.Lib.hid hv
    clear hv hn
    go_enter Tryz.func16, Tryz.ntmps16
    go_wp2_with fail
    go_ret
    rw [HV.out]; exact ⟨rfl, Chg.refl _ _⟩

set_option maxRecDepth 100000 in
theorem copyInts_any {w : World} {v : Value} {l : Lst Int} (h : IntsAt w v l) :
    Calls Tryz.prog 13 #[v] w fun e w' => ∃ a c, e = .returned (.slice a l.n c) ∧ IntsAt w' (.slice a l.n c) l ∧ Chg No w w' ∧ ∀ ad, a = some ad → w.heap.size ≤ ad.block := by
  obtain ⟨hn, a, c, rfl, hs⟩ := h
  obtain ⟨i0, hi, hz0, hz1, hz2⟩ := info_parts Tryz.infoIntR
  have hrd := hs.rd
  go_enter Tryz.func13, Tryz.ntmps13
  go_wp2_with (at_builtin; refine wpList_append_rd _ rfl _ _ _ rfl w.heap.size 3 i0 _ 1 8 Tryz.underlying27 hi hz0 hz1 hz2 rfl (by decide) (.slice none 0 0) 0 [] rfl (World.ownsRow_nil _ _ _ _) _ l.n _ rfl hrd (by intro u hu; simp at hu; obtain ⟨k, _, rfl⟩ := hu; rfl) (by unfold maxLen; omega) (by omega) (Nat.le_refl _) ?_; intro v1 w3 ho1 hg1 hi1 hfr1)
  simp only [Nat.zero_add, List.nil_append] at ho1
  obtain ⟨a', c', rfl, hs', hf⟩ := own_sl ho1 (fun _ _ => rfl)
  go_wp2_with fail
  go_ret
  exact ⟨a', c', rfl, ⟨hn, a', c', rfl, hs'⟩, (Chg.refl No w).grown hg1 (fun k hk => by simp [Value.ownBlock] at hk), hf⟩
end Go.Proofs.YthpmgnbehahkfaaGreat
end
section
namespace Go.Proofs.YthpmgnbehahkfaaGreat
open Go.RowKit Go.Dk

/-- a list of numbers, as data -/
def ofL (ns : List Int) : Lst Int := ⟨ns.length, fun k => ns.getD k 0⟩
theorem own_ints {w : World} {B n : Nat} {v : Value} {ns : List Int} (h : w.ownsRow B 3 1 v n (ns.map (.int .i64))) (hn : n = ns.length) (hb : n ≤ 1048576) : ∃ a c, v = .slice a ns.length c ∧ IntsAt w v (ofL ns) := by
  subst hn
  have e : ns.map (Value.int .i64) = (List.range ns.length).flatMap fun k => [.int .i64 (ns.getD k 0)] := by
    apply List.ext_getElem?
    intro i
    have hf := flat_at (fun k => [Value.int .i64 (ns.getD k 0)]) ns.length 1 (fun _ _ => rfl)
    by_cases hi : i < ns.length
    · have hg := flat_get (fun k => [Value.int .i64 (ns.getD k 0)]) ns.length 1 (fun _ _ => rfl) i 0 _ hi rfl
      rw [Nat.mul_one, Nat.add_zero] at hg
      rw [hg]
      simp [List.getElem?_eq_getElem hi]
    · rw [List.getElem?_eq_none (by simp; omega), List.getElem?_eq_none (by rw [hf.1]; omega)]
  rw [e] at h
  obtain ⟨a, c, rfl, hs, -⟩ := own_sl h (fun _ _ => rfl)
  exact ⟨a, c, rfl, hb, a, c, rfl, hs⟩

/-- the pods of a node, up to a place -/
def podsL (l : Lst Int) (x : Int) : Nat → List Int
  | 0 => []
  | k + 1 => podsL l x k ++ if l.el k = x then [(k : Int)] else []
theorem podsL_len (l : Lst Int) (x : Int) : ∀ k, (podsL l x k).length ≤ k
  | 0 => Nat.le_refl _
  | k + 1 => by
    have := podsL_len l x k
    simp only [podsL, List.length_append]
    split <;> simp <;> omega
theorem podsL_none {l : Lst Int} {x : Int} : ∀ {k : Nat}, (∀ j, j < k → l.el j ≠ x) → podsL l x k = []
  | 0, _ => rfl
  | k + 1, h => by
    have ih := podsL_none (l := l) (x := x) (k := k) (fun j hj => h j (by omega))
    have hk := h k (by omega)
    simp only [podsL, ih, if_neg hk, List.append_nil]
def podsV (s : SnapD) (l : Lst Int) (x : Int) : List Int := if mayNB s l x then podsL l x l.n else []
theorem podsV_prog (s : SnapD) (l : Lst Int) (x : Int) : podsV s l x = if mayB s l && decide (0 ≤ x) then podsL l x l.n else [] := by
  unfold podsV mayNB
  by_cases h1 : (mayB s l && decide (0 ≤ x)) = true
  · rw [h1]
    by_cases h2 : x < s.nodes.n
    · simp [h2]
    · have hm : mayB s l = true := (Bool.and_eq_true _ _ ▸ h1).1
      simp only [mayB, placeE, decide_eq_true_iff] at hm
      have : podsL l x l.n = [] := podsL_none fun j hj e => by
        split at hm
        · split at hm
          · rename_i h3
            have h4 : oddP s (l.el j) = false := by
              cases ho : oddP s (l.el j) with
              | false => rfl
              | true => rw [anyB_true hj ho] at h3; cases h3.2
            rw [e] at h4
            have h5 : (s.nodes.n : Int) ≤ x := by omega
            simp [oddP, h5] at h4
          · cases hm
        · rename_i h3
          exact h3 (by simpa using hm)
      simp [h2, this]
  · simp [h1]

def PodsRel (w : World) (B : Nat) (l : Lst Int) (x : Int) (v i : Value) (wr : World) : Prop :=
  ∃ k : Nat, i = .int .i64 k ∧ k ≤ l.n ∧ wr.ownsRow B 3 1 v (podsL l x k).length ((podsL l x k).map (.int .i64)) ∧ Chg No w wr

set_option maxRecDepth 100000 in
set_option maxHeartbeats 2000000 in
theorem heatPods_any {w : World} {n p o q : Value} {s : SnapD} {lv tv : Nat → Value} {pv : Nat → PodV} (h : SnapAt w n p o s lv tv pv) {l : Lst Int} (hq : IntsAt w q l) (x : Int) :
    Calls Tryz.prog 17 #[.agg #[n, p, o], q, .int .i64 x] w fun e w' => ∃ a c, e = .returned (.slice a (podsV s l x).length c) ∧ IntsAt w' (.slice a (podsV s l x).length c) (ofL (podsV s l x)) ∧ Chg No w w' := by
  obtain ⟨i0, hi, hz0, hz1, hz2⟩ := info_parts Tryz.infoIntR
  have p1 := fun W (hc : Chg No w W) => heatMay_any (h.no hc) (hq.no hc)
  have hv := podsV_prog s l x
  generalize podsV s l x = pl at *
  obtain ⟨na, nc, pa, pc, oa, oc, rfl, rfl, rfl⟩ := h.args
  obtain ⟨hqn, qa, qc, rfl, hqs⟩ := hq
  unfold Gives at p1
  clear h
  generalize mayB s l = b at *
  cases b with
  | false =>
    obtain rfl : pl = [] := by simpa using hv
    clear hv
    go_enter Tryz.func17, Tryz.ntmps17
    go_wp2_with (go_at_call 66; refine (p1 _ ((Chg.refl No w).alloc _)).mono ?_; rintro e V ⟨rfl, hc0⟩)
    go_ret
    exact ⟨none, 0, rfl, ⟨by simp [ofL], none, 0, rfl, ⟨by simp [ofL], by omega, fun _ => rfl, fun k hk => by simp [ofL] at hk⟩⟩, ((Chg.refl No w).alloc _).trans hc0⟩
  | true =>
    by_cases hx : 0 ≤ x
    · have hx' : ¬ x < 0 := by omega
      obtain rfl : pl = podsL l x l.n := by simpa [hx] using hv
      clear hv
      go_enter Tryz.func17, Tryz.ntmps17
      go_wp2_with (go_at_call 66; refine (p1 _ ((Chg.refl No w).alloc _)).mono ?_; rintro e V ⟨rfl, hc0⟩)
      have hqs := hqs.no (((Chg.refl No w).alloc _).trans hc0)
      have hcw := ((Chg.refl No w).alloc (.cells #[.slice na s.nodes.n nc, .slice pa s.pods.n pc, .slice oa s.owners.n oc] 26)).trans hc0
      go_loopw [6, 19] (fun v i wr => PodsRel V V.heap.size l x v i wr) (fun _ i _ => l.n - (intOf i).toNat)
      case atStart => exact ⟨0, rfl, by omega, World.ownsRow_nil _ _ _ _, Chg.refl _ _⟩
      case round =>
        obtain ⟨k, rfl, hk, hown, hc⟩ := hrel
        have hsz := hc.size
        have hpl := podsL_len l x k
        by_cases hlt : k < l.n
        · obtain ⟨-, b1, o1, rfl, c1⟩ := (hqs.no hc).2.2.2 k hlt
          have q1 := c1 0 _ rfl
          rw [Nat.add_zero, Nat.mul_one] at q1
          have hlt' : (k : Int) < (l.n : Int) := by omega
          clear c1 hqs
          by_cases he : l.el k = x
          · have heq : (l.el k == x) = true := by simp [he]
            have hpk : podsL l x (k + 1) = podsL l x k ++ [(k : Int)] := by simp [podsL, he]
            have HP := Go.Lib.hid hpk
            have HE := Go.Lib.hid he
            clear hpk he
            obtain ⟨va, vc, rfl, -⟩ := Rd.of_own hown
            go_wp2_with (at_builtin; refine wpList_append_rd _ rfl _ _ _ rfl V.heap.size 3 i0 _ 1 8 Tryz.underlying27 hi hz0 hz1 hz2 rfl (by decide) (.slice va _ vc) _ _ rfl (hown.alloc _) _ 1 [.int .i64 (k : Int)] rfl (rd_new _ _ _ _ 1 1 rfl (by simp)) (by simp [Value.oneCell']) (by unfold maxLen; omega) (by omega) (by simp; omega) ?_; intro v1 w3 ho1 hg1 hi1 hfr1)
            go_roundw
            case rel => exact ⟨k + 1, by go_num, by omega, (by rw [HP.out]; simpa using ho1), Chg.grown' (hc.alloc _) hown hg1⟩
            case measure => simp [intOf]; omega
          · have heq : (l.el k == x) = false := by simp [he]
            have hpk : podsL l x (k + 1) = podsL l x k := by simp [podsL, he]
            have HP := Go.Lib.hid hpk
            have HE := Go.Lib.hid he
            clear hpk he
            go_wp2_with fail
            go_roundw
            case rel => exact ⟨k + 1, by go_num, by omega, (by rw [HP.out]; exact hown), hc⟩
            case measure => simp [intOf]; omega
        · obtain rfl : k = l.n := by omega
          obtain ⟨a, c, rfl, hI⟩ := own_ints hown rfl (by omega)
          have HI := Go.Lib.hid hI
          clear hI hown
          go_wp2_with fail
          go_ret
          exact ⟨a, c, rfl, HI.out, hcw.trans hc⟩
    · have hx' : x < 0 := by omega
      obtain rfl : pl = [] := by simpa [hx] using hv
      clear hv
      go_enter Tryz.func17, Tryz.ntmps17
      go_wp2_with (go_at_call 66; refine (p1 _ ((Chg.refl No w).alloc _)).mono ?_; rintro e V ⟨rfl, hc0⟩)
      go_ret
      exact ⟨none, 0, rfl, ⟨by simp [ofL], none, 0, rfl, ⟨by simp [ofL], by omega, fun _ => rfl, fun k hk => by simp [ofL] at hk⟩⟩, ((Chg.refl No w).alloc _).trans hc0⟩

set_option maxRecDepth 100000 in
set_option maxHeartbeats 2000000 in
theorem refPods_any {w : World} {n p o q : Value} {s : SnapD} {lv tv : Nat → Value} {pv : Nat → PodV} (h : SnapAt w n p o s lv tv pv) {l : Lst Int} (hq : IntsAt w q l) (x : Int) :
    Calls Tryz.prog 18 #[.agg #[n, p, o], q, .int .i64 x] w fun e w' => ∃ a c, e = .returned (.slice a (podsV s l x).length c) ∧ IntsAt w' (.slice a (podsV s l x).length c) (ofL (podsV s l x)) ∧ Chg No w w' := by
  obtain ⟨i0, hi, hz0, hz1, hz2⟩ := info_parts Tryz.infoIntR
  have p1 := fun W (hc : Chg No w W) => refMay_any (h.no hc) (hq.no hc) x
  have hv : podsV s l x = if mayNB s l x then podsL l x l.n else [] := rfl
  generalize podsV s l x = pl at *
  obtain ⟨na, nc, pa, pc, oa, oc, rfl, rfl, rfl⟩ := h.args
  obtain ⟨hqn, qa, qc, rfl, hqs⟩ := hq
  unfold Gives at p1
  clear h
  generalize mayNB s l x = b at *
  cases b with
  | false =>
    obtain rfl : pl = [] := by simpa using hv
    clear hv
    go_enter Tryz.func18, Tryz.ntmps18
    go_wp2_with (go_at_call 68; refine (p1 _ ((Chg.refl No w).alloc _)).mono ?_; rintro e V ⟨rfl, hc0⟩)
    go_ret
    exact ⟨none, 0, rfl, ⟨by simp [ofL], none, 0, rfl, ⟨by simp [ofL], by omega, fun _ => rfl, fun k hk => by simp [ofL] at hk⟩⟩, ((Chg.refl No w).alloc _).trans hc0⟩
  | true =>
    obtain rfl : pl = podsL l x l.n := by simpa using hv
    clear hv
    go_enter Tryz.func18, Tryz.ntmps18
    go_wp2_with (go_at_call 68; refine (p1 _ ((Chg.refl No w).alloc _)).mono ?_; rintro e V ⟨rfl, hc0⟩)
    have hqs := hqs.no (((Chg.refl No w).alloc _).trans hc0)
    have hcw := ((Chg.refl No w).alloc (.cells #[.slice na s.nodes.n nc, .slice pa s.pods.n pc, .slice oa s.owners.n oc] 26)).trans hc0
    go_loopw [7, 8] (fun v i wr => PodsRel V V.heap.size l x v i wr) (fun _ i _ => l.n - (intOf i).toNat)
    case atStart => exact ⟨0, rfl, by omega, World.ownsRow_nil _ _ _ _, Chg.refl _ _⟩
    case round =>
      obtain ⟨k, rfl, hk, hown, hc⟩ := hrel
      have hsz := hc.size
      have hpl := podsL_len l x k
      by_cases hlt : k < l.n
      · obtain ⟨-, b1, o1, rfl, c1⟩ := (hqs.no hc).2.2.2 k hlt
        have q1 := c1 0 _ rfl
        rw [Nat.add_zero, Nat.mul_one] at q1
        have hlt' : (k : Int) < (l.n : Int) := by omega
        clear c1 hqs
        by_cases he : l.el k = x
        · have heq : (l.el k == x) = true := by simp [he]
          have hpk : podsL l x (k + 1) = podsL l x k ++ [(k : Int)] := by simp [podsL, he]
          have HP := Go.Lib.hid hpk
          have HE := Go.Lib.hid he
          clear hpk he
          obtain ⟨va, vc, rfl, -⟩ := Rd.of_own hown
          go_wp2_with (at_builtin; refine wpList_append_rd _ rfl _ _ _ rfl V.heap.size 3 i0 _ 1 8 Tryz.underlying27 hi hz0 hz1 hz2 rfl (by decide) (.slice va _ vc) _ _ rfl (hown.alloc _) _ 1 [.int .i64 (k : Int)] rfl (rd_new _ _ _ _ 1 1 rfl (by simp)) (by simp [Value.oneCell']) (by unfold maxLen; omega) (by omega) (by simp; omega) ?_; intro v1 w3 ho1 hg1 hi1 hfr1)
          go_roundw
          case rel => exact ⟨k + 1, by go_num, by omega, (by rw [HP.out]; simpa using ho1), Chg.grown' (hc.alloc _) hown hg1⟩
          case measure => simp [intOf]; omega
        · have heq : (l.el k == x) = false := by simp [he]
          have hpk : podsL l x (k + 1) = podsL l x k := by simp [podsL, he]
          have HP := Go.Lib.hid hpk
          have HE := Go.Lib.hid he
          clear hpk he
          go_wp2_with fail
          go_roundw
          case rel => exact ⟨k + 1, by go_num, by omega, (by rw [HP.out]; exact hown), hc⟩
          case measure => simp [intOf]; omega
      · obtain rfl : k = l.n := by omega
        obtain ⟨a, c, rfl, hI⟩ := own_ints hown rfl (by omega)
        have HI := Go.Lib.hid hI
        clear hI hown
        go_wp2_with fail
        go_ret
        exact ⟨a, c, rfl, HI.out, hcw.trans hc⟩

end Go.Proofs.YthpmgnbehahkfaaGreat
end
section
namespace Go.Proofs.YthpmgnbehahkfaaGreat
open Go.RowKit Go.Dk

/-- what the pods of a node ask for, up to a place -/
def usedF (s : SnapD) (l : Lst Int) (x : Int) (i : Nat) : Nat → Int
  | 0 => 0
  | k + 1 => usedF s l x i k + if l.el k = x then (s.pods.el k).req i else 0
def usedV (s : SnapD) (l : Lst Int) (x : Int) (i : Nat) : Int := if mayNB s l x then usedF s l x i l.n else 0

theorem used_le {s : SnapD} {l : Lst Int} {x : Int} {i : Nat} (hf : Fine (fun k => (s.pods.el k).req i) s.pods.n) : ∀ k, k ≤ s.pods.n → 0 ≤ usedF s l x i k ∧ usedF s l x i k ≤ sumF (fun k => (s.pods.el k).req i) k
  | 0, _ => ⟨Int.le_refl _, Int.le_refl _⟩
  | k + 1, hk => by
    have ih := used_le (l := l) (x := x) hf k (by omega)
    have h2 : 0 ≤ (s.pods.el k).req i ∧ (s.pods.el k).req i ≤ 1099511627776 := hf k (by omega)
    simp only [usedF, sumF]
    split <;> omega
theorem may_facts {s : SnapD} {l : Lst Int} (h : mayB s l = true) : shapedB s = true ∧ capsE s = 0 ∧ reqsE s = 0 ∧ l.n = s.pods.n ∧ anyB (fun k => oddP s (l.el k)) l.n = false := by
  simp only [mayB, placeE, decide_eq_true_iff] at h
  split at h
  · rename_i h1
    split at h
    · rename_i h2
      unfold checkE at h1
      split at h1
      · rename_i h3
        split at h1
        · rename_i h4
          exact ⟨h3, h4.1, h4.2, h2.1, h2.2⟩
        · cases h1
      · cases h1
    · cases h
  · rename_i h1
    exact absurd h (by simpa using h1)
theorem req_fine {s : SnapD} (h1 : shapedB s = true) (h2 : reqsE s = 0) {l : Lst Int} (x : Int) (i : Nat) (hi : i < 5) (k : Nat) (hk : k ≤ s.pods.n) : Qty (usedF s l x i k) := by
  have hf := shaped_reqs h1 i hi
  obtain ⟨a, b⟩ := used_le (l := l) (x := x) hf k hk
  have hm := sumF_mono (fun k hk => (hf k hk).1) s.pods.n hk (Nat.le_refl _)
  have ha : AllE (fun k => (s.pods.el k).req) s.pods.n := by
    unfold reqsE plusE at h2
    split at h2
    · assumption
    · cases h2
  have := (allE_iff _ _).1 ha i hi
  unfold addE at this
  split at this
  · exact ⟨a, by omega⟩
  · cases this

def FiveIs (w : World) (g : Nat) (x : Nat → Int) : Prop := w.heap[g]? = some (.cells (cells5 x).toArray 58 (0, 0))
theorem FiveIs.set {w : World} {g : Nat} {x : Nat → Int} (h : FiveIs w g x) (i : Nat) (hi : i < 5) (n : Int) : FiveIs (w.setCell ⟨g, i, none⟩ (.int .i64 n)) g (fun j => if j = i then n else x j) := by
  unfold FiveIs at *
  rw [hset_same h]
  match i, hi with
  | 0, _ => rfl
  | 1, _ => rfl
  | 2, _ => rfl
  | 3, _ => rfl
  | 4, _ => rfl
theorem FiveIs.cell {w : World} {g : Nat} {x : Nat → Int} (h : FiveIs w g x) (i : Nat) (hi : i < 5) : w.cell? ⟨g, i, none⟩ = some (.int .i64 (x i)) := cell_of_heap h (by rw [List.getElem?_toArray]; exact cells5_at x i hi)
theorem FiveIs.congr {w : World} {g : Nat} {x y : Nat → Int} (h : FiveIs w g x) (e : ∀ i, i < 5 → x i = y i) : FiveIs w g y := by
  unfold FiveIs cells5 at *
  rw [← e 0 (by omega), ← e 1 (by omega), ← e 2 (by omega), ← e 3 (by omega), ← e 4 (by omega)]
  exact h

def UsedRel (V : World) (g : Nat) (s : SnapD) (l : Lst Int) (x : Int) (i : Value) (wr : World) : Prop :=
  ∃ k : Nat, i = .int .i64 k ∧ k ≤ l.n ∧ FiveIs wr g (fun j => usedF s l x j k) ∧ Chg (· = g) V wr
def UsedRel2 (V : World) (g : Nat) (s : SnapD) (l : Lst Int) (x : Int) (k : Nat) (i : Value) (wr : World) : Prop :=
  ∃ m : Nat, i = .int .i64 m ∧ m ≤ 5 ∧ FiveIs wr g (fun j => if j < m then usedF s l x j (k + 1) else usedF s l x j k) ∧ Chg (· = g) V wr

set_option maxRecDepth 100000 in
set_option maxHeartbeats 4000000 in
theorem refUsedOf_any {w : World} {n p o q : Value} {s : SnapD} {lv tv : Nat → Value} {pv : Nat → PodV} (h : SnapAt w n p o s lv tv pv) {l : Lst Int} (hq : IntsAt w q l) (x : Int) (hn : l.n = s.pods.n) (hreq : ∀ i, i < 5 → ∀ k, k ≤ s.pods.n → Qty (usedF s l x i k)) (hrq : ∀ i, i < 5 → ∀ k, k < s.pods.n → Qty ((s.pods.el k).req i)) :
    Calls Tryz.prog 113 #[.agg #[n, p, o], q, .int .i64 x] w fun e w' => e = .returned (.agg (cells5 (fun i => usedF s l x i l.n)).toArray) ∧ Chg No w w' := by
  have hcw := (((Chg.refl No w).alloc (.cells #[n, p, o] 26)).alloc (.cells #[.int .i64 0, .int .i64 0, .int .i64 0, .int .i64 0, .int .i64 0] 58)).alloc (.cells #[.int .i64 0, .int .i64 0, .int .i64 0, .int .i64 0, .int .i64 0] 58)
  have hA := heap_alloc_old' (heap_alloc_old' (heap_alloc_new w (.cells #[n, p, o] 26)) (o' := .cells #[.int .i64 0, .int .i64 0, .int .i64 0, .int .i64 0, .int .i64 0] 58)) (o' := .cells #[.int .i64 0, .int .i64 0, .int .i64 0, .int .i64 0, .int .i64 0] 58)
  have hR := heap_alloc_old' (heap_alloc_new (w.alloc (.cells #[n, p, o] 26)) (.cells #[.int .i64 0, .int .i64 0, .int .i64 0, .int .i64 0, .int .i64 0] 58)) (o' := .cells #[.int .i64 0, .int .i64 0, .int .i64 0, .int .i64 0, .int .i64 0] 58)
  have hO := heap_alloc_new ((w.alloc (.cells #[n, p, o] 26)).alloc (.cells #[.int .i64 0, .int .i64 0, .int .i64 0, .int .i64 0, .int .i64 0] 58)) (.cells #[.int .i64 0, .int .i64 0, .int .i64 0, .int .i64 0, .int .i64 0] 58)
  simp only [World.size_alloc] at hR hO
  have hltP : ∀ ad, (∃ m c, p = .slice (some ad) m c) → 0 < s.pods.n → ad.block < w.heap.size := by
    rintro ad ⟨m, c, rfl⟩ h0
    obtain ⟨-, hx⟩ := h.pods.sl
    obtain ⟨-, b, o, e, hc⟩ := hx.2.2.2 0 h0
    cases e
    exact World.block_lt_of_cell? w _ (hc 0 _ rfl)
  have hltQ : ∀ ad, (∃ m c, q = .slice (some ad) m c) → 0 < l.n → ad.block < w.heap.size := by
    rintro ad ⟨m, c, rfl⟩ h0
    obtain ⟨_, a', c', e', hx⟩ := hq
    cases e'
    obtain ⟨-, b, o, e, hc⟩ := hx.2.2.2 0 h0
    cases e
    exact World.block_lt_of_cell? w _ (hc 0 _ rfl)
  have hS := h.no hcw
  have hQ := hq.no hcw
  obtain ⟨na, nc, pa, pc, oa, oc, rfl, rfl, rfl⟩ := h.args
  obtain ⟨hqn, qa, qc, rfl, -⟩ := hq
  obtain ⟨-, hxp⟩ := hS.pods.sl
  obtain ⟨-, _, _, e, hxq⟩ := hQ
  cases e
  clear h
  have HN := Go.Lib.hid hn
  clear hn
  go_enter Tryz.func113, Tryz.ntmps113
  go_wp2_with fail
  generalize ((w.alloc _).alloc _).alloc _ = W at hcw hA hR hO hxp hxq hS ⊢
  generalize hBe : w.heap.size = B at hA hR hO hltP hltQ ⊢
  have HBe := Go.Lib.hid hBe
  clear hBe hS
  have b1 := cell_of_heap (j := 1) hA rfl
  go_loopw [8] (fun i wr => UsedRel W (B + 2) s l x i wr) (fun i _ => l.n - (intOf i).toNat)
  case atStart => exact ⟨0, rfl, by omega, hO, Chg.refl _ _⟩
  case round =>
    obtain ⟨k, rfl, hk, h5, hc⟩ := hrel
    by_cases hlt : k < l.n
    · have hxq1 := hxq.chg2 hc (fun ad h1 h2 e => by have := hltQ ad ⟨_, _, by rw [h1]⟩ h2; omega)
      obtain ⟨-, bq, oq, rfl, qcell⟩ := hxq1.2.2.2 k hlt
      have q0 := qcell 0 _ rfl
      rw [Nat.add_zero, Nat.mul_one] at q0
      have hxp1 := hxp.chg2 hc (fun ad h1 h2 e => by have := hltP ad ⟨_, _, by rw [h1]⟩ h2; omega)
      have hkp : k < s.pods.n := by have := HN.out; omega
      have hlt' : (k : Int) < (l.n : Int) := by omega
      have hlt2 : (k : Int) < (s.pods.n : Int) := by omega
      have hqb := hltQ ⟨bq, oq, none⟩ ⟨_, _, rfl⟩ (by omega)
      have b1' := hc.cell b1 (by show ¬ B = B + 2; omega)
      generalize wr = V at h5 hc q0 hxp1 b1' ⊢
      go_wp2_with fail
      go_loopw [9] (fun i wr => UsedRel2 V (B + 2) s l x k i wr) (fun i _ => 5 - (intOf i).toNat)
      case atStart => exact ⟨0, rfl, by omega, h5.congr (fun j _ => by simp), Chg.refl _ _⟩
      case round =>
        obtain ⟨m, rfl, hm, h52, hc2⟩ := hrel
        have q1 := hc2.cell q0 (by show ¬ bq = B + 2; have h9 : bq < B := hqb; omega)
        by_cases hx : l.el k = x
        · have heq : (l.el k == x) = true := by simp [hx]
          by_cases hm5 : m < 5
          · obtain ⟨-, bp, op, rfl, pcell⟩ := hxp1.2.2.2 k hkp
            have hpb := hltP ⟨bp, op, none⟩ ⟨_, _, rfl⟩ (by have := HN.out; omega)
            have pm : ((s.pods.el k).cells (pv k))[2 + m]? = some (.int .i64 ((s.pods.el k).req m)) := by
              match m, hm5 with
              | 0, _ => rfl
              | 1, _ => rfl
              | 2, _ => rfl
              | 3, _ => rfl
              | 4, _ => rfl
            have qp := hc2.cell (pcell (2 + m) _ pm) (by show ¬ bp = B + 2; have h9 : bp < B := hpb; omega)
            rw [← Nat.add_assoc] at qp
            have qo := h52.cell m hm5
            rw [if_neg (by omega)] at qo
            have qf := free_of_heap (j := m) h52
            have b2 := hc2.cell b1' (by show ¬ B = B + 2; omega)
            have hw : IntKind.i64.wrap (usedF s l x m k + (s.pods.el k).req m) = usedF s l x m k + (s.pods.el k).req m := by
              have := hreq m hm5 k (by have := HN.out; omega)
              have := hrq m hm5 k hkp
              unfold Qty at *
              exact IntWalk.i64_in _ (by omega)
            have hm' : (m : Int) < 5 := by omega
            have hm0 : (0 : Int) ≤ (m : Int) := by omega
            have hstep : usedF s l x m (k + 1) = usedF s l x m k + (s.pods.el k).req m := by simp [usedF, hx]
            have HST := Go.Lib.hid hstep
            have H52 := Go.Lib.hid h52
            clear hstep pcell pm hxp hxq hxq1 hxp1 qcell h52 hx
            go_wp2_with fail
            go_region
            all_goals
              go_wp2_with fail
              go_roundw
              case rel => exact ⟨m + 1, by go_num, by omega, (H52.out.set m hm5 _).congr (fun j hj => by
                by_cases h1 : j = m
                · subst h1; rw [if_pos rfl, if_pos (by omega), HST.out]
                · rw [if_neg h1]; by_cases h2 : j < m
                  · rw [if_pos h2, if_pos (by omega)]
                  · rw [if_neg h2, if_neg (by omega)]), (hc2.setCell (p := ⟨B + 1 + 1, m, none⟩) (fun _ => rfl) _).drew⟩
              case measure => simp [intOf]; omega
          · obtain rfl : m = 5 := by omega
            go_wp2_with fail
            go_roundw
            case rel => exact ⟨k + 1, by go_num, by omega, h52.congr (fun j hj => by rw [if_pos hj]), hc.trans hc2⟩
            case measure => simp [intOf]; omega
        · have heq : (l.el k == x) = false := by simp [hx]
          have hsame : ∀ j, usedF s l x j (k + 1) = usedF s l x j k := fun j => by simp [usedF, hx]
          have HSM := Go.Lib.hid hsame
          clear hsame
          by_cases hm5 : m < 5
          · have hm' : (m : Int) < 5 := by omega
            clear hxp hxq hxq1 hxp1 qcell
            go_wp2_with fail
            go_roundw
            case rel => exact ⟨k + 1, by go_num, by omega, h52.congr (fun j hj => by rw [HSM.out]; split <;> rfl), hc.trans hc2⟩
            case measure => simp [intOf]; omega
          · obtain rfl : m = 5 := by omega
            go_wp2_with fail
            go_roundw
            case rel => exact ⟨k + 1, by go_num, by omega, h52.congr (fun j hj => by rw [if_pos hj]), hc.trans hc2⟩
            case measure => simp [intOf]; omega
    · obtain rfl : k = l.n := by omega
      obtain ⟨x0, hx0⟩ : ∃ y : Nat → Int, y = fun j => usedF s l x j l.n := ⟨_, rfl⟩
      rw [← hx0] at h5
      have HX0 := Go.Lib.hid hx0
      clear hx0 hxp hxq
      have hR2 : FiveIs wr (B + 1) (fun _ => 0) := hc.heap hR (by omega)
      have y0 : wr.cell? ⟨B + 2, 0, none⟩ = some (.int .i64 (x0 0)) := h5.cell 0 (by omega)
      have y1 : wr.cell? ⟨B + 2, 1, none⟩ = some (.int .i64 (x0 1)) := h5.cell 1 (by omega)
      have y2 : wr.cell? ⟨B + 2, 2, none⟩ = some (.int .i64 (x0 2)) := h5.cell 2 (by omega)
      have y3 : wr.cell? ⟨B + 2, 3, none⟩ = some (.int .i64 (x0 3)) := h5.cell 3 (by omega)
      have y4 : wr.cell? ⟨B + 2, 4, none⟩ = some (.int .i64 (x0 4)) := h5.cell 4 (by omega)
      have u0 : wr.cell? ⟨B + 1, 0, none⟩ = some (.int .i64 0) := hR2.cell 0 (by omega)
      have z0 : wr.frozen? ⟨B + 1, 0, none⟩ = false := free_of_heap hR2
      have u1 : wr.cell? ⟨B + 1, 1, none⟩ = some (.int .i64 0) := hR2.cell 1 (by omega)
      have z1 : wr.frozen? ⟨B + 1, 1, none⟩ = false := free_of_heap hR2
      have u2 : wr.cell? ⟨B + 1, 2, none⟩ = some (.int .i64 0) := hR2.cell 2 (by omega)
      have z2 : wr.frozen? ⟨B + 1, 2, none⟩ = false := free_of_heap hR2
      have u3 : wr.cell? ⟨B + 1, 3, none⟩ = some (.int .i64 0) := hR2.cell 3 (by omega)
      have z3 : wr.frozen? ⟨B + 1, 3, none⟩ = false := free_of_heap hR2
      have u4 : wr.cell? ⟨B + 1, 4, none⟩ = some (.int .i64 0) := hR2.cell 4 (by omega)
      have z4 : wr.frozen? ⟨B + 1, 4, none⟩ = false := free_of_heap hR2
      have hW := hcw.trans' hc (fun i h1 h2 => by have := HBe.out; omega)
      go_wp2_with fail
      have h53 := (((((hR2).set 0 (by omega) (x0 0)).set 1 (by omega) (x0 1)).set 2 (by omega) (x0 2)).set 3 (by omega) (x0 3)).set 4 (by omega) (x0 4)
      have hch : Chg (· = B + 1) wr _ := (((((Chg.refl (· = B + 1) wr).setCell (p := ⟨B + 1, 0, none⟩) (fun _ => rfl) (.int .i64 (x0 0))).setCell (p := ⟨B + 1, 1, none⟩) (fun _ => rfl) (.int .i64 (x0 1))).setCell (p := ⟨B + 1, 2, none⟩) (fun _ => rfl) (.int .i64 (x0 2))).setCell (p := ⟨B + 1, 3, none⟩) (fun _ => rfl) (.int .i64 (x0 3))).setCell (p := ⟨B + 1, 4, none⟩) (fun _ => rfl) (.int .i64 (x0 4))
      generalize ((((wr.setCell _ _).setCell _ _).setCell _ _).setCell _ _).setCell _ _ = W3 at h53 hch ⊢
      have c0 := h53.cell 0 (by omega)
      have c1 := h53.cell 1 (by omega)
      have c2 := h53.cell 2 (by omega)
      have c3 := h53.cell 3 (by omega)
      have c4 := h53.cell 4 (by omega)
      simp only [if_pos, if_neg, Nat.zero_ne_one, reduceIte] at c0 c1 c2 c3 c4
      simp at c0 c1 c2 c3 c4
      (try simp only [Exit.inBlock, Exit.then])
      refine bodyPost_ret (by simp [results, Tryz.results113, go_sem, c0, c1, c2, c3, c4]; try rfl) rfl ?_
      refine ⟨?_, hW.trans' hch (fun i h1 h2 => by have := HBe.out; omega)⟩
      rw [← HX0.out]; rfl
end Go.Proofs.YthpmgnbehahkfaaGreat
end
section
namespace Go.Proofs.YthpmgnbehahkfaaGreat
open Go.RowKit Go.Dk

theorem mayNB_facts {s : SnapD} {l : Lst Int} {x : Int} (h : mayNB s l x = true) : mayB s l = true ∧ 0 ≤ x ∧ x < s.nodes.n := by
  simp only [mayNB, Bool.and_eq_true, decide_eq_true_iff] at h
  exact ⟨h.1.1, h.1.2, h.2⟩
theorem used_qty {s : SnapD} {l : Lst Int} (h : mayB s l = true) (x : Int) (i : Nat) (hi : i < 5) (k : Nat) (hk : k ≤ s.pods.n) : Qty (usedF s l x i k) := by
  obtain ⟨h1, h2, h3, h4, h5⟩ := may_facts h
  exact req_fine h1 h3 x i hi k hk
theorem req_qty {s : SnapD} {l : Lst Int} (h : mayB s l = true) (i : Nat) (hi : i < 5) (k : Nat) (hk : k < s.pods.n) : Qty ((s.pods.el k).req i) := by
  obtain ⟨h1, -⟩ := may_facts h
  exact shaped_reqs h1 i hi k hk
theorem usedV_qty (s : SnapD) (l : Lst Int) (x : Int) (i : Nat) (hi : i < 5) : Qty (usedV s l x i) := by
  unfold usedV
  split
  · rename_i h
    have hm := (mayNB_facts h).1
    exact used_qty hm x i hi _ (by rw [(may_facts hm).2.2.2.1]; exact Nat.le_refl _)
  · exact ⟨Int.le_refl _, by omega⟩

set_option maxRecDepth 100000 in
set_option maxHeartbeats 4000000 in
theorem refUsed_any {w : World} {n p o q : Value} {s : SnapD} {lv tv : Nat → Value} {pv : Nat → PodV} (h : SnapAt w n p o s lv tv pv) {l : Lst Int} (hq : IntsAt w q l) (x : Int) :
    Calls Tryz.prog 69 #[.agg #[n, p, o], q, .int .i64 x] w fun e w' => e = .returned (.agg (cells5 (usedV s l x)).toArray) ∧ Chg No w w' := by
  have hcw := ((Chg.refl No w).alloc (.cells #[n, p, o] 26)).alloc (.cells #[.int .i64 0, .int .i64 0, .int .i64 0, .int .i64 0, .int .i64 0] 58)
  have hA := heap_alloc_old' (heap_alloc_new w (.cells #[n, p, o] 26)) (o' := .cells #[.int .i64 0, .int .i64 0, .int .i64 0, .int .i64 0, .int .i64 0] 58)
  have hR := heap_alloc_new (w.alloc (.cells #[n, p, o] 26)) (.cells #[.int .i64 0, .int .i64 0, .int .i64 0, .int .i64 0, .int .i64 0] 58)
  simp only [World.size_alloc] at hR
  have hS := h.no hcw
  have hQ := hq.no hcw
  have p1 := fun W (hc : Chg No _ W) => refPlaceCheck_any (hS.no hc) (hQ.no hc)
  have p2 := fun W (hc : Chg No _ W) => refUsedOf_any (hS.no hc) (hQ.no hc) x
  obtain ⟨na, nc, pa, pc, oa, oc, rfl, rfl, rfl⟩ := h.args
  obtain ⟨hqn, qa, qc, rfl, -⟩ := hq
  clear h hS hQ
  obtain ⟨f, hf⟩ : ∃ f, f = usedV s l x := ⟨_, rfl⟩
  rw [← hf]
  go_enter Tryz.func69, Tryz.ntmps69
  go_wp2_with fail
  generalize (w.alloc _).alloc _ = W at hcw hA hR p1 p2 ⊢
  generalize hBe : w.heap.size = B at hA hR ⊢
  have HBe := Go.Lib.hid hBe
  clear hBe
  refine (p1 _ (Chg.refl _ _)).mono ?_
  rintro e V ⟨rfl, hc⟩
  have b0 := hc.cell (cell_of_heap (j := 0) hA rfl) id
  have b1 := hc.cell (cell_of_heap (j := 1) hA rfl) id
  have b2 := hc.cell (cell_of_heap (j := 2) hA rfl) id
  have hR2 : FiveIs V (B + 1) (fun _ => 0) := hc.heap hR id
  have p3 := p2 V hc
  clear p1 p2 hA hR
  have hcw := hcw.trans hc
  clear hc
  cases hm : mayNB s l x with
  | true =>
    obtain ⟨m1, m2, m3⟩ := mayNB_facts hm
    have p4 := p3 (may_facts m1).2.2.2.1 (used_qty m1 x) (req_qty m1)
    have he : placeE s l = 0 := by simpa [mayB] using m1
    rw [he]
    have hff : f = fun i => usedF s l x i l.n := by rw [hf]; funext i; unfold usedV; rw [if_pos hm]
    rw [← hff] at p4
    clear hff p3 hm m1 he hf
    have n1 : ¬ x < 0 := by omega
    have n2 : ¬ (s.nodes.n : Int) ≤ x := by omega
    go_wp2_with (go_at_call 113; refine p4.mono ?_; rintro e V2 ⟨rfl, hc2⟩; have hR3 : FiveIs V2 (B + 1) (fun _ => 0) := hc2.heap hR2 id; have u0 : V2.cell? ⟨B + 1, 0, none⟩ = some (.int .i64 0) := FiveIs.cell hR3 0 (by omega); have u1 : V2.cell? ⟨B + 1, 1, none⟩ = some (.int .i64 0) := FiveIs.cell hR3 1 (by omega); have u2 : V2.cell? ⟨B + 1, 2, none⟩ = some (.int .i64 0) := FiveIs.cell hR3 2 (by omega); have u3 : V2.cell? ⟨B + 1, 3, none⟩ = some (.int .i64 0) := FiveIs.cell hR3 3 (by omega); have u4 : V2.cell? ⟨B + 1, 4, none⟩ = some (.int .i64 0) := FiveIs.cell hR3 4 (by omega); have z0 : V2.frozen? ⟨B + 1, 0, none⟩ = false := free_of_heap hR3; have z1 : V2.frozen? ⟨B + 1, 1, none⟩ = false := free_of_heap hR3; have z2 : V2.frozen? ⟨B + 1, 2, none⟩ = false := free_of_heap hR3; have z3 : V2.frozen? ⟨B + 1, 3, none⟩ = false := free_of_heap hR3; have z4 : V2.frozen? ⟨B + 1, 4, none⟩ = false := free_of_heap hR3; unfold cells5)
    have h53 := (FiveIs.set (FiveIs.set (FiveIs.set (FiveIs.set (FiveIs.set hR3 0 (by omega) (f 0)) 1 (by omega) (f 1)) 2 (by omega) (f 2)) 3 (by omega) (f 3)) 4 (by omega) (f 4))
    have hch : Chg (· = B + 1) V2 _ := (((((Chg.refl (· = B + 1) V2).setCell (p := ⟨B + 1, 0, none⟩) (fun _ => rfl) (.int .i64 (f 0))).setCell (p := ⟨B + 1, 1, none⟩) (fun _ => rfl) (.int .i64 (f 1))).setCell (p := ⟨B + 1, 2, none⟩) (fun _ => rfl) (.int .i64 (f 2))).setCell (p := ⟨B + 1, 3, none⟩) (fun _ => rfl) (.int .i64 (f 3))).setCell (p := ⟨B + 1, 4, none⟩) (fun _ => rfl) (.int .i64 (f 4))
    generalize ((((V2.setCell _ _).setCell _ _).setCell _ _).setCell _ _).setCell _ _ = W3 at h53 hch ⊢
    have c0 := h53.cell 0 (by omega)
    have c1 := h53.cell 1 (by omega)
    have c2 := h53.cell 2 (by omega)
    have c3 := h53.cell 3 (by omega)
    have c4 := h53.cell 4 (by omega)
    simp at c0 c1 c2 c3 c4
    (try simp only [Exit.inBlock, Exit.then])
    refine bodyPost_ret (by simp [results, Tryz.results69, go_sem, c0, c1, c2, c3, c4]; try rfl) rfl ?_
    exact ⟨rfl, (hcw.trans hc2).trans' hch (fun i h1 h2 => by have := HBe.out; omega)⟩
  | false =>
    have hf0 : f = fun _ => 0 := by rw [hf]; funext i; unfold usedV; rw [hm]; rfl
    subst hf0
    have hcs : ¬ placeE s l = 0 ∨ (placeE s l = 0 ∧ x < 0) ∨ (placeE s l = 0 ∧ ¬ x < 0 ∧ (s.nodes.n : Int) ≤ x) := by
      simp only [mayNB, mayB, Bool.and_eq_false_imp, Bool.and_eq_true, decide_eq_true_iff, decide_eq_false_iff_not] at hm
      by_cases h1 : placeE s l = 0
      · by_cases h2 : x < 0
        · exact .inr (.inl ⟨h1, h2⟩)
        · exact .inr (.inr ⟨h1, h2, by have := hm ⟨h1, by omega⟩; omega⟩)
      · exact .inl h1
    clear hm hf p3
    have u0 : V.cell? ⟨B + 1, 0, none⟩ = some (.int .i64 0) := FiveIs.cell hR2 0 (by omega)
    have u1 : V.cell? ⟨B + 1, 1, none⟩ = some (.int .i64 0) := FiveIs.cell hR2 1 (by omega)
    have u2 : V.cell? ⟨B + 1, 2, none⟩ = some (.int .i64 0) := FiveIs.cell hR2 2 (by omega)
    have u3 : V.cell? ⟨B + 1, 3, none⟩ = some (.int .i64 0) := FiveIs.cell hR2 3 (by omega)
    have u4 : V.cell? ⟨B + 1, 4, none⟩ = some (.int .i64 0) := FiveIs.cell hR2 4 (by omega)
    have z0 : V.frozen? ⟨B + 1, 0, none⟩ = false := free_of_heap hR2
    have z1 : V.frozen? ⟨B + 1, 1, none⟩ = false := free_of_heap hR2
    have z2 : V.frozen? ⟨B + 1, 2, none⟩ = false := free_of_heap hR2
    have z3 : V.frozen? ⟨B + 1, 3, none⟩ = false := free_of_heap hR2
    have z4 : V.frozen? ⟨B + 1, 4, none⟩ = false := free_of_heap hR2
    generalize placeE s l = e at *
    rcases hcs with h1 | ⟨h1, h2⟩ | ⟨h1, h2, h3⟩
    all_goals
      go_wp2_with fail
      have h53 := (FiveIs.set (FiveIs.set (FiveIs.set (FiveIs.set (FiveIs.set hR2 0 (by omega) 0) 1 (by omega) 0) 2 (by omega) 0) 3 (by omega) 0) 4 (by omega) 0)
      have hch : Chg (· = B + 1) V _ := (((((Chg.refl (· = B + 1) V).setCell (p := ⟨B + 1, 0, none⟩) (fun _ => rfl) (.int .i64 0)).setCell (p := ⟨B + 1, 1, none⟩) (fun _ => rfl) (.int .i64 0)).setCell (p := ⟨B + 1, 2, none⟩) (fun _ => rfl) (.int .i64 0)).setCell (p := ⟨B + 1, 3, none⟩) (fun _ => rfl) (.int .i64 0)).setCell (p := ⟨B + 1, 4, none⟩) (fun _ => rfl) (.int .i64 0)
      generalize ((((V.setCell _ _).setCell _ _).setCell _ _).setCell _ _).setCell _ _ = W3 at h53 hch ⊢
      have c0 := h53.cell 0 (by omega)
      have c1 := h53.cell 1 (by omega)
      have c2 := h53.cell 2 (by omega)
      have c3 := h53.cell 3 (by omega)
      have c4 := h53.cell 4 (by omega)
      simp at c0 c1 c2 c3 c4
      (try simp only [Exit.inBlock, Exit.then])
      refine bodyPost_ret (by simp [results, Tryz.results69, go_sem, c0, c1, c2, c3, c4]; try rfl) rfl ?_
      exact ⟨rfl, hcw.trans' hch (fun i h1 h2 => by have := HBe.out; omega)⟩
end Go.Proofs.YthpmgnbehahkfaaGreat
end
