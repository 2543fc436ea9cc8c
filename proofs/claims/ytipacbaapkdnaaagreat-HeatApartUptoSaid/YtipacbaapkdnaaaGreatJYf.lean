/- drayageref07.Check; may (printed by genyf.py). -/
import Derived.Test.YtipacbaapkdnaaaGreatJYe
set_option linter.unusedSimpArgs false
set_option linter.unusedVariables false
namespace Go.Proofs.YtipacbaapkdnaaaGreat
open Go.RowKit Go.Dk

set_option maxRecDepth 100000 in
set_option maxHeartbeats 2000000 in
theorem refPlaceCheck_any {w : World} {n p o q : Value} {s : SnapD} {lv tv : Nat → Value} {pv : Nat → PodV} (h : SnapAt w n p o s lv tv pv) {l : Lst Int} (hq : IntsAt w q l) :
    Gives 58 #[.agg #[n, p, o], q] w (.int .i64 (placeE s l)) := by
  have hcw := (Chg.refl No w).alloc (.cells #[n, p, o] 26)
  have hA := heap_alloc_new w (.cells #[n, p, o] 26)
  have hS := h.no hcw
  have hQ := hq.no hcw
  obtain ⟨na, nc, pa, pc, oa, oc, rfl, rfl, rfl⟩ := h.args
  obtain ⟨hqn, qa, qc, rfl, hqs⟩ := hq
  have hqs := hqs.no hcw
  obtain ⟨-, hx⟩ := hS.nodes.sl
  clear h
  unfold Gives
  obtain ⟨r, hr⟩ : ∃ r, r = placeE s l := ⟨_, rfl⟩
  rw [← hr]
  have HRR := Go.Lib.hid hr
  clear hr
  go_enter Tryz.func58, Tryz.ntmps58
  go_wp2_with fail
  generalize w.alloc _ = W at hcw hA hS hQ hqs hx ⊢
  generalize w.heap.size = B at hA ⊢
  have q0 := fun y : Wd No W => refCheckS_any (hS.no y.chg)
  unfold Gives at q0
  have sa := fun y : Wd No W => y.chg.cell (cell_of_heap (j := 0) hA rfl) id
  have sb := fun y : Wd No W => y.chg.cell (cell_of_heap (j := 1) hA rfl) id
  have HQS := Go.Lib.hid hqs
  have HX := Go.Lib.hid hx
  clear hA hS hQ hqs hx
  obtain ⟨y, hy⟩ := Wd.start No W
  rw [← hy]
  clear hy
  by_cases he : checkE s = 0
  · rw [he] at q0
    by_cases hn : l.n = s.pods.n
    · have hni : ((l.n : Int) != (s.pods.n : Int)) = false := by simp; omega
      have hodd : anyB (fun k => oddP s (l.el k)) l.n = true → placeE s l = 2 := fun h => by
        unfold placeE; rw [if_pos he, if_neg]; rintro ⟨_, h2⟩; rw [h] at h2; cases h2
      have hgood : anyB (fun k => oddP s (l.el k)) l.n = false → placeE s l = 0 := fun h => by
        unfold placeE; rw [if_pos he, if_pos ⟨hn, h⟩]
      have HO := Go.Lib.hid hodd
      have HG := Go.Lib.hid hgood
      clear hn he hodd hgood
      go_wp2_with ((go_at_call 90; refine (q0 _).mono ?_; rintro e w' ⟨rfl, hc'⟩; obtain ⟨y, rfl⟩ := Wd.next hc'; clear hc'))
      go_loopw [6] (fun i wr => PlcRel W s l i wr) (fun i _ => l.n - (intOf i).toNat)
      case atStart => exact ⟨0, rfl, by omega, (fun j hj => by omega), Wd.chg _⟩
      case round =>
        obtain ⟨k, rfl, hk, hall, hc⟩ := hrel
        obtain ⟨y, rfl⟩ := Wd.of hc
        by_cases hlt : k < l.n
        · obtain ⟨-, b, o', rfl, lcell⟩ := HQS.out.2.2.2 k hlt
          have n0 := lcell 0 _ rfl
          rw [Nat.add_zero, Nat.mul_one] at n0
          have n0 := fun y : Wd No W => y.chg.cell n0 id
          have hlt' : (k : Int) < (l.n : Int) := by omega
          have hway := oddWay s (l.el k)
          have HT := Go.Lib.hid (fun h : oddP s (l.el k) = true => HO.out (anyB_true hlt h))
          have HALL := Go.Lib.hid hall
          clear lcell hall
          obtain ⟨x, hx⟩ : ∃ x, x = l.el k := ⟨_, rfl⟩
          rw [← hx] at n0 hway HT
          have HXX := Go.Lib.hid hx
          clear hx
          rcases hway with ⟨h1, hb⟩ | ⟨h1, h2, hb⟩ | ⟨h1, h2, h3, hb⟩ | ⟨m, hm, rfl, b', hl, hb⟩
          · have HB := Go.Lib.hid hb
            clear hb
            go_wp2_with fail
            refine wp_region_wd2 _ (by kernel_rfl) (by kernel_rfl) ?_
            repeat (refine WQ.step (fun K hK => ?_); go_simp; first | (refine hK _ ?_; clear hK K) | (apply Exists.intro; refine ⟨fun _ => ?_, hK _ ?_⟩; fail; clear hK K))
            refine WQ.nil ?_
            rintro _ ⟨z, rfl⟩
            go_wp2_with fail
            go_ret
            rw [HRR.out, HT.out HB.out]; exact ⟨rfl, hcw.trans (Wd.chg _)⟩
          · have HB := Go.Lib.hid hb
            clear hb
            go_wp2_with fail
            refine wp_region_wd2 _ (by kernel_rfl) (by kernel_rfl) ?_
            repeat (refine WQ.step (fun K hK => ?_); go_simp; first | (refine hK _ ?_; clear hK K) | (apply Exists.intro; refine ⟨fun _ => ?_, hK _ ?_⟩; fail; clear hK K))
            refine WQ.nil ?_
            rintro _ ⟨z, rfl⟩
            go_wp2_with fail
            go_ret
            rw [HRR.out, HT.out HB.out]; exact ⟨rfl, hcw.trans (Wd.chg _)⟩
          · have HB := Go.Lib.hid hb
            clear hb
            have ex : x = -1 := by omega
            subst ex
            clear h1 h2 h3
            go_wp2_with fail
            refine wp_region_wd2 _ (by kernel_rfl) (by kernel_rfl) ?_
            repeat (refine WQ.step (fun K hK => ?_); go_simp; first | (refine hK _ ?_; clear hK K) | (apply Exists.intro; refine ⟨fun _ => ?_, hK _ ?_⟩; fail; clear hK K))
            refine WQ.nil ?_
            rintro _ ⟨z, rfl⟩
            go_wp2_with fail
            go_roundw
            case rel => exact ⟨k + 1, by go_num, by omega, (fun j hj => by rcases Nat.lt_or_eq_of_le (Nat.le_of_lt_succ hj) with h | h; exact HALL.out j h; subst h; rw [← HXX.out]; exact HB.out), Wd.chg _⟩
            case measure => simp [intOf]; omega
          · obtain ⟨-, nb, no, rfl, ncell⟩ := HX.out.2.2.2 m hm
            have ql := fun y : Wd No W => y.chg.cell (ncell 9 (.bool (s.nodes.el m).lost) rfl) id
            rw [hl] at ql
            have HB := Go.Lib.hid hb
            have h1 : ¬ ((m : Int) < -1) := by omega
            have h2 : ¬ ((s.nodes.n : Int) ≤ (m : Int)) := by omega
            have h3 : (0 : Int) ≤ (m : Int) := by omega
            have h4 : (m : Int) < (s.nodes.n : Int) := by omega
            have h5 : (s.nodes.n ≤ m) = False := by simp; omega
            clear hb ncell hl
            cases b' with
            | true =>
              go_wp2_with fail
              refine wp_region_wd2 _ (by kernel_rfl) (by kernel_rfl) ?_
              repeat (refine WQ.step (fun K hK => ?_); go_simp; first | (refine hK _ ?_; clear hK K) | (apply Exists.intro; refine ⟨fun _ => ?_, hK _ ?_⟩; fail; clear hK K))
              refine WQ.nil ?_
              rintro _ ⟨z, rfl⟩
              go_wp2_with fail
              go_ret
              rw [HRR.out, HT.out HB.out]; exact ⟨rfl, hcw.trans (Wd.chg _)⟩
            | false =>
              go_wp2_with fail
              refine wp_region_wd2 _ (by kernel_rfl) (by kernel_rfl) ?_
              repeat (refine WQ.step (fun K hK => ?_); go_simp; first | (refine hK _ ?_; clear hK K) | (apply Exists.intro; refine ⟨fun _ => ?_, hK _ ?_⟩; fail; clear hK K))
              refine WQ.nil ?_
              rintro _ ⟨z, rfl⟩
              go_wp2_with fail
              go_roundw
              case rel => exact ⟨k + 1, by go_num, by omega, (fun j hj => by rcases Nat.lt_or_eq_of_le (Nat.le_of_lt_succ hj) with h | h; exact HALL.out j h; subst h; rw [← HXX.out]; exact HB.out), Wd.chg _⟩
              case measure => simp [intOf]; omega
        · obtain rfl : k = l.n := by omega
          have HG2 := Go.Lib.hid (HG.out (anyB_false hall))
          clear hall
          go_wp2_with fail
          go_ret
          rw [HRR.out, HG2.out]; exact ⟨rfl, hcw.trans (Wd.chg _)⟩
    · have hni : ((l.n : Int) != (s.pods.n : Int)) = true := by simp; omega
      have hr : placeE s l = 2 := by unfold placeE; rw [if_pos he, if_neg (fun h => hn h.1)]
      have HR := Go.Lib.hid hr
      clear hn he hr
      go_wp2_with ((go_at_call 90; refine (q0 _).mono ?_; rintro e w' ⟨rfl, hc'⟩; obtain ⟨y, rfl⟩ := Wd.next hc'; clear hc'))
      go_ret
      rw [HRR.out, HR.out]; exact ⟨rfl, hcw.trans (Wd.chg _)⟩
  · have hr : placeE s l = checkE s := by unfold placeE; rw [if_neg he]
    have HR := Go.Lib.hid hr
    clear hr
    generalize checkE s = e1 at *
    go_wp2_with ((go_at_call 90; refine (q0 _).mono ?_; rintro e w' ⟨rfl, hc'⟩; obtain ⟨y, rfl⟩ := Wd.next hc'; clear hc'))
    go_ret
    rw [HRR.out, HR.out]; exact ⟨rfl, hcw.trans (Wd.chg _)⟩

def mayB (s : SnapD) (l : Lst Int) : Bool := decide (placeE s l = 0)
theorem heatMay_any {w : World} {n p o q : Value} {s : SnapD} {lv tv : Nat → Value} {pv : Nat → PodV} (h : SnapAt w n p o s lv tv pv) {l : Lst Int} (hq : IntsAt w q l) :
    Gives 33 #[.agg #[n, p, o], q] w (.bool (mayB s l)) := by
  have p1 := fun W (hc : Chg No w W) => placeCheck_any (h.no hc) (hq.no hc)
  obtain ⟨na, nc, pa, pc, oa, oc, rfl, rfl, rfl⟩ := h.args
  obtain ⟨_, _, _, rfl, _⟩ := hq
  unfold Gives mayB at *
  clear h
  generalize placeE s l = e1 at *
  go_enter Tryz.func33, Tryz.ntmps33
  go_wp2_with (go_at_call 25; refine (p1 _ ((Chg.refl No w).alloc _)).mono ?_; rintro e w' ⟨rfl, hc⟩)
  go_ret
  exact ⟨by simp [dec_eqz], ((Chg.refl No w).alloc _).trans hc⟩
/-- may all be, and is there the node -/
def mayNB (s : SnapD) (l : Lst Int) (x : Int) : Bool := mayB s l && decide (0 ≤ x) && decide (x < s.nodes.n)
theorem refMay_any {w : World} {n p o q : Value} {s : SnapD} {lv tv : Nat → Value} {pv : Nat → PodV} (h : SnapAt w n p o s lv tv pv) {l : Lst Int} (hq : IntsAt w q l) (x : Int) :
    Gives 35 #[.agg #[n, p, o], q, .int .i64 x] w (.bool (mayNB s l x)) := by
  have p1 := fun W (hc : Chg No w W) => refPlaceCheck_any (h.no hc) (hq.no hc)
  obtain ⟨na, nc, pa, pc, oa, oc, rfl, rfl, rfl⟩ := h.args
  obtain ⟨_, _, _, rfl, _⟩ := hq
  unfold Gives mayNB mayB at *
  have hA := heap_alloc_new w (.cells #[.slice na s.nodes.n nc, .slice pa s.pods.n pc, .slice oa s.owners.n oc] 26)
  clear h
  generalize placeE s l = e1 at *
  go_enter Tryz.func35, Tryz.ntmps35
  go_wp2_with (go_at_call 58; refine (p1 _ ((Chg.refl No w).alloc _)).mono ?_; rintro e w' ⟨rfl, hc⟩; have c0 := hc.cell (cell_of_heap (j := 0) hA rfl) id)
  all_goals
    go_ret
    refine ⟨?_, ((Chg.refl No w).alloc _).trans hc⟩
    clear p1
    first | (simp_all; done) | (simp_all <;> (intros; omega))
end Go.Proofs.YtipacbaapkdnaaaGreat
