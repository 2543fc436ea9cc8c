/- drayageref05.Check. -/
import Derived.Test.YthpmgnbehahkfaaGreatJYb
set_option linter.unusedSimpArgs false
set_option linter.unusedVariables false
namespace Go.Proofs.YthpmgnbehahkfaaGreat
open Go.RowKit Go.Dk

theorem Tryz.infoVecY : (Tryz.prog.info? 58).map (fun i => (i.zero, i.size, i.bytes)) = some (some (.agg #[.int .i64 0, .int .i64 0, .int .i64 0, .int .i64 0, .int .i64 0]), 5, 40) := by kernel_rfl
def RowV (V : World) (f : Nat → Nat → Int) (n : Nat) (v i : Value) (wr : World) : Prop :=
  ∃ k : Nat, i = .int .i64 k ∧ k ≤ n ∧ wr.ownsRow V.heap.size 58 5 v k ((List.range k).flatMap fun k => cells5 (f k)) ∧ Chg No V wr

set_option maxRecDepth 100000 in
set_option maxHeartbeats 4000000 in
theorem refCheckS_any {w : World} {n p o : Value} {s : SnapD} {lv tv : Nat → Value} {pv : Nat → PodV} (h : SnapAt w n p o s lv tv pv) :
    Gives 100 #[.agg #[n, p, o]] w (.int .i64 (checkE s)) := by
  obtain ⟨i0, hi, hz0, hz1, hz2⟩ := info_parts Tryz.infoVecY
  have hcw := (Chg.refl No w).alloc (.cells #[n, p, o] 26)
  have hA := heap_alloc_new w (.cells #[n, p, o] 26)
  have hS := h.no hcw
  have hn1 := hS.nodes.1
  have hn2 := hS.pods.1
  obtain ⟨na, nc, pa, pc, oa, oc, rfl, rfl, rfl⟩ := h.args
  obtain ⟨-, hx1⟩ := hS.nodes.sl
  obtain ⟨-, hx2⟩ := hS.pods.sl
  clear h
  unfold Gives
  obtain ⟨sh, hsh⟩ : ∃ b, shapedB s = b := ⟨_, rfl⟩
  obtain ⟨r, hr⟩ : ∃ r, r = checkE s := ⟨_, rfl⟩
  rw [← hr]
  unfold checkE at hr
  rw [hsh] at hr
  have hfn := fun (e : sh = true) => shaped_caps (s := s) (hsh.trans e)
  have hfp := fun (e : sh = true) => shaped_reqs (s := s) (hsh.trans e)
  go_enter Tryz.func100, Tryz.ntmps100
  go_wp2_with fail
  generalize w.alloc _ = W at hcw hA hS hx1 hx2 ⊢
  generalize w.heap.size = B at hA ⊢
  have p1 := refShaped_any hS
  rw [hsh] at p1
  have b0 := cell_of_heap (j := 0) hA rfl
  have b1 := cell_of_heap (j := 1) hA rfl
  clear hA hS hsh
  refine p1.mono ?_
  rintro e V ⟨rfl, hc⟩
  have b0 := hc.cell b0 id
  have b1 := hc.cell b1 id
  have hx1 := hx1.no hc
  have hx2 := hx2.no hc
  have hcw := hcw.trans hc
  clear hc p1
  cases sh with
  | false =>
    have hr' : r = 50 := by simpa using hr
    subst hr'
    clear hr hfn hfp hx1 hx2
    go_wp2_with fail
    go_ret
    exact ⟨rfl, hcw⟩
  | true =>
    have gfn := hfn rfl
    have gfp := hfp rfl
    clear hfn hfp
    have HR := Go.Lib.hid hr
    clear hr
    go_wp2_with fail
    go_loopw [3, 5] (fun v i wr => RowV V (fun k => (s.nodes.el k).cap) s.nodes.n v i wr) (fun _ i _ => s.nodes.n - (intOf i).toNat)
    case atStart => exact ⟨0, rfl, by omega, World.ownsRow_nil _ _ _ _, Chg.refl _ _⟩
    case round =>
      obtain ⟨k, rfl, hk, hown, hc⟩ := hrel
      have hsz := hc.size
      have s0 := hc.cell b0 id
      by_cases hlt : k < s.nodes.n
      · obtain ⟨hl, b, o, rfl, hcell⟩ := (hx1.no hc).2.2.2 k hlt
        have q1 := hcell 1 _ rfl
        have q2 := hcell 2 _ rfl
        have q3 := hcell 3 _ rfl
        have q4 := hcell 4 _ rfl
        have q5 := hcell 5 _ rfl
        clear hcell hl hx1 hx2 gfn gfp
        have hlt' : (k : Int) < (s.nodes.n : Int) := by omega
        obtain ⟨va, vc, rfl, -⟩ := Rd.of_own hown
        go_wp2_with (at_builtin; refine wpList_append_rd _ rfl _ _ _ rfl V.heap.size 58 i0 _ 5 40 Tryz.underlying169 hi hz0 hz1 hz2 rfl (by decide) (.slice va k vc) _ _ rfl (hown.alloc _) _ 1 (cells5 (s.nodes.el k).cap) rfl (rd_new _ _ _ _ 5 1 rfl (by simp)) (by simp [cells5, Value.oneCell']) (by unfold maxLen; omega) (by omega) (by simp; omega) ?_; intro v1 w3 ho1 hg1 hi1 hfr1)
        go_roundw
        case rel => exact ⟨k + 1, by go_num, by omega, (by rw [List.range_succ, List.flatMap_append]; simpa using ho1), Chg.grown' (hc.alloc _) hown hg1⟩
        case measure => simp [intOf]; omega
      · obtain rfl : k = s.nodes.n := by omega
        obtain ⟨a1, c1, rfl, hs1, -⟩ := own_sl hown (fun _ _ => rfl)
        clear hown hlt hk hsz
        go_wp2_with fail
        generalize wr = V1 at hc hs1 ⊢
        have b1 := hc.cell b1 id
        have hx2 := hx2.no hc
        have hcw := hcw.trans hc
        go_loopw [4, 6] (fun v i wr => RowV V1 (fun k => (s.pods.el k).req) s.pods.n v i wr) (fun _ i _ => s.pods.n - (intOf i).toNat)
        case atStart => exact ⟨0, rfl, by omega, World.ownsRow_nil _ _ _ _, Chg.refl _ _⟩
        case round =>
          obtain ⟨k, rfl, hk, hown, hc1⟩ := hrel
          have hsz := hc1.size
          have s1 := hc1.cell b1 id
          by_cases hlt : k < s.pods.n
          · obtain ⟨hl, b, o, rfl, hcell⟩ := (hx2.no hc1).2.2.2 k hlt
            have q1 := hcell 2 _ rfl
            have q2 := hcell 3 _ rfl
            have q3 := hcell 4 _ rfl
            have q4 := hcell 5 _ rfl
            have q5 := hcell 6 _ rfl
            clear hcell hl hx1 hx2 gfn gfp
            have hlt' : (k : Int) < (s.pods.n : Int) := by omega
            obtain ⟨va, vc, rfl, -⟩ := Rd.of_own hown
            go_wp2_with (at_builtin; refine wpList_append_rd _ rfl _ _ _ rfl V1.heap.size 58 i0 _ 5 40 Tryz.underlying169 hi hz0 hz1 hz2 rfl (by decide) (.slice va k vc) _ _ rfl (hown.alloc _) _ 1 (cells5 (s.pods.el k).req) rfl (rd_new _ _ _ _ 5 1 rfl (by simp)) (by simp [cells5, Value.oneCell']) (by unfold maxLen; omega) (by omega) (by simp; omega) ?_; intro v1 w3 ho1 hg1 hi1 hfr1)
            go_roundw
            case rel => exact ⟨k + 1, by go_num, by omega, (by rw [List.range_succ, List.flatMap_append]; simpa using ho1), Chg.grown' (hc1.alloc _) hown hg1⟩
            case measure => simp [intOf]; omega
          · obtain rfl : k = s.pods.n := by omega
            obtain ⟨a2, c2, rfl, hs2, -⟩ := own_sl hown (fun _ _ => rfl)
            have hs1 := hs1.no hc1
            have pn := fun W (hc : Chg No wr W) => refPlus_any (fun k => (s.nodes.el k).cap) a1 s.nodes.n c1 W (hs1.no hc) hn1 gfn
            have pp := fun W (hc : Chg No wr W) => refPlus_any (fun k => (s.pods.el k).req) a2 s.pods.n c2 W (hs2.no hc) hn2 gfp
            rw [show plusE (fun k => (s.nodes.el k).cap) s.nodes.n = capsE s from rfl] at pn
            rw [show plusE (fun k => (s.pods.el k).req) s.pods.n = reqsE s from rfl] at pp
            generalize capsE s = e1 at *
            generalize reqsE s = e2 at *
            clear hown hlt hk hsz hs1 hs2 hx1 hx2 gfn gfp
            go_wp2_with (first
              | (go_at_call 163; have m2 := m1; refine (pp _ (m1.alloc _)).mono ?_; rintro e w' ⟨x2, rfl, hc5⟩; unfold cells5)
              | (go_at_call 163; refine (pn _ (Chg.refl _ _)).mono ?_; rintro e w' ⟨x1, rfl, hc4⟩; have m1 := hc4; unfold cells5))
            all_goals
              go_ret
              refine ⟨?_, ((hcw.trans hc1).trans ((m1.alloc _).trans hc5)).alloc _⟩
              rw [HR.out]
              first | (simp_all; done) | fail
end Go.Proofs.YthpmgnbehahkfaaGreat
