/- drayageref05.names. -/
import Derived.Test.YthpmgnbehahkfaaGreatJZl
import Derived.Test.YthpmgnbehahkfaaGreatJQc
set_option linter.unusedSimpArgs false
set_option linter.unusedVariables false
namespace Go.Proofs.YthpmgnbehahkfaaGreat
open Go.RowKit Go.Dk

theorem Tryz.infoStrX : (Tryz.prog.info? 9).map (fun i => (i.zero, i.size, i.bytes)) = some (some (.string ⟨#[]⟩), 1, 16) := by kernel_rfl
def RowS (V : World) (f : Nat → ByteArray) (n : Nat) (v i : Value) (wr : World) : Prop :=
  ∃ k : Nat, i = .int .i64 k ∧ k ≤ n ∧ wr.ownsRow V.heap.size 9 1 v k ((List.range k).flatMap fun k => [.string (f k)]) ∧ Chg No V wr

set_option maxRecDepth 100000 in
set_option maxHeartbeats 2000000 in
theorem refNames_any {w : World} {n p o : Value} {s : SnapD} {lv tv : Nat → Value} {pv : Nat → PodV} (h : SnapAt w n p o s lv tv pv) :
    Calls Tryz.prog 205 #[.agg #[n, p, o]] w fun e w' => ∃ a1 c1 a2 c2 a3 c3, e = .returned (.tuple #[.slice a1 s.nodes.n c1, .slice a2 s.pods.n c2, .slice a3 s.owners.n c3]) ∧ Sl w' a1 s.nodes.n c1 1 (fun k => [.string (s.nodes.el k).name]) ∧ Sl w' a2 s.pods.n c2 1 (fun k => [.string (s.pods.el k).name]) ∧ Sl w' a3 s.owners.n c3 1 (fun k => [.string (s.owners.el k).name]) ∧ Chg No w w' := by
  obtain ⟨i0, hi, hz0, hz1, hz2⟩ := info_parts Tryz.infoStrX
  have hN := h.nodes
  have hP := h.pods
  have hO := h.owners
  have hn1 := hN.1
  have hn2 := hP.1
  have hn3 := hO.1
  obtain ⟨na, nc, pa, pc, oa, oc, rfl, rfl, rfl⟩ := h.args
  clear h
  obtain ⟨-, hx1⟩ := hN.sl
  obtain ⟨-, hx2⟩ := hP.sl
  obtain ⟨-, hx3⟩ := hO.sl
  clear hN hP hO
  have hA := heap_alloc_new w (.cells #[.slice na s.nodes.n nc, .slice pa s.pods.n pc, .slice oa s.owners.n oc] 26)
  have hcw := (Chg.refl No w).alloc (.cells #[.slice na s.nodes.n nc, .slice pa s.pods.n pc, .slice oa s.owners.n oc] 26)
  go_enter Tryz.func205, Tryz.ntmps205
  go_wp2_with fail
  generalize w.alloc _ = V at hA hcw ⊢
  have hx1 := hx1.no hcw
  have hx2 := hx2.no hcw
  have hx3 := hx3.no hcw
  generalize w.heap.size = B at hA ⊢
  have b0 := cell_of_heap (j := 0) hA rfl
  have b1 := cell_of_heap (j := 1) hA rfl
  have b2 := cell_of_heap (j := 2) hA rfl
  clear hA
  go_loopw [5, 8] (fun v i wr => RowS V (fun k => (s.nodes.el k).name) s.nodes.n v i wr) (fun _ i _ => s.nodes.n - (intOf i).toNat)
  case atStart => exact ⟨0, rfl, by omega, World.ownsRow_nil _ _ _ _, Chg.refl _ _⟩
  case round =>
    obtain ⟨k, rfl, hk, hown, hc⟩ := hrel
    have hsz := hc.size
    have s0 := hc.cell b0 id
    by_cases hlt : k < s.nodes.n
    · obtain ⟨hl, b, o, rfl, hcell⟩ := (hx1.no hc).2.2.2 k hlt
      have q0 := hcell 0 (.string (s.nodes.el k).name) rfl
      rw [Nat.add_zero] at q0
      clear hcell hl hx1 hx2 hx3
      have hlt' : (k : Int) < (s.nodes.n : Int) := by omega
      obtain ⟨va, vc, rfl, -⟩ := Rd.of_own hown
      go_wp2_with (at_builtin; refine wpList_append_rd _ rfl _ _ _ rfl V.heap.size 9 i0 _ 1 16 Tryz.underlying29 hi hz0 hz1 hz2 rfl (by decide) (.slice va k vc) _ _ rfl (hown.alloc _) _ 1 [.string (s.nodes.el k).name] rfl (rd_new _ _ _ _ 1 1 rfl (by simp)) (by simp [Value.oneCell']) (by unfold maxLen; omega) (by omega) (by simp; omega) ?_; intro v1 w3 ho1 hg1 hi1 hfr1)
      go_roundw
      case rel => exact ⟨k + 1, by go_num, by omega, (by rw [List.range_succ, List.flatMap_append]; simpa using ho1), Chg.grown' (hc.alloc _) hown hg1⟩
      case measure => simp [intOf]; omega
    · obtain rfl : k = s.nodes.n := by omega
      obtain ⟨a1, c1, rfl, hs1, -⟩ := own_sl hown (fun _ _ => rfl)
      clear hown hlt hk hsz
      go_wp2_with fail
      generalize wr = V1 at hc hs1 ⊢
      have b1 := hc.cell b1 id
      have b2 := hc.cell b2 id
      have hx2 := hx2.no hc
      have hx3 := hx3.no hc
      have hcw := hcw.trans hc
      go_loopw [6, 9] (fun v i wr => RowS V1 (fun k => (s.pods.el k).name) s.pods.n v i wr) (fun _ i _ => s.pods.n - (intOf i).toNat)
      case atStart => exact ⟨0, rfl, by omega, World.ownsRow_nil _ _ _ _, Chg.refl _ _⟩
      case round =>
        obtain ⟨k, rfl, hk, hown, hc1⟩ := hrel
        have hsz := hc1.size
        have s1 := hc1.cell b1 id
        by_cases hlt : k < s.pods.n
        · obtain ⟨hl, b, o, rfl, hcell⟩ := (hx2.no hc1).2.2.2 k hlt
          have q0 := hcell 0 (.string (s.pods.el k).name) rfl
          rw [Nat.add_zero] at q0
          clear hcell hl hx1 hx2 hx3
          have hlt' : (k : Int) < (s.pods.n : Int) := by omega
          obtain ⟨va, vc, rfl, -⟩ := Rd.of_own hown
          go_wp2_with (at_builtin; refine wpList_append_rd _ rfl _ _ _ rfl V1.heap.size 9 i0 _ 1 16 Tryz.underlying29 hi hz0 hz1 hz2 rfl (by decide) (.slice va k vc) _ _ rfl (hown.alloc _) _ 1 [.string (s.pods.el k).name] rfl (rd_new _ _ _ _ 1 1 rfl (by simp)) (by simp [Value.oneCell']) (by unfold maxLen; omega) (by omega) (by simp; omega) ?_; intro v1 w3 ho1 hg1 hi1 hfr1)
          go_roundw
          case rel => exact ⟨k + 1, by go_num, by omega, (by rw [List.range_succ, List.flatMap_append]; simpa using ho1), Chg.grown' (hc1.alloc _) hown hg1⟩
          case measure => simp [intOf]; omega
        · obtain rfl : k = s.pods.n := by omega
          obtain ⟨a2, c2, rfl, hs2, -⟩ := own_sl hown (fun _ _ => rfl)
          clear hown hlt hk hsz
          go_wp2_with fail
          generalize wr = V2 at hc1 hs2 ⊢
          have hs1 := hs1.no hc1
          have b2 := hc1.cell b2 id
          have hx3 := hx3.no hc1
          have hcw := hcw.trans hc1
          go_loopw [7, 10] (fun v i wr => RowS V2 (fun k => (s.owners.el k).name) s.owners.n v i wr) (fun _ i _ => s.owners.n - (intOf i).toNat)
          case atStart => exact ⟨0, rfl, by omega, World.ownsRow_nil _ _ _ _, Chg.refl _ _⟩
          case round =>
            obtain ⟨k, rfl, hk, hown, hc2⟩ := hrel
            have hsz := hc2.size
            have s2 := hc2.cell b2 id
            by_cases hlt : k < s.owners.n
            · obtain ⟨hl, b, o, rfl, hcell⟩ := (hx3.no hc2).2.2.2 k hlt
              have q0 := hcell 0 (.string (s.owners.el k).name) rfl
              rw [Nat.add_zero] at q0
              clear hcell hl hx1 hx2 hx3
              have hlt' : (k : Int) < (s.owners.n : Int) := by omega
              obtain ⟨va, vc, rfl, -⟩ := Rd.of_own hown
              go_wp2_with (at_builtin; refine wpList_append_rd _ rfl _ _ _ rfl V2.heap.size 9 i0 _ 1 16 Tryz.underlying29 hi hz0 hz1 hz2 rfl (by decide) (.slice va k vc) _ _ rfl (hown.alloc _) _ 1 [.string (s.owners.el k).name] rfl (rd_new _ _ _ _ 1 1 rfl (by simp)) (by simp [Value.oneCell']) (by unfold maxLen; omega) (by omega) (by simp; omega) ?_; intro v1 w3 ho1 hg1 hi1 hfr1)
              go_roundw
              case rel => exact ⟨k + 1, by go_num, by omega, (by rw [List.range_succ, List.flatMap_append]; simpa using ho1), Chg.grown' (hc2.alloc _) hown hg1⟩
              case measure => simp [intOf]; omega
            · obtain rfl : k = s.owners.n := by omega
              obtain ⟨a3, c3, rfl, hs3, -⟩ := own_sl hown (fun _ _ => rfl)
              clear hown hlt hk hsz
              go_wp2_with fail
              go_returns
              exact ⟨a1, c1, a2, c2, a3, c3, rfl, hs1.no hc2, hs2.no hc2, hs3, hcw.trans hc2⟩
end Go.Proofs.YthpmgnbehahkfaaGreat
