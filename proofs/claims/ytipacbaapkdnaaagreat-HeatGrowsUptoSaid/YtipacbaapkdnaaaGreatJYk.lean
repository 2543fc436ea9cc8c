/- drayageref07.Used (printed by genyk.py). -/
import Derived.Test.YtipacbaapkdnaaaGreatJYj
set_option linter.unusedSimpArgs false
set_option linter.unusedVariables false
namespace Go.Proofs.YtipacbaapkdnaaaGreat
open Go.RowKit Go.Dk

theorem mayNB_facts {s : SnapD} {l : Lst Int} {x : Int} (h : mayNB s l x = true) : mayB s l = true ∧ 0 ≤ x ∧ x < s.nodes.n := by
  simp only [mayNB, Bool.and_eq_true, decide_eq_true_iff] at h
  exact ⟨h.1.1, h.1.2, h.2⟩
theorem used_qty {s : SnapD} {l : Lst Int} (h : mayB s l = true) (x : Int) (i : Nat) (hi : i < 5) (k : Nat) (hk : k ≤ s.pods.n) : Qty (usedF s l x i k) := by
  obtain ⟨h1, h2, h3, h4, h5⟩ := may_facts h
  exact req_fine h1 h3 x i hi k hk
theorem req_qty {s : SnapD} {l : Lst Int} (h : mayB s l = true) (i : Nat) (hi : i < 5) (k : Nat) (hk : k < s.pods.n) : Qty ((s.pods.el k).req i) := by
  obtain ⟨h1, -⟩ := may_facts h
  exact shaped_reqs h1 i hi k hk
theorem usedV_qty (s : SnapD) (l : Lst Int) (x : Int) (i : Nat) (hi : i < 5) : Qty (usedV s l x i) := by
  unfold usedV
  split
  · rename_i h
    have hm := (mayNB_facts h).1
    exact used_qty hm x i hi _ (by rw [(may_facts hm).2.2.2.1]; exact Nat.le_refl _)
  · exact ⟨Int.le_refl _, by omega⟩

set_option maxRecDepth 100000 in
set_option maxHeartbeats 4000000 in
theorem refUsed_any {w : World} {n p o q : Value} {s : SnapD} {lv tv : Nat → Value} {pv : Nat → PodV} (h : SnapAt w n p o s lv tv pv) {l : Lst Int} (hq : IntsAt w q l) (x : Int) :
    Calls Tryz.prog 36 #[.agg #[n, p, o], q, .int .i64 x] w fun e w' => e = .returned (.agg (cells5 (usedV s l x)).toArray) ∧ Chg No w w' := by
  have hcw := ((Chg.refl No w).alloc (.cells #[n, p, o] 26)).alloc (.cells #[.int .i64 0, .int .i64 0, .int .i64 0, .int .i64 0, .int .i64 0] 46)
  have hA := heap_alloc_old' (heap_alloc_new w (.cells #[n, p, o] 26)) (o' := .cells #[.int .i64 0, .int .i64 0, .int .i64 0, .int .i64 0, .int .i64 0] 46)
  have hR := heap_alloc_new (w.alloc (.cells #[n, p, o] 26)) (.cells #[.int .i64 0, .int .i64 0, .int .i64 0, .int .i64 0, .int .i64 0] 46)
  simp only [World.size_alloc] at hR
  have hS := h.no hcw
  have hQ := hq.no hcw
  have p1 := fun W (hc : Chg No _ W) => refPlaceCheck_any (hS.no hc) (hQ.no hc)
  have p2 := fun W (hc : Chg No _ W) => refUsedOf_any (hS.no hc) (hQ.no hc) x
  obtain ⟨na, nc, pa, pc, oa, oc, rfl, rfl, rfl⟩ := h.args
  obtain ⟨hqn, qa, qc, rfl, -⟩ := hq
  clear h hS hQ
  obtain ⟨f, hf⟩ : ∃ f, f = usedV s l x := ⟨_, rfl⟩
  rw [← hf]
  go_enter Tryz.func36, Tryz.ntmps36
  go_wp2_with fail
  generalize (w.alloc _).alloc _ = W at hcw hA hR p1 p2 ⊢
  generalize hBe : w.heap.size = B at hA hR ⊢
  have HBe := Go.Lib.hid hBe
  clear hBe
  refine (p1 _ (Chg.refl _ _)).mono ?_
  rintro e V ⟨rfl, hc⟩
  have b0 := hc.cell (cell_of_heap (j := 0) hA rfl) id
  have b1 := hc.cell (cell_of_heap (j := 1) hA rfl) id
  have b2 := hc.cell (cell_of_heap (j := 2) hA rfl) id
  have hR2 : FiveIs V (B + 1) (fun _ => 0) := hc.heap hR id
  have p3 := p2 V hc
  clear p1 p2 hA hR
  have hcw := hcw.trans hc
  clear hc
  cases hm : mayNB s l x with
  | true =>
    obtain ⟨m1, m2, m3⟩ := mayNB_facts hm
    have p4 := p3 (may_facts m1).2.2.2.1 (used_qty m1 x) (req_qty m1)
    have he : placeE s l = 0 := by simpa [mayB] using m1
    rw [he]
    have hff : f = fun i => usedF s l x i l.n := by rw [hf]; funext i; unfold usedV; rw [if_pos hm]
    rw [← hff] at p4
    clear hff p3 hm m1 he hf
    have n1 : ¬ x < 0 := by omega
    have n2 : ¬ (s.nodes.n : Int) ≤ x := by omega
    go_wp2_with (go_at_call 59; refine p4.mono ?_; rintro e V2 ⟨rfl, hc2⟩; have hR3 : FiveIs V2 (B + 1) (fun _ => 0) := hc2.heap hR2 id; have u0 : V2.cell? ⟨B + 1, 0, none⟩ = some (.int .i64 0) := FiveIs.cell hR3 0 (by omega); have u1 : V2.cell? ⟨B + 1, 1, none⟩ = some (.int .i64 0) := FiveIs.cell hR3 1 (by omega); have u2 : V2.cell? ⟨B + 1, 2, none⟩ = some (.int .i64 0) := FiveIs.cell hR3 2 (by omega); have u3 : V2.cell? ⟨B + 1, 3, none⟩ = some (.int .i64 0) := FiveIs.cell hR3 3 (by omega); have u4 : V2.cell? ⟨B + 1, 4, none⟩ = some (.int .i64 0) := FiveIs.cell hR3 4 (by omega); have z0 : V2.frozen? ⟨B + 1, 0, none⟩ = false := free_of_heap hR3; have z1 : V2.frozen? ⟨B + 1, 1, none⟩ = false := free_of_heap hR3; have z2 : V2.frozen? ⟨B + 1, 2, none⟩ = false := free_of_heap hR3; have z3 : V2.frozen? ⟨B + 1, 3, none⟩ = false := free_of_heap hR3; have z4 : V2.frozen? ⟨B + 1, 4, none⟩ = false := free_of_heap hR3; unfold cells5)
    have h53 := (FiveIs.set (FiveIs.set (FiveIs.set (FiveIs.set (FiveIs.set hR3 0 (by omega) (f 0)) 1 (by omega) (f 1)) 2 (by omega) (f 2)) 3 (by omega) (f 3)) 4 (by omega) (f 4))
    have hch : Chg (· = B + 1) V2 _ := (((((Chg.refl (· = B + 1) V2).setCell (p := ⟨B + 1, 0, none⟩) (fun _ => rfl) (.int .i64 (f 0))).setCell (p := ⟨B + 1, 1, none⟩) (fun _ => rfl) (.int .i64 (f 1))).setCell (p := ⟨B + 1, 2, none⟩) (fun _ => rfl) (.int .i64 (f 2))).setCell (p := ⟨B + 1, 3, none⟩) (fun _ => rfl) (.int .i64 (f 3))).setCell (p := ⟨B + 1, 4, none⟩) (fun _ => rfl) (.int .i64 (f 4))
    generalize ((((V2.setCell _ _).setCell _ _).setCell _ _).setCell _ _).setCell _ _ = W3 at h53 hch ⊢
    have c0 := h53.cell 0 (by omega)
    have c1 := h53.cell 1 (by omega)
    have c2 := h53.cell 2 (by omega)
    have c3 := h53.cell 3 (by omega)
    have c4 := h53.cell 4 (by omega)
    simp at c0 c1 c2 c3 c4
    (try simp only [Exit.inBlock, Exit.then])
    refine bodyPost_ret (by simp [results, Tryz.results36, go_sem, c0, c1, c2, c3, c4]; try rfl) rfl ?_
    exact ⟨rfl, (hcw.trans hc2).trans' hch (fun i h1 h2 => by have := HBe.out; omega)⟩
  | false =>
    have hf0 : f = fun _ => 0 := by rw [hf]; funext i; unfold usedV; rw [hm]; rfl
    subst hf0
    have hcs : ¬ placeE s l = 0 ∨ (placeE s l = 0 ∧ x < 0) ∨ (placeE s l = 0 ∧ ¬ x < 0 ∧ (s.nodes.n : Int) ≤ x) := by
      simp only [mayNB, mayB, Bool.and_eq_false_imp, Bool.and_eq_true, decide_eq_true_iff, decide_eq_false_iff_not] at hm
      by_cases h1 : placeE s l = 0
      · by_cases h2 : x < 0
        · exact .inr (.inl ⟨h1, h2⟩)
        · exact .inr (.inr ⟨h1, h2, by have := hm ⟨h1, by omega⟩; omega⟩)
      · exact .inl h1
    clear hm hf p3
    have u0 : V.cell? ⟨B + 1, 0, none⟩ = some (.int .i64 0) := FiveIs.cell hR2 0 (by omega)
    have u1 : V.cell? ⟨B + 1, 1, none⟩ = some (.int .i64 0) := FiveIs.cell hR2 1 (by omega)
    have u2 : V.cell? ⟨B + 1, 2, none⟩ = some (.int .i64 0) := FiveIs.cell hR2 2 (by omega)
    have u3 : V.cell? ⟨B + 1, 3, none⟩ = some (.int .i64 0) := FiveIs.cell hR2 3 (by omega)
    have u4 : V.cell? ⟨B + 1, 4, none⟩ = some (.int .i64 0) := FiveIs.cell hR2 4 (by omega)
    have z0 : V.frozen? ⟨B + 1, 0, none⟩ = false := free_of_heap hR2
    have z1 : V.frozen? ⟨B + 1, 1, none⟩ = false := free_of_heap hR2
    have z2 : V.frozen? ⟨B + 1, 2, none⟩ = false := free_of_heap hR2
    have z3 : V.frozen? ⟨B + 1, 3, none⟩ = false := free_of_heap hR2
    have z4 : V.frozen? ⟨B + 1, 4, none⟩ = false := free_of_heap hR2
    generalize placeE s l = e at *
    rcases hcs with h1 | ⟨h1, h2⟩ | ⟨h1, h2, h3⟩
    all_goals
      go_wp2_with fail
      have h53 := (FiveIs.set (FiveIs.set (FiveIs.set (FiveIs.set (FiveIs.set hR2 0 (by omega) 0) 1 (by omega) 0) 2 (by omega) 0) 3 (by omega) 0) 4 (by omega) 0)
      have hch : Chg (· = B + 1) V _ := (((((Chg.refl (· = B + 1) V).setCell (p := ⟨B + 1, 0, none⟩) (fun _ => rfl) (.int .i64 0)).setCell (p := ⟨B + 1, 1, none⟩) (fun _ => rfl) (.int .i64 0)).setCell (p := ⟨B + 1, 2, none⟩) (fun _ => rfl) (.int .i64 0)).setCell (p := ⟨B + 1, 3, none⟩) (fun _ => rfl) (.int .i64 0)).setCell (p := ⟨B + 1, 4, none⟩) (fun _ => rfl) (.int .i64 0)
      generalize ((((V.setCell _ _).setCell _ _).setCell _ _).setCell _ _).setCell _ _ = W3 at h53 hch ⊢
      have c0 := h53.cell 0 (by omega)
      have c1 := h53.cell 1 (by omega)
      have c2 := h53.cell 2 (by omega)
      have c3 := h53.cell 3 (by omega)
      have c4 := h53.cell 4 (by omega)
      simp at c0 c1 c2 c3 c4
      (try simp only [Exit.inBlock, Exit.then])
      refine bodyPost_ret (by simp [results, Tryz.results36, go_sem, c0, c1, c2, c3, c4]; try rfl) rfl ?_
      exact ⟨rfl, hcw.trans' hch (fun i h1 h2 => by have := HBe.out; omega)⟩
end Go.Proofs.YtipacbaapkdnaaaGreat
