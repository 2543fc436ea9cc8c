/- snap.pod (printed by genpod.py). -/
import Derived.Test.YthpmgnbehahkfaaGreatJZu
import Derived.Test.YthpmgnbehahkfaaGreatJQc
set_option linter.unusedSimpArgs false
set_option linter.unusedVariables false
namespace Go.Proofs.YthpmgnbehahkfaaGreat
open Go.RowKit Go.Dk

theorem any4 (e0 e1 e2 e3 : Int) (f : Nat → Int) (h0 : f 0 = e0) (h1 : f 1 = e1) (h2 : f 2 = e2) (h3 : f 3 = e3) : (!anyB (fun k => decide (f k ≠ 0)) 4) = (decide (e0 = 0) && decide (e1 = 0) && decide (e2 = 0) && decide (e3 = 0)) := by
  subst h0 h1 h2 h3
  rw [Bool.eq_iff_iff]
  unfold anyB
  simp only [Bool.not_eq_true', decide_eq_false_iff_not, Bool.and_eq_true, decide_eq_true_iff]
  constructor
  · intro h
    refine ⟨⟨⟨?_, ?_⟩, ?_⟩, ?_⟩
    all_goals (refine Classical.byContradiction fun hh => h ⟨_, ?_, hh⟩; omega)
  · rintro ⟨⟨⟨a, b⟩, c⟩, d⟩ ⟨k, hk, h⟩
    match k, hk with
    | 0, _ => exact h a
    | 1, _ => exact h b
    | 2, _ => exact h c
    | 3, _ => exact h d
theorem fine4_any (e0 e1 e2 e3 : Int) (W : World) : Gives 141 #[.slice (some ⟨W.heap.size, 0, none⟩) 4 4] (W.alloc (.cells #[.int .i64 e0, .int .i64 e1, .int .i64 e2, .int .i64 e3] 54)) (.bool (decide (e0 = 0) && decide (e1 = 0) && decide (e2 = 0) && decide (e3 = 0))) := by
  rw [← any4 e0 e1 e2 e3 (fun k => match k with | 0 => e0 | 1 => e1 | 2 => e2 | _ => e3) rfl rfl rfl rfl]
  refine fine_any _ _ 4 4 [.int .i64 e0, .int .i64 e1, .int .i64 e2, .int .i64 e3] _ (rd_new W W.heap.size _ _ 1 4 rfl rfl) (by omega) (fun k x hk => ?_)
  match k, (List.getElem?_eq_some_iff.1 hk).1 with
  | 0, _ => simpa using hk.symm
  | 1, _ => simpa using hk.symm
  | 2, _ => simpa using hk.symm
  | 3, _ => simpa using hk.symm

set_option maxRecDepth 100000 in
set_option maxHeartbeats 8000000 in
theorem pod_any {w : World} {n p o : Value} {s : SnapD} {lv tv : Nat → Value} {pv : Nat → PodV} (h : SnapAt w n p o s lv tv pv) {x : PodD} {v : PodV} (hp : PodAt w x v) :
    Gives 136 #[.agg #[n, p, o], .agg (x.cells v).toArray] w (.bool (podB s x)) := by
  have hcw := ((Chg.refl No w).alloc (.cells #[n, p, o] 26)).alloc (.cells (x.cells v).toArray 81)
  have hA := heap_alloc_old' (heap_alloc_new w (.cells #[n, p, o] 26)) (o' := .cells (x.cells v).toArray 81)
  have hR := heap_alloc_new (w.alloc (.cells #[n, p, o] 26)) (.cells (x.cells v).toArray 81)
  simp only [World.size_alloc] at hR
  obtain ⟨na, nc, pa, pc, oa, oc, rfl, rfl, rfl⟩ := h.args
  obtain ⟨v1, v2, v3, v4, v5⟩ := v
  have hp' := hp
  obtain ⟨-, ⟨_, _, h1, -⟩, ⟨_, _, h2, -⟩, ⟨_, _, h3, -⟩, ⟨_, _, h4, -⟩, ⟨_, _, h5, -⟩⟩ := hp'
  dsimp only at h1 h2 h3 h4 h5
  subst h1 h2 h3 h4 h5
  have hN := (h.no hcw).nodes
  obtain ⟨-, hxn⟩ := hN.sl
  unfold Gives PodD.cells at *
  obtain ⟨r, hr⟩ : ∃ r, r = podB s x := ⟨_, rfl⟩
  rw [← hr]
  cases heo : x.owner.toList.isEmpty with
  | true =>
    rcases onWay s x with ⟨he, hb⟩ | ⟨he, hi, hb⟩ | ⟨he, k, hk, hi, l, hl, hb⟩
    · skip
      unfold podB ownOk restB at hr
      rw [hb, heo] at hr
      have heo' := toList_of heo
      have he' := toList_of he
      clear hb
      go_enter Tryz.func136, Tryz.ntmps136
      go_wp2_with fail
      generalize (w.alloc _).alloc _ = W at hcw hA hR hxn hN ⊢
      generalize w.heap.size = B at hA hR ⊢
      have q1 : ∀ y : Wd No W, Gives 94 _ y.w (.int .i64 (ownerIdx s x.owner)) := fun y => snapOwner_any ((h.no hcw).no y.chg) x.owner
      have q2 : ∀ y : Wd No W, Gives 149 _ y.w (.int .i64 (nodeIdx s x.on)) := fun y => snapNode_any ((h.no hcw).no y.chg) x.on
      have q3 := fun y : Wd No W => vecCheck_any (x.req 0) (x.req 1) (x.req 2) (x.req 3) (x.req 4) y.w
      have q4 := fun y : Wd No W => labCheck_any ((hp.2.1.no hcw).no y.chg)
      have q5 := fun y : Wd No W => terms_any ((hp.2.2.1.no hcw).no y.chg)
      have q6 := fun y : Wd No W => labCheckBears_any ((hp.2.2.2.1.no hcw).no y.chg)
      have q7 := fun y : Wd No W => near_any hp.1.2.2.2.1 ((hp.2.2.2.2.1.no hcw).no y.chg)
      have q8 := fun y : Wd No W => near_any hp.1.2.2.2.2 ((hp.2.2.2.2.2.no hcw).no y.chg)
      unfold Gives at q1 q2 q3 q4 q5 q6 q7 q8
      unfold vecV at q3
      dsimp only at q4 q5 q6 q7 q8
      generalize nodeIdx s x.on = ix at *
      generalize ownerIdx s x.owner = io at *
      generalize vecE (x.req 0) (x.req 1) (x.req 2) (x.req 3) (x.req 4) = e0 at *
      generalize labsE false x.labels = e1 at *
      generalize termsE x.where_ = e2 at *
      generalize labsE true x.bears = e3 at *
      generalize nearB x.wTopo x.wTerms = n1 at *
      generalize nearB x.aTopo x.aTerms = n2 at *
      have HR := Go.Lib.hid hr
      clear hr
      have sa0 := fun y : Wd No W => y.chg.cell (cell_of_heap (j := 0) hA rfl) id
      have sa1 := fun y : Wd No W => y.chg.cell (cell_of_heap (j := 1) hA rfl) id
      have sa2 := fun y : Wd No W => y.chg.cell (cell_of_heap (j := 2) hA rfl) id
      have r1 := fun y : Wd No W => y.chg.cell (cell_of_heap (j := 1) hR rfl) id
      have r2 := fun y : Wd No W => y.chg.cell (cell_of_heap (j := 2) hR rfl) id
      have r3 := fun y : Wd No W => y.chg.cell (cell_of_heap (j := 3) hR rfl) id
      have r4 := fun y : Wd No W => y.chg.cell (cell_of_heap (j := 4) hR rfl) id
      have r5 := fun y : Wd No W => y.chg.cell (cell_of_heap (j := 5) hR rfl) id
      have r6 := fun y : Wd No W => y.chg.cell (cell_of_heap (j := 6) hR rfl) id
      have r7 := fun y : Wd No W => y.chg.cell (cell_of_heap (j := 7) hR rfl) id
      have r8 := fun y : Wd No W => y.chg.cell (cell_of_heap (j := 8) hR rfl) id
      have r9 := fun y : Wd No W => y.chg.cell (cell_of_heap (j := 9) hR rfl) id
      have r10 := fun y : Wd No W => y.chg.cell (cell_of_heap (j := 10) hR rfl) id
      have r11 := fun y : Wd No W => y.chg.cell (cell_of_heap (j := 11) hR rfl) id
      have r12 := fun y : Wd No W => y.chg.cell (cell_of_heap (j := 12) hR rfl) id
      have r13 := fun y : Wd No W => y.chg.cell (cell_of_heap (j := 13) hR rfl) id
      have r14 := fun y : Wd No W => y.chg.cell (cell_of_heap (j := 14) hR rfl) id
      clear hA hR hxn hN h hp
      obtain ⟨x0, hx0⟩ := Wd.start No W
      rw [← hx0]
      clear hx0
      refine (q2 _).mono ?_
      rintro e w' ⟨rfl, hc'⟩
      obtain ⟨y, rfl⟩ := Wd.next hc'
      clear hc' x0
      go_wp2_with fail
      have p9 := fun y : Wd No W => fine4_any e0 e1 e2 e3 y.w
      unfold Gives at p9
      generalize hb4 : (decide (e0 = 0) && decide (e1 = 0) && decide (e2 = 0) && decide (e3 = 0)) = b4 at p9
      have HB4 := Go.Lib.hid hb4
      clear hb4
      refine wp_region_held_drew (S := InWd No W) (by kernel_rfl) (InWd.drew' y) (fun hS => ?_)
      obtain ⟨y', hy⟩ := hS
      rw [← hy]
      have hS := InWd.start y'
      clear hy y
      refine wpAnyH_take (i := 0) (v := ?_) (held_at rfl) (by kernel_rfl) (by kernel_rfl) (by kernel_rfl) (fun _ _ _ h => h) (Or.inl ⟨by rfl, ?_⟩) (by assumption) ?_
      rotate_left
      · (intro w1 hSw; obtain ⟨x1, rfl⟩ := hSw; go_simp; (try with_reducible rfl))
      (try simp only [Act.put, List.setIfInBounds_toArray, List.set_cons_zero, List.set_cons_succ])
      refine wpAnyH_take (i := 1) (v := ?_) (held_at rfl) (by kernel_rfl) (by kernel_rfl) (by kernel_rfl) (fun _ _ _ h => h) (Or.inl ⟨by rfl, ?_⟩) (by assumption) ?_
      rotate_left
      · (intro w1 hSw; obtain ⟨x1, rfl⟩ := hSw; go_simp; (try with_reducible rfl))
      (try simp only [Act.put, List.setIfInBounds_toArray, List.set_cons_zero, List.set_cons_succ])
      refine wpAnyH_take (i := 2) (v := ?_) (held_at rfl) (by kernel_rfl) (by kernel_rfl) (by kernel_rfl) (fun _ _ _ h => h) (Or.inl ⟨by rfl, ?_⟩) (by assumption) ?_
      rotate_left
      · (intro w1 hSw; obtain ⟨x1, rfl⟩ := hSw; go_simp; (try with_reducible rfl))
      (try simp only [Act.put, List.setIfInBounds_toArray, List.set_cons_zero, List.set_cons_succ])
      refine wpAnyH_take (i := 3) (v := ?_) (held_at rfl) (by kernel_rfl) (by kernel_rfl) (by kernel_rfl) (fun _ _ _ h => h) (Or.inl ⟨by rfl, ?_⟩) (by assumption) ?_
      rotate_left
      · (intro w1 hSw; obtain ⟨x1, rfl⟩ := hSw; go_simp; (try with_reducible rfl))
      (try simp only [Act.put, List.setIfInBounds_toArray, List.set_cons_zero, List.set_cons_succ])
      refine wpAnyH_take (i := 4) (v := undef) (held_at rfl) (by kernel_rfl) (by kernel_rfl) (by kernel_rfl) (fun _ _ _ h => h) (Or.inr ⟨by rfl, rfl⟩) (by assumption) ?_
      (try simp only [Act.put, List.setIfInBounds_toArray, List.set_cons_zero, List.set_cons_succ])
      refine wpAnyH_take (i := 5) (v := undef) (held_at rfl) (by kernel_rfl) (by kernel_rfl) (by kernel_rfl) (fun _ _ _ h => h) (Or.inr ⟨by rfl, rfl⟩) (by assumption) ?_
      (try simp only [Act.put, List.setIfInBounds_toArray, List.set_cons_zero, List.set_cons_succ])
      refine wpAnyH_take (i := 6) (v := undef) (held_at rfl) (by kernel_rfl) (by kernel_rfl) (by kernel_rfl) (fun _ _ _ h => h) (Or.inr ⟨by rfl, rfl⟩) (by assumption) ?_
      (try simp only [Act.put, List.setIfInBounds_toArray, List.set_cons_zero, List.set_cons_succ])
      refine wpAnyH_take (i := 7) (v := undef) (held_at rfl) (by kernel_rfl) (by kernel_rfl) (by kernel_rfl) (fun _ _ _ h => h) (Or.inr ⟨by rfl, rfl⟩) (by assumption) ?_
      (try simp only [Act.put, List.setIfInBounds_toArray, List.set_cons_zero, List.set_cons_succ])
      refine wpAnyH_take (i := 8) (v := undef) (held_at rfl) (by kernel_rfl) (by kernel_rfl) (by kernel_rfl) (fun _ _ _ h => h) (Or.inr ⟨by rfl, rfl⟩) (by assumption) ?_
      (try simp only [Act.put, List.setIfInBounds_toArray, List.set_cons_zero, List.set_cons_succ])
      refine wpAnyH_take (i := 9) (v := ?_) (held_at rfl) (by kernel_rfl) (by kernel_rfl) (by kernel_rfl) (fun _ _ _ h => h) (Or.inl ⟨by rfl, ?_⟩) (by assumption) ?_
      rotate_left
      · (intro w1 hSw; obtain ⟨x1, rfl⟩ := hSw; go_simp; (try with_reducible rfl))
      (try simp only [Act.put, List.setIfInBounds_toArray, List.set_cons_zero, List.set_cons_succ])
      refine wpAnyH_take (i := 10) (v := ?_) (held_at rfl) (by kernel_rfl) (by kernel_rfl) (by kernel_rfl) (fun _ _ _ h => h) (Or.inl ⟨by rfl, ?_⟩) (by assumption) ?_
      rotate_left
      · (intro w1 hSw; obtain ⟨x1, rfl⟩ := hSw; go_simp; (try with_reducible rfl))
      (try simp only [Act.put, List.setIfInBounds_toArray, List.set_cons_zero, List.set_cons_succ])
      refine wpAnyH_take (i := 11) (v := ?_) (held_at rfl) (by kernel_rfl) (by kernel_rfl) (by kernel_rfl) (fun _ _ _ h => h) (Or.inl ⟨by rfl, ?_⟩) (by assumption) ?_
      rotate_left
      · (intro w1 hSw; obtain ⟨x1, rfl⟩ := hSw; go_simp; (try with_reducible rfl))
      (try simp only [Act.put, List.setIfInBounds_toArray, List.set_cons_zero, List.set_cons_succ])
      refine wpAnyH_take (i := 12) (v := ?_) (held_at rfl) (by kernel_rfl) (by kernel_rfl) (by kernel_rfl) (fun _ _ _ h => h) (Or.inl ⟨by rfl, ?_⟩) (by assumption) ?_
      rotate_left
      · (intro w1 hSw; obtain ⟨x1, rfl⟩ := hSw; go_simp; (try with_reducible rfl))
      (try simp only [Act.put, List.setIfInBounds_toArray, List.set_cons_zero, List.set_cons_succ])
      refine wpAnyH_take (i := 13) (v := ?_) (held_at rfl) (by kernel_rfl) (by kernel_rfl) (by kernel_rfl) (fun _ _ _ h => h) (Or.inl ⟨by rfl, ?_⟩) (by assumption) ?_
      rotate_left
      · (intro w1 hSw; obtain ⟨x1, rfl⟩ := hSw; go_simp; (try with_reducible rfl))
      (try simp only [Act.put, List.setIfInBounds_toArray, List.set_cons_zero, List.set_cons_succ])
      refine wpAnyH_take (i := 14) (v := ?_) (held_at rfl) (by kernel_rfl) (by kernel_rfl) (by kernel_rfl) (fun _ _ _ h => h) (Or.inl ⟨by rfl, ?_⟩) (by assumption) ?_
      rotate_left
      · (intro w1 hSw; obtain ⟨x1, rfl⟩ := hSw; go_simp; (try with_reducible rfl))
      (try simp only [Act.put, List.setIfInBounds_toArray, List.set_cons_zero, List.set_cons_succ])
      refine wpAnyH_take (i := 15) (v := undef) (held_at rfl) (by kernel_rfl) (by kernel_rfl) (by kernel_rfl) (fun _ _ _ h => h) (Or.inr ⟨by rfl, rfl⟩) (by assumption) ?_
      (try simp only [Act.put, List.setIfInBounds_toArray, List.set_cons_zero, List.set_cons_succ])
      refine wpAnyH_take (i := 16) (v := undef) (held_at rfl) (by kernel_rfl) (by kernel_rfl) (by kernel_rfl) (fun _ _ _ h => h) (Or.inr ⟨by rfl, rfl⟩) (by assumption) ?_
      (try simp only [Act.put, List.setIfInBounds_toArray, List.set_cons_zero, List.set_cons_succ])
      refine wpAnyH_take (i := 17) (v := undef) (held_at rfl) (by kernel_rfl) (by kernel_rfl) (by kernel_rfl) (fun _ _ _ h => h) (Or.inr ⟨by rfl, rfl⟩) (by assumption) ?_
      (try simp only [Act.put, List.setIfInBounds_toArray, List.set_cons_zero, List.set_cons_succ])
      refine wpAnyH_take (i := 18) (v := undef) (held_at rfl) (by kernel_rfl) (by kernel_rfl) (by kernel_rfl) (fun _ _ _ h => h) (Or.inr ⟨by rfl, rfl⟩) (by assumption) ?_
      (try simp only [Act.put, List.setIfInBounds_toArray, List.set_cons_zero, List.set_cons_succ])
      refine wpAnyH_take (i := 19) (v := undef) (held_at rfl) (by kernel_rfl) (by kernel_rfl) (by kernel_rfl) (fun _ _ _ h => h) (Or.inr ⟨by rfl, rfl⟩) (by assumption) ?_
      (try simp only [Act.put, List.setIfInBounds_toArray, List.set_cons_zero, List.set_cons_succ])
      refine wpAnyH_take (i := 20) (v := undef) (held_at rfl) (by kernel_rfl) (by kernel_rfl) (by kernel_rfl) (fun _ _ _ h => h) (Or.inr ⟨by rfl, rfl⟩) (by assumption) ?_
      (try simp only [Act.put, List.setIfInBounds_toArray, List.set_cons_zero, List.set_cons_succ])
      refine wpAnyH_take (i := 21) (v := undef) (held_at rfl) (by kernel_rfl) (by kernel_rfl) (by kernel_rfl) (fun _ _ _ h => h) (Or.inr ⟨by rfl, rfl⟩) (by assumption) ?_
      (try simp only [Act.put, List.setIfInBounds_toArray, List.set_cons_zero, List.set_cons_succ])
      refine wpAnyH_take (i := 22) (v := undef) (held_at rfl) (by kernel_rfl) (by kernel_rfl) (by kernel_rfl) (fun _ _ _ h => h) (Or.inr ⟨by rfl, rfl⟩) (by assumption) ?_
      (try simp only [Act.put, List.setIfInBounds_toArray, List.set_cons_zero, List.set_cons_succ])
      refine wpAnyH_take (i := 23) (v := undef) (held_at rfl) (by kernel_rfl) (by kernel_rfl) (by kernel_rfl) (fun _ _ _ h => h) (Or.inr ⟨by rfl, rfl⟩) (by assumption) ?_
      (try simp only [Act.put, List.setIfInBounds_toArray, List.set_cons_zero, List.set_cons_succ])
      refine wpAnyH_take (i := 24) (v := undef) (held_at rfl) (by kernel_rfl) (by kernel_rfl) (by kernel_rfl) (fun _ _ _ h => h) (Or.inr ⟨by rfl, rfl⟩) (by assumption) ?_
      (try simp only [Act.put, List.setIfInBounds_toArray, List.set_cons_zero, List.set_cons_succ])
      refine wpAnyH_take (i := 25) (v := undef) (held_at rfl) (by kernel_rfl) (by kernel_rfl) (by kernel_rfl) (fun _ _ _ h => h) (Or.inr ⟨by rfl, rfl⟩) (by assumption) ?_
      (try simp only [Act.put, List.setIfInBounds_toArray, List.set_cons_zero, List.set_cons_succ])
      refine wpAnyH_take (i := 26) (v := ?_) (held_at rfl) (by kernel_rfl) (by kernel_rfl) (by kernel_rfl) (fun _ _ _ h => h) (Or.inl ⟨by rfl, ?_⟩) (by assumption) ?_
      rotate_left
      · (intro w1 hSw; obtain ⟨x1, rfl⟩ := hSw; go_simp; (try with_reducible rfl))
      (try simp only [Act.put, List.setIfInBounds_toArray, List.set_cons_zero, List.set_cons_succ])
      refine wpAnyH_take (i := 27) (v := ?_) (held_at rfl) (by kernel_rfl) (by kernel_rfl) (by kernel_rfl) (fun _ _ _ h => h) (Or.inl ⟨by rfl, ?_⟩) (by assumption) ?_
      rotate_left
      · (intro w1 hSw; obtain ⟨x1, rfl⟩ := hSw; go_simp; (try with_reducible rfl))
      (try simp only [Act.put, List.setIfInBounds_toArray, List.set_cons_zero, List.set_cons_succ])
      refine wpAnyH_take (i := 28) (v := ?_) (held_at rfl) (by kernel_rfl) (by kernel_rfl) (by kernel_rfl) (fun _ _ _ h => h) (Or.inl ⟨by rfl, ?_⟩) (by assumption) ?_
      rotate_left
      · (intro w1 hSw; obtain ⟨x1, rfl⟩ := hSw; go_simp; (try with_reducible rfl))
      (try simp only [Act.put, List.setIfInBounds_toArray, List.set_cons_zero, List.set_cons_succ])
      refine wpAnyH_take (i := 29) (v := ?_) (held_at rfl) (by kernel_rfl) (by kernel_rfl) (by kernel_rfl) (fun _ _ _ h => h) (Or.inl ⟨by rfl, ?_⟩) (by assumption) ?_
      rotate_left
      · (intro w1 hSw; obtain ⟨x1, rfl⟩ := hSw; go_simp; (try with_reducible rfl))
      (try simp only [Act.put, List.setIfInBounds_toArray, List.set_cons_zero, List.set_cons_succ])
      refine wpAnyH_take (i := 30) (v := ?_) (held_at rfl) (by kernel_rfl) (by kernel_rfl) (by kernel_rfl) (fun _ _ _ h => h) (Or.inl ⟨by rfl, ?_⟩) (by assumption) ?_
      rotate_left
      · (intro w1 hSw; obtain ⟨x1, rfl⟩ := hSw; go_simp; (try with_reducible rfl))
      (try simp only [Act.put, List.setIfInBounds_toArray, List.set_cons_zero, List.set_cons_succ])
      refine wpAnyH_take (i := 32) (v := ?_) (held_at rfl) (by kernel_rfl) (by kernel_rfl) (by kernel_rfl) (fun _ _ _ h => h) (Or.inl ⟨by rfl, ?_⟩) (by assumption) ?_
      rotate_left
      · (intro w1 hSw; obtain ⟨x1, rfl⟩ := hSw; go_simp; (try with_reducible rfl))
      (try simp only [Act.put, List.setIfInBounds_toArray, List.set_cons_zero, List.set_cons_succ])
      refine wpAnyH_take (i := 33) (v := ?_) (held_at rfl) (by kernel_rfl) (by kernel_rfl) (by kernel_rfl) (fun _ _ _ h => h) (Or.inl ⟨by rfl, ?_⟩) (by assumption) ?_
      rotate_left
      · (intro w1 hSw; obtain ⟨x1, rfl⟩ := hSw; go_simp; (try with_reducible rfl))
      (try simp only [Act.put, List.setIfInBounds_toArray, List.set_cons_zero, List.set_cons_succ])
      refine wpAnyH_take (i := 35) (v := ?_) (held_at rfl) (by kernel_rfl) (by kernel_rfl) (by kernel_rfl) (fun _ _ _ h => h) (Or.inl ⟨by rfl, ?_⟩) (by assumption) ?_
      rotate_left
      · (intro w1 hSw; obtain ⟨x1, rfl⟩ := hSw; go_simp; (try with_reducible rfl))
      (try simp only [Act.put, List.setIfInBounds_toArray, List.set_cons_zero, List.set_cons_succ])
      refine wpAnyH_take (i := 36) (v := ?_) (held_at rfl) (by kernel_rfl) (by kernel_rfl) (by kernel_rfl) (fun _ _ _ h => h) (Or.inl ⟨by rfl, ?_⟩) (by assumption) ?_
      rotate_left
      · (intro w1 hSw; obtain ⟨x1, rfl⟩ := hSw; go_simp; (try with_reducible rfl))
      (try simp only [Act.put, List.setIfInBounds_toArray, List.set_cons_zero, List.set_cons_succ])
      refine wpAnyH_take (i := 38) (v := ?_) (held_at rfl) (by kernel_rfl) (by kernel_rfl) (by kernel_rfl) (fun _ _ _ h => h) (Or.inl ⟨by rfl, ?_⟩) (by assumption) ?_
      rotate_left
      · (intro w1 hSw; obtain ⟨x1, rfl⟩ := hSw; go_simp; (try with_reducible rfl))
      (try simp only [Act.put, List.setIfInBounds_toArray, List.set_cons_zero, List.set_cons_succ])
      refine wpAnyH_take (i := 39) (v := ?_) (held_at rfl) (by kernel_rfl) (by kernel_rfl) (by kernel_rfl) (fun _ _ _ h => h) (Or.inl ⟨by rfl, ?_⟩) (by assumption) ?_
      rotate_left
      · (intro w1 hSw; obtain ⟨x1, rfl⟩ := hSw; go_simp; (try with_reducible rfl))
      (try simp only [Act.put, List.setIfInBounds_toArray, List.set_cons_zero, List.set_cons_succ])
      refine wpAnyH_ready (rs := [31]) (by kernel_rfl) (by simp) ?_
      refine AllReadyH.cons (held_at rfl) (fun K hK => ?_) AllReadyH.nil
      go_simp
      refine (q3 _).mono ?_
      rintro e w' ⟨rfl, hc'⟩
      obtain ⟨y, rfl⟩ := Wd.next hc'
      clear hc'
      refine hK.out _ _ (InWd.start y) (fun hS => ?_)
      clear hK K
      (try simp only [Act.put, List.setIfInBounds_toArray, List.set_cons_zero, List.set_cons_succ])
      refine wpAnyH_ready (rs := [34]) (by kernel_rfl) (by simp) ?_
      refine AllReadyH.cons (held_at rfl) (fun K hK => ?_) AllReadyH.nil
      go_simp
      refine (q4 _).mono ?_
      rintro e w' ⟨rfl, hc'⟩
      obtain ⟨y, rfl⟩ := Wd.next hc'
      clear hc'
      refine hK.out _ _ (InWd.start y) (fun hS => ?_)
      clear hK K
      (try simp only [Act.put, List.setIfInBounds_toArray, List.set_cons_zero, List.set_cons_succ])
      refine wpAnyH_ready (rs := [37]) (by kernel_rfl) (by simp) ?_
      refine AllReadyH.cons (held_at rfl) (fun K hK => ?_) AllReadyH.nil
      go_simp
      refine (q5 _).mono ?_
      rintro e w' ⟨rfl, hc'⟩
      obtain ⟨y, rfl⟩ := Wd.next hc'
      clear hc'
      refine hK.out _ _ (InWd.start y) (fun hS => ?_)
      clear hK K
      (try simp only [Act.put, List.setIfInBounds_toArray, List.set_cons_zero, List.set_cons_succ])
      refine wpAnyH_ready (rs := [40]) (by kernel_rfl) (by simp) ?_
      refine AllReadyH.cons (held_at rfl) (fun K hK => ?_) AllReadyH.nil
      go_simp
      refine (q6 _).mono ?_
      rintro e w' ⟨rfl, hc'⟩
      obtain ⟨y, rfl⟩ := Wd.next hc'
      clear hc'
      refine hK.out _ _ (InWd.start y) (fun hS => ?_)
      clear hK K
      (try simp only [Act.put, List.setIfInBounds_toArray, List.set_cons_zero, List.set_cons_succ])
      refine wpAnyH_ready (rs := [41]) (by kernel_rfl) (by simp) ?_
      refine AllReadyH.cons (held_at rfl) (fun K hK => ?_) AllReadyH.nil
      go_simp
      obtain ⟨z, hz⟩ := Wd.next ((Chg.refl No y.w).alloc (.cells #[.int .i64 e0, .int .i64 e1, .int .i64 e2, .int .i64 e3] 54))
      have q9 := p9 y
      rw [← hz] at q9 ⊢
      clear hz
      refine hK.out _ _ (InWd.start z) (fun hS => ?_)
      clear hK K
      (try simp only [Act.put, List.setIfInBounds_toArray, List.set_cons_zero, List.set_cons_succ])
      refine wpAnyH_ready (rs := [42]) (by kernel_rfl) (by simp) ?_
      refine AllReadyH.cons (held_at rfl) (fun K hK => ?_) AllReadyH.nil
      go_simp
      refine (q9).mono ?_
      rintro e w' ⟨rfl, hc'⟩
      obtain ⟨y, rfl⟩ := Wd.next hc'
      clear hc'
      refine hK.out _ _ (InWd.start y) (fun hS => ?_)
      clear hK K
      (try simp only [Act.put, List.setIfInBounds_toArray, List.set_cons_zero, List.set_cons_succ])
      refine wpAnyH_take (i := 43) (v := ?_) (held_at rfl) (by kernel_rfl) (by kernel_rfl) (by kernel_rfl) (fun _ _ _ h => h) (Or.inl ⟨by rfl, ?_⟩) (by assumption) ?_
      rotate_left
      · (intro w1 hSw; obtain ⟨x1, rfl⟩ := hSw; go_simp; (try with_reducible rfl))
      (try simp only [Act.put, List.setIfInBounds_toArray, List.set_cons_zero, List.set_cons_succ])
      refine wpAnyH_take (i := 44) (v := ?_) (held_at rfl) (by kernel_rfl) (by kernel_rfl) (by kernel_rfl) (fun _ _ _ h => h) (Or.inl ⟨by rfl, ?_⟩) (by assumption) ?_
      rotate_left
      · (intro w1 hSw; obtain ⟨x1, rfl⟩ := hSw; go_simp; (try with_reducible rfl))
      (try simp only [Act.put, List.setIfInBounds_toArray, List.set_cons_zero, List.set_cons_succ])
      cases b4 with
      | false =>
        refine wpAnyH_take (i := 45) (v := undef) (held_at rfl) (by kernel_rfl) (by kernel_rfl) (by kernel_rfl) (fun _ _ _ h => h) (Or.inr ⟨by rfl, rfl⟩) (by assumption) ?_
        (try simp only [Act.put, List.setIfInBounds_toArray, List.set_cons_zero, List.set_cons_succ])
        refine wpAnyH_take (i := 46) (v := undef) (held_at rfl) (by kernel_rfl) (by kernel_rfl) (by kernel_rfl) (fun _ _ _ h => h) (Or.inr ⟨by rfl, rfl⟩) (by assumption) ?_
        (try simp only [Act.put, List.setIfInBounds_toArray, List.set_cons_zero, List.set_cons_succ])
        refine wpAnyH_take (i := 47) (v := undef) (held_at rfl) (by kernel_rfl) (by kernel_rfl) (by kernel_rfl) (fun _ _ _ h => h) (Or.inr ⟨by rfl, rfl⟩) (by assumption) ?_
        (try simp only [Act.put, List.setIfInBounds_toArray, List.set_cons_zero, List.set_cons_succ])
        refine wpAnyH_take (i := 48) (v := ?_) (held_at rfl) (by kernel_rfl) (by kernel_rfl) (by kernel_rfl) (fun _ _ _ h => h) (Or.inl ⟨by rfl, ?_⟩) (by assumption) ?_
        rotate_left
        · (intro w1 hSw; obtain ⟨x1, rfl⟩ := hSw; go_simp; (try with_reducible rfl))
        (try simp only [Act.put, List.setIfInBounds_toArray, List.set_cons_zero, List.set_cons_succ])
        refine wpAnyH_take (i := 49) (v := ?_) (held_at rfl) (by kernel_rfl) (by kernel_rfl) (by kernel_rfl) (fun _ _ _ h => h) (Or.inl ⟨by rfl, ?_⟩) (by assumption) ?_
        rotate_left
        · (intro w1 hSw; obtain ⟨x1, rfl⟩ := hSw; go_simp; (try with_reducible rfl))
        (try simp only [Act.put, List.setIfInBounds_toArray, List.set_cons_zero, List.set_cons_succ])
        refine wpAnyH_take (i := 50) (v := undef) (held_at rfl) (by kernel_rfl) (by kernel_rfl) (by kernel_rfl) (fun _ _ _ h => h) (Or.inr ⟨by rfl, rfl⟩) (by assumption) ?_
        (try simp only [Act.put, List.setIfInBounds_toArray, List.set_cons_zero, List.set_cons_succ])
        refine wpAnyH_take (i := 51) (v := undef) (held_at rfl) (by kernel_rfl) (by kernel_rfl) (by kernel_rfl) (fun _ _ _ h => h) (Or.inr ⟨by rfl, rfl⟩) (by assumption) ?_
        (try simp only [Act.put, List.setIfInBounds_toArray, List.set_cons_zero, List.set_cons_succ])
        refine wpAnyH_take (i := 52) (v := undef) (held_at rfl) (by kernel_rfl) (by kernel_rfl) (by kernel_rfl) (fun _ _ _ h => h) (Or.inr ⟨by rfl, rfl⟩) (by assumption) ?_
        (try simp only [Act.put, List.setIfInBounds_toArray, List.set_cons_zero, List.set_cons_succ])
        refine wpAnyH_take (i := 53) (v := ?_) (held_at rfl) (by kernel_rfl) (by kernel_rfl) (by kernel_rfl) (fun _ _ _ h => h) (Or.inl ⟨by rfl, ?_⟩) (by assumption) ?_
        rotate_left
        · (intro w1 hSw; obtain ⟨x1, rfl⟩ := hSw; go_simp; (try with_reducible rfl))
        (try simp only [Act.put, List.setIfInBounds_toArray, List.set_cons_zero, List.set_cons_succ])
        refine wpAnyH_take (i := 54) (v := ?_) (held_at rfl) (by kernel_rfl) (by kernel_rfl) (by kernel_rfl) (fun _ _ _ h => h) (Or.inl ⟨by rfl, ?_⟩) (by assumption) ?_
        rotate_left
        · (intro w1 hSw; obtain ⟨x1, rfl⟩ := hSw; go_simp; (try with_reducible rfl))
        (try simp only [Act.put, List.setIfInBounds_toArray, List.set_cons_zero, List.set_cons_succ])
        refine wpAnyH_done (by kernel_rfl) ?_ _
        go_wp2_with fail
        go_ret
        refine ⟨?_, hcw.trans (Wd.chg _)⟩
        have hbb := HB4.out
        rw [HR.out]
        rw [hbb]
        first | (simp_all; done) | (simp_all <;> (intros; omega))
      | true =>
        refine wpAnyH_take (i := 45) (v := ?_) (held_at rfl) (by kernel_rfl) (by kernel_rfl) (by kernel_rfl) (fun _ _ _ h => h) (Or.inl ⟨by rfl, ?_⟩) (by assumption) ?_
        rotate_left
        · (intro w1 hSw; obtain ⟨x1, rfl⟩ := hSw; go_simp; (try with_reducible rfl))
        (try simp only [Act.put, List.setIfInBounds_toArray, List.set_cons_zero, List.set_cons_succ])
        refine wpAnyH_take (i := 46) (v := ?_) (held_at rfl) (by kernel_rfl) (by kernel_rfl) (by kernel_rfl) (fun _ _ _ h => h) (Or.inl ⟨by rfl, ?_⟩) (by assumption) ?_
        rotate_left
        · (intro w1 hSw; obtain ⟨x1, rfl⟩ := hSw; go_simp; (try with_reducible rfl))
        (try simp only [Act.put, List.setIfInBounds_toArray, List.set_cons_zero, List.set_cons_succ])
        refine wpAnyH_ready (rs := [47]) (by kernel_rfl) (by simp) ?_
        refine AllReadyH.cons (held_at rfl) (fun K hK => ?_) AllReadyH.nil
        go_simp
        refine (q7 _).mono ?_
        rintro e w' ⟨rfl, hc'⟩
        obtain ⟨y, rfl⟩ := Wd.next hc'
        clear hc'
        refine hK.out _ _ (InWd.start y) (fun hS => ?_)
        clear hK K
        (try simp only [Act.put, List.setIfInBounds_toArray, List.set_cons_zero, List.set_cons_succ])
        refine wpAnyH_take (i := 48) (v := ?_) (held_at rfl) (by kernel_rfl) (by kernel_rfl) (by kernel_rfl) (fun _ _ _ h => h) (Or.inl ⟨by rfl, ?_⟩) (by assumption) ?_
        rotate_left
        · (intro w1 hSw; obtain ⟨x1, rfl⟩ := hSw; go_simp; (try with_reducible rfl))
        (try simp only [Act.put, List.setIfInBounds_toArray, List.set_cons_zero, List.set_cons_succ])
        refine wpAnyH_take (i := 49) (v := ?_) (held_at rfl) (by kernel_rfl) (by kernel_rfl) (by kernel_rfl) (fun _ _ _ h => h) (Or.inl ⟨by rfl, ?_⟩) (by assumption) ?_
        rotate_left
        · (intro w1 hSw; obtain ⟨x1, rfl⟩ := hSw; go_simp; (try with_reducible rfl))
        (try simp only [Act.put, List.setIfInBounds_toArray, List.set_cons_zero, List.set_cons_succ])
        cases n1 with
        | false =>
          refine wpAnyH_take (i := 50) (v := undef) (held_at rfl) (by kernel_rfl) (by kernel_rfl) (by kernel_rfl) (fun _ _ _ h => h) (Or.inr ⟨by rfl, rfl⟩) (by assumption) ?_
          (try simp only [Act.put, List.setIfInBounds_toArray, List.set_cons_zero, List.set_cons_succ])
          refine wpAnyH_take (i := 51) (v := undef) (held_at rfl) (by kernel_rfl) (by kernel_rfl) (by kernel_rfl) (fun _ _ _ h => h) (Or.inr ⟨by rfl, rfl⟩) (by assumption) ?_
          (try simp only [Act.put, List.setIfInBounds_toArray, List.set_cons_zero, List.set_cons_succ])
          refine wpAnyH_take (i := 52) (v := undef) (held_at rfl) (by kernel_rfl) (by kernel_rfl) (by kernel_rfl) (fun _ _ _ h => h) (Or.inr ⟨by rfl, rfl⟩) (by assumption) ?_
          (try simp only [Act.put, List.setIfInBounds_toArray, List.set_cons_zero, List.set_cons_succ])
          refine wpAnyH_take (i := 53) (v := ?_) (held_at rfl) (by kernel_rfl) (by kernel_rfl) (by kernel_rfl) (fun _ _ _ h => h) (Or.inl ⟨by rfl, ?_⟩) (by assumption) ?_
          rotate_left
          · (intro w1 hSw; obtain ⟨x1, rfl⟩ := hSw; go_simp; (try with_reducible rfl))
          (try simp only [Act.put, List.setIfInBounds_toArray, List.set_cons_zero, List.set_cons_succ])
          refine wpAnyH_take (i := 54) (v := ?_) (held_at rfl) (by kernel_rfl) (by kernel_rfl) (by kernel_rfl) (fun _ _ _ h => h) (Or.inl ⟨by rfl, ?_⟩) (by assumption) ?_
          rotate_left
          · (intro w1 hSw; obtain ⟨x1, rfl⟩ := hSw; go_simp; (try with_reducible rfl))
          (try simp only [Act.put, List.setIfInBounds_toArray, List.set_cons_zero, List.set_cons_succ])
          refine wpAnyH_done (by kernel_rfl) ?_ _
          go_wp2_with fail
          go_ret
          refine ⟨?_, hcw.trans (Wd.chg _)⟩
          have hbb := HB4.out
          rw [HR.out]
          rw [hbb]
          first | (simp_all; done) | (simp_all <;> (intros; omega))
        | true =>
          refine wpAnyH_take (i := 50) (v := ?_) (held_at rfl) (by kernel_rfl) (by kernel_rfl) (by kernel_rfl) (fun _ _ _ h => h) (Or.inl ⟨by rfl, ?_⟩) (by assumption) ?_
          rotate_left
          · (intro w1 hSw; obtain ⟨x1, rfl⟩ := hSw; go_simp; (try with_reducible rfl))
          (try simp only [Act.put, List.setIfInBounds_toArray, List.set_cons_zero, List.set_cons_succ])
          refine wpAnyH_take (i := 51) (v := ?_) (held_at rfl) (by kernel_rfl) (by kernel_rfl) (by kernel_rfl) (fun _ _ _ h => h) (Or.inl ⟨by rfl, ?_⟩) (by assumption) ?_
          rotate_left
          · (intro w1 hSw; obtain ⟨x1, rfl⟩ := hSw; go_simp; (try with_reducible rfl))
          (try simp only [Act.put, List.setIfInBounds_toArray, List.set_cons_zero, List.set_cons_succ])
          refine wpAnyH_ready (rs := [52]) (by kernel_rfl) (by simp) ?_
          refine AllReadyH.cons (held_at rfl) (fun K hK => ?_) AllReadyH.nil
          go_simp
          refine (q8 _).mono ?_
          rintro e w' ⟨rfl, hc'⟩
          obtain ⟨y, rfl⟩ := Wd.next hc'
          clear hc'
          refine hK.out _ _ (InWd.start y) (fun hS => ?_)
          clear hK K
          (try simp only [Act.put, List.setIfInBounds_toArray, List.set_cons_zero, List.set_cons_succ])
          refine wpAnyH_take (i := 53) (v := ?_) (held_at rfl) (by kernel_rfl) (by kernel_rfl) (by kernel_rfl) (fun _ _ _ h => h) (Or.inl ⟨by rfl, ?_⟩) (by assumption) ?_
          rotate_left
          · (intro w1 hSw; obtain ⟨x1, rfl⟩ := hSw; go_simp; (try with_reducible rfl))
          (try simp only [Act.put, List.setIfInBounds_toArray, List.set_cons_zero, List.set_cons_succ])
          refine wpAnyH_take (i := 54) (v := ?_) (held_at rfl) (by kernel_rfl) (by kernel_rfl) (by kernel_rfl) (fun _ _ _ h => h) (Or.inl ⟨by rfl, ?_⟩) (by assumption) ?_
          rotate_left
          · (intro w1 hSw; obtain ⟨x1, rfl⟩ := hSw; go_simp; (try with_reducible rfl))
          (try simp only [Act.put, List.setIfInBounds_toArray, List.set_cons_zero, List.set_cons_succ])
          refine wpAnyH_done (by kernel_rfl) ?_ _
          go_wp2_with fail
          go_ret
          refine ⟨?_, hcw.trans (Wd.chg _)⟩
          have hbb := HB4.out
          rw [HR.out]
          rw [hbb]
          first | (simp_all; done) | (simp_all <;> (intros; omega))
    · skip
      unfold podB ownOk restB at hr
      rw [hb, heo] at hr
      have heo' := toList_of heo
      have he' := toList_of he
      clear hb
      go_enter Tryz.func136, Tryz.ntmps136
      go_wp2_with fail
      generalize (w.alloc _).alloc _ = W at hcw hA hR hxn hN ⊢
      generalize w.heap.size = B at hA hR ⊢
      have q1 : ∀ y : Wd No W, Gives 94 _ y.w (.int .i64 (ownerIdx s x.owner)) := fun y => snapOwner_any ((h.no hcw).no y.chg) x.owner
      have q2 : ∀ y : Wd No W, Gives 149 _ y.w (.int .i64 (nodeIdx s x.on)) := fun y => snapNode_any ((h.no hcw).no y.chg) x.on
      have q3 := fun y : Wd No W => vecCheck_any (x.req 0) (x.req 1) (x.req 2) (x.req 3) (x.req 4) y.w
      have q4 := fun y : Wd No W => labCheck_any ((hp.2.1.no hcw).no y.chg)
      have q5 := fun y : Wd No W => terms_any ((hp.2.2.1.no hcw).no y.chg)
      have q6 := fun y : Wd No W => labCheckBears_any ((hp.2.2.2.1.no hcw).no y.chg)
      have q7 := fun y : Wd No W => near_any hp.1.2.2.2.1 ((hp.2.2.2.2.1.no hcw).no y.chg)
      have q8 := fun y : Wd No W => near_any hp.1.2.2.2.2 ((hp.2.2.2.2.2.no hcw).no y.chg)
      unfold Gives at q1 q2 q3 q4 q5 q6 q7 q8
      unfold vecV at q3
      dsimp only at q4 q5 q6 q7 q8
      rw [hi] at q2
      generalize ownerIdx s x.owner = io at *
      generalize vecE (x.req 0) (x.req 1) (x.req 2) (x.req 3) (x.req 4) = e0 at *
      generalize labsE false x.labels = e1 at *
      generalize termsE x.where_ = e2 at *
      generalize labsE true x.bears = e3 at *
      generalize nearB x.wTopo x.wTerms = n1 at *
      generalize nearB x.aTopo x.aTerms = n2 at *
      have HR := Go.Lib.hid hr
      clear hr
      have sa0 := fun y : Wd No W => y.chg.cell (cell_of_heap (j := 0) hA rfl) id
      have sa1 := fun y : Wd No W => y.chg.cell (cell_of_heap (j := 1) hA rfl) id
      have sa2 := fun y : Wd No W => y.chg.cell (cell_of_heap (j := 2) hA rfl) id
      have r1 := fun y : Wd No W => y.chg.cell (cell_of_heap (j := 1) hR rfl) id
      have r2 := fun y : Wd No W => y.chg.cell (cell_of_heap (j := 2) hR rfl) id
      have r3 := fun y : Wd No W => y.chg.cell (cell_of_heap (j := 3) hR rfl) id
      have r4 := fun y : Wd No W => y.chg.cell (cell_of_heap (j := 4) hR rfl) id
      have r5 := fun y : Wd No W => y.chg.cell (cell_of_heap (j := 5) hR rfl) id
      have r6 := fun y : Wd No W => y.chg.cell (cell_of_heap (j := 6) hR rfl) id
      have r7 := fun y : Wd No W => y.chg.cell (cell_of_heap (j := 7) hR rfl) id
      have r8 := fun y : Wd No W => y.chg.cell (cell_of_heap (j := 8) hR rfl) id
      have r9 := fun y : Wd No W => y.chg.cell (cell_of_heap (j := 9) hR rfl) id
      have r10 := fun y : Wd No W => y.chg.cell (cell_of_heap (j := 10) hR rfl) id
      have r11 := fun y : Wd No W => y.chg.cell (cell_of_heap (j := 11) hR rfl) id
      have r12 := fun y : Wd No W => y.chg.cell (cell_of_heap (j := 12) hR rfl) id
      have r13 := fun y : Wd No W => y.chg.cell (cell_of_heap (j := 13) hR rfl) id
      have r14 := fun y : Wd No W => y.chg.cell (cell_of_heap (j := 14) hR rfl) id
      clear hA hR hxn hN h hp
      clear hi
      obtain ⟨x0, hx0⟩ := Wd.start No W
      rw [← hx0]
      clear hx0
      refine (q2 _).mono ?_
      rintro e w' ⟨rfl, hc'⟩
      obtain ⟨y, rfl⟩ := Wd.next hc'
      clear hc' x0
      go_wp2_with fail
      refine wp_region_wd2 y (by kernel_rfl) (by kernel_rfl) ?_
      repeat (refine WQ.step (fun K hK => ?_); go_simp; first | (refine hK _ ?_; clear hK K) | (apply Exists.intro; refine ⟨fun _ => ?_, hK _ ?_⟩; (go_at_call 94; exact wd_calls (q1 _)); clear hK K))
      refine WQ.nil ?_
      rintro _ ⟨z, rfl⟩
      go_wp2_with fail
      go_ret
      refine ⟨?_, hcw.trans z.chg⟩
      rw [HR.out]
      first | (simp_all; done) | (simp_all <;> (intros; omega))
    · cases l with
      | true =>
        unfold podB ownOk restB at hr
        rw [hb, heo] at hr
        have heo' := toList_of heo
        have he' := toList_of he
        clear hb
        go_enter Tryz.func136, Tryz.ntmps136
        go_wp2_with fail
        generalize (w.alloc _).alloc _ = W at hcw hA hR hxn hN ⊢
        generalize w.heap.size = B at hA hR ⊢
        have q1 : ∀ y : Wd No W, Gives 94 _ y.w (.int .i64 (ownerIdx s x.owner)) := fun y => snapOwner_any ((h.no hcw).no y.chg) x.owner
        have q2 : ∀ y : Wd No W, Gives 149 _ y.w (.int .i64 (nodeIdx s x.on)) := fun y => snapNode_any ((h.no hcw).no y.chg) x.on
        have q3 := fun y : Wd No W => vecCheck_any (x.req 0) (x.req 1) (x.req 2) (x.req 3) (x.req 4) y.w
        have q4 := fun y : Wd No W => labCheck_any ((hp.2.1.no hcw).no y.chg)
        have q5 := fun y : Wd No W => terms_any ((hp.2.2.1.no hcw).no y.chg)
        have q6 := fun y : Wd No W => labCheckBears_any ((hp.2.2.2.1.no hcw).no y.chg)
        have q7 := fun y : Wd No W => near_any hp.1.2.2.2.1 ((hp.2.2.2.2.1.no hcw).no y.chg)
        have q8 := fun y : Wd No W => near_any hp.1.2.2.2.2 ((hp.2.2.2.2.2.no hcw).no y.chg)
        unfold Gives at q1 q2 q3 q4 q5 q6 q7 q8
        unfold vecV at q3
        dsimp only at q4 q5 q6 q7 q8
        rw [hi] at q2
        generalize ownerIdx s x.owner = io at *
        generalize vecE (x.req 0) (x.req 1) (x.req 2) (x.req 3) (x.req 4) = e0 at *
        generalize labsE false x.labels = e1 at *
        generalize termsE x.where_ = e2 at *
        generalize labsE true x.bears = e3 at *
        generalize nearB x.wTopo x.wTerms = n1 at *
        generalize nearB x.aTopo x.aTerms = n2 at *
        have HR := Go.Lib.hid hr
        clear hr
        have sa0 := fun y : Wd No W => y.chg.cell (cell_of_heap (j := 0) hA rfl) id
        have sa1 := fun y : Wd No W => y.chg.cell (cell_of_heap (j := 1) hA rfl) id
        have sa2 := fun y : Wd No W => y.chg.cell (cell_of_heap (j := 2) hA rfl) id
        have r1 := fun y : Wd No W => y.chg.cell (cell_of_heap (j := 1) hR rfl) id
        have r2 := fun y : Wd No W => y.chg.cell (cell_of_heap (j := 2) hR rfl) id
        have r3 := fun y : Wd No W => y.chg.cell (cell_of_heap (j := 3) hR rfl) id
        have r4 := fun y : Wd No W => y.chg.cell (cell_of_heap (j := 4) hR rfl) id
        have r5 := fun y : Wd No W => y.chg.cell (cell_of_heap (j := 5) hR rfl) id
        have r6 := fun y : Wd No W => y.chg.cell (cell_of_heap (j := 6) hR rfl) id
        have r7 := fun y : Wd No W => y.chg.cell (cell_of_heap (j := 7) hR rfl) id
        have r8 := fun y : Wd No W => y.chg.cell (cell_of_heap (j := 8) hR rfl) id
        have r9 := fun y : Wd No W => y.chg.cell (cell_of_heap (j := 9) hR rfl) id
        have r10 := fun y : Wd No W => y.chg.cell (cell_of_heap (j := 10) hR rfl) id
        have r11 := fun y : Wd No W => y.chg.cell (cell_of_heap (j := 11) hR rfl) id
        have r12 := fun y : Wd No W => y.chg.cell (cell_of_heap (j := 12) hR rfl) id
        have r13 := fun y : Wd No W => y.chg.cell (cell_of_heap (j := 13) hR rfl) id
        have r14 := fun y : Wd No W => y.chg.cell (cell_of_heap (j := 14) hR rfl) id
        obtain ⟨-, nb, no, rfl, ncell⟩ := hxn.2.2.2 k hk
        have ql := fun y : Wd No W => y.chg.cell (ncell 9 (.bool (s.nodes.el k).lost) rfl) id
        rw [hl] at ql
        have hkn : (k : Int) < (s.nodes.n : Int) := by omega
        have hk0 : (0 : Int) ≤ (k : Int) := by omega
        clear ncell hl hi hk
        clear hA hR hxn hN h hp
        obtain ⟨x0, hx0⟩ := Wd.start No W
        rw [← hx0]
        clear hx0
        refine (q2 _).mono ?_
        rintro e w' ⟨rfl, hc'⟩
        obtain ⟨y, rfl⟩ := Wd.next hc'
        clear hc' x0
        go_wp2_with fail
        refine wp_region_wd2 y (by kernel_rfl) (by kernel_rfl) ?_
        repeat (refine WQ.step (fun K hK => ?_); go_simp; first | (refine hK _ ?_; clear hK K) | (apply Exists.intro; refine ⟨fun _ => ?_, hK _ ?_⟩; (go_at_call 94; exact wd_calls (q1 _)); clear hK K))
        refine WQ.nil ?_
        rintro _ ⟨z, rfl⟩
        go_wp2_with fail
        go_ret
        refine ⟨?_, hcw.trans z.chg⟩
        rw [HR.out]
        first | (simp_all; done) | (simp_all <;> (intros; omega))
      | false =>
        unfold podB ownOk restB at hr
        rw [hb, heo] at hr
        have heo' := toList_of heo
        have he' := toList_of he
        clear hb
        go_enter Tryz.func136, Tryz.ntmps136
        go_wp2_with fail
        generalize (w.alloc _).alloc _ = W at hcw hA hR hxn hN ⊢
        generalize w.heap.size = B at hA hR ⊢
        have q1 : ∀ y : Wd No W, Gives 94 _ y.w (.int .i64 (ownerIdx s x.owner)) := fun y => snapOwner_any ((h.no hcw).no y.chg) x.owner
        have q2 : ∀ y : Wd No W, Gives 149 _ y.w (.int .i64 (nodeIdx s x.on)) := fun y => snapNode_any ((h.no hcw).no y.chg) x.on
        have q3 := fun y : Wd No W => vecCheck_any (x.req 0) (x.req 1) (x.req 2) (x.req 3) (x.req 4) y.w
        have q4 := fun y : Wd No W => labCheck_any ((hp.2.1.no hcw).no y.chg)
        have q5 := fun y : Wd No W => terms_any ((hp.2.2.1.no hcw).no y.chg)
        have q6 := fun y : Wd No W => labCheckBears_any ((hp.2.2.2.1.no hcw).no y.chg)
        have q7 := fun y : Wd No W => near_any hp.1.2.2.2.1 ((hp.2.2.2.2.1.no hcw).no y.chg)
        have q8 := fun y : Wd No W => near_any hp.1.2.2.2.2 ((hp.2.2.2.2.2.no hcw).no y.chg)
        unfold Gives at q1 q2 q3 q4 q5 q6 q7 q8
        unfold vecV at q3
        dsimp only at q4 q5 q6 q7 q8
        rw [hi] at q2
        generalize ownerIdx s x.owner = io at *
        generalize vecE (x.req 0) (x.req 1) (x.req 2) (x.req 3) (x.req 4) = e0 at *
        generalize labsE false x.labels = e1 at *
        generalize termsE x.where_ = e2 at *
        generalize labsE true x.bears = e3 at *
        generalize nearB x.wTopo x.wTerms = n1 at *
        generalize nearB x.aTopo x.aTerms = n2 at *
        have HR := Go.Lib.hid hr
        clear hr
        have sa0 := fun y : Wd No W => y.chg.cell (cell_of_heap (j := 0) hA rfl) id
        have sa1 := fun y : Wd No W => y.chg.cell (cell_of_heap (j := 1) hA rfl) id
        have sa2 := fun y : Wd No W => y.chg.cell (cell_of_heap (j := 2) hA rfl) id
        have r1 := fun y : Wd No W => y.chg.cell (cell_of_heap (j := 1) hR rfl) id
        have r2 := fun y : Wd No W => y.chg.cell (cell_of_heap (j := 2) hR rfl) id
        have r3 := fun y : Wd No W => y.chg.cell (cell_of_heap (j := 3) hR rfl) id
        have r4 := fun y : Wd No W => y.chg.cell (cell_of_heap (j := 4) hR rfl) id
        have r5 := fun y : Wd No W => y.chg.cell (cell_of_heap (j := 5) hR rfl) id
        have r6 := fun y : Wd No W => y.chg.cell (cell_of_heap (j := 6) hR rfl) id
        have r7 := fun y : Wd No W => y.chg.cell (cell_of_heap (j := 7) hR rfl) id
        have r8 := fun y : Wd No W => y.chg.cell (cell_of_heap (j := 8) hR rfl) id
        have r9 := fun y : Wd No W => y.chg.cell (cell_of_heap (j := 9) hR rfl) id
        have r10 := fun y : Wd No W => y.chg.cell (cell_of_heap (j := 10) hR rfl) id
        have r11 := fun y : Wd No W => y.chg.cell (cell_of_heap (j := 11) hR rfl) id
        have r12 := fun y : Wd No W => y.chg.cell (cell_of_heap (j := 12) hR rfl) id
        have r13 := fun y : Wd No W => y.chg.cell (cell_of_heap (j := 13) hR rfl) id
        have r14 := fun y : Wd No W => y.chg.cell (cell_of_heap (j := 14) hR rfl) id
        obtain ⟨-, nb, no, rfl, ncell⟩ := hxn.2.2.2 k hk
        have ql := fun y : Wd No W => y.chg.cell (ncell 9 (.bool (s.nodes.el k).lost) rfl) id
        rw [hl] at ql
        have hkn : (k : Int) < (s.nodes.n : Int) := by omega
        have hk0 : (0 : Int) ≤ (k : Int) := by omega
        clear ncell hl hi hk
        clear hA hR hxn hN h hp
        obtain ⟨x0, hx0⟩ := Wd.start No W
        rw [← hx0]
        clear hx0
        refine (q2 _).mono ?_
        rintro e w' ⟨rfl, hc'⟩
        obtain ⟨y, rfl⟩ := Wd.next hc'
        clear hc' x0
        go_wp2_with fail
        have p9 := fun y : Wd No W => fine4_any e0 e1 e2 e3 y.w
        unfold Gives at p9
        generalize hb4 : (decide (e0 = 0) && decide (e1 = 0) && decide (e2 = 0) && decide (e3 = 0)) = b4 at p9
        have HB4 := Go.Lib.hid hb4
        clear hb4
        refine wp_region_held_drew (S := InWd No W) (by kernel_rfl) (InWd.drew' y) (fun hS => ?_)
        obtain ⟨y', hy⟩ := hS
        rw [← hy]
        have hS := InWd.start y'
        clear hy y
        refine wpAnyH_take (i := 0) (v := ?_) (held_at rfl) (by kernel_rfl) (by kernel_rfl) (by kernel_rfl) (fun _ _ _ h => h) (Or.inl ⟨by rfl, ?_⟩) (by assumption) ?_
        rotate_left
        · (intro w1 hSw; obtain ⟨x1, rfl⟩ := hSw; go_simp; (try with_reducible rfl))
        (try simp only [Act.put, List.setIfInBounds_toArray, List.set_cons_zero, List.set_cons_succ])
        refine wpAnyH_take (i := 1) (v := ?_) (held_at rfl) (by kernel_rfl) (by kernel_rfl) (by kernel_rfl) (fun _ _ _ h => h) (Or.inl ⟨by rfl, ?_⟩) (by assumption) ?_
        rotate_left
        · (intro w1 hSw; obtain ⟨x1, rfl⟩ := hSw; go_simp; (try with_reducible rfl))
        (try simp only [Act.put, List.setIfInBounds_toArray, List.set_cons_zero, List.set_cons_succ])
        refine wpAnyH_take (i := 2) (v := ?_) (held_at rfl) (by kernel_rfl) (by kernel_rfl) (by kernel_rfl) (fun _ _ _ h => h) (Or.inl ⟨by rfl, ?_⟩) (by assumption) ?_
        rotate_left
        · (intro w1 hSw; obtain ⟨x1, rfl⟩ := hSw; go_simp; (try with_reducible rfl))
        (try simp only [Act.put, List.setIfInBounds_toArray, List.set_cons_zero, List.set_cons_succ])
        refine wpAnyH_take (i := 3) (v := ?_) (held_at rfl) (by kernel_rfl) (by kernel_rfl) (by kernel_rfl) (fun _ _ _ h => h) (Or.inl ⟨by rfl, ?_⟩) (by assumption) ?_
        rotate_left
        · (intro w1 hSw; obtain ⟨x1, rfl⟩ := hSw; go_simp; (try with_reducible rfl))
        (try simp only [Act.put, List.setIfInBounds_toArray, List.set_cons_zero, List.set_cons_succ])
        refine wpAnyH_take (i := 4) (v := undef) (held_at rfl) (by kernel_rfl) (by kernel_rfl) (by kernel_rfl) (fun _ _ _ h => h) (Or.inr ⟨by rfl, rfl⟩) (by assumption) ?_
        (try simp only [Act.put, List.setIfInBounds_toArray, List.set_cons_zero, List.set_cons_succ])
        refine wpAnyH_take (i := 5) (v := undef) (held_at rfl) (by kernel_rfl) (by kernel_rfl) (by kernel_rfl) (fun _ _ _ h => h) (Or.inr ⟨by rfl, rfl⟩) (by assumption) ?_
        (try simp only [Act.put, List.setIfInBounds_toArray, List.set_cons_zero, List.set_cons_succ])
        refine wpAnyH_take (i := 6) (v := undef) (held_at rfl) (by kernel_rfl) (by kernel_rfl) (by kernel_rfl) (fun _ _ _ h => h) (Or.inr ⟨by rfl, rfl⟩) (by assumption) ?_
        (try simp only [Act.put, List.setIfInBounds_toArray, List.set_cons_zero, List.set_cons_succ])
        refine wpAnyH_take (i := 7) (v := undef) (held_at rfl) (by kernel_rfl) (by kernel_rfl) (by kernel_rfl) (fun _ _ _ h => h) (Or.inr ⟨by rfl, rfl⟩) (by assumption) ?_
        (try simp only [Act.put, List.setIfInBounds_toArray, List.set_cons_zero, List.set_cons_succ])
        refine wpAnyH_take (i := 8) (v := undef) (held_at rfl) (by kernel_rfl) (by kernel_rfl) (by kernel_rfl) (fun _ _ _ h => h) (Or.inr ⟨by rfl, rfl⟩) (by assumption) ?_
        (try simp only [Act.put, List.setIfInBounds_toArray, List.set_cons_zero, List.set_cons_succ])
        refine wpAnyH_take (i := 9) (v := ?_) (held_at rfl) (by kernel_rfl) (by kernel_rfl) (by kernel_rfl) (fun _ _ _ h => h) (Or.inl ⟨by rfl, ?_⟩) (by assumption) ?_
        rotate_left
        · (intro w1 hSw; obtain ⟨x1, rfl⟩ := hSw; go_simp; (try with_reducible rfl))
        (try simp only [Act.put, List.setIfInBounds_toArray, List.set_cons_zero, List.set_cons_succ])
        refine wpAnyH_take (i := 10) (v := ?_) (held_at rfl) (by kernel_rfl) (by kernel_rfl) (by kernel_rfl) (fun _ _ _ h => h) (Or.inl ⟨by rfl, ?_⟩) (by assumption) ?_
        rotate_left
        · (intro w1 hSw; obtain ⟨x1, rfl⟩ := hSw; go_simp; (try with_reducible rfl))
        (try simp only [Act.put, List.setIfInBounds_toArray, List.set_cons_zero, List.set_cons_succ])
        refine wpAnyH_take (i := 11) (v := ?_) (held_at rfl) (by kernel_rfl) (by kernel_rfl) (by kernel_rfl) (fun _ _ _ h => h) (Or.inl ⟨by rfl, ?_⟩) (by assumption) ?_
        rotate_left
        · (intro w1 hSw; obtain ⟨x1, rfl⟩ := hSw; go_simp; (try with_reducible rfl))
        (try simp only [Act.put, List.setIfInBounds_toArray, List.set_cons_zero, List.set_cons_succ])
        refine wpAnyH_take (i := 12) (v := ?_) (held_at rfl) (by kernel_rfl) (by kernel_rfl) (by kernel_rfl) (fun _ _ _ h => h) (Or.inl ⟨by rfl, ?_⟩) (by assumption) ?_
        rotate_left
        · (intro w1 hSw; obtain ⟨x1, rfl⟩ := hSw; go_simp; (try with_reducible rfl))
        (try simp only [Act.put, List.setIfInBounds_toArray, List.set_cons_zero, List.set_cons_succ])
        refine wpAnyH_take (i := 13) (v := ?_) (held_at rfl) (by kernel_rfl) (by kernel_rfl) (by kernel_rfl) (fun _ _ _ h => h) (Or.inl ⟨by rfl, ?_⟩) (by assumption) ?_
        rotate_left
        · (intro w1 hSw; obtain ⟨x1, rfl⟩ := hSw; go_simp; (try with_reducible rfl))
        (try simp only [Act.put, List.setIfInBounds_toArray, List.set_cons_zero, List.set_cons_succ])
        refine wpAnyH_take (i := 14) (v := ?_) (held_at rfl) (by kernel_rfl) (by kernel_rfl) (by kernel_rfl) (fun _ _ _ h => h) (Or.inl ⟨by rfl, ?_⟩) (by assumption) ?_
        rotate_left
        · (intro w1 hSw; obtain ⟨x1, rfl⟩ := hSw; go_simp; (try with_reducible rfl))
        (try simp only [Act.put, List.setIfInBounds_toArray, List.set_cons_zero, List.set_cons_succ])
        refine wpAnyH_take (i := 15) (v := ?_) (held_at rfl) (by kernel_rfl) (by kernel_rfl) (by kernel_rfl) (fun _ _ _ h => h) (Or.inl ⟨by rfl, ?_⟩) (by assumption) ?_
        rotate_left
        · (intro w1 hSw; obtain ⟨x1, rfl⟩ := hSw; go_simp; (try with_reducible rfl))
        (try simp only [Act.put, List.setIfInBounds_toArray, List.set_cons_zero, List.set_cons_succ])
        refine wpAnyH_take (i := 16) (v := ?_) (held_at rfl) (by kernel_rfl) (by kernel_rfl) (by kernel_rfl) (fun _ _ _ h => h) (Or.inl ⟨by rfl, ?_⟩) (by assumption) ?_
        rotate_left
        · (intro w1 hSw; obtain ⟨x1, rfl⟩ := hSw; go_simp; (try with_reducible rfl))
        (try simp only [Act.put, List.setIfInBounds_toArray, List.set_cons_zero, List.set_cons_succ])
        refine wpAnyH_take (i := 17) (v := ?_) (held_at rfl) (by kernel_rfl) (by kernel_rfl) (by kernel_rfl) (fun _ _ _ h => h) (Or.inl ⟨by rfl, ?_⟩) (by assumption) ?_
        rotate_left
        · (intro w1 hSw; obtain ⟨x1, rfl⟩ := hSw; go_simp; (try with_reducible rfl))
        (try simp only [Act.put, List.setIfInBounds_toArray, List.set_cons_zero, List.set_cons_succ])
        refine wpAnyH_take (i := 18) (v := ?_) (held_at rfl) (by kernel_rfl) (by kernel_rfl) (by kernel_rfl) (fun _ _ _ h => h) (Or.inl ⟨by rfl, ?_⟩) (by assumption) ?_
        rotate_left
        · (intro w1 hSw; obtain ⟨x1, rfl⟩ := hSw; go_simp; (try with_reducible rfl))
        (try simp only [Act.put, List.setIfInBounds_toArray, List.set_cons_zero, List.set_cons_succ])
        refine wpAnyH_take (i := 19) (v := ?_) (held_at rfl) (by kernel_rfl) (by kernel_rfl) (by kernel_rfl) (fun _ _ _ h => h) (Or.inl ⟨by rfl, ?_⟩) (by assumption) ?_
        rotate_left
        · (intro w1 hSw; obtain ⟨x1, rfl⟩ := hSw; go_simp; (try with_reducible rfl))
        (try simp only [Act.put, List.setIfInBounds_toArray, List.set_cons_zero, List.set_cons_succ])
        refine wpAnyH_take (i := 20) (v := ?_) (held_at rfl) (by kernel_rfl) (by kernel_rfl) (by kernel_rfl) (fun _ _ _ h => h) (Or.inl ⟨by rfl, ?_⟩) (by assumption) ?_
        rotate_left
        · (intro w1 hSw; obtain ⟨x1, rfl⟩ := hSw; go_simp; (try with_reducible rfl))
        (try simp only [Act.put, List.setIfInBounds_toArray, List.set_cons_zero, List.set_cons_succ])
        refine wpAnyH_take (i := 21) (v := ?_) (held_at rfl) (by kernel_rfl) (by kernel_rfl) (by kernel_rfl) (fun _ _ _ h => h) (Or.inl ⟨by rfl, ?_⟩) (by assumption) ?_
        rotate_left
        · (intro w1 hSw; obtain ⟨x1, rfl⟩ := hSw; go_simp; (try with_reducible rfl))
        (try simp only [Act.put, List.setIfInBounds_toArray, List.set_cons_zero, List.set_cons_succ])
        refine wpAnyH_take (i := 22) (v := ?_) (held_at rfl) (by kernel_rfl) (by kernel_rfl) (by kernel_rfl) (fun _ _ _ h => h) (Or.inl ⟨by rfl, ?_⟩) (by assumption) ?_
        rotate_left
        · (intro w1 hSw; obtain ⟨x1, rfl⟩ := hSw; go_simp; (try with_reducible rfl))
        (try simp only [Act.put, List.setIfInBounds_toArray, List.set_cons_zero, List.set_cons_succ])
        refine wpAnyH_take (i := 23) (v := ?_) (held_at rfl) (by kernel_rfl) (by kernel_rfl) (by kernel_rfl) (fun _ _ _ h => h) (Or.inl ⟨by rfl, ?_⟩) (by assumption) ?_
        rotate_left
        · (intro w1 hSw; obtain ⟨x1, rfl⟩ := hSw; go_simp; (try with_reducible rfl))
        (try simp only [Act.put, List.setIfInBounds_toArray, List.set_cons_zero, List.set_cons_succ])
        refine wpAnyH_take (i := 24) (v := ?_) (held_at rfl) (by kernel_rfl) (by kernel_rfl) (by kernel_rfl) (fun _ _ _ h => h) (Or.inl ⟨by rfl, ?_⟩) (by assumption) ?_
        rotate_left
        · (intro w1 hSw; obtain ⟨x1, rfl⟩ := hSw; go_simp; (try with_reducible rfl))
        (try simp only [Act.put, List.setIfInBounds_toArray, List.set_cons_zero, List.set_cons_succ])
        refine wpAnyH_take (i := 25) (v := ?_) (held_at rfl) (by kernel_rfl) (by kernel_rfl) (by kernel_rfl) (fun _ _ _ h => h) (Or.inl ⟨by rfl, ?_⟩) (by assumption) ?_
        rotate_left
        · (intro w1 hSw; obtain ⟨x1, rfl⟩ := hSw; go_simp; (try with_reducible rfl))
        (try simp only [Act.put, List.setIfInBounds_toArray, List.set_cons_zero, List.set_cons_succ])
        refine wpAnyH_take (i := 26) (v := ?_) (held_at rfl) (by kernel_rfl) (by kernel_rfl) (by kernel_rfl) (fun _ _ _ h => h) (Or.inl ⟨by rfl, ?_⟩) (by assumption) ?_
        rotate_left
        · (intro w1 hSw; obtain ⟨x1, rfl⟩ := hSw; go_simp; (try with_reducible rfl))
        (try simp only [Act.put, List.setIfInBounds_toArray, List.set_cons_zero, List.set_cons_succ])
        refine wpAnyH_take (i := 27) (v := ?_) (held_at rfl) (by kernel_rfl) (by kernel_rfl) (by kernel_rfl) (fun _ _ _ h => h) (Or.inl ⟨by rfl, ?_⟩) (by assumption) ?_
        rotate_left
        · (intro w1 hSw; obtain ⟨x1, rfl⟩ := hSw; go_simp; (try with_reducible rfl))
        (try simp only [Act.put, List.setIfInBounds_toArray, List.set_cons_zero, List.set_cons_succ])
        refine wpAnyH_take (i := 28) (v := ?_) (held_at rfl) (by kernel_rfl) (by kernel_rfl) (by kernel_rfl) (fun _ _ _ h => h) (Or.inl ⟨by rfl, ?_⟩) (by assumption) ?_
        rotate_left
        · (intro w1 hSw; obtain ⟨x1, rfl⟩ := hSw; go_simp; (try with_reducible rfl))
        (try simp only [Act.put, List.setIfInBounds_toArray, List.set_cons_zero, List.set_cons_succ])
        refine wpAnyH_take (i := 29) (v := ?_) (held_at rfl) (by kernel_rfl) (by kernel_rfl) (by kernel_rfl) (fun _ _ _ h => h) (Or.inl ⟨by rfl, ?_⟩) (by assumption) ?_
        rotate_left
        · (intro w1 hSw; obtain ⟨x1, rfl⟩ := hSw; go_simp; (try with_reducible rfl))
        (try simp only [Act.put, List.setIfInBounds_toArray, List.set_cons_zero, List.set_cons_succ])
        refine wpAnyH_take (i := 30) (v := ?_) (held_at rfl) (by kernel_rfl) (by kernel_rfl) (by kernel_rfl) (fun _ _ _ h => h) (Or.inl ⟨by rfl, ?_⟩) (by assumption) ?_
        rotate_left
        · (intro w1 hSw; obtain ⟨x1, rfl⟩ := hSw; go_simp; (try with_reducible rfl))
        (try simp only [Act.put, List.setIfInBounds_toArray, List.set_cons_zero, List.set_cons_succ])
        refine wpAnyH_take (i := 32) (v := ?_) (held_at rfl) (by kernel_rfl) (by kernel_rfl) (by kernel_rfl) (fun _ _ _ h => h) (Or.inl ⟨by rfl, ?_⟩) (by assumption) ?_
        rotate_left
        · (intro w1 hSw; obtain ⟨x1, rfl⟩ := hSw; go_simp; (try with_reducible rfl))
        (try simp only [Act.put, List.setIfInBounds_toArray, List.set_cons_zero, List.set_cons_succ])
        refine wpAnyH_take (i := 33) (v := ?_) (held_at rfl) (by kernel_rfl) (by kernel_rfl) (by kernel_rfl) (fun _ _ _ h => h) (Or.inl ⟨by rfl, ?_⟩) (by assumption) ?_
        rotate_left
        · (intro w1 hSw; obtain ⟨x1, rfl⟩ := hSw; go_simp; (try with_reducible rfl))
        (try simp only [Act.put, List.setIfInBounds_toArray, List.set_cons_zero, List.set_cons_succ])
        refine wpAnyH_take (i := 35) (v := ?_) (held_at rfl) (by kernel_rfl) (by kernel_rfl) (by kernel_rfl) (fun _ _ _ h => h) (Or.inl ⟨by rfl, ?_⟩) (by assumption) ?_
        rotate_left
        · (intro w1 hSw; obtain ⟨x1, rfl⟩ := hSw; go_simp; (try with_reducible rfl))
        (try simp only [Act.put, List.setIfInBounds_toArray, List.set_cons_zero, List.set_cons_succ])
        refine wpAnyH_take (i := 36) (v := ?_) (held_at rfl) (by kernel_rfl) (by kernel_rfl) (by kernel_rfl) (fun _ _ _ h => h) (Or.inl ⟨by rfl, ?_⟩) (by assumption) ?_
        rotate_left
        · (intro w1 hSw; obtain ⟨x1, rfl⟩ := hSw; go_simp; (try with_reducible rfl))
        (try simp only [Act.put, List.setIfInBounds_toArray, List.set_cons_zero, List.set_cons_succ])
        refine wpAnyH_take (i := 38) (v := ?_) (held_at rfl) (by kernel_rfl) (by kernel_rfl) (by kernel_rfl) (fun _ _ _ h => h) (Or.inl ⟨by rfl, ?_⟩) (by assumption) ?_
        rotate_left
        · (intro w1 hSw; obtain ⟨x1, rfl⟩ := hSw; go_simp; (try with_reducible rfl))
        (try simp only [Act.put, List.setIfInBounds_toArray, List.set_cons_zero, List.set_cons_succ])
        refine wpAnyH_take (i := 39) (v := ?_) (held_at rfl) (by kernel_rfl) (by kernel_rfl) (by kernel_rfl) (fun _ _ _ h => h) (Or.inl ⟨by rfl, ?_⟩) (by assumption) ?_
        rotate_left
        · (intro w1 hSw; obtain ⟨x1, rfl⟩ := hSw; go_simp; (try with_reducible rfl))
        (try simp only [Act.put, List.setIfInBounds_toArray, List.set_cons_zero, List.set_cons_succ])
        refine wpAnyH_ready (rs := [31]) (by kernel_rfl) (by simp) ?_
        refine AllReadyH.cons (held_at rfl) (fun K hK => ?_) AllReadyH.nil
        go_simp
        refine (q3 _).mono ?_
        rintro e w' ⟨rfl, hc'⟩
        obtain ⟨y, rfl⟩ := Wd.next hc'
        clear hc'
        refine hK.out _ _ (InWd.start y) (fun hS => ?_)
        clear hK K
        (try simp only [Act.put, List.setIfInBounds_toArray, List.set_cons_zero, List.set_cons_succ])
        refine wpAnyH_ready (rs := [34]) (by kernel_rfl) (by simp) ?_
        refine AllReadyH.cons (held_at rfl) (fun K hK => ?_) AllReadyH.nil
        go_simp
        refine (q4 _).mono ?_
        rintro e w' ⟨rfl, hc'⟩
        obtain ⟨y, rfl⟩ := Wd.next hc'
        clear hc'
        refine hK.out _ _ (InWd.start y) (fun hS => ?_)
        clear hK K
        (try simp only [Act.put, List.setIfInBounds_toArray, List.set_cons_zero, List.set_cons_succ])
        refine wpAnyH_ready (rs := [37]) (by kernel_rfl) (by simp) ?_
        refine AllReadyH.cons (held_at rfl) (fun K hK => ?_) AllReadyH.nil
        go_simp
        refine (q5 _).mono ?_
        rintro e w' ⟨rfl, hc'⟩
        obtain ⟨y, rfl⟩ := Wd.next hc'
        clear hc'
        refine hK.out _ _ (InWd.start y) (fun hS => ?_)
        clear hK K
        (try simp only [Act.put, List.setIfInBounds_toArray, List.set_cons_zero, List.set_cons_succ])
        refine wpAnyH_ready (rs := [40]) (by kernel_rfl) (by simp) ?_
        refine AllReadyH.cons (held_at rfl) (fun K hK => ?_) AllReadyH.nil
        go_simp
        refine (q6 _).mono ?_
        rintro e w' ⟨rfl, hc'⟩
        obtain ⟨y, rfl⟩ := Wd.next hc'
        clear hc'
        refine hK.out _ _ (InWd.start y) (fun hS => ?_)
        clear hK K
        (try simp only [Act.put, List.setIfInBounds_toArray, List.set_cons_zero, List.set_cons_succ])
        refine wpAnyH_ready (rs := [41]) (by kernel_rfl) (by simp) ?_
        refine AllReadyH.cons (held_at rfl) (fun K hK => ?_) AllReadyH.nil
        go_simp
        obtain ⟨z, hz⟩ := Wd.next ((Chg.refl No y.w).alloc (.cells #[.int .i64 e0, .int .i64 e1, .int .i64 e2, .int .i64 e3] 54))
        have q9 := p9 y
        rw [← hz] at q9 ⊢
        clear hz
        refine hK.out _ _ (InWd.start z) (fun hS => ?_)
        clear hK K
        (try simp only [Act.put, List.setIfInBounds_toArray, List.set_cons_zero, List.set_cons_succ])
        refine wpAnyH_ready (rs := [42]) (by kernel_rfl) (by simp) ?_
        refine AllReadyH.cons (held_at rfl) (fun K hK => ?_) AllReadyH.nil
        go_simp
        refine (q9).mono ?_
        rintro e w' ⟨rfl, hc'⟩
        obtain ⟨y, rfl⟩ := Wd.next hc'
        clear hc'
        refine hK.out _ _ (InWd.start y) (fun hS => ?_)
        clear hK K
        (try simp only [Act.put, List.setIfInBounds_toArray, List.set_cons_zero, List.set_cons_succ])
        refine wpAnyH_take (i := 43) (v := ?_) (held_at rfl) (by kernel_rfl) (by kernel_rfl) (by kernel_rfl) (fun _ _ _ h => h) (Or.inl ⟨by rfl, ?_⟩) (by assumption) ?_
        rotate_left
        · (intro w1 hSw; obtain ⟨x1, rfl⟩ := hSw; go_simp; (try with_reducible rfl))
        (try simp only [Act.put, List.setIfInBounds_toArray, List.set_cons_zero, List.set_cons_succ])
        refine wpAnyH_take (i := 44) (v := ?_) (held_at rfl) (by kernel_rfl) (by kernel_rfl) (by kernel_rfl) (fun _ _ _ h => h) (Or.inl ⟨by rfl, ?_⟩) (by assumption) ?_
        rotate_left
        · (intro w1 hSw; obtain ⟨x1, rfl⟩ := hSw; go_simp; (try with_reducible rfl))
        (try simp only [Act.put, List.setIfInBounds_toArray, List.set_cons_zero, List.set_cons_succ])
        cases b4 with
        | false =>
          refine wpAnyH_take (i := 45) (v := undef) (held_at rfl) (by kernel_rfl) (by kernel_rfl) (by kernel_rfl) (fun _ _ _ h => h) (Or.inr ⟨by rfl, rfl⟩) (by assumption) ?_
          (try simp only [Act.put, List.setIfInBounds_toArray, List.set_cons_zero, List.set_cons_succ])
          refine wpAnyH_take (i := 46) (v := undef) (held_at rfl) (by kernel_rfl) (by kernel_rfl) (by kernel_rfl) (fun _ _ _ h => h) (Or.inr ⟨by rfl, rfl⟩) (by assumption) ?_
          (try simp only [Act.put, List.setIfInBounds_toArray, List.set_cons_zero, List.set_cons_succ])
          refine wpAnyH_take (i := 47) (v := undef) (held_at rfl) (by kernel_rfl) (by kernel_rfl) (by kernel_rfl) (fun _ _ _ h => h) (Or.inr ⟨by rfl, rfl⟩) (by assumption) ?_
          (try simp only [Act.put, List.setIfInBounds_toArray, List.set_cons_zero, List.set_cons_succ])
          refine wpAnyH_take (i := 48) (v := ?_) (held_at rfl) (by kernel_rfl) (by kernel_rfl) (by kernel_rfl) (fun _ _ _ h => h) (Or.inl ⟨by rfl, ?_⟩) (by assumption) ?_
          rotate_left
          · (intro w1 hSw; obtain ⟨x1, rfl⟩ := hSw; go_simp; (try with_reducible rfl))
          (try simp only [Act.put, List.setIfInBounds_toArray, List.set_cons_zero, List.set_cons_succ])
          refine wpAnyH_take (i := 49) (v := ?_) (held_at rfl) (by kernel_rfl) (by kernel_rfl) (by kernel_rfl) (fun _ _ _ h => h) (Or.inl ⟨by rfl, ?_⟩) (by assumption) ?_
          rotate_left
          · (intro w1 hSw; obtain ⟨x1, rfl⟩ := hSw; go_simp; (try with_reducible rfl))
          (try simp only [Act.put, List.setIfInBounds_toArray, List.set_cons_zero, List.set_cons_succ])
          refine wpAnyH_take (i := 50) (v := undef) (held_at rfl) (by kernel_rfl) (by kernel_rfl) (by kernel_rfl) (fun _ _ _ h => h) (Or.inr ⟨by rfl, rfl⟩) (by assumption) ?_
          (try simp only [Act.put, List.setIfInBounds_toArray, List.set_cons_zero, List.set_cons_succ])
          refine wpAnyH_take (i := 51) (v := undef) (held_at rfl) (by kernel_rfl) (by kernel_rfl) (by kernel_rfl) (fun _ _ _ h => h) (Or.inr ⟨by rfl, rfl⟩) (by assumption) ?_
          (try simp only [Act.put, List.setIfInBounds_toArray, List.set_cons_zero, List.set_cons_succ])
          refine wpAnyH_take (i := 52) (v := undef) (held_at rfl) (by kernel_rfl) (by kernel_rfl) (by kernel_rfl) (fun _ _ _ h => h) (Or.inr ⟨by rfl, rfl⟩) (by assumption) ?_
          (try simp only [Act.put, List.setIfInBounds_toArray, List.set_cons_zero, List.set_cons_succ])
          refine wpAnyH_take (i := 53) (v := ?_) (held_at rfl) (by kernel_rfl) (by kernel_rfl) (by kernel_rfl) (fun _ _ _ h => h) (Or.inl ⟨by rfl, ?_⟩) (by assumption) ?_
          rotate_left
          · (intro w1 hSw; obtain ⟨x1, rfl⟩ := hSw; go_simp; (try with_reducible rfl))
          (try simp only [Act.put, List.setIfInBounds_toArray, List.set_cons_zero, List.set_cons_succ])
          refine wpAnyH_take (i := 54) (v := ?_) (held_at rfl) (by kernel_rfl) (by kernel_rfl) (by kernel_rfl) (fun _ _ _ h => h) (Or.inl ⟨by rfl, ?_⟩) (by assumption) ?_
          rotate_left
          · (intro w1 hSw; obtain ⟨x1, rfl⟩ := hSw; go_simp; (try with_reducible rfl))
          (try simp only [Act.put, List.setIfInBounds_toArray, List.set_cons_zero, List.set_cons_succ])
          refine wpAnyH_done (by kernel_rfl) ?_ _
          go_wp2_with fail
          go_ret
          refine ⟨?_, hcw.trans (Wd.chg _)⟩
          have hbb := HB4.out
          rw [HR.out]
          rw [hbb]
          first | (simp_all; done) | (simp_all <;> (intros; omega))
        | true =>
          refine wpAnyH_take (i := 45) (v := ?_) (held_at rfl) (by kernel_rfl) (by kernel_rfl) (by kernel_rfl) (fun _ _ _ h => h) (Or.inl ⟨by rfl, ?_⟩) (by assumption) ?_
          rotate_left
          · (intro w1 hSw; obtain ⟨x1, rfl⟩ := hSw; go_simp; (try with_reducible rfl))
          (try simp only [Act.put, List.setIfInBounds_toArray, List.set_cons_zero, List.set_cons_succ])
          refine wpAnyH_take (i := 46) (v := ?_) (held_at rfl) (by kernel_rfl) (by kernel_rfl) (by kernel_rfl) (fun _ _ _ h => h) (Or.inl ⟨by rfl, ?_⟩) (by assumption) ?_
          rotate_left
          · (intro w1 hSw; obtain ⟨x1, rfl⟩ := hSw; go_simp; (try with_reducible rfl))
          (try simp only [Act.put, List.setIfInBounds_toArray, List.set_cons_zero, List.set_cons_succ])
          refine wpAnyH_ready (rs := [47]) (by kernel_rfl) (by simp) ?_
          refine AllReadyH.cons (held_at rfl) (fun K hK => ?_) AllReadyH.nil
          go_simp
          refine (q7 _).mono ?_
          rintro e w' ⟨rfl, hc'⟩
          obtain ⟨y, rfl⟩ := Wd.next hc'
          clear hc'
          refine hK.out _ _ (InWd.start y) (fun hS => ?_)
          clear hK K
          (try simp only [Act.put, List.setIfInBounds_toArray, List.set_cons_zero, List.set_cons_succ])
          refine wpAnyH_take (i := 48) (v := ?_) (held_at rfl) (by kernel_rfl) (by kernel_rfl) (by kernel_rfl) (fun _ _ _ h => h) (Or.inl ⟨by rfl, ?_⟩) (by assumption) ?_
          rotate_left
          · (intro w1 hSw; obtain ⟨x1, rfl⟩ := hSw; go_simp; (try with_reducible rfl))
          (try simp only [Act.put, List.setIfInBounds_toArray, List.set_cons_zero, List.set_cons_succ])
          refine wpAnyH_take (i := 49) (v := ?_) (held_at rfl) (by kernel_rfl) (by kernel_rfl) (by kernel_rfl) (fun _ _ _ h => h) (Or.inl ⟨by rfl, ?_⟩) (by assumption) ?_
          rotate_left
          · (intro w1 hSw; obtain ⟨x1, rfl⟩ := hSw; go_simp; (try with_reducible rfl))
          (try simp only [Act.put, List.setIfInBounds_toArray, List.set_cons_zero, List.set_cons_succ])
          cases n1 with
          | false =>
            refine wpAnyH_take (i := 50) (v := undef) (held_at rfl) (by kernel_rfl) (by kernel_rfl) (by kernel_rfl) (fun _ _ _ h => h) (Or.inr ⟨by rfl, rfl⟩) (by assumption) ?_
            (try simp only [Act.put, List.setIfInBounds_toArray, List.set_cons_zero, List.set_cons_succ])
            refine wpAnyH_take (i := 51) (v := undef) (held_at rfl) (by kernel_rfl) (by kernel_rfl) (by kernel_rfl) (fun _ _ _ h => h) (Or.inr ⟨by rfl, rfl⟩) (by assumption) ?_
            (try simp only [Act.put, List.setIfInBounds_toArray, List.set_cons_zero, List.set_cons_succ])
            refine wpAnyH_take (i := 52) (v := undef) (held_at rfl) (by kernel_rfl) (by kernel_rfl) (by kernel_rfl) (fun _ _ _ h => h) (Or.inr ⟨by rfl, rfl⟩) (by assumption) ?_
            (try simp only [Act.put, List.setIfInBounds_toArray, List.set_cons_zero, List.set_cons_succ])
            refine wpAnyH_take (i := 53) (v := ?_) (held_at rfl) (by kernel_rfl) (by kernel_rfl) (by kernel_rfl) (fun _ _ _ h => h) (Or.inl ⟨by rfl, ?_⟩) (by assumption) ?_
            rotate_left
            · (intro w1 hSw; obtain ⟨x1, rfl⟩ := hSw; go_simp; (try with_reducible rfl))
            (try simp only [Act.put, List.setIfInBounds_toArray, List.set_cons_zero, List.set_cons_succ])
            refine wpAnyH_take (i := 54) (v := ?_) (held_at rfl) (by kernel_rfl) (by kernel_rfl) (by kernel_rfl) (fun _ _ _ h => h) (Or.inl ⟨by rfl, ?_⟩) (by assumption) ?_
            rotate_left
            · (intro w1 hSw; obtain ⟨x1, rfl⟩ := hSw; go_simp; (try with_reducible rfl))
            (try simp only [Act.put, List.setIfInBounds_toArray, List.set_cons_zero, List.set_cons_succ])
            refine wpAnyH_done (by kernel_rfl) ?_ _
            go_wp2_with fail
            go_ret
            refine ⟨?_, hcw.trans (Wd.chg _)⟩
            have hbb := HB4.out
            rw [HR.out]
            rw [hbb]
            first | (simp_all; done) | (simp_all <;> (intros; omega))
          | true =>
            refine wpAnyH_take (i := 50) (v := ?_) (held_at rfl) (by kernel_rfl) (by kernel_rfl) (by kernel_rfl) (fun _ _ _ h => h) (Or.inl ⟨by rfl, ?_⟩) (by assumption) ?_
            rotate_left
            · (intro w1 hSw; obtain ⟨x1, rfl⟩ := hSw; go_simp; (try with_reducible rfl))
            (try simp only [Act.put, List.setIfInBounds_toArray, List.set_cons_zero, List.set_cons_succ])
            refine wpAnyH_take (i := 51) (v := ?_) (held_at rfl) (by kernel_rfl) (by kernel_rfl) (by kernel_rfl) (fun _ _ _ h => h) (Or.inl ⟨by rfl, ?_⟩) (by assumption) ?_
            rotate_left
            · (intro w1 hSw; obtain ⟨x1, rfl⟩ := hSw; go_simp; (try with_reducible rfl))
            (try simp only [Act.put, List.setIfInBounds_toArray, List.set_cons_zero, List.set_cons_succ])
            refine wpAnyH_ready (rs := [52]) (by kernel_rfl) (by simp) ?_
            refine AllReadyH.cons (held_at rfl) (fun K hK => ?_) AllReadyH.nil
            go_simp
            refine (q8 _).mono ?_
            rintro e w' ⟨rfl, hc'⟩
            obtain ⟨y, rfl⟩ := Wd.next hc'
            clear hc'
            refine hK.out _ _ (InWd.start y) (fun hS => ?_)
            clear hK K
            (try simp only [Act.put, List.setIfInBounds_toArray, List.set_cons_zero, List.set_cons_succ])
            refine wpAnyH_take (i := 53) (v := ?_) (held_at rfl) (by kernel_rfl) (by kernel_rfl) (by kernel_rfl) (fun _ _ _ h => h) (Or.inl ⟨by rfl, ?_⟩) (by assumption) ?_
            rotate_left
            · (intro w1 hSw; obtain ⟨x1, rfl⟩ := hSw; go_simp; (try with_reducible rfl))
            (try simp only [Act.put, List.setIfInBounds_toArray, List.set_cons_zero, List.set_cons_succ])
            refine wpAnyH_take (i := 54) (v := ?_) (held_at rfl) (by kernel_rfl) (by kernel_rfl) (by kernel_rfl) (fun _ _ _ h => h) (Or.inl ⟨by rfl, ?_⟩) (by assumption) ?_
            rotate_left
            · (intro w1 hSw; obtain ⟨x1, rfl⟩ := hSw; go_simp; (try with_reducible rfl))
            (try simp only [Act.put, List.setIfInBounds_toArray, List.set_cons_zero, List.set_cons_succ])
            refine wpAnyH_done (by kernel_rfl) ?_ _
            go_wp2_with fail
            go_ret
            refine ⟨?_, hcw.trans (Wd.chg _)⟩
            have hbb := HB4.out
            rw [HR.out]
            rw [hbb]
            first | (simp_all; done) | (simp_all <;> (intros; omega))
  | false =>
    rcases onWay s x with ⟨he, hb⟩ | ⟨he, hi, hb⟩ | ⟨he, k, hk, hi, l, hl, hb⟩
    · skip
      unfold podB ownOk restB at hr
      rw [hb, heo] at hr
      have heo' := toList_of heo
      have he' := toList_of he
      clear hb
      go_enter Tryz.func136, Tryz.ntmps136
      go_wp2_with fail
      generalize (w.alloc _).alloc _ = W at hcw hA hR hxn hN ⊢
      generalize w.heap.size = B at hA hR ⊢
      have q1 : ∀ y : Wd No W, Gives 94 _ y.w (.int .i64 (ownerIdx s x.owner)) := fun y => snapOwner_any ((h.no hcw).no y.chg) x.owner
      have q2 : ∀ y : Wd No W, Gives 149 _ y.w (.int .i64 (nodeIdx s x.on)) := fun y => snapNode_any ((h.no hcw).no y.chg) x.on
      have q3 := fun y : Wd No W => vecCheck_any (x.req 0) (x.req 1) (x.req 2) (x.req 3) (x.req 4) y.w
      have q4 := fun y : Wd No W => labCheck_any ((hp.2.1.no hcw).no y.chg)
      have q5 := fun y : Wd No W => terms_any ((hp.2.2.1.no hcw).no y.chg)
      have q6 := fun y : Wd No W => labCheckBears_any ((hp.2.2.2.1.no hcw).no y.chg)
      have q7 := fun y : Wd No W => near_any hp.1.2.2.2.1 ((hp.2.2.2.2.1.no hcw).no y.chg)
      have q8 := fun y : Wd No W => near_any hp.1.2.2.2.2 ((hp.2.2.2.2.2.no hcw).no y.chg)
      unfold Gives at q1 q2 q3 q4 q5 q6 q7 q8
      unfold vecV at q3
      dsimp only at q4 q5 q6 q7 q8
      generalize nodeIdx s x.on = ix at *
      generalize ownerIdx s x.owner = io at *
      generalize vecE (x.req 0) (x.req 1) (x.req 2) (x.req 3) (x.req 4) = e0 at *
      generalize labsE false x.labels = e1 at *
      generalize termsE x.where_ = e2 at *
      generalize labsE true x.bears = e3 at *
      generalize nearB x.wTopo x.wTerms = n1 at *
      generalize nearB x.aTopo x.aTerms = n2 at *
      have HR := Go.Lib.hid hr
      clear hr
      have sa0 := fun y : Wd No W => y.chg.cell (cell_of_heap (j := 0) hA rfl) id
      have sa1 := fun y : Wd No W => y.chg.cell (cell_of_heap (j := 1) hA rfl) id
      have sa2 := fun y : Wd No W => y.chg.cell (cell_of_heap (j := 2) hA rfl) id
      have r1 := fun y : Wd No W => y.chg.cell (cell_of_heap (j := 1) hR rfl) id
      have r2 := fun y : Wd No W => y.chg.cell (cell_of_heap (j := 2) hR rfl) id
      have r3 := fun y : Wd No W => y.chg.cell (cell_of_heap (j := 3) hR rfl) id
      have r4 := fun y : Wd No W => y.chg.cell (cell_of_heap (j := 4) hR rfl) id
      have r5 := fun y : Wd No W => y.chg.cell (cell_of_heap (j := 5) hR rfl) id
      have r6 := fun y : Wd No W => y.chg.cell (cell_of_heap (j := 6) hR rfl) id
      have r7 := fun y : Wd No W => y.chg.cell (cell_of_heap (j := 7) hR rfl) id
      have r8 := fun y : Wd No W => y.chg.cell (cell_of_heap (j := 8) hR rfl) id
      have r9 := fun y : Wd No W => y.chg.cell (cell_of_heap (j := 9) hR rfl) id
      have r10 := fun y : Wd No W => y.chg.cell (cell_of_heap (j := 10) hR rfl) id
      have r11 := fun y : Wd No W => y.chg.cell (cell_of_heap (j := 11) hR rfl) id
      have r12 := fun y : Wd No W => y.chg.cell (cell_of_heap (j := 12) hR rfl) id
      have r13 := fun y : Wd No W => y.chg.cell (cell_of_heap (j := 13) hR rfl) id
      have r14 := fun y : Wd No W => y.chg.cell (cell_of_heap (j := 14) hR rfl) id
      clear hA hR hxn hN h hp
      obtain ⟨x0, hx0⟩ := Wd.start No W
      rw [← hx0]
      clear hx0
      refine (q2 _).mono ?_
      rintro e w' ⟨rfl, hc'⟩
      obtain ⟨y, rfl⟩ := Wd.next hc'
      clear hc' x0
      go_wp2_with fail
      by_cases h0 : 0 ≤ io
      · skip
        have p9 := fun y : Wd No W => fine4_any e0 e1 e2 e3 y.w
        unfold Gives at p9
        generalize hb4 : (decide (e0 = 0) && decide (e1 = 0) && decide (e2 = 0) && decide (e3 = 0)) = b4 at p9
        have HB4 := Go.Lib.hid hb4
        clear hb4
        refine wp_region_held_drew (S := InWd No W) (by kernel_rfl) (InWd.drew' y) (fun hS => ?_)
        obtain ⟨y', hy⟩ := hS
        rw [← hy]
        have hS := InWd.start y'
        clear hy y
        refine wpAnyH_take (i := 0) (v := ?_) (held_at rfl) (by kernel_rfl) (by kernel_rfl) (by kernel_rfl) (fun _ _ _ h => h) (Or.inl ⟨by rfl, ?_⟩) (by assumption) ?_
        rotate_left
        · (intro w1 hSw; obtain ⟨x1, rfl⟩ := hSw; go_simp; (try with_reducible rfl))
        (try simp only [Act.put, List.setIfInBounds_toArray, List.set_cons_zero, List.set_cons_succ])
        refine wpAnyH_take (i := 1) (v := ?_) (held_at rfl) (by kernel_rfl) (by kernel_rfl) (by kernel_rfl) (fun _ _ _ h => h) (Or.inl ⟨by rfl, ?_⟩) (by assumption) ?_
        rotate_left
        · (intro w1 hSw; obtain ⟨x1, rfl⟩ := hSw; go_simp; (try with_reducible rfl))
        (try simp only [Act.put, List.setIfInBounds_toArray, List.set_cons_zero, List.set_cons_succ])
        refine wpAnyH_take (i := 2) (v := ?_) (held_at rfl) (by kernel_rfl) (by kernel_rfl) (by kernel_rfl) (fun _ _ _ h => h) (Or.inl ⟨by rfl, ?_⟩) (by assumption) ?_
        rotate_left
        · (intro w1 hSw; obtain ⟨x1, rfl⟩ := hSw; go_simp; (try with_reducible rfl))
        (try simp only [Act.put, List.setIfInBounds_toArray, List.set_cons_zero, List.set_cons_succ])
        refine wpAnyH_take (i := 3) (v := ?_) (held_at rfl) (by kernel_rfl) (by kernel_rfl) (by kernel_rfl) (fun _ _ _ h => h) (Or.inl ⟨by rfl, ?_⟩) (by assumption) ?_
        rotate_left
        · (intro w1 hSw; obtain ⟨x1, rfl⟩ := hSw; go_simp; (try with_reducible rfl))
        (try simp only [Act.put, List.setIfInBounds_toArray, List.set_cons_zero, List.set_cons_succ])
        refine wpAnyH_take (i := 4) (v := ?_) (held_at rfl) (by kernel_rfl) (by kernel_rfl) (by kernel_rfl) (fun _ _ _ h => h) (Or.inl ⟨by rfl, ?_⟩) (by assumption) ?_
        rotate_left
        · (intro w1 hSw; obtain ⟨x1, rfl⟩ := hSw; go_simp; (try with_reducible rfl))
        (try simp only [Act.put, List.setIfInBounds_toArray, List.set_cons_zero, List.set_cons_succ])
        refine wpAnyH_take (i := 5) (v := ?_) (held_at rfl) (by kernel_rfl) (by kernel_rfl) (by kernel_rfl) (fun _ _ _ h => h) (Or.inl ⟨by rfl, ?_⟩) (by assumption) ?_
        rotate_left
        · (intro w1 hSw; obtain ⟨x1, rfl⟩ := hSw; go_simp; (try with_reducible rfl))
        (try simp only [Act.put, List.setIfInBounds_toArray, List.set_cons_zero, List.set_cons_succ])
        refine wpAnyH_take (i := 6) (v := ?_) (held_at rfl) (by kernel_rfl) (by kernel_rfl) (by kernel_rfl) (fun _ _ _ h => h) (Or.inl ⟨by rfl, ?_⟩) (by assumption) ?_
        rotate_left
        · (intro w1 hSw; obtain ⟨x1, rfl⟩ := hSw; go_simp; (try with_reducible rfl))
        (try simp only [Act.put, List.setIfInBounds_toArray, List.set_cons_zero, List.set_cons_succ])
        refine wpAnyH_ready (rs := [7]) (by kernel_rfl) (by simp) ?_
        refine AllReadyH.cons (held_at rfl) (fun K hK => ?_) AllReadyH.nil
        go_simp
        refine (q1 _).mono ?_
        rintro e w' ⟨rfl, hc'⟩
        obtain ⟨y, rfl⟩ := Wd.next hc'
        clear hc'
        refine hK.out _ _ (InWd.start y) (fun hS => ?_)
        clear hK K
        (try simp only [Act.put, List.setIfInBounds_toArray, List.set_cons_zero, List.set_cons_succ])
        refine wpAnyH_take (i := 8) (v := ?_) (held_at rfl) (by kernel_rfl) (by kernel_rfl) (by kernel_rfl) (fun _ _ _ h => h) (Or.inl ⟨by rfl, ?_⟩) (by assumption) ?_
        rotate_left
        · (intro w1 hSw; obtain ⟨x1, rfl⟩ := hSw; go_simp; (try with_reducible rfl))
        (try simp only [Act.put, List.setIfInBounds_toArray, List.set_cons_zero, List.set_cons_succ])
        refine wpAnyH_take (i := 9) (v := ?_) (held_at rfl) (by kernel_rfl) (by kernel_rfl) (by kernel_rfl) (fun _ _ _ h => h) (Or.inl ⟨by rfl, ?_⟩) (by assumption) ?_
        rotate_left
        · (intro w1 hSw; obtain ⟨x1, rfl⟩ := hSw; go_simp; (try with_reducible rfl))
        (try simp only [Act.put, List.setIfInBounds_toArray, List.set_cons_zero, List.set_cons_succ])
        refine wpAnyH_take (i := 10) (v := ?_) (held_at rfl) (by kernel_rfl) (by kernel_rfl) (by kernel_rfl) (fun _ _ _ h => h) (Or.inl ⟨by rfl, ?_⟩) (by assumption) ?_
        rotate_left
        · (intro w1 hSw; obtain ⟨x1, rfl⟩ := hSw; go_simp; (try with_reducible rfl))
        (try simp only [Act.put, List.setIfInBounds_toArray, List.set_cons_zero, List.set_cons_succ])
        refine wpAnyH_take (i := 11) (v := ?_) (held_at rfl) (by kernel_rfl) (by kernel_rfl) (by kernel_rfl) (fun _ _ _ h => h) (Or.inl ⟨by rfl, ?_⟩) (by assumption) ?_
        rotate_left
        · (intro w1 hSw; obtain ⟨x1, rfl⟩ := hSw; go_simp; (try with_reducible rfl))
        (try simp only [Act.put, List.setIfInBounds_toArray, List.set_cons_zero, List.set_cons_succ])
        refine wpAnyH_take (i := 12) (v := ?_) (held_at rfl) (by kernel_rfl) (by kernel_rfl) (by kernel_rfl) (fun _ _ _ h => h) (Or.inl ⟨by rfl, ?_⟩) (by assumption) ?_
        rotate_left
        · (intro w1 hSw; obtain ⟨x1, rfl⟩ := hSw; go_simp; (try with_reducible rfl))
        (try simp only [Act.put, List.setIfInBounds_toArray, List.set_cons_zero, List.set_cons_succ])
        refine wpAnyH_take (i := 13) (v := ?_) (held_at rfl) (by kernel_rfl) (by kernel_rfl) (by kernel_rfl) (fun _ _ _ h => h) (Or.inl ⟨by rfl, ?_⟩) (by assumption) ?_
        rotate_left
        · (intro w1 hSw; obtain ⟨x1, rfl⟩ := hSw; go_simp; (try with_reducible rfl))
        (try simp only [Act.put, List.setIfInBounds_toArray, List.set_cons_zero, List.set_cons_succ])
        refine wpAnyH_take (i := 14) (v := ?_) (held_at rfl) (by kernel_rfl) (by kernel_rfl) (by kernel_rfl) (fun _ _ _ h => h) (Or.inl ⟨by rfl, ?_⟩) (by assumption) ?_
        rotate_left
        · (intro w1 hSw; obtain ⟨x1, rfl⟩ := hSw; go_simp; (try with_reducible rfl))
        (try simp only [Act.put, List.setIfInBounds_toArray, List.set_cons_zero, List.set_cons_succ])
        refine wpAnyH_take (i := 15) (v := undef) (held_at rfl) (by kernel_rfl) (by kernel_rfl) (by kernel_rfl) (fun _ _ _ h => h) (Or.inr ⟨by rfl, rfl⟩) (by assumption) ?_
        (try simp only [Act.put, List.setIfInBounds_toArray, List.set_cons_zero, List.set_cons_succ])
        refine wpAnyH_take (i := 16) (v := undef) (held_at rfl) (by kernel_rfl) (by kernel_rfl) (by kernel_rfl) (fun _ _ _ h => h) (Or.inr ⟨by rfl, rfl⟩) (by assumption) ?_
        (try simp only [Act.put, List.setIfInBounds_toArray, List.set_cons_zero, List.set_cons_succ])
        refine wpAnyH_take (i := 17) (v := undef) (held_at rfl) (by kernel_rfl) (by kernel_rfl) (by kernel_rfl) (fun _ _ _ h => h) (Or.inr ⟨by rfl, rfl⟩) (by assumption) ?_
        (try simp only [Act.put, List.setIfInBounds_toArray, List.set_cons_zero, List.set_cons_succ])
        refine wpAnyH_take (i := 18) (v := undef) (held_at rfl) (by kernel_rfl) (by kernel_rfl) (by kernel_rfl) (fun _ _ _ h => h) (Or.inr ⟨by rfl, rfl⟩) (by assumption) ?_
        (try simp only [Act.put, List.setIfInBounds_toArray, List.set_cons_zero, List.set_cons_succ])
        refine wpAnyH_take (i := 19) (v := undef) (held_at rfl) (by kernel_rfl) (by kernel_rfl) (by kernel_rfl) (fun _ _ _ h => h) (Or.inr ⟨by rfl, rfl⟩) (by assumption) ?_
        (try simp only [Act.put, List.setIfInBounds_toArray, List.set_cons_zero, List.set_cons_succ])
        refine wpAnyH_take (i := 20) (v := undef) (held_at rfl) (by kernel_rfl) (by kernel_rfl) (by kernel_rfl) (fun _ _ _ h => h) (Or.inr ⟨by rfl, rfl⟩) (by assumption) ?_
        (try simp only [Act.put, List.setIfInBounds_toArray, List.set_cons_zero, List.set_cons_succ])
        refine wpAnyH_take (i := 21) (v := undef) (held_at rfl) (by kernel_rfl) (by kernel_rfl) (by kernel_rfl) (fun _ _ _ h => h) (Or.inr ⟨by rfl, rfl⟩) (by assumption) ?_
        (try simp only [Act.put, List.setIfInBounds_toArray, List.set_cons_zero, List.set_cons_succ])
        refine wpAnyH_take (i := 22) (v := undef) (held_at rfl) (by kernel_rfl) (by kernel_rfl) (by kernel_rfl) (fun _ _ _ h => h) (Or.inr ⟨by rfl, rfl⟩) (by assumption) ?_
        (try simp only [Act.put, List.setIfInBounds_toArray, List.set_cons_zero, List.set_cons_succ])
        refine wpAnyH_take (i := 23) (v := undef) (held_at rfl) (by kernel_rfl) (by kernel_rfl) (by kernel_rfl) (fun _ _ _ h => h) (Or.inr ⟨by rfl, rfl⟩) (by assumption) ?_
        (try simp only [Act.put, List.setIfInBounds_toArray, List.set_cons_zero, List.set_cons_succ])
        refine wpAnyH_take (i := 24) (v := undef) (held_at rfl) (by kernel_rfl) (by kernel_rfl) (by kernel_rfl) (fun _ _ _ h => h) (Or.inr ⟨by rfl, rfl⟩) (by assumption) ?_
        (try simp only [Act.put, List.setIfInBounds_toArray, List.set_cons_zero, List.set_cons_succ])
        refine wpAnyH_take (i := 25) (v := undef) (held_at rfl) (by kernel_rfl) (by kernel_rfl) (by kernel_rfl) (fun _ _ _ h => h) (Or.inr ⟨by rfl, rfl⟩) (by assumption) ?_
        (try simp only [Act.put, List.setIfInBounds_toArray, List.set_cons_zero, List.set_cons_succ])
        refine wpAnyH_take (i := 26) (v := ?_) (held_at rfl) (by kernel_rfl) (by kernel_rfl) (by kernel_rfl) (fun _ _ _ h => h) (Or.inl ⟨by rfl, ?_⟩) (by assumption) ?_
        rotate_left
        · (intro w1 hSw; obtain ⟨x1, rfl⟩ := hSw; go_simp; (try with_reducible rfl))
        (try simp only [Act.put, List.setIfInBounds_toArray, List.set_cons_zero, List.set_cons_succ])
        refine wpAnyH_take (i := 27) (v := ?_) (held_at rfl) (by kernel_rfl) (by kernel_rfl) (by kernel_rfl) (fun _ _ _ h => h) (Or.inl ⟨by rfl, ?_⟩) (by assumption) ?_
        rotate_left
        · (intro w1 hSw; obtain ⟨x1, rfl⟩ := hSw; go_simp; (try with_reducible rfl))
        (try simp only [Act.put, List.setIfInBounds_toArray, List.set_cons_zero, List.set_cons_succ])
        refine wpAnyH_take (i := 28) (v := ?_) (held_at rfl) (by kernel_rfl) (by kernel_rfl) (by kernel_rfl) (fun _ _ _ h => h) (Or.inl ⟨by rfl, ?_⟩) (by assumption) ?_
        rotate_left
        · (intro w1 hSw; obtain ⟨x1, rfl⟩ := hSw; go_simp; (try with_reducible rfl))
        (try simp only [Act.put, List.setIfInBounds_toArray, List.set_cons_zero, List.set_cons_succ])
        refine wpAnyH_take (i := 29) (v := ?_) (held_at rfl) (by kernel_rfl) (by kernel_rfl) (by kernel_rfl) (fun _ _ _ h => h) (Or.inl ⟨by rfl, ?_⟩) (by assumption) ?_
        rotate_left
        · (intro w1 hSw; obtain ⟨x1, rfl⟩ := hSw; go_simp; (try with_reducible rfl))
        (try simp only [Act.put, List.setIfInBounds_toArray, List.set_cons_zero, List.set_cons_succ])
        refine wpAnyH_take (i := 30) (v := ?_) (held_at rfl) (by kernel_rfl) (by kernel_rfl) (by kernel_rfl) (fun _ _ _ h => h) (Or.inl ⟨by rfl, ?_⟩) (by assumption) ?_
        rotate_left
        · (intro w1 hSw; obtain ⟨x1, rfl⟩ := hSw; go_simp; (try with_reducible rfl))
        (try simp only [Act.put, List.setIfInBounds_toArray, List.set_cons_zero, List.set_cons_succ])
        refine wpAnyH_take (i := 32) (v := ?_) (held_at rfl) (by kernel_rfl) (by kernel_rfl) (by kernel_rfl) (fun _ _ _ h => h) (Or.inl ⟨by rfl, ?_⟩) (by assumption) ?_
        rotate_left
        · (intro w1 hSw; obtain ⟨x1, rfl⟩ := hSw; go_simp; (try with_reducible rfl))
        (try simp only [Act.put, List.setIfInBounds_toArray, List.set_cons_zero, List.set_cons_succ])
        refine wpAnyH_take (i := 33) (v := ?_) (held_at rfl) (by kernel_rfl) (by kernel_rfl) (by kernel_rfl) (fun _ _ _ h => h) (Or.inl ⟨by rfl, ?_⟩) (by assumption) ?_
        rotate_left
        · (intro w1 hSw; obtain ⟨x1, rfl⟩ := hSw; go_simp; (try with_reducible rfl))
        (try simp only [Act.put, List.setIfInBounds_toArray, List.set_cons_zero, List.set_cons_succ])
        refine wpAnyH_take (i := 35) (v := ?_) (held_at rfl) (by kernel_rfl) (by kernel_rfl) (by kernel_rfl) (fun _ _ _ h => h) (Or.inl ⟨by rfl, ?_⟩) (by assumption) ?_
        rotate_left
        · (intro w1 hSw; obtain ⟨x1, rfl⟩ := hSw; go_simp; (try with_reducible rfl))
        (try simp only [Act.put, List.setIfInBounds_toArray, List.set_cons_zero, List.set_cons_succ])
        refine wpAnyH_take (i := 36) (v := ?_) (held_at rfl) (by kernel_rfl) (by kernel_rfl) (by kernel_rfl) (fun _ _ _ h => h) (Or.inl ⟨by rfl, ?_⟩) (by assumption) ?_
        rotate_left
        · (intro w1 hSw; obtain ⟨x1, rfl⟩ := hSw; go_simp; (try with_reducible rfl))
        (try simp only [Act.put, List.setIfInBounds_toArray, List.set_cons_zero, List.set_cons_succ])
        refine wpAnyH_take (i := 38) (v := ?_) (held_at rfl) (by kernel_rfl) (by kernel_rfl) (by kernel_rfl) (fun _ _ _ h => h) (Or.inl ⟨by rfl, ?_⟩) (by assumption) ?_
        rotate_left
        · (intro w1 hSw; obtain ⟨x1, rfl⟩ := hSw; go_simp; (try with_reducible rfl))
        (try simp only [Act.put, List.setIfInBounds_toArray, List.set_cons_zero, List.set_cons_succ])
        refine wpAnyH_take (i := 39) (v := ?_) (held_at rfl) (by kernel_rfl) (by kernel_rfl) (by kernel_rfl) (fun _ _ _ h => h) (Or.inl ⟨by rfl, ?_⟩) (by assumption) ?_
        rotate_left
        · (intro w1 hSw; obtain ⟨x1, rfl⟩ := hSw; go_simp; (try with_reducible rfl))
        (try simp only [Act.put, List.setIfInBounds_toArray, List.set_cons_zero, List.set_cons_succ])
        refine wpAnyH_ready (rs := [31]) (by kernel_rfl) (by simp) ?_
        refine AllReadyH.cons (held_at rfl) (fun K hK => ?_) AllReadyH.nil
        go_simp
        refine (q3 _).mono ?_
        rintro e w' ⟨rfl, hc'⟩
        obtain ⟨y, rfl⟩ := Wd.next hc'
        clear hc'
        refine hK.out _ _ (InWd.start y) (fun hS => ?_)
        clear hK K
        (try simp only [Act.put, List.setIfInBounds_toArray, List.set_cons_zero, List.set_cons_succ])
        refine wpAnyH_ready (rs := [34]) (by kernel_rfl) (by simp) ?_
        refine AllReadyH.cons (held_at rfl) (fun K hK => ?_) AllReadyH.nil
        go_simp
        refine (q4 _).mono ?_
        rintro e w' ⟨rfl, hc'⟩
        obtain ⟨y, rfl⟩ := Wd.next hc'
        clear hc'
        refine hK.out _ _ (InWd.start y) (fun hS => ?_)
        clear hK K
        (try simp only [Act.put, List.setIfInBounds_toArray, List.set_cons_zero, List.set_cons_succ])
        refine wpAnyH_ready (rs := [37]) (by kernel_rfl) (by simp) ?_
        refine AllReadyH.cons (held_at rfl) (fun K hK => ?_) AllReadyH.nil
        go_simp
        refine (q5 _).mono ?_
        rintro e w' ⟨rfl, hc'⟩
        obtain ⟨y, rfl⟩ := Wd.next hc'
        clear hc'
        refine hK.out _ _ (InWd.start y) (fun hS => ?_)
        clear hK K
        (try simp only [Act.put, List.setIfInBounds_toArray, List.set_cons_zero, List.set_cons_succ])
        refine wpAnyH_ready (rs := [40]) (by kernel_rfl) (by simp) ?_
        refine AllReadyH.cons (held_at rfl) (fun K hK => ?_) AllReadyH.nil
        go_simp
        refine (q6 _).mono ?_
        rintro e w' ⟨rfl, hc'⟩
        obtain ⟨y, rfl⟩ := Wd.next hc'
        clear hc'
        refine hK.out _ _ (InWd.start y) (fun hS => ?_)
        clear hK K
        (try simp only [Act.put, List.setIfInBounds_toArray, List.set_cons_zero, List.set_cons_succ])
        refine wpAnyH_ready (rs := [41]) (by kernel_rfl) (by simp) ?_
        refine AllReadyH.cons (held_at rfl) (fun K hK => ?_) AllReadyH.nil
        go_simp
        obtain ⟨z, hz⟩ := Wd.next ((Chg.refl No y.w).alloc (.cells #[.int .i64 e0, .int .i64 e1, .int .i64 e2, .int .i64 e3] 54))
        have q9 := p9 y
        rw [← hz] at q9 ⊢
        clear hz
        refine hK.out _ _ (InWd.start z) (fun hS => ?_)
        clear hK K
        (try simp only [Act.put, List.setIfInBounds_toArray, List.set_cons_zero, List.set_cons_succ])
        refine wpAnyH_ready (rs := [42]) (by kernel_rfl) (by simp) ?_
        refine AllReadyH.cons (held_at rfl) (fun K hK => ?_) AllReadyH.nil
        go_simp
        refine (q9).mono ?_
        rintro e w' ⟨rfl, hc'⟩
        obtain ⟨y, rfl⟩ := Wd.next hc'
        clear hc'
        refine hK.out _ _ (InWd.start y) (fun hS => ?_)
        clear hK K
        (try simp only [Act.put, List.setIfInBounds_toArray, List.set_cons_zero, List.set_cons_succ])
        refine wpAnyH_take (i := 43) (v := ?_) (held_at rfl) (by kernel_rfl) (by kernel_rfl) (by kernel_rfl) (fun _ _ _ h => h) (Or.inl ⟨by rfl, ?_⟩) (by assumption) ?_
        rotate_left
        · (intro w1 hSw; obtain ⟨x1, rfl⟩ := hSw; go_simp; (try with_reducible rfl))
        (try simp only [Act.put, List.setIfInBounds_toArray, List.set_cons_zero, List.set_cons_succ])
        refine wpAnyH_take (i := 44) (v := ?_) (held_at rfl) (by kernel_rfl) (by kernel_rfl) (by kernel_rfl) (fun _ _ _ h => h) (Or.inl ⟨by rfl, ?_⟩) (by assumption) ?_
        rotate_left
        · (intro w1 hSw; obtain ⟨x1, rfl⟩ := hSw; go_simp; (try with_reducible rfl))
        (try simp only [Act.put, List.setIfInBounds_toArray, List.set_cons_zero, List.set_cons_succ])
        cases b4 with
        | false =>
          refine wpAnyH_take (i := 45) (v := undef) (held_at rfl) (by kernel_rfl) (by kernel_rfl) (by kernel_rfl) (fun _ _ _ h => h) (Or.inr ⟨by rfl, rfl⟩) (by assumption) ?_
          (try simp only [Act.put, List.setIfInBounds_toArray, List.set_cons_zero, List.set_cons_succ])
          refine wpAnyH_take (i := 46) (v := undef) (held_at rfl) (by kernel_rfl) (by kernel_rfl) (by kernel_rfl) (fun _ _ _ h => h) (Or.inr ⟨by rfl, rfl⟩) (by assumption) ?_
          (try simp only [Act.put, List.setIfInBounds_toArray, List.set_cons_zero, List.set_cons_succ])
          refine wpAnyH_take (i := 47) (v := undef) (held_at rfl) (by kernel_rfl) (by kernel_rfl) (by kernel_rfl) (fun _ _ _ h => h) (Or.inr ⟨by rfl, rfl⟩) (by assumption) ?_
          (try simp only [Act.put, List.setIfInBounds_toArray, List.set_cons_zero, List.set_cons_succ])
          refine wpAnyH_take (i := 48) (v := ?_) (held_at rfl) (by kernel_rfl) (by kernel_rfl) (by kernel_rfl) (fun _ _ _ h => h) (Or.inl ⟨by rfl, ?_⟩) (by assumption) ?_
          rotate_left
          · (intro w1 hSw; obtain ⟨x1, rfl⟩ := hSw; go_simp; (try with_reducible rfl))
          (try simp only [Act.put, List.setIfInBounds_toArray, List.set_cons_zero, List.set_cons_succ])
          refine wpAnyH_take (i := 49) (v := ?_) (held_at rfl) (by kernel_rfl) (by kernel_rfl) (by kernel_rfl) (fun _ _ _ h => h) (Or.inl ⟨by rfl, ?_⟩) (by assumption) ?_
          rotate_left
          · (intro w1 hSw; obtain ⟨x1, rfl⟩ := hSw; go_simp; (try with_reducible rfl))
          (try simp only [Act.put, List.setIfInBounds_toArray, List.set_cons_zero, List.set_cons_succ])
          refine wpAnyH_take (i := 50) (v := undef) (held_at rfl) (by kernel_rfl) (by kernel_rfl) (by kernel_rfl) (fun _ _ _ h => h) (Or.inr ⟨by rfl, rfl⟩) (by assumption) ?_
          (try simp only [Act.put, List.setIfInBounds_toArray, List.set_cons_zero, List.set_cons_succ])
          refine wpAnyH_take (i := 51) (v := undef) (held_at rfl) (by kernel_rfl) (by kernel_rfl) (by kernel_rfl) (fun _ _ _ h => h) (Or.inr ⟨by rfl, rfl⟩) (by assumption) ?_
          (try simp only [Act.put, List.setIfInBounds_toArray, List.set_cons_zero, List.set_cons_succ])
          refine wpAnyH_take (i := 52) (v := undef) (held_at rfl) (by kernel_rfl) (by kernel_rfl) (by kernel_rfl) (fun _ _ _ h => h) (Or.inr ⟨by rfl, rfl⟩) (by assumption) ?_
          (try simp only [Act.put, List.setIfInBounds_toArray, List.set_cons_zero, List.set_cons_succ])
          refine wpAnyH_take (i := 53) (v := ?_) (held_at rfl) (by kernel_rfl) (by kernel_rfl) (by kernel_rfl) (fun _ _ _ h => h) (Or.inl ⟨by rfl, ?_⟩) (by assumption) ?_
          rotate_left
          · (intro w1 hSw; obtain ⟨x1, rfl⟩ := hSw; go_simp; (try with_reducible rfl))
          (try simp only [Act.put, List.setIfInBounds_toArray, List.set_cons_zero, List.set_cons_succ])
          refine wpAnyH_take (i := 54) (v := ?_) (held_at rfl) (by kernel_rfl) (by kernel_rfl) (by kernel_rfl) (fun _ _ _ h => h) (Or.inl ⟨by rfl, ?_⟩) (by assumption) ?_
          rotate_left
          · (intro w1 hSw; obtain ⟨x1, rfl⟩ := hSw; go_simp; (try with_reducible rfl))
          (try simp only [Act.put, List.setIfInBounds_toArray, List.set_cons_zero, List.set_cons_succ])
          refine wpAnyH_done (by kernel_rfl) ?_ _
          go_wp2_with fail
          go_ret
          refine ⟨?_, hcw.trans (Wd.chg _)⟩
          have hbb := HB4.out
          rw [HR.out]
          rw [hbb]
          first | (simp_all; done) | (simp_all <;> (intros; omega))
        | true =>
          refine wpAnyH_take (i := 45) (v := ?_) (held_at rfl) (by kernel_rfl) (by kernel_rfl) (by kernel_rfl) (fun _ _ _ h => h) (Or.inl ⟨by rfl, ?_⟩) (by assumption) ?_
          rotate_left
          · (intro w1 hSw; obtain ⟨x1, rfl⟩ := hSw; go_simp; (try with_reducible rfl))
          (try simp only [Act.put, List.setIfInBounds_toArray, List.set_cons_zero, List.set_cons_succ])
          refine wpAnyH_take (i := 46) (v := ?_) (held_at rfl) (by kernel_rfl) (by kernel_rfl) (by kernel_rfl) (fun _ _ _ h => h) (Or.inl ⟨by rfl, ?_⟩) (by assumption) ?_
          rotate_left
          · (intro w1 hSw; obtain ⟨x1, rfl⟩ := hSw; go_simp; (try with_reducible rfl))
          (try simp only [Act.put, List.setIfInBounds_toArray, List.set_cons_zero, List.set_cons_succ])
          refine wpAnyH_ready (rs := [47]) (by kernel_rfl) (by simp) ?_
          refine AllReadyH.cons (held_at rfl) (fun K hK => ?_) AllReadyH.nil
          go_simp
          refine (q7 _).mono ?_
          rintro e w' ⟨rfl, hc'⟩
          obtain ⟨y, rfl⟩ := Wd.next hc'
          clear hc'
          refine hK.out _ _ (InWd.start y) (fun hS => ?_)
          clear hK K
          (try simp only [Act.put, List.setIfInBounds_toArray, List.set_cons_zero, List.set_cons_succ])
          refine wpAnyH_take (i := 48) (v := ?_) (held_at rfl) (by kernel_rfl) (by kernel_rfl) (by kernel_rfl) (fun _ _ _ h => h) (Or.inl ⟨by rfl, ?_⟩) (by assumption) ?_
          rotate_left
          · (intro w1 hSw; obtain ⟨x1, rfl⟩ := hSw; go_simp; (try with_reducible rfl))
          (try simp only [Act.put, List.setIfInBounds_toArray, List.set_cons_zero, List.set_cons_succ])
          refine wpAnyH_take (i := 49) (v := ?_) (held_at rfl) (by kernel_rfl) (by kernel_rfl) (by kernel_rfl) (fun _ _ _ h => h) (Or.inl ⟨by rfl, ?_⟩) (by assumption) ?_
          rotate_left
          · (intro w1 hSw; obtain ⟨x1, rfl⟩ := hSw; go_simp; (try with_reducible rfl))
          (try simp only [Act.put, List.setIfInBounds_toArray, List.set_cons_zero, List.set_cons_succ])
          cases n1 with
          | false =>
            refine wpAnyH_take (i := 50) (v := undef) (held_at rfl) (by kernel_rfl) (by kernel_rfl) (by kernel_rfl) (fun _ _ _ h => h) (Or.inr ⟨by rfl, rfl⟩) (by assumption) ?_
            (try simp only [Act.put, List.setIfInBounds_toArray, List.set_cons_zero, List.set_cons_succ])
            refine wpAnyH_take (i := 51) (v := undef) (held_at rfl) (by kernel_rfl) (by kernel_rfl) (by kernel_rfl) (fun _ _ _ h => h) (Or.inr ⟨by rfl, rfl⟩) (by assumption) ?_
            (try simp only [Act.put, List.setIfInBounds_toArray, List.set_cons_zero, List.set_cons_succ])
            refine wpAnyH_take (i := 52) (v := undef) (held_at rfl) (by kernel_rfl) (by kernel_rfl) (by kernel_rfl) (fun _ _ _ h => h) (Or.inr ⟨by rfl, rfl⟩) (by assumption) ?_
            (try simp only [Act.put, List.setIfInBounds_toArray, List.set_cons_zero, List.set_cons_succ])
            refine wpAnyH_take (i := 53) (v := ?_) (held_at rfl) (by kernel_rfl) (by kernel_rfl) (by kernel_rfl) (fun _ _ _ h => h) (Or.inl ⟨by rfl, ?_⟩) (by assumption) ?_
            rotate_left
            · (intro w1 hSw; obtain ⟨x1, rfl⟩ := hSw; go_simp; (try with_reducible rfl))
            (try simp only [Act.put, List.setIfInBounds_toArray, List.set_cons_zero, List.set_cons_succ])
            refine wpAnyH_take (i := 54) (v := ?_) (held_at rfl) (by kernel_rfl) (by kernel_rfl) (by kernel_rfl) (fun _ _ _ h => h) (Or.inl ⟨by rfl, ?_⟩) (by assumption) ?_
            rotate_left
            · (intro w1 hSw; obtain ⟨x1, rfl⟩ := hSw; go_simp; (try with_reducible rfl))
            (try simp only [Act.put, List.setIfInBounds_toArray, List.set_cons_zero, List.set_cons_succ])
            refine wpAnyH_done (by kernel_rfl) ?_ _
            go_wp2_with fail
            go_ret
            refine ⟨?_, hcw.trans (Wd.chg _)⟩
            have hbb := HB4.out
            rw [HR.out]
            rw [hbb]
            first | (simp_all; done) | (simp_all <;> (intros; omega))
          | true =>
            refine wpAnyH_take (i := 50) (v := ?_) (held_at rfl) (by kernel_rfl) (by kernel_rfl) (by kernel_rfl) (fun _ _ _ h => h) (Or.inl ⟨by rfl, ?_⟩) (by assumption) ?_
            rotate_left
            · (intro w1 hSw; obtain ⟨x1, rfl⟩ := hSw; go_simp; (try with_reducible rfl))
            (try simp only [Act.put, List.setIfInBounds_toArray, List.set_cons_zero, List.set_cons_succ])
            refine wpAnyH_take (i := 51) (v := ?_) (held_at rfl) (by kernel_rfl) (by kernel_rfl) (by kernel_rfl) (fun _ _ _ h => h) (Or.inl ⟨by rfl, ?_⟩) (by assumption) ?_
            rotate_left
            · (intro w1 hSw; obtain ⟨x1, rfl⟩ := hSw; go_simp; (try with_reducible rfl))
            (try simp only [Act.put, List.setIfInBounds_toArray, List.set_cons_zero, List.set_cons_succ])
            refine wpAnyH_ready (rs := [52]) (by kernel_rfl) (by simp) ?_
            refine AllReadyH.cons (held_at rfl) (fun K hK => ?_) AllReadyH.nil
            go_simp
            refine (q8 _).mono ?_
            rintro e w' ⟨rfl, hc'⟩
            obtain ⟨y, rfl⟩ := Wd.next hc'
            clear hc'
            refine hK.out _ _ (InWd.start y) (fun hS => ?_)
            clear hK K
            (try simp only [Act.put, List.setIfInBounds_toArray, List.set_cons_zero, List.set_cons_succ])
            refine wpAnyH_take (i := 53) (v := ?_) (held_at rfl) (by kernel_rfl) (by kernel_rfl) (by kernel_rfl) (fun _ _ _ h => h) (Or.inl ⟨by rfl, ?_⟩) (by assumption) ?_
            rotate_left
            · (intro w1 hSw; obtain ⟨x1, rfl⟩ := hSw; go_simp; (try with_reducible rfl))
            (try simp only [Act.put, List.setIfInBounds_toArray, List.set_cons_zero, List.set_cons_succ])
            refine wpAnyH_take (i := 54) (v := ?_) (held_at rfl) (by kernel_rfl) (by kernel_rfl) (by kernel_rfl) (fun _ _ _ h => h) (Or.inl ⟨by rfl, ?_⟩) (by assumption) ?_
            rotate_left
            · (intro w1 hSw; obtain ⟨x1, rfl⟩ := hSw; go_simp; (try with_reducible rfl))
            (try simp only [Act.put, List.setIfInBounds_toArray, List.set_cons_zero, List.set_cons_succ])
            refine wpAnyH_done (by kernel_rfl) ?_ _
            go_wp2_with fail
            go_ret
            refine ⟨?_, hcw.trans (Wd.chg _)⟩
            have hbb := HB4.out
            rw [HR.out]
            rw [hbb]
            first | (simp_all; done) | (simp_all <;> (intros; omega))
      · skip
        refine wp_region_wd2 y (by kernel_rfl) (by kernel_rfl) ?_
        repeat (refine WQ.step (fun K hK => ?_); go_simp; first | (refine hK _ ?_; clear hK K) | (apply Exists.intro; refine ⟨fun _ => ?_, hK _ ?_⟩; (go_at_call 94; exact wd_calls (q1 _)); clear hK K))
        refine WQ.nil ?_
        rintro _ ⟨z, rfl⟩
        go_wp2_with fail
        go_ret
        refine ⟨?_, hcw.trans z.chg⟩
        rw [HR.out]
        first | (simp_all; done) | (simp_all <;> (intros; omega))
    · skip
      unfold podB ownOk restB at hr
      rw [hb, heo] at hr
      have heo' := toList_of heo
      have he' := toList_of he
      clear hb
      go_enter Tryz.func136, Tryz.ntmps136
      go_wp2_with fail
      generalize (w.alloc _).alloc _ = W at hcw hA hR hxn hN ⊢
      generalize w.heap.size = B at hA hR ⊢
      have q1 : ∀ y : Wd No W, Gives 94 _ y.w (.int .i64 (ownerIdx s x.owner)) := fun y => snapOwner_any ((h.no hcw).no y.chg) x.owner
      have q2 : ∀ y : Wd No W, Gives 149 _ y.w (.int .i64 (nodeIdx s x.on)) := fun y => snapNode_any ((h.no hcw).no y.chg) x.on
      have q3 := fun y : Wd No W => vecCheck_any (x.req 0) (x.req 1) (x.req 2) (x.req 3) (x.req 4) y.w
      have q4 := fun y : Wd No W => labCheck_any ((hp.2.1.no hcw).no y.chg)
      have q5 := fun y : Wd No W => terms_any ((hp.2.2.1.no hcw).no y.chg)
      have q6 := fun y : Wd No W => labCheckBears_any ((hp.2.2.2.1.no hcw).no y.chg)
      have q7 := fun y : Wd No W => near_any hp.1.2.2.2.1 ((hp.2.2.2.2.1.no hcw).no y.chg)
      have q8 := fun y : Wd No W => near_any hp.1.2.2.2.2 ((hp.2.2.2.2.2.no hcw).no y.chg)
      unfold Gives at q1 q2 q3 q4 q5 q6 q7 q8
      unfold vecV at q3
      dsimp only at q4 q5 q6 q7 q8
      rw [hi] at q2
      generalize ownerIdx s x.owner = io at *
      generalize vecE (x.req 0) (x.req 1) (x.req 2) (x.req 3) (x.req 4) = e0 at *
      generalize labsE false x.labels = e1 at *
      generalize termsE x.where_ = e2 at *
      generalize labsE true x.bears = e3 at *
      generalize nearB x.wTopo x.wTerms = n1 at *
      generalize nearB x.aTopo x.aTerms = n2 at *
      have HR := Go.Lib.hid hr
      clear hr
      have sa0 := fun y : Wd No W => y.chg.cell (cell_of_heap (j := 0) hA rfl) id
      have sa1 := fun y : Wd No W => y.chg.cell (cell_of_heap (j := 1) hA rfl) id
      have sa2 := fun y : Wd No W => y.chg.cell (cell_of_heap (j := 2) hA rfl) id
      have r1 := fun y : Wd No W => y.chg.cell (cell_of_heap (j := 1) hR rfl) id
      have r2 := fun y : Wd No W => y.chg.cell (cell_of_heap (j := 2) hR rfl) id
      have r3 := fun y : Wd No W => y.chg.cell (cell_of_heap (j := 3) hR rfl) id
      have r4 := fun y : Wd No W => y.chg.cell (cell_of_heap (j := 4) hR rfl) id
      have r5 := fun y : Wd No W => y.chg.cell (cell_of_heap (j := 5) hR rfl) id
      have r6 := fun y : Wd No W => y.chg.cell (cell_of_heap (j := 6) hR rfl) id
      have r7 := fun y : Wd No W => y.chg.cell (cell_of_heap (j := 7) hR rfl) id
      have r8 := fun y : Wd No W => y.chg.cell (cell_of_heap (j := 8) hR rfl) id
      have r9 := fun y : Wd No W => y.chg.cell (cell_of_heap (j := 9) hR rfl) id
      have r10 := fun y : Wd No W => y.chg.cell (cell_of_heap (j := 10) hR rfl) id
      have r11 := fun y : Wd No W => y.chg.cell (cell_of_heap (j := 11) hR rfl) id
      have r12 := fun y : Wd No W => y.chg.cell (cell_of_heap (j := 12) hR rfl) id
      have r13 := fun y : Wd No W => y.chg.cell (cell_of_heap (j := 13) hR rfl) id
      have r14 := fun y : Wd No W => y.chg.cell (cell_of_heap (j := 14) hR rfl) id
      clear hA hR hxn hN h hp
      clear hi
      obtain ⟨x0, hx0⟩ := Wd.start No W
      rw [← hx0]
      clear hx0
      refine (q2 _).mono ?_
      rintro e w' ⟨rfl, hc'⟩
      obtain ⟨y, rfl⟩ := Wd.next hc'
      clear hc' x0
      go_wp2_with fail
      by_cases h0 : 0 ≤ io
      · skip
        refine wp_region_wd2 y (by kernel_rfl) (by kernel_rfl) ?_
        repeat (refine WQ.step (fun K hK => ?_); go_simp; first | (refine hK _ ?_; clear hK K) | (apply Exists.intro; refine ⟨fun _ => ?_, hK _ ?_⟩; (go_at_call 94; exact wd_calls (q1 _)); clear hK K))
        refine WQ.nil ?_
        rintro _ ⟨z, rfl⟩
        go_wp2_with fail
        go_ret
        refine ⟨?_, hcw.trans z.chg⟩
        rw [HR.out]
        first | (simp_all; done) | (simp_all <;> (intros; omega))
      · skip
        refine wp_region_wd2 y (by kernel_rfl) (by kernel_rfl) ?_
        repeat (refine WQ.step (fun K hK => ?_); go_simp; first | (refine hK _ ?_; clear hK K) | (apply Exists.intro; refine ⟨fun _ => ?_, hK _ ?_⟩; (go_at_call 94; exact wd_calls (q1 _)); clear hK K))
        refine WQ.nil ?_
        rintro _ ⟨z, rfl⟩
        go_wp2_with fail
        go_ret
        refine ⟨?_, hcw.trans z.chg⟩
        rw [HR.out]
        first | (simp_all; done) | (simp_all <;> (intros; omega))
    · cases l with
      | true =>
        unfold podB ownOk restB at hr
        rw [hb, heo] at hr
        have heo' := toList_of heo
        have he' := toList_of he
        clear hb
        go_enter Tryz.func136, Tryz.ntmps136
        go_wp2_with fail
        generalize (w.alloc _).alloc _ = W at hcw hA hR hxn hN ⊢
        generalize w.heap.size = B at hA hR ⊢
        have q1 : ∀ y : Wd No W, Gives 94 _ y.w (.int .i64 (ownerIdx s x.owner)) := fun y => snapOwner_any ((h.no hcw).no y.chg) x.owner
        have q2 : ∀ y : Wd No W, Gives 149 _ y.w (.int .i64 (nodeIdx s x.on)) := fun y => snapNode_any ((h.no hcw).no y.chg) x.on
        have q3 := fun y : Wd No W => vecCheck_any (x.req 0) (x.req 1) (x.req 2) (x.req 3) (x.req 4) y.w
        have q4 := fun y : Wd No W => labCheck_any ((hp.2.1.no hcw).no y.chg)
        have q5 := fun y : Wd No W => terms_any ((hp.2.2.1.no hcw).no y.chg)
        have q6 := fun y : Wd No W => labCheckBears_any ((hp.2.2.2.1.no hcw).no y.chg)
        have q7 := fun y : Wd No W => near_any hp.1.2.2.2.1 ((hp.2.2.2.2.1.no hcw).no y.chg)
        have q8 := fun y : Wd No W => near_any hp.1.2.2.2.2 ((hp.2.2.2.2.2.no hcw).no y.chg)
        unfold Gives at q1 q2 q3 q4 q5 q6 q7 q8
        unfold vecV at q3
        dsimp only at q4 q5 q6 q7 q8
        rw [hi] at q2
        generalize ownerIdx s x.owner = io at *
        generalize vecE (x.req 0) (x.req 1) (x.req 2) (x.req 3) (x.req 4) = e0 at *
        generalize labsE false x.labels = e1 at *
        generalize termsE x.where_ = e2 at *
        generalize labsE true x.bears = e3 at *
        generalize nearB x.wTopo x.wTerms = n1 at *
        generalize nearB x.aTopo x.aTerms = n2 at *
        have HR := Go.Lib.hid hr
        clear hr
        have sa0 := fun y : Wd No W => y.chg.cell (cell_of_heap (j := 0) hA rfl) id
        have sa1 := fun y : Wd No W => y.chg.cell (cell_of_heap (j := 1) hA rfl) id
        have sa2 := fun y : Wd No W => y.chg.cell (cell_of_heap (j := 2) hA rfl) id
        have r1 := fun y : Wd No W => y.chg.cell (cell_of_heap (j := 1) hR rfl) id
        have r2 := fun y : Wd No W => y.chg.cell (cell_of_heap (j := 2) hR rfl) id
        have r3 := fun y : Wd No W => y.chg.cell (cell_of_heap (j := 3) hR rfl) id
        have r4 := fun y : Wd No W => y.chg.cell (cell_of_heap (j := 4) hR rfl) id
        have r5 := fun y : Wd No W => y.chg.cell (cell_of_heap (j := 5) hR rfl) id
        have r6 := fun y : Wd No W => y.chg.cell (cell_of_heap (j := 6) hR rfl) id
        have r7 := fun y : Wd No W => y.chg.cell (cell_of_heap (j := 7) hR rfl) id
        have r8 := fun y : Wd No W => y.chg.cell (cell_of_heap (j := 8) hR rfl) id
        have r9 := fun y : Wd No W => y.chg.cell (cell_of_heap (j := 9) hR rfl) id
        have r10 := fun y : Wd No W => y.chg.cell (cell_of_heap (j := 10) hR rfl) id
        have r11 := fun y : Wd No W => y.chg.cell (cell_of_heap (j := 11) hR rfl) id
        have r12 := fun y : Wd No W => y.chg.cell (cell_of_heap (j := 12) hR rfl) id
        have r13 := fun y : Wd No W => y.chg.cell (cell_of_heap (j := 13) hR rfl) id
        have r14 := fun y : Wd No W => y.chg.cell (cell_of_heap (j := 14) hR rfl) id
        obtain ⟨-, nb, no, rfl, ncell⟩ := hxn.2.2.2 k hk
        have ql := fun y : Wd No W => y.chg.cell (ncell 9 (.bool (s.nodes.el k).lost) rfl) id
        rw [hl] at ql
        have hkn : (k : Int) < (s.nodes.n : Int) := by omega
        have hk0 : (0 : Int) ≤ (k : Int) := by omega
        clear ncell hl hi hk
        clear hA hR hxn hN h hp
        obtain ⟨x0, hx0⟩ := Wd.start No W
        rw [← hx0]
        clear hx0
        refine (q2 _).mono ?_
        rintro e w' ⟨rfl, hc'⟩
        obtain ⟨y, rfl⟩ := Wd.next hc'
        clear hc' x0
        go_wp2_with fail
        by_cases h0 : 0 ≤ io
        · skip
          refine wp_region_wd2 y (by kernel_rfl) (by kernel_rfl) ?_
          repeat (refine WQ.step (fun K hK => ?_); go_simp; first | (refine hK _ ?_; clear hK K) | (apply Exists.intro; refine ⟨fun _ => ?_, hK _ ?_⟩; (go_at_call 94; exact wd_calls (q1 _)); clear hK K))
          refine WQ.nil ?_
          rintro _ ⟨z, rfl⟩
          go_wp2_with fail
          go_ret
          refine ⟨?_, hcw.trans z.chg⟩
          rw [HR.out]
          first | (simp_all; done) | (simp_all <;> (intros; omega))
        · skip
          refine wp_region_wd2 y (by kernel_rfl) (by kernel_rfl) ?_
          repeat (refine WQ.step (fun K hK => ?_); go_simp; first | (refine hK _ ?_; clear hK K) | (apply Exists.intro; refine ⟨fun _ => ?_, hK _ ?_⟩; (go_at_call 94; exact wd_calls (q1 _)); clear hK K))
          refine WQ.nil ?_
          rintro _ ⟨z, rfl⟩
          go_wp2_with fail
          go_ret
          refine ⟨?_, hcw.trans z.chg⟩
          rw [HR.out]
          first | (simp_all; done) | (simp_all <;> (intros; omega))
      | false =>
        unfold podB ownOk restB at hr
        rw [hb, heo] at hr
        have heo' := toList_of heo
        have he' := toList_of he
        clear hb
        go_enter Tryz.func136, Tryz.ntmps136
        go_wp2_with fail
        generalize (w.alloc _).alloc _ = W at hcw hA hR hxn hN ⊢
        generalize w.heap.size = B at hA hR ⊢
        have q1 : ∀ y : Wd No W, Gives 94 _ y.w (.int .i64 (ownerIdx s x.owner)) := fun y => snapOwner_any ((h.no hcw).no y.chg) x.owner
        have q2 : ∀ y : Wd No W, Gives 149 _ y.w (.int .i64 (nodeIdx s x.on)) := fun y => snapNode_any ((h.no hcw).no y.chg) x.on
        have q3 := fun y : Wd No W => vecCheck_any (x.req 0) (x.req 1) (x.req 2) (x.req 3) (x.req 4) y.w
        have q4 := fun y : Wd No W => labCheck_any ((hp.2.1.no hcw).no y.chg)
        have q5 := fun y : Wd No W => terms_any ((hp.2.2.1.no hcw).no y.chg)
        have q6 := fun y : Wd No W => labCheckBears_any ((hp.2.2.2.1.no hcw).no y.chg)
        have q7 := fun y : Wd No W => near_any hp.1.2.2.2.1 ((hp.2.2.2.2.1.no hcw).no y.chg)
        have q8 := fun y : Wd No W => near_any hp.1.2.2.2.2 ((hp.2.2.2.2.2.no hcw).no y.chg)
        unfold Gives at q1 q2 q3 q4 q5 q6 q7 q8
        unfold vecV at q3
        dsimp only at q4 q5 q6 q7 q8
        rw [hi] at q2
        generalize ownerIdx s x.owner = io at *
        generalize vecE (x.req 0) (x.req 1) (x.req 2) (x.req 3) (x.req 4) = e0 at *
        generalize labsE false x.labels = e1 at *
        generalize termsE x.where_ = e2 at *
        generalize labsE true x.bears = e3 at *
        generalize nearB x.wTopo x.wTerms = n1 at *
        generalize nearB x.aTopo x.aTerms = n2 at *
        have HR := Go.Lib.hid hr
        clear hr
        have sa0 := fun y : Wd No W => y.chg.cell (cell_of_heap (j := 0) hA rfl) id
        have sa1 := fun y : Wd No W => y.chg.cell (cell_of_heap (j := 1) hA rfl) id
        have sa2 := fun y : Wd No W => y.chg.cell (cell_of_heap (j := 2) hA rfl) id
        have r1 := fun y : Wd No W => y.chg.cell (cell_of_heap (j := 1) hR rfl) id
        have r2 := fun y : Wd No W => y.chg.cell (cell_of_heap (j := 2) hR rfl) id
        have r3 := fun y : Wd No W => y.chg.cell (cell_of_heap (j := 3) hR rfl) id
        have r4 := fun y : Wd No W => y.chg.cell (cell_of_heap (j := 4) hR rfl) id
        have r5 := fun y : Wd No W => y.chg.cell (cell_of_heap (j := 5) hR rfl) id
        have r6 := fun y : Wd No W => y.chg.cell (cell_of_heap (j := 6) hR rfl) id
        have r7 := fun y : Wd No W => y.chg.cell (cell_of_heap (j := 7) hR rfl) id
        have r8 := fun y : Wd No W => y.chg.cell (cell_of_heap (j := 8) hR rfl) id
        have r9 := fun y : Wd No W => y.chg.cell (cell_of_heap (j := 9) hR rfl) id
        have r10 := fun y : Wd No W => y.chg.cell (cell_of_heap (j := 10) hR rfl) id
        have r11 := fun y : Wd No W => y.chg.cell (cell_of_heap (j := 11) hR rfl) id
        have r12 := fun y : Wd No W => y.chg.cell (cell_of_heap (j := 12) hR rfl) id
        have r13 := fun y : Wd No W => y.chg.cell (cell_of_heap (j := 13) hR rfl) id
        have r14 := fun y : Wd No W => y.chg.cell (cell_of_heap (j := 14) hR rfl) id
        obtain ⟨-, nb, no, rfl, ncell⟩ := hxn.2.2.2 k hk
        have ql := fun y : Wd No W => y.chg.cell (ncell 9 (.bool (s.nodes.el k).lost) rfl) id
        rw [hl] at ql
        have hkn : (k : Int) < (s.nodes.n : Int) := by omega
        have hk0 : (0 : Int) ≤ (k : Int) := by omega
        clear ncell hl hi hk
        clear hA hR hxn hN h hp
        obtain ⟨x0, hx0⟩ := Wd.start No W
        rw [← hx0]
        clear hx0
        refine (q2 _).mono ?_
        rintro e w' ⟨rfl, hc'⟩
        obtain ⟨y, rfl⟩ := Wd.next hc'
        clear hc' x0
        go_wp2_with fail
        by_cases h0 : 0 ≤ io
        · skip
          have p9 := fun y : Wd No W => fine4_any e0 e1 e2 e3 y.w
          unfold Gives at p9
          generalize hb4 : (decide (e0 = 0) && decide (e1 = 0) && decide (e2 = 0) && decide (e3 = 0)) = b4 at p9
          have HB4 := Go.Lib.hid hb4
          clear hb4
          refine wp_region_held_drew (S := InWd No W) (by kernel_rfl) (InWd.drew' y) (fun hS => ?_)
          obtain ⟨y', hy⟩ := hS
          rw [← hy]
          have hS := InWd.start y'
          clear hy y
          refine wpAnyH_take (i := 0) (v := ?_) (held_at rfl) (by kernel_rfl) (by kernel_rfl) (by kernel_rfl) (fun _ _ _ h => h) (Or.inl ⟨by rfl, ?_⟩) (by assumption) ?_
          rotate_left
          · (intro w1 hSw; obtain ⟨x1, rfl⟩ := hSw; go_simp; (try with_reducible rfl))
          (try simp only [Act.put, List.setIfInBounds_toArray, List.set_cons_zero, List.set_cons_succ])
          refine wpAnyH_take (i := 1) (v := ?_) (held_at rfl) (by kernel_rfl) (by kernel_rfl) (by kernel_rfl) (fun _ _ _ h => h) (Or.inl ⟨by rfl, ?_⟩) (by assumption) ?_
          rotate_left
          · (intro w1 hSw; obtain ⟨x1, rfl⟩ := hSw; go_simp; (try with_reducible rfl))
          (try simp only [Act.put, List.setIfInBounds_toArray, List.set_cons_zero, List.set_cons_succ])
          refine wpAnyH_take (i := 2) (v := ?_) (held_at rfl) (by kernel_rfl) (by kernel_rfl) (by kernel_rfl) (fun _ _ _ h => h) (Or.inl ⟨by rfl, ?_⟩) (by assumption) ?_
          rotate_left
          · (intro w1 hSw; obtain ⟨x1, rfl⟩ := hSw; go_simp; (try with_reducible rfl))
          (try simp only [Act.put, List.setIfInBounds_toArray, List.set_cons_zero, List.set_cons_succ])
          refine wpAnyH_take (i := 3) (v := ?_) (held_at rfl) (by kernel_rfl) (by kernel_rfl) (by kernel_rfl) (fun _ _ _ h => h) (Or.inl ⟨by rfl, ?_⟩) (by assumption) ?_
          rotate_left
          · (intro w1 hSw; obtain ⟨x1, rfl⟩ := hSw; go_simp; (try with_reducible rfl))
          (try simp only [Act.put, List.setIfInBounds_toArray, List.set_cons_zero, List.set_cons_succ])
          refine wpAnyH_take (i := 4) (v := ?_) (held_at rfl) (by kernel_rfl) (by kernel_rfl) (by kernel_rfl) (fun _ _ _ h => h) (Or.inl ⟨by rfl, ?_⟩) (by assumption) ?_
          rotate_left
          · (intro w1 hSw; obtain ⟨x1, rfl⟩ := hSw; go_simp; (try with_reducible rfl))
          (try simp only [Act.put, List.setIfInBounds_toArray, List.set_cons_zero, List.set_cons_succ])
          refine wpAnyH_take (i := 5) (v := ?_) (held_at rfl) (by kernel_rfl) (by kernel_rfl) (by kernel_rfl) (fun _ _ _ h => h) (Or.inl ⟨by rfl, ?_⟩) (by assumption) ?_
          rotate_left
          · (intro w1 hSw; obtain ⟨x1, rfl⟩ := hSw; go_simp; (try with_reducible rfl))
          (try simp only [Act.put, List.setIfInBounds_toArray, List.set_cons_zero, List.set_cons_succ])
          refine wpAnyH_take (i := 6) (v := ?_) (held_at rfl) (by kernel_rfl) (by kernel_rfl) (by kernel_rfl) (fun _ _ _ h => h) (Or.inl ⟨by rfl, ?_⟩) (by assumption) ?_
          rotate_left
          · (intro w1 hSw; obtain ⟨x1, rfl⟩ := hSw; go_simp; (try with_reducible rfl))
          (try simp only [Act.put, List.setIfInBounds_toArray, List.set_cons_zero, List.set_cons_succ])
          refine wpAnyH_ready (rs := [7]) (by kernel_rfl) (by simp) ?_
          refine AllReadyH.cons (held_at rfl) (fun K hK => ?_) AllReadyH.nil
          go_simp
          refine (q1 _).mono ?_
          rintro e w' ⟨rfl, hc'⟩
          obtain ⟨y, rfl⟩ := Wd.next hc'
          clear hc'
          refine hK.out _ _ (InWd.start y) (fun hS => ?_)
          clear hK K
          (try simp only [Act.put, List.setIfInBounds_toArray, List.set_cons_zero, List.set_cons_succ])
          refine wpAnyH_take (i := 8) (v := ?_) (held_at rfl) (by kernel_rfl) (by kernel_rfl) (by kernel_rfl) (fun _ _ _ h => h) (Or.inl ⟨by rfl, ?_⟩) (by assumption) ?_
          rotate_left
          · (intro w1 hSw; obtain ⟨x1, rfl⟩ := hSw; go_simp; (try with_reducible rfl))
          (try simp only [Act.put, List.setIfInBounds_toArray, List.set_cons_zero, List.set_cons_succ])
          refine wpAnyH_take (i := 9) (v := ?_) (held_at rfl) (by kernel_rfl) (by kernel_rfl) (by kernel_rfl) (fun _ _ _ h => h) (Or.inl ⟨by rfl, ?_⟩) (by assumption) ?_
          rotate_left
          · (intro w1 hSw; obtain ⟨x1, rfl⟩ := hSw; go_simp; (try with_reducible rfl))
          (try simp only [Act.put, List.setIfInBounds_toArray, List.set_cons_zero, List.set_cons_succ])
          refine wpAnyH_take (i := 10) (v := ?_) (held_at rfl) (by kernel_rfl) (by kernel_rfl) (by kernel_rfl) (fun _ _ _ h => h) (Or.inl ⟨by rfl, ?_⟩) (by assumption) ?_
          rotate_left
          · (intro w1 hSw; obtain ⟨x1, rfl⟩ := hSw; go_simp; (try with_reducible rfl))
          (try simp only [Act.put, List.setIfInBounds_toArray, List.set_cons_zero, List.set_cons_succ])
          refine wpAnyH_take (i := 11) (v := ?_) (held_at rfl) (by kernel_rfl) (by kernel_rfl) (by kernel_rfl) (fun _ _ _ h => h) (Or.inl ⟨by rfl, ?_⟩) (by assumption) ?_
          rotate_left
          · (intro w1 hSw; obtain ⟨x1, rfl⟩ := hSw; go_simp; (try with_reducible rfl))
          (try simp only [Act.put, List.setIfInBounds_toArray, List.set_cons_zero, List.set_cons_succ])
          refine wpAnyH_take (i := 12) (v := ?_) (held_at rfl) (by kernel_rfl) (by kernel_rfl) (by kernel_rfl) (fun _ _ _ h => h) (Or.inl ⟨by rfl, ?_⟩) (by assumption) ?_
          rotate_left
          · (intro w1 hSw; obtain ⟨x1, rfl⟩ := hSw; go_simp; (try with_reducible rfl))
          (try simp only [Act.put, List.setIfInBounds_toArray, List.set_cons_zero, List.set_cons_succ])
          refine wpAnyH_take (i := 13) (v := ?_) (held_at rfl) (by kernel_rfl) (by kernel_rfl) (by kernel_rfl) (fun _ _ _ h => h) (Or.inl ⟨by rfl, ?_⟩) (by assumption) ?_
          rotate_left
          · (intro w1 hSw; obtain ⟨x1, rfl⟩ := hSw; go_simp; (try with_reducible rfl))
          (try simp only [Act.put, List.setIfInBounds_toArray, List.set_cons_zero, List.set_cons_succ])
          refine wpAnyH_take (i := 14) (v := ?_) (held_at rfl) (by kernel_rfl) (by kernel_rfl) (by kernel_rfl) (fun _ _ _ h => h) (Or.inl ⟨by rfl, ?_⟩) (by assumption) ?_
          rotate_left
          · (intro w1 hSw; obtain ⟨x1, rfl⟩ := hSw; go_simp; (try with_reducible rfl))
          (try simp only [Act.put, List.setIfInBounds_toArray, List.set_cons_zero, List.set_cons_succ])
          refine wpAnyH_take (i := 15) (v := ?_) (held_at rfl) (by kernel_rfl) (by kernel_rfl) (by kernel_rfl) (fun _ _ _ h => h) (Or.inl ⟨by rfl, ?_⟩) (by assumption) ?_
          rotate_left
          · (intro w1 hSw; obtain ⟨x1, rfl⟩ := hSw; go_simp; (try with_reducible rfl))
          (try simp only [Act.put, List.setIfInBounds_toArray, List.set_cons_zero, List.set_cons_succ])
          refine wpAnyH_take (i := 16) (v := ?_) (held_at rfl) (by kernel_rfl) (by kernel_rfl) (by kernel_rfl) (fun _ _ _ h => h) (Or.inl ⟨by rfl, ?_⟩) (by assumption) ?_
          rotate_left
          · (intro w1 hSw; obtain ⟨x1, rfl⟩ := hSw; go_simp; (try with_reducible rfl))
          (try simp only [Act.put, List.setIfInBounds_toArray, List.set_cons_zero, List.set_cons_succ])
          refine wpAnyH_take (i := 17) (v := ?_) (held_at rfl) (by kernel_rfl) (by kernel_rfl) (by kernel_rfl) (fun _ _ _ h => h) (Or.inl ⟨by rfl, ?_⟩) (by assumption) ?_
          rotate_left
          · (intro w1 hSw; obtain ⟨x1, rfl⟩ := hSw; go_simp; (try with_reducible rfl))
          (try simp only [Act.put, List.setIfInBounds_toArray, List.set_cons_zero, List.set_cons_succ])
          refine wpAnyH_take (i := 18) (v := ?_) (held_at rfl) (by kernel_rfl) (by kernel_rfl) (by kernel_rfl) (fun _ _ _ h => h) (Or.inl ⟨by rfl, ?_⟩) (by assumption) ?_
          rotate_left
          · (intro w1 hSw; obtain ⟨x1, rfl⟩ := hSw; go_simp; (try with_reducible rfl))
          (try simp only [Act.put, List.setIfInBounds_toArray, List.set_cons_zero, List.set_cons_succ])
          refine wpAnyH_take (i := 19) (v := ?_) (held_at rfl) (by kernel_rfl) (by kernel_rfl) (by kernel_rfl) (fun _ _ _ h => h) (Or.inl ⟨by rfl, ?_⟩) (by assumption) ?_
          rotate_left
          · (intro w1 hSw; obtain ⟨x1, rfl⟩ := hSw; go_simp; (try with_reducible rfl))
          (try simp only [Act.put, List.setIfInBounds_toArray, List.set_cons_zero, List.set_cons_succ])
          refine wpAnyH_take (i := 20) (v := ?_) (held_at rfl) (by kernel_rfl) (by kernel_rfl) (by kernel_rfl) (fun _ _ _ h => h) (Or.inl ⟨by rfl, ?_⟩) (by assumption) ?_
          rotate_left
          · (intro w1 hSw; obtain ⟨x1, rfl⟩ := hSw; go_simp; (try with_reducible rfl))
          (try simp only [Act.put, List.setIfInBounds_toArray, List.set_cons_zero, List.set_cons_succ])
          refine wpAnyH_take (i := 21) (v := ?_) (held_at rfl) (by kernel_rfl) (by kernel_rfl) (by kernel_rfl) (fun _ _ _ h => h) (Or.inl ⟨by rfl, ?_⟩) (by assumption) ?_
          rotate_left
          · (intro w1 hSw; obtain ⟨x1, rfl⟩ := hSw; go_simp; (try with_reducible rfl))
          (try simp only [Act.put, List.setIfInBounds_toArray, List.set_cons_zero, List.set_cons_succ])
          refine wpAnyH_take (i := 22) (v := ?_) (held_at rfl) (by kernel_rfl) (by kernel_rfl) (by kernel_rfl) (fun _ _ _ h => h) (Or.inl ⟨by rfl, ?_⟩) (by assumption) ?_
          rotate_left
          · (intro w1 hSw; obtain ⟨x1, rfl⟩ := hSw; go_simp; (try with_reducible rfl))
          (try simp only [Act.put, List.setIfInBounds_toArray, List.set_cons_zero, List.set_cons_succ])
          refine wpAnyH_take (i := 23) (v := ?_) (held_at rfl) (by kernel_rfl) (by kernel_rfl) (by kernel_rfl) (fun _ _ _ h => h) (Or.inl ⟨by rfl, ?_⟩) (by assumption) ?_
          rotate_left
          · (intro w1 hSw; obtain ⟨x1, rfl⟩ := hSw; go_simp; (try with_reducible rfl))
          (try simp only [Act.put, List.setIfInBounds_toArray, List.set_cons_zero, List.set_cons_succ])
          refine wpAnyH_take (i := 24) (v := ?_) (held_at rfl) (by kernel_rfl) (by kernel_rfl) (by kernel_rfl) (fun _ _ _ h => h) (Or.inl ⟨by rfl, ?_⟩) (by assumption) ?_
          rotate_left
          · (intro w1 hSw; obtain ⟨x1, rfl⟩ := hSw; go_simp; (try with_reducible rfl))
          (try simp only [Act.put, List.setIfInBounds_toArray, List.set_cons_zero, List.set_cons_succ])
          refine wpAnyH_take (i := 25) (v := ?_) (held_at rfl) (by kernel_rfl) (by kernel_rfl) (by kernel_rfl) (fun _ _ _ h => h) (Or.inl ⟨by rfl, ?_⟩) (by assumption) ?_
          rotate_left
          · (intro w1 hSw; obtain ⟨x1, rfl⟩ := hSw; go_simp; (try with_reducible rfl))
          (try simp only [Act.put, List.setIfInBounds_toArray, List.set_cons_zero, List.set_cons_succ])
          refine wpAnyH_take (i := 26) (v := ?_) (held_at rfl) (by kernel_rfl) (by kernel_rfl) (by kernel_rfl) (fun _ _ _ h => h) (Or.inl ⟨by rfl, ?_⟩) (by assumption) ?_
          rotate_left
          · (intro w1 hSw; obtain ⟨x1, rfl⟩ := hSw; go_simp; (try with_reducible rfl))
          (try simp only [Act.put, List.setIfInBounds_toArray, List.set_cons_zero, List.set_cons_succ])
          refine wpAnyH_take (i := 27) (v := ?_) (held_at rfl) (by kernel_rfl) (by kernel_rfl) (by kernel_rfl) (fun _ _ _ h => h) (Or.inl ⟨by rfl, ?_⟩) (by assumption) ?_
          rotate_left
          · (intro w1 hSw; obtain ⟨x1, rfl⟩ := hSw; go_simp; (try with_reducible rfl))
          (try simp only [Act.put, List.setIfInBounds_toArray, List.set_cons_zero, List.set_cons_succ])
          refine wpAnyH_take (i := 28) (v := ?_) (held_at rfl) (by kernel_rfl) (by kernel_rfl) (by kernel_rfl) (fun _ _ _ h => h) (Or.inl ⟨by rfl, ?_⟩) (by assumption) ?_
          rotate_left
          · (intro w1 hSw; obtain ⟨x1, rfl⟩ := hSw; go_simp; (try with_reducible rfl))
          (try simp only [Act.put, List.setIfInBounds_toArray, List.set_cons_zero, List.set_cons_succ])
          refine wpAnyH_take (i := 29) (v := ?_) (held_at rfl) (by kernel_rfl) (by kernel_rfl) (by kernel_rfl) (fun _ _ _ h => h) (Or.inl ⟨by rfl, ?_⟩) (by assumption) ?_
          rotate_left
          · (intro w1 hSw; obtain ⟨x1, rfl⟩ := hSw; go_simp; (try with_reducible rfl))
          (try simp only [Act.put, List.setIfInBounds_toArray, List.set_cons_zero, List.set_cons_succ])
          refine wpAnyH_take (i := 30) (v := ?_) (held_at rfl) (by kernel_rfl) (by kernel_rfl) (by kernel_rfl) (fun _ _ _ h => h) (Or.inl ⟨by rfl, ?_⟩) (by assumption) ?_
          rotate_left
          · (intro w1 hSw; obtain ⟨x1, rfl⟩ := hSw; go_simp; (try with_reducible rfl))
          (try simp only [Act.put, List.setIfInBounds_toArray, List.set_cons_zero, List.set_cons_succ])
          refine wpAnyH_take (i := 32) (v := ?_) (held_at rfl) (by kernel_rfl) (by kernel_rfl) (by kernel_rfl) (fun _ _ _ h => h) (Or.inl ⟨by rfl, ?_⟩) (by assumption) ?_
          rotate_left
          · (intro w1 hSw; obtain ⟨x1, rfl⟩ := hSw; go_simp; (try with_reducible rfl))
          (try simp only [Act.put, List.setIfInBounds_toArray, List.set_cons_zero, List.set_cons_succ])
          refine wpAnyH_take (i := 33) (v := ?_) (held_at rfl) (by kernel_rfl) (by kernel_rfl) (by kernel_rfl) (fun _ _ _ h => h) (Or.inl ⟨by rfl, ?_⟩) (by assumption) ?_
          rotate_left
          · (intro w1 hSw; obtain ⟨x1, rfl⟩ := hSw; go_simp; (try with_reducible rfl))
          (try simp only [Act.put, List.setIfInBounds_toArray, List.set_cons_zero, List.set_cons_succ])
          refine wpAnyH_take (i := 35) (v := ?_) (held_at rfl) (by kernel_rfl) (by kernel_rfl) (by kernel_rfl) (fun _ _ _ h => h) (Or.inl ⟨by rfl, ?_⟩) (by assumption) ?_
          rotate_left
          · (intro w1 hSw; obtain ⟨x1, rfl⟩ := hSw; go_simp; (try with_reducible rfl))
          (try simp only [Act.put, List.setIfInBounds_toArray, List.set_cons_zero, List.set_cons_succ])
          refine wpAnyH_take (i := 36) (v := ?_) (held_at rfl) (by kernel_rfl) (by kernel_rfl) (by kernel_rfl) (fun _ _ _ h => h) (Or.inl ⟨by rfl, ?_⟩) (by assumption) ?_
          rotate_left
          · (intro w1 hSw; obtain ⟨x1, rfl⟩ := hSw; go_simp; (try with_reducible rfl))
          (try simp only [Act.put, List.setIfInBounds_toArray, List.set_cons_zero, List.set_cons_succ])
          refine wpAnyH_take (i := 38) (v := ?_) (held_at rfl) (by kernel_rfl) (by kernel_rfl) (by kernel_rfl) (fun _ _ _ h => h) (Or.inl ⟨by rfl, ?_⟩) (by assumption) ?_
          rotate_left
          · (intro w1 hSw; obtain ⟨x1, rfl⟩ := hSw; go_simp; (try with_reducible rfl))
          (try simp only [Act.put, List.setIfInBounds_toArray, List.set_cons_zero, List.set_cons_succ])
          refine wpAnyH_take (i := 39) (v := ?_) (held_at rfl) (by kernel_rfl) (by kernel_rfl) (by kernel_rfl) (fun _ _ _ h => h) (Or.inl ⟨by rfl, ?_⟩) (by assumption) ?_
          rotate_left
          · (intro w1 hSw; obtain ⟨x1, rfl⟩ := hSw; go_simp; (try with_reducible rfl))
          (try simp only [Act.put, List.setIfInBounds_toArray, List.set_cons_zero, List.set_cons_succ])
          refine wpAnyH_ready (rs := [31]) (by kernel_rfl) (by simp) ?_
          refine AllReadyH.cons (held_at rfl) (fun K hK => ?_) AllReadyH.nil
          go_simp
          refine (q3 _).mono ?_
          rintro e w' ⟨rfl, hc'⟩
          obtain ⟨y, rfl⟩ := Wd.next hc'
          clear hc'
          refine hK.out _ _ (InWd.start y) (fun hS => ?_)
          clear hK K
          (try simp only [Act.put, List.setIfInBounds_toArray, List.set_cons_zero, List.set_cons_succ])
          refine wpAnyH_ready (rs := [34]) (by kernel_rfl) (by simp) ?_
          refine AllReadyH.cons (held_at rfl) (fun K hK => ?_) AllReadyH.nil
          go_simp
          refine (q4 _).mono ?_
          rintro e w' ⟨rfl, hc'⟩
          obtain ⟨y, rfl⟩ := Wd.next hc'
          clear hc'
          refine hK.out _ _ (InWd.start y) (fun hS => ?_)
          clear hK K
          (try simp only [Act.put, List.setIfInBounds_toArray, List.set_cons_zero, List.set_cons_succ])
          refine wpAnyH_ready (rs := [37]) (by kernel_rfl) (by simp) ?_
          refine AllReadyH.cons (held_at rfl) (fun K hK => ?_) AllReadyH.nil
          go_simp
          refine (q5 _).mono ?_
          rintro e w' ⟨rfl, hc'⟩
          obtain ⟨y, rfl⟩ := Wd.next hc'
          clear hc'
          refine hK.out _ _ (InWd.start y) (fun hS => ?_)
          clear hK K
          (try simp only [Act.put, List.setIfInBounds_toArray, List.set_cons_zero, List.set_cons_succ])
          refine wpAnyH_ready (rs := [40]) (by kernel_rfl) (by simp) ?_
          refine AllReadyH.cons (held_at rfl) (fun K hK => ?_) AllReadyH.nil
          go_simp
          refine (q6 _).mono ?_
          rintro e w' ⟨rfl, hc'⟩
          obtain ⟨y, rfl⟩ := Wd.next hc'
          clear hc'
          refine hK.out _ _ (InWd.start y) (fun hS => ?_)
          clear hK K
          (try simp only [Act.put, List.setIfInBounds_toArray, List.set_cons_zero, List.set_cons_succ])
          refine wpAnyH_ready (rs := [41]) (by kernel_rfl) (by simp) ?_
          refine AllReadyH.cons (held_at rfl) (fun K hK => ?_) AllReadyH.nil
          go_simp
          obtain ⟨z, hz⟩ := Wd.next ((Chg.refl No y.w).alloc (.cells #[.int .i64 e0, .int .i64 e1, .int .i64 e2, .int .i64 e3] 54))
          have q9 := p9 y
          rw [← hz] at q9 ⊢
          clear hz
          refine hK.out _ _ (InWd.start z) (fun hS => ?_)
          clear hK K
          (try simp only [Act.put, List.setIfInBounds_toArray, List.set_cons_zero, List.set_cons_succ])
          refine wpAnyH_ready (rs := [42]) (by kernel_rfl) (by simp) ?_
          refine AllReadyH.cons (held_at rfl) (fun K hK => ?_) AllReadyH.nil
          go_simp
          refine (q9).mono ?_
          rintro e w' ⟨rfl, hc'⟩
          obtain ⟨y, rfl⟩ := Wd.next hc'
          clear hc'
          refine hK.out _ _ (InWd.start y) (fun hS => ?_)
          clear hK K
          (try simp only [Act.put, List.setIfInBounds_toArray, List.set_cons_zero, List.set_cons_succ])
          refine wpAnyH_take (i := 43) (v := ?_) (held_at rfl) (by kernel_rfl) (by kernel_rfl) (by kernel_rfl) (fun _ _ _ h => h) (Or.inl ⟨by rfl, ?_⟩) (by assumption) ?_
          rotate_left
          · (intro w1 hSw; obtain ⟨x1, rfl⟩ := hSw; go_simp; (try with_reducible rfl))
          (try simp only [Act.put, List.setIfInBounds_toArray, List.set_cons_zero, List.set_cons_succ])
          refine wpAnyH_take (i := 44) (v := ?_) (held_at rfl) (by kernel_rfl) (by kernel_rfl) (by kernel_rfl) (fun _ _ _ h => h) (Or.inl ⟨by rfl, ?_⟩) (by assumption) ?_
          rotate_left
          · (intro w1 hSw; obtain ⟨x1, rfl⟩ := hSw; go_simp; (try with_reducible rfl))
          (try simp only [Act.put, List.setIfInBounds_toArray, List.set_cons_zero, List.set_cons_succ])
          cases b4 with
          | false =>
            refine wpAnyH_take (i := 45) (v := undef) (held_at rfl) (by kernel_rfl) (by kernel_rfl) (by kernel_rfl) (fun _ _ _ h => h) (Or.inr ⟨by rfl, rfl⟩) (by assumption) ?_
            (try simp only [Act.put, List.setIfInBounds_toArray, List.set_cons_zero, List.set_cons_succ])
            refine wpAnyH_take (i := 46) (v := undef) (held_at rfl) (by kernel_rfl) (by kernel_rfl) (by kernel_rfl) (fun _ _ _ h => h) (Or.inr ⟨by rfl, rfl⟩) (by assumption) ?_
            (try simp only [Act.put, List.setIfInBounds_toArray, List.set_cons_zero, List.set_cons_succ])
            refine wpAnyH_take (i := 47) (v := undef) (held_at rfl) (by kernel_rfl) (by kernel_rfl) (by kernel_rfl) (fun _ _ _ h => h) (Or.inr ⟨by rfl, rfl⟩) (by assumption) ?_
            (try simp only [Act.put, List.setIfInBounds_toArray, List.set_cons_zero, List.set_cons_succ])
            refine wpAnyH_take (i := 48) (v := ?_) (held_at rfl) (by kernel_rfl) (by kernel_rfl) (by kernel_rfl) (fun _ _ _ h => h) (Or.inl ⟨by rfl, ?_⟩) (by assumption) ?_
            rotate_left
            · (intro w1 hSw; obtain ⟨x1, rfl⟩ := hSw; go_simp; (try with_reducible rfl))
            (try simp only [Act.put, List.setIfInBounds_toArray, List.set_cons_zero, List.set_cons_succ])
            refine wpAnyH_take (i := 49) (v := ?_) (held_at rfl) (by kernel_rfl) (by kernel_rfl) (by kernel_rfl) (fun _ _ _ h => h) (Or.inl ⟨by rfl, ?_⟩) (by assumption) ?_
            rotate_left
            · (intro w1 hSw; obtain ⟨x1, rfl⟩ := hSw; go_simp; (try with_reducible rfl))
            (try simp only [Act.put, List.setIfInBounds_toArray, List.set_cons_zero, List.set_cons_succ])
            refine wpAnyH_take (i := 50) (v := undef) (held_at rfl) (by kernel_rfl) (by kernel_rfl) (by kernel_rfl) (fun _ _ _ h => h) (Or.inr ⟨by rfl, rfl⟩) (by assumption) ?_
            (try simp only [Act.put, List.setIfInBounds_toArray, List.set_cons_zero, List.set_cons_succ])
            refine wpAnyH_take (i := 51) (v := undef) (held_at rfl) (by kernel_rfl) (by kernel_rfl) (by kernel_rfl) (fun _ _ _ h => h) (Or.inr ⟨by rfl, rfl⟩) (by assumption) ?_
            (try simp only [Act.put, List.setIfInBounds_toArray, List.set_cons_zero, List.set_cons_succ])
            refine wpAnyH_take (i := 52) (v := undef) (held_at rfl) (by kernel_rfl) (by kernel_rfl) (by kernel_rfl) (fun _ _ _ h => h) (Or.inr ⟨by rfl, rfl⟩) (by assumption) ?_
            (try simp only [Act.put, List.setIfInBounds_toArray, List.set_cons_zero, List.set_cons_succ])
            refine wpAnyH_take (i := 53) (v := ?_) (held_at rfl) (by kernel_rfl) (by kernel_rfl) (by kernel_rfl) (fun _ _ _ h => h) (Or.inl ⟨by rfl, ?_⟩) (by assumption) ?_
            rotate_left
            · (intro w1 hSw; obtain ⟨x1, rfl⟩ := hSw; go_simp; (try with_reducible rfl))
            (try simp only [Act.put, List.setIfInBounds_toArray, List.set_cons_zero, List.set_cons_succ])
            refine wpAnyH_take (i := 54) (v := ?_) (held_at rfl) (by kernel_rfl) (by kernel_rfl) (by kernel_rfl) (fun _ _ _ h => h) (Or.inl ⟨by rfl, ?_⟩) (by assumption) ?_
            rotate_left
            · (intro w1 hSw; obtain ⟨x1, rfl⟩ := hSw; go_simp; (try with_reducible rfl))
            (try simp only [Act.put, List.setIfInBounds_toArray, List.set_cons_zero, List.set_cons_succ])
            refine wpAnyH_done (by kernel_rfl) ?_ _
            go_wp2_with fail
            go_ret
            refine ⟨?_, hcw.trans (Wd.chg _)⟩
            have hbb := HB4.out
            rw [HR.out]
            rw [hbb]
            first | (simp_all; done) | (simp_all <;> (intros; omega))
          | true =>
            refine wpAnyH_take (i := 45) (v := ?_) (held_at rfl) (by kernel_rfl) (by kernel_rfl) (by kernel_rfl) (fun _ _ _ h => h) (Or.inl ⟨by rfl, ?_⟩) (by assumption) ?_
            rotate_left
            · (intro w1 hSw; obtain ⟨x1, rfl⟩ := hSw; go_simp; (try with_reducible rfl))
            (try simp only [Act.put, List.setIfInBounds_toArray, List.set_cons_zero, List.set_cons_succ])
            refine wpAnyH_take (i := 46) (v := ?_) (held_at rfl) (by kernel_rfl) (by kernel_rfl) (by kernel_rfl) (fun _ _ _ h => h) (Or.inl ⟨by rfl, ?_⟩) (by assumption) ?_
            rotate_left
            · (intro w1 hSw; obtain ⟨x1, rfl⟩ := hSw; go_simp; (try with_reducible rfl))
            (try simp only [Act.put, List.setIfInBounds_toArray, List.set_cons_zero, List.set_cons_succ])
            refine wpAnyH_ready (rs := [47]) (by kernel_rfl) (by simp) ?_
            refine AllReadyH.cons (held_at rfl) (fun K hK => ?_) AllReadyH.nil
            go_simp
            refine (q7 _).mono ?_
            rintro e w' ⟨rfl, hc'⟩
            obtain ⟨y, rfl⟩ := Wd.next hc'
            clear hc'
            refine hK.out _ _ (InWd.start y) (fun hS => ?_)
            clear hK K
            (try simp only [Act.put, List.setIfInBounds_toArray, List.set_cons_zero, List.set_cons_succ])
            refine wpAnyH_take (i := 48) (v := ?_) (held_at rfl) (by kernel_rfl) (by kernel_rfl) (by kernel_rfl) (fun _ _ _ h => h) (Or.inl ⟨by rfl, ?_⟩) (by assumption) ?_
            rotate_left
            · (intro w1 hSw; obtain ⟨x1, rfl⟩ := hSw; go_simp; (try with_reducible rfl))
            (try simp only [Act.put, List.setIfInBounds_toArray, List.set_cons_zero, List.set_cons_succ])
            refine wpAnyH_take (i := 49) (v := ?_) (held_at rfl) (by kernel_rfl) (by kernel_rfl) (by kernel_rfl) (fun _ _ _ h => h) (Or.inl ⟨by rfl, ?_⟩) (by assumption) ?_
            rotate_left
            · (intro w1 hSw; obtain ⟨x1, rfl⟩ := hSw; go_simp; (try with_reducible rfl))
            (try simp only [Act.put, List.setIfInBounds_toArray, List.set_cons_zero, List.set_cons_succ])
            cases n1 with
            | false =>
              refine wpAnyH_take (i := 50) (v := undef) (held_at rfl) (by kernel_rfl) (by kernel_rfl) (by kernel_rfl) (fun _ _ _ h => h) (Or.inr ⟨by rfl, rfl⟩) (by assumption) ?_
              (try simp only [Act.put, List.setIfInBounds_toArray, List.set_cons_zero, List.set_cons_succ])
              refine wpAnyH_take (i := 51) (v := undef) (held_at rfl) (by kernel_rfl) (by kernel_rfl) (by kernel_rfl) (fun _ _ _ h => h) (Or.inr ⟨by rfl, rfl⟩) (by assumption) ?_
              (try simp only [Act.put, List.setIfInBounds_toArray, List.set_cons_zero, List.set_cons_succ])
              refine wpAnyH_take (i := 52) (v := undef) (held_at rfl) (by kernel_rfl) (by kernel_rfl) (by kernel_rfl) (fun _ _ _ h => h) (Or.inr ⟨by rfl, rfl⟩) (by assumption) ?_
              (try simp only [Act.put, List.setIfInBounds_toArray, List.set_cons_zero, List.set_cons_succ])
              refine wpAnyH_take (i := 53) (v := ?_) (held_at rfl) (by kernel_rfl) (by kernel_rfl) (by kernel_rfl) (fun _ _ _ h => h) (Or.inl ⟨by rfl, ?_⟩) (by assumption) ?_
              rotate_left
              · (intro w1 hSw; obtain ⟨x1, rfl⟩ := hSw; go_simp; (try with_reducible rfl))
              (try simp only [Act.put, List.setIfInBounds_toArray, List.set_cons_zero, List.set_cons_succ])
              refine wpAnyH_take (i := 54) (v := ?_) (held_at rfl) (by kernel_rfl) (by kernel_rfl) (by kernel_rfl) (fun _ _ _ h => h) (Or.inl ⟨by rfl, ?_⟩) (by assumption) ?_
              rotate_left
              · (intro w1 hSw; obtain ⟨x1, rfl⟩ := hSw; go_simp; (try with_reducible rfl))
              (try simp only [Act.put, List.setIfInBounds_toArray, List.set_cons_zero, List.set_cons_succ])
              refine wpAnyH_done (by kernel_rfl) ?_ _
              go_wp2_with fail
              go_ret
              refine ⟨?_, hcw.trans (Wd.chg _)⟩
              have hbb := HB4.out
              rw [HR.out]
              rw [hbb]
              first | (simp_all; done) | (simp_all <;> (intros; omega))
            | true =>
              refine wpAnyH_take (i := 50) (v := ?_) (held_at rfl) (by kernel_rfl) (by kernel_rfl) (by kernel_rfl) (fun _ _ _ h => h) (Or.inl ⟨by rfl, ?_⟩) (by assumption) ?_
              rotate_left
              · (intro w1 hSw; obtain ⟨x1, rfl⟩ := hSw; go_simp; (try with_reducible rfl))
              (try simp only [Act.put, List.setIfInBounds_toArray, List.set_cons_zero, List.set_cons_succ])
              refine wpAnyH_take (i := 51) (v := ?_) (held_at rfl) (by kernel_rfl) (by kernel_rfl) (by kernel_rfl) (fun _ _ _ h => h) (Or.inl ⟨by rfl, ?_⟩) (by assumption) ?_
              rotate_left
              · (intro w1 hSw; obtain ⟨x1, rfl⟩ := hSw; go_simp; (try with_reducible rfl))
              (try simp only [Act.put, List.setIfInBounds_toArray, List.set_cons_zero, List.set_cons_succ])
              refine wpAnyH_ready (rs := [52]) (by kernel_rfl) (by simp) ?_
              refine AllReadyH.cons (held_at rfl) (fun K hK => ?_) AllReadyH.nil
              go_simp
              refine (q8 _).mono ?_
              rintro e w' ⟨rfl, hc'⟩
              obtain ⟨y, rfl⟩ := Wd.next hc'
              clear hc'
              refine hK.out _ _ (InWd.start y) (fun hS => ?_)
              clear hK K
              (try simp only [Act.put, List.setIfInBounds_toArray, List.set_cons_zero, List.set_cons_succ])
              refine wpAnyH_take (i := 53) (v := ?_) (held_at rfl) (by kernel_rfl) (by kernel_rfl) (by kernel_rfl) (fun _ _ _ h => h) (Or.inl ⟨by rfl, ?_⟩) (by assumption) ?_
              rotate_left
              · (intro w1 hSw; obtain ⟨x1, rfl⟩ := hSw; go_simp; (try with_reducible rfl))
              (try simp only [Act.put, List.setIfInBounds_toArray, List.set_cons_zero, List.set_cons_succ])
              refine wpAnyH_take (i := 54) (v := ?_) (held_at rfl) (by kernel_rfl) (by kernel_rfl) (by kernel_rfl) (fun _ _ _ h => h) (Or.inl ⟨by rfl, ?_⟩) (by assumption) ?_
              rotate_left
              · (intro w1 hSw; obtain ⟨x1, rfl⟩ := hSw; go_simp; (try with_reducible rfl))
              (try simp only [Act.put, List.setIfInBounds_toArray, List.set_cons_zero, List.set_cons_succ])
              refine wpAnyH_done (by kernel_rfl) ?_ _
              go_wp2_with fail
              go_ret
              refine ⟨?_, hcw.trans (Wd.chg _)⟩
              have hbb := HB4.out
              rw [HR.out]
              rw [hbb]
              first | (simp_all; done) | (simp_all <;> (intros; omega))
        · skip
          refine wp_region_wd2 y (by kernel_rfl) (by kernel_rfl) ?_
          repeat (refine WQ.step (fun K hK => ?_); go_simp; first | (refine hK _ ?_; clear hK K) | (apply Exists.intro; refine ⟨fun _ => ?_, hK _ ?_⟩; (go_at_call 94; exact wd_calls (q1 _)); clear hK K))
          refine WQ.nil ?_
          rintro _ ⟨z, rfl⟩
          go_wp2_with fail
          go_ret
          refine ⟨?_, hcw.trans z.chg⟩
          rw [HR.out]
          first | (simp_all; done) | (simp_all <;> (intros; omega))
end Go.Proofs.YthpmgnbehahkfaaGreat
