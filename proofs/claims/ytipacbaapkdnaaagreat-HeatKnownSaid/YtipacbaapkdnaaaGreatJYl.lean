/- drayageref12.Share (printed by genyl.py). -/
import Derived.Test.YtipacbaapkdnaaaGreatJYk
import Derived.Test.YtipacbaapkdnaaaGreatJDk
set_option linter.unusedSimpArgs false
set_option linter.unusedVariables false
namespace Go.Proofs.YtipacbaapkdnaaaGreat
open Go.RowKit Go.Dk

def shV (s : SnapD) (l : Lst Int) (x : Int) (i : Nat) : Int := if mayNB s l x then shareV (usedV s l x i) ((s.nodes.el x.toNat).cap i) else 0
def two (a b : Int) : Value := .agg #[.int .i64 a, .int .i64 b]
theorem cap_qty {s : SnapD} {l : Lst Int} {x : Int} (h : mayNB s l x = true) (i : Nat) (hi : i < 5) : Qty ((s.nodes.el x.toNat).cap i) := by
  obtain ⟨h1, h2, h3⟩ := mayNB_facts h
  obtain ⟨h4, -⟩ := may_facts h1
  exact shaped_caps h4 i hi _ (by omega)

set_option maxRecDepth 100000 in
set_option maxHeartbeats 4000000 in
theorem refShare_any {w : World} {n p o q : Value} {s : SnapD} {lv tv : Nat → Value} {pv : Nat → PodV} (h : SnapAt w n p o s lv tv pv) {l : Lst Int} (hq : IntsAt w q l) (x : Int) :
    Calls Tryz.prog 11 #[.agg #[n, p, o], q, .int .i64 x] w fun e w' => e = .returned (two (shV s l x 0) (shV s l x 1)) ∧ Chg No w w' := by
  have hcw := ((Chg.refl No w).alloc (.cells #[n, p, o] 26)).alloc (.cells #[.int .i64 0, .int .i64 0] 28)
  have hA := heap_alloc_old' (heap_alloc_new w (.cells #[n, p, o] 26)) (o' := .cells #[.int .i64 0, .int .i64 0] 28)
  have hR := heap_alloc_new (w.alloc (.cells #[n, p, o] 26)) (.cells #[.int .i64 0, .int .i64 0] 28)
  simp only [World.size_alloc] at hR
  have hS := h.no hcw
  have hQ := hq.no hcw
  have p1 := fun W (hc : Chg No _ W) => refMay_any (hS.no hc) (hQ.no hc) x
  have p2 := fun W (hc : Chg No _ W) => refUsed_any (hS.no hc) (hQ.no hc) x
  obtain ⟨na, nc, pa, pc, oa, oc, rfl, rfl, rfl⟩ := h.args
  obtain ⟨hqn, qa, qc, rfl, -⟩ := hq
  obtain ⟨-, hxn⟩ := hS.nodes.sl
  clear h hS hQ
  unfold Gives at p1
  obtain ⟨g0, hg0⟩ : ∃ r, r = shV s l x 0 := ⟨_, rfl⟩
  obtain ⟨g1, hg1⟩ : ∃ r, r = shV s l x 1 := ⟨_, rfl⟩
  rw [← hg0, ← hg1]
  unfold two
  go_enter Tryz.func11, Tryz.ntmps11
  go_wp2_with fail
  generalize (w.alloc _).alloc _ = W at hcw hA hR p1 p2 hxn ⊢
  generalize hBe : w.heap.size = B at hA hR ⊢
  have HBe := Go.Lib.hid hBe
  clear hBe
  refine (p1 _ (Chg.refl _ _)).mono ?_
  rintro e V ⟨rfl, hc⟩
  cases hm : mayNB s l x with
  | false =>
    have e0 : g0 = 0 := by rw [hg0]; unfold shV; rw [hm]; rfl
    have e1 : g1 = 0 := by rw [hg1]; unfold shV; rw [hm]; rfl
    subst e0 e1
    have hR2 := hc.heap hR id
    have u0 : V.cell? ⟨B + 1, 0, none⟩ = some (.int .i64 0) := cell_of_heap hR2 rfl
    have u1 : V.cell? ⟨B + 1, 1, none⟩ = some (.int .i64 0) := cell_of_heap hR2 rfl
    have z0 : V.frozen? ⟨B + 1, 0, none⟩ = false := free_of_heap hR2
    have z1 : V.frozen? ⟨B + 1, 1, none⟩ = false := free_of_heap hR2
    clear p1 p2 hg0 hg1 hm hxn hA hR
    go_wp2_with fail
    have hz := hset_same (j := 1) (hset_same (j := 0) hR2 (.int .i64 0)) (.int .i64 0)
    have hch : Chg (· = B + 1) V _ := ((Chg.refl (· = B + 1) V).setCell (p := ⟨B + 1, 0, none⟩) (fun _ => rfl) (.int .i64 0)).setCell (p := ⟨B + 1, 1, none⟩) (fun _ => rfl) (.int .i64 0)
    generalize (V.setCell _ _).setCell _ _ = W3 at hz hch ⊢
    have c0 : W3.cell? ⟨B + 1, 0, none⟩ = some (.int .i64 0) := cell_of_heap hz rfl
    have c1 : W3.cell? ⟨B + 1, 1, none⟩ = some (.int .i64 0) := cell_of_heap hz rfl
    (try simp only [Exit.inBlock, Exit.then])
    refine bodyPost_ret (by simp [results, Tryz.results11, go_sem, c0, c1]; try rfl) rfl ?_
    exact ⟨rfl, (hcw.trans hc).trans' hch (fun i h1 h2 => by have := HBe.out; omega)⟩
  | true =>
    obtain ⟨m1, m2, m3⟩ := mayNB_facts hm
    obtain ⟨k, rfl⟩ : ∃ k : Nat, x = k := ⟨x.toNat, by omega⟩
    have hk : k < s.nodes.n := by omega
    have e0 : g0 = shareV (usedV s l k 0) ((s.nodes.el k).cap 0) := by rw [hg0]; unfold shV; rw [if_pos hm]; rfl
    have e1 : g1 = shareV (usedV s l k 1) ((s.nodes.el k).cap 1) := by rw [hg1]; unfold shV; rw [if_pos hm]; rfl
    have s0 := fun W => refOne_any (usedV s l k 0) ((s.nodes.el k).cap 0) (usedV_qty s l k 0 (by omega)) (cap_qty hm 0 (by omega)) W
    have s1 := fun W => refOne_any (usedV s l k 1) ((s.nodes.el k).cap 1) (usedV_qty s l k 1 (by omega)) (cap_qty hm 1 (by omega)) W
    rw [← e0] at s0
    rw [← e1] at s1
    unfold Gives at s0 s1
    have p3 := p2 V hc
    obtain ⟨-, nb, no, rfl, ncell⟩ := (hxn.no hc).2.2.2 k hk
    have n1 := ncell 1 _ rfl
    have n2 := ncell 2 _ rfl
    have n3 := ncell 3 _ rfl
    have n4 := ncell 4 _ rfl
    have n5 := ncell 5 _ rfl
    have a0 := hc.cell (cell_of_heap (j := 0) hA rfl) id
    have a1 := hc.cell (cell_of_heap (j := 1) hA rfl) id
    have a2 := hc.cell (cell_of_heap (j := 2) hA rfl) id
    have hR2 := hc.heap hR id
    have hcw := hcw.trans hc
    have hlt' : (k : Int) < (s.nodes.n : Int) := by omega
    have hlt0 : (0 : Int) ≤ (k : Int) := by omega
    generalize usedV s l k = f at *
    generalize (s.nodes.el k).cap = cp at *
    clear p1 p2 hg0 hg1 hm hxn hA hR ncell m1 m2 m3 e0 e1 hc
    go_wp2_with (go_at_call 36; refine p3.mono ?_; rintro e V2 ⟨rfl, hc2⟩; unfold cells5; have n1 := fun o => cell_alloc_of (hc2.cell n1 id) o; have n2 := fun o => cell_alloc_of (hc2.cell n2 id) o; have n3 := fun o => cell_alloc_of (hc2.cell n3 id) o; have n4 := fun o => cell_alloc_of (hc2.cell n4 id) o; have n5 := fun o => cell_alloc_of (hc2.cell n5 id) o; have a0 := fun o => cell_alloc_of (hc2.cell a0 id) o; have a1 := fun o => cell_alloc_of (hc2.cell a1 id) o; have a2 := fun o => cell_alloc_of (hc2.cell a2 id) o)
    have hF := heap_alloc_old' (heap_alloc_new V2 (.cells (cells5 f).toArray 46)) (o' := .cells (cells5 cp).toArray 46)
    have hC := heap_alloc_new (V2.alloc (.cells (cells5 f).toArray 46)) (.cells (cells5 cp).toArray 46)
    have hR5 := ((Chg.refl No V2).alloc (.cells (cells5 f).toArray 46)).alloc (.cells (cells5 cp).toArray 46)
    have hcw5 := (hcw.trans hc2).trans hR5
    have hR6 := hR5.heap (hc2.heap hR2 id) id
    simp only [World.size_alloc] at hC
    unfold cells5 at hF hC hR5 hcw5 hR6
    clear n1 n2 n3 n4 n5 a0 a1 a2 hR5 hR2 p3 hc2 hcw
    generalize (V2.alloc _).alloc _ = W5 at hF hC hcw5 hR6 ⊢
    generalize V2.heap.size = D at hF hC ⊢
    have f0 : ∀ y : Wd No W5, y.w.cell? ⟨D, 0, none⟩ = some (.int .i64 (f 0)) := fun y => y.chg.cell (cell_of_heap hF rfl) id
    have f1 : ∀ y : Wd No W5, y.w.cell? ⟨D, 1, none⟩ = some (.int .i64 (f 1)) := fun y => y.chg.cell (cell_of_heap hF rfl) id
    have d0 : ∀ y : Wd No W5, y.w.cell? ⟨D + 1, 0, none⟩ = some (.int .i64 (cp 0)) := fun y => y.chg.cell (cell_of_heap hC rfl) id
    have d1 : ∀ y : Wd No W5, y.w.cell? ⟨D + 1, 1, none⟩ = some (.int .i64 (cp 1)) := fun y => y.chg.cell (cell_of_heap hC rfl) id
    have u0 : ∀ y : Wd No W5, y.w.cell? ⟨B + 1, 0, none⟩ = some (.int .i64 0) := fun y => y.chg.cell (cell_of_heap hR6 rfl) id
    have u1 : ∀ y : Wd No W5, y.w.cell? ⟨B + 1, 1, none⟩ = some (.int .i64 0) := fun y => y.chg.cell (cell_of_heap hR6 rfl) id
    have z0 : ∀ y : Wd No W5, y.w.frozen? ⟨B + 1, 0, none⟩ = false := fun y => free_of_heap (y.chg.heap hR6 id)
    have z1 : ∀ y : Wd No W5, y.w.frozen? ⟨B + 1, 1, none⟩ = false := fun y => free_of_heap (y.chg.heap hR6 id)
    have hR7 := fun y : Wd No W5 => y.chg.heap hR6 id
    clear hF hC hR6
    obtain ⟨y, hy⟩ := Wd.start No W5
    rw [← hy]
    clear hy
    refine wp_region_last' 11 y rfl rfl (by kernel_rfl) (by kernel_rfl) (by kernel_rfl) ?_
    simp only [List.take_succ_cons, List.take_zero]
    repeat (refine WQ.step (fun K hK => ?_); go_simp; first | (refine hK _ ?_; clear hK K) | (apply Exists.intro; refine ⟨fun _ => ?_, hK _ ?_⟩; (first | (go_at_call 37; have m2 := m1; exact wd_calls (s1 _)) | (go_at_call 37; exact wd_calls (s0 _))); clear hK K; (try have m1 := True.intro)))
    refine WQ.nil ?_
    refine LastOk.of ?_
    rintro _ ⟨z, rfl⟩ K hK
    go_simp
    refine hK _ _ ?_
    clear hK K
    go_wp2_with fail
    have hz := hset_same (j := 1) (hset_same (j := 0) (hR7 z) (.int .i64 g0)) (.int .i64 g1)
    have hch : Chg (· = B + 1) z.w _ := ((Chg.refl (· = B + 1) z.w).setCell (p := ⟨B + 1, 0, none⟩) (fun _ => rfl) (.int .i64 g0)).setCell (p := ⟨B + 1, 1, none⟩) (fun _ => rfl) (.int .i64 g1)
    generalize (z.w.setCell _ _).setCell _ _ = W3 at hz hch ⊢
    have c0 : W3.cell? ⟨B + 1, 0, none⟩ = some (.int .i64 g0) := cell_of_heap hz rfl
    have c1 : W3.cell? ⟨B + 1, 1, none⟩ = some (.int .i64 g1) := cell_of_heap hz rfl
    (try simp only [Exit.inBlock, Exit.then])
    refine bodyPost_ret (by simp [results, Tryz.results11, go_sem, c0, c1]; try rfl) rfl ?_
    exact ⟨rfl, (hcw5.trans z.chg).trans' hch (fun i h1 h2 => by have := HBe.out; omega)⟩
end Go.Proofs.YtipacbaapkdnaaaGreat
