/- heat.Share. -/
import Derived.Test.YtipacbaapkdnaaaGreatJYs
import Derived.Test.YtipacbaapkdnaaaGreatJYl
set_option linter.unusedSimpArgs false
set_option linter.unusedVariables false
namespace Go.Proofs.YtipacbaapkdnaaaGreat
open Go.RowKit Go.Dk

def TwoIs (w : World) (g : Nat) (x : Nat → Int) : Prop := w.heap[g]? = some (.cells #[.int .i64 (x 0), .int .i64 (x 1)] 28 (0, 0))
theorem TwoIs.set {w : World} {g : Nat} {x : Nat → Int} (h : TwoIs w g x) (i : Nat) (hi : i < 2) (n : Int) : TwoIs (w.setCell ⟨g, i, none⟩ (.int .i64 n)) g (fun j => if j = i then n else x j) := by
  unfold TwoIs at *
  rw [hset_same h]
  match i, hi with
  | 0, _ => rfl
  | 1, _ => rfl
theorem TwoIs.cell {w : World} {g : Nat} {x : Nat → Int} (h : TwoIs w g x) (i : Nat) (hi : i < 2) : w.cell? ⟨g, i, none⟩ = some (.int .i64 (x i)) := by
  match i, hi with
  | 0, _ => exact cell_of_heap h rfl
  | 1, _ => exact cell_of_heap h rfl
theorem TwoIs.congr {w : World} {g : Nat} {x y : Nat → Int} (h : TwoIs w g x) (e : ∀ i, i < 2 → x i = y i) : TwoIs w g y := by
  unfold TwoIs at *
  rw [← e 0 (by omega), ← e 1 (by omega)]
  exact h

def ShRel (V : World) (g : Nat) (f : Nat → Int) (i : Value) (wr : World) : Prop :=
  ∃ m : Nat, i = .int .i64 m ∧ m ≤ 2 ∧ TwoIs wr g (fun j => if j < m then f j else 0) ∧ Chg (· = g) V wr

set_option maxRecDepth 100000 in
set_option maxHeartbeats 4000000 in
theorem heatShare_any {w : World} {n p o q : Value} {s : SnapD} {lv tv : Nat → Value} {pv : Nat → PodV} (h : SnapAt w n p o s lv tv pv) {l : Lst Int} (hq : IntsAt w q l) (x : Int) :
    Calls Tryz.prog 10 #[.agg #[n, p, o], q, .int .i64 x] w fun e w' => e = .returned (two (shV s l x 0) (shV s l x 1)) ∧ Chg No w w' := by
  have hcw := ((Chg.refl No w).alloc (.cells #[n, p, o] 26)).alloc (.cells #[.int .i64 0, .int .i64 0] 28)
  have hA := heap_alloc_old' (heap_alloc_new w (.cells #[n, p, o] 26)) (o' := .cells #[.int .i64 0, .int .i64 0] 28)
  have hR := heap_alloc_new (w.alloc (.cells #[n, p, o] 26)) (.cells #[.int .i64 0, .int .i64 0] 28)
  simp only [World.size_alloc] at hR
  have hS := h.no hcw
  have hQ := hq.no hcw
  have p1 := fun W (hc : Chg No _ W) => heatMay_any (hS.no hc) (hQ.no hc)
  have p2 := fun W (hc : Chg No _ W) => placeUsed_any (hS.no hc) (hQ.no hc) x
  have hltN : ∀ ad, (∃ m c, n = .slice (some ad) m c) → 0 < s.nodes.n → ad.block < w.heap.size := by
    rintro ad ⟨m, c, rfl⟩ h0
    obtain ⟨-, hx⟩ := h.nodes.sl
    obtain ⟨-, b, o, e, hc⟩ := hx.2.2.2 0 h0
    cases e
    exact World.block_lt_of_cell? w _ (hc 0 _ rfl)
  obtain ⟨na, nc, pa, pc, oa, oc, rfl, rfl, rfl⟩ := h.args
  obtain ⟨hqn, qa, qc, rfl, -⟩ := hq
  obtain ⟨-, hxn⟩ := hS.nodes.sl
  clear h hS hQ
  unfold Gives at p1
  unfold two
  obtain ⟨gv, hgv⟩ : ∃ r, r = shV s l x := ⟨_, rfl⟩
  rw [← hgv]
  go_enter Tryz.func10, Tryz.ntmps10
  go_wp2_with fail
  generalize (w.alloc _).alloc _ = W at hcw hA hR p1 p2 hxn ⊢
  generalize hBe : w.heap.size = B at hA hR hltN ⊢
  have HBe := Go.Lib.hid hBe
  clear hBe
  refine (p1 _ (Chg.refl _ _)).mono ?_
  rintro e V ⟨rfl, hc⟩
  have a0 := hc.cell (cell_of_heap (j := 0) hA rfl) id
  have a1 := hc.cell (cell_of_heap (j := 1) hA rfl) id
  have a2 := hc.cell (cell_of_heap (j := 2) hA rfl) id
  cases hm : mayNB s l x with
  | false =>
    have e0 : gv = fun _ => 0 := by rw [hgv]; funext i; unfold shV; rw [hm]; rfl
    subst e0
    have hR2 := hc.heap hR id
    have u0 : V.cell? ⟨B + 1, 0, none⟩ = some (.int .i64 0) := cell_of_heap hR2 rfl
    have u1 : V.cell? ⟨B + 1, 1, none⟩ = some (.int .i64 0) := cell_of_heap hR2 rfl
    have z0 : V.frozen? ⟨B + 1, 0, none⟩ = false := free_of_heap hR2
    have z1 : V.frozen? ⟨B + 1, 1, none⟩ = false := free_of_heap hR2
    have hcs : mayB s l = false ∨ (mayB s l = true ∧ x < 0) ∨ (mayB s l = true ∧ ¬ x < 0 ∧ (s.nodes.n : Int) ≤ x) := by
      simp only [mayNB, Bool.and_eq_false_imp, Bool.and_eq_true, decide_eq_true_iff, decide_eq_false_iff_not] at hm
      by_cases h1 : mayB s l = true
      · by_cases h2 : x < 0
        · exact .inr (.inl ⟨h1, h2⟩)
        · exact .inr (.inr ⟨h1, h2, by have := hm ⟨h1, by omega⟩; omega⟩)
      · exact .inl (by simpa using h1)
    clear p1 p2 hm hxn hA hR hltN hgv
    generalize mayB s l = b at *
    rcases hcs with h1 | ⟨h1, h2⟩ | ⟨h1, h2, h3⟩
    all_goals
      subst h1
      go_wp2_with fail
      have hz := hset_same (j := 1) (hset_same (j := 0) hR2 (.int .i64 0)) (.int .i64 0)
      have hch : Chg (· = B + 1) V _ := ((Chg.refl (· = B + 1) V).setCell (p := ⟨B + 1, 0, none⟩) (fun _ => rfl) (.int .i64 0)).setCell (p := ⟨B + 1, 1, none⟩) (fun _ => rfl) (.int .i64 0)
      generalize (V.setCell _ _).setCell _ _ = W3 at hz hch ⊢
      have c0 : W3.cell? ⟨B + 1, 0, none⟩ = some (.int .i64 0) := cell_of_heap hz rfl
      have c1 : W3.cell? ⟨B + 1, 1, none⟩ = some (.int .i64 0) := cell_of_heap hz rfl
      (try simp only [Exit.inBlock, Exit.then])
      refine bodyPost_ret (by simp [results, Tryz.results10, go_sem, c0, c1]; try rfl) rfl ?_
      exact ⟨rfl, (hcw.trans hc).trans' hch (fun i h1 h2 => by have := HBe.out; omega)⟩
  | true =>
    obtain ⟨m1, m2, m3⟩ := mayNB_facts hm
    obtain ⟨k, rfl⟩ : ∃ k : Nat, x = k := ⟨x.toNat, by omega⟩
    have hk : k < s.nodes.n := by omega
    rw [m1]
    have hsh : ∀ i, i < 5 → ∀ W, Calls Tryz.prog 34 #[.int .i64 (usedV s l k i), .int .i64 ((s.nodes.el k).cap i)] W fun e w' => e = .returned (.int .i64 (gv i)) ∧ Chg No W w' := fun i hi W => by
      have := heatShare1_any (usedV s l k i) ((s.nodes.el k).cap i) (usedV_qty s l k i hi) (cap_qty hm i hi) W
      unfold Gives at this
      have e : gv i = shareV (usedV s l k i) ((s.nodes.el k).cap i) := by rw [hgv]; unfold shV; rw [if_pos hm]; rfl
      rw [e]; exact this
    have p3 := p2 V hc
    obtain ⟨-, nb, no, rfl, ncell⟩ := (hxn.no hc).2.2.2 k hk
    have hnb := hltN ⟨nb, no, none⟩ ⟨_, _, rfl⟩ (by omega)
    have ncap : ∀ m, m < 5 → V.cell? ⟨nb, no + k * 10 + 1 + m, none⟩ = some (.int .i64 ((s.nodes.el k).cap m)) := fun m hm => by
      have := ncell (1 + m) (.int .i64 ((s.nodes.el k).cap m)) (by
        match m, hm with
        | 0, _ => rfl
        | 1, _ => rfl
        | 2, _ => rfl
        | 3, _ => rfl
        | 4, _ => rfl)
      rwa [← Nat.add_assoc] at this
    have hR2 := hc.heap hR id
    have hcw := hcw.trans hc
    have hlt' : (k : Int) < (s.nodes.n : Int) := by omega
    have hlt0 : (0 : Int) ≤ (k : Int) := by omega
    generalize usedV s l k = f at *
    generalize (s.nodes.el k).cap = cp at *
    clear p1 p2 hm hxn hA hR ncell m1 m2 m3 hc hltN hgv
    go_wp2_with (go_at_call 28; refine p3.mono ?_; rintro e V2 ⟨rfl, hc2⟩; unfold cells5)
    have hF := heap_alloc_new V2 (.cells (cells5 f).toArray 46)
    have hc3 := hc2.alloc (.cells (cells5 f).toArray 46)
    have hR5 : TwoIs (V2.alloc (.cells (cells5 f).toArray 46)) (B + 1) (fun _ => 0) := hc3.heap hR2 id
    have hB2 := lt_of_heap (hc2.heap hR2 id)
    have a0 := hc3.cell a0 id
    have ncap := fun m hm => hc3.cell (ncap m hm) id
    have hcw := hcw.trans hc3
    unfold cells5 at hF hc3 hR5 a0 ncap hcw
    generalize V2.alloc _ = W5 at hF hc3 hR5 hcw a0 ncap ⊢
    generalize V2.heap.size = D at hF hB2 ⊢
    have hF : FiveIs W5 D f := hF
    clear hc3 hc2 hR2 p3
    go_loopw [29] (fun i wr => ShRel W5 (B + 1) gv i wr) (fun i _ => 2 - (intOf i).toNat)
    case atStart => exact ⟨0, rfl, by omega, hR5.congr (fun j _ => by simp), Chg.refl _ _⟩
    case round =>
      obtain ⟨m, rfl, hm, h5, hc⟩ := hrel
      have hBe := HBe.out
      by_cases hm2 : m < 2
      · have hs := hsh m (by omega)
        have n1 : ∀ y : Wd No wr, y.w.cell? ⟨nb, no + k * 10 + 1 + m, none⟩ = some (.int .i64 (cp m)) := fun y => y.chg.cell (hc.cell (ncap m (by omega)) (by show ¬ nb = B + 1; have h9 : nb < B := hnb; omega)) id
        have f1 : ∀ y : Wd No wr, y.w.cell? ⟨D, m, none⟩ = some (.int .i64 (f m)) := fun y => y.chg.cell (hc.cell (hF.cell m (by omega)) (by show ¬ D = B + 1; omega)) id
        have b0 : ∀ y : Wd No wr, y.w.cell? ⟨B, 0, none⟩ = some (.slice (some ⟨nb, no, none⟩) s.nodes.n nc) := fun y => y.chg.cell (hc.cell a0 (by show ¬ B = B + 1; omega)) id
        have hT : ∀ y : Wd No wr, TwoIs y.w (B + 1) (fun j => if j < m then gv j else 0) := fun y => y.chg.heap h5 id
        have u1 : ∀ y : Wd No wr, y.w.cell? ⟨B + 1, m, none⟩ = some (.int .i64 0) := fun y => by have := (hT y).cell m hm2; rwa [if_neg (by omega)] at this
        have z1 : ∀ y : Wd No wr, y.w.frozen? ⟨B + 1, m, none⟩ = false := fun y => free_of_heap (hT y)
        have hm2' : (m : Int) < 2 := by omega
        have hm5' : (m : Int) < 5 := by omega
        have hm0' : (0 : Int) ≤ (m : Int) := by omega
        have hst := fun y : Wd No wr => ((hT y).set m hm2 (gv m)).congr (y := fun j => if j < m + 1 then gv j else 0) (fun j hj => by
          by_cases h1 : j = m
          · subst h1; rw [if_pos rfl, if_pos (by omega)]
          · rw [if_neg h1]; by_cases h2 : j < m
            · rw [if_pos h2, if_pos (by omega)]
            · rw [if_neg h2, if_neg (by omega)])
        have HST := Go.Lib.hid hst
        clear hst hT h5 ncap hF hR5 hsh hBe
        go_wp2_with fail
        obtain ⟨y, hy⟩ := Wd.start No wr
        rw [← hy]
        clear hy
        refine wp_region_last' 14 y rfl rfl (by kernel_rfl) (by kernel_rfl) (by kernel_rfl) ?_
        simp only [List.take_succ_cons, List.take_zero]
        repeat (refine WQ.step (fun K hK => ?_); go_simp; first | (refine hK _ ?_; clear hK K) | (apply Exists.intro; refine ⟨fun _ => ?_, hK _ ?_⟩; (go_at_call 34; exact wd_calls (hs _)); clear hK K))
        refine WQ.nil ?_
        refine LastOk.of ?_
        rintro _ ⟨z, rfl⟩ K hK
        go_simp
        refine hK _ _ ?_
        clear hK K
        go_wp2_with fail
        go_roundw
        case rel => exact ⟨m + 1, by go_num, by omega, HST.out z, (hc.trans (z.chg.mono (fun _ _ h => h.elim))).setCell (p := ⟨B + 1, m, none⟩) (fun _ => rfl) _⟩
        case measure => simp [intOf]; omega
      · obtain rfl : m = 2 := by omega
        have h6 : TwoIs wr (B + 1) gv := h5.congr (fun j hj => by rw [if_pos hj])
        have u0 := h6.cell 0 (by omega)
        have u1 := h6.cell 1 (by omega)
        have z0 : wr.frozen? ⟨B + 1, 0, none⟩ = false := free_of_heap h6
        have z1 : wr.frozen? ⟨B + 1, 1, none⟩ = false := free_of_heap h6
        clear hsh ncap hF hR5 h5 hBe
        go_wp2_with fail
        have hz := hset_same (j := 1) (hset_same (j := 0) h6 (.int .i64 (gv 0))) (.int .i64 (gv 1))
        have hch : Chg (· = B + 1) wr _ := ((Chg.refl (· = B + 1) wr).setCell (p := ⟨B + 1, 0, none⟩) (fun _ => rfl) (.int .i64 (gv 0))).setCell (p := ⟨B + 1, 1, none⟩) (fun _ => rfl) (.int .i64 (gv 1))
        generalize (wr.setCell _ _).setCell _ _ = W3 at hz hch ⊢
        have c0 : W3.cell? ⟨B + 1, 0, none⟩ = some (.int .i64 (gv 0)) := cell_of_heap hz rfl
        have c1 : W3.cell? ⟨B + 1, 1, none⟩ = some (.int .i64 (gv 1)) := cell_of_heap hz rfl
        (try simp only [Exit.inBlock, Exit.then])
        refine bodyPost_ret (by simp [results, Tryz.results10, go_sem, c0, c1]; try rfl) rfl ?_
        exact ⟨rfl, hcw.trans' (hc.trans hch) (fun i h1 h2 => by have := HBe.out; omega)⟩
end Go.Proofs.YtipacbaapkdnaaaGreat
