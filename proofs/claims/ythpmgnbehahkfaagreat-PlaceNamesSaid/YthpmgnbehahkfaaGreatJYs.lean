/- place.Used. -/
import Derived.Test.YthpmgnbehahkfaaGreatJYr
set_option linter.unusedSimpArgs false
set_option linter.unusedVariables false
namespace Go.Proofs.YthpmgnbehahkfaaGreat
open Go.RowKit Go.Dk Go.Shelf

attribute [local go_sem] Oper.semAt_some

/-- what a row of pods asks for, as the machine adds -/
def sumW (s : SnapD) : List Nat → Nat → Int := List.foldl (fun f k i => wrap64 (f i + (s.pods.el k).req i)) (fun _ => 0)
theorem sumW_snoc (s : SnapD) (ks : List Nat) (k i : Nat) : sumW s (ks ++ [k]) i = wrap64 (sumW s ks i + (s.pods.el k).req i) := by simp [sumW]
theorem sumW_used {s : SnapD} {l : Lst Int} (x : Int) (h : mayB s l = true) (i : Nat) (hi : i < 5) : ∀ k, k ≤ s.pods.n → sumW s (onL l x k) i = usedF s l x i k
  | 0, _ => rfl
  | k + 1, hk => by
    have ih := sumW_used x h i hi k (by omega)
    simp only [onL, usedF]
    by_cases hx : l.el k = x
    · rw [if_pos hx, if_pos hx, sumW_snoc, ih]
      have h1 := used_qty h x i hi k (by omega)
      have h2 := req_qty h i hi k (by omega)
      unfold Qty at *
      exact IntWalk.wrap64_in _ (by omega)
    · rw [if_neg hx, if_neg hx, List.append_nil, ih, Int.add_zero]
theorem five_own {β : Type} (g : Nat) (f : β → Nat → Int) : Own (fun s W => FiveIs W g (f s)) := fun s X Y row hs hg hr =>
  (grownBy_keeps_cells hg hr (show X.heap[g]? = _ from hs) rfl).trans hs
theorem FiveIs.alloc {W : World} {g : Nat} {f : Nat → Int} (h : FiveIs W g f) (o : Obj) : FiveIs (W.alloc o) g f := heap_alloc_old' h

def PodV.ok (v : PodV) : Prop := ∃ (a1 a2 a3 a4 a5 : Option Addr) (n1 n2 n3 n4 n5 c1 c2 c3 c4 c5 : Nat), v = ⟨.slice a1 n1 c1, .slice a2 n2 c2, .slice a3 n3 c3, .slice a4 n4 c4, .slice a5 n5 c5⟩
theorem SnapAt.total {w : World} {n p o : Value} {s : SnapD} {lv tv : Nat → Value} {pv : Nat → PodV} (h : SnapAt w n p o s lv tv pv) : ∃ pv', SnapAt w n p o s lv tv pv' ∧ ∀ k, (pv' k).ok := by
  have hok : ∀ k, k < s.pods.n → (pv k).ok := fun k hk => by
    obtain ⟨-, a, c, rfl, -, hp⟩ := h.pods
    obtain ⟨-, ⟨a1, c1, e1, -⟩, ⟨a2, c2, e2, -⟩, ⟨a3, c3, e3, -⟩, ⟨a4, c4, e4, -⟩, ⟨a5, c5, e5, -⟩⟩ := hp k hk
    generalize pv k = z at e1 e2 e3 e4 e5 ⊢
    obtain ⟨z1, z2, z3, z4, z5⟩ := z
    dsimp only at e1 e2 e3 e4 e5
    subst e1 e2 e3 e4 e5
    exact ⟨_, _, _, _, _, _, _, _, _, _, _, _, _, _, _, rfl⟩
  obtain ⟨hn, a, c, e, hs, hp⟩ := h.pods
  refine ⟨fun k => if k < s.pods.n then pv k else ⟨.slice none 0 0, .slice none 0 0, .slice none 0 0, .slice none 0 0, .slice none 0 0⟩, ⟨h.nodes, ⟨hn, a, c, e, ⟨hs.1, hs.2.1, hs.2.2.1, fun k hk => ?_⟩, fun k hk => ?_⟩, h.owners⟩, fun k => ?_⟩
  · have := hs.2.2.2 k hk
    simpa only [if_pos hk] using this
  · have := hp k hk
    simpa only [if_pos hk] using this
  · by_cases hk : k < s.pods.n
    · simpa only [if_pos hk] using hok k hk
    · simp only [if_neg hk]
      exact ⟨none, none, none, none, none, 0, 0, 0, 0, 0, 0, 0, 0, 0, 0, rfl⟩

def UsedIn (V : World) (g : Nat) (f r : Nat → Int) (i : Value) (wr : World) : Prop :=
  ∃ m : Nat, i = .int .i64 m ∧ m ≤ 5 ∧ FiveIs wr g (fun j => if j < m then wrap64 (f j + r j) else f j) ∧ Chg (· = g) V wr ∧ KeepsOthers V wr

set_option maxRecDepth 100000 in
set_option maxHeartbeats 4000000 in
theorem placeUsed_any {w : World} {n p o q : Value} {s : SnapD} {lv tv : Nat → Value} {pv : Nat → PodV} (h : SnapAt w n p o s lv tv pv) {l : Lst Int} (hq : IntsAt w q l) (x : Int) :
    Calls Tryz.prog 57 #[.agg #[n, p, o], q, .int .i64 x] w fun e w' => e = .returned (.agg (cells5 (usedV s l x)).toArray) ∧ Chg No w w' := by
  obtain ⟨pv', h2, hok⟩ := h.total
  clear h
  have h := h2
  clear h2
  clear pv
  generalize pv' = pv at h hok
  have hcw := ((Chg.refl No w).alloc (.cells #[n, p, o] 26)).alloc (.cells #[.int .i64 0, .int .i64 0, .int .i64 0, .int .i64 0, .int .i64 0] 58)
  have hA := heap_alloc_old' (heap_alloc_new w (.cells #[n, p, o] 26)) (o' := .cells #[.int .i64 0, .int .i64 0, .int .i64 0, .int .i64 0, .int .i64 0] 58)
  have hR := heap_alloc_new (w.alloc (.cells #[n, p, o] 26)) (.cells #[.int .i64 0, .int .i64 0, .int .i64 0, .int .i64 0, .int .i64 0] 58)
  simp only [World.size_alloc] at hR
  have p1 := fun W (hc : Chg No _ W) => placeCheck_any (h.no (hcw.trans hc)) (hq.no (hcw.trans hc))
  have p2 := fun W => on_any n p o q x W
  have p3 := fun Wc hc Bp Bx Bs => on1_in h hq x (w.heap.size + 1) Bp Bx Bs (Wc := Wc) hc (by omega)
  obtain ⟨na, nc, pa, pc, oa, oc, rfl, rfl, rfl⟩ := h.args
  obtain ⟨hqn, qa, qc, rfl, -⟩ := hq
  replace p2 := fun W => p2 W ⟨_, _, _, rfl⟩ ⟨_, _, _, _, _, _, _, _, _, rfl, rfl, rfl⟩
  clear h
  unfold Gives at p1
  cases hm : mayNB s l x with
  | false =>
    have hu : usedV s l x = fun _ => 0 := by funext i; simp [usedV, hm]
    rw [hu]
    clear hu p3 p2
    go_enter Tryz.func57, Tryz.ntmps57
    go_wp2_with fail
    generalize (w.alloc _).alloc _ = W at hcw hA hR p1 ⊢
    generalize hBe : w.heap.size = B at hA hR ⊢
    have HBe := Go.Lib.hid hBe
    clear hBe
    refine (p1 _ (Chg.refl _ _)).mono ?_
    rintro e V ⟨rfl, hc⟩
    have b0 := hc.cell (cell_of_heap (j := 0) hA rfl) id
    have b1 := hc.cell (cell_of_heap (j := 1) hA rfl) id
    have b2 := hc.cell (cell_of_heap (j := 2) hA rfl) id
    have hR2 : FiveIs V (B + 1) (fun _ => 0) := hc.heap hR id
    have hcw := hcw.trans hc
    clear hc hA hR p1
    have hcs : ¬ placeE s l = 0 ∨ (placeE s l = 0 ∧ (decide (0 ≤ x) && decide (x < (s.nodes.n : Int))) = false) := by
      by_cases h1 : placeE s l = 0
      · exact .inr ⟨h1, by simpa [mayNB, mayB, h1] using hm⟩
      · exact .inl h1
    clear hm
    have u0 : V.cell? ⟨B + 1, 0, none⟩ = some (.int .i64 0) := FiveIs.cell hR2 0 (by omega)
    have u1 : V.cell? ⟨B + 1, 1, none⟩ = some (.int .i64 0) := FiveIs.cell hR2 1 (by omega)
    have u2 : V.cell? ⟨B + 1, 2, none⟩ = some (.int .i64 0) := FiveIs.cell hR2 2 (by omega)
    have u3 : V.cell? ⟨B + 1, 3, none⟩ = some (.int .i64 0) := FiveIs.cell hR2 3 (by omega)
    have u4 : V.cell? ⟨B + 1, 4, none⟩ = some (.int .i64 0) := FiveIs.cell hR2 4 (by omega)
    have z0 : V.frozen? ⟨B + 1, 0, none⟩ = false := free_of_heap hR2
    have z1 : V.frozen? ⟨B + 1, 1, none⟩ = false := free_of_heap hR2
    have z2 : V.frozen? ⟨B + 1, 2, none⟩ = false := free_of_heap hR2
    have z3 : V.frozen? ⟨B + 1, 3, none⟩ = false := free_of_heap hR2
    have z4 : V.frozen? ⟨B + 1, 4, none⟩ = false := free_of_heap hR2
    generalize placeE s l = e at *
    rcases hcs with h1 | ⟨h1, h2⟩
    · go_wp2_with fail
      have h53 := (FiveIs.set (FiveIs.set (FiveIs.set (FiveIs.set (FiveIs.set hR2 0 (by omega) 0) 1 (by omega) 0) 2 (by omega) 0) 3 (by omega) 0) 4 (by omega) 0)
      have hch : Chg (· = B + 1) V _ := (((((Chg.refl (· = B + 1) V).setCell (p := ⟨B + 1, 0, none⟩) (fun _ => rfl) (.int .i64 0)).setCell (p := ⟨B + 1, 1, none⟩) (fun _ => rfl) (.int .i64 0)).setCell (p := ⟨B + 1, 2, none⟩) (fun _ => rfl) (.int .i64 0)).setCell (p := ⟨B + 1, 3, none⟩) (fun _ => rfl) (.int .i64 0)).setCell (p := ⟨B + 1, 4, none⟩) (fun _ => rfl) (.int .i64 0)
      generalize ((((V.setCell _ _).setCell _ _).setCell _ _).setCell _ _).setCell _ _ = W3 at h53 hch ⊢
      have c0 := h53.cell 0 (by omega)
      have c1 := h53.cell 1 (by omega)
      have c2 := h53.cell 2 (by omega)
      have c3 := h53.cell 3 (by omega)
      have c4 := h53.cell 4 (by omega)
      simp at c0 c1 c2 c3 c4
      (try simp only [Exit.inBlock, Exit.then])
      refine bodyPost_ret (by simp [results, Tryz.results57, go_sem, c0, c1, c2, c3, c4]; try rfl) rfl ?_
      exact ⟨rfl, hcw.trans' hch (fun i h1 h2 => by have := HBe.out; omega)⟩
    · subst h1
      have HT := Go.Lib.hid h2
      clear h2
      go_wp2_with (go_at_call 98; refine (there_any _ _ _).mono ?_; rw [HT.out]; rintro e w' ⟨rfl, rfl⟩)
      have h53 := (FiveIs.set (FiveIs.set (FiveIs.set (FiveIs.set (FiveIs.set hR2 0 (by omega) 0) 1 (by omega) 0) 2 (by omega) 0) 3 (by omega) 0) 4 (by omega) 0)
      have hch : Chg (· = B + 1) V _ := (((((Chg.refl (· = B + 1) V).setCell (p := ⟨B + 1, 0, none⟩) (fun _ => rfl) (.int .i64 0)).setCell (p := ⟨B + 1, 1, none⟩) (fun _ => rfl) (.int .i64 0)).setCell (p := ⟨B + 1, 2, none⟩) (fun _ => rfl) (.int .i64 0)).setCell (p := ⟨B + 1, 3, none⟩) (fun _ => rfl) (.int .i64 0)).setCell (p := ⟨B + 1, 4, none⟩) (fun _ => rfl) (.int .i64 0)
      generalize ((((V.setCell _ _).setCell _ _).setCell _ _).setCell _ _).setCell _ _ = W3 at h53 hch ⊢
      have c0 := h53.cell 0 (by omega)
      have c1 := h53.cell 1 (by omega)
      have c2 := h53.cell 2 (by omega)
      have c3 := h53.cell 3 (by omega)
      have c4 := h53.cell 4 (by omega)
      simp at c0 c1 c2 c3 c4
      (try simp only [Exit.inBlock, Exit.then])
      refine bodyPost_ret (by simp [results, Tryz.results57, go_sem, c0, c1, c2, c3, c4]; try rfl) rfl ?_
      exact ⟨rfl, hcw.trans' hch (fun i h1 h2 => by have := HBe.out; omega)⟩
  | true =>
    obtain ⟨m1, m2, m3⟩ := mayNB_facts hm
    have hu : usedV s l x = fun i => usedF s l x i l.n := by funext i; simp [usedV, hm]
    rw [hu]
    have he : placeE s l = 0 := by simpa [mayB] using m1
    rw [he] at p1
    have hl := (may_facts m1).2.2.2.1
    have ht : (decide (0 ≤ x) && decide (x < (s.nodes.n : Int))) = true := by simp [m2, m3]
    have HT := Go.Lib.hid ht
    have HM := Go.Lib.hid m1
    have HL := Go.Lib.hid hl
    clear hm m1 he hl ht hu
    refine (callsIn_wide (n := 6)).1 ?_
    refine callsIn_of_wp_marks Tryz.func57 rfl trivial ?_ rfl
    simp only [Tryz.ntmps57, List.size_toArray, List.length_cons, List.length_nil, Nat.reduceAdd, Nat.reduceSub, Array.replicate_succ, Array.replicate_zero, List.push_toArray, List.append_toArray, List.nil_append, List.cons_append]
    gi_wp2_with fail
    generalize (w.alloc _).alloc _ = W at hcw hA hR p1 ⊢
    generalize hBe : w.heap.size = B at hA hR p3 ⊢
    have HBe := Go.Lib.hid hBe
    clear hBe
    refine ⟨trivial, (callsIn_wide.2 (p1 _ (Chg.refl _ _))).mono ?_⟩
    rintro e V ⟨rfl, hc⟩
    have b0 := hc.cell (cell_of_heap (j := 0) hA rfl) id
    have b1 := hc.cell (cell_of_heap (j := 1) hA rfl) id
    have b2 := hc.cell (cell_of_heap (j := 2) hA rfl) id
    have hR2 : FiveIs V (B + 1) (fun _ => 0) := hc.heap hR id
    have hsV := lt_of_heap hR2
    have hcw := hcw.trans hc
    clear hc hA hR p1
    gi_wp2_with (first
      | (refine ⟨trivial, ?_⟩; gi_at_call 98; refine (callsIn_wide.2 (there_any _ _ _)).mono ?_; rw [HT.out]; rintro e w' ⟨rfl, rfl⟩)
      | (refine ⟨trivial, ?_⟩; gi_at_call 108; refine (callsIn_wide.2 (p2 _)).mono ?_; rintro e w' ⟨rfl, rfl⟩))
    have hcW := ((hcw.alloc (.cells #[.slice na s.nodes.n nc, .slice pa s.pods.n pc, .slice oa s.owners.n oc] 26)).alloc (.cells #[.slice qa l.n qc] 27)).alloc (.cells #[.int .i64 x] 3)
    have hs1 := heap_alloc_old' (heap_alloc_old' (heap_alloc_new V (.cells #[.slice na s.nodes.n nc, .slice pa s.pods.n pc, .slice oa s.owners.n oc] 26)) (o' := .cells #[.slice qa l.n qc] 27)) (o' := .cells #[.int .i64 x] 3)
    have hs2 := heap_alloc_old' (heap_alloc_new (V.alloc (.cells #[.slice na s.nodes.n nc, .slice pa s.pods.n pc, .slice oa s.owners.n oc] 26)) (.cells #[.slice qa l.n qc] 27)) (o' := .cells #[.int .i64 x] 3)
    have hs3 := heap_alloc_new ((V.alloc (.cells #[.slice na s.nodes.n nc, .slice pa s.pods.n pc, .slice oa s.owners.n oc] 26)).alloc (.cells #[.slice qa l.n qc] 27)) (.cells #[.int .i64 x] 3)
    have hR3 := ((hR2.alloc (.cells #[.slice na s.nodes.n nc, .slice pa s.pods.n pc, .slice oa s.owners.n oc] 26)).alloc (.cells #[.slice qa l.n qc] 27)).alloc (.cells #[.int .i64 x] 3)
    simp only [World.size_alloc] at hs2 hs3
    generalize ((V.alloc _).alloc _).alloc _ = Wc at hcW hs1 hs2 hs3 hR3 ⊢
    generalize V.heap.size = D at hs1 hs2 hs3 hsV ⊢
    have hD3 := lt_of_heap hs3
    clear b0 b1 b2 hR2 hcw p2
    refine wpIn_rangeFunc_ownH rfl (by omega) (gf := 168) (lb := #[.pointer (some ⟨D + 1, 0, none⟩), .pointer (some ⟨D + 2, 0, none⟩), .pointer (some ⟨D, 0, none⟩)]) rfl trivial (enters_of Tryz.func168 (by kernel_rfl) rfl)
      (p3 Wc hcW (D + 1) (D + 2) D hs2 hs3 hs1 (by omega) (by omega) HL.out 5 (by omega)) But.trans but_b (Below.refl _ _) (fun _ => rfl)
      (fun pre W => (FiveIs W (B + 1) (sumW s pre) ∧ Below w.heap.size w W) ∧ Wc.heap.size ≤ W.heap.size)
      (fun _ _ _ => False)
      (OwnFrom.and (OwnFrom.and (Own.from (five_own _ _) _) (ownFrom_below (Nat.le_refl _) hcW.size)) (fun _ _ _ _ hs hg _ => Nat.le_trans hs hg.size))
      (fun _ _ _ _ _ hs _ _ => hs)
      ⟨⟨hR3, hcW.below⟩, Nat.le_refl _⟩
      (fun k a' W => ∃ X, Wc.heap.size ≤ X ∧ W.heap[X]? = some (.cells ((s.pods.el k).cells (pv k)).toArray 81 (0, 0)) ∧ a' = { tmps := #[.agg #[.slice na s.nodes.n nc, .slice pa s.pods.n pc, .slice oa s.owners.n oc], .slice qa l.n qc, .int .i64 x, .pointer (some ⟨B, 0, none⟩), undef, undef, .pointer (some ⟨B + 1, 0, none⟩), .pointer (some ⟨X, 0, none⟩), undef, undef, .agg #[.slice na s.nodes.n nc, .slice pa s.pods.n pc, .slice oa s.owners.n oc], .slice qa l.n qc, .int .i64 0, .bool false, .bool false, .int .i64 x, .pointer (some ⟨B, 0, none⟩), .slice na s.nodes.n nc, .int .i64 s.nodes.n, .bool true, .bool false, .bool false, undef, .agg #[.slice na s.nodes.n nc, .slice pa s.pods.n pc, .slice oa s.owners.n oc], .slice qa l.n qc, .int .i64 x, .func (.func 168) #[] #[.pointer (some ⟨D + 1, 0, none⟩), .pointer (some ⟨D + 2, 0, none⟩), .pointer (some ⟨D, 0, none⟩)], ((s.pods.el k).val (pv k)), undef, undef, undef, undef, undef, undef, undef, undef, undef, undef, undef, undef, undef, undef], defers := [] })
      (fun k a' _ X Y row hs hg hr => by obtain ⟨Z, h1, h2, h3⟩ := hs; exact ⟨Z, h1, (grownBy_keeps_cells hg (fun r e => (hr r e).2) h2 rfl).trans h2, h3⟩)
      ?assign ?body ?done ?stop
    case assign =>
      rintro lr pre k W K ⟨⟨h5, hB1⟩, hz⟩ hK
      obtain ⟨a1, a2, a3, a4, a5, n1, n2, n3, n4, n5, c1, c2, c3, c4, c5, hpv⟩ := hok k
      unfold PodD.val PodD.cells at hK ⊢
      rw [hpv] at hK ⊢
      gi_wp2
      exact hK _ _ ((KeepsOthers.alloc _ _).from _) ⟨by simp, fun j hj _ => Below.heap_alloc _ _ _ (by omega)⟩ ⟨⟨h5.alloc _, hB1.alloc hB1.size _⟩, by simp; omega⟩ ⟨W.heap.size, hz, heap_alloc_new _ _, rfl⟩
    case body =>
      rintro lr pre k a' W hl ⟨r, hr⟩ ⟨⟨h5, hB1⟩, hz⟩ ⟨X, hX, hP, rfl⟩ hlt
      have r0 : W.cell? ⟨X, 2, none⟩ = some (.int .i64 ((s.pods.el k).req 0)) := cell_of_heap (j := 2) hP rfl
      have r1 : W.cell? ⟨X, 3, none⟩ = some (.int .i64 ((s.pods.el k).req 1)) := cell_of_heap (j := 3) hP rfl
      have r2 : W.cell? ⟨X, 4, none⟩ = some (.int .i64 ((s.pods.el k).req 2)) := cell_of_heap (j := 4) hP rfl
      have r3 : W.cell? ⟨X, 5, none⟩ = some (.int .i64 ((s.pods.el k).req 3)) := cell_of_heap (j := 5) hP rfl
      have r4 : W.cell? ⟨X, 6, none⟩ = some (.int .i64 ((s.pods.el k).req 4)) := cell_of_heap (j := 6) hP rfl
      have h1' : 1 ≤ 6 - 1 - 1 := by omega
      have ix : ∀ m : Nat, m < 5 → ∀ w, (Instr.index 58 (.agg #[.int .i64 ((s.pods.el k).req 0), .int .i64 ((s.pods.el k).req 1), .int .i64 ((s.pods.el k).req 2), .int .i64 ((s.pods.el k).req 3), .int .i64 ((s.pods.el k).req 4)]) (.int .i64 (m : Int))).run Tryz.prog w = .ok (.int .i64 ((s.pods.el k).req m)) w := fun m hm5 => by
        match m, hm5 with
        | 0, _ => exact fun _ => by kernel_rfl
        | 1, _ => exact fun _ => by kernel_rfl
        | 2, _ => exact fun _ => by kernel_rfl
        | 3, _ => exact fun _ => by kernel_rfl
        | 4, _ => exact fun _ => by kernel_rfl
      obtain ⟨f, hf⟩ : ∃ f, f = sumW s pre := ⟨_, rfl⟩
      rw [← hf] at h5
      have HF := Go.Lib.hid hf
      clear hf hP hr
      gi_wp2
      gi_loopw [30] (fun i wr => UsedIn W (B + 1) f (s.pods.el k).req i wr) (fun i _ => 5 - (intOf i).toNat)
      case atStart => exact ⟨0, rfl, by omega, h5.congr (fun j _ => by simp), Chg.refl _ _, KeepsOthers.refl _⟩
      case round =>
        obtain ⟨m, rfl, hm, h6, hc, hk⟩ := hrel
        by_cases hm5 : m < 5
        · have ixm := ix m hm5
          have q := h6.cell m hm5
          rw [if_neg (by omega)] at q
          have qf := free_of_heap (j := m) h6
          have hm' : (m : Int) < 5 := by omega
          have hm0 : (0 : Int) ≤ (m : Int) := by omega
          have hst := (h6.set m hm5 (wrap64 (f m + (s.pods.el k).req m))).congr (y := fun j => if j < m + 1 then wrap64 (f j + (s.pods.el k).req j) else f j) (fun j hj => by
            by_cases h1 : j = m
            · subst h1; rw [if_pos rfl, if_pos (by omega)]
            · rw [if_neg h1]; by_cases h2 : j < m
              · rw [if_pos h2, if_pos (by omega)]
              · rw [if_neg h2, if_neg (by omega)])
          have HST := Go.Lib.hid hst
          clear hst h6 ix r0 r1 r2 r3 r4 h5
          gi_wp2
          go_roundw
          case rel => exact ⟨m + 1, by go_num, by omega, HST.out, hc.setCell (p := ⟨B + 1, m, none⟩) (fun _ => rfl) _, hk.trans (KeepsOthers.setCell _ _ _)⟩
          case measure => simp [intOf]; omega
        · obtain rfl : m = 5 := by omega
          clear ix r0 r1 r2 r3 r4 h5
          gi_wp2
          refine ⟨hk.from _, But.chg hc hz, ⟨⟨h6.congr (fun j hj => by rw [if_pos hj, sumW_snoc, HF.out]), ?_⟩, Nat.le_trans hz hc.size⟩⟩
          exact hB1.trans (hc.belowB hB1.size (fun k hk => by have := HBe.out; omega))
    case done =>
      rintro E ys W hE rfl ⟨⟨h5, hB1⟩, hz⟩ hK
      obtain ⟨f, hf⟩ : ∃ f, f = sumW s (onL l x l.n) := ⟨_, rfl⟩
      rw [← hf] at h5
      have HF := Go.Lib.hid hf
      clear hf
      have q0 := h5.cell 0 (by omega)
      have q1 := h5.cell 1 (by omega)
      have q2 := h5.cell 2 (by omega)
      have q3 := h5.cell 3 (by omega)
      have q4 := h5.cell 4 (by omega)
      have z0 := free_of_heap (j := 0) h5
      have z1 := free_of_heap (j := 1) h5
      have z2 := free_of_heap (j := 2) h5
      have z3 := free_of_heap (j := 3) h5
      have z4 := free_of_heap (j := 4) h5
      gi_wp2
      have h6 := ((((h5.set 0 (by omega) (f 0)).set 1 (by omega) (f 1)).set 2 (by omega) (f 2)).set 3 (by omega) (f 3)).set 4 (by omega) (f 4)
      have hch : Chg (· = B + 1) W _ := (((((Chg.refl (· = B + 1) W).setCell (p := ⟨B + 1, 0, none⟩) (fun _ => rfl) (.int .i64 (f 0))).setCell (p := ⟨B + 1, 1, none⟩) (fun _ => rfl) (.int .i64 (f 1))).setCell (p := ⟨B + 1, 2, none⟩) (fun _ => rfl) (.int .i64 (f 2))).setCell (p := ⟨B + 1, 3, none⟩) (fun _ => rfl) (.int .i64 (f 3))).setCell (p := ⟨B + 1, 4, none⟩) (fun _ => rfl) (.int .i64 (f 4))
      have hko : KeepsOthers W _ := ((((KeepsOthers.setCell W ⟨B + 1, 0, none⟩ (.int .i64 (f 0))).trans (KeepsOthers.setCell _ ⟨B + 1, 1, none⟩ (.int .i64 (f 1)))).trans (KeepsOthers.setCell _ ⟨B + 1, 2, none⟩ (.int .i64 (f 2)))).trans (KeepsOthers.setCell _ ⟨B + 1, 3, none⟩ (.int .i64 (f 3)))).trans (KeepsOthers.setCell _ ⟨B + 1, 4, none⟩ (.int .i64 (f 4)))
      generalize ((((W.setCell _ _).setCell _ _).setCell _ _).setCell _ _).setCell _ _ = W3 at h6 hch hko ⊢
      have hK3 := hko.same E _ hK rfl
      refine ⟨by simp, .inl ⟨_, _, rfl, run_takeDeferred hK3, ?_⟩⟩
      have h7 : FiveIs (W3.putObj E (.deferred none)) (B + 1) _ := (World.putObj_heap_other (by omega)).trans h6
      have c0 := h7.cell 0 (by omega)
      have c1 := h7.cell 1 (by omega)
      have c2 := h7.cell 2 (by omega)
      have c3 := h7.cell 3 (by omega)
      have c4 := h7.cell 4 (by omega)
      simp only [if_pos, if_neg, Nat.zero_ne_one, reduceIte] at c0 c1 c2 c3 c4
      simp at c0 c1 c2 c3 c4
      have hEs := lt_of_heap hK3
      refine ⟨.agg (cells5 f).toArray, by simp [results, Tryz.results57, go_sem, c0, c1, c2, c3, c4]; try rfl, ?_, ?_⟩
      · rw [HF.out]
        have e : ∀ i, i < 5 → sumW s (onL l x l.n) i = usedF s l x i l.n := fun i hi => sumW_used x HM.out i hi l.n (by rw [HL.out]; exact Nat.le_refl _)
        simp only [cells5, e 0 (by omega), e 1 (by omega), e 2 (by omega), e 3 (by omega), e 4 (by omega)]
      · refine Chg.of_below ((hB1.trans (hch.belowB hB1.size (fun k hk => by have := HBe.out; omega))).trans (belowK_b (w := w) (Nat.le_refl _) W3 E _ _ (by have := hcW.size; omega) hK3 rfl rfl))
    case stop =>
      rintro E c pre W _ _ h _
      exact h.elim
end Go.Proofs.YthpmgnbehahkfaaGreat
