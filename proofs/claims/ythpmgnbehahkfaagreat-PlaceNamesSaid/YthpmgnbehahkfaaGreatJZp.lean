/- snap.near, node, owner and the reference's. -/
import Derived.Test.YthpmgnbehahkfaaGreatJZl
set_option linter.unusedSimpArgs false
set_option linter.unusedVariables false
namespace Go.Proofs.YthpmgnbehahkfaaGreat
open Go.RowKit Go.Dk

def nearB (topo : ByteArray) (t : Lst TermD) : Bool := if topo.toList.isEmpty then decide (t.n = 0) else nameB topo && decide (termsE t = 0)
def nodeB (x : NodeD) : Bool := decide (vecE (x.cap 0) (x.cap 1) (x.cap 2) (x.cap 3) (x.cap 4) = 0) && decide (labsE false x.labels = 0) && decide (labsE false x.taints = 0)
def ownerB (o : OwnerD) : Bool :=
  (if o.topo.toList.isEmpty then decide (o.skew = 0) else nameB o.topo && decide (1 ≤ o.skew) && decide (o.skew ≤ 24)) && decide (0 ≤ o.min) && decide (o.min ≤ 24)

theorem dec_eq0 (n : Nat) : ((n : Int) == 0) = decide (n = 0) := by rw [Bool.eq_iff_iff]; simp
theorem dec_eqz (e : Int) : (e == 0) = decide (e = 0) := by rw [Bool.eq_iff_iff]; simp

theorem near_any {w : World} {topo : ByteArray} {v : Value} {t : Lst TermD} (hs : Sm topo) (h : TermsAt w v t) : Gives 198 #[.agg #[.string topo, v]] w (.bool (nearB topo t)) := by
  have p1 := fun W => name_any topo W (by unfold Sm at hs; omega)
  have p2 := fun W (hc : Chg No w W) => terms_any (h.no hc)
  obtain ⟨a, c, rfl, -⟩ := h
  unfold Gives nearB at *
  cases he : topo.toList.isEmpty with
  | true =>
    have he' := toList_of he
    clear p1 p2
    have hz := dec_eq0 t.n
    go_enter Tryz.func198, Tryz.ntmps198
    go_wp2_with fail
    go_ret
    exact ⟨by simp [dec_eq0], (Chg.refl No w).alloc _⟩
  | false =>
    have he' := toList_of he
    cases hn : nameB topo with
    | false =>
      rw [hn] at p1
      clear p2 hn
      go_enter Tryz.func198, Tryz.ntmps198
      go_wp2_with (go_at_call 172; refine (p1 _).mono ?_; rintro e w1 ⟨rfl, hc1⟩)
      go_ret
      exact ⟨by simp, ((Chg.refl No w).alloc _).trans hc1⟩
    | true =>
      rw [hn] at p1
      clear hn
      generalize termsE t = te at *
      go_enter Tryz.func198, Tryz.ntmps198
      go_wp2_with (first
        | (go_at_call 172; refine (p1 _).mono ?_; rintro e w1 ⟨rfl, hc1⟩; have q1 := hc1.cell (cell_of_heap (j := 1) (heap_alloc_new w _) rfl) id)
        | (go_at_call 196; refine (p2 _ (((Chg.refl No w).alloc _).trans hc1)).mono ?_; rintro e w2 ⟨rfl, hc2⟩))
      go_ret
      exact ⟨by simp [dec_eqz], (((Chg.refl No w).alloc _).trans hc1).trans hc2⟩

theorem refNear_any {w : World} {topo : ByteArray} {v : Value} {t : Lst TermD} (hs : Sm topo) (h : TermsAt w v t) : Gives 237 #[.agg #[.string topo, v]] w (.bool (nearB topo t)) := by
  have p1 := fun W => refName_any topo W (by unfold Sm at hs; omega)
  have p2 := fun W (hc : Chg No w W) => refTerms_any (h.no hc)
  obtain ⟨a, c, rfl, -⟩ := h
  unfold Gives nearB at *
  cases he : topo.toList.isEmpty with
  | true =>
    have he' := toList_of he
    clear p1 p2
    go_enter Tryz.func237, Tryz.ntmps237
    go_wp2_with fail
    go_ret
    exact ⟨by simp [dec_eq0], (Chg.refl No w).alloc _⟩
  | false =>
    have he' := toList_of he
    cases hn : nameB topo with
    | false =>
      rw [hn] at p1
      clear p2 hn
      go_enter Tryz.func237, Tryz.ntmps237
      go_wp2_with (go_at_call 117; refine (p1 _).mono ?_; rintro e w1 ⟨rfl, rfl⟩)
      go_ret
      exact ⟨by simp, (Chg.refl No w).alloc _⟩
    | true =>
      rw [hn] at p1
      clear hn
      generalize termsE t = te at *
      go_enter Tryz.func237, Tryz.ntmps237
      go_wp2_with (first
        | (go_at_call 117; refine (p1 _).mono ?_; rintro e w1 ⟨rfl, rfl⟩)
        | (go_at_call 235; refine (p2 _ ((Chg.refl No w).alloc _)).mono ?_; rintro e w2 ⟨rfl, hc2⟩))
      go_ret
      exact ⟨by simp [dec_eqz], ((Chg.refl No w).alloc _).trans hc2⟩

theorem any3 (e0 e1 e2 : Int) (f : Nat → Int) (h0 : f 0 = e0) (h1 : f 1 = e1) (h2 : f 2 = e2) : (!anyB (fun k => decide (f k ≠ 0)) 3) = (decide (e0 = 0) && decide (e1 = 0) && decide (e2 = 0)) := by
  subst h0 h1 h2
  rw [Bool.eq_iff_iff]
  unfold anyB
  simp only [Bool.not_eq_true', decide_eq_false_iff_not, Bool.and_eq_true, decide_eq_true_iff]
  constructor
  · intro h
    refine ⟨⟨?_, ?_⟩, ?_⟩
    all_goals (refine Classical.byContradiction fun hh => h ⟨_, ?_, hh⟩; omega)
  · rintro ⟨⟨a, b⟩, c⟩ ⟨k, hk, h⟩
    match k, hk with
    | 0, _ => exact h a
    | 1, _ => exact h b
    | 2, _ => exact h c

set_option maxRecDepth 100000 in
set_option maxHeartbeats 2000000 in
theorem node_any {w : World} {x : NodeD} {lv tv : Value} (h : NodeAt w x lv tv) : Gives 130 #[.agg (x.cells lv tv).toArray] w (.bool (nodeB x)) := by
  have p1 := fun W => vecCheck_any (x.cap 0) (x.cap 1) (x.cap 2) (x.cap 3) (x.cap 4) W
  have p2 := fun W (hc : Chg No w W) => labCheck_any (h.2.1.no hc)
  have p3 := fun W (hc : Chg No w W) => labCheck_any (h.2.2.no hc)
  obtain ⟨-, ⟨la, lc, rfl, -⟩, ⟨ta, tc, rfl, -⟩⟩ := h
  unfold Gives nodeB vecV at *
  generalize vecE (x.cap 0) (x.cap 1) (x.cap 2) (x.cap 3) (x.cap 4) = e0 at *
  have hs : Chg No w (w.alloc (.cells (x.cells (.slice la x.labels.n lc) (.slice ta x.taints.n tc)).toArray 75)) := (Chg.refl No w).alloc _
  have hA := heap_alloc_new w (.cells (x.cells (.slice la x.labels.n lc) (.slice ta x.taints.n tc)).toArray 75)
  unfold NodeD.cells at *
  generalize labsE false x.labels = e1 at *
  generalize labsE false x.taints = e2 at *
  have p4 : ∀ W : World, Gives 141 #[.slice (some ⟨W.heap.size, 0, none⟩) 3 3] (W.alloc (.cells #[.int .i64 e0, .int .i64 e1, .int .i64 e2] 54)) (.bool (decide (e0 = 0) && decide (e1 = 0) && decide (e2 = 0))) := fun W => by
    rw [← any3 e0 e1 e2 (fun k => match k with | 0 => e0 | 1 => e1 | _ => e2) rfl rfl rfl]
    refine fine_any _ _ 3 3 [.int .i64 e0, .int .i64 e1, .int .i64 e2] _ (rd_new W W.heap.size _ _ 1 3 rfl rfl) (by omega) (fun k x hk => ?_)
    match k, (List.getElem?_eq_some_iff.1 hk).1 with
    | 0, _ => simpa using hk.symm
    | 1, _ => simpa using hk.symm
    | 2, _ => simpa using hk.symm
  unfold Gives at p4
  go_enter Tryz.func130, Tryz.ntmps130
  go_wp2_with fail
  generalize w.alloc _ = W at hs hA ⊢
  generalize w.heap.size = B at hA ⊢
  have q1 := cell_of_heap (j := 1) hA rfl
  have q2 := cell_of_heap (j := 2) hA rfl
  have q3 := cell_of_heap (j := 3) hA rfl
  have q4 := cell_of_heap (j := 4) hA rfl
  have q5 := cell_of_heap (j := 5) hA rfl
  have q6 := cell_of_heap (j := 6) hA rfl
  have q7 := cell_of_heap (j := 7) hA rfl
  have hd := (Chg.refl No W).drew
  go_region_held3 (fun w' => Chg No W w' ∧ w'.cell? ⟨B, 1, none⟩ = some (.int .i64 (x.cap 0)) ∧ w'.cell? ⟨B, 2, none⟩ = some (.int .i64 (x.cap 1)) ∧ w'.cell? ⟨B, 3, none⟩ = some (.int .i64 (x.cap 2)) ∧ w'.cell? ⟨B, 4, none⟩ = some (.int .i64 (x.cap 3)) ∧ w'.cell? ⟨B, 5, none⟩ = some (.int .i64 (x.cap 4)) ∧ w'.cell? ⟨B, 6, none⟩ = some (.slice la x.labels.n lc) ∧ w'.cell? ⟨B, 7, none⟩ = some (.slice ta x.taints.n tc)) (first | exact ⟨hd, (hd).cell q1 id, (hd).cell q2 id, (hd).cell q3 id, (hd).cell q4 id, (hd).cell q5 id, (hd).cell q6 id, (hd).cell q7 id⟩ | exact ⟨hd.trans hc1, (hd.trans hc1).cell q1 id, (hd.trans hc1).cell q2 id, (hd.trans hc1).cell q3 id, (hd.trans hc1).cell q4 id, (hd.trans hc1).cell q5 id, (hd.trans hc1).cell q6 id, (hd.trans hc1).cell q7 id⟩ | exact ⟨(hd.trans hc1).trans hc2, ((hd.trans hc1).trans hc2).cell q1 id, ((hd.trans hc1).trans hc2).cell q2 id, ((hd.trans hc1).trans hc2).cell q3 id, ((hd.trans hc1).trans hc2).cell q4 id, ((hd.trans hc1).trans hc2).cell q5 id, ((hd.trans hc1).trans hc2).cell q6 id, ((hd.trans hc1).trans hc2).cell q7 id⟩ | exact ⟨((hd.trans hc1).trans hc2).trans hc3, (((hd.trans hc1).trans hc2).trans hc3).cell q1 id, (((hd.trans hc1).trans hc2).trans hc3).cell q2 id, (((hd.trans hc1).trans hc2).trans hc3).cell q3 id, (((hd.trans hc1).trans hc2).trans hc3).cell q4 id, (((hd.trans hc1).trans hc2).trans hc3).cell q5 id, (((hd.trans hc1).trans hc2).trans hc3).cell q6 id, (((hd.trans hc1).trans hc2).trans hc3).cell q7 id⟩ | exact ⟨(((hd.trans hc1).trans hc2).trans hc3).alloc _, ((((hd.trans hc1).trans hc2).trans hc3).alloc _).cell q1 id, ((((hd.trans hc1).trans hc2).trans hc3).alloc _).cell q2 id, ((((hd.trans hc1).trans hc2).trans hc3).alloc _).cell q3 id, ((((hd.trans hc1).trans hc2).trans hc3).alloc _).cell q4 id, ((((hd.trans hc1).trans hc2).trans hc3).alloc _).cell q5 id, ((((hd.trans hc1).trans hc2).trans hc3).alloc _).cell q6 id, ((((hd.trans hc1).trans hc2).trans hc3).alloc _).cell q7 id⟩ | exact ⟨((((hd.trans hc1).trans hc2).trans hc3).alloc _).trans hc4, (((((hd.trans hc1).trans hc2).trans hc3).alloc _).trans hc4).cell q1 id, (((((hd.trans hc1).trans hc2).trans hc3).alloc _).trans hc4).cell q2 id, (((((hd.trans hc1).trans hc2).trans hc3).alloc _).trans hc4).cell q3 id, (((((hd.trans hc1).trans hc2).trans hc3).alloc _).trans hc4).cell q4 id, (((((hd.trans hc1).trans hc2).trans hc3).alloc _).trans hc4).cell q5 id, (((((hd.trans hc1).trans hc2).trans hc3).alloc _).trans hc4).cell q6 id, (((((hd.trans hc1).trans hc2).trans hc3).alloc _).trans hc4).cell q7 id⟩ | go_keep) ((first
    | (go_at_call 192; refine (p1 _).mono ?_; rintro e w1 ⟨rfl, hc1⟩)
    | (go_at_call 193; refine (p3 _ (hs.trans ((hd.trans hc1).trans hc2))).mono ?_; rintro e w3 ⟨rfl, hc3⟩)
    | (go_at_call 193; refine (p2 _ (hs.trans (hd.trans hc1))).mono ?_; rintro e w2 ⟨rfl, hc2⟩)
    | (go_at_call 141; refine (p4 _).mono ?_; rintro e w4 ⟨rfl, hc4⟩)))
  go_wp2_with fail
  go_ret
  exact ⟨rfl, hs.trans ((((hd.trans hc1).trans hc2).trans hc3).alloc _ |>.trans hc4)⟩

theorem refNode_any0 {w : World} {x : NodeD} {lv tv : Value} (h : NodeAt w x lv tv) : Gives 207 #[.agg (x.cells lv tv).toArray] w (.bool (nodeB x)) := by
  have p1 := fun W => refVecCheck_any (x.cap 0) (x.cap 1) (x.cap 2) (x.cap 3) (x.cap 4) W
  have p2 := fun W (hc : Chg No w W) => refLabCheck_any (h.2.1.no hc)
  have p3 := fun W (hc : Chg No w W) => refLabCheck_any (h.2.2.no hc)
  obtain ⟨-, ⟨la, lc, rfl, -⟩, ⟨ta, tc, rfl, -⟩⟩ := h
  unfold Gives nodeB vecV at *
  generalize vecE (x.cap 0) (x.cap 1) (x.cap 2) (x.cap 3) (x.cap 4) = e0 at *
  have hs : Chg No w (w.alloc (.cells (x.cells (.slice la x.labels.n lc) (.slice ta x.taints.n tc)).toArray 75)) := (Chg.refl No w).alloc _
  have hA := heap_alloc_new w (.cells (x.cells (.slice la x.labels.n lc) (.slice ta x.taints.n tc)).toArray 75)
  unfold NodeD.cells at *
  generalize labsE false x.labels = e1 at *
  generalize labsE false x.taints = e2 at *
  by_cases h0 : e0 = 0 <;> by_cases h1 : e1 = 0
  all_goals
    go_enter Tryz.func207, Tryz.ntmps207
    go_wp2_with (first
      | (go_at_call 232; refine (p1 _).mono ?_; rintro e w1 ⟨rfl, hc1⟩; have q6 := hc1.cell (cell_of_heap (j := 6) hA rfl) id; have q7 := hc1.cell (cell_of_heap (j := 7) hA rfl) id)
      | (go_at_call 233; refine (p3 _ ((hs.trans hc1).trans hc2)).mono ?_; rintro e w3 ⟨rfl, hc3⟩)
      | (go_at_call 233; refine (p2 _ (hs.trans hc1)).mono ?_; rintro e w2 ⟨rfl, hc2⟩; have q8 := hc2.cell q7 id))
    go_ret
    first
      | exact ⟨by simp [h0, h1, dec_eqz], ((hs.trans hc1).trans hc2).trans hc3⟩
      | exact ⟨by simp [h0, h1, dec_eqz], (hs.trans hc1).trans hc2⟩
      | exact ⟨by simp [h0, h1, dec_eqz], hs.trans hc1⟩

set_option maxHeartbeats 1000000 in
theorem owner_any {w : World} {o : OwnerD} (h : OwnerAt o) : Gives 133 #[.agg o.cells.toArray] w (.bool (ownerB o)) := by
  have p1 := fun W => name_any o.topo W (by have := h.2; unfold Sm at this; omega)
  have hs : Chg No w (w.alloc (.cells o.cells.toArray 100)) := (Chg.refl No w).alloc _
  have hA := heap_alloc_new w (.cells o.cells.toArray 100)
  obtain ⟨name, min, topo, skew, single⟩ := o
  unfold Gives ownerB OwnerD.cells at *
  dsimp only at *
  have hemp : topo.toList.isEmpty = true → nameB topo = false := fun h => by
    rw [isEmpty_eq, decide_eq_true_iff] at h
    simp [nameB, valueB, h]
  cases he : topo.toList.isEmpty <;> cases hn : nameB topo
  case true.true => rw [hemp he] at hn; cases hn
  all_goals
    have he' := toList_of he
    rw [hn] at p1
    clear hn hemp
    go_enter Tryz.func133, Tryz.ntmps133
    go_wp2_with (go_at_call 172; refine (p1 _).mono ?_; rintro e w1 ⟨rfl, hc1⟩; have q1 := hc1.cell (cell_of_heap (j := 1) hA rfl) id; have q3 := hc1.cell (cell_of_heap (j := 3) hA rfl) id)
    all_goals
      go_ret
      refine ⟨?_, by first | exact hs.trans hc1 | exact (Chg.refl No w).alloc _⟩
      first
        | (simp_all; done)
        | (simp_all <;> (intros; omega))
        | (simp_all; rw [Bool.eq_iff_iff]; simp_all <;> omega)
        | fail
set_option maxHeartbeats 1000000 in
theorem refOwner_any0 {w : World} {o : OwnerD} (h : OwnerAt o) : Gives 209 #[.agg o.cells.toArray] w (.bool (ownerB o)) := by
  have p1 := fun W => refName_any o.topo W (by have := h.2; unfold Sm at this; omega)
  have hs : Chg No w (w.alloc (.cells o.cells.toArray 100)) := (Chg.refl No w).alloc _
  have hA := heap_alloc_new w (.cells o.cells.toArray 100)
  obtain ⟨name, min, topo, skew, single⟩ := o
  unfold Gives ownerB OwnerD.cells at *
  dsimp only at *
  have hemp : topo.toList.isEmpty = true → nameB topo = false := fun h => by
    rw [isEmpty_eq, decide_eq_true_iff] at h
    simp [nameB, valueB, h]
  cases he : topo.toList.isEmpty <;> cases hn : nameB topo
  case true.true => rw [hemp he] at hn; cases hn
  all_goals
    have he' := toList_of he
    rw [hn] at p1
    clear hn hemp
    go_enter Tryz.func209, Tryz.ntmps209
    go_wp2_with (go_at_call 117; refine (p1 _).mono ?_; rintro e w1 ⟨rfl, rfl⟩)
    all_goals
      go_ret
      refine ⟨?_, by first | exact hs.trans hc1 | exact (Chg.refl No w).alloc _⟩
      first
        | (simp_all; done)
        | (simp_all <;> (intros; omega))
        | (simp_all; rw [Bool.eq_iff_iff]; simp_all <;> omega)
        | fail
end Go.Proofs.YthpmgnbehahkfaaGreat
