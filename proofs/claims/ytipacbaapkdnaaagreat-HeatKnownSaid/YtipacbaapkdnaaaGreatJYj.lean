/- drayageref07.UsedOf, Used. -/
import Derived.Test.YtipacbaapkdnaaaGreatJYi
set_option linter.unusedSimpArgs false
set_option linter.unusedVariables false
namespace Go.Proofs.YtipacbaapkdnaaaGreat
open Go.RowKit Go.Dk

/-- what the pods of a node ask for, up to a place -/
def usedF (s : SnapD) (l : Lst Int) (x : Int) (i : Nat) : Nat → Int
  | 0 => 0
  | k + 1 => usedF s l x i k + if l.el k = x then (s.pods.el k).req i else 0
def usedV (s : SnapD) (l : Lst Int) (x : Int) (i : Nat) : Int := if mayNB s l x then usedF s l x i l.n else 0

theorem used_le {s : SnapD} {l : Lst Int} {x : Int} {i : Nat} (hf : Fine (fun k => (s.pods.el k).req i) s.pods.n) : ∀ k, k ≤ s.pods.n → 0 ≤ usedF s l x i k ∧ usedF s l x i k ≤ sumF (fun k => (s.pods.el k).req i) k
  | 0, _ => ⟨Int.le_refl _, Int.le_refl _⟩
  | k + 1, hk => by
    have ih := used_le (l := l) (x := x) hf k (by omega)
    have h2 : 0 ≤ (s.pods.el k).req i ∧ (s.pods.el k).req i ≤ 1099511627776 := hf k (by omega)
    simp only [usedF, sumF]
    split <;> omega
theorem may_facts {s : SnapD} {l : Lst Int} (h : mayB s l = true) : shapedB s = true ∧ capsE s = 0 ∧ reqsE s = 0 ∧ l.n = s.pods.n ∧ anyB (fun k => oddP s (l.el k)) l.n = false := by
  simp only [mayB, placeE, decide_eq_true_iff] at h
  split at h
  · rename_i h1
    split at h
    · rename_i h2
      unfold checkE at h1
      split at h1
      · rename_i h3
        split at h1
        · rename_i h4
          exact ⟨h3, h4.1, h4.2, h2.1, h2.2⟩
        · cases h1
      · cases h1
    · cases h
  · rename_i h1
    exact absurd h (by simpa using h1)
theorem req_fine {s : SnapD} (h1 : shapedB s = true) (h2 : reqsE s = 0) {l : Lst Int} (x : Int) (i : Nat) (hi : i < 5) (k : Nat) (hk : k ≤ s.pods.n) : Qty (usedF s l x i k) := by
  have hf := shaped_reqs h1 i hi
  obtain ⟨a, b⟩ := used_le (l := l) (x := x) hf k hk
  have hm := sumF_mono (fun k hk => (hf k hk).1) s.pods.n hk (Nat.le_refl _)
  have ha : AllE (fun k => (s.pods.el k).req) s.pods.n := by
    unfold reqsE plusE at h2
    split at h2
    · assumption
    · cases h2
  have := (allE_iff _ _).1 ha i hi
  unfold addE at this
  split at this
  · exact ⟨a, by omega⟩
  · cases this

def FiveIs (w : World) (g : Nat) (x : Nat → Int) : Prop := w.heap[g]? = some (.cells (cells5 x).toArray 46 (0, 0))
theorem FiveIs.set {w : World} {g : Nat} {x : Nat → Int} (h : FiveIs w g x) (i : Nat) (hi : i < 5) (n : Int) : FiveIs (w.setCell ⟨g, i, none⟩ (.int .i64 n)) g (fun j => if j = i then n else x j) := by
  unfold FiveIs at *
  rw [hset_same h]
  match i, hi with
  | 0, _ => rfl
  | 1, _ => rfl
  | 2, _ => rfl
  | 3, _ => rfl
  | 4, _ => rfl
theorem FiveIs.cell {w : World} {g : Nat} {x : Nat → Int} (h : FiveIs w g x) (i : Nat) (hi : i < 5) : w.cell? ⟨g, i, none⟩ = some (.int .i64 (x i)) := cell_of_heap h (by rw [List.getElem?_toArray]; exact cells5_at x i hi)
theorem FiveIs.congr {w : World} {g : Nat} {x y : Nat → Int} (h : FiveIs w g x) (e : ∀ i, i < 5 → x i = y i) : FiveIs w g y := by
  unfold FiveIs cells5 at *
  rw [← e 0 (by omega), ← e 1 (by omega), ← e 2 (by omega), ← e 3 (by omega), ← e 4 (by omega)]
  exact h

def UsedRel (V : World) (g : Nat) (s : SnapD) (l : Lst Int) (x : Int) (i : Value) (wr : World) : Prop :=
  ∃ k : Nat, i = .int .i64 k ∧ k ≤ l.n ∧ FiveIs wr g (fun j => usedF s l x j k) ∧ Chg (· = g) V wr
def UsedRel2 (V : World) (g : Nat) (s : SnapD) (l : Lst Int) (x : Int) (k : Nat) (i : Value) (wr : World) : Prop :=
  ∃ m : Nat, i = .int .i64 m ∧ m ≤ 5 ∧ FiveIs wr g (fun j => if j < m then usedF s l x j (k + 1) else usedF s l x j k) ∧ Chg (· = g) V wr

set_option maxRecDepth 100000 in
set_option maxHeartbeats 4000000 in
theorem refUsedOf_any {w : World} {n p o q : Value} {s : SnapD} {lv tv : Nat → Value} {pv : Nat → PodV} (h : SnapAt w n p o s lv tv pv) {l : Lst Int} (hq : IntsAt w q l) (x : Int) (hn : l.n = s.pods.n) (hreq : ∀ i, i < 5 → ∀ k, k ≤ s.pods.n → Qty (usedF s l x i k)) (hrq : ∀ i, i < 5 → ∀ k, k < s.pods.n → Qty ((s.pods.el k).req i)) :
    Calls Tryz.prog 59 #[.agg #[n, p, o], q, .int .i64 x] w fun e w' => e = .returned (.agg (cells5 (fun i => usedF s l x i l.n)).toArray) ∧ Chg No w w' := by
  have hcw := (((Chg.refl No w).alloc (.cells #[n, p, o] 26)).alloc (.cells #[.int .i64 0, .int .i64 0, .int .i64 0, .int .i64 0, .int .i64 0] 46)).alloc (.cells #[.int .i64 0, .int .i64 0, .int .i64 0, .int .i64 0, .int .i64 0] 46)
  have hA := heap_alloc_old' (heap_alloc_old' (heap_alloc_new w (.cells #[n, p, o] 26)) (o' := .cells #[.int .i64 0, .int .i64 0, .int .i64 0, .int .i64 0, .int .i64 0] 46)) (o' := .cells #[.int .i64 0, .int .i64 0, .int .i64 0, .int .i64 0, .int .i64 0] 46)
  have hR := heap_alloc_old' (heap_alloc_new (w.alloc (.cells #[n, p, o] 26)) (.cells #[.int .i64 0, .int .i64 0, .int .i64 0, .int .i64 0, .int .i64 0] 46)) (o' := .cells #[.int .i64 0, .int .i64 0, .int .i64 0, .int .i64 0, .int .i64 0] 46)
  have hO := heap_alloc_new ((w.alloc (.cells #[n, p, o] 26)).alloc (.cells #[.int .i64 0, .int .i64 0, .int .i64 0, .int .i64 0, .int .i64 0] 46)) (.cells #[.int .i64 0, .int .i64 0, .int .i64 0, .int .i64 0, .int .i64 0] 46)
  simp only [World.size_alloc] at hR hO
  have hltP : ∀ ad, (∃ m c, p = .slice (some ad) m c) → 0 < s.pods.n → ad.block < w.heap.size := by
    rintro ad ⟨m, c, rfl⟩ h0
    obtain ⟨-, hx⟩ := h.pods.sl
    obtain ⟨-, b, o, e, hc⟩ := hx.2.2.2 0 h0
    cases e
    exact World.block_lt_of_cell? w _ (hc 0 _ rfl)
  have hltQ : ∀ ad, (∃ m c, q = .slice (some ad) m c) → 0 < l.n → ad.block < w.heap.size := by
    rintro ad ⟨m, c, rfl⟩ h0
    obtain ⟨_, a', c', e', hx⟩ := hq
    cases e'
    obtain ⟨-, b, o, e, hc⟩ := hx.2.2.2 0 h0
    cases e
    exact World.block_lt_of_cell? w _ (hc 0 _ rfl)
  have hS := h.no hcw
  have hQ := hq.no hcw
  obtain ⟨na, nc, pa, pc, oa, oc, rfl, rfl, rfl⟩ := h.args
  obtain ⟨hqn, qa, qc, rfl, -⟩ := hq
  obtain ⟨-, hxp⟩ := hS.pods.sl
  obtain ⟨-, _, _, e, hxq⟩ := hQ
  cases e
  clear h
  have HN := Go.Lib.hid hn
  clear hn
  go_enter Tryz.func59, Tryz.ntmps59
  go_wp2_with fail
  generalize ((w.alloc _).alloc _).alloc _ = W at hcw hA hR hO hxp hxq hS ⊢
  generalize hBe : w.heap.size = B at hA hR hO hltP hltQ ⊢
  have HBe := Go.Lib.hid hBe
  clear hBe hS
  have b1 := cell_of_heap (j := 1) hA rfl
  go_loopw [8] (fun i wr => UsedRel W (B + 2) s l x i wr) (fun i _ => l.n - (intOf i).toNat)
  case atStart => exact ⟨0, rfl, by omega, hO, Chg.refl _ _⟩
  case round =>
    obtain ⟨k, rfl, hk, h5, hc⟩ := hrel
    by_cases hlt : k < l.n
    · have hxq1 := hxq.chg2 hc (fun ad h1 h2 e => by have := hltQ ad ⟨_, _, by rw [h1]⟩ h2; omega)
      obtain ⟨-, bq, oq, rfl, qcell⟩ := hxq1.2.2.2 k hlt
      have q0 := qcell 0 _ rfl
      rw [Nat.add_zero, Nat.mul_one] at q0
      have hxp1 := hxp.chg2 hc (fun ad h1 h2 e => by have := hltP ad ⟨_, _, by rw [h1]⟩ h2; omega)
      have hkp : k < s.pods.n := by have := HN.out; omega
      have hlt' : (k : Int) < (l.n : Int) := by omega
      have hlt2 : (k : Int) < (s.pods.n : Int) := by omega
      have hqb := hltQ ⟨bq, oq, none⟩ ⟨_, _, rfl⟩ (by omega)
      have b1' := hc.cell b1 (by show ¬ B = B + 2; omega)
      generalize wr = V at h5 hc q0 hxp1 b1' ⊢
      go_wp2_with fail
      go_loopw [9] (fun i wr => UsedRel2 V (B + 2) s l x k i wr) (fun i _ => 5 - (intOf i).toNat)
      case atStart => exact ⟨0, rfl, by omega, h5.congr (fun j _ => by simp), Chg.refl _ _⟩
      case round =>
        obtain ⟨m, rfl, hm, h52, hc2⟩ := hrel
        have q1 := hc2.cell q0 (by show ¬ bq = B + 2; have h9 : bq < B := hqb; omega)
        by_cases hx : l.el k = x
        · have heq : (l.el k == x) = true := by simp [hx]
          by_cases hm5 : m < 5
          · obtain ⟨-, bp, op, rfl, pcell⟩ := hxp1.2.2.2 k hkp
            have hpb := hltP ⟨bp, op, none⟩ ⟨_, _, rfl⟩ (by have := HN.out; omega)
            have pm : ((s.pods.el k).cells (pv k))[2 + m]? = some (.int .i64 ((s.pods.el k).req m)) := by
              match m, hm5 with
              | 0, _ => rfl
              | 1, _ => rfl
              | 2, _ => rfl
              | 3, _ => rfl
              | 4, _ => rfl
            have qp := hc2.cell (pcell (2 + m) _ pm) (by show ¬ bp = B + 2; have h9 : bp < B := hpb; omega)
            rw [← Nat.add_assoc] at qp
            have qo := h52.cell m hm5
            rw [if_neg (by omega)] at qo
            have qf := free_of_heap (j := m) h52
            have b2 := hc2.cell b1' (by show ¬ B = B + 2; omega)
            have hw : IntKind.i64.wrap (usedF s l x m k + (s.pods.el k).req m) = usedF s l x m k + (s.pods.el k).req m := by
              have := hreq m hm5 k (by have := HN.out; omega)
              have := hrq m hm5 k hkp
              unfold Qty at *
              exact IntWalk.i64_in _ (by omega)
            have hm' : (m : Int) < 5 := by omega
            have hm0 : (0 : Int) ≤ (m : Int) := by omega
            have hstep : usedF s l x m (k + 1) = usedF s l x m k + (s.pods.el k).req m := by simp [usedF, hx]
            have HST := Go.Lib.hid hstep
            have H52 := Go.Lib.hid h52
            clear hstep pcell pm hxp hxq hxq1 hxp1 qcell h52 hx
            go_wp2_with fail
            go_region
            all_goals
              go_wp2_with fail
              go_roundw
              case rel => exact ⟨m + 1, by go_num, by omega, (H52.out.set m hm5 _).congr (fun j hj => by
                by_cases h1 : j = m
                · subst h1; rw [if_pos rfl, if_pos (by omega), HST.out]
                · rw [if_neg h1]; by_cases h2 : j < m
                  · rw [if_pos h2, if_pos (by omega)]
                  · rw [if_neg h2, if_neg (by omega)]), (hc2.setCell (p := ⟨B + 1 + 1, m, none⟩) (fun _ => rfl) _).drew⟩
              case measure => simp [intOf]; omega
          · obtain rfl : m = 5 := by omega
            go_wp2_with fail
            go_roundw
            case rel => exact ⟨k + 1, by go_num, by omega, h52.congr (fun j hj => by rw [if_pos hj]), hc.trans hc2⟩
            case measure => simp [intOf]; omega
        · have heq : (l.el k == x) = false := by simp [hx]
          have hsame : ∀ j, usedF s l x j (k + 1) = usedF s l x j k := fun j => by simp [usedF, hx]
          have HSM := Go.Lib.hid hsame
          clear hsame
          by_cases hm5 : m < 5
          · have hm' : (m : Int) < 5 := by omega
            clear hxp hxq hxq1 hxp1 qcell
            go_wp2_with fail
            go_roundw
            case rel => exact ⟨k + 1, by go_num, by omega, h52.congr (fun j hj => by rw [HSM.out]; split <;> rfl), hc.trans hc2⟩
            case measure => simp [intOf]; omega
          · obtain rfl : m = 5 := by omega
            go_wp2_with fail
            go_roundw
            case rel => exact ⟨k + 1, by go_num, by omega, h52.congr (fun j hj => by rw [if_pos hj]), hc.trans hc2⟩
            case measure => simp [intOf]; omega
    · obtain rfl : k = l.n := by omega
      obtain ⟨x0, hx0⟩ : ∃ y : Nat → Int, y = fun j => usedF s l x j l.n := ⟨_, rfl⟩
      rw [← hx0] at h5
      have HX0 := Go.Lib.hid hx0
      clear hx0 hxp hxq
      have hR2 : FiveIs wr (B + 1) (fun _ => 0) := hc.heap hR (by omega)
      have y0 : wr.cell? ⟨B + 2, 0, none⟩ = some (.int .i64 (x0 0)) := h5.cell 0 (by omega)
      have y1 : wr.cell? ⟨B + 2, 1, none⟩ = some (.int .i64 (x0 1)) := h5.cell 1 (by omega)
      have y2 : wr.cell? ⟨B + 2, 2, none⟩ = some (.int .i64 (x0 2)) := h5.cell 2 (by omega)
      have y3 : wr.cell? ⟨B + 2, 3, none⟩ = some (.int .i64 (x0 3)) := h5.cell 3 (by omega)
      have y4 : wr.cell? ⟨B + 2, 4, none⟩ = some (.int .i64 (x0 4)) := h5.cell 4 (by omega)
      have u0 : wr.cell? ⟨B + 1, 0, none⟩ = some (.int .i64 0) := hR2.cell 0 (by omega)
      have z0 : wr.frozen? ⟨B + 1, 0, none⟩ = false := free_of_heap hR2
      have u1 : wr.cell? ⟨B + 1, 1, none⟩ = some (.int .i64 0) := hR2.cell 1 (by omega)
      have z1 : wr.frozen? ⟨B + 1, 1, none⟩ = false := free_of_heap hR2
      have u2 : wr.cell? ⟨B + 1, 2, none⟩ = some (.int .i64 0) := hR2.cell 2 (by omega)
      have z2 : wr.frozen? ⟨B + 1, 2, none⟩ = false := free_of_heap hR2
      have u3 : wr.cell? ⟨B + 1, 3, none⟩ = some (.int .i64 0) := hR2.cell 3 (by omega)
      have z3 : wr.frozen? ⟨B + 1, 3, none⟩ = false := free_of_heap hR2
      have u4 : wr.cell? ⟨B + 1, 4, none⟩ = some (.int .i64 0) := hR2.cell 4 (by omega)
      have z4 : wr.frozen? ⟨B + 1, 4, none⟩ = false := free_of_heap hR2
      have hW := hcw.trans' hc (fun i h1 h2 => by have := HBe.out; omega)
      go_wp2_with fail
      have h53 := (((((hR2).set 0 (by omega) (x0 0)).set 1 (by omega) (x0 1)).set 2 (by omega) (x0 2)).set 3 (by omega) (x0 3)).set 4 (by omega) (x0 4)
      have hch : Chg (· = B + 1) wr _ := (((((Chg.refl (· = B + 1) wr).setCell (p := ⟨B + 1, 0, none⟩) (fun _ => rfl) (.int .i64 (x0 0))).setCell (p := ⟨B + 1, 1, none⟩) (fun _ => rfl) (.int .i64 (x0 1))).setCell (p := ⟨B + 1, 2, none⟩) (fun _ => rfl) (.int .i64 (x0 2))).setCell (p := ⟨B + 1, 3, none⟩) (fun _ => rfl) (.int .i64 (x0 3))).setCell (p := ⟨B + 1, 4, none⟩) (fun _ => rfl) (.int .i64 (x0 4))
      generalize ((((wr.setCell _ _).setCell _ _).setCell _ _).setCell _ _).setCell _ _ = W3 at h53 hch ⊢
      have c0 := h53.cell 0 (by omega)
      have c1 := h53.cell 1 (by omega)
      have c2 := h53.cell 2 (by omega)
      have c3 := h53.cell 3 (by omega)
      have c4 := h53.cell 4 (by omega)
      simp only [if_pos, if_neg, Nat.zero_ne_one, reduceIte] at c0 c1 c2 c3 c4
      simp at c0 c1 c2 c3 c4
      (try simp only [Exit.inBlock, Exit.then])
      refine bodyPost_ret (by simp [results, Tryz.results59, go_sem, c0, c1, c2, c3, c4]; try rfl) rfl ?_
      refine ⟨?_, hW.trans' hch (fun i h1 h2 => by have := HBe.out; omega)⟩
      rw [← HX0.out]; rfl
end Go.Proofs.YtipacbaapkdnaaaGreat
