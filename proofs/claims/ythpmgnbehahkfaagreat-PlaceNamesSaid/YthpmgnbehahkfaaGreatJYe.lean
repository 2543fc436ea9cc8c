/- place.Check, drayageref07.Check, there, may. -/
import Derived.Test.YthpmgnbehahkfaaGreatJYc
import Derived.Test.YthpmgnbehahkfaaGreatJYd
set_option linter.unusedSimpArgs false
set_option linter.unusedVariables false
namespace Go.Proofs.YthpmgnbehahkfaaGreat
open Go.RowKit Go.Dk

/-- a list of numbers in memory -/
def IntsAt (w : World) (v : Value) (l : Lst Int) : Prop := l.n ≤ 1048576 ∧ ∃ a c, v = .slice a l.n c ∧ Sl w a l.n c 1 (fun k => [.int .i64 (l.el k)])
theorem IntsAt.no {w w' : World} {v : Value} {l : Lst Int} (h : IntsAt w v l) (hc : Chg No w w') : IntsAt w' v l := by
  obtain ⟨hn, a, c, e, hs⟩ := h
  exact ⟨hn, a, c, e, hs.no hc⟩

def oddP (s : SnapD) (x : Int) : Bool := decide (x < -1) || decide ((s.nodes.n : Int) ≤ x) || (decide (0 ≤ x) && (s.nodes.el x.toNat).lost)
def placeE (s : SnapD) (p : Lst Int) : Int := if checkE s = 0 then (if p.n = s.pods.n ∧ anyB (fun k => oddP s (p.el k)) p.n = false then 0 else 2) else checkE s
inductive OddWay (s : SnapD) (x : Int) : Prop
  | low (h1 : x < -1) (hb : oddP s x = true)
  | high (h1 : ¬ x < -1) (h2 : (s.nodes.n : Int) ≤ x) (hb : oddP s x = true)
  | none (h1 : ¬ x < -1) (h2 : ¬ (s.nodes.n : Int) ≤ x) (h3 : ¬ 0 ≤ x) (hb : oddP s x = false)
  | at (k : Nat) (hk : k < s.nodes.n) (e : x = k) (l : Bool) (hl : (s.nodes.el k).lost = l) (hb : oddP s x = l)
theorem oddWay (s : SnapD) (x : Int) : OddWay s x := by
  by_cases h1 : x < -1
  · exact .low h1 (by simp [oddP, h1])
  by_cases h2 : (s.nodes.n : Int) ≤ x
  · exact .high h1 h2 (by simp [oddP, h2])
  by_cases h3 : 0 ≤ x
  · obtain ⟨k, rfl⟩ : ∃ k : Nat, x = k := ⟨x.toNat, by omega⟩
    refine .at k (by omega) rfl _ rfl ?_
    have a1 : ¬ ((k : Int) < -1) := by omega
    have a2 : ¬ ((s.nodes.n : Int) ≤ (k : Int)) := h2
    simp [oddP, h1, h2]
  · exact .none h1 h2 h3 (by simp [oddP, h1, h2, h3])

set_option maxHeartbeats 1000000 in
theorem placeOdd_any {w : World} {n p o : Value} {s : SnapD} {lv tv : Nat → Value} {pv : Nat → PodV} (h : SnapAt w n p o s lv tv pv) (B : Nat) (hB : w.heap[B]? = some (.cells #[n, p, o] 26 (0, 0))) (x : Int) :
    Gives 106 #[.int .i64 x, .pointer (some ⟨B, 0, none⟩)] w (.bool (oddP s x)) := by
  have hN := h.nodes
  obtain ⟨na, nc, pa, pc, oa, oc, rfl, rfl, rfl⟩ := h.args
  obtain ⟨-, hx⟩ := hN.sl
  have c0 := cell_of_heap (j := 0) hB rfl
  unfold Gives
  clear h hN hB
  rcases oddWay s x with ⟨h1, hb⟩ | ⟨h1, h2, hb⟩ | ⟨h1, h2, h3, hb⟩ | ⟨k, hk, rfl, l, hl, hb⟩
  · have HB := Go.Lib.hid hb
    clear hb hx
    go_enter Tryz.func106, Tryz.ntmps106
    go_wp2_with fail
    go_ret
    rw [HB.out]; exact ⟨rfl, Chg.refl _ _⟩
  · have HB := Go.Lib.hid hb
    clear hb hx
    go_enter Tryz.func106, Tryz.ntmps106
    go_wp2_with fail
    go_ret
    rw [HB.out]; exact ⟨rfl, Chg.refl _ _⟩
  · have HB := Go.Lib.hid hb
    clear hb hx
    go_enter Tryz.func106, Tryz.ntmps106
    go_wp2_with fail
    go_ret
    rw [HB.out]; exact ⟨rfl, Chg.refl _ _⟩
  · obtain ⟨-, nb, no, rfl, ncell⟩ := hx.2.2.2 k hk
    have ql := ncell 9 (.bool (s.nodes.el k).lost) rfl
    rw [hl] at ql
    have HB := Go.Lib.hid hb
    have h1 : ¬ ((k : Int) < -1) := by omega
    have h2 : ¬ ((s.nodes.n : Int) ≤ (k : Int)) := by omega
    have h3 : (0 : Int) ≤ (k : Int) := by omega
    have h4 : (k : Int) < (s.nodes.n : Int) := by omega
    clear hb hx ncell hl hk
    cases l
    all_goals
      go_enter Tryz.func106, Tryz.ntmps106
      go_wp2_with fail
      go_ret
      rw [HB.out]; exact ⟨rfl, Chg.refl _ _⟩
theorem enters_placeOdd : Enters Tryz.prog 106 := enters_of Tryz.func106 (by kernel_rfl) rfl

set_option maxRecDepth 100000 in
set_option maxHeartbeats 1000000 in
theorem placeCheck_any {w : World} {n p o q : Value} {s : SnapD} {lv tv : Nat → Value} {pv : Nat → PodV} (h : SnapAt w n p o s lv tv pv) {l : Lst Int} (hq : IntsAt w q l) :
    Gives 56 #[.agg #[n, p, o], q] w (.int .i64 (placeE s l)) := by
  have hcw := (Chg.refl No w).alloc (.cells #[n, p, o] 26)
  have hA := heap_alloc_new w (.cells #[n, p, o] 26)
  have hS := h.no hcw
  have hQ := hq.no hcw
  obtain ⟨na, nc, pa, pc, oa, oc, rfl, rfl, rfl⟩ := h.args
  obtain ⟨hqn, qa, qc, rfl, hqs⟩ := hq
  clear h hqs
  unfold Gives
  obtain ⟨r, hr⟩ : ∃ r, r = placeE s l := ⟨_, rfl⟩
  rw [← hr]
  unfold placeE at hr
  go_enter Tryz.func56, Tryz.ntmps56
  go_wp2_with fail
  generalize w.alloc _ = W at hcw hA hS hQ ⊢
  generalize w.heap.size = B at hA ⊢
  have q0 := fun y : Wd No W => snapCheck_any (hS.no y.chg)
  have q1 : ∀ y : Wd No W, Gives 107 #[.slice qa l.n qc, .func (.func 106) #[] #[.pointer (some ⟨B, 0, none⟩)]] y.w (.bool (anyB (fun k => oddP s (l.el k)) l.n)) := fun y => by
    obtain ⟨_, a', c', e, hs⟩ := hQ.no y.chg
    cases e
    exact contInt_any 106 #[.pointer (some ⟨B, 0, none⟩)] enters_placeOdd (fun k => oddP s (l.el k)) _ l.n _ _ y.w hs.rd (by omega) (fun k x hk w' hc => by
      obtain ⟨hlt, rfl⟩ := flat1' (fun k => .int .i64 (l.el k)) l.n k x hk
      simpa using placeOdd_any ((hS.no y.chg).no hc) B (hc.heap (y.chg.heap hA id) id) (l.el k))
  unfold Gives at q0 q1
  have sb := fun y : Wd No W => y.chg.cell (cell_of_heap (j := 1) hA rfl) id
  clear hA hS hQ
  generalize checkE s = e1 at *
  generalize anyB (fun k => oddP s (l.el k)) l.n = b1 at *
  obtain ⟨y, hy⟩ := Wd.start No W
  rw [← hy]
  clear hy
  by_cases hn : l.n = s.pods.n
  · skip
    have hni : ((l.n : Int) = (s.pods.n : Int)) = True := by simp; omega
    have HR := Go.Lib.hid hr
    have HN := Go.Lib.hid hn
    clear hr hn
    go_wp2_with (first
      | (go_at_call 91; refine (q0 _).mono ?_; rintro e w' ⟨rfl, hc'⟩; obtain ⟨y, rfl⟩ := Wd.next hc'; clear hc')
      | (go_at_call 107; refine (q1 _).mono ?_; rintro e w' ⟨rfl, hc'⟩; obtain ⟨y, rfl⟩ := Wd.next hc'; clear hc'))
    all_goals
      go_ret
      refine ⟨?_, hcw.trans (Wd.chg _)⟩
      rw [HR.out]
      have hn := HN.out
      clear q0 q1
      first | (simp_all; done) | (cases b1 <;> simp_all; done)
  · skip
    have hni : ((l.n : Int) = (s.pods.n : Int)) = False := by simp; omega
    have HR := Go.Lib.hid hr
    have HN := Go.Lib.hid hn
    clear hr hn
    go_wp2_with (first
      | (go_at_call 91; refine (q0 _).mono ?_; rintro e w' ⟨rfl, hc'⟩; obtain ⟨y, rfl⟩ := Wd.next hc'; clear hc')
      | (go_at_call 107; refine (q1 _).mono ?_; rintro e w' ⟨rfl, hc'⟩; obtain ⟨y, rfl⟩ := Wd.next hc'; clear hc'))
    all_goals
      go_ret
      refine ⟨?_, hcw.trans (Wd.chg _)⟩
      rw [HR.out]
      have hn := HN.out
      clear q0 q1
      first | (simp_all; done) | (cases b1 <;> simp_all; done)

def PlcRel (W : World) (s : SnapD) (l : Lst Int) (i : Value) (wr : World) : Prop := ∃ k : Nat, i = .int .i64 k ∧ k ≤ l.n ∧ (∀ j, j < k → oddP s (l.el j) = false) ∧ Chg No W wr
theorem anyB_true {p : Nat → Bool} {n k : Nat} (hk : k < n) (h : p k = true) : anyB p n = true := by
  unfold anyB; rw [decide_eq_true_iff]; exact ⟨k, hk, h⟩
theorem there_any (a b : Int) (w : World) : Calls Tryz.prog 98 #[.int .i64 a, .int .i64 b] w fun e w' => e = .returned (.bool (decide (0 ≤ a) && decide (a < b))) ∧ w = w' := by
  go_enter Tryz.func98, Tryz.ntmps98
  go_wp2
  all_goals (go_ret; first | (simp_all; done) | (simp_all <;> (intros; omega)))
end Go.Proofs.YthpmgnbehahkfaaGreat
