/- place.on: the pods of a node, one behind the other. -/
import Derived.Test.YthpmgnbehahkfaaGreatJQc
import Derived.Test.YthpmgnbehahkfaaGreatJQi
import Derived.RangeFuncNested
import Derived.RangeFuncBound
import Derived.RangeFuncCalls
import Derived.RangeFuncLeaves
import Derived.Shelf.Abstract
import Derived.Shelf.RegionOpen
import Derived.WalkKit
import Derived.OwnWalkIn
import Derived.TacticsInMore
import Derived.LoopNIn
import Derived.LoopIn
set_option linter.unusedSimpArgs false
set_option linter.unusedVariables false
namespace Go.Proofs.YthpmgnbehahkfaaGreat
open Go.RowKit Go.Dk Go.Shelf

attribute [local go_sem] Oper.semAt_some

/-- below n0 all lies as it lay, but block g -/
structure But (g n0 : Nat) (W W' : World) : Prop where
  size : W.heap.size ≤ W'.heap.size
  block : ∀ k, k < n0 → k ≠ g → W'.heap[k]? = W.heap[k]?
theorem But.refl (g n0 : Nat) (W : World) : But g n0 W W := ⟨Nat.le_refl _, fun _ _ _ => rfl⟩
theorem But.trans {g n0 : Nat} {A B C : World} (h : But g n0 A B) (k : But g n0 B C) : But g n0 A C := ⟨Nat.le_trans h.size k.size, fun i hi hg => (k.block i hi hg).trans (h.block i hi hg)⟩
theorem But.cell {g n0 : Nat} {A B : World} (h : But g n0 A B) {p : Addr} {v : Value} (hc : A.cell? p = some v) (hb : p.block < n0) (hg : p.block ≠ g) : B.cell? p = some v := (World.cell?_of_block (h.block _ hb hg)).trans hc
theorem but_b {g : Nat} {w : World} (W : World) (l : Nat) (o o' : Obj) (hl : w.heap.size ≤ l) (_ : W.heap[l]? = some o) (_ : o.isCells = false) (_ : o.isWalk = false) : But g w.heap.size W (W.putObj l o') :=
  ⟨by simp, fun k hk _ => World.putObj_heap_other (by omega)⟩
theorem But.chg {g n0 : Nat} {A B : World} (h : Chg (· = g) A B) (hn : n0 ≤ A.heap.size) : But g n0 A B := ⟨h.size, fun k hk hg => h.block k (by omega) hg⟩
theorem But.below {g : Nat} {A B : World} (h : Below A.heap.size A B) : But g A.heap.size A B := ⟨h.size, fun k hk _ => h.block k hk⟩

def PodD.val (x : PodD) (v : PodV) : Value := .agg (x.cells v).toArray
/-- whose node it is -/
def onL (l : Lst Int) (x : Int) : Nat → List Nat
  | 0 => []
  | k + 1 => onL l x k ++ if l.el k = x then [k] else []
theorem onL_len (l : Lst Int) (x : Int) : ∀ k, (onL l x k).length ≤ k
  | 0 => Nat.le_refl _
  | k + 1 => by
    have := onL_len l x k
    simp only [onL, List.length_append]
    split <;> simp <;> omega

set_option maxRecDepth 100000 in
set_option maxHeartbeats 4000000 in
theorem on1_in {w Wc : World} {n p o q : Value} {s : SnapD} {lv tv : Nat → Value} {pv : Nat → PodV} (h : SnapAt w n p o s lv tv pv) {l : Lst Int} (hq : IntsAt w q l) (x : Int) (g Bp Bx Bs : Nat) (hcw : Chg No w Wc) (hg : w.heap.size ≤ g)
    (hp : Wc.heap[Bp]? = some (.cells #[q] 27 (0, 0))) (hx : Wc.heap[Bx]? = some (.cells #[.int .i64 x] 3 (0, 0))) (hs : Wc.heap[Bs]? = some (.cells #[n, p, o] 26 (0, 0))) (g2 : Bx ≠ g) (g3 : Bs ≠ g) (hn : l.n = s.pods.n) (m : Nat) (hm : 1 ≤ m) :
    SeqStopsK Fence.wide m Tryz.prog 168 #[.pointer (some ⟨Bp, 0, none⟩), .pointer (some ⟨Bx, 0, none⟩), .pointer (some ⟨Bs, 0, none⟩)] (fun k : Nat => #[(s.pods.el k).val (pv k)]) (But g Wc.heap.size) (fun ys => ys = onL l x l.n) (fun _ => True) l.n Wc := by
  intro lp J Jx W hW hJ hJx hY h0
  obtain ⟨na, nc, pa, pc, oa, oc, rfl, rfl, rfl⟩ := h.args
  obtain ⟨-, hxp⟩ := h.pods.sl
  obtain ⟨hqn, qa, qc, rfl, hxq⟩ := hq
  clear h
  have n2 := lt_of_heap hx
  have n3 := lt_of_heap hs
  have c1 : W.cell? ⟨Bp, 0, none⟩ = some (.slice qa l.n qc) := (hW.cell (p := ⟨Bp, 0, none⟩) (lt_of_heap hp)).trans (cell_of_heap hp rfl)
  have hB0 : But g Wc.heap.size Wc W := But.below hW
  have c2 := cell_of_heap (j := 0) hx rfl
  have c3 := cell_of_heap (j := 1) hs rfl
  have hsz := hcw.size
  have HN := Go.Lib.hid hn
  clear hp hx hs hn hJ hJx hW
  have hm1 : 1 ≤ m := hm
  refine callsIn_of_wp Tryz.func168 rfl trivial ?_ rfl
  simp only [Tryz.ntmps168, List.size_toArray, List.length_cons, List.length_nil, Nat.reduceAdd, Nat.reduceSub, Array.replicate_succ, Array.replicate_zero, List.push_toArray, List.append_toArray, List.nil_append, List.cons_append]
  gi_wp2
  gi_loopw [9] (fun i wr => ∃ k : Nat, k ≤ l.n ∧ i = .int .i64 k ∧ J (onL l x k) wr ∧ But g Wc.heap.size Wc wr) (fun i _ => l.n - (intOf i).toNat)
  case atStart => exact ⟨0, Nat.zero_le _, rfl, h0, hB0⟩
  case round =>
    obtain ⟨k, hk, rfl, hJs, hB⟩ := hrel
    have d2 := hB.cell c2 n2 g2
    have d3 := hB.cell c3 n3 g3
    by_cases hlt : k < l.n
    · have hlt' : (k : Int) < (l.n : Int) := by omega
      have hkp : (k : Int) < (s.pods.n : Int) := by have := HN.out; omega
      have up : ∀ {p : Addr} {v : Value}, w.cell? p = some v → wr.cell? p = some v := fun {p v} hc => by
        have hb := World.block_lt_of_cell? w _ hc
        exact hB.cell (hcw.cell hc id) (by omega) (by omega)
      obtain ⟨-, bq, oq, rfl, qcell⟩ := hxq.2.2.2 k hlt
      have q0 := up (qcell 0 _ rfl)
      rw [Nat.add_zero, Nat.mul_one] at q0
      obtain ⟨-, bp, op, rfl, pcell⟩ := hxp.2.2.2 k (by have := HN.out; omega)
      have e0 := up (pcell 0 _ rfl)
      have e1 := up (pcell 1 _ rfl)
      have e2 := up (pcell 2 _ rfl)
      have e3 := up (pcell 3 _ rfl)
      have e4 := up (pcell 4 _ rfl)
      have e5 := up (pcell 5 _ rfl)
      have e6 := up (pcell 6 _ rfl)
      have e7 := up (pcell 7 _ rfl)
      have e8 := up (pcell 8 _ rfl)
      have e9 := up (pcell 9 _ rfl)
      have e10 := up (pcell 10 _ rfl)
      have e11 := up (pcell 11 _ rfl)
      have e12 := up (pcell 12 _ rfl)
      have e13 := up (pcell 13 _ rfl)
      have e14 := up (pcell 14 _ rfl)
      rw [Nat.add_zero] at e0
      by_cases hx : l.el k = x
      · have heq : (l.el k == x) = true := by simp [hx]
        have hst : onL l x (k + 1) = onL l x k ++ [k] := by simp [onL, hx]
        obtain ⟨fn, tmps, assign, body, hy, hR⟩ := hY _ k wr hJs (by have := onL_len l x k; omega)
        unfold PodD.val PodD.cells at hy
        have HST := Go.Lib.hid hst
        clear hst hx qcell pcell up hxq hxp hY
        gi_wp2
        refine hR.mono ?_
        rintro e W3 (⟨rfl, hJ3, hk3⟩ | ⟨rfl, hJx3⟩)
        · gi_wp2
          go_roundw
          case rel => exact ⟨k + 1, by omega, by go_num, by rw [HST.out]; exact hJ3, hB.trans hk3⟩
          case measure => simp [intOf]; omega
        · gi_wp2
          refine bodyPost_ret (results_none rfl _ _ _) rfl ?_
          exact ⟨⟨_, rfl⟩, .inr ⟨_, trivial, hJx3⟩⟩
      · have heq : (l.el k == x) = false := by simp [hx]
        have hst : onL l x (k + 1) = onL l x k := by simp [onL, hx]
        have HST := Go.Lib.hid hst
        clear hst hx qcell pcell up hxq hxp hY
        gi_wp2
        refine ⟨fun _ h => (by cases h), ?_⟩
        gi_wp2
        go_roundw
        case rel => exact ⟨k + 1, by omega, by go_num, by rw [HST.out]; exact hJs, hB⟩
        case measure => simp [intOf]; omega
    · obtain rfl : k = l.n := by omega
      clear hxq hxp hY
      gi_wp2
      go_end0
      exact ⟨⟨_, rfl⟩, .inl ⟨_, rfl, hJs⟩⟩

theorem on_any (n p o q : Value) (x : Int) (w : World) (hq : ∃ a m c, q = .slice a m c) (hs : ∃ na nn nc pa pn pc oa on oc, n = .slice na nn nc ∧ p = .slice pa pn pc ∧ o = .slice oa on oc) :
    Calls Tryz.prog 108 #[.agg #[n, p, o], q, .int .i64 x] w fun e w' =>
      e = .returned (.func (.func 168) #[] #[.pointer (some ⟨w.heap.size + 1, 0, none⟩), .pointer (some ⟨w.heap.size + 2, 0, none⟩), .pointer (some ⟨w.heap.size, 0, none⟩)]) ∧
      w' = ((w.alloc (.cells #[n, p, o] 26)).alloc (.cells #[q] 27)).alloc (.cells #[.int .i64 x] 3) := by
  obtain ⟨a, m, c, rfl⟩ := hq
  obtain ⟨na, nn, nc, pa, pn, pc, oa, on, oc, rfl, rfl, rfl⟩ := hs
  go_enter Tryz.func108, Tryz.ntmps108
  go_wp2_with fail
  go_ret
  exact ⟨rfl, rfl⟩
end Go.Proofs.YthpmgnbehahkfaaGreat
