/- The log's Append: what it comes to. -/
import Derived.Test.YtgjllhdbkdcofaaLgB
namespace Go.Proofs.Ytgjllhdbkdcofaa
open Go.RowKit Go.Dk

/-- how much of what is appended stays -/
def keptOf (fu : Option Int) (n : Nat) : Nat := match fu with | none => n | some c => min n c.toNat

def AppPost (w : World) (B p : Nat) (sv fv : Value) (bs xs : List UInt8) (fu : Option Int) (e : Ending) (w' : World) : Prop :=
  ∃ sv', e = .returned (.int .i64 (if fu = none then 0 else 190)) ∧ LogIs w' B p sv' fv (bs ++ xs.take (keptOf fu xs.length)) fu (decide (fu ≠ none)) ∧ Chg (foot p sv fv) w w' ∧ (∀ k, sv'.ownBlock = some k → sv.ownBlock = some k ∨ w.heap.size ≤ k)

theorem bv_append (a b : List UInt8) : bv (a ++ b) = bv a ++ bv b := by simp [bv]
theorem bv_take (a : List UInt8) (k : Nat) : bv (a.take k) = (bv a).take k := by simp [bv, List.map_take]

theorem ownBlock_len {a : Option Addr} {n m c k : Nat} (h : (Value.slice a n c).ownBlock = some k) : (Value.slice a m c).ownBlock = some k := by
  cases a with
  | none => cases h
  | some a => exact h

theorem append_close {w W w1 w2 : World} {B p : Nat} {sa ra : Option Addr} {sc rc : Nat} {fv : Value} {bs xs : List UInt8} {fu : Option Int} {d : Bool} {g : Nat} {cur : List Value} (K : Nat) (hd : d = decide (fu ≠ none)) (hKe : K = keptOf fu xs.length)
    (hL : LogIs w B p (.slice sa bs.length sc) fv bs fu false) (hn : bs.length + xs.length ≤ 1048576) (hcW : Chg (· = p) w W) (hc1 : Chg No W w1)
    (hr1 : w1.ownsRow B 5 1 (.slice ra bs.length rc) bs.length (bv bs)) (hr2 : (bs.length : Int) + K ≤ rc)
    (hr4 : ∀ j, (Value.slice ra bs.length rc).ownBlock = some j → (Value.slice sa bs.length sc).ownBlock = some j ∨ W.heap.size ≤ j)
    (HH : 0 < K → ra = some ⟨g, 0, none⟩) (HHc : 0 < K → bs.length + K ≤ cur.length) (HHg : 0 < K → w1.heap[g]? = some (.cells cur.toArray 5 (0, 0)))
    (hw1 : 0 < K → w2.heap[g]? = some (.cells (splice cur bs.length ((bv xs).take K)).toArray 5 (0, 0))) (hw2 : Chg (fun j => 0 < K ∧ j = g) w1 w2) (hw3 : K = 0 → w2 = w1)
    (htk : 0 < K → cur.take bs.length = bv bs) (hgl : 0 < K → cur.length = rc) (hgB : 0 < K → B ≤ g) (hrm : rc ≤ maxLen)
    (hp2 : w2.heap[p]? = some (.cells #[.slice sa bs.length sc, fv, .bool d, .bool true] 43 (0, 0))) :
    AppPost w B p (.slice sa bs.length sc) fv bs xs fu (.returned (.int .i64 (if fu = none then 0 else 190))) (w2.setCell ⟨p, 0, none⟩ (.slice ra (bs.length + K) rc)) := by
  have hK : K ≤ xs.length := by rw [hKe]; unfold keptOf; cases fu <;> simp <;> omega
  have hpg : 0 < K → p ≠ g := fun h => ne_of_heap hp2 (hw1 h) (by decide)
  have hlen : (bs ++ xs.take K).length = bs.length + K := by simp; omega
  have hrow : (w2.setCell ⟨p, 0, none⟩ (.slice ra (bs.length + K) rc)).ownsRow B 5 1 (.slice ra (bs.length + K) rc) (bs.length + K) (bv (bs ++ xs.take K)) := by
    rcases Nat.eq_zero_or_pos K with h0 | h0
    · subst h0
      rw [hw3 rfl]
      simp only [Nat.add_zero, List.take_zero, List.append_nil]
      refine (((Chg.refl (· = p) w1).setCell (p := ⟨p, 0, none⟩) (fun _ => rfl) _).own hr1 fun k hk e => ?_)
      subst e
      rcases hr1.2 with ⟨h, _⟩ | ⟨g', cap, cur', h, hb, hg, _⟩
      · rw [h] at hk; simp [Value.ownBlock] at hk
      · rw [h] at hk; simp [Value.ownBlock] at hk; subst hk
        rw [hw3 rfl] at hp2
        exact ne_of_heap hp2 hg (by decide) rfl
    · obtain rfl := HH h0
      have h1 := HHc h0
      have h2 := hw1 h0
      have h3 := hgl h0
      have h4 := htk h0
      have h5 : ((bv xs).take K).length = K := by simp [bv_length]; omega
      refine ⟨by rw [bv_length, hlen]; omega, .inr ⟨g, rc, _, rfl, hgB h0, hset_other h2 (Ne.symm (hpg h0)) _, by omega, hrm, ?_, ?_⟩⟩
      · simp [length_splice _ _ _ (show bs.length + ((bv xs).take K).length ≤ cur.length by omega), h3]
      · simp only [splice, Nat.mul_one, List.toList_toArray]
        rw [bv_append, bv_take, h4, ← List.append_assoc, List.take_append_of_le_length (by simp [bv_length]; omega)]
        exact List.take_of_length_le (by simp [bv_length]; omega)
  have hcF : Chg (foot p (.slice sa bs.length sc) fv) w W := hcW.mono fun k _ e => .inl e
  have hgS : 0 < K → g < w.heap.size → foot p (.slice sa bs.length sc) fv g := fun h0 hlt => by
    rcases hr4 g (by rw [HH h0]; rfl) with h | h
    · exact .inr (.inl h)
    · have := hcW.size; omega
  have hc2 : Chg (foot p (.slice sa bs.length sc) fv) w w2 := by
    refine (hcF.trans' hc1 (fun _ h => h.elim)).trans' hw2 fun i hi hlt => ?_
    rw [hi.2]; exact hgS hi.1 (hi.2 ▸ hlt)
  refine ⟨.slice ra (bs.length + K) rc, rfl, ⟨?_, hL.base, ?_, ?_, ?_⟩, hc2.setCell (fun _ => .inl rfl) _, ?_⟩
  · rw [hset_same hp2]; simp [hd]
  · rw [← hKe, hlen]; exact hrow
  · rcases hL.fuse with h | ⟨q, y, hq1, hq2, hq3, hq4, hq5, hq⟩
    · exact .inl h
    · have hqp : q ≠ p := ne_of_heap hq hL.cells (by decide)
      have a1 := hc1.heap (hcW.heap hq hqp) id
      have a2 := hw2.heap a1 fun h => ne_of_heap a1 (HHg h.1) (by decide) h.2
      exact .inr ⟨q, y, hq1, hq2, hq3, hq4, hq5, hset_other a2 hqp _⟩
  · rw [← hKe, hlen]; omega
  · intro k hk
    rcases hr4 k (ownBlock_len hk) with h | h
    · exact .inl h
    · have := hcW.size; exact .inr (by omega)
end Go.Proofs.Ytgjllhdbkdcofaa
