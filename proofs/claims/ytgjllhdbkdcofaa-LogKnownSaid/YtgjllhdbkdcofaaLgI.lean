/- The reference's Append. -/
import Derived.Test.YtgjllhdbkdcofaaLgH
import Derived.Deep.AppendLies
namespace Go.Proofs.Ytgjllhdbkdcofaa
open Go.RowKit Go.Dk

def fuOf (cut : Int) : Option Int := if cut < 0 then none else some cut

def RAppAny (w : World) (B p : Nat) (sv : Value) (bs xs : List UInt8) (gone : Bool) (cut : Int) (e : Ending) (w' : World) : Prop :=
  ∃ sv', e = .returned (.int .i64 (appRes bs (fuOf cut) gone xs).1) ∧ RefIs w' B p sv' (appRes bs (fuOf cut) gone xs).2.1 (appRes bs (fuOf cut) gone xs).2.2 cut ∧ Chg (rfoot p sv) w w' ∧ (∀ k, sv'.ownBlock = some k → sv.ownBlock = some k ∨ w.heap.size ≤ k)

theorem rappend_close {w W w1 : World} {B p : Nat} {sa : Option Addr} {sc : Nat} {v : Value} {bs xs : List UInt8} {gone : Bool} {cut : Int} {K : Nat} (hg : gone = decide (¬ cut < 0)) (hK : K = keptOf (fuOf cut) xs.length)
    (hL : RefIs w B p (.slice sa bs.length sc) bs false cut) (hn : bs.length + xs.length ≤ 1048576) (hcW : Chg (· = p) w W) (hWp : W.heap[p]? = some (.cells #[.slice sa bs.length sc, .bool gone, .int .i64 cut] 46 (0, 0)))
    (ho : w1.ownsRow B 5 1 v (bs.length + K) (bv bs ++ bv (xs.take K))) (hgr : W.drew.grownBy w1 (Value.slice sa bs.length sc).ownBlock) (hfr : ∀ k, v.ownBlock = some k → (Value.slice sa bs.length sc).ownBlock = some k ∨ W.drew.heap.size ≤ k) :
    RAppAny w B p (.slice sa bs.length sc) bs xs false cut (.returned (.int .i64 (if cut < 0 then 0 else 190))) (w1.setCell ⟨p, 0, none⟩ v) := by
  have hKx : K ≤ xs.length := by rw [hK]; unfold keptOf fuOf; split <;> omega
  have hne : (Value.slice sa bs.length sc).ownBlock ≠ some p := fun h => by
    rcases hL.row.2 with ⟨h1, _⟩ | ⟨g, cap, cur, h1, hb, hgg, _⟩
    · rw [h1] at h; simp [Value.ownBlock] at h
    · rw [h1] at h; simp [Value.ownBlock] at h; subst h
      exact ne_of_heap hL.cells hgg (by decide) rfl
  have hp1 : w1.heap[p]? = some (.cells #[.slice sa bs.length sc, .bool gone, .int .i64 cut] 46 (0, 0)) := by
    rw [hgr.block p (lt_of_heap hWp) (fun e => hne e.symm)]; exact hWp
  have e1 : appRes bs (fuOf cut) false xs = ((if cut < 0 then 0 else 190), bs ++ xs.take K, gone) := by
    unfold appRes
    rw [if_neg (by simp), if_neg (by omega), hK, hg]
    unfold fuOf
    split
    · rename_i h; simp [h]
    · rename_i h; simp [h]
  have hlen : (bs ++ xs.take K).length = bs.length + K := by rw [List.length_append, List.length_take]; omega
  refine ⟨v, by rw [e1], ?_, ?_, fun k hk => ?_⟩
  · rw [e1]
    refine ⟨by rw [hset_same hp1]; simp, hL.base, ?_, by rw [hlen]; omega, hL.cuts⟩
    rw [hlen, bv_append]
    exact ownsRow_set ho hp1 (by decide)
  · refine ((hcW.mono fun k _ h => Or.inl h).trans ?_ : Chg (rfoot p (.slice sa bs.length sc)) w w1).setCell (p := ⟨p, 0, none⟩) (fun _ => .inl rfl) _
    exact ((Chg.refl _ W).drew).grown hgr fun k hk _ => .inr hk
  · rcases hfr k hk with h | h
    · exact .inl h
    · have := hcW.size; exact .inr (Nat.le_trans this h)

theorem row_ne {w : World} {B p : Nat} {sv : Value} {bs : List UInt8} {gone : Bool} {cut : Int} (hL : RefIs w B p sv bs gone cut) : sv.ownBlock ≠ some p := fun h => by
  rcases hL.row.2 with ⟨h1, _⟩ | ⟨g, cap, cur, h1, hb, hgg, _⟩
  · rw [h1] at h; simp [Value.ownBlock] at h
  · rw [h1] at h; simp [Value.ownBlock] at h; subst h
    exact ne_of_heap hL.cells hgg (by decide) rfl
theorem blk_kept {W w1 : World} {p : Nat} {sv : Value} {o : Obj} (hWp : W.heap[p]? = some o) (hne : sv.ownBlock ≠ some p) (hg : W.drew.grownBy w1 sv.ownBlock) : w1.heap[p]? = some o :=
  (hg.block p (lt_of_heap hWp) (fun e => hne e.symm)).trans hWp

set_option maxHeartbeats 1000000 in
theorem rappend_any (B p : Nat) (sv x : Value) (bs xs : List UInt8) (gone : Bool) (cut : Int) (w : World) (hL : RefIs w B p sv bs gone cut) (hx : Rd w x 1 xs.length (bv xs)) (hxb : ∀ k, x.ownBlock = some k → 0 < xs.length → k ≠ p)
    (hn : xs.length ≤ 140737488351232) (hB : B ≤ w.heap.size) :
    Calls Try.prog 17 #[.pointer (some ⟨p, 0, none⟩), x] w (RAppAny w B p sv bs xs gone cut) := by
  obtain ⟨sa, sc, rfl, -⟩ := Rd.of_own hL.row
  have hxR := hx
  obtain ⟨xa, xc, rfl, -, hxc, -⟩ := hx
  have h0 := cell_of_heap (j := 0) (v := .slice sa bs.length sc) hL.cells rfl
  have h1 := cell_of_heap (j := 1) (v := .bool gone) hL.cells rfl
  have h2 := cell_of_heap (j := 2) (v := .int .i64 cut) hL.cells rfl
  have h0f := free_of_heap (j := 0) hL.cells
  have h1f := free_of_heap (j := 1) hL.cells
  have hs := hL.small
  have HX := Go.Lib.hid hxR; clear hxR
  have HXB := Go.Lib.hid hxb; clear hxb
  have HL := Go.Lib.hid hL; clear hL
  obtain ⟨i0, hi, hz0, hz1, hz2⟩ := info_parts Try.infoU8
  cases gone with
  | true =>
    go_enter Try.func17, Try.ntmps17
    go_wp2
    go_ret
    exact ⟨.slice sa bs.length sc, rfl, HL.out, Chg.refl _ _, fun k hk => .inl hk⟩
  | false =>
    by_cases h5 : 1048576 < bs.length + xs.length
    · go_enter Try.func17, Try.ntmps17
      go_wp2
      go_ret
      exact ⟨.slice sa bs.length sc, by simp [appRes, h5], by simpa [appRes, h5] using HL.out, Chg.refl _ _, fun k hk => .inl hk⟩
    · by_cases hcut : cut < 0
      · obtain ⟨W, hW⟩ : ∃ W, W = w := ⟨_, rfl⟩
        have hcW : Chg (· = p) w W := by rw [hW]; exact Chg.refl _ _
        have hWp : W.heap[p]? = some (.cells #[.slice sa bs.length sc, .bool false, .int .i64 cut] 46 (0, 0)) := by rw [hW]; exact HL.out.cells
        have hrow : W.drew.ownsRow B 5 1 (.slice sa bs.length sc) bs.length (bv bs) := hcW.own HL.out.row fun k hk e => row_ne HL.out (e ▸ hk)
        have HK : Hid (xs.length = keptOf (fuOf cut) xs.length) := by unfold Hid fuOf; rw [if_pos hcut]; rfl
        have hxt := HX.out.take (k := xs.length) (by omega)
        rw [Nat.mul_one, ← bv_take] at hxt
        have hxd : Rd W.drew (.slice xa xs.length xc) 1 xs.length (bv (xs.take xs.length)) := hxt.chg hcW.drew fun k hk h0 e => HXB.out k (ownBlock_len hk) (by omega) e
        have b1 : (xs.length : Int) ≤ (xc : Int) := by omega
        have hBW : B ≤ W.drew.heap.size := Nat.le_trans hB hcW.size
        have g0 := cell_of_heap (j := 0) (v := .slice sa bs.length sc) hWp rfl
        have HWp := Go.Lib.hid hWp; clear hWp
        have HW := Go.Lib.hid hW; clear hW
        go_enter Try.func17, Try.ntmps17
        go_wp2_with fail
        rw [← HW.out]
        go_region_law ((refine step_append_rd rfl _ _ _ rfl B 5 i0 _ 1 1 Try.underlying27 hi hz0 hz1 hz2 rfl (by decide) (.slice sa bs.length sc) _ _ rfl hrow (.slice xa xs.length xc) xs.length _ rfl hxd (bv_one _) (by unfold maxLen; omega) (by omega) hBW ?_; intro v1 w1 ho1 hg1 hi1 hfr1; have hp1 := Go.Lib.hid (blk_kept HWp.out (row_ne HL.out) hg1); have q0 := cell_of_heap (j := 0) (v := .slice sa bs.length sc) hp1.out rfl; have q1 := cell_of_heap (j := 1) (v := .bool false) hp1.out rfl; have f0 := free_of_heap (j := 0) hp1.out; obtain ⟨va, vc, rfl, -⟩ := Rd.of_own ho1))
        go_wp2
        go_ret
        have hfin := rappend_close (by simp [hcut]) HK.out HL.out (by omega) hcW HWp.out ho1 hg1 hfr1
        first | rw [if_pos hcut] at hfin | rw [if_neg (by omega)] at hfin
        exact hfin
      · obtain ⟨W, hW⟩ : ∃ W, W = w.setCell ⟨p, 1, none⟩ (.bool true) := ⟨_, rfl⟩
        have hcW : Chg (· = p) w W := by rw [hW]; exact (Chg.refl (· = p) w).setCell (p := ⟨p, 1, none⟩) (fun _ => rfl) _
        have hWp : W.heap[p]? = some (.cells #[.slice sa bs.length sc, .bool true, .int .i64 cut] 46 (0, 0)) := by rw [hW]; exact hset_same HL.out.cells _
        have hrow : W.drew.ownsRow B 5 1 (.slice sa bs.length sc) bs.length (bv bs) := hcW.own HL.out.row fun k hk e => row_ne HL.out (e ▸ hk)
        obtain ⟨y, rfl⟩ := Int.eq_ofNat_of_zero_le (show 0 ≤ cut by omega)
        obtain ⟨K, hKe⟩ : ∃ K, K = min xs.length y := ⟨_, rfl⟩
        have g5 : min (xs.length : Int) (y : Int) = (K : Int) := by omega
        have g6 : K ≤ xs.length := by omega
        have HK : Hid (K = keptOf (fuOf (y : Int)) xs.length) := by unfold Hid fuOf; rw [if_neg hcut, hKe]; rfl
        clear hKe
        have hxt := HX.out.take (k := K) g6
        rw [Nat.mul_one, ← bv_take] at hxt
        have hxd : Rd W.drew (.slice xa K xc) 1 K (bv (xs.take K)) := hxt.chg hcW.drew fun k hk h0 e => HXB.out k (ownBlock_len hk) (by omega) e
        have b1 : (K : Int) ≤ (xc : Int) := by omega
        have hBW : B ≤ W.drew.heap.size := Nat.le_trans hB hcW.size
        have g0 := cell_of_heap (j := 0) (v := .slice sa bs.length sc) hWp rfl
        have HWp := Go.Lib.hid hWp; clear hWp
        have HW := Go.Lib.hid hW; clear hW
        go_enter Try.func17, Try.ntmps17
        go_wp2_with fail
        rw [← HW.out]
        go_region_law ((refine step_append_rd rfl _ _ _ rfl B 5 i0 _ 1 1 Try.underlying27 hi hz0 hz1 hz2 rfl (by decide) (.slice sa bs.length sc) _ _ rfl hrow (.slice xa K xc) K _ rfl hxd (bv_one _) (by unfold maxLen; omega) (by omega) hBW ?_; intro v1 w1 ho1 hg1 hi1 hfr1; have hp1 := Go.Lib.hid (blk_kept HWp.out (row_ne HL.out) hg1); have q0 := cell_of_heap (j := 0) (v := .slice sa bs.length sc) hp1.out rfl; have q1 := cell_of_heap (j := 1) (v := .bool true) hp1.out rfl; have f0 := free_of_heap (j := 0) hp1.out; obtain ⟨va, vc, rfl, -⟩ := Rd.of_own ho1))
        go_wp2
        go_ret
        have hfin := rappend_close (by simp [hcut]) HK.out HL.out (by omega) hcW HWp.out ho1 hg1 hfr1
        first | rw [if_pos hcut] at hfin | rw [if_neg (by omega)] at hfin
        exact hfin
end Go.Proofs.Ytgjllhdbkdcofaa
