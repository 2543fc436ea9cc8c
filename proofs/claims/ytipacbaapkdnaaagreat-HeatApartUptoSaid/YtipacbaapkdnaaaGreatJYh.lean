/- Shares; EqInts, CopyInts. -/
import Derived.Test.YtipacbaapkdnaaaGreatJYg
set_option linter.unusedSimpArgs false
set_option linter.unusedVariables false
namespace Go.Proofs.YtipacbaapkdnaaaGreat
open Go.RowKit Go.Dk

set_option maxHeartbeats 1000000 in
theorem refQuoShare_any (u c : Int) (hu : Qty u) (hc : Qty c) (hz : ¬ (c = 0 ∧ 0 < u)) (w : World) : Gives 60 #[.int .i64 u, .int .i64 c] w (.tuple #[.int .i64 (quoV u c), .int .i64 0]) := by
  obtain ⟨hu1, hu2⟩ := hu
  obtain ⟨hc1, hc2⟩ := hc
  unfold Gives at *
  have hw : IntKind.i64.wrap (u * 1000) = u * 1000 := IntWalk.i64_in _ (by omega)
  have a1 : ¬ u < 0 := by omega
  have a2 : ¬ c < 0 := by omega
  have a3 : ¬ 1099511627776 < u := by omega
  have a4 : ¬ 1099511627776 < c := by omega
  by_cases hc0 : c = 0
  · have hu0 : u = 0 := by
      rcases Int.lt_or_eq_of_le hu1 with h | h
      · exact absurd ⟨hc0, h⟩ hz
      · exact h.symm
    subst hc0; subst hu0
    clear hz
    go_enter Tryz.func60, Tryz.ntmps60
    go_wp2_with fail
    go_returns
    exact ⟨rfl, Chg.refl _ _⟩
  · have hq : quoV u c = Int.tdiv (u * 1000) c := if_neg hc0
    have hr : -9223372036854775808 ≤ Int.tdiv (u * 1000) c ∧ Int.tdiv (u * 1000) c ≤ 9223372036854775807 := by
      rw [Int.tdiv_eq_ediv_of_nonneg (by omega)]
      have h1 : 0 ≤ u * 1000 / c := Int.ediv_nonneg (by omega) hc1
      have h2 : u * 1000 / c ≤ u * 1000 := Int.ediv_le_self _ (by omega)
      omega
    have hw2 : IntKind.i64.wrap (Int.tdiv (u * 1000) c) = Int.tdiv (u * 1000) c := IntWalk.i64_in _ hr
    have HQ := Go.Lib.hid hq
    clear hq hz hr
    go_enter Tryz.func60, Tryz.ntmps60
    go_wp2_with fail
    go_returns
    rw [HQ.out]
    exact ⟨by simp_all, Chg.refl _ _⟩

theorem heatShare1_any (u c : Int) (hu : Qty u) (hc : Qty c) (w : World) : Gives 34 #[.int .i64 u, .int .i64 c] w (.int .i64 (shareV u c)) := by
  unfold Gives
  by_cases hz : c = 0 ∧ 0 < u
  · have hv : shareV u c = 1000 := if_pos hz
    have HV := Go.Lib.hid hv
    clear hv
    obtain ⟨h1, h2⟩ := hz
    go_enter Tryz.func34, Tryz.ntmps34
    go_wp2_with fail
    go_ret
    rw [HV.out]; exact ⟨rfl, Chg.refl _ _⟩
  · have p1 := quantShare_any u c hu hc hz w
    have hv : shareV u c = quoV u c := if_neg hz
    have HV := Go.Lib.hid hv
    have hz' : c = 0 → ¬ 0 < u := fun a b => hz ⟨a, b⟩
    unfold Gives at p1
    clear hv hz
    by_cases h1 : c = 0
    · have h2 := hz' h1
      clear hz'
      go_enter Tryz.func34, Tryz.ntmps34
      go_wp2_with (go_at_call 57; (try subst h1); refine p1.mono ?_; rintro e w' ⟨rfl, hc'⟩)
      go_ret
      rw [HV.out]; exact ⟨rfl, hc'⟩
    · clear hz'
      go_enter Tryz.func34, Tryz.ntmps34
      go_wp2_with (go_at_call 57; refine p1.mono ?_; rintro e w' ⟨rfl, hc'⟩)
      go_ret
      rw [HV.out]; exact ⟨rfl, hc'⟩
theorem refOne_any (u c : Int) (hu : Qty u) (hc : Qty c) (w : World) : Gives 37 #[.int .i64 u, .int .i64 c] w (.int .i64 (shareV u c)) := by
  unfold Gives
  by_cases hz : c = 0 ∧ 0 < u
  · have hv : shareV u c = 1000 := if_pos hz
    have HV := Go.Lib.hid hv
    clear hv
    obtain ⟨h1, h2⟩ := hz
    go_enter Tryz.func37, Tryz.ntmps37
    go_wp2_with fail
    go_ret
    rw [HV.out]; exact ⟨rfl, Chg.refl _ _⟩
  · have p1 := refQuoShare_any u c hu hc hz w
    have hv : shareV u c = quoV u c := if_neg hz
    have HV := Go.Lib.hid hv
    have hz' : c = 0 → ¬ 0 < u := fun a b => hz ⟨a, b⟩
    unfold Gives at p1
    clear hv hz
    by_cases h1 : c = 0
    · have h2 := hz' h1
      clear hz'
      go_enter Tryz.func37, Tryz.ntmps37
      go_wp2_with (go_at_call 60; (try subst h1); refine p1.mono ?_; rintro e w' ⟨rfl, hc'⟩)
      go_ret
      rw [HV.out]; exact ⟨rfl, hc'⟩
    · clear hz'
      go_enter Tryz.func37, Tryz.ntmps37
      go_wp2_with (go_at_call 60; refine p1.mono ?_; rintro e w' ⟨rfl, hc'⟩)
      go_ret
      rw [HV.out]; exact ⟨rfl, hc'⟩

/-- are two lists of numbers one -/
def eqL (a b : Lst Int) : Bool := decide (a.n = b.n) && allB (fun k => decide (a.el k = b.el k)) a.n
def EqRel (w : World) (a b : Lst Int) (i : Value) (wr : World) : Prop := ∃ k : Nat, i = .int .i64 k ∧ k ≤ a.n ∧ (∀ j, j < k → a.el j = b.el j) ∧ Chg No w wr
set_option maxHeartbeats 1000000 in
theorem eqInts_any {w : World} {v u : Value} {a b : Lst Int} (ha : IntsAt w v a) (hb : IntsAt w u b) : Gives 12 #[v, u] w (.bool (eqL a b)) := by
  obtain ⟨hna, pa, ca, rfl, hsa⟩ := ha
  obtain ⟨hnb, pb, cb, rfl, hsb⟩ := hb
  unfold Gives
  by_cases hn : a.n = b.n
  · have hni : ((a.n : Int) != (b.n : Int)) = false := by simp; omega
    have hbad : ∀ k, k < a.n → a.el k ≠ b.el k → eqL a b = false := fun k hk h => by
      unfold eqL; rw [allB_false hk (by simpa using h)]; simp
    have hgood : (∀ k, k < a.n → a.el k = b.el k) → eqL a b = true := fun h => by
      unfold eqL; rw [allB_iff.2 (fun k hk => by simpa using h k hk)]; simp [hn]
    have HB := Go.Lib.hid hbad
    have HG := Go.Lib.hid hgood
    have HN := Go.Lib.hid hn
    clear hbad hgood hn
    go_enter Tryz.func12, Tryz.ntmps12
    go_wp2_with fail
    go_loopw [5] (fun i wr => EqRel w a b i wr) (fun i _ => a.n - (intOf i).toNat)
    case atStart => exact ⟨0, rfl, by omega, (fun j hj => by omega), Chg.refl _ _⟩
    case round =>
      obtain ⟨k, rfl, hk, hall, hc⟩ := hrel
      by_cases hlt : k < a.n
      · have hltb : k < b.n := by have := HN.out; omega
        obtain ⟨-, b1, o1, rfl, c1⟩ := (hsa.no hc).2.2.2 k hlt
        obtain ⟨-, b2, o2, rfl, c2⟩ := (hsb.no hc).2.2.2 k hltb
        have q1 := c1 0 _ rfl
        have q2 := c2 0 _ rfl
        rw [Nat.add_zero, Nat.mul_one] at q1 q2
        have q1 := fun y : Wd No wr => y.chg.cell q1 id
        have q2 := fun y : Wd No wr => y.chg.cell q2 id
        have hlt' : (k : Int) < (a.n : Int) := by omega
        have hlt2 : (k : Int) < (b.n : Int) := by omega
        have HA := Go.Lib.hid hall
        clear c1 c2 hsa hsb hall
        by_cases he : a.el k = b.el k
        · have heq : (a.el k != b.el k) = false := by simp [he]
          have HE := Go.Lib.hid he
          clear he
          go_wp2_with fail
          refine wp_region_wd (S := No) (by kernel_rfl) (by kernel_rfl) ?_
          repeat (refine WQ.step (fun K hK => ?_); go_simp; first | (refine hK _ ?_; clear hK K) | (apply Exists.intro; refine ⟨fun _ => ?_, hK _ ?_⟩; fail; clear hK K))
          refine WQ.nil ?_
          rintro _ ⟨z, rfl⟩
          go_wp2_with fail
          go_roundw
          case rel => exact ⟨k + 1, by go_num, by omega, (fun j hj => by rcases Nat.lt_or_eq_of_le (Nat.le_of_lt_succ hj) with h | h; exact HA.out j h; subst h; exact HE.out), hc.trans z.chg⟩
          case measure => simp [intOf]; omega
        · have heq : (a.el k != b.el k) = true := by simp [he]
          have HE := Go.Lib.hid he
          clear he
          go_wp2_with fail
          refine wp_region_wd (S := No) (by kernel_rfl) (by kernel_rfl) ?_
          repeat (refine WQ.step (fun K hK => ?_); go_simp; first | (refine hK _ ?_; clear hK K) | (apply Exists.intro; refine ⟨fun _ => ?_, hK _ ?_⟩; fail; clear hK K))
          refine WQ.nil ?_
          rintro _ ⟨z, rfl⟩
          go_wp2_with fail
          go_ret
          rw [HB.out k hlt HE.out]; exact ⟨rfl, hc.trans z.chg⟩
      · obtain rfl : k = a.n := by omega
        have HX := Go.Lib.hid (HG.out hall)
        clear hall
        go_wp2_with fail
        go_ret
        rw [HX.out]; exact ⟨rfl, hc⟩
  · have hni : ((a.n : Int) != (b.n : Int)) = true := by simp; omega
    have hv : eqL a b = false := by unfold eqL; simp [hn]
    have HV := Go.Lib.hid hv
    clear hv hn
    go_enter Tryz.func12, Tryz.ntmps12
    go_wp2_with fail
    go_ret
    rw [HV.out]; exact ⟨rfl, Chg.refl _ _⟩

set_option maxRecDepth 100000 in
theorem copyInts_any {w : World} {v : Value} {l : Lst Int} (h : IntsAt w v l) :
    Calls Tryz.prog 9 #[v] w fun e w' => ∃ a c, e = .returned (.slice a l.n c) ∧ IntsAt w' (.slice a l.n c) l ∧ Chg No w w' ∧ ∀ ad, a = some ad → w.heap.size ≤ ad.block := by
  obtain ⟨hn, a, c, rfl, hs⟩ := h
  obtain ⟨i0, hi, hz0, hz1, hz2⟩ := info_parts Tryz.infoIntR
  have hrd := hs.rd
  go_enter Tryz.func9, Tryz.ntmps9
  go_wp2_with (at_builtin; refine wpList_append_rd _ rfl _ _ _ rfl w.heap.size 3 i0 _ 1 8 Tryz.underlying27 hi hz0 hz1 hz2 rfl (by decide) (.slice none 0 0) 0 [] rfl (World.ownsRow_nil _ _ _ _) _ l.n _ rfl hrd (by intro u hu; simp at hu; obtain ⟨k, _, rfl⟩ := hu; rfl) (by unfold maxLen; omega) (by omega) (Nat.le_refl _) ?_; intro v1 w3 ho1 hg1 hi1 hfr1)
  simp only [Nat.zero_add, List.nil_append] at ho1
  obtain ⟨a', c', rfl, hs', hf⟩ := own_sl ho1 (fun _ _ => rfl)
  go_wp2_with fail
  go_ret
  exact ⟨a', c', rfl, ⟨hn, a', c', rfl, hs'⟩, (Chg.refl No w).grown hg1 (fun k hk => by simp [Value.ownBlock] at hk), hf⟩
end Go.Proofs.YtipacbaapkdnaaaGreat
