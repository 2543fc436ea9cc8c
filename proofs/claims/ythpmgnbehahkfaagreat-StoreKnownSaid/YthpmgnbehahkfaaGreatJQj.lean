/- drayageref03.SameLabels, SameTerms, drayageref05.sameNear: lists that are one (printed by genyo.py). -/
import Derived.Test.YthpmgnbehahkfaaGreatJZp
import Derived.Test.YthpmgnbehahkfaaGreatJYb
set_option linter.unusedSimpArgs false
set_option linter.unusedVariables false
namespace Go.Proofs.YthpmgnbehahkfaaGreat
open Go.RowKit Go.Dk

def SameRel (w : World) (n : Nat) (i : Value) (wr : World) : Prop := ∃ k : Nat, i = .int .i64 k ∧ k ≤ n ∧ Chg No w wr
set_option maxRecDepth 100000 in
set_option maxHeartbeats 1000000 in
theorem sameLab_any {w : World} {v u : Value} {l : Lst LabD} (ha : LabsAt w v l) (hb : LabsAt w u l) : Gives 79 #[v, u] w (.bool true) := by
  obtain ⟨pa, ca, rfl, hsa, -⟩ := ha
  obtain ⟨pb, cb, rfl, hsb, -⟩ := hb
  unfold Gives
  have hn := hsa.1
  have hca := hsa.2.1
  have hni : ((l.n : Int) != (l.n : Int)) = false := by simp
  go_enter Tryz.func79, Tryz.ntmps79
  go_wp2_with fail
  go_loopw [5] (fun i wr => SameRel w l.n i wr) (fun i _ => l.n - (intOf i).toNat)
  case atStart => exact ⟨0, rfl, by omega, Chg.refl _ _⟩
  case round =>
    obtain ⟨k, rfl, hk, hc⟩ := hrel
    by_cases hlt : k < l.n
    · obtain ⟨-, b1, o1, rfl, c1⟩ := (hsa.no hc).2.2.2 k hlt
      obtain ⟨-, b2, o2, rfl, c2⟩ := (hsb.no hc).2.2.2 k hlt
      have q0a := c1 0 _ rfl
      have q1a := c1 1 _ rfl
      have q0b := c2 0 _ rfl
      have q1b := c2 1 _ rfl
      rw [Nat.add_zero] at q0a q0b
      have q0a := fun y : Wd No wr => y.chg.cell q0a id
      have q1a := fun y : Wd No wr => y.chg.cell q1a id
      have q0b := fun y : Wd No wr => y.chg.cell q0b id
      have q1b := fun y : Wd No wr => y.chg.cell q1b id
      have hlt' : (k : Int) < (l.n : Int) := by omega
      clear c1 c2 hsa hsb
      go_wp2_with fail
      refine wp_region_wd (S := No) (by kernel_rfl) (by kernel_rfl) ?_
      repeat (refine WQ.step (fun K hK => ?_); go_simp; first | (refine hK _ ?_; clear hK K) | (apply Exists.intro; refine ⟨fun _ => ?_, hK _ ?_⟩; fail; clear hK K))
      refine WQ.nil ?_
      rintro _ ⟨z, rfl⟩
      go_wp2_with fail
      go_roundw
      case rel => exact ⟨k + 1, by go_num, by omega, hc.trans z.chg⟩
      case measure => simp [intOf]; omega
    · obtain rfl : k = l.n := by omega
      go_wp2_with fail
      go_ret
      exact ⟨rfl, hc⟩

set_option maxRecDepth 100000 in
set_option maxHeartbeats 1000000 in
theorem sameTerm_any {w : World} {v u : Value} {l : Lst TermD} (ha : TermsAt w v l) (hb : TermsAt w u l) : Gives 80 #[v, u] w (.bool true) := by
  obtain ⟨pa, ca, rfl, hsa, -⟩ := ha
  obtain ⟨pb, cb, rfl, hsb, -⟩ := hb
  unfold Gives
  have hn := hsa.1
  have hca := hsa.2.1
  have hni : ((l.n : Int) != (l.n : Int)) = false := by simp
  go_enter Tryz.func80, Tryz.ntmps80
  go_wp2_with fail
  go_loopw [5] (fun i wr => SameRel w l.n i wr) (fun i _ => l.n - (intOf i).toNat)
  case atStart => exact ⟨0, rfl, by omega, Chg.refl _ _⟩
  case round =>
    obtain ⟨k, rfl, hk, hc⟩ := hrel
    by_cases hlt : k < l.n
    · obtain ⟨-, b1, o1, rfl, c1⟩ := (hsa.no hc).2.2.2 k hlt
      obtain ⟨-, b2, o2, rfl, c2⟩ := (hsb.no hc).2.2.2 k hlt
      have q0a := c1 0 _ rfl
      have q1a := c1 1 _ rfl
      have q2a := c1 2 _ rfl
      have q0b := c2 0 _ rfl
      have q1b := c2 1 _ rfl
      have q2b := c2 2 _ rfl
      rw [Nat.add_zero] at q0a q0b
      have q0a := fun y : Wd No wr => y.chg.cell q0a id
      have q1a := fun y : Wd No wr => y.chg.cell q1a id
      have q2a := fun y : Wd No wr => y.chg.cell q2a id
      have q0b := fun y : Wd No wr => y.chg.cell q0b id
      have q1b := fun y : Wd No wr => y.chg.cell q1b id
      have q2b := fun y : Wd No wr => y.chg.cell q2b id
      have hlt' : (k : Int) < (l.n : Int) := by omega
      clear c1 c2 hsa hsb
      go_wp2_with fail
      refine wp_region_wd (S := No) (by kernel_rfl) (by kernel_rfl) ?_
      repeat (refine WQ.step (fun K hK => ?_); go_simp; first | (refine hK _ ?_; clear hK K) | (apply Exists.intro; refine ⟨fun _ => ?_, hK _ ?_⟩; fail; clear hK K))
      refine WQ.nil ?_
      rintro _ ⟨z, rfl⟩
      go_wp2_with fail
      go_roundw
      case rel => exact ⟨k + 1, by go_num, by omega, hc.trans z.chg⟩
      case measure => simp [intOf]; omega
    · obtain rfl : k = l.n := by omega
      go_wp2_with fail
      go_ret
      exact ⟨rfl, hc⟩

theorem sameNear_any {w : World} {t : ByteArray} {v u : Value} {l : Lst TermD} (ha : TermsAt w v l) (hb : TermsAt w u l) : Gives 81 #[.agg #[.string t, v], .agg #[.string t, u]] w (.bool true) := by
  have p1 := fun W (hc : Chg No w W) => sameTerm_any (ha.no hc) (hb.no hc)
  obtain ⟨pa, ca, rfl, -⟩ := ha
  obtain ⟨pb, cb, rfl, -⟩ := hb
  unfold Gives at *
  go_enter Tryz.func81, Tryz.ntmps81
  go_wp2_with (go_at_call 80; refine (p1 _ (((Chg.refl No w).alloc _).alloc _)).mono ?_; rintro e w' ⟨rfl, hc⟩)
  go_ret
  exact ⟨rfl, (((Chg.refl No w).alloc _).alloc _).trans hc⟩
end Go.Proofs.YthpmgnbehahkfaaGreat
