/- LogTears. -/
import Derived.Test.YtgjllhdbkdcofaaLgE
namespace Go.Proofs.Ytgjllhdbkdcofaa
open Go.RowKit Go.Dk

theorem take300 (n : Nat) : min (n : Int) 300 = ((min n 300 : Nat) : Int) := by omega

set_option maxHeartbeats 400000 in
theorem tears_any (a0 a1 : Option Addr) (n0 c0 n1 c1 : Nat) (l0 l1 : List UInt8) (t : Int) (w : World) (h0 : Rd w (.slice a0 n0 c0) 1 n0 (bv l0)) (h1 : Rd w (.slice a1 n1 c1) 1 n1 (bv l1)) (hm0 : c0 ≤ 9223372036854775807) (hm1 : c1 ≤ 9223372036854775807)
    (ht : -9223372036854775808 ≤ t ∧ t ≤ 9223372036854775807) :
    Calls Try.prog 5 #[.slice a0 n0 c0, .slice a1 n1 c1, .int .i64 t] w fun e w' => e = .returned (.bool true) ∧ Chg No w w' := by
  have hl0 : l0.length = n0 := by have := h0; obtain ⟨_, _, _, h, _⟩ := h0; simpa [bv] using h
  have hl1 : l1.length = n1 := by have := h1; obtain ⟨_, _, _, h, _⟩ := h1; simpa [bv] using h
  have hc0 : n0 ≤ c0 := by obtain ⟨_, _, h, _, h', _⟩ := h0; cases h; exact h'
  have hc1 : n1 ≤ c1 := by obtain ⟨_, _, h, _, h', _⟩ := h1; cases h; exact h'
  obtain ⟨m0, hm0'⟩ : ∃ m, m = min n0 300 := ⟨_, rfl⟩
  obtain ⟨m1, hm1'⟩ : ∃ m, m = min n1 300 := ⟨_, rfl⟩
  have q0 := h0.take (k := m0) (by omega)
  have q1 := h1.take (k := m1) (by omega)
  obtain ⟨x0, hx0⟩ : ∃ x, x = l0.take m0 := ⟨_, rfl⟩
  obtain ⟨x1, hx1⟩ : ∃ x, x = l1.take m1 := ⟨_, rfl⟩
  have e0 : (bv l0).take (m0 * 1) = bv x0 := by rw [hx0, bv_take, Nat.mul_one]
  have e1 : (bv l1).take (m1 * 1) = bv x1 := by rw [hx1, bv_take, Nat.mul_one]
  rw [e0] at q0
  rw [e1] at q1
  have b0 : x0.length = m0 := by rw [hx0, List.length_take]; omega
  have b1 : x1.length = m1 := by rw [hx1, List.length_take]; omega
  clear e0 e1 hx0 hx1 h0 h1 hl0 hl1
  have g0 : min (n0 : Int) 300 = (m0 : Int) := by omega
  have g1 : min (n1 : Int) 300 = (m1 : Int) := by omega
  have k0 : m0 ≤ 300 := by omega
  have k1 : m1 ≤ 300 := by omega
  have j0 : (m0 : Int) ≤ (c0 : Int) := by omega
  have j1 : (m1 : Int) ≤ (c1 : Int) := by omega
  have HM0 := Go.Lib.hid hm0'; clear hm0'
  have HM1 := Go.Lib.hid hm1'; clear hm1'
  have B0 := Go.Lib.hid b0; clear b0
  have B1 := Go.Lib.hid b1; clear b1
  go_enter Try.func5, Try.ntmps5
  go_wp2_with fail
  go_quiet (fail)
  obtain ⟨W, hW⟩ : ∃ W, W = w.drewN nq := ⟨_, rfl⟩
  have f0 : Chg No w W := by rw [hW]; exact (Chg.refl _ _).drewN _
  rw [← hW]
  clear hW
  have r0 := q0.chg f0 fun _ _ _ => id
  have r1 := q1.chg f0 fun _ _ _ => id
  have lt0 := r0.lt (by decide)
  have lt1 := r1.lt (by decide)
  have LT0 := Go.Lib.hid lt0; clear lt0
  have LT1 := Go.Lib.hid lt1; clear lt1
  clear q0 q1
  rw [← B0.out] at r0
  rw [← B1.out] at r1
  go_wp2_with fail
  refine (bring_any t ((m1 : Int) + 3) _ (by omega) (by omega) ht.1 ht.2).mono ?_
  rintro e w' ⟨rfl, rfl⟩
  have n0' := Int.emod_nonneg t (show (m1 : Int) + 3 ≠ 0 by omega)
  have n1' := Int.emod_lt_of_pos t (show 0 < (m1 : Int) + 3 by omega)
  generalize t % ((m1 : Int) + 3) = n at n0' n1' ⊢
  clear ht
  obtain ⟨n, rfl⟩ := Int.eq_ofNat_of_zero_le n0'
  go_wp2_with fail
  refine (new_any W).mono ?_
  rintro e w1 ⟨rfl, hL1, hc1⟩
  have f1 : Chg (W.heap.size ≤ ·) W w1 := hc1.mono fun _ _ h => h.elim
  have u0 : Chg (W.heap.size ≤ ·) W w1 → Rd w1 (.slice a0 m0 c0) 1 x0.length (bv x0) := fun h => by rw [B0.out] at r0 ⊢; exact r0.fr (by decide) h
  generalize hp : W.heap.size = p at hL1 f1 ⊢
  have hB1 : p ≤ w1.heap.size := by have := hc1.size; omega
  have HP := Go.Lib.hid hp; clear hp
  have s0 : ∀ w', Chg (p ≤ ·) W w' → Rd w' (.slice a0 m0 c0) 1 x0.length (bv x0) := fun w' h => by rw [B0.out] at r0 ⊢; exact r0.fr (by decide) (HP.out ▸ h)
  have s1 : ∀ w', Chg (p ≤ ·) W w' → Rd w' (.slice a1 m1 c1) 1 x1.length (bv x1) := fun w' h => by rw [B1.out] at r1 ⊢; exact r1.fr (by decide) (HP.out ▸ h)
  have S0 := Go.Lib.hid s0; clear s0
  have S1 := Go.Lib.hid s1; clear s1
  clear u0
  have d0 : ∀ k, (Value.slice a0 m0 c0).ownBlock = some k → 0 < x0.length → k < p := fun k hk h => HP.out ▸ LT0.out k hk (B0.out ▸ h)
  have d1 : ∀ k, (Value.slice a1 m1 c1).ownBlock = some k → 0 < x1.length → k < p := fun k hk h => HP.out ▸ LT1.out k hk (B1.out ▸ h)
  have D0 := Go.Lib.hid d0; clear d0
  have D1 := Go.Lib.hid d1; clear d1
  go_wp2_with fail
  refine (append_any p p _ _ _ [] x0 none false _ hL1 (S0.out _ f1) (fun k hk h hf => by have := D0.out k hk h; have := foot_ge hL1 k hf; omega) (by rw [B0.out]; omega) hB1).mono ?_
  rintro e w2 ⟨sv2, he, hL2, hc2, -⟩
  have z0 : ¬ 1048576 < ([] : List UInt8).length + x0.length := by rw [B0.out]; simp; omega
  simp only [appRes, if_neg z0, keptOf] at he hL2
  simp at he hL2
  subst he
  have f2 : Chg (p ≤ ·) W w2 := f1.trans (hc2.mono fun k _ h => foot_ge hL1 k h)
  have hB2 : p ≤ w2.heap.size := Nat.le_trans hB1 hc2.size
  clear z0
  go_wp2_with fail
  refine (arm_any p p _ _ _ none false (n : Int) _ hL2 hB2 (by omega)).mono ?_
  rintro e w3 ⟨fv3, he, hL3, hc3, -⟩
  have z0 : ¬ (n : Int) < 0 := by omega
  simp [z0] at he hL3
  subst he
  have f3 : Chg (p ≤ ·) W w3 := f2.trans (hc3.mono fun k _ h => by omega)
  have hB3 : p ≤ w3.heap.size := Nat.le_trans hB2 hc3.size
  clear z0 hL1 hL2 hc1 hc2 hc3 f1 f2 hB1 hB2
  go_wp2_with fail
  refine (append_any p p _ _ _ x0 x1 (some (n : Int)) false _ hL3 (S1.out _ f3) (fun k hk h hf => by have := D1.out k hk h; have := foot_ge hL3 k hf; omega) (by rw [B1.out]; omega) hB3).mono ?_
  rintro e w4 ⟨sv4, he, hL4, hc4, -⟩
  have z0 : ¬ 1048576 < x0.length + x1.length := by rw [B1.out, B0.out]; omega
  simp only [appRes, if_neg z0, keptOf] at he hL4
  simp at he hL4
  subst he
  have f4 : Chg (p ≤ ·) W w4 := f3.trans (hc4.mono fun k _ h => foot_ge hL3 k h)
  have hB4 : p ≤ w4.heap.size := Nat.le_trans hB3 hc4.size
  clear z0 hL3 hc4 f3 hB3
  go_wp2_with fail
  refine (dead_any p p _ _ _ _ true _ hL4).mono ?_
  rintro e w5 ⟨rfl, rfl⟩
  go_wp2_with fail
  refine (arm_any p p _ _ _ _ true 0 _ hL4 hB4 (by decide)).mono ?_
  rintro e w5 ⟨fv5, he, hL5, hc5, -⟩
  simp at he hL5
  subst he
  have f5 : Chg (p ≤ ·) W w5 := f4.trans (hc5.mono fun k _ h => by omega)
  have hB5 : p ≤ w5.heap.size := Nat.le_trans hB4 hc5.size
  clear hL4 hc5 f4 hB4
  go_wp2_with fail
  obtain ⟨K, hK⟩ : ∃ K, K = min m1 n := ⟨_, rfl⟩
  have y1 : min (n : Int) (m1 : Int) = (K : Int) := by omega
  have y2 : (K : Int) ≤ (c1 : Int) := by omega
  have y3 : K ≤ m1 := by omega
  have hx1K : x1.take (min x1.length n) = x1.take K := by rw [hK, B1.out]
  rw [hx1K] at hL5
  have HK := Go.Lib.hid hK; clear hK
  clear hx1K
  obtain ⟨i0, hi, hz0, hz1, hz2⟩ := info_parts Try.infoU8
  have C0 : Chg No w5 w5.drew := (Chg.refl _ _).drew
  have rK : ∀ w', Chg No w5 w' → Rd w' (.slice a1 K c1) 1 K (bv (x1.take K)) := fun w' h => by
    have := ((S1.out _ f5).chg h fun _ _ _ => id)
    rw [B1.out] at this
    have := this.take (k := K) y3
    rw [Nat.mul_one, ← bv_take] at this
    exact this
  have RK := Go.Lib.hid rK; clear rK
  have rd0 : Rd w5.drew (.slice a0 m0 c0) 1 x0.length (bv x0) := (S0.out _ f5).chg C0 fun _ _ _ => id
  have hle : x0.length ≤ 140737488351232 := by rw [B0.out]; omega
  have hB5' : p ≤ w5.drew.heap.size := hB5
  go_region_held3 (fun w' => Chg No w5 w') (first | assumption | (exact C0) | (exact C0.trans (by assumption)) | (exact Chg.trans (by assumption) (by assumption)))
    (first | (go_at_call 9; refine (copyBytes_any _ x0 _ rd0 hle).mono ?_; rintro e w6 ⟨v6, rfl, ho6, hc6⟩) | (refine step_append_rd rfl _ _ _ rfl w5.drew.heap.size 5 i0 _ 1 1 Try.underlying27 hi hz0 hz1 hz2 rfl (by decide) v6 _ _ rfl ho6 (.slice a1 K c1) K _ rfl (RK.out _ (by assumption)) (bv_one _) (by rw [B0.out]; unfold maxLen; omega) (by rw [B0.out]; omega) hc6.size ?_; intro v7 w7 ho7 hg7 hi7 hfr7; have hcc7 : Chg No w5 w7 := (C0.trans hc6).grown hg7 (fun k hk hlt => by have : w5.heap.size ≤ k := (ho6.lt k hk).1; omega)))
  all_goals
    rw [← bv_append] at ho7
    obtain ⟨want, hwant⟩ : ∃ l, l = x0 ++ x1.take K := ⟨_, rfl⟩
    rw [← hwant] at ho7 hL5
    have hwl : want.length = x0.length + K := by rw [hwant]; simp [B1.out]; omega
    rw [← hwl] at ho7
    obtain ⟨va, vc, rfl, -, hvc, -⟩ := Rd.of_own ho7
    have hL7 := hL5.chg hcc7 fun _ _ => id
    have hB7 : p ≤ w7.heap.size := Nat.le_trans hB5 hcc7.size
    have f7 : Chg (p ≤ ·) W w7 := f5.trans (hcc7.mono fun _ _ h => h.elim)
    have hpw7 : ∀ k, (Value.slice va want.length vc).ownBlock = some k → w5.heap.size ≤ k ∧ k < w7.heap.size := fun k hk => ho7.lt k hk
    have hw5 := fun k => fun hk : foot p sv4 fv5 k => (hL5.foot_lt hk).2
    have HW5 := Go.Lib.hid hw5; clear hw5
    have HPW := Go.Lib.hid hpw7; clear hpw7
    have HWL := Go.Lib.hid hwl; clear hwl
    have hwl1 : want.length ≤ 600 := by rw [HWL.out, B0.out]; omega
    clear hL5 hcc7 f5 hB5 hB5' RK rd0 hc6 ho6 hfr7 hi7 hg7 C0
    clear hwant
    go_wp2_with fail
    refine (bytes_any p p _ _ _ _ true _ hL7).mono ?_
    rintro e w8 ⟨v8, rfl, ho8, hc8⟩
    have hL8 := hL7.chg hc8 fun _ _ => id
    have ho78 := hc8.own ho7 fun _ _ => id
    have f8 : Chg (p ≤ ·) W w8 := f7.trans (hc8.mono fun _ _ h => h.elim)
    have hB8 : p ≤ w8.heap.size := Nat.le_trans hB7 hc8.size
    clear hL7 ho7 f7 hB7
    go_wp2_with fail
    refine (eqBytes_any _ _ want want _ (Rd.of_own ho8) (Rd.of_own ho78)).mono ?_
    rintro e w9 ⟨rfl, rfl⟩
    have hbe : (want == want) = true := by simp
    rw [hbe]
    clear hbe ho8
    go_wp2_with fail
    refine (revive_any p p _ _ _ _ true (want.length : Int) _ hL8).mono ?_
    rintro e w10 ⟨sv10, fv10, he, hL10, hc10, hft⟩
    have z0 : ¬ ((want.length : Int) < 0 ∨ (want.length : Int) < want.length) := by omega
    rw [if_neg z0] at he hL10
    rw [Int.toNat_natCast, List.take_length] at hL10
    subst he
    have f10 : Chg (p ≤ ·) W w10 := f8.trans (hc10.mono fun k _ h => by omega)
    have hB10 : p ≤ w10.heap.size := Nat.le_trans hB8 hc10.size
    clear z0 hL8 hB8 f8
    go_wp2_with fail
    refine (append_any p p _ _ _ want x1 none false _ hL10 (S1.out _ f10) (fun k hk h hf => by have := D1.out k hk h; have := foot_ge hL10 k hf; omega) (by rw [B1.out]; omega) hB10).mono ?_
    rintro e w11 ⟨sv11, he, hL11, hc11, -⟩
    have z0 : ¬ 1048576 < want.length + x1.length := by rw [B1.out]; omega
    simp only [appRes, if_neg z0, keptOf] at he hL11
    simp at he hL11
    subst he
    clear z0
    go_wp2_with fail
    refine (len_any p p _ _ _ _ _ _ hL11).mono ?_
    rintro e w12 ⟨rfl, rfl⟩
    have hle1 : ((want ++ x1).length : Int) = (want.length : Int) + (m1 : Int) := by rw [List.length_append, B1.out]; omega
    rw [hle1]
    clear hle1
    go_wp2_with fail
    refine (works_any _).mono ?_
    rintro e w13 ⟨rfl, hc13⟩
    go_wp2
    go_ret
    refine ⟨rfl, ?_⟩
    have f13 : Chg (p ≤ ·) W w13 := (f10.trans (hc11.mono fun k _ h => foot_ge hL10 k h)).trans (hc13.mono fun _ _ h => h.elim)
    exact f0.trans (f13.mono fun k hk h => by have := HP.out; omega)
end Go.Proofs.Ytgjllhdbkdcofaa
