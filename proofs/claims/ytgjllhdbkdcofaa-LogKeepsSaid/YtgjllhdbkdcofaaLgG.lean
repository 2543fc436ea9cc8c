/- LogKeeps. -/
import Derived.Test.YtgjllhdbkdcofaaLgJ
namespace Go.Proofs.Ytgjllhdbkdcofaa
open Go.RowKit Go.Dk

/-- between two rounds -/
def KeepRel (w0 : World) (len : Nat) (wv i : Value) (wr : World) : Prop :=
  ∃ (k : Nat) (sv fv : Value) (bs : List UInt8) (fu : Option Int) (dead : Bool), i = .int .i64 k ∧ k ≤ len ∧ k ≤ 100 ∧ bs.length ≤ 300 * k ∧ LogIs wr w0.heap.size w0.heap.size sv fv bs fu dead ∧ Rd wr wv 1 bs.length (bv bs) ∧
    (∀ j, wv.ownBlock = some j → 0 < bs.length → w0.heap.size ≤ j ∧ ¬ foot w0.heap.size sv fv j) ∧ (∃ a c, wv = .slice a bs.length c ∧ c ≤ 9223372036854775807) ∧ Chg (w0.heap.size ≤ ·) w0 wr

theorem eqBytes_same (x y : Value) (n k : Nat) (l m : List UInt8) (w : World) (h : l = m) (hx : Rd w x 1 n (bv l)) (hy : Rd w y 1 k (bv m)) :
    Calls Try.prog 19 #[x, y] w fun e w' => e = .returned (.bool true) ∧ w = w' := by
  subst h
  have hn : n = l.length := by obtain ⟨_, _, _, h, _⟩ := hx; rw [bv_length] at h; omega
  have hk : k = l.length := by obtain ⟨_, _, _, h, _⟩ := hy; rw [bv_length] at h; omega
  subst hn; subst hk
  refine (eqBytes_any x y l l w hx hy).mono fun e w' ⟨h1, h2⟩ => ⟨?_, h2⟩
  rw [h1]; simp

set_option maxRecDepth 100000 in
set_option maxHeartbeats 40000000 in
theorem keeps_any (a : Option Addr) (len cap : Nat) (w : World) (hC : CallsIn w a len) (hcap : len ≤ 9223372036854775807) :
    Calls Try.prog 4 #[.slice a len cap] w fun e w' => e = .returned (.bool true) ∧ Chg No w w' := by
  go_enter Try.func4, Try.ntmps4
  go_wp2_with fail
  refine (works_any _).mono ?_
  rintro e w1 ⟨rfl, hc1⟩
  go_wp2_with fail
  refine (new_any _).mono ?_
  rintro e w2 ⟨rfl, hL2, hc2⟩
  go_wp2_with fail
  go_loopw [4, 5] (fun wv i wr => KeepRel w1 len wv i wr) (fun _ i _ => len - (intOf i).toNat)
  case atStart => exact ⟨0, .slice none 0 0, .pointer none, [], none, false, rfl, by omega, by omega, by simp, hL2, Rd.of_own (World.ownsRow_nil _ 0 0 1), (fun j hj => by cases hj), ⟨none, 0, rfl, by omega⟩, hc2.mono fun _ _ h => h.elim⟩
  case round =>
    obtain ⟨k, sv, fv, bs, fu, dead, rfl, hk1, hk2, hbl, hL, hR, hdis, ⟨wa, wc, rfl, hwc⟩, hf⟩ := hrel
    by_cases hlt : k < len
    · by_cases hlt2 : k < 100
      · obtain ⟨b, o, d, rfl, hadb, hd0, hd1, hd2, hdr, hk0, hk1', hn0, hn1, hdl, hdc⟩ := hC k hlt
        clear hC
        have hW1 : Chg (w.heap.size ≤ ·) w wr := by
          have hs := hc1.size
          exact (hc1.mono (S' := (w.heap.size ≤ ·)) fun _ _ h => h.elim).trans (hf.mono fun j hj h => by omega)
        have e0 := hW1.cell hd0 (by simp; omega)
        have e1 := hW1.cell hd1 (by simp; omega)
        have e2 := hW1.cell hd2 (by simp; omega)
        obtain ⟨m, hm⟩ : ∃ m, m = min d.b.length 300 := ⟨_, rfl⟩
        have g0 : min (d.b.length : Int) 300 = (m : Int) := by omega
        have g1 : (m : Int) ≤ (d.sc : Int) := by omega
        obtain ⟨xs, hxs⟩ : ∃ xs, xs = d.b.take m := ⟨_, rfl⟩
        have hxl : xs.length = m := by rw [hxs, List.length_take]; omega
        have hxr : Rd w (.slice d.sa m d.sc) 1 xs.length (bv xs) := by
          have := hdr.take (k := m) (by omega)
          rw [Nat.mul_one, ← bv_take, ← hxs] at this
          rw [hxl]; exact this
        have hm3 : m ≤ 300 := by omega
        have HXL := Go.Lib.hid hxl; clear hxl
        have HM := Go.Lib.hid hm; clear hm hxs hdr
        have HXR := Go.Lib.hid hxr; clear hxr
        go_wp2_with fail
        obtain ⟨w3, hw3⟩ : ∃ w3, w3 = wr.alloc (.cells #[.int .i64 d.kind, .int .i64 d.n, .slice d.sa m d.sc] 29) := ⟨_, rfl⟩
        have hD : w3.heap[wr.heap.size]? = some (.cells #[.int .i64 d.kind, .int .i64 d.n, .slice d.sa m d.sc] 29 (0, 0)) := by rw [hw3]; exact heap_alloc_new _ _
        have hc3 : Chg No wr w3 := by rw [hw3]; exact (Chg.refl _ _).alloc _
        rw [← hw3]
        clear hw3
        have hL3 := hL.chg hc3 fun _ _ => id
        have hR3 := hR.chg hc3 fun _ _ _ => id
        have hf3 : Chg (w1.heap.size ≤ ·) w1 w3 := hf.trans (hc3.mono fun _ _ h => h.elim)
        have hDb : w1.heap.size ≤ wr.heap.size := hf.size
        have hDf : ¬ foot w1.heap.size sv fv wr.heap.size := fun h => by have := (hL.foot_lt h).2; omega
        generalize wr.heap.size = D at hD hDb hDf ⊢
        have hWW : Chg (w.heap.size ≤ ·) w w3 := hW1.trans (hc3.mono fun _ _ h => h.elim)
        clear hL hR hf hc3 e0 e1 e2 hd0 hd1 hd2 hW1
        refine (bytes_any _ _ _ _ _ _ _ _ hL3).mono ?_
        rintro e w4 ⟨v4, rfl, ho4, hc4⟩
        obtain ⟨va, vc, rfl, -, hvc, -⟩ := Rd.of_own ho4
        have hvf : ∀ j, (Value.slice va bs.length vc).ownBlock = some j → ¬ foot w1.heap.size sv fv j := fun j hj hf => by have := (ho4.lt j hj).1; have := (hL3.foot_lt hf).2; omega
        have HVF := Go.Lib.hid hvf; clear hvf
        have hL4 := hL3.chg hc4 fun _ _ => id
        have hR4 := hR3.chg hc4 fun _ _ _ => id
        have hD4 := hc4.heap hD id
        have hf4 : Chg (w1.heap.size ≤ ·) w1 w4 := hf3.trans (hc4.mono fun _ _ h => h.elim)
        have hWW4 : Chg (w.heap.size ≤ ·) w w4 := hWW.trans (hc4.mono fun _ _ h => h.elim)
        clear hL3 hR3 hD hf3 hWW
        go_wp2_with fail
        refine (eqBytes_any _ _ bs bs _ (Rd.of_own ho4) hR4).mono ?_
        rintro e w5 ⟨rfl, rfl⟩
        have hbe : (bs == bs) = true := by simp
        rw [hbe]
        clear hbe
        have q0 := cell_of_heap (j := 0) (v := .int .i64 d.kind) hD4 rfl
        have q1 := cell_of_heap (j := 1) (v := .int .i64 d.n) hD4 rfl
        have q2 := cell_of_heap (j := 2) (v := .slice d.sa m d.sc) hD4 rfl
        go_wp2_with fail
        refine (bring_any d.kind 6 _ (by omega) (by omega) hk0 hk1').mono ?_
        rintro e w5 ⟨rfl, rfl⟩
        have hz0 := Int.emod_nonneg d.kind (show (6 : Int) ≠ 0 by omega)
        have hz1 := Int.emod_lt_of_pos d.kind (show (0 : Int) < 6 by omega)
        generalize d.kind % 6 = c at hz0 hz1 ⊢
        have hcs : c = 3 ∨ c = 4 ∨ c = 5 ∨ c = 0 ∨ c = 1 ∨ c = 2 := by omega
        clear hz0 hz1
        have hs := hL4.small
        have hB4 := hf4.size
        rcases hcs with rfl | hcs
        · go_wp2_with fail
          refine (arm_any _ _ _ _ _ _ _ _ _ hL4 hB4 hn1).mono ?_
          rintro e w6 ⟨fv6, rfl, hL6, hc6, hf6⟩
          go_wp2_with fail
          go_roundw
          case rel =>
            refine ⟨k + 1, sv, fv6, bs, _, dead, by go_num, by omega, by omega, by omega, hL6, hR4.chg hc6 ?_, ?_, ⟨wa, wc, rfl, hwc⟩, hf4.trans (hc6.mono fun j _ h => by omega)⟩
            · intro j hj h0 e
              exact (hdis j hj h0).2 (.inl e)
            · intro j hj h0
              refine ⟨(hdis j hj h0).1, fun h => ?_⟩
              rcases h with h | h | h
              · exact (hdis j hj h0).2 (.inl h)
              · exact (hdis j hj h0).2 (.inr (.inl h))
              · rcases hf6 j h with h | h
                · exact (hdis j hj h0).2 (.inr (.inr h))
                · have := hR4.lt (by decide) j hj h0; omega
          case measure => simp [intOf]; omega
        · have hcs' : (c = 4 ∨ c = 5) ∨ (c = 0 ∨ c = 1 ∨ c = 2) := by omega
          clear hcs
          rcases hcs' with hcs | hcs
          · have hr0 := Int.emod_nonneg d.n (show ((bs.length : Int) + 1) ≠ 0 by omega)
            have hr1 := Int.emod_lt_of_pos d.n (show 0 < ((bs.length : Int) + 1) by omega)
            rcases hcs with rfl | rfl
            all_goals
              go_wp2_with fail
              refine (bring_any d.n ((bs.length : Int) + 1) _ (by omega) (by omega) hn0 hn1).mono ?_
              rintro e w5 ⟨rfl, rfl⟩
              generalize d.n % ((bs.length : Int) + 1) = r at hr0 hr1 ⊢
              obtain ⟨r, rfl⟩ := Int.eq_ofNat_of_zero_le hr0
              have hr2 : (r : Int) ≤ (wc : Int) := by
                obtain ⟨_, _, h, _, h', _⟩ := hR4
                cases h; omega
              go_wp2_with fail
              refine (revive_any _ _ _ _ _ _ _ _ _ hL4).mono ?_
              rintro e w6 ⟨sv6, fv6, he, hL6, hc6, hft6⟩
              have z0 : ¬ ((r : Int) < 0 ∨ (bs.length : Int) < (r : Int)) := by omega
              rw [if_neg z0] at he hL6
              rw [Int.toNat_natCast] at hL6
              subst he
              clear z0
              go_wp2_with fail
              refine (dead_any _ _ _ _ _ _ _ _ hL6).mono ?_
              rintro e w7 ⟨rfl, rfl⟩
              go_wp2_with fail
              go_roundw
              case rel =>
                have hrl : (bs.take r).length = r := by rw [List.length_take]; omega
                refine ⟨k + 1, sv6, fv6, bs.take r, none, false, by go_num, by omega, by omega, by omega, hL6, ?_, ?_, ⟨wa, wc, by rw [hrl], hwc⟩, hf4.trans (hc6.mono fun j _ h => by omega)⟩
                · have := (hR4.chg hc6 fun j hj h0 e => (hdis j hj h0).2 (.inl e)).take (k := r) (by omega)
                  rw [Nat.mul_one, ← bv_take] at this
                  rw [hrl]; exact this
                · intro j hj h0
                  have h0' : 0 < bs.length := by omega
                  have hj' := ownBlock_len (m := bs.length) hj
                  exact ⟨(hdis j hj' h0').1, fun h => (hdis j hj' h0').2 (hft6 j h)⟩
              case measure => simp [intOf]; omega
          · have t3 : (c == 3) = false := by simp; omega
            have t4 : (c == 4) = false := by simp; omega
            have t5 : (c == 5) = false := by simp; omega
            clear hcs
            go_wp2_with fail
            refine (dead_any _ _ _ _ _ _ _ _ hL4).mono ?_
            rintro e w5 ⟨rfl, rfl⟩
            go_wp2_with fail
            have hx4 : Rd w4 (.slice d.sa m d.sc) 1 xs.length (bv xs) := by have := HXR.out; rw [HXL.out] at this ⊢; exact this.fr (by decide) hWW4
            have hxlt : ∀ j, (Value.slice d.sa m d.sc).ownBlock = some j → 0 < xs.length → j < w.heap.size := fun j hj h0 => HXR.out.lt (by decide) j hj h0
            have HXLT := Go.Lib.hid hxlt; clear hxlt
            have hsw := hc1.size
            refine (append_any _ _ _ _ _ bs xs fu dead _ hL4 hx4 (fun j hj h0 hf => by have := HXLT.out j hj h0; have := foot_ge hL4 j hf; omega) (by rw [HXL.out]; omega) hB4).mono ?_
            rintro e w6 ⟨sv6, he, hL6, hc6, hfr6⟩
            obtain ⟨E, dd, K, hKm, rfl, hL6, hcase⟩ : ∃ (E : Int) (dd : Bool) (K : Nat), K ≤ m ∧ e = .returned (.int .i64 E) ∧ LogIs w6 w1.heap.size w1.heap.size sv6 fv (bs ++ xs.take K) fu dd ∧
                ((dead = true ∧ dd = true ∧ E = 190 ∧ K = 0) ∨ (dead = false ∧ dd = false ∧ E = 0 ∧ K = m) ∨ (dead = false ∧ dd = true ∧ E = 190)) := by
              have z0 : ¬ 1048576 < bs.length + xs.length := by rw [HXL.out]; omega
              cases dead with
              | true => exact ⟨190, true, 0, Nat.zero_le _, he, by simpa [appRes] using hL6, .inl ⟨rfl, rfl, rfl, rfl⟩⟩
              | false =>
                unfold appRes at he hL6
                rw [if_neg (by simp), if_neg z0] at he hL6
                cases fu with
                | none => exact ⟨0, false, m, Nat.le_refl _, he, by have := HXL.out; simpa [keptOf, this] using hL6, .inr (.inl ⟨rfl, rfl, rfl, rfl⟩)⟩
                | some y => exact ⟨190, true, min m y.toNat, Nat.min_le_left _ _, he, by have := HXL.out; simpa [keptOf, this] using hL6, .inr (.inr ⟨rfl, rfl, rfl⟩)⟩
            obtain ⟨ys, hys⟩ : ∃ ys, ys = bs ++ xs.take K := ⟨_, rfl⟩
            rw [← hys] at hL6
            have hnl : ys.length = bs.length + K := by rw [hys, List.length_append, List.length_take, HXL.out]; omega
            have hy1 : ys.take bs.length = bs := by rw [hys, List.take_left]
            have hy2 : ys.drop bs.length = xs.take K := by rw [hys, List.drop_left]
            clear hys
            have HNL := Go.Lib.hid hnl
            have HY1 := Go.Lib.hid hy1; clear hy1
            have HY2 := Go.Lib.hid hy2; clear hy2
            have hD6 := hc6.heap hD4 (fun h => hDf (by simpa using h))
            have p1 := cell_of_heap (j := 1) (v := .int .i64 d.n) hD6 rfl
            have p2 := cell_of_heap (j := 2) (v := .slice d.sa m d.sc) hD6 rfl
            have hx6 := hx4.chg hc6 (fun j hj h0 hf => by have := HXLT.out j hj h0; have := foot_ge hL4 j hf; omega)
            have hw6 := (Rd.of_own ho4).chg hc6 (fun j hj _ hf => HVF.out j hj hf)
            have hf6 : Chg (w1.heap.size ≤ ·) w1 w6 := hf4.trans (hc6.mono fun j _ h => foot_ge hL4 j h)
            clear q0 q1 q2 hD4 hf4 hWW4 hc6 ho4 hx4 hL4 hR4 hc4
            go_wp2_with fail
            refine (bytes_any _ _ _ _ _ _ _ _ hL6).mono ?_
            rintro e w7 ⟨v7, rfl, ho7, hc7⟩
            obtain ⟨na, nc, rfl, -, hnc, -⟩ := Rd.of_own ho7
            have p1' := hc7.cell p1 id
            have p2' := hc7.cell p2 id
            have hx7 := hx6.chg hc7 fun _ _ _ => id
            have hw7 := hw6.chg hc7 fun _ _ _ => id
            have hL7 := hL6.chg hc7 fun _ _ => id
            have hf7 : Chg (w1.heap.size ≤ ·) w1 w7 := hf6.trans (hc7.mono fun _ _ h => h.elim)
            have hn7 := Rd.of_own ho7
            have hnm : nc ≤ 9223372036854775807 := by
              rcases ho7.2 with ⟨h, -⟩ | ⟨g, cap, cur, h, hb, hg, _, hcm, -⟩
              · injection h with _ _ h; omega
              · injection h with _ _ h; subst h; unfold maxLen at hcm; exact hcm
            have hfr7 : ∀ j, (Value.slice na ys.length nc).ownBlock = some j → ¬ foot w1.heap.size sv6 fv j := fun j hj hf => by have := (ho7.lt j hj).1; have := (hL6.foot_lt hf).2; omega
            have hbase7 : ∀ j, (Value.slice na ys.length nc).ownBlock = some j → w1.heap.size ≤ j := fun j hj => by have := (ho7.lt j hj).1; have := hf6.size; omega
            have HFR7 := Go.Lib.hid hfr7; clear hfr7
            have HB7 := Go.Lib.hid hbase7; clear hbase7
            have rr1 := hn7.take (k := bs.length) (by omega)
            have rr2 := hn7.drop (k := bs.length) (by omega)
            have hx7' : Rd w7 (.slice d.sa m d.sc) 1 m (bv xs) := by have := hx7; rw [HXL.out] at this; exact this
            have rr3 := hx7'.take (k := K) hKm
            rw [Nat.mul_one, ← bv_take, HY1.out] at rr1
            rw [show (bv ys).drop bs.length = bv (ys.drop bs.length) by simp [bv, List.map_drop], HY2.out] at rr2
            rw [Nat.mul_one, ← bv_take] at rr3
            have hkc : (K : Int) ≤ (d.sc : Int) := by omega
            have HR1 := Go.Lib.hid rr1; clear rr1
            have HR2 := Go.Lib.hid rr2; clear rr2
            have HR3 := Go.Lib.hid rr3; clear rr3
            have hmo : (ys.length : Int) - (bs.length : Int) = (K : Int) := by omega
            have HN7 := Go.Lib.hid hn7
            clear p1 p2 hx6 hw6 hL6 hf6 hc7 ho7 hx7 hx7' hn7
            clear hnl
            have b1 : (bs.length : Int) ≤ (nc : Int) := by omega
            have b2 : (bs.length : Int) ≤ (ys.length : Int) := by omega
            have b5 : (K : Int) ≤ (m : Int) := by omega
            have b6 : (0 : Int) ≤ (K : Int) := by omega
            have HCS := Go.Lib.hid hcase; clear hcase
            go_wp2_with fail
            refine wp_region_quiet_lit (by kernel_rfl) (by kernel_rfl) ?_
            try replace hdis := Go.Lib.hid hdis
            try replace hbl := Go.Lib.hid hbl
            try replace hf7 := Go.Lib.hid hf7
            try replace hL7 := Go.Lib.hid hL7
            try replace hw7 := Go.Lib.hid hw7
            try replace hnc := Go.Lib.hid hnc
            try replace hvc := Go.Lib.hid hvc
            try replace hD6 := Go.Lib.hid hD6
            try replace hn0 := Go.Lib.hid hn0
            try replace hn1 := Go.Lib.hid hn1
            try replace hk0 := Go.Lib.hid hk0
            try replace hk1' := Go.Lib.hid hk1'
            try replace hdl := Go.Lib.hid hdl
            try replace hdc := Go.Lib.hid hdc
            try replace g0 := Go.Lib.hid g0
            try replace g1 := Go.Lib.hid g1
            try replace hm3 := Go.Lib.hid hm3
            try replace hk1 := Go.Lib.hid hk1
            try replace hsw := Go.Lib.hid hsw
            try replace hc1 := Go.Lib.hid hc1
            try replace hL2 := Go.Lib.hid hL2
            try replace hc2 := Go.Lib.hid hc2
            try replace hadb := Go.Lib.hid hadb
            try replace hDb := Go.Lib.hid hDb
            try replace hDf := Go.Lib.hid hDf
            try replace hB4 := Go.Lib.hid hB4
            try replace hs := Go.Lib.hid hs
            try replace hwc := Go.Lib.hid hwc
            try replace hfr6 := Go.Lib.hid hfr6
            try replace hcap := Go.Lib.hid hcap
            try replace t3 := Go.Lib.hid t3
            try replace t4 := Go.Lib.hid t4
            try replace t5 := Go.Lib.hid t5
            rcases HCS.out with ⟨rfl, rfl, rfl, rfl⟩ | ⟨rfl, rfl, rfl, rfl⟩ | ⟨rfl, rfl, rfl⟩
            all_goals
              repeat (any_goals (first | go_big_quiet_step (first | (go_at_call_of 19 (Value.slice va bs.length vc); exact quiet_eq (eqBytes_same _ _ _ _ bs bs _ rfl (HR1.out.drewN _) (hw7.out.drewN _))) | (go_at_call 19; exact quiet_eq (eqBytes_same _ _ _ _ _ _ _ rfl (HR2.out.drewN _) (HR3.out.drewN _))) | (go_at_call 22; exact quiet_eq (dead_any _ _ _ _ _ _ _ _ (hL7.out.chg ((Chg.refl No _).drewN _) fun _ _ => id)))) | quiet_step (first | (go_at_call_of 19 (Value.slice va bs.length vc); exact quiet_eq (eqBytes_same _ _ _ _ bs bs _ rfl (HR1.out.drewN _) (hw7.out.drewN _))) | (go_at_call 19; exact quiet_eq (eqBytes_same _ _ _ _ _ _ _ rfl (HR2.out.drewN _) (HR3.out.drewN _))) | (go_at_call 22; exact quiet_eq (dead_any _ _ _ _ _ _ _ _ (hL7.out.chg ((Chg.refl No _).drewN _) fun _ _ => id))))))
              refine wpQuiet_nil ?_
              intro _ hw'
              obtain ⟨nq, hw''⟩ := hw'
              subst hw''
              go_wp2_with fail
              go_roundw
              case rel =>
                have a1 := HNL.out
                have a2 := hbl.out
                have a3 := hm3.out
                have a4 := hk1.out
                exact ⟨k + 1, sv6, fv, ys, fu, _, by go_num, by omega, by omega, by omega, hL7.out.chg ((Chg.refl No _).drewN _) (fun _ _ => id), HN7.out.drewN _, fun j hj _ => ⟨HB7.out j hj, HFR7.out j hj⟩, ⟨na, nc, rfl, hnm⟩, hf7.out.drewN _⟩
              case measure => simp [intOf]; omega
      · clear hC
        go_wp2_with fail
        refine (bytes_any _ _ _ _ _ _ _ _ hL).mono ?_
        rintro e w7 ⟨v7, rfl, ho7, hc7⟩
        go_wp2_with fail
        refine (eqBytes_any _ _ bs bs _ (Rd.of_own ho7) (hR.chg hc7 fun _ _ _ => id)).mono ?_
        rintro e w9 ⟨rfl, rfl⟩
        have hbe : (bs == bs) = true := by simp
        rw [hbe]
        clear hbe
        go_wp2_with fail
        refine (len_any _ _ _ _ _ _ _ _ (hL.chg hc7 fun _ _ => id)).mono ?_
        rintro e w10 ⟨rfl, rfl⟩
        go_wp2
        go_ret
        exact ⟨by simp, ((hc1.mono (S' := (w.heap.size ≤ ·)) fun _ _ h => h.elim).trans (hf.mono fun j hj h => by have := hc1.size; omega)).trans (hc7.mono fun _ _ h => h.elim) |>.mono fun k hk h => by omega⟩
    · clear hC
      go_wp2_with fail
      refine (bytes_any _ _ _ _ _ _ _ _ hL).mono ?_
      rintro e w7 ⟨v7, rfl, ho7, hc7⟩
      go_wp2_with fail
      refine (eqBytes_any _ _ bs bs _ (Rd.of_own ho7) (hR.chg hc7 fun _ _ _ => id)).mono ?_
      rintro e w9 ⟨rfl, rfl⟩
      have hbe : (bs == bs) = true := by simp
      rw [hbe]
      clear hbe
      go_wp2_with fail
      refine (len_any _ _ _ _ _ _ _ _ (hL.chg hc7 fun _ _ => id)).mono ?_
      rintro e w10 ⟨rfl, rfl⟩
      go_wp2
      go_ret
      exact ⟨by simp, ((hc1.mono (S' := (w.heap.size ≤ ·)) fun _ _ h => h.elim).trans (hf.mono fun j hj h => by have := hc1.size; omega)).trans (hc7.mono fun _ _ h => h.elim) |>.mono fun k hk h => by omega⟩
end Go.Proofs.Ytgjllhdbkdcofaa
