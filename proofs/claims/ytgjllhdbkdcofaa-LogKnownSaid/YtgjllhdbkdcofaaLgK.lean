/- LogPlays. -/
import Derived.Test.YtgjllhdbkdcofaaLgJ
import Derived.Deep.DeepCutAuto
import Derived.Deep.CutBlock
namespace Go.Proofs.Ytgjllhdbkdcofaa
open Go.RowKit Go.Dk

/-- where the ways of the switch meet -/
def PlayCut (w0 : World) (p q g m : Nat) (s8 : Value) (wx : World) : Prop :=
  s8 = .bool true ∧ ∃ (sv fv sm : Value) (bs : List UInt8) (fu : Option Int) (dead : Bool), Both wx w0.heap.size p q sv fv sm bs fu dead ∧ Chg (w0.heap.size ≤ ·) w0 wx ∧ (0 < m → RowU8 wx g m) ∧ (0 < m → ¬ foot p sv fv g ∧ ¬ rfoot q sm g)

theorem RowU8.chg {S : Nat → Prop} {w w' : World} {g n : Nat} (h : RowU8 w g n) (hc : Chg S w w') (hs : ¬ S g) : RowU8 w' g n := by
  obtain ⟨cur, hg, r⟩ := h
  exact ⟨cur, hc.heap hg hs, r⟩

theorem play_close {S5 S6 : Nat → Prop} {w w4 w5 w6 : World} {p q g m : Nat} {sv fv sm sv5 fv5 sm6 : Value} {bs bs' : List UInt8} {fu fu' : Option Int} {dead dead' : Bool} {cut' : Int} (h : Both w4 w.heap.size p q sv fv sm bs fu dead)
    (hL : LogIs w5 w.heap.size p sv5 fv5 bs' fu' dead') (hc5 : Chg S5 w4 w5) (hS5 : ∀ k, S5 k → foot p sv fv k) (hft : ∀ k, foot p sv5 fv5 k → foot p sv fv k ∨ w4.heap.size ≤ k)
    (hM : RefIs w6 w.heap.size q sm6 bs' dead' cut') (hcut : cut' = fu'.getD (-1)) (hc6 : Chg S6 w5 w6) (hS6 : ∀ k, S6 k → rfoot q sm k) (hfm : ∀ k, rfoot q sm6 k → rfoot q sm k ∨ w5.heap.size ≤ k)
    (hf4 : Chg (w.heap.size ≤ ·) w w4) (hrow : 0 < m → RowU8 w4 g m) (hgl : 0 < m → ¬ foot p sv fv g) (hgm : 0 < m → ¬ rfoot q sm g) : PlayCut w p q g m (.bool true) w6 := by
  refine ⟨rfl, sv5, fv5, sm6, bs', fu', dead', h.next hL hc5 hft hM hcut hc6 hS6 hfm, ?_, ?_, ?_⟩
  · exact (hf4.trans (hc5.mono fun j _ hs => (h.l.foot_lt (hS5 j hs)).1)).trans (hc6.mono fun j _ hs => (h.m.foot_lt (hS6 j hs)).1)
  · intro h0
    exact ((hrow h0).chg hc5 fun e => hgl h0 (hS5 g e)).chg hc6 fun e => hgm h0 (hS6 g e)
  · intro h0
    obtain ⟨cur, hg, _⟩ := hrow h0
    have hlt := lt_of_heap hg
    refine ⟨fun h1 => ?_, fun h1 => ?_⟩
    · rcases hft g h1 with h2 | h2
      · exact hgl h0 h2
      · omega
    · rcases hfm g h1 with h2 | h2
      · exact hgm h0 h2
      · have := hc5.size; omega

set_option maxRecDepth 100000 in
set_option maxHeartbeats 40000000 in
theorem plays_any (a : Option Addr) (len cap : Nat) (w : World) (hC : CallsIn w a len) (hcap : len ≤ 9223372036854775807) :
    Calls Try.prog 3 #[.slice a len cap] w fun e w' => e = .returned (.bool true) ∧ Chg No w w' := by
  go_enter Try.func3, Try.ntmps3
  go_wp2_with fail
  refine (new_any _).mono ?_
  rintro e w1 ⟨rfl, hL1, hc1⟩
  go_wp2_with fail
  refine (rnew_any _).mono ?_
  rintro e w2 ⟨rfl, hM2, hc2⟩
  go_wp2_with fail
  have hs1 := hc1.size
  have hs2 := hc2.size
  have hpq : w.heap.size < w1.heap.size := lt_of_heap hL1.cells
  have hlt1 : ∀ k, foot w.heap.size (.slice none 0 0) (.pointer none) k → k < w1.heap.size := fun k hk => (hL1.foot_lt hk).2
  generalize w1.heap.size = q at *
  go_loopw [5] (fun i wr => PlayRel w len w.heap.size q i wr) (fun i _ => len - (intOf i).toNat)
  case atStart => exact ⟨0, .slice none 0 0, .pointer none, .slice none 0 0, [], none, false, rfl, by omega, by omega, ⟨hL1.chg hc2 fun _ _ => id, hM2.mono (by omega), fun k hk hr => by have := hlt1 k hk; have := (hM2.foot_lt hr).1; omega⟩, (hc1.mono fun _ _ h => h.elim).trans (hc2.mono fun _ _ h => h.elim)⟩
  case round =>
    clear hlt1 hL1 hM2
    obtain ⟨k, sv, fv, sm, bs, fu, dead, rfl, hk1, hk2, hB, hf⟩ := hrel
    by_cases hlt : k < len
    · by_cases hlt2 : k < 100
      · obtain ⟨b, o, d, rfl, hadb, hd0, hd1, hd2, hdr, hk0, hk1', hn0, hn1, hdl, hdc⟩ := hC k hlt
        clear hC
        have e0 := hf.cell hd0 (by simp; omega)
        have e1 := hf.cell hd1 (by simp; omega)
        have e2 := hf.cell hd2 (by simp; omega)
        obtain ⟨m, hm⟩ : ∃ m, m = min d.b.length 300 := ⟨_, rfl⟩
        have g0 : min (d.b.length : Int) 300 = (m : Int) := by omega
        have g1 : (m : Int) ≤ (d.sc : Int) := by omega
        obtain ⟨xs, hxs⟩ : ∃ xs, xs = d.b.take m := ⟨_, rfl⟩
        have hxl : xs.length = m := by rw [hxs, List.length_take]; omega
        have hxr : Rd w (.slice d.sa m d.sc) 1 xs.length (bv xs) := by
          have := hdr.take (k := m) (by omega)
          rw [Nat.mul_one, ← bv_take, ← hxs] at this
          rw [hxl]; exact this
        have hm3 : m ≤ 300 := by omega
        have HXL := Go.Lib.hid hxl; clear hxl
        have HM := Go.Lib.hid hm; clear hm hxs hdr
        have HXR := Go.Lib.hid hxr; clear hxr
        go_wp2_with fail
        obtain ⟨w3, hw3⟩ : ∃ w3, w3 = wr.alloc (.cells #[.int .i64 d.kind, .int .i64 d.n, .slice d.sa m d.sc] 29) := ⟨_, rfl⟩
        have hD : w3.heap[wr.heap.size]? = some (.cells #[.int .i64 d.kind, .int .i64 d.n, .slice d.sa m d.sc] 29 (0, 0)) := by rw [hw3]; exact heap_alloc_new _ _
        have hc3 : Chg No wr w3 := by rw [hw3]; exact (Chg.refl _ _).alloc _
        rw [← hw3]
        clear hw3
        have hB3 := hB.chg hc3 (fun _ _ => id) fun _ _ => id
        have hf3 : Chg (w.heap.size ≤ ·) w w3 := hf.trans (hc3.mono fun _ _ h => h.elim)
        have hDb : w.heap.size ≤ wr.heap.size := hf.size
        have hDf : ¬ foot w.heap.size sv fv wr.heap.size := fun h => by have := (hB.l.foot_lt h).2; omega
        have hDr : ¬ rfoot q sm wr.heap.size := fun h => by have := (hB.m.foot_lt h).2; omega
        generalize wr.heap.size = D at hD hDb hDf hDr ⊢
        clear hB hf hc3 e0 e1 e2 hd0 hd1 hd2
        have hx3 : Rd w3 (.slice d.sa m d.sc) 1 xs.length (bv xs) := HXR.out.fr (by decide) hf3
        refine (copyBytes_any _ xs _ hx3 (by rw [HXL.out]; omega)).mono ?_
        rintro e w4 ⟨v4, rfl, ho4, hc4⟩
        have hB4 := hB3.chg hc4 (fun _ _ => id) fun _ _ => id
        have hD4 := hc4.heap hD id
        have hf4 : Chg (w.heap.size ≤ ·) w w4 := hf3.trans (hc4.mono fun _ _ h => h.elim)
        have hx4 := hx3.chg hc4 fun _ _ _ => id
        have q0 := cell_of_heap (j := 0) (v := .int .i64 d.kind) hD4 rfl
        go_wp2_with fail
        refine (bring_any d.kind 6 _ (by omega) (by omega) hk0 hk1').mono ?_
        rintro e w5 ⟨rfl, rfl⟩
        obtain ⟨va, vc, rfl, -, hvc, -⟩ := Rd.of_own ho4
        obtain ⟨g, hva, hrow4, hgB⟩ := own_head ho4 (hc4.size)
        have hgl : 0 < xs.length → ¬ foot w.heap.size sv fv g := fun _ h => by have := (hB3.l.foot_lt h).2; omega
        have hgm : 0 < xs.length → ¬ rfoot q sm g := fun _ h => by have := (hB3.m.foot_lt h).2; omega
        have hgD : D < g := by have := lt_of_heap hD; omega
        have hgB' : w.heap.size ≤ g := by omega
        have hvb : ∀ j, (Value.slice va xs.length vc).ownBlock = some j → w3.heap.size ≤ j := fun j hj => (ho4.lt j hj).1
        have hw4 : w.heap.size ≤ w4.heap.size := hf4.size
        have hlt3 : ∀ j, foot w.heap.size sv fv j → j < w3.heap.size := fun j hj => (hB3.l.foot_lt hj).2
        have hltm : ∀ j, rfoot q sm j → j < w3.heap.size := fun j hj => (hB3.m.foot_lt hj).2
        have HVB := Go.Lib.hid hvb; clear hvb
        have HLT := Go.Lib.hid hlt3; clear hlt3
        have HLM := Go.Lib.hid hltm; clear hltm
        have HVA := Go.Lib.hid hva; clear hva
        have HO4 := Go.Lib.hid ho4; clear ho4
        clear hB3 hD hf3 hx3 hc4
        have hz0 := Int.emod_nonneg d.kind (show (6 : Int) ≠ 0 by omega)
        have hz1 := Int.emod_lt_of_pos d.kind (show (0 : Int) < 6 by omega)
        generalize d.kind % 6 = c at hz0 hz1 ⊢
        have hcs : c = 3 ∨ c = 4 ∨ c = 5 ∨ (c = 0 ∨ c = 1 ∨ c = 2) := by omega
        clear hz0 hz1
        have HCS := Go.Lib.hid hcs; clear hcs
        go_upto_block 2 with fail
        go_cut [8] (fun s8 wx => PlayCut w w.heap.size q g m s8 wx)
        case first =>
          have q1 := cell_of_heap (j := 1) (v := .int .i64 d.n) hD4 rfl
          have q2 := cell_of_heap (j := 2) (v := .slice d.sa m d.sc) hD4 rfl
          rcases HCS.out with rfl | rfl | rfl | hcs
          · obtain ⟨E, hE⟩ : ∃ E : Int, E = (if dead = true then 190 else if d.n < 0 then 2 else 0) := ⟨_, rfl⟩
            have HE := Go.Lib.hid hE; clear hE
            have hBd := hB4.chg ((Chg.refl No w4).drew) (fun _ _ => id) fun _ _ => id
            have HBd := Go.Lib.hid hBd; clear hBd
            have q1d : w4.drew.cell? ⟨D, 1, none⟩ = some (.int .i64 d.n) := q1
            go_wp2_with fail
            go_region_held3 (fun w' => w'.cell? ⟨D, 1, none⟩ = some (.int .i64 d.n)) (first | assumption)
              (first | (go_at_call 11; refine (arm_any _ _ sv fv bs fu dead d.n _ HBd.out.l hw4 hn1).mono ?_; rintro e w5 ⟨fv5, he, hL5, hc5, hf5⟩; rw [← HE.out] at he; subst he; have q15 := hc5.cell q1d (fun e => hDf (.inl e))) | (go_at_call 12; refine (rarm_any _ _ sm bs dead _ d.n _ (HBd.out.m5 hc5 fun _ e => .inl e) hn1).mono ?_; rintro e w6 ⟨he, hM6, hc6⟩; rw [← HE.out] at he; subst he; have q16 := hc6.cell q15 (fun e => hDr (.inl e))))
            go_wp2_with fail
            go_meet
            try simp only [beq_self_eq_true]
            refine play_close HBd.out hL5 hc5 (fun _ e => .inl e) ?_ hM6 ?_ hc6 (fun _ e => .inl e) (fun _ h => .inl h) hf4.drew (HXL.out ▸ fun h0 => (hrow4 h0).chg (Chg.refl No w4).drew id) (HXL.out ▸ hgl) (HXL.out ▸ hgm)
            · intro j hj
              rcases hj with hj | hj | hj
              · exact .inl (.inl hj)
              · exact .inl (.inr (.inl hj))
              · rcases hf5 j hj with h | h
                · exact .inl (.inr (.inr h))
                · exact .inr h
            · split <;> rfl
          · have HBd := Go.Lib.hid (hB4.chg ((Chg.refl No w4).drew) (fun _ _ => id) fun _ _ => id)
            have q1d : w4.drew.cell? ⟨D, 1, none⟩ = some (.int .i64 d.n) := q1
            obtain ⟨E, hE⟩ : ∃ E : Int, E = (if d.n < 0 ∨ (bs.length : Int) < d.n then 9 else 0) := ⟨_, rfl⟩
            have HE := Go.Lib.hid hE; clear hE
            have hwd : w.heap.size ≤ w4.drew.heap.size := hw4
            go_wp2_with fail
            go_region_held3 (fun w' => w'.cell? ⟨D, 1, none⟩ = some (.int .i64 d.n)) (first | assumption)
              (first | (go_at_call 13; refine (revive_any _ _ sv fv bs fu dead d.n _ HBd.out.l).mono ?_; rintro e w5 ⟨sv5, fv5, he, hL5, hc5, hft5⟩; rw [← HE.out] at he; subst he; have q15 := hc5.cell q1d (fun e => hDf (.inl e)); have hL5' := Go.Lib.hid hL5; clear hL5) | (go_at_call 14; refine (rrevive_any _ _ sm bs dead _ d.n _ (HBd.out.m5 hc5 fun _ e => .inl e) (Nat.le_trans hwd hc5.size)).mono ?_; rintro e w6 ⟨sm6, he, hM6, hc6, hfm6⟩; rw [← HE.out] at he; subst he; have q16 := hc6.cell q15 (fun e => hDr (.inl e)); have hM6' := Go.Lib.hid hM6; clear hM6))
            go_wp2_with fail
            go_meet
            try simp only [beq_self_eq_true]
            have hL5 := hL5'.out
            have hM6 := hM6'.out
            by_cases hb : d.n < 0 ∨ (bs.length : Int) < d.n
            · rw [if_pos hb] at hL5 hM6
              exact play_close HBd.out hL5 hc5 (fun _ e => .inl e) (fun k hk => .inl (hft5 k hk)) hM6 rfl hc6 (fun _ e => .inl e) hfm6 hf4.drew (HXL.out ▸ fun h0 => (hrow4 h0).chg (Chg.refl No w4).drew id) (HXL.out ▸ hgl) (HXL.out ▸ hgm)
            · rw [if_neg hb] at hL5 hM6
              exact play_close HBd.out hL5 hc5 (fun _ e => .inl e) (fun k hk => .inl (hft5 k hk)) hM6 rfl hc6 (fun _ e => .inl e) hfm6 hf4.drew (HXL.out ▸ fun h0 => (hrow4 h0).chg (Chg.refl No w4).drew id) (HXL.out ▸ hgl) (HXL.out ▸ hgm)
          · have HBd := Go.Lib.hid (hB4.chg ((Chg.refl No w4).drew) (fun _ _ => id) fun _ _ => id)
            have q1d : w4.drew.cell? ⟨D, 1, none⟩ = some (.int .i64 d.n) := q1
            have hz0 := Int.emod_nonneg d.n (show (4 : Int) ≠ 0 by omega)
            have hz1 := Int.emod_lt_of_pos d.n (show (0 : Int) < 4 by omega)
            have hbl := hB4.l.small
            go_wp2_with fail
            obtain ⟨r, hr⟩ : ∃ r : Int, r = (bs.length : Int) - d.n % 4 := ⟨_, rfl⟩
            have er : IntKind.i64.wrap ((bs.length : Int) - d.n % 4) = r := by rw [IntWalk.i64_in _ (by omega)]; exact hr.symm
            have hr1 : r ≤ (bs.length : Int) := by omega
            have HR := Go.Lib.hid hr; clear hr
            go_quiet ((first | (go_at_call 15; exact quiet_eq (rlen_any _ _ sm bs dead _ _ (hB4.m.chg ((Chg.refl No w4).drewN _) fun _ _ => id))) | (go_at_call 10; exact quiet_eq (bring_any d.n 4 _ (by omega) (by omega) hn0 hn1))))
            obtain ⟨E, hE⟩ : ∃ E : Int, E = (if r < 0 ∨ (bs.length : Int) < r then 9 else 0) := ⟨_, rfl⟩
            have HE := Go.Lib.hid hE; clear hE
            have HBd := Go.Lib.hid (hB4.chg ((Chg.refl No w4).drewN nq) (fun _ _ => id) fun _ _ => id)
            have hwd : w.heap.size ≤ (w4.drewN nq).heap.size := hw4
            go_wp2_with fail
            refine (revive_any _ _ sv fv bs fu dead r _ HBd.out.l).mono ?_
            rintro e w5 ⟨sv5, fv5, he, hL5, hc5, hft5⟩
            rw [← HE.out] at he
            subst he
            have hL5' := Go.Lib.hid hL5
            clear hL5
            go_wp2_with fail
            refine (rrevive_any _ _ sm bs dead _ r _ (HBd.out.m5 hc5 fun _ e => .inl e) (Nat.le_trans hwd hc5.size)).mono ?_
            rintro e w6 ⟨sm6, he, hM6, hc6, hfm6⟩
            rw [← HE.out] at he
            subst he
            have hM6' := Go.Lib.hid hM6
            clear hM6
            go_wp2_with fail
            go_meet
            try simp only [beq_self_eq_true]
            have hL5 := hL5'.out
            have hM6 := hM6'.out
            by_cases hb : r < 0 ∨ (bs.length : Int) < r
            · rw [if_pos hb] at hL5 hM6
              exact play_close HBd.out hL5 hc5 (fun _ e => .inl e) (fun k hk => .inl (hft5 k hk)) hM6 rfl hc6 (fun _ e => .inl e) hfm6 (hf4.drewN _) (HXL.out ▸ fun h0 => (hrow4 h0).chg ((Chg.refl No w4).drewN _) id) (HXL.out ▸ hgl) (HXL.out ▸ hgm)
            · rw [if_neg hb] at hL5 hM6
              exact play_close HBd.out hL5 hc5 (fun _ e => .inl e) (fun k hk => .inl (hft5 k hk)) hM6 rfl hc6 (fun _ e => .inl e) hfm6 (hf4.drewN _) (HXL.out ▸ fun h0 => (hrow4 h0).chg ((Chg.refl No w4).drewN _) id) (HXL.out ▸ hgl) (HXL.out ▸ hgm)
          · have t3 : (c == 3) = false := by simp; omega
            have t4 : (c == 4) = false := by simp; omega
            have t5 : (c == 5) = false := by simp; omega
            clear hcs
            have HBd := Go.Lib.hid (hB4.chg ((Chg.refl No w4).drew) (fun _ _ => id) fun _ _ => id)
            have q2d : w4.drew.cell? ⟨D, 2, none⟩ = some (.slice d.sa m d.sc) := q2
            obtain ⟨E, hE⟩ : ∃ E : Int, E = (appRes bs fu dead xs).1 := ⟨_, rfl⟩
            have HE := Go.Lib.hid hE; clear hE
            have HFU := Go.Lib.hid (fuOf_getD hB4.l)
            have hwd : w.heap.size ≤ w4.drew.heap.size := hw4
            have HRI := Go.Lib.hid ((Rd.of_own HO4.out).chg ((Chg.refl No w4).drew) fun _ _ _ => id)
            have HXD := Go.Lib.hid (hx4.chg ((Chg.refl No w4).drew) fun _ _ _ => id)
            have HXLT := Go.Lib.hid (fun j hj h0 => HXR.out.lt (by decide) j hj h0 : ∀ j, (Value.slice d.sa m d.sc).ownBlock = some j → 0 < xs.length → j < w.heap.size)
            have hxle : xs.length ≤ 140737488351232 := by rw [HXL.out]; omega
            go_wp2_with fail
            go_region_held3 (fun w' => w'.cell? ⟨D, 2, none⟩ = some (.slice d.sa m d.sc)) (first | assumption)
              (first | (go_at_call 16; refine (append_any _ _ sv fv _ bs xs fu dead _ HBd.out.l HRI.out (fun j hj _ hf => by have := HVB.out j hj; have := HLT.out j hf; omega) hxle hwd).mono ?_; rintro e w5 ⟨sv5, he, hL5, hc5, hfr5⟩; rw [← HE.out] at he; subst he; have q25 := hc5.cell q2d hDf) | (go_at_call 17; refine (rappend_any _ _ sm _ bs xs dead _ _ (HBd.out.m5 hc5 fun _ e => e) (HXD.out.chg hc5 fun j hj h0 hf => by have := HXLT.out j hj h0; have := (HBd.out.l.foot_lt hf).1; omega) (fun j hj h0 e => by have := HXLT.out j hj h0; have := HBd.out.m.base; omega) hxle (Nat.le_trans hwd hc5.size)).mono ?_; rintro e w6 ⟨sm6, he, hM6, hc6, hfm6⟩; rw [HFU.out] at he hM6; rw [← HE.out] at he; subst he; have q26 := hc6.cell q25 hDr))
            go_wp2_with fail
            go_meet
            try simp only [beq_self_eq_true]
            refine play_close HBd.out hL5 hc5 (fun _ e => e) ?_ hM6 rfl hc6 (fun _ e => e) ?_ hf4.drew (HXL.out ▸ fun h0 => (hrow4 h0).chg (Chg.refl No w4).drew id) (HXL.out ▸ hgl) (HXL.out ▸ hgm)
            · intro j hj
              rcases hj with hj | hj | hj
              · exact .inl (.inl hj)
              · rcases hfr5 j hj with h | h
                · exact .inl (.inr (.inl h))
                · exact .inr h
              · exact .inl (.inr (.inr hj))
            · intro j hj
              rcases hj with hj | hj
              · exact .inl (.inl hj)
              · rcases hfm6 j hj with h | h
                · exact .inl (.inr h)
                · exact .inr h
        case rest =>
          obtain ⟨rfl, sv', fv', sm', bs', fu', dead', hB5, hf5, hrow5, hgn5⟩ := hcut
          clear hB4 hD4 hf4 hx4 hrow4 hgl hgm hDf hDr
          rw [← HXL.out] at hrow5 hgn5
          have hm3' : xs.length ≤ 300 := by rw [HXL.out]; exact hm3
          go_wp2_with fail
          go_loopw [10] (fun i wx => XorRel wc g xs.length i wx) (fun i _ => xs.length - (intOf i).toNat)
          case atStart => exact ⟨0, rfl, Nat.zero_le _, hrow5, Chg.refl _ _⟩
          case round =>
            obtain ⟨j, rfl, hj, hrx, hcx⟩ := hrel
            by_cases hjl : j < xs.length
            · obtain rfl := HVA.out (by omega)
              obtain ⟨x, hx⟩ := (hrx (by omega)).cell hjl
              have hfz := (hrx (by omega)).free j
              go_wp2_with fail
              go_roundw
              case rel => exact ⟨j + 1, by go_num, by omega, fun h => (hrx h).set _, hcx.setCell (p := ⟨g, j, none⟩) (fun _ => ⟨by omega, rfl⟩) _⟩
              case measure => simp [intOf]; omega
            · have hB6 := hB5.chg hcx (fun k hk hs => (hgn5 hs.1).1 (hs.2 ▸ hk)) fun k hk hs => (hgn5 hs.1).2 (hs.2 ▸ hk)
              have hf6 : Chg (w.heap.size ≤ ·) w wr := hf5.trans (hcx.mono fun k _ hs => hs.2 ▸ hgB')
              clear hB5 hf5 hrow5 hgn5 hrx hcx
              go_wp2_with fail
              refine (bytes_any _ _ _ _ _ _ _ _ hB6.l).mono ?_
              rintro e w7 ⟨v7, rfl, ho7, hc7⟩
              have hB7 := hB6.chg hc7 (fun _ _ => id) fun _ _ => id
              have hf7 : Chg (w.heap.size ≤ ·) w w7 := hf6.trans (hc7.mono fun _ _ h => h.elim)
              go_wp2_with fail
              refine (rbytes_any _ _ _ _ _ _ _ hB7.m).mono ?_
              rintro e w8 ⟨v8, rfl, ho8, hc8⟩
              have hB8 := hB7.chg hc8 (fun _ _ => id) fun _ _ => id
              have hf8 : Chg (w.heap.size ≤ ·) w w8 := hf7.trans (hc8.mono fun _ _ h => h.elim)
              have ho78 := hc8.own ho7 fun _ _ => id
              go_wp2_with fail
              refine (eqBytes_any _ _ bs' bs' _ (Rd.of_own ho78) (Rd.of_own ho8)).mono ?_
              rintro e w9 ⟨rfl, rfl⟩
              have hbe : (bs' == bs') = true := by simp
              rw [hbe]
              clear hbe
              go_wp2_with fail
              refine (len_any _ _ _ _ _ _ _ _ hB8.l).mono ?_
              rintro e w9 ⟨rfl, rfl⟩
              go_wp2_with fail
              refine (rlen_any _ _ _ _ _ _ _ hB8.m).mono ?_
              rintro e w9 ⟨rfl, rfl⟩
              go_wp2_with fail
              refine (dead_any _ _ _ _ _ _ _ _ hB8.l).mono ?_
              rintro e w9 ⟨rfl, rfl⟩
              go_wp2_with fail
              refine (rdead_any _ _ _ _ _ _ _ hB8.m).mono ?_
              rintro e w9 ⟨rfl, rfl⟩
              obtain ⟨va7, vc7, rfl, -, hvc7, -⟩ := Rd.of_own ho78
              obtain ⟨g7, hva7, hrow7, hgB7⟩ := own_head ho78 (Nat.le_trans hc7.size hc8.size)
              have hbs := hB8.l.small
              have hgn7 : 0 < bs'.length → ¬ foot w.heap.size sv' fv' g7 ∧ ¬ rfoot q sm' g7 := fun _ => ⟨fun h => by have := (hB6.l.foot_lt h).2; omega, fun h => by have := (hB6.m.foot_lt h).2; omega⟩
              have hg7b : w.heap.size ≤ g7 := by have := hf6.size; omega
              have HVA7 := Go.Lib.hid hva7; clear hva7
              clear hB6 hB7 hf6 hf7 hc7 hc8 ho7 ho8 ho78
              have hdd : (dead' != dead') = false := by simp
              go_wp2_with fail
              go_loopw [12] (fun i wx => XorRel w8 g7 bs'.length i wx) (fun i _ => bs'.length - (intOf i).toNat)
              case atStart => exact ⟨0, rfl, Nat.zero_le _, hrow7, Chg.refl _ _⟩
              case round =>
                obtain ⟨j7, rfl, hj7, hrx7, hcx7⟩ := hrel
                by_cases hjl7 : j7 < bs'.length
                · obtain rfl := HVA7.out (by omega)
                  obtain ⟨x7, hx7⟩ := (hrx7 (by omega)).cell hjl7
                  have hfz7 := (hrx7 (by omega)).free j7
                  go_wp2_with fail
                  go_roundw
                  case rel => exact ⟨j7 + 1, by go_num, by omega, fun h => (hrx7 h).set _, hcx7.setCell (p := ⟨g7, j7, none⟩) (fun _ => ⟨by omega, rfl⟩) _⟩
                  case measure => simp [intOf]; omega
                · have hB9 := hB8.chg hcx7 (fun k hk hs => (hgn7 hs.1).1 (hs.2 ▸ hk)) fun k hk hs => (hgn7 hs.1).2 (hs.2 ▸ hk)
                  have hf9 := hf8.trans (hcx7.mono fun k _ hs => (hs.2 ▸ hg7b : w.heap.size ≤ k))
                  clear hB8 hf8 hrow7 hgn7 hrx7 hcx7
                  go_wp2_with fail
                  go_roundw
                  case rel => exact ⟨k + 1, sv', fv', sm', bs', fu', dead', by go_num, by omega, by omega, hB9, hf9⟩
                  case measure => simp [intOf]; omega
      · clear hC
        go_wp2_with fail
        refine (bytes_any _ _ _ _ _ _ _ _ hB.l).mono ?_
        rintro e w7 ⟨v7, rfl, ho7, hc7⟩
        have hB7 := hB.chg hc7 (fun _ _ => id) fun _ _ => id
        go_wp2_with fail
        refine (rbytes_any _ _ _ _ _ _ _ hB7.m).mono ?_
        rintro e w8 ⟨v8, rfl, ho8, hc8⟩
        go_wp2_with fail
        refine (eqBytes_any _ _ bs bs _ (Rd.of_own (hc8.own ho7 fun _ _ => id)) (Rd.of_own ho8)).mono ?_
        rintro e w9 ⟨rfl, rfl⟩
        have hbe : (bs == bs) = true := by simp
        rw [hbe]
        clear hbe
        go_wp2_with fail
        refine (works_any _).mono ?_
        rintro e w10 ⟨rfl, hc10⟩
        go_wp2
        go_ret
        exact ⟨rfl, (((hf.trans (hc7.mono fun _ _ h => h.elim)).trans (hc8.mono fun _ _ h => h.elim)).trans (hc10.mono fun _ _ h => h.elim)).mono fun k hk h => by omega⟩
    · clear hC
      go_wp2_with fail
      refine (bytes_any _ _ _ _ _ _ _ _ hB.l).mono ?_
      rintro e w7 ⟨v7, rfl, ho7, hc7⟩
      have hB7 := hB.chg hc7 (fun _ _ => id) fun _ _ => id
      go_wp2_with fail
      refine (rbytes_any _ _ _ _ _ _ _ hB7.m).mono ?_
      rintro e w8 ⟨v8, rfl, ho8, hc8⟩
      go_wp2_with fail
      refine (eqBytes_any _ _ bs bs _ (Rd.of_own (hc8.own ho7 fun _ _ => id)) (Rd.of_own ho8)).mono ?_
      rintro e w9 ⟨rfl, rfl⟩
      have hbe : (bs == bs) = true := by simp
      rw [hbe]
      clear hbe
      go_wp2_with fail
      refine (works_any _).mono ?_
      rintro e w10 ⟨rfl, hc10⟩
      go_wp2
      go_ret
      exact ⟨rfl, (((hf.trans (hc7.mono fun _ _ h => h.elim)).trans (hc8.mono fun _ _ h => h.elim)).trans (hc10.mono fun _ _ h => h.elim)).mono fun k hk h => by omega⟩
end Go.Proofs.Ytgjllhdbkdcofaa
