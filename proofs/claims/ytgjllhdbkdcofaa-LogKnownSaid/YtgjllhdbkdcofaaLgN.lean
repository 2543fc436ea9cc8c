/- LogKnown. -/
import Derived.Test.YtgjllhdbkdcofaaLgM
namespace Go.Proofs.Ytgjllhdbkdcofaa
open Go.RowKit Go.Dk

def NoneRel (w0 : World) (v i : Value) (wr : World) : Prop :=
  ∃ k : Nat, i = .int .i64 k ∧ k ≤ 2 ∧ NoneIs wr v ∧ Chg No w0 wr

def DosRel (w : World) (g : Nat) (ends : Array Value) (v i : Value) (wr : World) : Prop :=
  ∃ (k : Nat) (xs : List Value), i = .int .i64 k ∧ k ≤ 7 ∧ wr.ownsRow w.heap.size 29 3 v (k * 5) xs ∧ (∀ j, j < k * 5 → DoOf wr xs j) ∧ wr.heap[g]? = some (.cells ends 3 (0, 0)) ∧ Chg (w.heap.size ≤ ·) w wr

def ends7 : Array Value := #[.int .i64 (-9223372036854775808), .int .i64 (-1), .int .i64 0, .int .i64 1, .int .i64 2, .int .i64 3, .int .i64 9223372036854775807]
theorem ends_at (k : Nat) (h : k < 7) : ∃ n : Int, ends7[k]? = some (.int .i64 n) ∧ -9223372036854775808 ≤ n ∧ n ≤ 9223372036854775807 := by
  match k, h with
  | 0, _ => exact ⟨_, rfl, by decide, by decide⟩
  | 1, _ => exact ⟨_, rfl, by decide, by decide⟩
  | 2, _ => exact ⟨_, rfl, by decide, by decide⟩
  | 3, _ => exact ⟨_, rfl, by decide, by decide⟩
  | 4, _ => exact ⟨_, rfl, by decide, by decide⟩
  | 5, _ => exact ⟨_, rfl, by decide, by decide⟩
  | 6, _ => exact ⟨_, rfl, by decide, by decide⟩

theorem heap3a (w : World) (o1 o2 o3 : Obj) : (((w.alloc o1).alloc o2).alloc o3).drew.heap[w.heap.size]? = some o1 :=
  heap_alloc_old' (heap_alloc_old' (heap_alloc_new w o1))
theorem heap3b (w : World) (o1 o2 o3 : Obj) : (((w.alloc o1).alloc o2).alloc o3).drew.heap[w.heap.size + 1]? = some o2 := by
  have h := heap_alloc_new (w.alloc o1) o2
  have e : (w.alloc o1).heap.size = w.heap.size + 1 := by simp
  rw [e] at h
  exact heap_alloc_old' h

theorem dos_close {w wr W w3 : World} {g k a b : Nat} {n : Int} {va va3 : Option Addr} {vc vc3 : Nat} {xs : List Value} (hk : k < 7)
    (hO : wr.ownsRow w.heap.size 29 3 (.slice va (k * 5) vc) (k * 5) xs) (hD : ∀ j, j < k * 5 → DoOf wr xs j) (hE : wr.heap[g]? = some (.cells ends7 3 (0, 0))) (hZ : Chg (w.heap.size ≤ ·) w wr)
    (hW : Chg No wr W) (hg1 : W.grownBy w3 (Value.slice va (k * 5) vc).ownBlock)
    (ha : W.heap[a]? = some (.cells #[.int .u8 k, .int .u8 7] 5 (0, 0))) (hb : W.heap[b]? = some (.cells #[.int .u8 9, .int .u8 9, .int .u8 9] 5 (0, 0)))
    (hn1 : -9223372036854775808 ≤ n) (hn2 : n ≤ 9223372036854775807)
    (ho1 : w3.ownsRow w.heap.size 29 3 (.slice va3 (k * 5 + 5) vc3) (k * 5 + 5) (xs ++ [.int .i64 0, .int .i64 0, .slice (some ⟨a, 0, none⟩) 2 2, .int .i64 3, .int .i64 n, .slice none 0 0, .int .i64 0, .int .i64 0, .slice (some ⟨b, 0, none⟩) 3 3, .int .i64 4, .int .i64 n, .slice none 0 0, .int .i64 5, .int .i64 k, .slice none 0 0])) :
    DosRel w g ends7 (.slice va3 (k * 5 + 5) vc3) (.int .i64 ((k + 1 : Nat) : Int)) w3 := by
  have hOW := hW.own hO (fun _ _ => id)
  have C3 : Chg (fun q => (Value.slice va (k * 5) vc).ownBlock = some q) W w3 := (Chg.refl _ W).grown hg1 (fun _ h _ => h)
  have hkeep : ∀ (q : Nat) (cs : Array Value) (t : TypeId), t ≠ 29 → W.heap[q]? = some (.cells cs t (0, 0)) → w3.heap[q]? = some (.cells cs t (0, 0)) := fun q cs t ht hq => by
    refine C3.heap hq fun e => ?_
    rcases hOW.2 with ⟨hv, _⟩ | ⟨r, cap, cur, hv, _, hr, _⟩
    · rw [hv] at e; simp [Value.ownBlock] at e
    · rw [hv] at e; simp [Value.ownBlock] at e; subst e
      exact ne_of_heap hq hr ht rfl
  have hlen := hO.1
  refine ⟨k + 1, _, rfl, by omega, by rw [show (k + 1) * 5 = k * 5 + 5 by omega]; exact ho1, ?_, hkeep _ _ _ (by decide) (hW.heap hE id), ?_⟩
  · rw [show (k + 1) * 5 = k * 5 + 5 by omega]
    refine dos_next hlen hD (fun q cs h => hkeep q cs _ (by decide) (hW.heap h id)) fun t ht => ?_
    have ku : (UInt8.ofNat k).toNat = k := by simp; omega
    match t, ht with
    | 0, _ => exact ⟨⟨0, 0, [UInt8.ofNat k, 7], some ⟨a, 0, none⟩, 2⟩, rfl, rfl, rfl, ⟨by simp, by simp, by simp, by simp, by simp, by simp⟩, .inr ⟨a, rfl, rfl, by have := hkeep _ _ _ (by decide) ha; rw [this]; simp [bv]; omega⟩⟩
    | 1, _ => exact ⟨⟨3, n, [], none, 0⟩, rfl, rfl, rfl, ⟨by simp, by simp, hn1, hn2, by simp, by simp⟩, .inl ⟨rfl, rfl, rfl⟩⟩
    | 2, _ => exact ⟨⟨0, 0, [9, 9, 9], some ⟨b, 0, none⟩, 3⟩, rfl, rfl, rfl, ⟨by simp, by simp, by simp, by simp, by simp, by simp⟩, .inr ⟨b, rfl, rfl, by have := hkeep _ _ _ (by decide) hb; rw [this]; simp [bv]⟩⟩
    | 3, _ => exact ⟨⟨4, n, [], none, 0⟩, rfl, rfl, rfl, ⟨by simp, by simp, hn1, hn2, by simp, by simp⟩, .inl ⟨rfl, rfl, rfl⟩⟩
    | 4, _ => exact ⟨⟨5, k, [], none, 0⟩, rfl, rfl, rfl, ⟨by simp, by simp, by simp only []; omega, by simp only []; omega, by simp, by simp⟩, .inl ⟨rfl, rfl, rfl⟩⟩
  · refine (hZ.trans (hW.mono fun _ _ h => h.elim)).trans (C3.mono fun q _ e => ?_)
    rcases hOW.2 with ⟨hv, _⟩ | ⟨r, cap, cur, hv, hr0, _⟩
    · rw [hv] at e; simp [Value.ownBlock] at e
    · rw [hv] at e; simp [Value.ownBlock] at e; omega

set_option maxRecDepth 100000 in
set_option maxHeartbeats 40000000 in
theorem known_any (w : World) :
    Calls Try.prog 6 #[] w fun e w' => e = .returned (.bool true) ∧ Chg No w w' := by
  go_enter Try.func6, Try.ntmps6
  go_wp2_with fail
  go_loopw [1, 2] (fun v i wr => NoneRel w v i wr) (fun _ i _ => 2 - (intOf i).toNat)
  case atStart => exact ⟨0, rfl, by omega, .inl rfl, Chg.refl _ _⟩
  case round =>
    obtain ⟨k, rfl, hk, hN, hf⟩ := hrel
    by_cases hlt : k < 2
    · go_wp2_with fail
      refine (none_append _ _ _ _ _ hN).mono ?_
      rintro e w' ⟨rfl, rfl⟩
      go_wp2_with fail
      refine (none_arm _ _ _ hN).mono ?_
      rintro e w' ⟨rfl, rfl⟩
      go_wp2_with fail
      refine (none_revive _ _ _ hN).mono ?_
      rintro e w' ⟨rfl, rfl⟩
      go_wp2_with fail
      refine (none_bytes _ _ hN).mono ?_
      rintro e w' ⟨rfl, rfl⟩
      go_wp2_with fail
      refine (none_len _ _ hN).mono ?_
      rintro e w' ⟨rfl, rfl⟩
      go_wp2_with fail
      refine (none_dead _ _ hN).mono ?_
      rintro e w' ⟨rfl, rfl⟩
      go_wp2
      go_roundw
      case rel => exact ⟨k + 1, by go_num, by omega, .inr ⟨_, _, _, _, rfl, heap_alloc_new _ _⟩, hf.alloc _⟩
      case measure => simp [intOf]; omega
    · obtain rfl : k = 2 := by omega
      clear hN
      go_wp2_with fail
      refine (new_any wr).mono ?_
      rintro e w1 ⟨rfl, hL1, hc1⟩
      have f1 : Chg No w w1 := hf.trans hc1
      have hge : w.heap.size ≤ wr.heap.size := hf.size
      generalize hp : wr.heap.size = p at hL1 hge ⊢
      have hpl : p < w1.heap.size := lt_of_heap hL1.cells
      clear hf hc1 hp
      obtain ⟨i0, hi, hz0, hz1, hz2⟩ := info_parts Try.infoU8
      have hBB : w1.heap.size ≤ w1.heap.size := Nat.le_refl _
      go_wp2_with (at_make; refine wpList_make_full _ rfl _ _ _ rfl w1.heap.size 5 i0 _ 1 Try.underlying27 hi hz0 hz1 .i64 .i64 _ _ 524288 rfl rfl rfl rfl (by rw [hz2]; omega) (by unfold maxLen; omega) hBB ?_; intro w2 hr2 hg2; have hc2 := (Chg.refl No w1).grown hg2 (fun _ h => by cases h); clear hg2)
      rw [made_bv 524288] at hr2
      obtain ⟨Z, hZ⟩ : ∃ Z : List UInt8, Z = List.replicate 524288 0 := ⟨_, rfl⟩
      have hZl : Z.length = 524288 := by rw [hZ, List.length_replicate]
      rw [← hZ] at hr2; clear hZ
      rw [← hZl] at hr2
      have hL2 := hL1.chg hc2 fun _ _ => id
      have f2 : Chg (w.heap.size ≤ ·) w w2 := (f1.mono fun _ _ h => h.elim).trans (hc2.mono fun _ _ h => h.elim)
      have hB2 : p ≤ w2.heap.size := by have := hc2.size; omega
      have hxb : ∀ k, (Value.slice (some ⟨w1.heap.size, 0, none⟩) Z.length Z.length).ownBlock = some k → 0 < Z.length → ¬ foot p (.slice none 0 0) (.pointer none) k := fun k hk _ hf => by
        have := (hL1.foot_lt hf).2
        simp [Value.ownBlock] at hk; omega
      have hRZ := Rd.of_own hr2
      clear hL1 f1 hi hz0 hz1 hz2 hBB
      rw [← hZl]
      refine (append_any p p _ _ _ [] Z none false _ hL2 hRZ hxb (by omega) hB2).mono ?_
      rintro e w3 ⟨sv3, he, hL3, hc3, hf3⟩
      have e3 : appRes [] none false Z = (0, Z, false) := by unfold appRes; rw [if_neg (by simp), if_neg (by simp [hZl])]; simp [keptOf]
      rw [e3] at he hL3
      subst he
      have hxb3 : ∀ k, (Value.slice (some ⟨w1.heap.size, 0, none⟩) Z.length Z.length).ownBlock = some k → 0 < Z.length → ¬ foot p sv3 (.pointer none) k := fun k hk h0 hf => by
        rcases hf with h | h | h
        · exact hxb k hk h0 (.inl h)
        · rcases hf3 k h with h5 | h5
          · exact hxb k hk h0 (.inr (.inl h5))
          · simp [Value.ownBlock] at hk; have := lt_of_heap (w := w2) (k := k) (hRZ.lt (by omega) k (by simpa [Value.ownBlock] using hk) h0 |> fun h => (Array.getElem?_eq_getElem h)); omega
        · exact hxb k hk h0 (.inr (.inr h))
      have hRZ3 := hRZ.chg hc3 hxb
      have f3 : Chg (w.heap.size ≤ ·) w w3 := f2.trans (hc3.mono fun k _ h => Nat.le_trans hge (foot_ge hL2 k h))
      have hB3 : p ≤ w3.heap.size := Nat.le_trans hB2 hc3.size
      clear hL2 hc2 f2 hc3 hB2 hxb hr2 hRZ hf3 e3
      go_wp2_with fail
      rw [← hZl]
      refine (append_any p p _ _ _ Z Z none false _ hL3 hRZ3 hxb3 (by omega) hB3).mono ?_
      rintro e w4 ⟨sv4, he, hL4, hc4, -⟩
      have e4 : appRes Z none false Z = (0, Z ++ Z, false) := by unfold appRes; rw [if_neg (by simp), if_neg (by omega)]; simp [keptOf]
      rw [e4] at he hL4
      subst he
      obtain ⟨Y, hY⟩ : ∃ Y : List UInt8, Y = Z ++ Z := ⟨_, rfl⟩
      have hYl : Y.length = 1048576 := by rw [hY, List.length_append]; omega
      rw [← hY] at hL4; clear hY
      have f4 : Chg (w.heap.size ≤ ·) w w4 := f3.trans (hc4.mono fun k _ h => Nat.le_trans hge (foot_ge hL3 k h))
      have hB4 : p ≤ w4.heap.size := Nat.le_trans hB3 hc4.size
      clear hL3 hRZ3 hxb3 hc4 f3 hB3 e4 hZl
      go_wp2_with fail
      refine (append_lit [1] p p _ _ Y none false _ hL4 hB4 (by decide)).mono ?_
      rintro e w5 ⟨sv5, he, hL5, hc5, -⟩
      have e5 : appRes Y none false [1] = (5, Y, false) := by unfold appRes; rw [if_neg (by simp), if_pos (by simp [hYl])]
      rw [e5] at he hL5
      subst he
      have f5 : Chg (w.heap.size ≤ ·) w w5 := f4.trans (hc5.mono fun k _ h => Nat.le_trans hge (foot_ge hL4 k h))
      have hB5 : p ≤ w5.heap.size := Nat.le_trans hB4 hc5.size
      clear hL4 hc5 f4 hB4 e5
      go_wp2_with fail
      refine (append_any p p _ _ (.slice none 0 0) Y [] none false _ hL5 (Rd.mk' rfl (Nat.le_refl _) (fun _ => rfl) fun _ h => by cases h) (fun _ h => by simp [Value.ownBlock] at h) (by simp) hB5).mono ?_
      rintro e w6 ⟨sv6, he, hL6, hc6, -⟩
      have e6 : appRes Y none false [] = (0, Y, false) := by unfold appRes; rw [if_neg (by simp), if_neg (by simp [hYl])]; simp [keptOf]
      rw [e6] at he hL6
      subst he
      have f6 : Chg (w.heap.size ≤ ·) w w6 := f5.trans (hc6.mono fun k _ h => Nat.le_trans hge (foot_ge hL5 k h))
      have hB6 : p ≤ w6.heap.size := Nat.le_trans hB5 hc6.size
      clear hL5 hc6 f5 hB5 e6
      go_wp2_with fail
      refine (len_any p p _ _ Y none false _ hL6).mono ?_
      rw [hYl]
      rintro e w7 ⟨rfl, rfl⟩
      go_wp2_with fail
      refine (arm_any p p _ _ Y none false 4611686018427387904 _ hL6 hB6 (by decide)).mono ?_
      rintro e w7 ⟨fv7, he, hL7, hc7, -⟩
      simp at he hL7
      subst he
      have f7 : Chg (w.heap.size ≤ ·) w w7 := f6.trans (hc7.mono fun k _ h => by subst h; exact hge)
      have hB7 : p ≤ w7.heap.size := Nat.le_trans hB6 hc7.size
      clear hL6 hc7 f6 hB6
      go_wp2_with fail
      refine (append_lit [1] p p _ _ Y (some 4611686018427387904) false _ hL7 hB7 (by decide)).mono ?_
      rintro e w8 ⟨sv8, he, hL8, hc8, -⟩
      have e8 : appRes Y (some 4611686018427387904) false [1] = (5, Y, false) := by unfold appRes; rw [if_neg (by simp), if_pos (by simp [hYl])]
      rw [e8] at he hL8
      subst he
      have f8 : Chg (w.heap.size ≤ ·) w w8 := f7.trans (hc8.mono fun k _ h => Nat.le_trans hge (foot_ge hL7 k h))
      have hB8 : p ≤ w8.heap.size := Nat.le_trans hB7 hc8.size
      clear hL7 hc8 f7 hB7 e8
      go_wp2_with fail
      refine (dead_any p p _ _ Y _ false _ hL8).mono ?_
      rintro e w9 ⟨rfl, rfl⟩
      go_wp2_with fail
      refine (append_any p p _ _ (.slice none 0 0) Y [] (some 4611686018427387904) false _ hL8 (Rd.mk' rfl (Nat.le_refl _) (fun _ => rfl) fun _ h => by cases h) (fun _ h => by simp [Value.ownBlock] at h) (by simp) hB8).mono ?_
      rintro e w9 ⟨sv9, he, hL9, hc9, -⟩
      have e9 : appRes Y (some 4611686018427387904) false [] = (190, Y, true) := by unfold appRes; rw [if_neg (by simp), if_neg (by simp [hYl])]; simp
      rw [e9] at he hL9
      subst he
      have f9 : Chg (w.heap.size ≤ ·) w w9 := f8.trans (hc9.mono fun k _ h => Nat.le_trans hge (foot_ge hL8 k h))
      clear hL8 hc9 f8 hB8 e9
      go_wp2_with fail
      refine (dead_any p p _ _ Y _ true _ hL9).mono ?_
      rintro e w10 ⟨rfl, rfl⟩
      clear hL9
      go_wp2_with fail
      have hs9 := f9.size
      have hce := heap_alloc_new w9 (.cells ends7 3)
      have hcz := f9.alloc (.cells ends7 3)
      unfold ends7 at hce hcz
      generalize w9.alloc _ = WA at hce hcz ⊢
      generalize w9.heap.size = g at hce hs9 ⊢
      clear f9
      go_loopw [6, 7] (fun v i wr => DosRel w g ends7 v i wr) (fun _ i _ => 7 - (intOf i).toNat)
      case atStart => exact ⟨0, [], rfl, by omega, World.ownsRow_nil _ _ _ _, (fun j h => by omega), hce, hcz⟩
      case round =>
        clear hce hcz
        obtain ⟨k, xs, rfl, hk, ho, hD, hce, hcz⟩ := hrel
        by_cases hlt : k < 7
        · obtain ⟨n, hn, hn1, hn2⟩ := ends_at k hlt
          have hcell := cell_of_heap (j := k) hce hn
          have b0 : (0 : Int) ≤ (k : Int) := by omega
          have b1 : (k : Int) < 7 := by omega
          have b2 : IntKind.u8.wrap (k : Int) = (k : Int) := by rw [IntKind.wrap_u8]; omega
          obtain ⟨va, vc, rfl, -⟩ := Rd.of_own ho
          obtain ⟨i0, hi, hz0, hz1, hz2⟩ := info_parts Try.infoDo
          have hl := ho.1
          have HO := Go.Lib.hid ho; clear ho
          have HD := Go.Lib.hid hD; clear hD
          have HE := Go.Lib.hid hce; clear hce
          have HZ := Go.Lib.hid hcz; clear hcz
          go_wp2_with fail
          have hB : w.heap.size ≤ wr.heap.size := HZ.out.size
          have hrow := HO.out
          have hgn : ∀ b, (Value.slice va (k * 5) vc).ownBlock = some b → b ≠ g := fun b hb e => by
            subst e
            rcases HO.out.2 with ⟨hv, _⟩ | ⟨q, cap, cur, hv, _, hq, _⟩
            · rw [hv] at hb; simp [Value.ownBlock] at hb
            · rw [hv] at hb; simp [Value.ownBlock] at hb; subst hb
              exact ne_of_heap hq HE.out (by decide) rfl
          go_region_held3 (fun w' => w'.cell? ⟨g, k, none⟩ = some (.int .i64 n)) (first | assumption | exact al1 hcell | exact al1 (al1 hcell) | exact al1 (al1 (al1 hcell)) | go_keep) ((refine step_append_rd rfl _ _ _ rfl w.heap.size 29 i0 _ 3 40 Try.underlying22 hi hz0 hz1 hz2 rfl (by decide) (.slice va (k * 5) vc) _ xs rfl (((World.ownsRow.alloc (World.ownsRow.alloc (World.ownsRow.alloc hrow _) _) _))) _ 5 _ rfl (rd_new _ _ _ _ 3 5 rfl (by simp)) (by simp [Value.oneCell']) (by unfold maxLen; omega) (by omega) (by simp; omega) ?_; intro v1 w3 ho1 hg1 hi1 hfr1; have q0 : w3.cell? ⟨g, k, none⟩ = some (.int .i64 n) := ((Chg.refl (fun b => (Value.slice va (k * 5) vc).ownBlock = some b) _).grown hg1 (fun b h _ => h)).cell (by assumption) (fun h => hgn _ h rfl); obtain ⟨va3, vc3, rfl, -⟩ := Rd.of_own ho1))
          all_goals
            go_wp2
            go_roundw
            case rel =>
              have hi : IntKind.i64.wrap ((k : Int) + 1) = ((k + 1 : Nat) : Int) := by rw [IntWalk.i64_in _ (by omega)]; simp
              first | rw [hi] | skip
              first | exact dos_close hlt HO.out HD.out HE.out HZ.out ((((Chg.refl No wr).alloc _).alloc _).alloc _).drew hg1 (heap3b _ _ _ _) (heap3a _ _ _ _) hn1 hn2 ho1 | exact dos_close hlt HO.out HD.out HE.out HZ.out ((((Chg.refl No wr).alloc _).alloc _).alloc _).drew hg1 (heap3a _ _ _ _) (heap3b _ _ _ _) hn1 hn2 ho1
            case measure => simp [intOf]; omega
        · obtain rfl : k = 7 := by omega
          clear hce
          obtain ⟨va, vc, rfl, -⟩ := Rd.of_own ho
          have hC := calls_row ho hD
          clear ho hD
          go_wp2_with fail
          refine (works_any _).mono ?_
          rintro e w11 ⟨rfl, hc11⟩
          have hC' := CallsIn.fr hC hc11
          have f11 := hcz.trans (hc11.mono fun _ _ h => h.elim)
          clear hC hc11 hcz
          go_wp2_with fail
          refine (plays_any _ _ _ _ hC' (by omega)).mono ?_
          rintro e w12 ⟨rfl, hc12⟩
          go_wp2
          go_ret
          refine ⟨rfl, (f11.trans (hc12.mono fun _ _ h => h.elim)).mono fun k hk h => by omega⟩
end Go.Proofs.Ytgjllhdbkdcofaa
