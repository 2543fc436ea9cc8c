/- snap.each at its pairs of types (printed by genk.py). -/
import Derived.Test.YthpmgnbehahkfaaGreatJZj
set_option linter.unusedSimpArgs false
set_option linter.unusedVariables false
namespace Go.Proofs.YthpmgnbehahkfaaGreat
open Go.RowKit Go.Dk

theorem Tryz.infoStrNode : (Tryz.prog.info? 9).map (fun i => (i.zero, i.size, i.bytes)) = some (some (.string ⟨#[]⟩), 1, 16) := by kernel_rfl

set_option maxRecDepth 100000 in
set_option maxHeartbeats 1000000 in
theorem eachNodeStr_any (g : Nat) (cap : Array Value) (eg : Enters Tryz.prog g) (out : Nat → ByteArray) (v : Value) (l : Lst NodeD) (lv tv : Nat → Value) (w : World) (hx : NodesAt w v l lv tv)
    (hp : ∀ k, k < l.n → ∀ w', Chg No w w' → Gives g (#[.agg ((l.el k).cells (lv k) (tv k)).toArray] ++ cap) w' (.string (out k))) :
    Calls Tryz.prog 185 #[v, .func (.func g) #[] cap] w fun e w' => ∃ a' c', e = .returned (.slice a' l.n c') ∧ Sl w' a' l.n c' 1 (fun k => [.string (out k)]) ∧ Chg No w w' ∧ ∀ ad, a' = some ad → w.heap.size ≤ ad.block := by
  obtain ⟨hn, a, c, rfl, hx, hat⟩ := hx
  obtain ⟨i0, hi, hz0, hz1, hz2⟩ := info_parts Tryz.infoStrNode
  have hmk : ∀ k, ([.string (out k)] : List Value).length = 1 := fun k => rfl
  go_enter Tryz.func185, Tryz.ntmps185
  go_wp2_with (at_make; refine wpList_make_own _ rfl _ _ 29 rfl w.heap.size 9 i0 (.string ⟨#[]⟩) 1 Tryz.underlying29 hi hz0 hz1 .i64 .i64 _ l.n rfl rfl rfl (by rw [hz2]; omega) (by unfold maxLen; omega) (Nat.le_refl _) ?_; intro w0 hown0 hgrow0)
  go_loopw [5, 13] (fun v i wr => EachRel w 9 1 l.n (fun k => [.string (out k)]) v i wr) (fun _ i _ => l.n - (intOf i).toNat)
  case atStart => exact ⟨0, rfl, by omega, hown0, (Chg.refl _ _).grown hgrow0 (fun k h => by cases h)⟩
  case round =>
    obtain ⟨k, rfl, hk, hown, hc⟩ := hrel
    have hsz := hc.size
    by_cases hlt : k < l.n
    · obtain ⟨hl, b, o, rfl, hcell⟩ := (hx.no hc).2.2.2 k hlt
      have hcall := fun W (h : Chg No wr W) => hp k hlt W (hc.trans h)
      obtain ⟨-, ⟨la, lc, hlv, -⟩, ⟨ta, tc, htv, -⟩⟩ := hat k hlt
      unfold NodeD.cells at hcell hcall
      dsimp only at hcell
      rw [hlv, htv] at hcell hcall
      have q0 := hcell 0 _ rfl
      have q1 := hcell 1 _ rfl
      have q2 := hcell 2 _ rfl
      have q3 := hcell 3 _ rfl
      have q4 := hcell 4 _ rfl
      have q5 := hcell 5 _ rfl
      have q6 := hcell 6 _ rfl
      have q7 := hcell 7 _ rfl
      have q8 := hcell 8 _ rfl
      have q9 := hcell 9 _ rfl
      rw [Nat.add_zero] at q0
      clear hcell hl hx hp hat
      have hlt' : (k : Int) < (l.n : Int) := by omega
      have heg : ∀ args w, (callFunc g args).run Tryz.prog w = .ok (.enter g args) w := eg
      obtain ⟨va, vc, rfl, -⟩ := Rd.of_own hown
      go_wp2_with (first
        | (go_at_fn g; refine (hcall _ ((Chg.refl No wr).alloc _)).mono ?_; rintro e w2 ⟨rfl, hc2⟩)
        | (at_builtin; refine wpList_append_rd _ rfl _ _ _ rfl w.heap.size 9 i0 _ 1 16 Tryz.underlying29 hi hz0 hz1 hz2 rfl (by decide) (.slice va k vc) _ _ rfl ((hc2.own (hown.alloc _) (fun _ _ => id)).alloc _) _ 1 ([.string (out k)]) rfl (rd_new _ _ _ _ 1 1 rfl rfl) (by simp [Value.oneCell']) (by unfold maxLen; omega) (by omega) (by have := hc2.size; simp at this ⊢; omega) ?_; intro v1 w3 ho1 hg1 hi1 hfr1))
      go_roundw
      case rel => exact ⟨k + 1, by go_num, by omega, (by rw [List.range_succ, List.flatMap_append]; simpa using ho1), Chg.grown' (((hc.alloc _).trans hc2).alloc _) hown hg1⟩
      case measure => simp [intOf]; omega
    · obtain rfl : k = l.n := by omega
      obtain ⟨a', c', rfl, hs, hf⟩ := own_sl hown (fun k _ => hmk k)
      go_wp2_with fail
      go_ret
      exact ⟨a', c', rfl, hs, hc, hf⟩

theorem Tryz.infoStrPod : (Tryz.prog.info? 9).map (fun i => (i.zero, i.size, i.bytes)) = some (some (.string ⟨#[]⟩), 1, 16) := by kernel_rfl

set_option maxRecDepth 100000 in
set_option maxHeartbeats 1000000 in
theorem eachPodStr_any (g : Nat) (cap : Array Value) (eg : Enters Tryz.prog g) (out : Nat → ByteArray) (v : Value) (l : Lst PodD) (pv : Nat → PodV) (w : World) (hx : PodsAt w v l pv)
    (hp : ∀ k, k < l.n → ∀ w', Chg No w w' → Gives g (#[.agg ((l.el k).cells (pv k)).toArray] ++ cap) w' (.string (out k))) :
    Calls Tryz.prog 187 #[v, .func (.func g) #[] cap] w fun e w' => ∃ a' c', e = .returned (.slice a' l.n c') ∧ Sl w' a' l.n c' 1 (fun k => [.string (out k)]) ∧ Chg No w w' ∧ ∀ ad, a' = some ad → w.heap.size ≤ ad.block := by
  obtain ⟨hn, a, c, rfl, hx, hat⟩ := hx
  obtain ⟨i0, hi, hz0, hz1, hz2⟩ := info_parts Tryz.infoStrPod
  have hmk : ∀ k, ([.string (out k)] : List Value).length = 1 := fun k => rfl
  go_enter Tryz.func187, Tryz.ntmps187
  go_wp2_with (at_make; refine wpList_make_own _ rfl _ _ 29 rfl w.heap.size 9 i0 (.string ⟨#[]⟩) 1 Tryz.underlying29 hi hz0 hz1 .i64 .i64 _ l.n rfl rfl rfl (by rw [hz2]; omega) (by unfold maxLen; omega) (Nat.le_refl _) ?_; intro w0 hown0 hgrow0)
  go_loopw [5, 13] (fun v i wr => EachRel w 9 1 l.n (fun k => [.string (out k)]) v i wr) (fun _ i _ => l.n - (intOf i).toNat)
  case atStart => exact ⟨0, rfl, by omega, hown0, (Chg.refl _ _).grown hgrow0 (fun k h => by cases h)⟩
  case round =>
    obtain ⟨k, rfl, hk, hown, hc⟩ := hrel
    have hsz := hc.size
    by_cases hlt : k < l.n
    · obtain ⟨hl, b, o, rfl, hcell⟩ := (hx.no hc).2.2.2 k hlt
      have hcall := fun W (h : Chg No wr W) => hp k hlt W (hc.trans h)
      obtain ⟨-, ⟨a1, c1, h1, -⟩, ⟨a2, c2, h2, -⟩, ⟨a3, c3, h3, -⟩, ⟨a4, c4, h4, -⟩, ⟨a5, c5, h5, -⟩⟩ := hat k hlt
      unfold PodD.cells at hcell hcall
      dsimp only at hcell
      rw [h1, h2, h3, h4, h5] at hcell hcall
      have q0 := hcell 0 _ rfl
      have q1 := hcell 1 _ rfl
      have q2 := hcell 2 _ rfl
      have q3 := hcell 3 _ rfl
      have q4 := hcell 4 _ rfl
      have q5 := hcell 5 _ rfl
      have q6 := hcell 6 _ rfl
      have q7 := hcell 7 _ rfl
      have q8 := hcell 8 _ rfl
      have q9 := hcell 9 _ rfl
      have q10 := hcell 10 _ rfl
      have q11 := hcell 11 _ rfl
      have q12 := hcell 12 _ rfl
      have q13 := hcell 13 _ rfl
      have q14 := hcell 14 _ rfl
      rw [Nat.add_zero] at q0
      clear hcell hl hx hp hat
      have hlt' : (k : Int) < (l.n : Int) := by omega
      have heg : ∀ args w, (callFunc g args).run Tryz.prog w = .ok (.enter g args) w := eg
      obtain ⟨va, vc, rfl, -⟩ := Rd.of_own hown
      go_wp2_with (first
        | (go_at_fn g; refine (hcall _ ((Chg.refl No wr).alloc _)).mono ?_; rintro e w2 ⟨rfl, hc2⟩)
        | (at_builtin; refine wpList_append_rd _ rfl _ _ _ rfl w.heap.size 9 i0 _ 1 16 Tryz.underlying29 hi hz0 hz1 hz2 rfl (by decide) (.slice va k vc) _ _ rfl ((hc2.own (hown.alloc _) (fun _ _ => id)).alloc _) _ 1 ([.string (out k)]) rfl (rd_new _ _ _ _ 1 1 rfl rfl) (by simp [Value.oneCell']) (by unfold maxLen; omega) (by omega) (by have := hc2.size; simp at this ⊢; omega) ?_; intro v1 w3 ho1 hg1 hi1 hfr1))
      go_roundw
      case rel => exact ⟨k + 1, by go_num, by omega, (by rw [List.range_succ, List.flatMap_append]; simpa using ho1), Chg.grown' (((hc.alloc _).trans hc2).alloc _) hown hg1⟩
      case measure => simp [intOf]; omega
    · obtain rfl : k = l.n := by omega
      obtain ⟨a', c', rfl, hs, hf⟩ := own_sl hown (fun k _ => hmk k)
      go_wp2_with fail
      go_ret
      exact ⟨a', c', rfl, hs, hc, hf⟩

theorem Tryz.infoStrOwner : (Tryz.prog.info? 9).map (fun i => (i.zero, i.size, i.bytes)) = some (some (.string ⟨#[]⟩), 1, 16) := by kernel_rfl

set_option maxRecDepth 100000 in
set_option maxHeartbeats 1000000 in
theorem eachOwnerStr_any (g : Nat) (cap : Array Value) (eg : Enters Tryz.prog g) (out : Nat → ByteArray) (v : Value) (l : Lst OwnerD) (w : World) (hx : OwnersAt w v l)
    (hp : ∀ k, k < l.n → ∀ w', Chg No w w' → Gives g (#[.agg ((l.el k).cells).toArray] ++ cap) w' (.string (out k))) :
    Calls Tryz.prog 189 #[v, .func (.func g) #[] cap] w fun e w' => ∃ a' c', e = .returned (.slice a' l.n c') ∧ Sl w' a' l.n c' 1 (fun k => [.string (out k)]) ∧ Chg No w w' ∧ ∀ ad, a' = some ad → w.heap.size ≤ ad.block := by
  obtain ⟨hn, a, c, rfl, hx, hat⟩ := hx
  obtain ⟨i0, hi, hz0, hz1, hz2⟩ := info_parts Tryz.infoStrOwner
  have hmk : ∀ k, ([.string (out k)] : List Value).length = 1 := fun k => rfl
  go_enter Tryz.func189, Tryz.ntmps189
  go_wp2_with (at_make; refine wpList_make_own _ rfl _ _ 29 rfl w.heap.size 9 i0 (.string ⟨#[]⟩) 1 Tryz.underlying29 hi hz0 hz1 .i64 .i64 _ l.n rfl rfl rfl (by rw [hz2]; omega) (by unfold maxLen; omega) (Nat.le_refl _) ?_; intro w0 hown0 hgrow0)
  go_loopw [5, 13] (fun v i wr => EachRel w 9 1 l.n (fun k => [.string (out k)]) v i wr) (fun _ i _ => l.n - (intOf i).toNat)
  case atStart => exact ⟨0, rfl, by omega, hown0, (Chg.refl _ _).grown hgrow0 (fun k h => by cases h)⟩
  case round =>
    obtain ⟨k, rfl, hk, hown, hc⟩ := hrel
    have hsz := hc.size
    by_cases hlt : k < l.n
    · obtain ⟨hl, b, o, rfl, hcell⟩ := (hx.no hc).2.2.2 k hlt
      have hcall := fun W (h : Chg No wr W) => hp k hlt W (hc.trans h)
      unfold OwnerD.cells at hcell hcall
      have q0 := hcell 0 _ rfl
      have q1 := hcell 1 _ rfl
      have q2 := hcell 2 _ rfl
      have q3 := hcell 3 _ rfl
      have q4 := hcell 4 _ rfl
      rw [Nat.add_zero] at q0
      clear hcell hl hx hp hat
      have hlt' : (k : Int) < (l.n : Int) := by omega
      have heg : ∀ args w, (callFunc g args).run Tryz.prog w = .ok (.enter g args) w := eg
      obtain ⟨va, vc, rfl, -⟩ := Rd.of_own hown
      go_wp2_with (first
        | (go_at_fn g; refine (hcall _ ((Chg.refl No wr).alloc _)).mono ?_; rintro e w2 ⟨rfl, hc2⟩)
        | (at_builtin; refine wpList_append_rd _ rfl _ _ _ rfl w.heap.size 9 i0 _ 1 16 Tryz.underlying29 hi hz0 hz1 hz2 rfl (by decide) (.slice va k vc) _ _ rfl ((hc2.own (hown.alloc _) (fun _ _ => id)).alloc _) _ 1 ([.string (out k)]) rfl (rd_new _ _ _ _ 1 1 rfl rfl) (by simp [Value.oneCell']) (by unfold maxLen; omega) (by omega) (by have := hc2.size; simp at this ⊢; omega) ?_; intro v1 w3 ho1 hg1 hi1 hfr1))
      go_roundw
      case rel => exact ⟨k + 1, by go_num, by omega, (by rw [List.range_succ, List.flatMap_append]; simpa using ho1), Chg.grown' (((hc.alloc _).trans hc2).alloc _) hown hg1⟩
      case measure => simp [intOf]; omega
    · obtain rfl : k = l.n := by omega
      obtain ⟨a', c', rfl, hs, hf⟩ := own_sl hown (fun k _ => hmk k)
      go_wp2_with fail
      go_ret
      exact ⟨a', c', rfl, hs, hc, hf⟩

theorem Tryz.infoVecNode : (Tryz.prog.info? 58).map (fun i => (i.zero, i.size, i.bytes)) = some (some (.agg #[.int .i64 0, .int .i64 0, .int .i64 0, .int .i64 0, .int .i64 0]), 5, 40) := by kernel_rfl

set_option maxRecDepth 100000 in
set_option maxHeartbeats 1000000 in
theorem eachNodeVec_any (g : Nat) (cap : Array Value) (eg : Enters Tryz.prog g) (out : Nat → Nat → Int) (v : Value) (l : Lst NodeD) (lv tv : Nat → Value) (w : World) (hx : NodesAt w v l lv tv)
    (hp : ∀ k, k < l.n → ∀ w', Chg No w w' → Gives g (#[.agg ((l.el k).cells (lv k) (tv k)).toArray] ++ cap) w' (.agg #[.int .i64 (out k 0), .int .i64 (out k 1), .int .i64 (out k 2), .int .i64 (out k 3), .int .i64 (out k 4)])) :
    Calls Tryz.prog 137 #[v, .func (.func g) #[] cap] w fun e w' => ∃ a' c', e = .returned (.slice a' l.n c') ∧ Sl w' a' l.n c' 5 (fun k => [.int .i64 (out k 0), .int .i64 (out k 1), .int .i64 (out k 2), .int .i64 (out k 3), .int .i64 (out k 4)]) ∧ Chg No w w' ∧ ∀ ad, a' = some ad → w.heap.size ≤ ad.block := by
  obtain ⟨hn, a, c, rfl, hx, hat⟩ := hx
  obtain ⟨i0, hi, hz0, hz1, hz2⟩ := info_parts Tryz.infoVecNode
  have hmk : ∀ k, ([.int .i64 (out k 0), .int .i64 (out k 1), .int .i64 (out k 2), .int .i64 (out k 3), .int .i64 (out k 4)] : List Value).length = 5 := fun k => rfl
  go_enter Tryz.func137, Tryz.ntmps137
  go_wp2_with (at_make; refine wpList_make_own _ rfl _ _ 169 rfl w.heap.size 58 i0 (.agg #[.int .i64 0, .int .i64 0, .int .i64 0, .int .i64 0, .int .i64 0]) 5 Tryz.underlying169 hi hz0 hz1 .i64 .i64 _ l.n rfl rfl rfl (by rw [hz2]; omega) (by unfold maxLen; omega) (Nat.le_refl _) ?_; intro w0 hown0 hgrow0)
  go_loopw [5, 13] (fun v i wr => EachRel w 58 5 l.n (fun k => [.int .i64 (out k 0), .int .i64 (out k 1), .int .i64 (out k 2), .int .i64 (out k 3), .int .i64 (out k 4)]) v i wr) (fun _ i _ => l.n - (intOf i).toNat)
  case atStart => exact ⟨0, rfl, by omega, hown0, (Chg.refl _ _).grown hgrow0 (fun k h => by cases h)⟩
  case round =>
    obtain ⟨k, rfl, hk, hown, hc⟩ := hrel
    have hsz := hc.size
    by_cases hlt : k < l.n
    · obtain ⟨hl, b, o, rfl, hcell⟩ := (hx.no hc).2.2.2 k hlt
      have hcall := fun W (h : Chg No wr W) => hp k hlt W (hc.trans h)
      obtain ⟨-, ⟨la, lc, hlv, -⟩, ⟨ta, tc, htv, -⟩⟩ := hat k hlt
      unfold NodeD.cells at hcell hcall
      dsimp only at hcell
      rw [hlv, htv] at hcell hcall
      have q0 := hcell 0 _ rfl
      have q1 := hcell 1 _ rfl
      have q2 := hcell 2 _ rfl
      have q3 := hcell 3 _ rfl
      have q4 := hcell 4 _ rfl
      have q5 := hcell 5 _ rfl
      have q6 := hcell 6 _ rfl
      have q7 := hcell 7 _ rfl
      have q8 := hcell 8 _ rfl
      have q9 := hcell 9 _ rfl
      rw [Nat.add_zero] at q0
      clear hcell hl hx hp hat
      have hlt' : (k : Int) < (l.n : Int) := by omega
      have heg : ∀ args w, (callFunc g args).run Tryz.prog w = .ok (.enter g args) w := eg
      obtain ⟨va, vc, rfl, -⟩ := Rd.of_own hown
      go_wp2_with (first
        | (go_at_fn g; refine (hcall _ ((Chg.refl No wr).alloc _)).mono ?_; rintro e w2 ⟨rfl, hc2⟩)
        | (at_builtin; refine wpList_append_rd _ rfl _ _ _ rfl w.heap.size 58 i0 _ 5 40 Tryz.underlying169 hi hz0 hz1 hz2 rfl (by decide) (.slice va k vc) _ _ rfl ((hc2.own (hown.alloc _) (fun _ _ => id)).alloc _) _ 1 ([.int .i64 (out k 0), .int .i64 (out k 1), .int .i64 (out k 2), .int .i64 (out k 3), .int .i64 (out k 4)]) rfl (rd_new _ _ _ _ 5 1 rfl rfl) (by simp [Value.oneCell']) (by unfold maxLen; omega) (by omega) (by have := hc2.size; simp at this ⊢; omega) ?_; intro v1 w3 ho1 hg1 hi1 hfr1))
      go_roundw
      case rel => exact ⟨k + 1, by go_num, by omega, (by rw [List.range_succ, List.flatMap_append]; simpa using ho1), Chg.grown' (((hc.alloc _).trans hc2).alloc _) hown hg1⟩
      case measure => simp [intOf]; omega
    · obtain rfl : k = l.n := by omega
      obtain ⟨a', c', rfl, hs, hf⟩ := own_sl hown (fun k _ => hmk k)
      go_wp2_with fail
      go_ret
      exact ⟨a', c', rfl, hs, hc, hf⟩

theorem Tryz.infoVecPod : (Tryz.prog.info? 58).map (fun i => (i.zero, i.size, i.bytes)) = some (some (.agg #[.int .i64 0, .int .i64 0, .int .i64 0, .int .i64 0, .int .i64 0]), 5, 40) := by kernel_rfl

set_option maxRecDepth 100000 in
set_option maxHeartbeats 1000000 in
theorem eachPodVec_any (g : Nat) (cap : Array Value) (eg : Enters Tryz.prog g) (out : Nat → Nat → Int) (v : Value) (l : Lst PodD) (pv : Nat → PodV) (w : World) (hx : PodsAt w v l pv)
    (hp : ∀ k, k < l.n → ∀ w', Chg No w w' → Gives g (#[.agg ((l.el k).cells (pv k)).toArray] ++ cap) w' (.agg #[.int .i64 (out k 0), .int .i64 (out k 1), .int .i64 (out k 2), .int .i64 (out k 3), .int .i64 (out k 4)])) :
    Calls Tryz.prog 139 #[v, .func (.func g) #[] cap] w fun e w' => ∃ a' c', e = .returned (.slice a' l.n c') ∧ Sl w' a' l.n c' 5 (fun k => [.int .i64 (out k 0), .int .i64 (out k 1), .int .i64 (out k 2), .int .i64 (out k 3), .int .i64 (out k 4)]) ∧ Chg No w w' ∧ ∀ ad, a' = some ad → w.heap.size ≤ ad.block := by
  obtain ⟨hn, a, c, rfl, hx, hat⟩ := hx
  obtain ⟨i0, hi, hz0, hz1, hz2⟩ := info_parts Tryz.infoVecPod
  have hmk : ∀ k, ([.int .i64 (out k 0), .int .i64 (out k 1), .int .i64 (out k 2), .int .i64 (out k 3), .int .i64 (out k 4)] : List Value).length = 5 := fun k => rfl
  go_enter Tryz.func139, Tryz.ntmps139
  go_wp2_with (at_make; refine wpList_make_own _ rfl _ _ 169 rfl w.heap.size 58 i0 (.agg #[.int .i64 0, .int .i64 0, .int .i64 0, .int .i64 0, .int .i64 0]) 5 Tryz.underlying169 hi hz0 hz1 .i64 .i64 _ l.n rfl rfl rfl (by rw [hz2]; omega) (by unfold maxLen; omega) (Nat.le_refl _) ?_; intro w0 hown0 hgrow0)
  go_loopw [5, 13] (fun v i wr => EachRel w 58 5 l.n (fun k => [.int .i64 (out k 0), .int .i64 (out k 1), .int .i64 (out k 2), .int .i64 (out k 3), .int .i64 (out k 4)]) v i wr) (fun _ i _ => l.n - (intOf i).toNat)
  case atStart => exact ⟨0, rfl, by omega, hown0, (Chg.refl _ _).grown hgrow0 (fun k h => by cases h)⟩
  case round =>
    obtain ⟨k, rfl, hk, hown, hc⟩ := hrel
    have hsz := hc.size
    by_cases hlt : k < l.n
    · obtain ⟨hl, b, o, rfl, hcell⟩ := (hx.no hc).2.2.2 k hlt
      have hcall := fun W (h : Chg No wr W) => hp k hlt W (hc.trans h)
      obtain ⟨-, ⟨a1, c1, h1, -⟩, ⟨a2, c2, h2, -⟩, ⟨a3, c3, h3, -⟩, ⟨a4, c4, h4, -⟩, ⟨a5, c5, h5, -⟩⟩ := hat k hlt
      unfold PodD.cells at hcell hcall
      dsimp only at hcell
      rw [h1, h2, h3, h4, h5] at hcell hcall
      have q0 := hcell 0 _ rfl
      have q1 := hcell 1 _ rfl
      have q2 := hcell 2 _ rfl
      have q3 := hcell 3 _ rfl
      have q4 := hcell 4 _ rfl
      have q5 := hcell 5 _ rfl
      have q6 := hcell 6 _ rfl
      have q7 := hcell 7 _ rfl
      have q8 := hcell 8 _ rfl
      have q9 := hcell 9 _ rfl
      have q10 := hcell 10 _ rfl
      have q11 := hcell 11 _ rfl
      have q12 := hcell 12 _ rfl
      have q13 := hcell 13 _ rfl
      have q14 := hcell 14 _ rfl
      rw [Nat.add_zero] at q0
      clear hcell hl hx hp hat
      have hlt' : (k : Int) < (l.n : Int) := by omega
      have heg : ∀ args w, (callFunc g args).run Tryz.prog w = .ok (.enter g args) w := eg
      obtain ⟨va, vc, rfl, -⟩ := Rd.of_own hown
      go_wp2_with (first
        | (go_at_fn g; refine (hcall _ ((Chg.refl No wr).alloc _)).mono ?_; rintro e w2 ⟨rfl, hc2⟩)
        | (at_builtin; refine wpList_append_rd _ rfl _ _ _ rfl w.heap.size 58 i0 _ 5 40 Tryz.underlying169 hi hz0 hz1 hz2 rfl (by decide) (.slice va k vc) _ _ rfl ((hc2.own (hown.alloc _) (fun _ _ => id)).alloc _) _ 1 ([.int .i64 (out k 0), .int .i64 (out k 1), .int .i64 (out k 2), .int .i64 (out k 3), .int .i64 (out k 4)]) rfl (rd_new _ _ _ _ 5 1 rfl rfl) (by simp [Value.oneCell']) (by unfold maxLen; omega) (by omega) (by have := hc2.size; simp at this ⊢; omega) ?_; intro v1 w3 ho1 hg1 hi1 hfr1))
      go_roundw
      case rel => exact ⟨k + 1, by go_num, by omega, (by rw [List.range_succ, List.flatMap_append]; simpa using ho1), Chg.grown' (((hc.alloc _).trans hc2).alloc _) hown hg1⟩
      case measure => simp [intOf]; omega
    · obtain rfl : k = l.n := by omega
      obtain ⟨a', c', rfl, hs, hf⟩ := own_sl hown (fun k _ => hmk k)
      go_wp2_with fail
      go_ret
      exact ⟨a', c', rfl, hs, hc, hf⟩

theorem Tryz.infoIntPod : (Tryz.prog.info? 3).map (fun i => (i.zero, i.size, i.bytes)) = some (some (.int .i64 0), 1, 8) := by kernel_rfl

set_option maxRecDepth 100000 in
set_option maxHeartbeats 1000000 in
theorem eachPodInt_any (g : Nat) (cap : Array Value) (eg : Enters Tryz.prog g) (out : Nat → Int) (v : Value) (l : Lst PodD) (pv : Nat → PodV) (w : World) (hx : PodsAt w v l pv)
    (hp : ∀ k, k < l.n → ∀ w', Chg No w w' → Gives g (#[.agg ((l.el k).cells (pv k)).toArray] ++ cap) w' (.int .i64 (out k))) :
    Calls Tryz.prog 147 #[v, .func (.func g) #[] cap] w fun e w' => ∃ a' c', e = .returned (.slice a' l.n c') ∧ Sl w' a' l.n c' 1 (fun k => [.int .i64 (out k)]) ∧ Chg No w w' ∧ ∀ ad, a' = some ad → w.heap.size ≤ ad.block := by
  obtain ⟨hn, a, c, rfl, hx, hat⟩ := hx
  obtain ⟨i0, hi, hz0, hz1, hz2⟩ := info_parts Tryz.infoIntPod
  have hmk : ∀ k, ([.int .i64 (out k)] : List Value).length = 1 := fun k => rfl
  go_enter Tryz.func147, Tryz.ntmps147
  go_wp2_with (at_make; refine wpList_make_own _ rfl _ _ 27 rfl w.heap.size 3 i0 (.int .i64 0) 1 Tryz.underlying27 hi hz0 hz1 .i64 .i64 _ l.n rfl rfl rfl (by rw [hz2]; omega) (by unfold maxLen; omega) (Nat.le_refl _) ?_; intro w0 hown0 hgrow0)
  go_loopw [5, 13] (fun v i wr => EachRel w 3 1 l.n (fun k => [.int .i64 (out k)]) v i wr) (fun _ i _ => l.n - (intOf i).toNat)
  case atStart => exact ⟨0, rfl, by omega, hown0, (Chg.refl _ _).grown hgrow0 (fun k h => by cases h)⟩
  case round =>
    obtain ⟨k, rfl, hk, hown, hc⟩ := hrel
    have hsz := hc.size
    by_cases hlt : k < l.n
    · obtain ⟨hl, b, o, rfl, hcell⟩ := (hx.no hc).2.2.2 k hlt
      have hcall := fun W (h : Chg No wr W) => hp k hlt W (hc.trans h)
      obtain ⟨-, ⟨a1, c1, h1, -⟩, ⟨a2, c2, h2, -⟩, ⟨a3, c3, h3, -⟩, ⟨a4, c4, h4, -⟩, ⟨a5, c5, h5, -⟩⟩ := hat k hlt
      unfold PodD.cells at hcell hcall
      dsimp only at hcell
      rw [h1, h2, h3, h4, h5] at hcell hcall
      have q0 := hcell 0 _ rfl
      have q1 := hcell 1 _ rfl
      have q2 := hcell 2 _ rfl
      have q3 := hcell 3 _ rfl
      have q4 := hcell 4 _ rfl
      have q5 := hcell 5 _ rfl
      have q6 := hcell 6 _ rfl
      have q7 := hcell 7 _ rfl
      have q8 := hcell 8 _ rfl
      have q9 := hcell 9 _ rfl
      have q10 := hcell 10 _ rfl
      have q11 := hcell 11 _ rfl
      have q12 := hcell 12 _ rfl
      have q13 := hcell 13 _ rfl
      have q14 := hcell 14 _ rfl
      rw [Nat.add_zero] at q0
      clear hcell hl hx hp hat
      have hlt' : (k : Int) < (l.n : Int) := by omega
      have heg : ∀ args w, (callFunc g args).run Tryz.prog w = .ok (.enter g args) w := eg
      obtain ⟨va, vc, rfl, -⟩ := Rd.of_own hown
      go_wp2_with (first
        | (go_at_fn g; refine (hcall _ ((Chg.refl No wr).alloc _)).mono ?_; rintro e w2 ⟨rfl, hc2⟩)
        | (at_builtin; refine wpList_append_rd _ rfl _ _ _ rfl w.heap.size 3 i0 _ 1 8 Tryz.underlying27 hi hz0 hz1 hz2 rfl (by decide) (.slice va k vc) _ _ rfl ((hc2.own (hown.alloc _) (fun _ _ => id)).alloc _) _ 1 ([.int .i64 (out k)]) rfl (rd_new _ _ _ _ 1 1 rfl rfl) (by simp [Value.oneCell']) (by unfold maxLen; omega) (by omega) (by have := hc2.size; simp at this ⊢; omega) ?_; intro v1 w3 ho1 hg1 hi1 hfr1))
      go_roundw
      case rel => exact ⟨k + 1, by go_num, by omega, (by rw [List.range_succ, List.flatMap_append]; simpa using ho1), Chg.grown' (((hc.alloc _).trans hc2).alloc _) hown hg1⟩
      case measure => simp [intOf]; omega
    · obtain rfl : k = l.n := by omega
      obtain ⟨a', c', rfl, hs, hf⟩ := own_sl hown (fun k _ => hmk k)
      go_wp2_with fail
      go_ret
      exact ⟨a', c', rfl, hs, hc, hf⟩

end Go.Proofs.YthpmgnbehahkfaaGreat
