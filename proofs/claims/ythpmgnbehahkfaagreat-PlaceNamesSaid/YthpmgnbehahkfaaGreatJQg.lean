/- Sums: quant.Add, drayageref01.Add. -/
/- Sums of rows: vec.Plus, drayageref02.Plus. -/
/- vec.Plus, drayageref02.Plus. -/
import Derived.Test.YthpmgnbehahkfaaGreatJZj
import Derived.Handy
set_option linter.unusedSimpArgs false
set_option linter.unusedVariables false
section
namespace Go.Proofs.YthpmgnbehahkfaaGreat
open Go.RowKit Go.Dk

def sumF (g : Nat → Int) : Nat → Int
  | 0 => 0
  | k + 1 => sumF g k + g k
def addE (g : Nat → Int) (n : Nat) : Int := if sumF g n ≤ 1099511627776 then 0 else 10
def addV (g : Nat → Int) (n : Nat) : Int := if sumF g n ≤ 1099511627776 then sumF g n else 0
theorem sumF_nonneg {g : Nat → Int} {n : Nat} (h : ∀ k, k < n → 0 ≤ g k) : ∀ k, k ≤ n → 0 ≤ sumF g k
  | 0, _ => Int.le_refl _
  | k + 1, hk => by have := sumF_nonneg h k (by omega); have := h k (by omega); simp only [sumF]; omega
theorem sumF_mono {g : Nat → Int} {n : Nat} (h : ∀ k, k < n → 0 ≤ g k) {k : Nat} : ∀ m, k ≤ m → m ≤ n → sumF g k ≤ sumF g m
  | 0, hk, _ => by
    have h0 : k = 0 := by omega
    subst h0
    exact Int.le_refl _
  | m + 1, hk, hm => by
    rcases Nat.lt_or_eq_of_le hk with h1 | h1
    · have := sumF_mono h m (Nat.le_of_lt_succ h1) (by omega); have := h m (by omega); simp only [sumF]; omega
    · subst h1; exact Int.le_refl _
theorem addE_big {g : Nat → Int} {n k : Nat} (h : ∀ k, k < n → 0 ≤ g k) (hk : k < n) (hb : 1099511627776 < sumF g k + g k) : addE g n = 10 ∧ addV g n = 0 := by
  have := sumF_mono h n (show k + 1 ≤ n by omega) (Nat.le_refl _)
  simp only [sumF] at this
  unfold addE addV
  rw [if_neg (by omega), if_neg (by omega)]
  exact ⟨rfl, rfl⟩

theorem below_any (n : Int) (w : World) : Gives 214 #[.int .i64 n] w (.bool (decide (n < 0))) := by
  unfold Gives
  go_enter Tryz.func214, Tryz.ntmps214
  go_wp2
  go_ret
  exact ⟨rfl, Chg.refl _ _⟩
theorem above_any (n : Int) (w : World) : Gives 215 #[.int .i64 n] w (.bool (decide (1099511627776 < n))) := by
  unfold Gives
  go_enter Tryz.func215, Tryz.ntmps215
  go_wp2
  go_ret
  exact ⟨rfl, Chg.refl _ _⟩
theorem enters_below : Enters Tryz.prog 214 := enters_of Tryz.func214 (by kernel_rfl) rfl
theorem enters_above : Enters Tryz.prog 215 := enters_of Tryz.func215 (by kernel_rfl) rfl

theorem flat1' (g : Nat → Value) (n : Nat) : ∀ (k : Nat) (x : Value), ((List.range n).flatMap fun k => [g k])[k]? = some x → k < n ∧ x = g k := by
  intro k x h
  obtain ⟨k', j, hk', e, hj⟩ := (flat_at (fun k => [g k]) n 1 (fun _ _ => rfl)).2 k x h
  have hj0 : j = 0 := by have := (List.getElem?_eq_some_iff.1 hj).1; simp at this; omega
  subst hj0
  simp at hj
  have : k = k' := by omega
  subst this
  exact ⟨hk', hj.symm⟩
theorem anyB_false {p : Nat → Bool} {n : Nat} (h : ∀ k, k < n → p k = false) : anyB p n = false := by
  unfold anyB; rw [decide_eq_false_iff_not]; rintro ⟨k, hk, h2⟩; rw [h k hk] at h2; cases h2

/-- numbers that may be -/
def Fine (g : Nat → Int) (n : Nat) : Prop := ∀ k, k < n → 0 ≤ g k ∧ g k ≤ 1099511627776

theorem checked_any (g : Nat → Int) (a : Option Addr) (n c : Nat) (w : World) (hx : Sl w a n c 1 (fun k => [.int .i64 (g k)])) (hn : n ≤ 1048576) (hf : Fine g n) :
    Gives 170 #[.slice a n c] w (.int .i64 0) := by
  have p1 := fun W (h : Chg No w W) => contInt_any 214 #[] enters_below (fun k => decide (g k < 0)) a n c _ W (hx.no h).rd (by omega) (fun k x hk w' _ => by
    obtain ⟨hlt, rfl⟩ := flat1' (fun k => .int .i64 (g k)) n k x hk
    simpa using below_any (g k) w')
  have p2 := fun W (h : Chg No w W) => contInt_any 215 #[] enters_above (fun k => decide (1099511627776 < g k)) a n c _ W (hx.no h).rd (by omega) (fun k x hk w' _ => by
    obtain ⟨hlt, rfl⟩ := flat1' (fun k => .int .i64 (g k)) n k x hk
    simpa using above_any (g k) w')
  rw [anyB_false (fun k hk => by have := hf k hk; simp; omega)] at p1
  rw [anyB_false (fun k hk => by have := hf k hk; simp; omega)] at p2
  clear hx hf
  unfold Gives at *
  go_enter Tryz.func170, Tryz.ntmps170
  go_wp2_with (first
    | (go_at_call 107; refine (p2 _ hc).mono ?_; rintro e w2 ⟨rfl, hc2⟩)
    | (go_at_call 107; refine (p1 _ (Chg.refl _ _)).mono ?_; rintro e w1 ⟨rfl, hc⟩))
  go_ret
  exact ⟨rfl, hc.trans hc2⟩

def AddRel (w : World) (g : Nat → Int) (n : Nat) (s i : Value) (wr : World) : Prop :=
  ∃ k : Nat, i = .int .i64 k ∧ k ≤ n ∧ s = .int .i64 (sumF g k) ∧ sumF g k ≤ 1099511627776 ∧ Chg No w wr

set_option maxHeartbeats 1000000 in
theorem add_any (g : Nat → Int) (a : Option Addr) (n c : Nat) (w : World) (hx : Sl w a n c 1 (fun k => [.int .i64 (g k)])) (hn : n ≤ 1048576) (hf : Fine g n) :
    Gives 179 #[.slice a n c] w (.tuple #[.int .i64 (addV g n), .int .i64 (addE g n)]) := by
  have p1 := checked_any g a n c w hx hn hf
  unfold Gives at *
  go_enter Tryz.func179, Tryz.ntmps179
  go_wp2_with (go_at_call 170; refine p1.mono ?_; rintro e w1 ⟨rfl, hc0⟩)
  go_loopw [2, 14] (fun s i wr => AddRel w g n s i wr) (fun _ i _ => n - (intOf i).toNat)
  case atStart => exact ⟨0, rfl, by omega, rfl, by simp [sumF], hc0⟩
  case round =>
    obtain ⟨k, rfl, hk, rfl, hs, hc⟩ := hrel
    have h0 := sumF_nonneg (fun k hk => (hf k hk).1) k hk
    by_cases hlt : k < n
    · obtain ⟨hl, b, o, rfl, hcell⟩ := (hx.no hc).2.2.2 k hlt
      have q0 := hcell 0 _ rfl
      rw [Nat.add_zero, Nat.mul_one] at q0
      have hfk := hf k hlt
      have hbig := fun h => addE_big (fun k hk => (hf k hk).1) hlt h
      have HB := Go.Lib.hid hbig
      clear hbig hcell hl hx hf
      have hlt' : (k : Int) < (n : Int) := by omega
      have hw : IntKind.i64.wrap (sumF g k + g k) = sumF g k + g k := IntWalk.i64_in _ (by omega)
      have p2 := fun W => above_any (sumF g k + g k) W
      by_cases hb : 1099511627776 < sumF g k + g k
      · rw [decide_eq_true hb] at p2
        unfold Gives at p2
        obtain ⟨e1, e2⟩ := HB.out hb
        have E1 := Go.Lib.hid e1
        have E2 := Go.Lib.hid e2
        clear e1 e2 hb
        go_wp2_with (go_at_call 215; refine (p2 _).mono ?_; rintro e w2 ⟨rfl, hc2⟩)
        go_returns
        rw [E1.out, E2.out]
        exact ⟨rfl, hc.trans hc2⟩
      · rw [decide_eq_false hb] at p2
        unfold Gives at p2
        go_wp2_with (go_at_call 215; refine (p2 _).mono ?_; rintro e w2 ⟨rfl, hc2⟩)
        go_roundw
        case rel => exact ⟨k + 1, by go_num, by omega, rfl, by simp only [sumF]; omega, hc.trans hc2⟩
        case measure => simp [intOf]; omega
    · obtain rfl : k = n := by omega
      have e1 : addE g k = 0 := if_pos hs
      have e2 : addV g k = sumF g k := if_pos hs
      have E1 := Go.Lib.hid e1
      have E2 := Go.Lib.hid e2
      clear e1 e2 hf hx
      go_wp2_with fail
      go_returns
      rw [E1.out, E2.out]
      exact ⟨rfl, hc⟩

def RAddRel (w : World) (n : Nat) (i : Value) (wr : World) : Prop := ∃ k : Nat, i = .int .i64 k ∧ k ≤ n ∧ Chg No w wr
set_option maxHeartbeats 1000000 in
theorem refAdd_any (g : Nat → Int) (a : Option Addr) (n c : Nat) (w : World) (hx : Sl w a n c 1 (fun k => [.int .i64 (g k)])) (hn : n ≤ 1048576) (hf : Fine g n) :
    Gives 210 #[.slice a n c] w (.tuple #[.int .i64 (addV g n), .int .i64 (addE g n)]) := by
  unfold Gives at *
  go_enter Tryz.func210, Tryz.ntmps210
  go_wp2_with fail
  go_loopw [4] (fun i wr => RAddRel w n i wr) (fun i _ => n - (intOf i).toNat)
  case atStart => exact ⟨0, rfl, by omega, Chg.refl _ _⟩
  case round =>
    obtain ⟨k, rfl, hk, hc⟩ := hrel
    by_cases hlt : k < n
    · obtain ⟨hl, b, o, rfl, hcell⟩ := (hx.no hc).2.2.2 k hlt
      have q0 := hcell 0 _ rfl
      rw [Nat.add_zero, Nat.mul_one] at q0
      have hfk := hf k hlt
      have hng : ¬ g k < 0 := by omega
      clear hcell hl hx hf hfk
      have hlt' : (k : Int) < (n : Int) := by omega
      go_wp2_with fail
      go_roundw
      case rel => exact ⟨k + 1, by go_num, by omega, hc⟩
      case measure => simp [intOf]; omega
    · obtain rfl : k = n := by omega
      go_wp2_with fail
      go_loopw [5, 6] (fun s i wr => AddRel w g k s i wr) (fun _ i _ => k - (intOf i).toNat)
      case atStart => exact ⟨0, rfl, by omega, rfl, by simp [sumF], hc⟩
      case round =>
        obtain ⟨m, rfl, hm, rfl, hs, hc⟩ := hrel
        have h0 := sumF_nonneg (fun k hk => (hf k hk).1) m hm
        by_cases hlt2 : m < k
        · obtain ⟨hl, b, o, rfl, hcell⟩ := (hx.no hc).2.2.2 m hlt2
          have q0 := hcell 0 _ rfl
          rw [Nat.add_zero, Nat.mul_one] at q0
          have hfk := hf m hlt2
          have hbig := fun h => addE_big (fun k hk => (hf k hk).1) hlt2 h
          have HB := Go.Lib.hid hbig
          clear hbig hcell hl hx hf
          have hlt' : (m : Int) < (k : Int) := by omega
          have hw : IntKind.i64.wrap (sumF g m + g m) = sumF g m + g m := IntWalk.i64_in _ (by omega)
          have hq : ¬ 1099511627776 < g m := by omega
          by_cases hb : 1099511627776 < sumF g m + g m
          · obtain ⟨e1, e2⟩ := HB.out hb
            have E1 := Go.Lib.hid e1
            have E2 := Go.Lib.hid e2
            clear e1 e2
            go_wp2_with fail
            go_returns
            rw [E1.out, E2.out]
            exact ⟨rfl, hc⟩
          · go_wp2_with fail
            go_roundw
            case rel => exact ⟨m + 1, by go_num, by omega, rfl, by simp only [sumF]; omega, hc⟩
            case measure => simp [intOf]; omega
        · obtain rfl : m = k := by omega
          have e1 : addE g m = 0 := if_pos hs
          have e2 : addV g m = sumF g m := if_pos hs
          have E1 := Go.Lib.hid e1
          have E2 := Go.Lib.hid e2
          clear e1 e2 hf hx
          go_wp2_with fail
          go_returns
          rw [E1.out, E2.out]
          exact ⟨rfl, hc⟩
end Go.Proofs.YthpmgnbehahkfaaGreat
end
section
namespace Go.Proofs.YthpmgnbehahkfaaGreat
open Go.RowKit Go.Dk

def cells5 (x : Nat → Int) : List Value := [.int .i64 (x 0), .int .i64 (x 1), .int .i64 (x 2), .int .i64 (x 3), .int .i64 (x 4)]
theorem cells5_at (x : Nat → Int) (i : Nat) (h : i < 5) : (cells5 x)[i]? = some (.int .i64 (x i)) := by
  match i, h with
  | 0, _ => rfl
  | 1, _ => rfl
  | 2, _ => rfl
  | 3, _ => rfl
  | 4, _ => rfl
def AllE (f : Nat → Nat → Int) (n : Nat) : Prop := addE (fun k => f k 0) n = 0 ∧ addE (fun k => f k 1) n = 0 ∧ addE (fun k => f k 2) n = 0 ∧ addE (fun k => f k 3) n = 0 ∧ addE (fun k => f k 4) n = 0
instance (f : Nat → Nat → Int) (n : Nat) : Decidable (AllE f n) := by unfold AllE; infer_instance
theorem allE_iff (f : Nat → Nat → Int) (n : Nat) : AllE f n ↔ ∀ i, i < 5 → addE (fun k => f k i) n = 0 := by
  constructor
  · rintro ⟨h0, h1, h2, h3, h4⟩ i hi
    match i, hi with
    | 0, _ => exact h0
    | 1, _ => exact h1
    | 2, _ => exact h2
    | 3, _ => exact h3
    | 4, _ => exact h4
  · intro h
    exact ⟨h 0 (by omega), h 1 (by omega), h 2 (by omega), h 3 (by omega), h 4 (by omega)⟩
def plusE (f : Nat → Nat → Int) (n : Nat) : Int := if AllE f n then 0 else 10
theorem addE_or (g : Nat → Int) (n : Nat) : addE g n = 0 ∨ addE g n = 10 := by unfold addE; split <;> simp
theorem plusE_bad {f : Nat → Nat → Int} {n i : Nat} (hi : i < 5) (h : addE (fun k => f k i) n ≠ 0) : plusE f n = 10 ∧ addE (fun k => f k i) n = 10 := by
  refine ⟨if_neg fun h2 => h ((allE_iff f n).1 h2 i hi), (addE_or _ _).resolve_left h⟩

theorem Tryz.infoIntR : (Tryz.prog.info? 3).map (fun i => (i.zero, i.size, i.bytes)) = some (some (.int .i64 0), 1, 8) := by kernel_rfl
def RowRel (w : World) (B : Nat) (g : Nat → Int) (n : Nat) (v i : Value) (wr : World) : Prop :=
  ∃ k : Nat, i = .int .i64 k ∧ k ≤ n ∧ wr.ownsRow B 3 1 v k ((List.range k).flatMap fun k => [.int .i64 (g k)]) ∧ Chg No w wr

set_option maxRecDepth 100000 in
set_option maxHeartbeats 2000000 in
theorem plus1_any (f : Nat → Nat → Int) (a : Option Addr) (n c : Nat) (b i : Nat) (w : World) (hb : w.cell? ⟨b, 0, none⟩ = some (.slice a n c)) (hx : Sl w a n c 5 (fun k => cells5 (f k))) (hn : n ≤ 1048576) (hi : i < 5) (hf : Fine (fun k => f k i) n) :
    Gives 178 #[.int .i64 i, .pointer (some ⟨b, 0, none⟩)] w (.tuple #[.int .i64 (addV (fun k => f k i) n), .int .i64 (addE (fun k => f k i) n)]) := by
  obtain ⟨i0, hi0, hz0, hz1, hz2⟩ := info_parts Tryz.infoIntR
  unfold Gives
  go_enter Tryz.func178, Tryz.ntmps178
  go_wp2_with (at_make; refine wpList_make_own _ rfl _ _ 27 rfl w.heap.size 3 i0 (.int .i64 0) 1 Tryz.underlying27 hi0 hz0 hz1 .i64 .i64 _ n rfl rfl rfl (by rw [hz2]; omega) (by unfold maxLen; omega) (Nat.le_refl _) ?_; intro w0 hown0 hgrow0; have hc0 : Chg No w w0 := (Chg.refl _ _).grown hgrow0 (fun k h => by cases h); have hb := hc0.cell hb id)
  go_loopw [5, 13] (fun v i' wr => RowRel w w.heap.size (fun k => f k i) n v i' wr) (fun _ i' _ => n - (intOf i').toNat)
  case atStart => exact ⟨0, rfl, by omega, hown0, hc0⟩
  case round =>
    obtain ⟨k, rfl, hk, hown, hc⟩ := hrel
    have hsz := hc.size
    by_cases hlt : k < n
    · obtain ⟨hl, b', o, rfl, hcell⟩ := (hx.no hc).2.2.2 k hlt
      have q0 := hcell 0 _ rfl
      have q1 := hcell 1 _ rfl
      have q2 := hcell 2 _ rfl
      have q3 := hcell 3 _ rfl
      have q4 := hcell 4 _ rfl
      rw [Nat.add_zero] at q0
      clear hcell hl hx hf
      have hlt' : (k : Int) < (n : Int) := by omega
      have hi5 : (i : Int) < 5 := by omega
      have hA := heap_alloc_new wr (.cells #[.int .i64 (f k 0), .int .i64 (f k 1), .int .i64 (f k 2), .int .i64 (f k 3), .int .i64 (f k 4)] 58)
      have qi := cell_of_heap (cs := (cells5 (f k)).toArray) hA (by rw [List.getElem?_toArray]; exact cells5_at (f k) i hi)
      obtain ⟨va, vc, rfl, -⟩ := Rd.of_own hown
      go_wp2_with (at_builtin; refine wpList_append_rd _ rfl _ _ _ rfl w.heap.size 3 i0 _ 1 8 Tryz.underlying27 hi0 hz0 hz1 hz2 rfl (by decide) (.slice va k vc) _ _ rfl ((hown.alloc _).alloc _) _ 1 [.int .i64 (f k i)] rfl (rd_new _ _ _ _ 1 1 rfl (by simp)) (by simp [Value.oneCell']) (by unfold maxLen; omega) (by omega) (by simp; omega) ?_; intro v1 w3 ho1 hg1 hi1 hfr1)
      go_roundw
      case rel => exact ⟨k + 1, by go_num, by omega, (by rw [List.range_succ, List.flatMap_append]; simpa using ho1), Chg.grown' ((hc.alloc _).alloc _) hown hg1⟩
      case measure => simp [intOf]; omega
    · obtain rfl : k = n := by omega
      obtain ⟨a', c', rfl, hs, hfr⟩ := own_sl hown (fun k _ => rfl)
      have p1 := add_any (fun k => f k i) a' k c' wr hs hn hf
      unfold Gives at p1
      clear hx hf hs
      go_wp2_with (go_at_call 179; refine p1.mono ?_; rintro e w2 ⟨rfl, hc2⟩)
      go_returns
      exact ⟨rfl, hc.trans hc2⟩
theorem enters_plus1 : Enters Tryz.prog 178 := enters_of Tryz.func178 (by kernel_rfl) rfl

/-- a row of five numbers in block g -/
def FiveAt (w : World) (g : Nat) : Prop := ∃ x : Nat → Int, w.heap[g]? = some (.cells (cells5 x).toArray 58 (0, 0))
theorem FiveAt.no {S : Nat → Prop} {w w' : World} {g : Nat} (h : FiveAt w g) (hc : Chg S w w') (hs : ¬ S g) : FiveAt w' g := by
  obtain ⟨x, hx⟩ := h
  exact ⟨x, hc.heap hx hs⟩
theorem FiveAt.set {w : World} {g : Nat} (h : FiveAt w g) (i : Nat) (hi : i < 5) (n : Int) : FiveAt (w.setCell ⟨g, i, none⟩ (.int .i64 n)) g := by
  obtain ⟨x, hx⟩ := h
  refine ⟨fun j => if j = i then n else x j, ?_⟩
  rw [hset_same hx]
  match i, hi with
  | 0, _ => rfl
  | 1, _ => rfl
  | 2, _ => rfl
  | 3, _ => rfl
  | 4, _ => rfl
def VEachRel (W : World) (B : Nat) (ev : Nat → Int) (e i : Value) (wr : World) : Prop :=
  ∃ k : Nat, i = .int .i64 k ∧ k ≤ 5 ∧ (∀ j, j < k → ev j = 0) ∧ (∃ e0, e = .int .i64 e0) ∧ FiveAt wr B ∧ Chg (· = B) W wr

set_option maxRecDepth 100000 in
set_option maxHeartbeats 2000000 in
theorem vecEach_any (g : Nat) (cap : Array Value) (eg : Enters Tryz.prog g) (v ev : Nat → Int) (w : World)
    (hp : ∀ i, i < 5 → ∀ w', Chg No w w' → Gives g (#[.int .i64 (i : Int)] ++ cap) w' (.tuple #[.int .i64 (v i), .int .i64 (ev i)])) :
    Calls Tryz.prog 175 #[.func (.func g) #[] cap] w fun e w' => ∃ x : Nat → Int, ∃ r : Int, e = .returned (.tuple #[.agg (cells5 x).toArray, .int .i64 r]) ∧ Chg No w w' ∧ ((∀ i, i < 5 → ev i = 0) ∧ r = 0 ∨ ∃ i, i < 5 ∧ ev i ≠ 0 ∧ r = ev i) := by
  have hA := heap_alloc_new w (.cells #[.int .i64 0, .int .i64 0, .int .i64 0, .int .i64 0, .int .i64 0] 58)
  have hcw := (Chg.refl No w).alloc (.cells #[.int .i64 0, .int .i64 0, .int .i64 0, .int .i64 0, .int .i64 0] 58)
  have hB : w.heap.size ≤ w.heap.size := Nat.le_refl _
  go_enter Tryz.func175, Tryz.ntmps175
  go_wp2_with fail
  generalize w.alloc _ = W at hA hcw ⊢
  generalize hBe : w.heap.size = B at hA hB ⊢
  have HBe := Go.Lib.hid hBe
  clear hBe
  have h5 : FiveAt W B := ⟨fun _ => 0, hA⟩
  clear hA
  go_loopw [3, 5] (fun e i wr => VEachRel W B ev e i wr) (fun _ i _ => 5 - (intOf i).toNat)
  case atStart => exact ⟨0, rfl, by omega, (fun j hj => by omega), ⟨0, rfl⟩, h5, Chg.refl _ _⟩
  case round =>
    obtain ⟨k, rfl, hk, hall, ⟨e0, rfl⟩, h5, hc⟩ := hrel
    by_cases hlt : k < 5
    · have hlt' : (k : Int) < 5 := by omega
      have hw := hcw.trans' hc (fun i h1 h2 => by have := HBe.out; omega)
      have hcall := hp k hlt wr hw
      clear hp
      unfold Gives at hcall
      have heg : ∀ args w, (callFunc g args).run Tryz.prog w = .ok (.enter g args) w := eg
      have hk0 : (0 : Int) ≤ (k : Int) := by omega
      by_cases hz : ev k = 0
      · rw [hz] at hcall
        have HZ := Go.Lib.hid hz
        clear hz
        go_wp2_with (go_at_fn g; refine hcall.mono ?_; rintro e w2 ⟨rfl, hc2⟩; have h52 := h5.no hc2 id; obtain ⟨x, hx⟩ := h52; have qk := cell_of_heap (cs := (cells5 x).toArray) hx (by rw [List.getElem?_toArray]; exact cells5_at x k hlt); have fk := free_of_heap (j := k) hx)
        go_roundw
        case rel => exact ⟨k + 1, by go_num, by omega, (fun j hj => by rcases Nat.lt_or_eq_of_le (Nat.le_of_lt_succ hj) with h | h; exact hall j h; subst h; exact HZ.out), ⟨_, rfl⟩, FiveAt.set ⟨x, hx⟩ k hlt _, (hc.trans (hc2.mono (fun _ _ h => h.elim))).setCell (fun _ => rfl) _⟩
        case measure => simp [intOf]; omega
      · have hz' := hz
        go_wp2_with (go_at_fn g; refine hcall.mono ?_; rintro e w2 ⟨rfl, hc2⟩; have h52 := h5.no hc2 id; obtain ⟨x, hx⟩ := h52; have qk := cell_of_heap (cs := (cells5 x).toArray) hx (by rw [List.getElem?_toArray]; exact cells5_at x k hlt); have fk := free_of_heap (j := k) hx; obtain ⟨y, hy⟩ := FiveAt.set ⟨x, hx⟩ k hlt (v k); have y0 := cell_of_heap (j := 0) hy rfl; have y1 := cell_of_heap (j := 1) hy rfl; have y2 := cell_of_heap (j := 2) hy rfl; have y3 := cell_of_heap (j := 3) hy rfl; have y4 := cell_of_heap (j := 4) hy rfl; have z0 := free_of_heap (j := 0) hy; have z1 := free_of_heap (j := 1) hy; have z2 := free_of_heap (j := 2) hy; have z3 := free_of_heap (j := 3) hy; have z4 := free_of_heap (j := 4) hy)
        have h53 := (((((FiveAt.set ⟨y, hy⟩ 0 (by omega) 0).set 1 (by omega) 0).set 2 (by omega) 0).set 3 (by omega) 0).set 4 (by omega) 0)
        have hch : Chg (· = B) w2 _ := ((((((Chg.refl (· = B) w2).setCell (p := ⟨B, k, none⟩) (fun _ => rfl) (.int .i64 (v k))).setCell (p := ⟨B, 0, none⟩) (fun _ => rfl) (.int .i64 0)).setCell (p := ⟨B, 1, none⟩) (fun _ => rfl) (.int .i64 0)).setCell (p := ⟨B, 2, none⟩) (fun _ => rfl) (.int .i64 0)).setCell (p := ⟨B, 3, none⟩) (fun _ => rfl) (.int .i64 0)).setCell (p := ⟨B, 4, none⟩) (fun _ => rfl) (.int .i64 0)
        generalize (((((w2.setCell _ _).setCell _ _).setCell _ _).setCell _ _).setCell _ _).setCell _ _ = W3 at h53 hch ⊢
        obtain ⟨z, hz⟩ := h53
        have c0 := cell_of_heap (j := 0) hz rfl
        have c1 := cell_of_heap (j := 1) hz rfl
        have c2 := cell_of_heap (j := 2) hz rfl
        have c3 := cell_of_heap (j := 3) hz rfl
        have c4 := cell_of_heap (j := 4) hz rfl
        (try simp only [Exit.inBlock, Exit.then])
        refine bodyPost_ret (by simp [results, Tryz.results175, go_sem, c0, c1, c2, c3, c4]; try rfl) rfl ?_
        exact ⟨z, ev k, rfl, hcw.trans' ((hc.trans (hc2.mono (fun _ _ h => h.elim))).trans hch) (fun i h1 h2 => by have := HBe.out; omega), .inr ⟨k, hlt, hz', rfl⟩⟩
    · obtain rfl : k = 5 := by omega
      obtain ⟨y, hy⟩ := h5
      have y0 : wr.cell? ⟨B, 0, none⟩ = some (.int .i64 (y 0)) := cell_of_heap hy rfl
      have y1 : wr.cell? ⟨B, 1, none⟩ = some (.int .i64 (y 1)) := cell_of_heap hy rfl
      have y2 : wr.cell? ⟨B, 2, none⟩ = some (.int .i64 (y 2)) := cell_of_heap hy rfl
      have y3 : wr.cell? ⟨B, 3, none⟩ = some (.int .i64 (y 3)) := cell_of_heap hy rfl
      have y4 : wr.cell? ⟨B, 4, none⟩ = some (.int .i64 (y 4)) := cell_of_heap hy rfl
      have z0 := free_of_heap (j := 0) hy
      have z1 := free_of_heap (j := 1) hy
      have z2 := free_of_heap (j := 2) hy
      have z3 := free_of_heap (j := 3) hy
      have z4 := free_of_heap (j := 4) hy
      have HA := Go.Lib.hid hall
      clear hall
      go_wp2_with fail
      have h53 := (((((FiveAt.set ⟨y, hy⟩ 0 (by omega) (y 0)).set 1 (by omega) (y 1)).set 2 (by omega) (y 2)).set 3 (by omega) (y 3)).set 4 (by omega) (y 4))
      have hch : Chg (· = B) wr _ := (((((Chg.refl (· = B) wr).setCell (p := ⟨B, 0, none⟩) (fun _ => rfl) (.int .i64 (y 0))).setCell (p := ⟨B, 1, none⟩) (fun _ => rfl) (.int .i64 (y 1))).setCell (p := ⟨B, 2, none⟩) (fun _ => rfl) (.int .i64 (y 2))).setCell (p := ⟨B, 3, none⟩) (fun _ => rfl) (.int .i64 (y 3))).setCell (p := ⟨B, 4, none⟩) (fun _ => rfl) (.int .i64 (y 4))
      generalize ((((wr.setCell _ _).setCell _ _).setCell _ _).setCell _ _).setCell _ _ = W3 at h53 hch ⊢
      obtain ⟨z, hz⟩ := h53
      have c0 := cell_of_heap (j := 0) hz rfl
      have c1 := cell_of_heap (j := 1) hz rfl
      have c2 := cell_of_heap (j := 2) hz rfl
      have c3 := cell_of_heap (j := 3) hz rfl
      have c4 := cell_of_heap (j := 4) hz rfl
      (try simp only [Exit.inBlock, Exit.then])
      refine bodyPost_ret (by simp [results, Tryz.results175, go_sem, c0, c1, c2, c3, c4]; try rfl) rfl ?_
      exact ⟨z, 0, rfl, hcw.trans' (hc.trans hch) (fun i h1 h2 => by have := HBe.out; omega), .inl ⟨HA.out, rfl⟩⟩
end Go.Proofs.YthpmgnbehahkfaaGreat
end
section
namespace Go.Proofs.YthpmgnbehahkfaaGreat
open Go.RowKit Go.Dk

theorem plusE_of {f : Nat → Nat → Int} {n : Nat} {r : Int} (h : (∀ i, i < 5 → addE (fun k => f k i) n = 0) ∧ r = 0 ∨ ∃ i, i < 5 ∧ addE (fun k => f k i) n ≠ 0 ∧ r = addE (fun k => f k i) n) : r = plusE f n := by
  rcases h with ⟨h, rfl⟩ | ⟨i, hi, h, rfl⟩
  · exact (if_pos ((allE_iff f n).2 h)).symm
  · obtain ⟨h1, h2⟩ := plusE_bad hi h
    rw [h1, h2]

set_option maxRecDepth 100000 in
set_option maxHeartbeats 2000000 in
theorem plus_any (f : Nat → Nat → Int) (a : Option Addr) (n c : Nat) (w : World) (hx : Sl w a n c 5 (fun k => cells5 (f k))) (hn : n ≤ 1048576) (hf : ∀ i, i < 5 → Fine (fun k => f k i) n) :
    Calls Tryz.prog 121 #[.slice a n c] w fun e w' => ∃ x : Nat → Int, e = .returned (.tuple #[.agg (cells5 x).toArray, .int .i64 (plusE f n)]) ∧ Chg No w w' := by
  have hcw := ((Chg.refl No w).alloc (.cells #[.slice a n c] 169)).alloc (.cells #[.int .i64 0, .int .i64 0, .int .i64 0, .int .i64 0, .int .i64 0] 58)
  have hA := heap_alloc_old' (heap_alloc_new w (.cells #[.slice a n c] 169)) (o' := .cells #[.int .i64 0, .int .i64 0, .int .i64 0, .int .i64 0, .int .i64 0] 58)
  have hR := heap_alloc_new (w.alloc (.cells #[.slice a n c] 169)) (.cells #[.int .i64 0, .int .i64 0, .int .i64 0, .int .i64 0, .int .i64 0] 58)
  simp only [World.size_alloc] at hR
  have hx1 := hx.no hcw
  have hlt := hcw.size
  have p1 := fun W (h : Chg No ((w.alloc (.cells #[.slice a n c] 169)).alloc (.cells #[.int .i64 0, .int .i64 0, .int .i64 0, .int .i64 0, .int .i64 0] 58)) W) =>
    vecEach_any 178 #[.pointer (some ⟨w.heap.size, 0, none⟩)] enters_plus1 (fun i => addV (fun k => f k i) n) (fun i => addE (fun k => f k i) n) W (fun i hi w' hc' => by
      have := plus1_any f a n c w.heap.size i w' ((h.trans hc').cell (cell_of_heap (j := 0) hA rfl) id) (hx1.no (h.trans hc')) hn hi (hf i hi)
      simpa using this)
  clear hx hx1 hf
  go_enter Tryz.func121, Tryz.ntmps121
  go_wp2_with fail
  generalize (w.alloc _).alloc _ = W at hcw hA hR p1 hlt ⊢
  have hB : w.heap.size ≤ w.heap.size := Nat.le_refl _
  generalize hBe : w.heap.size = B at hA hR p1 hlt hB ⊢
  have HBe := Go.Lib.hid hBe
  clear hBe
  refine (p1 _ (Chg.refl _ _)).mono ?_
  rintro e w2 ⟨x, r, rfl, hc2, hr⟩
  obtain rfl := plusE_of hr
  clear hr p1
  have hR2 := hc2.heap hR id
  have y0 := cell_of_heap (j := 0) hR2 rfl
  have y1 := cell_of_heap (j := 1) hR2 rfl
  have y2 := cell_of_heap (j := 2) hR2 rfl
  have y3 := cell_of_heap (j := 3) hR2 rfl
  have y4 := cell_of_heap (j := 4) hR2 rfl
  have z0 := free_of_heap (j := 0) hR2
  have z1 := free_of_heap (j := 1) hR2
  have z2 := free_of_heap (j := 2) hR2
  have z3 := free_of_heap (j := 3) hR2
  have z4 := free_of_heap (j := 4) hR2
  unfold cells5
  go_wp2_with fail
  have h53 := (((((FiveAt.set ⟨fun _ => 0, hR2⟩ 0 (by omega) (x 0)).set 1 (by omega) (x 1)).set 2 (by omega) (x 2)).set 3 (by omega) (x 3)).set 4 (by omega) (x 4))
  have hch : Chg (· = B + 1) w2 _ := (((((Chg.refl (· = B + 1) w2).setCell (p := ⟨B + 1, 0, none⟩) (fun _ => rfl) (.int .i64 (x 0))).setCell (p := ⟨B + 1, 1, none⟩) (fun _ => rfl) (.int .i64 (x 1))).setCell (p := ⟨B + 1, 2, none⟩) (fun _ => rfl) (.int .i64 (x 2))).setCell (p := ⟨B + 1, 3, none⟩) (fun _ => rfl) (.int .i64 (x 3))).setCell (p := ⟨B + 1, 4, none⟩) (fun _ => rfl) (.int .i64 (x 4))
  generalize ((((w2.setCell _ _).setCell _ _).setCell _ _).setCell _ _).setCell _ _ = W3 at h53 hch ⊢
  obtain ⟨z, hz⟩ := h53
  have c0 : W3.cell? ⟨B + 1, 0, none⟩ = some (.int .i64 (z 0)) := cell_of_heap hz rfl
  have c1 : W3.cell? ⟨B + 1, 1, none⟩ = some (.int .i64 (z 1)) := cell_of_heap hz rfl
  have c2 : W3.cell? ⟨B + 1, 2, none⟩ = some (.int .i64 (z 2)) := cell_of_heap hz rfl
  have c3 : W3.cell? ⟨B + 1, 3, none⟩ = some (.int .i64 (z 3)) := cell_of_heap hz rfl
  have c4 : W3.cell? ⟨B + 1, 4, none⟩ = some (.int .i64 (z 4)) := cell_of_heap hz rfl
  (try simp only [Exit.inBlock, Exit.then])
  refine bodyPost_ret (by simp [results, Tryz.results121, go_sem, c0, c1, c2, c3, c4]; try rfl) rfl ?_
  exact ⟨z, rfl, (hcw.trans hc2).trans' hch (fun i h1 h2 => by have := HBe.out; omega)⟩

theorem Sl.chg2 {S : Nat → Prop} {w w' : World} {a : Option Addr} {n c sz : Nat} {cells : Nat → List Value} (h : Sl w a n c sz cells) (hc : Chg S w w') (hs : ∀ ad, a = some ad → 0 < n → ¬ S ad.block) : Sl w' a n c sz cells := by
  refine ⟨h.1, h.2.1, h.2.2.1, fun k hk => ?_⟩
  obtain ⟨hl, b, o, ha, hcell⟩ := h.2.2.2 k hk
  exact ⟨hl, b, o, ha, fun j v hj => hc.cell (hcell j v hj) (hs ⟨b, o, none⟩ ha (by omega))⟩

def PlusRel (W : World) (B : Nat) (f : Nat → Nat → Int) (n : Nat) (i : Value) (wr : World) : Prop :=
  ∃ k : Nat, i = .int .i64 k ∧ k ≤ 5 ∧ (∀ j, j < k → addE (fun m => f m j) n = 0) ∧ FiveAt wr (B + 1) ∧ Chg (· = B + 1) W wr

set_option maxRecDepth 100000 in
set_option maxHeartbeats 4000000 in
theorem refPlus_any (f : Nat → Nat → Int) (a : Option Addr) (n c : Nat) (w : World) (hx : Sl w a n c 5 (fun k => cells5 (f k))) (hn : n ≤ 1048576) (hf : ∀ i, i < 5 → Fine (fun k => f k i) n) :
    Calls Tryz.prog 163 #[.slice a n c] w fun e w' => ∃ x : Nat → Int, e = .returned (.tuple #[.agg (cells5 x).toArray, .int .i64 (plusE f n)]) ∧ Chg No w w' := by
  obtain ⟨i0, hi0, hz0, hz1, hz2⟩ := info_parts Tryz.infoIntR
  have hcw := ((Chg.refl No w).alloc (.cells #[.int .i64 0, .int .i64 0, .int .i64 0, .int .i64 0, .int .i64 0] 58)).alloc (.cells #[.int .i64 0, .int .i64 0, .int .i64 0, .int .i64 0, .int .i64 0] 58)
  have hA := heap_alloc_old' (heap_alloc_new w (.cells #[.int .i64 0, .int .i64 0, .int .i64 0, .int .i64 0, .int .i64 0] 58)) (o' := .cells #[.int .i64 0, .int .i64 0, .int .i64 0, .int .i64 0, .int .i64 0] 58)
  have hR := heap_alloc_new (w.alloc (.cells #[.int .i64 0, .int .i64 0, .int .i64 0, .int .i64 0, .int .i64 0] 58)) (.cells #[.int .i64 0, .int .i64 0, .int .i64 0, .int .i64 0, .int .i64 0] 58)
  simp only [World.size_alloc] at hR
  have hx1 := hx.no hcw
  have hsl : ∀ ad, a = some ad → 0 < n → ad.block < w.heap.size := fun ad e h => by
    obtain ⟨hl, b, o, e2, hcell⟩ := hx.2.2.2 0 h
    rw [e] at e2
    injection e2 with e2
    subst e2
    exact World.block_lt_of_cell? w _ (hcell 0 _ rfl)
  clear hx
  go_enter Tryz.func163, Tryz.ntmps163
  go_wp2_with fail
  generalize (w.alloc _).alloc _ = W at hcw hA hR hx1 ⊢
  generalize hBe : w.heap.size = B at hA hR hsl ⊢
  have HBe := Go.Lib.hid hBe
  have hBW : B ≤ W.heap.size := by have := hcw.size; omega
  clear hBe
  go_loopw [5] (fun i wr => PlusRel W B f n i wr) (fun i _ => 5 - (intOf i).toNat)
  case atStart => exact ⟨0, rfl, by omega, (fun j hj => by omega), ⟨fun _ => 0, hR⟩, Chg.refl _ _⟩
  case round =>
    obtain ⟨i, rfl, hi, hall, h5, hc⟩ := hrel
    by_cases hlt : i < 5
    · have hi5 : (i : Int) < 5 := by omega
      generalize wr = V at h5 hc ⊢
      have hx2 := hx1.chg2 hc (fun ad h1 h2 e => by have := hsl ad h1 h2; omega)
      have hA2 := hc.heap hA (by omega)
      have hW := hcw.trans' hc (fun i h1 h2 => by have := HBe.out; omega)
      go_wp2_with fail
      go_loopw [6, 7] (fun v j w2 => RowRel V V.heap.size (fun k => f k i) n v j w2) (fun _ j _ => n - (intOf j).toNat)
      case atStart => exact ⟨0, rfl, by omega, World.ownsRow_nil _ _ _ _, Chg.refl _ _⟩
      case round =>
        obtain ⟨k, rfl, hk, hown, hc2⟩ := hrel
        have hsz := hc2.size
        by_cases hlt2 : k < n
        · obtain ⟨hl, b', o, rfl, hcell⟩ := (hx2.no hc2).2.2.2 k hlt2
          have qi := hcell i _ (cells5_at (f k) i hlt)
          clear hcell hl hx2 hx1 hf hsl
          have hlt' : (k : Int) < (n : Int) := by omega
          obtain ⟨va, vc, rfl, -⟩ := Rd.of_own hown
          go_wp2_with (at_builtin; refine wpList_append_rd _ rfl _ _ _ rfl V.heap.size 3 i0 _ 1 8 Tryz.underlying27 hi0 hz0 hz1 hz2 rfl (by decide) (.slice va k vc) _ _ rfl (hown.alloc _) _ 1 [.int .i64 (f k i)] rfl (rd_new _ _ _ _ 1 1 rfl (by simp)) (by simp [Value.oneCell']) (by unfold maxLen; omega) (by omega) (by simp; omega) ?_; intro v1 w3 ho1 hg1 hi1 hfr1)
          go_roundw
          case rel => exact ⟨k + 1, by go_num, by omega, (by rw [List.range_succ, List.flatMap_append]; simpa using ho1), Chg.grown' (hc2.alloc _) hown hg1⟩
          case measure => simp [intOf]; omega
        · obtain rfl : k = n := by omega
          obtain ⟨a', c', rfl, hs, hfr⟩ := own_sl hown (fun k _ => rfl)
          have p1 := refAdd_any (fun m => f m i) a' k c' wr hs hn (hf i hlt)
          unfold Gives at p1
          clear hx2 hx1 hf hs hsl
          by_cases hz : addE (fun m => f m i) k = 0
          · rw [hz] at p1
            have HZ := Go.Lib.hid hz
            clear hz
            go_wp2_with (go_at_call 210; refine p1.mono ?_; rintro e w4 ⟨rfl, hc4⟩; have h52 := (h5.no hc2 id).no hc4 id; obtain ⟨x, hx⟩ := h52; have qk := cell_of_heap (cs := (cells5 x).toArray) hx (by rw [List.getElem?_toArray]; exact cells5_at x i hlt); have fk := free_of_heap (j := i) hx)
            go_roundw
            case rel => exact ⟨i + 1, by go_num, by omega, (fun j hj => by rcases Nat.lt_or_eq_of_le (Nat.le_of_lt_succ hj) with h | h; exact hall j h; subst h; exact HZ.out), FiveAt.set ⟨x, hx⟩ i hlt _, ((hc.trans (hc2.mono (fun _ _ h => h.elim))).trans (hc4.mono (fun _ _ h => h.elim))).setCell (fun _ => rfl) _⟩
            case measure => simp [intOf]; omega
          · have hz' := hz
            go_wp2_with (go_at_call 210; refine p1.mono ?_; rintro e w4 ⟨rfl, hc4⟩; have hA4 := hc4.heap (hc2.heap hA2 id) id; have y0 : w4.cell? ⟨B, 0, none⟩ = some (.int .i64 0) := cell_of_heap hA4 rfl; have y1 : w4.cell? ⟨B, 1, none⟩ = some (.int .i64 0) := cell_of_heap hA4 rfl; have y2 : w4.cell? ⟨B, 2, none⟩ = some (.int .i64 0) := cell_of_heap hA4 rfl; have y3 : w4.cell? ⟨B, 3, none⟩ = some (.int .i64 0) := cell_of_heap hA4 rfl; have y4 : w4.cell? ⟨B, 4, none⟩ = some (.int .i64 0) := cell_of_heap hA4 rfl; have z0 : w4.frozen? ⟨B, 0, none⟩ = false := free_of_heap hA4; have z1 : w4.frozen? ⟨B, 1, none⟩ = false := free_of_heap hA4; have z2 : w4.frozen? ⟨B, 2, none⟩ = false := free_of_heap hA4; have z3 : w4.frozen? ⟨B, 3, none⟩ = false := free_of_heap hA4; have z4 : w4.frozen? ⟨B, 4, none⟩ = false := free_of_heap hA4)
            have h53 := (((((FiveAt.set ⟨fun _ => 0, hA4⟩ 0 (by omega) 0).set 1 (by omega) 0).set 2 (by omega) 0).set 3 (by omega) 0).set 4 (by omega) 0)
            have hch : Chg (· = B) w4 _ := ((((((Chg.refl (· = B) w4).setCell (p := ⟨B, 0, none⟩) (fun _ => rfl) (.int .i64 0)).setCell (p := ⟨B, 1, none⟩) (fun _ => rfl) (.int .i64 0)).setCell (p := ⟨B, 2, none⟩) (fun _ => rfl) (.int .i64 0)).setCell (p := ⟨B, 3, none⟩) (fun _ => rfl) (.int .i64 0)).setCell (p := ⟨B, 4, none⟩) (fun _ => rfl) (.int .i64 0))
            generalize ((((w4.setCell _ _).setCell _ _).setCell _ _).setCell _ _).setCell _ _ = W3 at h53 hch ⊢
            obtain ⟨z, hz⟩ := h53
            have c0 : W3.cell? ⟨B, 0, none⟩ = some (.int .i64 (z 0)) := cell_of_heap hz rfl
            have c1 : W3.cell? ⟨B, 1, none⟩ = some (.int .i64 (z 1)) := cell_of_heap hz rfl
            have c2 : W3.cell? ⟨B, 2, none⟩ = some (.int .i64 (z 2)) := cell_of_heap hz rfl
            have c3 : W3.cell? ⟨B, 3, none⟩ = some (.int .i64 (z 3)) := cell_of_heap hz rfl
            have c4 : W3.cell? ⟨B, 4, none⟩ = some (.int .i64 (z 4)) := cell_of_heap hz rfl
            (try simp only [Exit.inBlock, Exit.then])
            refine bodyPost_ret (by simp [results, Tryz.results163, go_sem, c0, c1, c2, c3, c4]; try rfl) rfl ?_
            exact ⟨z, by rw [(plusE_bad hlt hz').1, (plusE_bad hlt hz').2]; rfl, ((hW.trans hc2).trans hc4).trans' hch (fun i h1 h2 => by have := HBe.out; omega)⟩
    · obtain rfl : i = 5 := by omega
      have hp : plusE f n = 0 := if_pos ((allE_iff f n).2 hall)
      have HP := Go.Lib.hid hp
      have hW := hcw.trans' hc (fun i h1 h2 => by have := HBe.out; omega)
      have hA2 := hc.heap hA (by omega)
      clear hp hall hx1 hf hsl
      obtain ⟨y, hy⟩ := h5
      have oy0 : wr.cell? ⟨B + 1, 0, none⟩ = some (.int .i64 (y 0)) := cell_of_heap hy rfl
      have oy1 : wr.cell? ⟨B + 1, 1, none⟩ = some (.int .i64 (y 1)) := cell_of_heap hy rfl
      have oy2 : wr.cell? ⟨B + 1, 2, none⟩ = some (.int .i64 (y 2)) := cell_of_heap hy rfl
      have oy3 : wr.cell? ⟨B + 1, 3, none⟩ = some (.int .i64 (y 3)) := cell_of_heap hy rfl
      have oy4 : wr.cell? ⟨B + 1, 4, none⟩ = some (.int .i64 (y 4)) := cell_of_heap hy rfl
      have oz0 : wr.frozen? ⟨B + 1, 0, none⟩ = false := free_of_heap hy
      have oz1 : wr.frozen? ⟨B + 1, 1, none⟩ = false := free_of_heap hy
      have oz2 : wr.frozen? ⟨B + 1, 2, none⟩ = false := free_of_heap hy
      have oz3 : wr.frozen? ⟨B + 1, 3, none⟩ = false := free_of_heap hy
      have oz4 : wr.frozen? ⟨B + 1, 4, none⟩ = false := free_of_heap hy
      have y0 : wr.cell? ⟨B, 0, none⟩ = some (.int .i64 0) := cell_of_heap hA2 rfl
      have y1 : wr.cell? ⟨B, 1, none⟩ = some (.int .i64 0) := cell_of_heap hA2 rfl
      have y2 : wr.cell? ⟨B, 2, none⟩ = some (.int .i64 0) := cell_of_heap hA2 rfl
      have y3 : wr.cell? ⟨B, 3, none⟩ = some (.int .i64 0) := cell_of_heap hA2 rfl
      have y4 : wr.cell? ⟨B, 4, none⟩ = some (.int .i64 0) := cell_of_heap hA2 rfl
      have z0 : wr.frozen? ⟨B, 0, none⟩ = false := free_of_heap hA2
      have z1 : wr.frozen? ⟨B, 1, none⟩ = false := free_of_heap hA2
      have z2 : wr.frozen? ⟨B, 2, none⟩ = false := free_of_heap hA2
      have z3 : wr.frozen? ⟨B, 3, none⟩ = false := free_of_heap hA2
      have z4 : wr.frozen? ⟨B, 4, none⟩ = false := free_of_heap hA2
      go_wp2_with fail
      have h53 := (((((FiveAt.set ⟨fun _ => 0, hA2⟩ 0 (by omega) (y 0)).set 1 (by omega) (y 1)).set 2 (by omega) (y 2)).set 3 (by omega) (y 3)).set 4 (by omega) (y 4))
      have hch : Chg (· = B) wr _ := ((((((Chg.refl (· = B) wr).setCell (p := ⟨B, 0, none⟩) (fun _ => rfl) (.int .i64 (y 0))).setCell (p := ⟨B, 1, none⟩) (fun _ => rfl) (.int .i64 (y 1))).setCell (p := ⟨B, 2, none⟩) (fun _ => rfl) (.int .i64 (y 2))).setCell (p := ⟨B, 3, none⟩) (fun _ => rfl) (.int .i64 (y 3))).setCell (p := ⟨B, 4, none⟩) (fun _ => rfl) (.int .i64 (y 4)))
      generalize ((((wr.setCell _ _).setCell _ _).setCell _ _).setCell _ _).setCell _ _ = W3 at h53 hch ⊢
      obtain ⟨z, hz⟩ := h53
      have c0 : W3.cell? ⟨B, 0, none⟩ = some (.int .i64 (z 0)) := cell_of_heap hz rfl
      have c1 : W3.cell? ⟨B, 1, none⟩ = some (.int .i64 (z 1)) := cell_of_heap hz rfl
      have c2 : W3.cell? ⟨B, 2, none⟩ = some (.int .i64 (z 2)) := cell_of_heap hz rfl
      have c3 : W3.cell? ⟨B, 3, none⟩ = some (.int .i64 (z 3)) := cell_of_heap hz rfl
      have c4 : W3.cell? ⟨B, 4, none⟩ = some (.int .i64 (z 4)) := cell_of_heap hz rfl
      (try simp only [Exit.inBlock, Exit.then])
      refine bodyPost_ret (by simp [results, Tryz.results163, go_sem, c0, c1, c2, c3, c4]; try rfl) rfl ?_
      exact ⟨z, by rw [HP.out]; rfl, hW.trans' hch (fun i h1 h2 => by have := HBe.out; omega)⟩
end Go.Proofs.YthpmgnbehahkfaaGreat
end
