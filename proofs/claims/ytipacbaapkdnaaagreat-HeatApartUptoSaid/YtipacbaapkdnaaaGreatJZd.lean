/- Rows of quantities: slices.Max, Min; vec.Check, drayageref02.Check; fine. -/
import Derived.Test.YtipacbaapkdnaaaGreatJZb
import Derived.Lib.MinMax
set_option linter.unusedSimpArgs false
set_option linter.unusedVariables false
namespace Go.Proofs.YtipacbaapkdnaaaGreat
open Go.RowKit Go.Dk

def maxF (f : Nat → Int) : Nat → Int
  | 0 => f 0
  | k + 1 => max (maxF f k) (f (k + 1))
def minF (f : Nat → Int) : Nat → Int
  | 0 => f 0
  | k + 1 => min (minF f k) (f (k + 1))

def MaxRel (w : World) (f : Nat → Int) (n : Nat) (m i : Value) (wr : World) : Prop := ∃ k : Nat, i = .int .i64 ((k + 1 : Nat) : Int) ∧ k + 1 ≤ n ∧ m = .int .i64 (maxF f k) ∧ w = wr
def MinRel (w : World) (f : Nat → Int) (n : Nat) (m i : Value) (wr : World) : Prop := ∃ k : Nat, i = .int .i64 ((k + 1 : Nat) : Int) ∧ k + 1 ≤ n ∧ m = .int .i64 (minF f k) ∧ w = wr

theorem max_any (f : Nat → Int) (b o : Nat) (n c : Nat) (w : World) (h : ∀ j, j < n → w.cell? ⟨b, o + j, none⟩ = some (.int .i64 (f j))) (h1 : 1 ≤ n) (hn : n ≤ 9223372036854775807) :
    Calls Tryz.prog 129 #[.slice (some ⟨b, o, none⟩) n c] w fun e w' => e = .returned (.int .i64 (maxF f (n - 1))) ∧ w = w' := by
  have q0 := h 0 (by omega)
  rw [Nat.add_zero] at q0
  have h1' : (1 : Int) ≤ (n : Int) := by omega
  go_enter Tryz.func129, Tryz.ntmps129
  go_wp2_with fail
  go_loopw [3, 4] (fun m i wr => MaxRel w f n m i wr) (fun _ i _ => n - (intOf i).toNat)
  case atStart => exact ⟨0, rfl, by omega, rfl, rfl⟩
  case round =>
    obtain ⟨k, rfl, hk, rfl, rfl⟩ := hrel
    by_cases hlt : k + 1 < n
    · have q1 := h (k + 1) hlt
      have hlt' : ((k + 1 : Nat) : Int) < (n : Int) := by omega
      clear h q0
      go_wp2_with fail
      go_roundw
      case rel => exact ⟨k + 1, by go_num, by omega, rfl, rfl⟩
      case measure => simp [intOf]; omega
    · obtain rfl : n = k + 1 := by omega
      clear h q0
      go_wp2_with fail
      go_ret
      exact ⟨rfl, rfl⟩

theorem min_any (f : Nat → Int) (b o : Nat) (n c : Nat) (w : World) (h : ∀ j, j < n → w.cell? ⟨b, o + j, none⟩ = some (.int .i64 (f j))) (h1 : 1 ≤ n) (hn : n ≤ 9223372036854775807) :
    Calls Tryz.prog 130 #[.slice (some ⟨b, o, none⟩) n c] w fun e w' => e = .returned (.int .i64 (minF f (n - 1))) ∧ w = w' := by
  have q0 := h 0 (by omega)
  rw [Nat.add_zero] at q0
  have h1' : (1 : Int) ≤ (n : Int) := by omega
  go_enter Tryz.func130, Tryz.ntmps130
  go_wp2_with fail
  go_loopw [3, 4] (fun m i wr => MinRel w f n m i wr) (fun _ i _ => n - (intOf i).toNat)
  case atStart => exact ⟨0, rfl, by omega, rfl, rfl⟩
  case round =>
    obtain ⟨k, rfl, hk, rfl, rfl⟩ := hrel
    by_cases hlt : k + 1 < n
    · have q1 := h (k + 1) hlt
      have hlt' : ((k + 1 : Nat) : Int) < (n : Int) := by omega
      clear h q0
      go_wp2_with fail
      go_roundw
      case rel => exact ⟨k + 1, by go_num, by omega, rfl, rfl⟩
      case measure => simp [intOf]; omega
    · obtain rfl : n = k + 1 := by omega
      clear h q0
      go_wp2_with fail
      go_ret
      exact ⟨rfl, rfl⟩

/-- may a row of quantities be: the error's number -/
def vecE (v0 v1 v2 v3 v4 : Int) : Int :=
  if min (min (min (min v0 v1) v2) v3) v4 < 0 then 2 else if 1099511627776 < max (max (max (max v0 v1) v2) v3) v4 then 10 else 0
def vecV (v0 v1 v2 v3 v4 : Int) : Value := .agg #[.int .i64 v0, .int .i64 v1, .int .i64 v2, .int .i64 v3, .int .i64 v4]
def at5 (v0 v1 v2 v3 v4 : Int) : Nat → Int
  | 0 => v0 | 1 => v1 | 2 => v2 | 3 => v3 | _ => v4

theorem vecCheck_any (v0 v1 v2 v3 v4 : Int) (w : World) :
    Gives 107 #[vecV v0 v1 v2 v3 v4] w (.int .i64 (vecE v0 v1 v2 v3 v4)) := by
  unfold Gives vecV
  have hc := (Chg.refl No w).alloc (.cells #[.int .i64 v0, .int .i64 v1, .int .i64 v2, .int .i64 v3, .int .i64 v4] 46)
  have hW := heap_alloc_new w (.cells #[.int .i64 v0, .int .i64 v1, .int .i64 v2, .int .i64 v3, .int .i64 v4] 46)
  go_enter Tryz.func107, Tryz.ntmps107
  go_wp2_with fail
  generalize w.alloc _ = W at hc hW ⊢
  generalize w.heap.size = b at hW ⊢
  have hcells : ∀ j, j < 5 → W.cell? ⟨b, 0 + j, none⟩ = some (.int .i64 (at5 v0 v1 v2 v3 v4 j)) := fun j hj => by
    rw [Nat.zero_add]
    match j, hj with
    | 0, _ => exact cell_of_heap hW rfl
    | 1, _ => exact cell_of_heap hW rfl
    | 2, _ => exact cell_of_heap hW rfl
    | 3, _ => exact cell_of_heap hW rfl
    | 4, _ => exact cell_of_heap hW rfl
  have hmax := fun k => max_any (at5 v0 v1 v2 v3 v4) b 0 5 5 (W.drewN k) hcells (by omega) (by omega)
  have hmin := fun k => min_any (at5 v0 v1 v2 v3 v4) b 0 5 5 (W.drewN k) hcells (by omega) (by omega)
  have e1 : maxF (at5 v0 v1 v2 v3 v4) (5 - 1) = max (max (max (max v0 v1) v2) v3) v4 := rfl
  have e2 : minF (at5 v0 v1 v2 v3 v4) (5 - 1) = min (min (min (min v0 v1) v2) v3) v4 := rfl
  rw [e1] at hmax
  rw [e2] at hmin
  clear hcells e1 e2
  have hE : vecE v0 v1 v2 v3 v4 = if min (min (min (min v0 v1) v2) v3) v4 < 0 then 2 else if 1099511627776 < max (max (max (max v0 v1) v2) v3) v4 then 10 else 0 := rfl
  generalize max (max (max (max v0 v1) v2) v3) v4 = M at hmax hE
  generalize min (min (min (min v0 v1) v2) v3) v4 = N at hmin hE
  have HE := Go.Lib.hid hE; clear hE
  go_quiet ((first | (go_at_call 129; exact quiet_eq (hmax _)) | (go_at_call 130; exact quiet_eq (hmin _))))
  by_cases h1 : N < 0
  · go_wp2_with fail
    go_ret
    exact ⟨by rw [HE.out, if_pos (by omega)]; rfl, hc.drewN nq⟩
  · by_cases h2 : 1099511627776 < M
    · go_wp2_with fail
      go_ret
      exact ⟨by rw [HE.out, if_neg (by omega), if_pos (by omega)]; rfl, hc.drewN nq⟩
    · go_wp2_with fail
      go_ret
      exact ⟨by rw [HE.out, if_neg (by omega), if_neg (by omega)]; rfl, hc.drewN nq⟩

def Ref2Rel (W : World) (f : Nat → Int) (i : Value) (wr : World) : Prop := ∃ k : Nat, i = .int .i64 k ∧ k ≤ 5 ∧ (∀ j, j < k → 0 ≤ f j) ∧ W = wr
def Ref2Rel' (W : World) (f : Nat → Int) (i : Value) (wr : World) : Prop := ∃ k : Nat, i = .int .i64 k ∧ k ≤ 5 ∧ (∀ j, j < k → f j ≤ 1099511627776) ∧ W = wr

theorem vecE_neg (v0 v1 v2 v3 v4 : Int) (k : Nat) (hk : k < 5) (h : at5 v0 v1 v2 v3 v4 k < 0) : vecE v0 v1 v2 v3 v4 = 2 := by
  unfold vecE
  rw [if_pos]
  match k, hk with
  | 0, _ | 1, _ | 2, _ | 3, _ | 4, _ => simp only [at5] at h; omega
theorem vecE_big (v0 v1 v2 v3 v4 : Int) (h0 : ∀ j, j < 5 → 0 ≤ at5 v0 v1 v2 v3 v4 j) (k : Nat) (hk : k < 5) (h : 1099511627776 < at5 v0 v1 v2 v3 v4 k) : vecE v0 v1 v2 v3 v4 = 10 := by
  have a0 := h0 0 (by omega); have a1 := h0 1 (by omega); have a2 := h0 2 (by omega); have a3 := h0 3 (by omega); have a4 := h0 4 (by omega)
  simp only [at5] at a0 a1 a2 a3 a4
  unfold vecE
  rw [if_neg (by omega), if_pos]
  match k, hk with
  | 0, _ | 1, _ | 2, _ | 3, _ | 4, _ => simp only [at5] at h; omega
theorem vecE_ok (v0 v1 v2 v3 v4 : Int) (h0 : ∀ j, j < 5 → 0 ≤ at5 v0 v1 v2 v3 v4 j) (h1 : ∀ j, j < 5 → at5 v0 v1 v2 v3 v4 j ≤ 1099511627776) : vecE v0 v1 v2 v3 v4 = 0 := by
  have a0 := h0 0 (by omega); have a1 := h0 1 (by omega); have a2 := h0 2 (by omega); have a3 := h0 3 (by omega); have a4 := h0 4 (by omega)
  have b0 := h1 0 (by omega); have b1 := h1 1 (by omega); have b2 := h1 2 (by omega); have b3 := h1 3 (by omega); have b4 := h1 4 (by omega)
  simp only [at5] at a0 a1 a2 a3 a4 b0 b1 b2 b3 b4
  unfold vecE
  rw [if_neg (by omega), if_neg (by omega)]

theorem refVecCheck_any (v0 v1 v2 v3 v4 : Int) (w : World) :
    Gives 149 #[vecV v0 v1 v2 v3 v4] w (.int .i64 (vecE v0 v1 v2 v3 v4)) := by
  unfold Gives vecV
  have hc := (Chg.refl No w).alloc (.cells #[.int .i64 v0, .int .i64 v1, .int .i64 v2, .int .i64 v3, .int .i64 v4] 46)
  have hW := heap_alloc_new w (.cells #[.int .i64 v0, .int .i64 v1, .int .i64 v2, .int .i64 v3, .int .i64 v4] 46)
  have eneg := vecE_neg v0 v1 v2 v3 v4
  have ebig := vecE_big v0 v1 v2 v3 v4
  have eok := vecE_ok v0 v1 v2 v3 v4
  generalize vecE v0 v1 v2 v3 v4 = E at *
  go_enter Tryz.func149, Tryz.ntmps149
  go_wp2_with fail
  generalize w.alloc _ = W at hc hW ⊢
  generalize w.heap.size = b at hW ⊢
  have hcells : ∀ j, j < 5 → W.cell? ⟨b, j, none⟩ = some (.int .i64 (at5 v0 v1 v2 v3 v4 j)) := fun j hj => by
    match j, hj with
    | 0, _ => exact cell_of_heap hW rfl
    | 1, _ => exact cell_of_heap hW rfl
    | 2, _ => exact cell_of_heap hW rfl
    | 3, _ => exact cell_of_heap hW rfl
    | 4, _ => exact cell_of_heap hW rfl
  clear hW
  generalize at5 v0 v1 v2 v3 v4 = f at *
  go_loopw [3] (fun i wr => Ref2Rel W f i wr) (fun i _ => 5 - (intOf i).toNat)
  case atStart => exact ⟨0, rfl, by omega, (fun j hj => by omega), rfl⟩
  case round =>
    obtain ⟨k, rfl, hk, hall, rfl⟩ := hrel
    by_cases hlt : k < 5
    · have q := hcells k hlt
      have hlt' : (k : Int) < 5 := by omega
      by_cases hf : f k < 0
      · have e := eneg k hlt hf
        clear hcells eneg ebig eok
        go_wp2_with fail
        go_ret
        exact ⟨by rw [e]; rfl, hc⟩
      · clear hcells eneg ebig eok
        go_wp2_with fail
        go_roundw
        case rel => exact ⟨k + 1, by go_num, by omega, (fun j hj => by rcases Nat.lt_or_eq_of_le (Nat.le_of_lt_succ hj) with h | h; exact hall j h; subst h; omega), rfl⟩
        case measure => simp [intOf]; omega
    · obtain rfl : k = 5 := by omega
      have HA := Go.Lib.hid hall; clear hall
      go_wp2_with fail
      go_loopw [4] (fun i wr => Ref2Rel' W f i wr) (fun i _ => 5 - (intOf i).toNat)
      case atStart => exact ⟨0, rfl, by omega, (fun j hj => by omega), rfl⟩
      case round =>
        obtain ⟨k, rfl, hk, hall, rfl⟩ := hrel
        by_cases hlt : k < 5
        · have q := hcells k hlt
          have hlt' : (k : Int) < 5 := by omega
          by_cases hf : 1099511627776 < f k
          · have e := ebig HA.out k hlt hf
            clear hcells eneg ebig eok
            go_wp2_with fail
            go_ret
            exact ⟨by rw [e]; rfl, hc⟩
          · clear hcells eneg ebig eok
            go_wp2_with fail
            go_roundw
            case rel => exact ⟨k + 1, by go_num, by omega, (fun j hj => by rcases Nat.lt_or_eq_of_le (Nat.le_of_lt_succ hj) with h | h; exact hall j h; subst h; omega), rfl⟩
            case measure => simp [intOf]; omega
        · obtain rfl : k = 5 := by omega
          have e := eok HA.out hall
          clear hcells eneg ebig eok
          go_wp2_with fail
          go_ret
          exact ⟨by rw [e]; rfl, hc⟩
end Go.Proofs.YtipacbaapkdnaaaGreat
