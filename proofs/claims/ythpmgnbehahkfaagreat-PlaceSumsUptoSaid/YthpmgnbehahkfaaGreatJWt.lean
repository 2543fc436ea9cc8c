/- PlaceSums, the plain law: what all nodes have is what all placed pods ask for; what is counted is what is placed. -/
import Derived.Test.YthpmgnbehahkfaaGreatJWq
import Derived.Test.YthpmgnbehahkfaaGreatJQs
set_option linter.unusedSimpArgs false
set_option linter.unusedVariables false
namespace Go.Proofs.YthpmgnbehahkfaaGreat
open Go.RowKit Go.Dk Go.Dn

theorem sumF_plus (f g : Nat → Int) : ∀ n, sumF (fun k => f k + g k) n = sumF f n + sumF g n
  | 0 => rfl
  | n + 1 => by
    simp only [sumF, sumF_plus f g n]
    omega
theorem sumF_zero : ∀ n, sumF (fun _ => 0) n = 0
  | 0 => rfl
  | n + 1 => by simp only [sumF, sumF_zero n]; rfl
theorem sumF_at (x r : Int) : ∀ n : Nat, sumF (fun m => if x = (m : Int) then r else 0) n = if 0 ≤ x ∧ x < n then r else 0
  | 0 => by
    rw [if_neg (by omega)]
    rfl
  | n + 1 => by
    simp only [sumF, sumF_at x r n]
    by_cases h1 : 0 ≤ x ∧ x < n
    · rw [if_pos h1, if_neg (by omega), if_pos (by omega)]
      omega
    · rw [if_neg h1]
      by_cases h2 : x = (n : Int)
      · rw [if_pos h2, if_pos (by omega)]
        omega
      · rw [if_neg h2, if_neg (by omega)]
        rfl
theorem sumF_eq {f g : Nat → Int} : ∀ n, (∀ k, k < n → f k = g k) → sumF f n = sumF g n
  | 0, _ => rfl
  | n + 1, h => by simp only [sumF, sumF_eq n fun k hk => h k (by omega), h n (by omega)]
/-- what a placed pod asks for -/
def placedR (s : SnapD) (f : Nat → Int) (i k : Nat) : Int := if 0 ≤ f k then (s.pods.el k).req i else 0
theorem sums_used (s : SnapD) (l : Lst Int) (i N : Nat) : ∀ k, (∀ j, j < k → l.el j < N) → sumF (fun x => usedF s l (x : Int) i k) N = sumF (placedR s l.el i) k
  | 0, _ => sumF_zero N
  | k + 1, h => by
    simp only [usedF, sumF]
    rw [sumF_plus, sums_used s l i N k (fun j hj => h j (by omega)), sumF_at]
    unfold placedR
    have := h k (by omega)
    by_cases h0 : 0 ≤ l.el k
    · rw [if_pos ⟨h0, this⟩, if_pos h0]
    · rw [if_neg (fun hh => h0 hh.1), if_neg h0]
theorem numL_cons (x : Int) (xs : List Int) (m : Nat) : numL (x :: xs) m = (if x = (m : Int) then 1 else 0) + numL xs m := by
  unfold numL
  rw [List.filter_cons]
  by_cases h : x = (m : Int)
  · simp [h]
    omega
  · simp [h]
theorem sums_num (N : Nat) : ∀ xs : List Int, sumF (numL xs) N ≤ xs.length ∧ 0 ≤ sumF (numL xs) N ∧ ((∀ x, x ∈ xs → 0 ≤ x ∧ x < (N : Int)) → sumF (numL xs) N = xs.length)
  | [] => by
    have : (numL []) = fun _ => 0 := rfl
    rw [this, sumF_zero]
    exact ⟨Int.le_refl _, Int.le_refl _, fun _ => rfl⟩
  | x :: xs => by
    obtain ⟨h1, h2, h3⟩ := sums_num N xs
    have e : numL (x :: xs) = fun m => (if x = ((m : Nat) : Int) then 1 else 0) + numL xs m := funext fun m => numL_cons x xs m
    rw [e, sumF_plus, sumF_at, List.length_cons]
    refine ⟨by split <;> omega, by split <;> omega, fun h => ?_⟩
    have hx := h x (by simp)
    rw [if_pos hx, h3 fun y hy => h y (by simp [hy])]
    omega
theorem sums_part (xs : List Int) : ∀ N, 0 ≤ sumF (numL xs) N ∧ sumF (numL xs) N ≤ xs.length := fun N => ⟨(sums_num N xs).2.1, (sums_num N xs).1⟩
theorem ownL_in (s : SnapD) (l : Lst Int) (o : Nat) : ∀ k x, x ∈ ownL s l o k → 0 ≤ x ∧ ∃ j, j < k ∧ x = l.el j
  | k + 1, x, h => by
    simp only [ownL] at h
    rcases List.mem_append.1 h with h | h
    · obtain ⟨h0, j, hj, e⟩ := ownL_in s l o k x h
      exact ⟨h0, j, by omega, e⟩
    · split at h
      · rename_i hp
        simp only [List.mem_singleton] at h
        subst h
        simp only [ownP, Bool.and_eq_true, decide_eq_true_iff] at hp
        exact ⟨hp.1, k, by omega, rfl⟩
      · cases h
section
variable {c : SnapD} {p : Nat → Int}
theorem place_lt (h : ∀ i, i < c.pods.n → Place c (p i)) {i : Nat} (hi : i < c.pods.n) : p i < c.nodes.n := by
  rcases h i hi with e | ⟨m, hm, e, -⟩ <;> omega
theorem fit_may (hc : checkE c = 0) (h : ∀ i, i < c.pods.n → Place c (p i)) : mayB c ⟨c.pods.n, p⟩ = true := by
  unfold mayB
  rw [placeE_ok hc h]
  rfl
theorem fit_mayN (hc : checkE c = 0) (h : ∀ i, i < c.pods.n → Place c (p i)) {m : Nat} (hm : m < c.nodes.n) : mayNB c ⟨c.pods.n, p⟩ m = true := by
  unfold mayNB
  rw [fit_may hc h]
  simp
  omega
theorem fit_asked (hc : checkE c = 0) (h : ∀ i, i < c.pods.n → Place c (p i)) {o : Nat} (ho : o < c.owners.n) : askedB c ⟨c.pods.n, p⟩ o = true := by
  unfold askedB
  rw [fit_may hc h]
  simp
  omega
theorem fit_counts (hc : checkE c = 0) (h : ∀ i, i < c.pods.n → Place c (p i)) {o : Nat} (ho : o < c.owners.n) : countsL c ⟨c.pods.n, p⟩ o = ⟨c.nodes.n, numL (ownL c ⟨c.pods.n, p⟩ o c.pods.n)⟩ := by
  unfold countsL
  rw [fit_asked hc h ho]
  rfl
theorem fit_spread (hc : checkE c = 0) (h : ∀ i, i < c.pods.n → Place c (p i)) {o : Nat} (ho : o < c.owners.n) : spreadL c ⟨c.pods.n, p⟩ o = ⟨(domL c (c.owners.el o).topo c.nodes.n).length, numL ((ownL c ⟨c.pods.n, p⟩ o c.pods.n).map (inD c (c.owners.el o).topo))⟩ := by
  unfold spreadL
  rw [fit_asked hc h ho]
  rfl
theorem fit_placed (hc : checkE c = 0) (h : ∀ i, i < c.pods.n → Place c (p i)) {o : Nat} (ho : o < c.owners.n) : placedV c ⟨c.pods.n, p⟩ o = (ownL c ⟨c.pods.n, p⟩ o c.pods.n).length := by
  unfold placedV
  rw [fit_asked hc h ho]
  rfl
/-- all nodes together -/
theorem fit_used (hc : checkE c = 0) (h : ∀ i, i < c.pods.n → Place c (p i)) (i : Nat) : sumF (fun m => usedV c ⟨c.pods.n, p⟩ m i) c.nodes.n = sumF (placedR c p i) c.pods.n := by
  rw [← sums_used c ⟨c.pods.n, p⟩ i c.nodes.n c.pods.n (fun j hj => place_lt h hj)]
  exact sumF_eq _ fun m hm => by unfold usedV; rw [if_pos (fit_mayN hc h hm)]
theorem fit_owned (h : ∀ i, i < c.pods.n → Place c (p i)) (o : Nat) : sumF (numL (ownL c ⟨c.pods.n, p⟩ o c.pods.n)) c.nodes.n = (ownL c ⟨c.pods.n, p⟩ o c.pods.n).length :=
  (sums_num _ _).2.2 fun x hx => by
    obtain ⟨h0, j, hj, e⟩ := ownL_in _ _ _ _ _ hx
    exact ⟨h0, by rw [e]; exact place_lt h hj⟩
theorem fit_reqs (hc : checkE c = 0) (h : ∀ i, i < c.pods.n → Place c (p i)) {i : Nat} (hi : i < 5) (k : Nat) (hk : k ≤ c.pods.n) : 0 ≤ sumF (placedR c p i) k ∧ sumF (placedR c p i) k ≤ 1099511627776 := by
  obtain ⟨h1, -, h2, -, -⟩ := may_facts (fit_may hc h)
  have hf := shaped_reqs h1 i hi
  have hm := sumF_mono (fun k hk => (hf k hk).1) c.pods.n hk (Nat.le_refl _)
  have ha : AllE (fun k => (c.pods.el k).req) c.pods.n := by
    unfold reqsE plusE at h2
    split at h2
    · assumption
    · cases h2
  have h3 := (allE_iff _ _).1 ha i hi
  unfold addE at h3
  have hle : ∀ k, k ≤ c.pods.n → 0 ≤ sumF (placedR c p i) k ∧ sumF (placedR c p i) k ≤ sumF (fun k => (c.pods.el k).req i) k := by
    intro k
    induction k with
    | zero => exact fun _ => ⟨Int.le_refl _, Int.le_refl _⟩
    | succ k ih =>
      intro hk
      have := ih (by omega)
      have h4 : 0 ≤ (c.pods.el k).req i := (hf k (by omega)).1
      simp only [sumF, placedR]
      split <;> omega
  have := hle k hk
  split at h3
  · omega
  · cases h3
theorem placed_qty (hc : checkE c = 0) (h : ∀ i, i < c.pods.n → Place c (p i)) {i : Nat} (hi : i < 5) {k : Nat} (hk : k < c.pods.n) : 0 ≤ (c.pods.el k).req i ∧ (c.pods.el k).req i ≤ 1099511627776 := by
  obtain ⟨h1, -, -, -, -⟩ := may_facts (fit_may hc h)
  exact shaped_reqs h1 i hi k hk
theorem used_pos (hc : checkE c = 0) (h : ∀ i, i < c.pods.n → Place c (p i)) {i : Nat} (hi : i < 5) (m : Int) : 0 ≤ usedV c ⟨c.pods.n, p⟩ m i := by
  obtain ⟨h1, -, h2, -, -⟩ := may_facts (fit_may hc h)
  unfold usedV
  split
  · exact (req_fine h1 h2 _ i hi c.pods.n (Nat.le_refl _)).1
  · exact Int.le_refl _
theorem fit_nodes (hc : checkE c = 0) (h : ∀ i, i < c.pods.n → Place c (p i)) {i : Nat} (hi : i < 5) (k : Nat) (hk : k ≤ c.nodes.n) : 0 ≤ sumF (fun m => usedV c ⟨c.pods.n, p⟩ (m : Int) i) k ∧ sumF (fun m => usedV c ⟨c.pods.n, p⟩ (m : Int) i) k ≤ 1099511627776 := by
  have hp : ∀ k, k < c.nodes.n → 0 ≤ usedV c ⟨c.pods.n, p⟩ (k : Int) i := fun k _ => used_pos hc h hi k
  have h1 := sumF_nonneg hp k hk
  have h2 := sumF_mono hp c.nodes.n hk (Nat.le_refl _)
  rw [fit_used hc h i] at h2
  have h3 := fit_reqs hc h hi c.pods.n (Nat.le_refl _)
  exact ⟨h1, by omega⟩
end
end Go.Proofs.YthpmgnbehahkfaaGreat
