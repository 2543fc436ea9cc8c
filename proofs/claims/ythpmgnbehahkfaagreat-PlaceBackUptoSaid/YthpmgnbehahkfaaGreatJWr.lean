/- PlaceBack over data. -/
import Derived.Test.YthpmgnbehahkfaaGreatJWq
set_option linter.unusedSimpArgs false
set_option linter.unusedVariables false
namespace Go.Dn
open Go.RowKit Go.Dk
variable {P : Program} {B : Nat → List Nat} {st : St} {k : Ex → St → Prop} {u : Lk k}
/-- what is frozen behind the first part is told when it is known -/
theorem runHL_fsub {a b : Code} (h : runHL P B a st (fun e s => match e with
    | .normal => ∃ lo gs, runHL P B b (St.frzl lo gs s) k ⟨⟩
    | e => k e s) ⟨⟩) : runHL P B (.seq a b) st k u := runH_mono a _ _ _ (fun e s h => by cases e <;> exact h) h
end Go.Dn
namespace Go.Proofs.YthpmgnbehahkfaaGreat
open Go.RowKit Go.Dk Go.Dn

/-! The plain law: moves, one behind the other. -/
theorem movP_mem (p q : Lst Int) : ∀ j (x : Int × Int), x ∈ movP p q j → ∃ i : Nat, i < j ∧ x = ((i : Int), q.el i) ∧ p.el i ≠ q.el i
  | j + 1, x, h => by
    simp only [movP] at h
    rcases List.mem_append.1 h with h | h
    · obtain ⟨i, hi, e, hne⟩ := movP_mem p q j x h
      exact ⟨i, by omega, e, hne⟩
    · split at h
      · cases h
      · rename_i hne
        simp only [List.mem_singleton] at h
        exact ⟨j, by omega, h, hne⟩
theorem movP_rise (p q : Lst Int) : ∀ j, (movP p q j).Pairwise (fun a b => a.1 < b.1)
  | 0 => List.Pairwise.nil
  | j + 1 => by
    simp only [movP]
    refine List.pairwise_append.2 ⟨movP_rise p q j, ?_, fun a ha b hb => ?_⟩
    · split <;> simp
    · obtain ⟨i, hi, rfl, -⟩ := movP_mem p q j a ha
      split at hb
      · cases hb
      · simp only [List.mem_singleton] at hb
        subst hb
        show (i : Int) < (j : Int)
        omega
theorem movP_all (p q : Lst Int) : ∀ j i, i < j → p.el i ≠ q.el i → ((i : Int), q.el i) ∈ movP p q j
  | j + 1, i, h, hne => by
    simp only [movP]
    rcases Nat.lt_or_ge i j with h1 | h1
    · exact List.mem_append.2 (.inl (movP_all p q j i h1 hne))
    · obtain rfl : i = j := by omega
      rw [if_neg hne]
      simp
/-- behind the first moves -/
def behind (f : Nat → Int) (L : List (Int × Int)) : Nat → Nat → Int
  | 0 => f
  | k + 1 => match L[k]? with
    | some x => setC (behind f L k) x.1.toNat x.2
    | none => behind f L k
theorem behind_succ (f : Nat → Int) (L : List (Int × Int)) {k : Nat} (h : k < L.length) : behind f L (k + 1) = setC (behind f L k) L[k].1.toNat L[k].2 := by
  simp [behind, h]
section
variable {p q : Lst Int} {j : Nat}
theorem behind_or : ∀ k, k ≤ (movP p q j).length → ∀ i, behind p.el (movP p q j) k i = p.el i ∨ behind p.el (movP p q j) k i = q.el i
  | 0, _, i => .inl rfl
  | k + 1, hk, i => by
    rw [behind_succ _ _ (by omega)]
    obtain ⟨i', -, e, -⟩ := movP_mem p q j _ (List.getElem_mem (by omega : k < (movP p q j).length))
    rw [e]
    unfold setC
    by_cases h : i = ((i' : Int)).toNat
    · rw [if_pos h]
      rw [Int.toNat_natCast] at h
      exact .inr (by rw [h])
    · rw [if_neg h]
      exact behind_or k (by omega) i
theorem behind_new : ∀ k (h : k ≤ (movP p q j).length) (i : Nat), (∀ k' (h' : k' < (movP p q j).length), k' < k → (movP p q j)[k'].1 ≠ (i : Int)) → behind p.el (movP p q j) k i = p.el i
  | 0, _, i, _ => rfl
  | k + 1, hk, i, hn => by
    rw [behind_succ _ _ (by omega)]
    have h0 := hn k (by omega) (by omega)
    obtain ⟨i', -, e, -⟩ := movP_mem p q j _ (List.getElem_mem (by omega : k < (movP p q j).length))
    rw [e] at h0 ⊢
    unfold setC
    rw [if_neg (by rw [Int.toNat_natCast]; intro h; exact h0 (by rw [h]))]
    exact behind_new k (by omega) i fun k' h' hk' => hn k' h' (by omega)
theorem behind_old : ∀ k (h : k ≤ (movP p q j).length) (k' : Nat) (h' : k' < (movP p q j).length), k' < k → ∀ i : Nat, (movP p q j)[k'].1 = (i : Int) → behind p.el (movP p q j) k i = q.el i
  | k + 1, hk, k', h', hkk, i, hi => by
    rw [behind_succ _ _ (by omega)]
    obtain ⟨i', -, e, -⟩ := movP_mem p q j _ (List.getElem_mem (by omega : k < (movP p q j).length))
    rw [e]
    unfold setC
    by_cases h : i = ((i' : Int)).toNat
    · rw [if_pos h]
      rw [Int.toNat_natCast] at h
      rw [h]
    · rw [if_neg h]
      rcases Nat.lt_or_ge k' k with hl | hl
      · exact behind_old k (by omega) k' h' hl i hi
      · obtain rfl : k' = k := by omega
        rw [e] at hi
        exact absurd (by rw [Int.toNat_natCast]; have : (i' : Int) = (i : Int) := hi; omega) h
theorem behind_at {k : Nat} (h : k < (movP p q j).length) : ∃ i : Nat, i < j ∧ (movP p q j)[k] = ((i : Int), q.el i) ∧ behind p.el (movP p q j) k i = p.el i := by
  obtain ⟨i, hi, e, -⟩ := movP_mem p q j _ (List.getElem_mem h)
  refine ⟨i, hi, e, behind_new k (by omega) i fun k' h' hk' he => ?_⟩
  have := List.pairwise_iff_getElem.1 (movP_rise p q j) k' k h' h hk'
  rw [e, he] at this
  exact absurd this (Int.lt_irrefl _)
theorem behind_end {i : Nat} (hi : i < j) : behind p.el (movP p q j) (movP p q j).length i = q.el i := by
  by_cases h : p.el i = q.el i
  · rcases behind_or (p := p) (q := q) (j := j) _ (Nat.le_refl _) i with e | e
    · rw [e, h]
    · exact e
  · obtain ⟨k', h', e⟩ := List.getElem_of_mem (movP_all p q j i hi h)
    exact behind_old _ (Nat.le_refl _) k' h' h' i (by rw [e])
end
end Go.Proofs.YthpmgnbehahkfaaGreat
