/- A slice in memory, as data. -/
import Derived.Test.YthpmgnbehahkfaaGreatJQh
set_option linter.unusedSimpArgs false
set_option linter.unusedVariables false
namespace Go.Proofs.YthpmgnbehahkfaaGreat
open Go.RowKit Go.Dk

/-- a slice of n elements of sz cells each: cells k are those of the k-th -/
def Sl (w : World) (a : Option Addr) (n c sz : Nat) (cells : Nat → List Value) : Prop :=
  n ≤ c ∧ c ≤ 9223372036854775807 ∧ (a = none → c = 0) ∧ ∀ k, k < n → (cells k).length = sz ∧ ∃ b o, a = some ⟨b, o, none⟩ ∧ ∀ j v, (cells k)[j]? = some v → w.cell? ⟨b, o + k * sz + j, none⟩ = some v

theorem Sl.chg {S : Nat → Prop} {w w' : World} {a : Option Addr} {n c sz : Nat} {cells : Nat → List Value} (h : Sl w a n c sz cells) (hc : Chg S w w') (hs : ∀ ad, a = some ad → ¬ S ad.block) : Sl w' a n c sz cells := by
  refine ⟨h.1, h.2.1, h.2.2.1, fun k hk => ?_⟩
  obtain ⟨hl, b, o, ha, hcell⟩ := h.2.2.2 k hk
  exact ⟨hl, b, o, ha, fun j v hj => hc.cell (hcell j v hj) (hs ⟨b, o, none⟩ ha)⟩
theorem Sl.no {w w' : World} {a : Option Addr} {n c sz : Nat} {cells : Nat → List Value} (h : Sl w a n c sz cells) (hc : Chg No w w') : Sl w' a n c sz cells := h.chg hc fun _ _ => id

theorem flat_at (cells : Nat → List Value) (n sz : Nat) (h : ∀ k, k < n → (cells k).length = sz) :
    ((List.range n).flatMap cells).length = n * sz ∧ ∀ i u, ((List.range n).flatMap cells)[i]? = some u → ∃ k j, k < n ∧ i = k * sz + j ∧ (cells k)[j]? = some u := by
  induction n with
  | zero => simp
  | succ n ih =>
    obtain ⟨hl, hi⟩ := ih fun k hk => h k (by omega)
    rw [List.range_succ, List.flatMap_append]
    have hn := h n (by omega)
    refine ⟨by simp [hl, hn, Nat.add_mul], fun i u hu => ?_⟩
    by_cases hlt : i < n * sz
    · rw [List.getElem?_append_left (by omega)] at hu
      obtain ⟨k, j, hk, e, hj⟩ := hi i u hu
      exact ⟨k, j, by omega, e, hj⟩
    · rw [List.getElem?_append_right (by omega), hl] at hu
      exact ⟨n, i - n * sz, by omega, by omega, by simpa using hu⟩

theorem Sl.rd {w : World} {a : Option Addr} {n c sz : Nat} {cells : Nat → List Value} (h : Sl w a n c sz cells) : Rd w (.slice a n c) sz n ((List.range n).flatMap cells) := by
  obtain ⟨hl, hi⟩ := flat_at cells n sz fun k hk => (h.2.2.2 k hk).1
  refine ⟨a, c, rfl, hl, h.1, h.2.2.1, fun ad had j u hu => ?_⟩
  obtain ⟨k, i, hk, rfl, hji⟩ := hi j u hu
  obtain ⟨_, b, o, ha, hcell⟩ := h.2.2.2 k hk
  rw [had] at ha
  injection ha with ha
  subst ha
  have := hcell i u hji
  rw [show (⟨b, o, none⟩ : Addr).add (k * sz + i) = ⟨b, o + (k * sz + i), none⟩ by unfold Addr.add; split <;> simp_all, ← Nat.add_assoc]
  exact this
end Go.Proofs.YthpmgnbehahkfaaGreat
