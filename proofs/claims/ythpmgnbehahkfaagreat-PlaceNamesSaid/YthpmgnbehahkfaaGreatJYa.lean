/- May a cluster be: the words. -/
import Derived.Test.YthpmgnbehahkfaaGreatJZu
import Derived.Test.YthpmgnbehahkfaaGreatJQf
import Derived.Test.YthpmgnbehahkfaaGreatJQg
import Derived.Test.YthpmgnbehahkfaaGreatJQc
set_option linter.unusedSimpArgs false
set_option linter.unusedVariables false
namespace Go.Proofs.YthpmgnbehahkfaaGreat
open Go.RowKit Go.Dk

def Wd.al {S : Nat → Prop} {W : World} (y : Wd S W) (o : Obj) : Wd S W := ⟨y.w.alloc o, y.chg.alloc o⟩
theorem Wd.of {S : Nat → Prop} {W w' : World} (h : Chg S W w') : ∃ y : Wd S W, y.w = w' := ⟨⟨w', h⟩, rfl⟩
def allB (p : Nat → Bool) (n : Nat) : Bool := !anyB (fun k => !p k) n
theorem allB_iff {p : Nat → Bool} {n : Nat} : allB p n = true ↔ ∀ k, k < n → p k = true := by
  unfold allB anyB
  simp only [Bool.not_eq_true', decide_eq_false_iff_not]
  constructor
  · intro h k hk
    cases hp : p k with
    | true => rfl
    | false => exact absurd ⟨k, hk, by simp [hp]⟩ h
  · rintro h ⟨k, hk, h2⟩
    rw [h k hk] at h2
    cases h2
theorem allB_false {p : Nat → Bool} {n k : Nat} (hk : k < n) (h : p k = false) : allB p n = false := by
  cases ha : allB p n with
  | false => rfl
  | true => rw [allB_iff.1 ha k hk] at h; cases h
def manyB (s : SnapD) : Bool := decide (8 < s.nodes.n) || decide (24 < s.pods.n) || decide (8 < s.owners.n)
def riseN (s : SnapD) : Bool := riseB (fun k => (s.nodes.el k).name) s.nodes.n
def riseP (s : SnapD) : Bool := riseB (fun k => (s.pods.el k).name) s.pods.n
def riseO (s : SnapD) : Bool := riseB (fun k => (s.owners.el k).name) s.owners.n
def allN (s : SnapD) : Bool := allB (fun k => nodeB (s.nodes.el k)) s.nodes.n
def allP (s : SnapD) : Bool := allB (fun k => podB s (s.pods.el k)) s.pods.n
def allO (s : SnapD) : Bool := allB (fun k => ownerB (s.owners.el k)) s.owners.n
def shapedB (s : SnapD) : Bool := !manyB s && riseN s && riseP s && riseO s && allN s && allO s && allP s
def capsE (s : SnapD) : Int := plusE (fun k => (s.nodes.el k).cap) s.nodes.n
def reqsE (s : SnapD) : Int := plusE (fun k => (s.pods.el k).req) s.pods.n
/-- may a cluster be: the error's number -/
def checkE (s : SnapD) : Int := if shapedB s then (if capsE s = 0 ∧ reqsE s = 0 then 0 else 10) else 50

theorem vecE_fine {v0 v1 v2 v3 v4 : Int} (h : vecE v0 v1 v2 v3 v4 = 0) : ∀ x, x = v0 ∨ x = v1 ∨ x = v2 ∨ x = v3 ∨ x = v4 → 0 ≤ x ∧ x ≤ 1099511627776 := by
  unfold vecE at h
  split at h
  · cases h
  · split at h
    · cases h
    · rintro x (rfl | rfl | rfl | rfl | rfl) <;> omega
theorem cap_fine {x : Nat → Int} (h : vecE (x 0) (x 1) (x 2) (x 3) (x 4) = 0) (i : Nat) (hi : i < 5) : 0 ≤ x i ∧ x i ≤ 1099511627776 := by
  match i, hi with
  | 0, _ => exact vecE_fine h _ (by simp)
  | 1, _ => exact vecE_fine h _ (by simp)
  | 2, _ => exact vecE_fine h _ (by simp)
  | 3, _ => exact vecE_fine h _ (by simp)
  | 4, _ => exact vecE_fine h _ (by simp)
theorem shaped_caps {s : SnapD} (h : shapedB s = true) : ∀ i, i < 5 → Fine (fun k => (s.nodes.el k).cap i) s.nodes.n := by
  intro i hi k hk
  simp only [shapedB, Bool.and_eq_true] at h
  have := allB_iff.1 h.1.1.2 k hk
  simp only [nodeB, Bool.and_eq_true, decide_eq_true_iff] at this
  exact cap_fine this.1.1 i hi
theorem shaped_reqs {s : SnapD} (h : shapedB s = true) : ∀ i, i < 5 → Fine (fun k => (s.pods.el k).req i) s.pods.n := by
  intro i hi k hk
  simp only [shapedB, Bool.and_eq_true] at h
  have := allB_iff.1 h.2 k hk
  simp only [podB, restB, Bool.and_eq_true, decide_eq_true_iff] at this
  exact cap_fine this.2.1.1.1.1.1 i hi

def LoopRel (W : World) (p : Nat → Bool) (n : Nat) (i : Value) (wr : World) : Prop := ∃ k : Nat, i = .int .i64 k ∧ k ≤ n ∧ (∀ j, j < k → p j = true) ∧ Chg No W wr
end Go.Proofs.YthpmgnbehahkfaaGreat
