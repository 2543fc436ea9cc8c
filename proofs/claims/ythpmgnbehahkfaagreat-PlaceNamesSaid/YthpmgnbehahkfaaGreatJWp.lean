/- Rows of steps, out of the law's arguments. -/
import Derived.Test.YthpmgnbehahkfaaGreatJWo
import Derived.Test.YthpmgnbehahkfaaGreatJQo
set_option linter.unusedSimpArgs false
set_option linter.unusedVariables false
namespace Go.Proofs.YthpmgnbehahkfaaGreat
open Go.RowKit Go.Dk Go.Dn

theorem steps_of {d : FD} (h : IsK (.sl [.i .i64, .i .i64, .i .i64]) d) : ∃ r : Lst StepD, d = stepsF r ∧ (bk d ≤ 1048576 → r.n ≤ 1048576) ∧ ∀ k, k < r.n → (Lit.int .i64 (r.el k).kind).wf = true ∧ (Lit.int .i64 (r.el k).pod).wf = true ∧ (Lit.int .i64 (r.el k).node).wf = true := by
  obtain ⟨r, rfl, hn, hk⟩ := rows_of (α := StepD) ⟨0, 0, 0⟩ stepF (fun x _ => (Lit.int .i64 x.kind).wf = true ∧ (Lit.int .i64 x.pod).wf = true ∧ (Lit.int .i64 x.node).wf = true) (fun a i j hij h => h) (fun c hc => by
    simp only [IsL, IsK] at hc
    obtain ⟨_, _, rfl, ⟨n, rfl, h1⟩, _, _, rfl, ⟨a, rfl, h2⟩, _, _, rfl, ⟨b, rfl, h3⟩, rfl⟩ := hc
    exact ⟨⟨n, a, b⟩, rfl, ⟨h1, h2, h3⟩, bkL_pos⟩) h
  exact ⟨r, rfl, fun hb => by omega, hk⟩
end Go.Proofs.YthpmgnbehahkfaaGreat
