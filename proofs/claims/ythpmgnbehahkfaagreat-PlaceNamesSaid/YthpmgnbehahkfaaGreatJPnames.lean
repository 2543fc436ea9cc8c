/-
  PlaceNames: what may not be; both ends. A closed statement; no condition.
-/
import Derived.Test.YthpmgnbehahkfaaGreatJWw
import Derived.Test.YthpmgnbehahkfaaGreatJQo
set_option linter.unusedSimpArgs false
set_option linter.unusedVariables false
namespace Go.Proofs.YthpmgnbehahkfaaGreat.placeNames
open Go.ChangeShapes Go.WideShapes Go.ChangeAt Go.RowKit
open Go.Dk Go.Dn
set_option linter.unusedVariables false

theorem own : ownKnob Tryz.prog.godebug = none := by kernel_rfl
theorem laidOut : laidOutB Tryz.prog = true := by kernel_rfl
theorem told (dss : List (List FD)) (h : IsLL [] dss) (hb : bkLL dss ≤ 1048576) : Pure Tryz.prog 10 (packs Tryz.prog [] dss) (.v (.bool true)) := by
  obtain rfl := isLL_nil h
  exact placeNames_pure

set_option maxRecDepth 100000 in
theorem lifted (os : Os) (started : os.Started) (H : Type) (enc : TypeId × Value → H) :
    ReturnsInHanded {} Tryz.checked os 10 .any (Rows.placeNamesSpec.pre6 enc Tryz.prog Tryz.f10 Rows.placeNamesRow.domain false) (Rows.placeNamesSpec.post enc Tryz.prog Tryz.f10 false true false false) := by
  refine returnsInHanded_of_change (C := Tryz.checked) own started (by kernel_rfl) Tryz.func10
    (ChangeSpec.witness6 (enc := enc) (C := Tryz.checked) false ⟨#[], #[], []⟩ 8 (by kernel_rfl) (by kernel_rfl) (by kernel_rfl) (by kernel_rfl)) ?_
  intro W base args ds gs before hval hW hcnd _
  have hA := hW
  obtain ⟨p, q, hA0, hV, -, -, -⟩ := hA
  have hts : Tryz.f10.params.toList = [] := by kernel_rfl
  rw [hts] at hA0
  obtain ⟨-, rfl, -⟩ := trodAll_nil hA0
  obtain ⟨rfl, -⟩ := trodVars_none hV
  exact law_contract laidOut hts (by kernel_rfl) Tryz.underlying4 rfl (fun ds hl => by
    obtain rfl := List.eq_nil_of_length_eq_zero hl
    exact ⟨rfl, rfl, rfl⟩) (ls := []) trivial rfl told base args [] [] before hval hW (by rfl)

theorem over : Rows.placeNamesRow.holds Tryz.pinned (OpenSpec.ofChange Rows.placeNamesSpec) :=
  OpenClaim.holds_of_wide 10 Tryz.f10 rfl rfl rfl rfl rfl rfl rfl ⟨rfl, rfl, rfl, rfl, rfl⟩ rfl rfl rfl rfl rfl (by kernel_rfl) Tryz.func10 (by kernel_rfl)
    (of_decide_eq_true (by kernel_rfl)) (by unfold Func.isWrapper; first | (rw [if_pos (by decide +kernel)]; kernel_rfl) | (rw [if_neg (by decide +kernel)]; exact ⟨rfl, rfl⟩))
    (fun os started H enc _ => lifted os started H enc)

/-- ████ THE STATEMENT ████ -/
theorem proved : Rows.PlaceNamesSaid := over
#print axioms proved
end Go.Proofs.YthpmgnbehahkfaaGreat.placeNames
