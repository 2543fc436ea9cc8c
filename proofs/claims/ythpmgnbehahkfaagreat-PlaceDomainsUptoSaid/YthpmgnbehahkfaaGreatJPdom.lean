/-
  PlaceDomains: Domain and Domains answer as the chapter says, of all clusters, nodes and keys. For every input of bulk at most 1048576; no other condition.
-/
import Derived.Test.YthpmgnbehahkfaaGreatJWn
import Derived.Test.YthpmgnbehahkfaaGreatJQo
set_option linter.unusedSimpArgs false
set_option linter.unusedVariables false
namespace Go.Proofs.YthpmgnbehahkfaaGreat.placeDomains
open Go.ChangeShapes Go.WideShapes Go.ChangeAt Go.RowKit
open Go.Dk Go.Dn
set_option linter.unusedVariables false

theorem own : ownKnob Tryz.prog.godebug = none := by kernel_rfl
theorem laidOut : laidOutB Tryz.prog = true := by kernel_rfl

theorem flats : FlatAll Tryz.prog [26, 3, 9] [snapK, [.i .i64], [.s]] :=
  ⟨⟨8, by kernel_rfl, by kernel_rfl⟩, ⟨8, by kernel_rfl, by kernel_rfl⟩, ⟨8, by kernel_rfl, by kernel_rfl⟩, trivial⟩
set_option maxRecDepth 100000 in
theorem told (dss : List (List FD)) (h : IsLL [snapK, [.i .i64], [.s]] dss) (hb : bkLL dss ≤ 1048576) : Pure Tryz.prog 6 (packs Tryz.prog [26, 3, 9] dss) (.v (.bool true)) := by
  obtain ⟨d0, _, rfl, h0, h⟩ := isLL_cons h
  obtain ⟨d1, _, rfl, h1, h⟩ := isLL_cons h
  obtain ⟨d2, _, rfl, h2, h⟩ := isLL_cons h
  obtain rfl := isLL_nil h
  simp only [bkLL] at hb
  obtain ⟨s, rfl, ok⟩ := snap_of h0 (by omega)
  simp only [IsL, IsK] at h1
  obtain ⟨_, _, rfl, ⟨n1, rfl, -⟩, rfl⟩ := h1
  simp only [IsL, IsK] at h2
  obtain ⟨_, _, rfl, ⟨n2, rfl, -⟩, rfl⟩ := h2
  have a0 : aggB Tryz.prog 26 = true := by kernel_rfl
  have a1 : aggB Tryz.prog 3 = false := by kernel_rfl
  have a2 : aggB Tryz.prog 9 = false := by kernel_rfl
  simp only [packs, a0, a1, a2, pk]
  exact placeDomains_pure s ok n1 n2

set_option maxRecDepth 100000 in
theorem lifted (os : Os) (started : os.Started) (H : Type) (enc : TypeId × Value → H) (F : Stop.Interp) :
    ReturnsInHanded {} Tryz.checked os 6 .any ((Rows.OpenSpec.upto Rows.placeDomainsSpec).pre6 enc Tryz.prog Tryz.f6 Rows.placeDomainsUptoRow.domain false) (((Rows.OpenSpec.upto Rows.placeDomainsSpec).at F).post enc Tryz.prog Tryz.f6 false true false false) := by
  refine returnsInHanded_of_cond (C := Tryz.checked) (s := Rows.OpenSpec.upto Rows.placeDomainsSpec) (k := Rows.uptoSmall) rfl own started (by kernel_rfl) Tryz.func6
    (OpenSpec.witness (enc := enc) (C := Tryz.checked) (s := Rows.OpenSpec.upto Rows.placeDomainsSpec) (k := Rows.uptoSmall) rfl false
      ⟨#[], #[.agg #[.slice none 0 0, .slice none 0 0, .slice none 0 0], .int .i64 0, .string ByteArray.empty], []⟩ 8 (by kernel_rfl) (by kernel_rfl) (by kernel_rfl)
      (x := ([.agg [.nil, .nil, .nil], .lit (.int .i64 0), .lit (.string [])], [], [])) (by kernel_rfl) rfl (by kernel_rfl)) ?_
  intro W base args ds gs before hval hW _ hk _
  exact law_contract laidOut (by kernel_rfl) (by kernel_rfl) Tryz.underlying4 rfl (fun ds hl => by
    match ds, hl with
    | [a, b, c], _ => exact ⟨rfl, rfl, rfl⟩) flats (by kernel_rfl) told base args ds gs before hval hW hk

/-- ████ THE STATEMENT ████ -/
theorem proved : Rows.PlaceDomainsUptoSaid :=
  OpenClaim.holds_of_cond 6 Tryz.f6 rfl rfl rfl rfl rfl rfl rfl ⟨rfl, rfl, rfl, rfl, rfl⟩ rfl rfl rfl rfl rfl (by kernel_rfl) Tryz.func6 (by kernel_rfl)
    (of_decide_eq_true (by kernel_rfl)) (by unfold Func.isWrapper; first | (rw [if_pos (by decide +kernel)]; kernel_rfl) | (rw [if_neg (by decide +kernel)]; exact ⟨rfl, rfl⟩))
    (fun os started H enc _ F => lifted os started H enc F)
#print axioms proved
end Go.Proofs.YthpmgnbehahkfaaGreat.placeDomains
