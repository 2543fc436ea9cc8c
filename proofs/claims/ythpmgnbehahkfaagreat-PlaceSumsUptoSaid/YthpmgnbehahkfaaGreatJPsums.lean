/-
  PlaceSums: what all nodes have together is what all pods that do not wait ask for; what an owner has on all nodes is what of it is placed, and no less than what its domains have together. For every input of bulk at most 1048576; no other condition.
-/
import Derived.Test.YthpmgnbehahkfaaGreatJWu
import Derived.Test.YthpmgnbehahkfaaGreatJQo
set_option linter.unusedSimpArgs false
set_option linter.unusedVariables false
namespace Go.Proofs.YthpmgnbehahkfaaGreat.placeSums
open Go.ChangeShapes Go.WideShapes Go.ChangeAt Go.RowKit
open Go.Dk Go.Dn
set_option linter.unusedVariables false

theorem own : ownKnob Tryz.prog.godebug = none := by kernel_rfl
theorem laidOut : laidOutB Tryz.prog = true := by kernel_rfl

theorem flats : FlatAll Tryz.prog [26, 27] [snapK, [.sl [.i .i64]]] :=
  ⟨⟨8, by kernel_rfl, by kernel_rfl⟩, ⟨8, by kernel_rfl, by kernel_rfl⟩, trivial⟩
set_option maxRecDepth 100000 in
theorem told (dss : List (List FD)) (h : IsLL [snapK, [.sl [.i .i64]]] dss) (hb : bkLL dss ≤ 1048576) : Pure Tryz.prog 8 (packs Tryz.prog [26, 27] dss) (.v (.bool true)) := by
  obtain ⟨d0, _, rfl, h0, h⟩ := isLL_cons h
  obtain ⟨d1, _, rfl, h1, h⟩ := isLL_cons h
  obtain rfl := isLL_nil h
  simp only [bkLL] at hb
  obtain ⟨s, rfl, ok⟩ := snap_of h0 (by omega)
  unfold IsL at h1
  obtain ⟨e1, es1, rfl, h1, he1⟩ := h1
  unfold IsL at he1
  subst he1
  simp only [bkL] at hb
  obtain ⟨l1, rfl, hl1, -⟩ := ints_of h1
  have a0 : aggB Tryz.prog 26 = true := by kernel_rfl
  have a1 : aggB Tryz.prog 27 = false := by kernel_rfl
  simp only [packs, a0, a1, pk]
  exact placeSums_pure s ok l1 (hl1 (by omega))

set_option maxRecDepth 100000 in
theorem lifted (os : Os) (started : os.Started) (H : Type) (enc : TypeId × Value → H) (F : Stop.Interp) :
    ReturnsInHanded {} Tryz.checked os 8 .any ((Rows.OpenSpec.upto Rows.placeSumsSpec).pre6 enc Tryz.prog Tryz.f8 Rows.placeSumsUptoRow.domain false) (((Rows.OpenSpec.upto Rows.placeSumsSpec).at F).post enc Tryz.prog Tryz.f8 false true false false) := by
  refine returnsInHanded_of_cond (C := Tryz.checked) (s := Rows.OpenSpec.upto Rows.placeSumsSpec) (k := Rows.uptoSmall) rfl own started (by kernel_rfl) Tryz.func8
    (OpenSpec.witness (enc := enc) (C := Tryz.checked) (s := Rows.OpenSpec.upto Rows.placeSumsSpec) (k := Rows.uptoSmall) rfl false
      ⟨#[], #[.agg #[.slice none 0 0, .slice none 0 0, .slice none 0 0], .slice none 0 0], []⟩ 8 (by kernel_rfl) (by kernel_rfl) (by kernel_rfl)
      (x := ([.agg [.nil, .nil, .nil], .nil], [], [])) (by kernel_rfl) rfl (by kernel_rfl)) ?_
  intro W base args ds gs before hval hW _ hk _
  exact law_contract laidOut (by kernel_rfl) (by kernel_rfl) Tryz.underlying4 rfl (fun ds hl => by
    match ds, hl with
    | [a, b], _ => exact ⟨rfl, rfl, rfl⟩) flats (by kernel_rfl) told base args ds gs before hval hW hk

/-- ████ THE STATEMENT ████ -/
theorem proved : Rows.PlaceSumsUptoSaid :=
  OpenClaim.holds_of_cond 8 Tryz.f8 rfl rfl rfl rfl rfl rfl rfl ⟨rfl, rfl, rfl, rfl, rfl⟩ rfl rfl rfl rfl rfl (by kernel_rfl) Tryz.func8 (by kernel_rfl)
    (of_decide_eq_true (by kernel_rfl)) (by unfold Func.isWrapper; first | (rw [if_pos (by decide +kernel)]; kernel_rfl) | (rw [if_neg (by decide +kernel)]; exact ⟨rfl, rfl⟩))
    (fun os started H enc _ F => lifted os started H enc F)
#print axioms proved
end Go.Proofs.YthpmgnbehahkfaaGreat.placeSums
