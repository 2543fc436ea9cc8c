/-
  StorePlays: what a store answers, call by call, is what the chapter says. For every input of bulk at most 1048576; no other condition.
-/
import Derived.Test.YtlefoohoeomklaaGreatJQv
import Derived.Test.YtlefoohoeomklaaGreatJQn
import Derived.Test.YtlefoohoeomklaaGreatJQo
set_option linter.unusedSimpArgs false
set_option linter.unusedVariables false
namespace Go.Proofs.YtlefoohoeomklaaGreat.storePlays
open Go.ChangeShapes Go.WideShapes Go.ChangeAt Go.RowKit
open Go.Dk Go.Dn
set_option linter.unusedVariables false

theorem own : ownKnob Tryz.prog.godebug = none := by kernel_rfl
theorem laidOut : laidOutB Tryz.prog = true := by kernel_rfl

theorem flats : FlatAll Tryz.prog [26, 45] [snapK, [.sl doK]] :=
  ⟨⟨8, by kernel_rfl, by kernel_rfl⟩, ⟨8, by kernel_rfl, by kernel_rfl⟩, trivial⟩
set_option maxRecDepth 100000 in
theorem told (dss : List (List FD)) (h : IsLL [snapK, [.sl doK]] dss) (hb : bkLL dss ≤ 1048576) : Pure Tryz.prog 5 (packs Tryz.prog [26, 45] dss) (.v (.bool true)) := by
  obtain ⟨d0, _, rfl, h0, h⟩ := isLL_cons h
  obtain ⟨d1, _, rfl, h1, h⟩ := isLL_cons h
  obtain rfl := isLL_nil h
  simp only [bkLL] at hb
  obtain ⟨s, rfl, ok⟩ := snap_of h0 (by omega)
  unfold IsL at h1
  obtain ⟨e, es, rfl, h1, he⟩ := h1
  unfold IsL at he
  subst he
  simp only [bkL] at hb
  obtain ⟨l, rfl, hl, -⟩ := dos_of h1
  have a0 : aggB Tryz.prog 26 = true := by kernel_rfl
  have a1 : aggB Tryz.prog 45 = false := by kernel_rfl
  simp only [packs, a0, a1, pk]
  exact storePlays_pure s ok l (hl (by omega))

set_option maxRecDepth 100000 in
theorem lifted (os : Os) (started : os.Started) (H : Type) (enc : TypeId × Value → H) (F : Stop.Interp) :
    ReturnsInHanded {} Tryz.checked os 5 .any ((Rows.OpenSpec.upto Rows.storePlaysSpec).pre6 enc Tryz.prog Tryz.f5 Rows.storePlaysUptoRow.domain false) (((Rows.OpenSpec.upto Rows.storePlaysSpec).at F).post enc Tryz.prog Tryz.f5 false true false false) := by
  refine returnsInHanded_of_cond (C := Tryz.checked) (s := Rows.OpenSpec.upto Rows.storePlaysSpec) (k := Rows.uptoSmall) rfl own started (by kernel_rfl) Tryz.func5
    (OpenSpec.witness (enc := enc) (C := Tryz.checked) (s := Rows.OpenSpec.upto Rows.storePlaysSpec) (k := Rows.uptoSmall) rfl false
      ⟨#[], #[.agg #[.slice none 0 0, .slice none 0 0, .slice none 0 0], .slice none 0 0], []⟩ 8 (by kernel_rfl) (by kernel_rfl) (by kernel_rfl)
      (x := ([.agg [.nil, .nil, .nil], .nil], [], [])) (by kernel_rfl) rfl (by kernel_rfl)) ?_
  intro W base args ds gs before hval hW _ hk _
  exact law_contract laidOut (by kernel_rfl) (by kernel_rfl) Tryz.underlying4 rfl (fun ds hl => by
    match ds, hl with
    | [a, b], _ => exact ⟨rfl, rfl, rfl⟩) flats (by kernel_rfl) told base args ds gs before hval hW hk

/-- ████ THE STATEMENT ████ -/
theorem proved : Rows.StorePlaysUptoSaid :=
  OpenClaim.holds_of_cond 5 Tryz.f5 rfl rfl rfl rfl rfl rfl rfl ⟨rfl, rfl, rfl, rfl, rfl⟩ rfl rfl rfl rfl rfl (by kernel_rfl) Tryz.func5 (by kernel_rfl)
    (of_decide_eq_true (by kernel_rfl)) (by unfold Func.isWrapper; first | (rw [if_pos (by decide +kernel)]; kernel_rfl) | (rw [if_neg (by decide +kernel)]; exact ⟨rfl, rfl⟩))
    (fun os started H enc _ F => lifted os started H enc F)
#print axioms proved
end Go.Proofs.YtlefoohoeomklaaGreat.storePlays
