/- Contracts of old, as contracts of data: drayageref05.Node, what is alike. -/
import Derived.Test.YthpmgnbehahkfaaGreatJEb
import Derived.Test.YthpmgnbehahkfaaGreatJQj
import Derived.Test.YthpmgnbehahkfaaGreatJZl
set_option linter.unusedSimpArgs false
set_option linter.unusedVariables false
namespace Go.Proofs.YthpmgnbehahkfaaGreat
open Go.RowKit Go.Dk Go.Dn

theorem refNode_pure (s : SnapD) (ok : SnapOk s) (nm : ByteArray) : Pure Tryz.prog 63 [snapF s, S nm] (I (nameIdx (fun k => (s.nodes.el k).name) s.nodes.n nm)) :=
  pure_of Tryz.func63 rfl rfl fun x vs hr => by
    obtain ⟨u, v, rfl, h1, h2⟩ := repL2 hr
    obtain ⟨n, p, o, lv, tv, pv, rfl, h⟩ := snap_of_rep h1 ok
    unfold Rep at h2
    subst h2
    exact refNode_any h nm
theorem sameLab_pure (l : Lst LabD) (ok : LabsOk l) : Pure Tryz.prog 79 [labsF l, labsF l] (B true) :=
  pure_of Tryz.func79 rfl rfl fun x vs hr => by
    obtain ⟨u, v, rfl, h1, h2⟩ := repL2 hr
    exact sameLab_any (labs_of_rep h1 ok) (labs_of_rep h2 ok)
theorem sameTerm_pure (l : Lst TermD) (ok : TermsOk l) : Pure Tryz.prog 80 [termsF l, termsF l] (B true) :=
  pure_of Tryz.func80 rfl rfl fun x vs hr => by
    obtain ⟨u, v, rfl, h1, h2⟩ := repL2 hr
    exact sameTerm_any (terms_of_rep h1 ok) (terms_of_rep h2 ok)
theorem sameNear_pure (t : ByteArray) (l : Lst TermD) (ok : TermsOk l) : Pure Tryz.prog 81 [.agg [S t, termsF l], .agg [S t, termsF l]] (B true) :=
  pure_of Tryz.func81 rfl rfl fun x vs hr => by
    obtain ⟨u, v, rfl, h1, h2⟩ := repL2 hr
    unfold Rep at h1 h2
    obtain ⟨vs1, rfl, h1⟩ := h1
    obtain ⟨vs2, rfl, h2⟩ := h2
    simp only [repC_V, repC_terms, repC_nil] at h1 h2
    obtain ⟨_, rfl, -, u1, _, rfl, k1, rfl⟩ := h1
    obtain ⟨_, rfl, -, u2, _, rfl, k2, rfl⟩ := h2
    exact sameNear_any (terms_of_rep k1 ok) (terms_of_rep k2 ok)
end Go.Proofs.YthpmgnbehahkfaaGreat
