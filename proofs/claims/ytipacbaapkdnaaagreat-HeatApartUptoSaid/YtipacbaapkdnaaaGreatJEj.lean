/- heat.Share, as a contract of data. -/
import Derived.Test.YtipacbaapkdnaaaGreatJEd
import Derived.Test.YtipacbaapkdnaaaGreatJYt
set_option linter.unusedSimpArgs false
set_option linter.unusedVariables false
namespace Go.Proofs.YtipacbaapkdnaaaGreat
open Go.RowKit Go.Dk Go.Dn
theorem heatShare_pure (s : SnapD) (ok : SnapOk s) (l : Lst Int) (hl : l.n ≤ 1048576) (k : Int) : Pure Tryz.prog 10 [snapF s, intsF l, I k] (twoF (shV s l k 0) (shV s l k 1)) :=
  ⟨goes_of Tryz.func10 rfl rfl, fun x vs _ hr => by
    obtain ⟨u, v, z, rfl, h1, h2, h3⟩ := repL3 hr
    obtain ⟨n, p, o, lv, tv, pv, rfl, h⟩ := snap_of_rep h1 ok
    unfold Rep at h3
    subst h3
    exact (heatShare_any h (ints_of_rep h2 hl) k).mono fun e w' ⟨h1, h2⟩ => ⟨_, h1, rep_two, h2⟩⟩
end Go.Proofs.YtipacbaapkdnaaaGreat
