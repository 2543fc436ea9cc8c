/- Clusters, rows of labels, of terms, of numbers: as data without addresses. -/
import Derived.Test.YthpmgnbehahkfaaGreatJDb
import Derived.Test.YthpmgnbehahkfaaGreatJYe
set_option linter.unusedSimpArgs false
set_option linter.unusedVariables false
namespace Go.Proofs.YthpmgnbehahkfaaGreat
open Go.RowKit Go.Dk Go.Dn

/-! ### What a machine can hold -/
def LabsOk (l : Lst LabD) : Prop := l.n ≤ 1048576 ∧ ∀ k, k < l.n → Sm (l.el k).key ∧ Sm (l.el k).val
def TermsOk (l : Lst TermD) : Prop := l.n ≤ 1048576 ∧ ∀ k, k < l.n → Sm (l.el k).key ∧ Sm (l.el k).val
def NodeOk (x : NodeD) : Prop := Sm x.name ∧ LabsOk x.labels ∧ LabsOk x.taints
def PodOk (p : PodD) : Prop := (Sm p.name ∧ Sm p.owner ∧ Sm p.on ∧ Sm p.wTopo ∧ Sm p.aTopo) ∧ LabsOk p.labels ∧ TermsOk p.where_ ∧ LabsOk p.bears ∧ TermsOk p.wTerms ∧ TermsOk p.aTerms
structure SnapOk (s : SnapD) : Prop where
  n1 : s.nodes.n ≤ 1048576
  n2 : ∀ k, k < s.nodes.n → NodeOk (s.nodes.el k)
  p1 : s.pods.n ≤ 1048576
  p2 : ∀ k, k < s.pods.n → PodOk (s.pods.el k)
  o1 : s.owners.n ≤ 1048576
  o2 : ∀ k, k < s.owners.n → OwnerAt (s.owners.el k)

/-! ### Data in memory -/
theorem repC_labs {x : X} {vs : List Value} {l : Lst LabD} {ds : List FD} : RepC x vs (labsF l :: ds) = ∃ u us, vs = u :: us ∧ Rep x u (labsF l) ∧ RepC x us ds := by
  simp only [RepC]
  refine propext ⟨fun ⟨u, us, e, h1, h2, h3⟩ => ⟨u, us, e, h2, h3⟩, fun ⟨u, us, e, h2, h3⟩ => ⟨u, us, e, ?_, h2, h3⟩⟩
  unfold labsF Rep at h2
  obtain ⟨a, c, rfl, -⟩ := h2
  rfl
theorem repC_terms {x : X} {vs : List Value} {l : Lst TermD} {ds : List FD} : RepC x vs (termsF l :: ds) = ∃ u us, vs = u :: us ∧ Rep x u (termsF l) ∧ RepC x us ds := by
  simp only [RepC]
  refine propext ⟨fun ⟨u, us, e, h1, h2, h3⟩ => ⟨u, us, e, h2, h3⟩, fun ⟨u, us, e, h2, h3⟩ => ⟨u, us, e, ?_, h2, h3⟩⟩
  unfold termsF Rep at h2
  obtain ⟨a, c, rfl, -⟩ := h2
  rfl
theorem labs_of_rep {x : X} {v : Value} {l : Lst LabD} (h : Rep x v (labsF l)) (ok : LabsOk l) : LabsAt x.W v l := by
  obtain ⟨a, c, rfl, cs, hs, hr⟩ := sl_of_rep h
  refine ⟨a, c, rfl, hs.congr fun k hk => ?_, fun k hk => ?_⟩
  · have := hr k hk
    simp only [labC, repC_V, repC_nil] at this
    obtain ⟨_, e, -, _, rfl, -, rfl⟩ := this
    exact e
  · have := ok.2 k hk
    unfold Sm at this
    exact ⟨by omega, by omega⟩
theorem terms_of_rep {x : X} {v : Value} {l : Lst TermD} (h : Rep x v (termsF l)) (ok : TermsOk l) : TermsAt x.W v l := by
  obtain ⟨a, c, rfl, cs, hs, hr⟩ := sl_of_rep h
  refine ⟨a, c, rfl, hs.congr fun k hk => ?_, fun k hk => ?_⟩
  · have := hr k hk
    simp only [termC, repC_V, repC_nil] at this
    obtain ⟨_, e, -, _, rfl, -, _, rfl, -, rfl⟩ := this
    exact e
  · have := ok.2 k hk
    unfold Sm at this
    exact ⟨by omega, by omega⟩
theorem ints_of_rep {x : X} {v : Value} {l : Lst Int} (h : Rep x v (intsF l)) (hn : l.n ≤ 1048576) : IntsAt x.W v l := by
  obtain ⟨a, c, rfl, cs, hs, hr⟩ := sl_of_rep h
  refine ⟨hn, a, c, rfl, hs.congr fun k hk => ?_⟩
  have := hr k hk
  simp only [repC_V, repC_nil] at this
  obtain ⟨_, e, -, rfl⟩ := this
  exact e
theorem nodes_of_rep {x : X} {v : Value} {l : Lst NodeD} (h : Rep x v (nodesF l)) (hn : l.n ≤ 1048576) (ok : ∀ k, k < l.n → NodeOk (l.el k)) : ∃ lv tv, NodesAt x.W v l lv tv := by
  obtain ⟨a, c, rfl, cs, hs, hr⟩ := sl_of_rep h
  have hex : ∀ k, ∃ p : Value × Value, k < l.n → cs k = (l.el k).cells p.1 p.2 ∧ NodeAt x.W (l.el k) p.1 p.2 := by
    intro k
    by_cases hk : k < l.n
    · have h1 := hr k hk
      simp only [nodeC, repC_V, repC_nil, repC_labs] at h1
      obtain ⟨_, e, -, _, rfl, -, _, rfl, -, _, rfl, -, _, rfl, -, _, rfl, -, u1, _, rfl, h2, u2, _, rfl, h3, _, rfl, -, _, rfl, -, rfl⟩ := h1
      obtain ⟨o1, o2, o3⟩ := ok k hk
      exact ⟨(u1, u2), fun _ => ⟨e, o1, labs_of_rep h2 o2, labs_of_rep h3 o3⟩⟩
    · exact ⟨(undef, undef), fun h => absurd h hk⟩
  obtain ⟨p, hp⟩ := Classical.axiomOfChoice hex
  exact ⟨fun k => (p k).1, fun k => (p k).2, hn, a, c, rfl, hs.congr fun k hk => (hp k hk).1, fun k hk => (hp k hk).2⟩
theorem pods_of_rep {x : X} {v : Value} {l : Lst PodD} (h : Rep x v (podsF l)) (hn : l.n ≤ 1048576) (ok : ∀ k, k < l.n → PodOk (l.el k)) : ∃ pv, PodsAt x.W v l pv := by
  obtain ⟨a, c, rfl, cs, hs, hr⟩ := sl_of_rep h
  have hex : ∀ k, ∃ p : PodV, k < l.n → cs k = (l.el k).cells p ∧ PodAt x.W (l.el k) p := by
    intro k
    by_cases hk : k < l.n
    · have h1 := hr k hk
      simp only [podC, repC_V, repC_nil, repC_labs, repC_terms] at h1
      obtain ⟨_, e, -, _, rfl, -, _, rfl, -, _, rfl, -, _, rfl, -, _, rfl, -, _, rfl, -, u1, _, rfl, k1, u2, _, rfl, k2, u3, _, rfl, k3, _, rfl, -, u4, _, rfl, k4, _, rfl, -, u5, _, rfl, k5, _, rfl, -, rfl⟩ := h1
      obtain ⟨o1, o2, o3, o4, o5, o6⟩ := ok k hk
      exact ⟨⟨u1, u2, u3, u4, u5⟩, fun _ => ⟨e, o1, labs_of_rep k1 o2, terms_of_rep k2 o3, labs_of_rep k3 o4, terms_of_rep k4 o5, terms_of_rep k5 o6⟩⟩
    · exact ⟨⟨undef, undef, undef, undef, undef⟩, fun h => absurd h hk⟩
  obtain ⟨p, hp⟩ := Classical.axiomOfChoice hex
  exact ⟨p, hn, a, c, rfl, hs.congr fun k hk => (hp k hk).1, fun k hk => (hp k hk).2⟩
theorem owners_of_rep {x : X} {v : Value} {l : Lst OwnerD} (h : Rep x v (ownersF l)) (hn : l.n ≤ 1048576) (ok : ∀ k, k < l.n → OwnerAt (l.el k)) : OwnersAt x.W v l := by
  obtain ⟨a, c, rfl, cs, hs, hr⟩ := sl_of_rep h
  refine ⟨hn, a, c, rfl, hs.congr fun k hk => ?_, ok⟩
  have := hr k hk
  simp only [ownerC, repC_V, repC_nil] at this
  obtain ⟨_, e, -, _, rfl, -, _, rfl, -, _, rfl, -, _, rfl, -, rfl⟩ := this
  exact e
theorem snap_of_rep {x : X} {v : Value} {s : SnapD} (h : Rep x v (snapF s)) (ok : SnapOk s) : ∃ n p o lv tv pv, v = .agg #[n, p, o] ∧ SnapAt x.W n p o s lv tv pv := by
  unfold snapF snapC at h
  simp only [Rep, RepC] at h
  obtain ⟨vs, rfl, n, r1, rfl, -, h1, p, r2, rfl, -, h2, o, r3, rfl, -, h3, rfl⟩ := h
  obtain ⟨lv, tv, k1⟩ := nodes_of_rep h1 ok.n1 ok.n2
  obtain ⟨pv, k2⟩ := pods_of_rep h2 ok.p1 ok.p2
  exact ⟨n, p, o, lv, tv, pv, rfl, k1, k2, owners_of_rep h3 ok.o1 ok.o2⟩
end Go.Proofs.YthpmgnbehahkfaaGreat
