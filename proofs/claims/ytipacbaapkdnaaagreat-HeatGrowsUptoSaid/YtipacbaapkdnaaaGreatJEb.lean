/- Clusters, rows of labels, of terms, of numbers: as data without addresses. -/
import Derived.Test.YtipacbaapkdnaaaGreatJEa
import Derived.Test.YtipacbaapkdnaaaGreatJYe
set_option linter.unusedSimpArgs false
set_option linter.unusedVariables false
namespace Go.Proofs.YtipacbaapkdnaaaGreat
open Go.RowKit Go.Dk Go.Dn

abbrev I (n : Int) : FD := .v (.int .i64 n)
abbrev B (b : Bool) : FD := .v (.bool b)
abbrev S (s : ByteArray) : FD := .v (.string s)
theorem w64 {n : Int} (h1 : -9223372036854775808 ≤ n) (h2 : n ≤ 9223372036854775807) : IntKind.i64.wrap n = n := by
  simp [IntKind.wrap, IntKind.bits, IntKind.signed]
  omega
def encL (n : Nat) (f : Nat → List FD) : List (List FD) := (List.range n).map f
theorem encL_len (n : Nat) (f : Nat → List FD) : (encL n f).length = n := by simp [encL]
theorem encL_get? {n k : Nat} (f : Nat → List FD) (h : k < n) : (encL n f)[k]? = some (f k) := by simp [encL, h]
theorem encL_getD (n k : Nat) (f : Nat → List FD) (h : (k < n) = True) : (encL n f).getD k [] = f k := by
  have h : k < n := by simpa using h
  simp [List.getD, encL_get? f h]
theorem encL_succ (n : Nat) (f : Nat → List FD) : encL (n + 1) f = encL n f ++ [f n] := by simp [encL, List.range_succ]
theorem encL_set (n k : Nat) (f : Nat → List FD) (h : k < n) : (encL n f).set k (f k) = encL n f := by
  apply List.ext_getElem?
  intro j
  by_cases hj : j = k
  · subst hj; rw [List.getElem?_set_self (by rw [encL_len]; exact h), encL_get? f h]
  · simp [List.getElem?_set, Ne.symm hj]
theorem encL_at (n k : Nat) (f : Nat → List FD) (h : k < (encL n f).length) : (encL n f)[k] = f k := by simp [encL]
theorem encL_zero (f : Nat → List FD) : encL 0 f = [] := rfl
attribute [go_sem] encL_len encL_getD encL_at encL_zero

def labC (d : LabD) : List FD := [S d.key, S d.val]
def labsF (l : Lst LabD) : FD := .sl 2 (encL l.n fun k => labC (l.el k))
def termC (d : TermD) : List FD := [I d.kind, S d.key, S d.val]
def termsF (l : Lst TermD) : FD := .sl 3 (encL l.n fun k => termC (l.el k))
def nodeC (x : NodeD) : List FD := [S x.name, I (x.cap 0), I (x.cap 1), I (x.cap 2), I (x.cap 3), I (x.cap 4), labsF x.labels, labsF x.taints, B x.cordon, B x.lost]
def podC (p : PodD) : List FD := [S p.name, S p.owner, I (p.req 0), I (p.req 1), I (p.req 2), I (p.req 3), I (p.req 4), labsF p.labels, termsF p.where_, labsF p.bears, S p.wTopo, termsF p.wTerms, S p.aTopo, termsF p.aTerms, S p.on]
def ownerC (o : OwnerD) : List FD := [S o.name, I o.min, S o.topo, I o.skew, B o.single]
def nodesF (l : Lst NodeD) : FD := .sl 10 (encL l.n fun k => nodeC (l.el k))
def podsF (l : Lst PodD) : FD := .sl 15 (encL l.n fun k => podC (l.el k))
def ownersF (l : Lst OwnerD) : FD := .sl 5 (encL l.n fun k => ownerC (l.el k))
def snapC (s : SnapD) : List FD := [nodesF s.nodes, podsF s.pods, ownersF s.owners]
def snapF (s : SnapD) : FD := .agg (snapC s)
def intsF (l : Lst Int) : FD := .sl 1 (encL l.n fun k => [I (l.el k)])

/-! ### Rows, not looked into -/
theorem cellsD_labsF (l : Lst LabD) : cellsD (.f (labsF l)) = some [.f (labsF l)] := by rw [labsF]; rfl
theorem elems_labsF (mem : Nat → Option M) (l : Lst LabD) : elems mem 2 (.f (labsF l)) = some (encL l.n fun k => labC (l.el k)) := by simp [labsF, elems]
theorem lenD_labsF (mem : Nat → Option M) (l : Lst LabD) : lenD mem (.f (labsF l)) = some l.n := by simp [labsF, lenD, encL_len]
theorem cellsD_termsF (l : Lst TermD) : cellsD (.f (termsF l)) = some [.f (termsF l)] := by rw [termsF]; rfl
theorem elems_termsF (mem : Nat → Option M) (l : Lst TermD) : elems mem 3 (.f (termsF l)) = some (encL l.n fun k => termC (l.el k)) := by simp [termsF, elems]
theorem lenD_termsF (mem : Nat → Option M) (l : Lst TermD) : lenD mem (.f (termsF l)) = some l.n := by simp [termsF, lenD, encL_len]
theorem cellsD_nodesF (l : Lst NodeD) : cellsD (.f (nodesF l)) = some [.f (nodesF l)] := by rw [nodesF]; rfl
theorem elems_nodesF (mem : Nat → Option M) (l : Lst NodeD) : elems mem 10 (.f (nodesF l)) = some (encL l.n fun k => nodeC (l.el k)) := by simp [nodesF, elems]
theorem lenD_nodesF (mem : Nat → Option M) (l : Lst NodeD) : lenD mem (.f (nodesF l)) = some l.n := by simp [nodesF, lenD, encL_len]
theorem cellsD_podsF (l : Lst PodD) : cellsD (.f (podsF l)) = some [.f (podsF l)] := by rw [podsF]; rfl
theorem elems_podsF (mem : Nat → Option M) (l : Lst PodD) : elems mem 15 (.f (podsF l)) = some (encL l.n fun k => podC (l.el k)) := by simp [podsF, elems]
theorem lenD_podsF (mem : Nat → Option M) (l : Lst PodD) : lenD mem (.f (podsF l)) = some l.n := by simp [podsF, lenD, encL_len]
theorem cellsD_ownersF (l : Lst OwnerD) : cellsD (.f (ownersF l)) = some [.f (ownersF l)] := by rw [ownersF]; rfl
theorem elems_ownersF (mem : Nat → Option M) (l : Lst OwnerD) : elems mem 5 (.f (ownersF l)) = some (encL l.n fun k => ownerC (l.el k)) := by simp [ownersF, elems]
theorem lenD_ownersF (mem : Nat → Option M) (l : Lst OwnerD) : lenD mem (.f (ownersF l)) = some l.n := by simp [ownersF, lenD, encL_len]
theorem cellsD_intsF (l : Lst Int) : cellsD (.f (intsF l)) = some [.f (intsF l)] := by rw [intsF]; rfl
theorem elems_intsF (mem : Nat → Option M) (l : Lst Int) : elems mem 1 (.f (intsF l)) = some (encL l.n fun k => [I (l.el k)]) := by simp [intsF, elems]
theorem lenD_intsF (mem : Nat → Option M) (l : Lst Int) : lenD mem (.f (intsF l)) = some l.n := by simp [intsF, lenD, encL_len]
attribute [go_sem high] cellsD_labsF elems_labsF lenD_labsF cellsD_termsF elems_termsF lenD_termsF cellsD_nodesF elems_nodesF lenD_nodesF cellsD_podsF elems_podsF lenD_podsF cellsD_ownersF elems_ownersF lenD_ownersF cellsD_intsF elems_intsF lenD_intsF
theorem labC_eq (d : LabD) : labC d = [S d.key, S d.val] := rfl
theorem termC_eq (d : TermD) : termC d = [I d.kind, S d.key, S d.val] := rfl
theorem nodeC_eq (x : NodeD) : nodeC x = [S x.name, I (x.cap 0), I (x.cap 1), I (x.cap 2), I (x.cap 3), I (x.cap 4), labsF x.labels, labsF x.taints, B x.cordon, B x.lost] := rfl
theorem podC_eq (p : PodD) : podC p = [S p.name, S p.owner, I (p.req 0), I (p.req 1), I (p.req 2), I (p.req 3), I (p.req 4), labsF p.labels, termsF p.where_, labsF p.bears, S p.wTopo, termsF p.wTerms, S p.aTopo, termsF p.aTerms, S p.on] := rfl
theorem ownerC_eq (o : OwnerD) : ownerC o = [S o.name, I o.min, S o.topo, I o.skew, B o.single] := rfl
/-! ### What a machine can hold -/
def LabsOk (l : Lst LabD) : Prop := l.n ≤ 1048576 ∧ ∀ k, k < l.n → Sm (l.el k).key ∧ Sm (l.el k).val
def TermsOk (l : Lst TermD) : Prop := l.n ≤ 1048576 ∧ ∀ k, k < l.n → Sm (l.el k).key ∧ Sm (l.el k).val
def NodeOk (x : NodeD) : Prop := Sm x.name ∧ LabsOk x.labels ∧ LabsOk x.taints
def PodOk (p : PodD) : Prop := (Sm p.name ∧ Sm p.owner ∧ Sm p.on ∧ Sm p.wTopo ∧ Sm p.aTopo) ∧ LabsOk p.labels ∧ TermsOk p.where_ ∧ LabsOk p.bears ∧ TermsOk p.wTerms ∧ TermsOk p.aTerms
structure SnapOk (s : SnapD) : Prop where
  n1 : s.nodes.n ≤ 1048576
  n2 : ∀ k, k < s.nodes.n → NodeOk (s.nodes.el k)
  p1 : s.pods.n ≤ 1048576
  p2 : ∀ k, k < s.pods.n → PodOk (s.pods.el k)
  o1 : s.owners.n ≤ 1048576
  o2 : ∀ k, k < s.owners.n → OwnerAt (s.owners.el k)

/-! ### Data in memory -/
theorem Sl.congr {w : World} {a : Option Addr} {n c sz : Nat} {f g : Nat → List Value} (h : Sl w a n c sz f) (e : ∀ k, k < n → f k = g k) : Sl w a n c sz g :=
  ⟨h.1, h.2.1, h.2.2.1, fun k hk => by rw [← e k hk]; exact h.2.2.2 k hk⟩
theorem repC_V {x : X} {vs : List Value} {u : Value} {ds : List FD} : RepC x vs (.v u :: ds) = ∃ us, vs = u :: us ∧ u.oneCell' = true ∧ RepC x us ds := by
  simp only [RepC, Rep]
  exact propext ⟨fun ⟨_, us, e, h1, e2, h2⟩ => ⟨us, e2 ▸ e, e2 ▸ h1, h2⟩, fun ⟨us, e, h1, h2⟩ => ⟨u, us, e, h1, rfl, h2⟩⟩
theorem repC_nil {x : X} {vs : List Value} : RepC x vs [] = (vs = []) := by simp only [RepC]
theorem repC_labs {x : X} {vs : List Value} {l : Lst LabD} {ds : List FD} : RepC x vs (labsF l :: ds) = ∃ u us, vs = u :: us ∧ Rep x u (labsF l) ∧ RepC x us ds := by
  simp only [RepC]
  refine propext ⟨fun ⟨u, us, e, h1, h2, h3⟩ => ⟨u, us, e, h2, h3⟩, fun ⟨u, us, e, h2, h3⟩ => ⟨u, us, e, ?_, h2, h3⟩⟩
  unfold labsF Rep at h2
  obtain ⟨a, c, rfl, -⟩ := h2
  rfl
theorem repC_terms {x : X} {vs : List Value} {l : Lst TermD} {ds : List FD} : RepC x vs (termsF l :: ds) = ∃ u us, vs = u :: us ∧ Rep x u (termsF l) ∧ RepC x us ds := by
  simp only [RepC]
  refine propext ⟨fun ⟨u, us, e, h1, h2, h3⟩ => ⟨u, us, e, h2, h3⟩, fun ⟨u, us, e, h2, h3⟩ => ⟨u, us, e, ?_, h2, h3⟩⟩
  unfold termsF Rep at h2
  obtain ⟨a, c, rfl, -⟩ := h2
  rfl
theorem sl_of_rep {x : X} {v : Value} {sz n : Nat} {f : Nat → List FD} (h : Rep x v (.sl sz (encL n f))) :
    ∃ a c, v = .slice a n c ∧ ∃ cs : Nat → List Value, Sl x.W a n c sz cs ∧ ∀ k, k < n → RepC x (cs k) (f k) := by
  unfold Rep at h
  rw [encL_len] at h
  obtain ⟨a, c, rfl, hl, hn, hr⟩ := h
  refine ⟨a, c, rfl, ?_⟩
  have hex : ∀ k, ∃ vs : List Value, k < n → RepC x vs (f k) ∧ vs.length = sz ∧ ∃ b o, a = some ⟨b, o, none⟩ ∧ ∀ j u, vs[j]? = some u → x.W.cell? ⟨b, o + k * sz + j, none⟩ = some u := by
    intro k
    by_cases hk : k < n
    · have hne : encL n f ≠ [] := fun e => by have := congrArg List.length e; rw [encL_len] at this; simp at this; omega
      obtain ⟨b, o, ha, hrr⟩ := hr hne
      obtain ⟨h1, h2⟩ := repR_get hrr (encL_get? f hk)
      obtain ⟨vs, h3, h4⟩ := repA_cells h2
      exact ⟨vs, fun _ => ⟨h3, by rw [repC_len h3, h1], b, o, ha, h4⟩⟩
    · exact ⟨[], fun h => absurd h hk⟩
  obtain ⟨cs, hcs⟩ := Classical.axiomOfChoice hex
  exact ⟨cs, ⟨hl.1, hl.2, hn, fun k hk => ⟨(hcs k hk).2.1, (hcs k hk).2.2⟩⟩, fun k hk => (hcs k hk).1⟩
theorem labs_of_rep {x : X} {v : Value} {l : Lst LabD} (h : Rep x v (labsF l)) (ok : LabsOk l) : LabsAt x.W v l := by
  obtain ⟨a, c, rfl, cs, hs, hr⟩ := sl_of_rep h
  refine ⟨a, c, rfl, hs.congr fun k hk => ?_, fun k hk => ?_⟩
  · have := hr k hk
    simp only [labC, repC_V, repC_nil] at this
    obtain ⟨_, e, -, _, rfl, -, rfl⟩ := this
    exact e
  · have := ok.2 k hk
    unfold Sm at this
    exact ⟨by omega, by omega⟩
theorem terms_of_rep {x : X} {v : Value} {l : Lst TermD} (h : Rep x v (termsF l)) (ok : TermsOk l) : TermsAt x.W v l := by
  obtain ⟨a, c, rfl, cs, hs, hr⟩ := sl_of_rep h
  refine ⟨a, c, rfl, hs.congr fun k hk => ?_, fun k hk => ?_⟩
  · have := hr k hk
    simp only [termC, repC_V, repC_nil] at this
    obtain ⟨_, e, -, _, rfl, -, _, rfl, -, rfl⟩ := this
    exact e
  · have := ok.2 k hk
    unfold Sm at this
    exact ⟨by omega, by omega⟩
theorem ints_of_rep {x : X} {v : Value} {l : Lst Int} (h : Rep x v (intsF l)) (hn : l.n ≤ 1048576) : IntsAt x.W v l := by
  obtain ⟨a, c, rfl, cs, hs, hr⟩ := sl_of_rep h
  refine ⟨hn, a, c, rfl, hs.congr fun k hk => ?_⟩
  have := hr k hk
  simp only [repC_V, repC_nil] at this
  obtain ⟨_, e, -, rfl⟩ := this
  exact e
theorem nodes_of_rep {x : X} {v : Value} {l : Lst NodeD} (h : Rep x v (nodesF l)) (hn : l.n ≤ 1048576) (ok : ∀ k, k < l.n → NodeOk (l.el k)) : ∃ lv tv, NodesAt x.W v l lv tv := by
  obtain ⟨a, c, rfl, cs, hs, hr⟩ := sl_of_rep h
  have hex : ∀ k, ∃ p : Value × Value, k < l.n → cs k = (l.el k).cells p.1 p.2 ∧ NodeAt x.W (l.el k) p.1 p.2 := by
    intro k
    by_cases hk : k < l.n
    · have h1 := hr k hk
      simp only [nodeC, repC_V, repC_nil, repC_labs] at h1
      obtain ⟨_, e, -, _, rfl, -, _, rfl, -, _, rfl, -, _, rfl, -, _, rfl, -, u1, _, rfl, h2, u2, _, rfl, h3, _, rfl, -, _, rfl, -, rfl⟩ := h1
      obtain ⟨o1, o2, o3⟩ := ok k hk
      exact ⟨(u1, u2), fun _ => ⟨e, o1, labs_of_rep h2 o2, labs_of_rep h3 o3⟩⟩
    · exact ⟨(undef, undef), fun h => absurd h hk⟩
  obtain ⟨p, hp⟩ := Classical.axiomOfChoice hex
  exact ⟨fun k => (p k).1, fun k => (p k).2, hn, a, c, rfl, hs.congr fun k hk => (hp k hk).1, fun k hk => (hp k hk).2⟩
theorem pods_of_rep {x : X} {v : Value} {l : Lst PodD} (h : Rep x v (podsF l)) (hn : l.n ≤ 1048576) (ok : ∀ k, k < l.n → PodOk (l.el k)) : ∃ pv, PodsAt x.W v l pv := by
  obtain ⟨a, c, rfl, cs, hs, hr⟩ := sl_of_rep h
  have hex : ∀ k, ∃ p : PodV, k < l.n → cs k = (l.el k).cells p ∧ PodAt x.W (l.el k) p := by
    intro k
    by_cases hk : k < l.n
    · have h1 := hr k hk
      simp only [podC, repC_V, repC_nil, repC_labs, repC_terms] at h1
      obtain ⟨_, e, -, _, rfl, -, _, rfl, -, _, rfl, -, _, rfl, -, _, rfl, -, _, rfl, -, u1, _, rfl, k1, u2, _, rfl, k2, u3, _, rfl, k3, _, rfl, -, u4, _, rfl, k4, _, rfl, -, u5, _, rfl, k5, _, rfl, -, rfl⟩ := h1
      obtain ⟨o1, o2, o3, o4, o5, o6⟩ := ok k hk
      exact ⟨⟨u1, u2, u3, u4, u5⟩, fun _ => ⟨e, o1, labs_of_rep k1 o2, terms_of_rep k2 o3, labs_of_rep k3 o4, terms_of_rep k4 o5, terms_of_rep k5 o6⟩⟩
    · exact ⟨⟨undef, undef, undef, undef, undef⟩, fun h => absurd h hk⟩
  obtain ⟨p, hp⟩ := Classical.axiomOfChoice hex
  exact ⟨p, hn, a, c, rfl, hs.congr fun k hk => (hp k hk).1, fun k hk => (hp k hk).2⟩
theorem owners_of_rep {x : X} {v : Value} {l : Lst OwnerD} (h : Rep x v (ownersF l)) (hn : l.n ≤ 1048576) (ok : ∀ k, k < l.n → OwnerAt (l.el k)) : OwnersAt x.W v l := by
  obtain ⟨a, c, rfl, cs, hs, hr⟩ := sl_of_rep h
  refine ⟨hn, a, c, rfl, hs.congr fun k hk => ?_, ok⟩
  have := hr k hk
  simp only [ownerC, repC_V, repC_nil] at this
  obtain ⟨_, e, -, _, rfl, -, _, rfl, -, _, rfl, -, _, rfl, -, rfl⟩ := this
  exact e
theorem snap_of_rep {x : X} {v : Value} {s : SnapD} (h : Rep x v (snapF s)) (ok : SnapOk s) : ∃ n p o lv tv pv, v = .agg #[n, p, o] ∧ SnapAt x.W n p o s lv tv pv := by
  unfold snapF snapC at h
  simp only [Rep, RepC] at h
  obtain ⟨vs, rfl, n, r1, rfl, -, h1, p, r2, rfl, -, h2, o, r3, rfl, -, h3, rfl⟩ := h
  obtain ⟨lv, tv, k1⟩ := nodes_of_rep h1 ok.n1 ok.n2
  obtain ⟨pv, k2⟩ := pods_of_rep h2 ok.p1 ok.p2
  exact ⟨n, p, o, lv, tv, pv, rfl, k1, k2, owners_of_rep h3 ok.o1 ok.o2⟩
/-- a contract of old, as one of data: plain cells come back -/
theorem pure_of {f : FuncId} {fn : Func} {c : Code} {ds : List FD} {d : Value} (hf : Tryz.prog.funcs[f]? = some fn) (hname : (fn.name == "runtime.NumGoroutine") = false) (hb : fn.body = some c)
    (h : ∀ (x : X) (vs : List Value), RepL x vs ds → Calls Tryz.prog f vs.toArray x.W fun e w' => e = .returned d ∧ Chg No x.W w') : Pure Tryz.prog f ds (.v d) :=
  ⟨goes_of hf hname hb, fun x vs _ hr => (h x vs hr).mono fun e w' ⟨h1, h2⟩ => ⟨d, h1, by unfold Rep; rfl, h2⟩⟩
theorem repL1 {x : X} {vs : List Value} {a : FD} (h : RepL x vs [a]) : ∃ u, vs = [u] ∧ Rep x u a := by
  simp only [RepL] at h
  obtain ⟨u, us, rfl, h1, rfl⟩ := h
  exact ⟨u, rfl, h1⟩
theorem repL2 {x : X} {vs : List Value} {a b : FD} (h : RepL x vs [a, b]) : ∃ u v, vs = [u, v] ∧ Rep x u a ∧ Rep x v b := by
  simp only [RepL] at h
  obtain ⟨u, us, rfl, h1, v, vs, rfl, h2, rfl⟩ := h
  exact ⟨u, v, rfl, h1, h2⟩
theorem repL3 {x : X} {vs : List Value} {a b c : FD} (h : RepL x vs [a, b, c]) : ∃ u v z, vs = [u, v, z] ∧ Rep x u a ∧ Rep x v b ∧ Rep x z c := by
  simp only [RepL] at h
  obtain ⟨u, us, rfl, h1, v, vs, rfl, h2, z, zs, rfl, h3, rfl⟩ := h
  exact ⟨u, v, z, rfl, h1, h2, h3⟩
end Go.Proofs.YtipacbaapkdnaaaGreat
