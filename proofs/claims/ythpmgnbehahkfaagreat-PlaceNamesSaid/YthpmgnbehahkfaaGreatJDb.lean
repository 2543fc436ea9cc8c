/- Data in memory. -/
import Derived.Test.YthpmgnbehahkfaaGreatJDa
import Derived.Test.YthpmgnbehahkfaaGreatJZs
set_option linter.unusedSimpArgs false
set_option linter.unusedVariables false
namespace Go.Proofs.YthpmgnbehahkfaaGreat
open Go.RowKit Go.Dk Go.Dn

theorem Sl.congr {w : World} {a : Option Addr} {n c sz : Nat} {f g : Nat → List Value} (h : Sl w a n c sz f) (e : ∀ k, k < n → f k = g k) : Sl w a n c sz g :=
  ⟨h.1, h.2.1, h.2.2.1, fun k hk => by rw [← e k hk]; exact h.2.2.2 k hk⟩
theorem repC_V {x : X} {vs : List Value} {u : Value} {ds : List FD} : RepC x vs (.v u :: ds) = ∃ us, vs = u :: us ∧ u.oneCell' = true ∧ RepC x us ds := by
  simp only [RepC, Rep]
  exact propext ⟨fun ⟨_, us, e, h1, e2, h2⟩ => ⟨us, e2 ▸ e, e2 ▸ h1, h2⟩, fun ⟨us, e, h1, h2⟩ => ⟨u, us, e, h1, rfl, h2⟩⟩
theorem repC_nil {x : X} {vs : List Value} : RepC x vs [] = (vs = []) := by simp only [RepC]
theorem sl_of_rep {x : X} {v : Value} {sz n : Nat} {f : Nat → List FD} (h : Rep x v (.sl sz (encL n f))) :
    ∃ a c, v = .slice a n c ∧ ∃ cs : Nat → List Value, Sl x.W a n c sz cs ∧ ∀ k, k < n → RepC x (cs k) (f k) := by
  unfold Rep at h
  rw [encL_len] at h
  obtain ⟨a, c, rfl, hl, hn, hr⟩ := h
  refine ⟨a, c, rfl, ?_⟩
  have hex : ∀ k, ∃ vs : List Value, k < n → RepC x vs (f k) ∧ vs.length = sz ∧ ∃ b o, a = some ⟨b, o, none⟩ ∧ ∀ j u, vs[j]? = some u → x.W.cell? ⟨b, o + k * sz + j, none⟩ = some u := by
    intro k
    by_cases hk : k < n
    · have hne : encL n f ≠ [] := fun e => by have := congrArg List.length e; rw [encL_len] at this; simp at this; omega
      obtain ⟨b, o, ha, hrr⟩ := hr hne
      obtain ⟨h1, h2⟩ := repR_get hrr (encL_get? f hk)
      obtain ⟨vs, h3, h4⟩ := repA_cells h2
      exact ⟨vs, fun _ => ⟨h3, by rw [repC_len h3, h1], b, o, ha, h4⟩⟩
    · exact ⟨[], fun h => absurd h hk⟩
  obtain ⟨cs, hcs⟩ := Classical.axiomOfChoice hex
  exact ⟨cs, ⟨hl.1, hl.2, hn, fun k hk => ⟨(hcs k hk).2.1, (hcs k hk).2.2⟩⟩, fun k hk => (hcs k hk).1⟩
/-- a contract of old, as one of data: plain cells come back -/
theorem pure_of {f : FuncId} {fn : Func} {c : Code} {ds : List FD} {d : Value} (hf : Tryz.prog.funcs[f]? = some fn) (hname : (fn.name == "runtime.NumGoroutine") = false) (hb : fn.body = some c)
    (h : ∀ (x : X) (vs : List Value), RepL x vs ds → Calls Tryz.prog f vs.toArray x.W fun e w' => e = .returned d ∧ Chg No x.W w') : Pure Tryz.prog f ds (.v d) :=
  ⟨goes_of hf hname hb, fun x vs _ hr => (h x vs hr).mono fun e w' ⟨h1, h2⟩ => ⟨d, h1, by unfold Rep; rfl, h2⟩⟩
theorem repL1 {x : X} {vs : List Value} {a : FD} (h : RepL x vs [a]) : ∃ u, vs = [u] ∧ Rep x u a := by
  simp only [RepL] at h
  obtain ⟨u, us, rfl, h1, rfl⟩ := h
  exact ⟨u, rfl, h1⟩
theorem repL2 {x : X} {vs : List Value} {a b : FD} (h : RepL x vs [a, b]) : ∃ u v, vs = [u, v] ∧ Rep x u a ∧ Rep x v b := by
  simp only [RepL] at h
  obtain ⟨u, us, rfl, h1, v, vs, rfl, h2, rfl⟩ := h
  exact ⟨u, v, rfl, h1, h2⟩
theorem repL3 {x : X} {vs : List Value} {a b c : FD} (h : RepL x vs [a, b, c]) : ∃ u v z, vs = [u, v, z] ∧ Rep x u a ∧ Rep x v b ∧ Rep x z c := by
  simp only [RepL] at h
  obtain ⟨u, us, rfl, h1, v, vs, rfl, h2, z, zs, rfl, h3, rfl⟩ := h
  exact ⟨u, v, z, rfl, h1, h2, h3⟩
end Go.Proofs.YthpmgnbehahkfaaGreat
