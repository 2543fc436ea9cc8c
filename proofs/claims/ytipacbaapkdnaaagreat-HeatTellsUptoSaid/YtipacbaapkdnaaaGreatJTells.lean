/-
  HeatTells: Share, Pods, Low, High and Idle answer as the chapter says. For every input of bulk at most 1048576; no other condition.
-/
import Derived.Test.YtipacbaapkdnaaaGreatJXd
import Derived.Test.YtipacbaapkdnaaaGreatJXa
import Derived.Test.YtipacbaapkdnaaaGreatJXc
set_option linter.unusedSimpArgs false
set_option linter.unusedVariables false
namespace Go.Proofs.YtipacbaapkdnaaaGreat.heatTells
open Go.ChangeShapes Go.WideShapes Go.ChangeAt Go.RowKit
open Go.Dk Go.Dn
set_option linter.unusedVariables false

theorem own : ownKnob Tryz.prog.godebug = none := by kernel_rfl
theorem laidOut : laidOutB Tryz.prog = true := by kernel_rfl

def goalK : List LK := [.i .i64, .i .i64, .i .i64, .i .i64, .i .i64, .sl [.s], .i .i64, .i .i64, .b, .i .i64]
theorem flats : FlatAll Tryz.prog [26, 27, 33] [snapK, [.sl [.i .i64]], goalK] :=
  ⟨⟨8, by kernel_rfl, by kernel_rfl⟩, ⟨8, by kernel_rfl, by kernel_rfl⟩, ⟨8, by kernel_rfl, by kernel_rfl⟩, trivial⟩
theorem ask_of {ds : List FD} (h : IsL goalK ds) : ∃ g dr node, ds = askC g dr node := by
  simp only [goalK, IsL, IsK] at h
  obtain ⟨_, _, rfl, ⟨a, rfl, -⟩, _, _, rfl, ⟨b, rfl, -⟩, _, _, rfl, ⟨c, rfl, -⟩, _, _, rfl, ⟨d, rfl, -⟩, _, _, rfl, ⟨e, rfl, -⟩, dr, _, rfl, -, _, _, rfl, ⟨f, rfl, -⟩, _, _, rfl, ⟨k, rfl, -⟩, _, _, rfl, ⟨r, rfl⟩, _, _, rfl, ⟨n, rfl, -⟩, rfl⟩ := h
  exact ⟨⟨fun i => if i = 0 then a else b, fun i => if i = 0 then c else d, e, f, k, r⟩, dr, n, rfl⟩
set_option maxRecDepth 100000 in
theorem told (dss : List (List FD)) (h : IsLL [snapK, [.sl [.i .i64]], goalK] dss) (hb : bkLL dss ≤ 1048576) : Pure Tryz.prog 3 (packs Tryz.prog [26, 27, 33] dss) (.v (.bool true)) := by
  obtain ⟨d0, _, rfl, h0, h⟩ := isLL_cons h
  obtain ⟨d1, _, rfl, h1, h⟩ := isLL_cons h
  obtain ⟨d2, _, rfl, h2, h⟩ := isLL_cons h
  obtain rfl := isLL_nil h
  simp only [bkLL] at hb
  obtain ⟨s, rfl, ok⟩ := snap_of h0 (by omega)
  obtain ⟨g, dr, node, rfl⟩ := ask_of h2
  unfold IsL at h1
  obtain ⟨e, es, rfl, h1, he⟩ := h1
  unfold IsL at he
  subst he
  simp only [bkL] at hb
  obtain ⟨l, rfl, hl, -⟩ := ints_of h1
  have a0 : aggB Tryz.prog 26 = true := by kernel_rfl
  have a1 : aggB Tryz.prog 27 = false := by kernel_rfl
  have a2 : aggB Tryz.prog 33 = true := by kernel_rfl
  simp only [packs, a0, a1, a2, pk]
  exact heatTells_pure heatLow_pure heatHigh_pure heatIdle_pure (works_pure heatLow_pure heatHigh_pure heatIdle_pure) s ok l (hl (by omega)) g dr node

set_option maxRecDepth 100000 in
theorem lifted (os : Os) (started : os.Started) (H : Type) (enc : TypeId × Value → H) (F : Stop.Interp) :
    ReturnsInHanded {} Tryz.checked os 3 .any ((Rows.OpenSpec.upto Rows.heatTellsSpec).pre6 enc Tryz.prog Tryz.f3 Rows.heatTellsUptoRow.domain false) (((Rows.OpenSpec.upto Rows.heatTellsSpec).at F).post enc Tryz.prog Tryz.f3 false true false false) := by
  refine returnsInHanded_of_cond (C := Tryz.checked) (s := Rows.OpenSpec.upto Rows.heatTellsSpec) (k := Rows.uptoSmall) rfl own started (by kernel_rfl) Tryz.func3
    (OpenSpec.witness (enc := enc) (C := Tryz.checked) (s := Rows.OpenSpec.upto Rows.heatTellsSpec) (k := Rows.uptoSmall) rfl false
      ⟨#[], #[.agg #[.slice none 0 0, .slice none 0 0, .slice none 0 0], .slice none 0 0, .agg #[.int .i64 0, .int .i64 0, .int .i64 0, .int .i64 0, .int .i64 0, .slice none 0 0, .int .i64 0, .int .i64 0, .bool false, .int .i64 0]], []⟩ 8 (by kernel_rfl) (by kernel_rfl) (by kernel_rfl)
      (x := ([.agg [.nil, .nil, .nil], .nil, .agg [.agg [.agg [.lit (.int .i64 0), .lit (.int .i64 0)], .agg [.lit (.int .i64 0), .lit (.int .i64 0)], .lit (.int .i64 0), .nil, .lit (.int .i64 0), .lit (.int .i64 0), .lit (.bool false)], .lit (.int .i64 0)]], [], [])) (by kernel_rfl) rfl (by kernel_rfl)) ?_
  intro W base args ds gs before hval hW _ hk _
  exact law_contract laidOut (by kernel_rfl) (by kernel_rfl) Tryz.underlying4 rfl (fun ds hl => by
    match ds, hl with
    | [a, b, c], _ => exact ⟨rfl, rfl, rfl⟩) flats (by kernel_rfl) told base args ds gs before hval hW hk

/-- ████ THE STATEMENT ████ -/
theorem proved : Rows.HeatTellsUptoSaid :=
  OpenClaim.holds_of_cond 3 Tryz.f3 rfl rfl rfl rfl rfl rfl rfl ⟨rfl, rfl, rfl, rfl, rfl⟩ rfl rfl rfl rfl rfl (by kernel_rfl) Tryz.func3 (by kernel_rfl)
    (of_decide_eq_true (by kernel_rfl)) (by unfold Func.isWrapper; first | (rw [if_pos (by decide +kernel)]; kernel_rfl) | (rw [if_neg (by decide +kernel)]; exact ⟨rfl, rfl⟩))
    (fun os started H enc _ F => lifted os started H enc F)
#print axioms proved
end Go.Proofs.YtipacbaapkdnaaaGreat.heatTells
