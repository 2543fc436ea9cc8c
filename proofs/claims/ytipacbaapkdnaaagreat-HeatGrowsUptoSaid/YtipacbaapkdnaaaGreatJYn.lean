/- drayageref05.labels, terms: copies. -/
import Derived.Test.YtipacbaapkdnaaaGreatJYh
set_option linter.unusedSimpArgs false
set_option linter.unusedVariables false
namespace Go.Proofs.YtipacbaapkdnaaaGreat
open Go.RowKit Go.Dk

theorem Tryz.infoLabN : (Tryz.prog.info? 97).map (fun i => (i.zero, i.size, i.bytes)) = some (some (.agg #[.string ⟨#[]⟩, .string ⟨#[]⟩]), 2, 32) := by kernel_rfl
theorem Tryz.infoTermN : (Tryz.prog.info? 99).map (fun i => (i.zero, i.size, i.bytes)) = some (some (.agg #[.int .i64 0, .string ⟨#[]⟩, .string ⟨#[]⟩]), 3, 40) := by kernel_rfl

set_option maxRecDepth 100000 in
theorem copyLabels_any {w : World} {v : Value} {l : Lst LabD} (h : LabsAt w v l) (hn : l.n ≤ 1048576) :
    Calls Tryz.prog 31 #[v] w fun e w' => ∃ a c, e = .returned (.slice a l.n c) ∧ LabsAt w' (.slice a l.n c) l ∧ Chg No w w' ∧ ∀ ad, a = some ad → w.heap.size ≤ ad.block := by
  obtain ⟨a, c, rfl, hs, hok⟩ := h
  obtain ⟨i0, hi, hz0, hz1, hz2⟩ := info_parts Tryz.infoLabN
  have hrd := hs.rd
  go_enter Tryz.func31, Tryz.ntmps31
  go_wp2_with (at_builtin; refine wpList_append_rd _ rfl _ _ _ rfl w.heap.size 97 i0 _ 2 32 Tryz.underlying47 hi hz0 hz1 hz2 rfl (by decide) (.slice none 0 0) 0 [] rfl (World.ownsRow_nil _ _ _ _) _ l.n _ rfl hrd (by intro u hu; simp only [List.mem_flatMap, LabD.cells] at hu; obtain ⟨k, _, hk⟩ := hu; simp at hk; rcases hk with rfl | rfl <;> rfl) (by unfold maxLen; omega) (by omega) (Nat.le_refl _) ?_; intro v1 w3 ho1 hg1 hi1 hfr1)
  simp only [Nat.zero_add, List.nil_append] at ho1
  obtain ⟨a', c', rfl, hs', hf⟩ := own_sl ho1 (fun _ _ => rfl)
  go_wp2_with fail
  go_ret
  exact ⟨a', c', rfl, ⟨a', c', rfl, hs', hok⟩, (Chg.refl No w).grown hg1 (fun k hk => by simp [Value.ownBlock] at hk), hf⟩

set_option maxRecDepth 100000 in
theorem copyTerms_any {w : World} {v : Value} {l : Lst TermD} (h : TermsAt w v l) (hn : l.n ≤ 1048576) :
    Calls Tryz.prog 32 #[v] w fun e w' => ∃ a c, e = .returned (.slice a l.n c) ∧ TermsAt w' (.slice a l.n c) l ∧ Chg No w w' ∧ ∀ ad, a = some ad → w.heap.size ≤ ad.block := by
  obtain ⟨a, c, rfl, hs, hok⟩ := h
  obtain ⟨i0, hi, hz0, hz1, hz2⟩ := info_parts Tryz.infoTermN
  have hrd := hs.rd
  go_enter Tryz.func32, Tryz.ntmps32
  go_wp2_with (at_builtin; refine wpList_append_rd _ rfl _ _ _ rfl w.heap.size 99 i0 _ 3 40 Tryz.underlying50 hi hz0 hz1 hz2 rfl (by decide) (.slice none 0 0) 0 [] rfl (World.ownsRow_nil _ _ _ _) _ l.n _ rfl hrd (by intro u hu; simp only [List.mem_flatMap, TermD.cells] at hu; obtain ⟨k, _, hk⟩ := hu; simp at hk; rcases hk with rfl | rfl | rfl <;> rfl) (by unfold maxLen; omega) (by omega) (Nat.le_refl _) ?_; intro v1 w3 ho1 hg1 hi1 hfr1)
  simp only [Nat.zero_add, List.nil_append] at ho1
  obtain ⟨a', c', rfl, hs', hf⟩ := own_sl ho1 (fun _ _ => rfl)
  go_wp2_with fail
  go_ret
  exact ⟨a', c', rfl, ⟨a', c', rfl, hs', hok⟩, (Chg.refl No w).grown hg1 (fun k hk => by simp [Value.ownBlock] at hk), hf⟩
end Go.Proofs.YtipacbaapkdnaaaGreat
