/- The log's functions: Grow, Append, Revive, Arm, Bytes, Len, Dead. -/
import Derived.Test.YtgjllhdbkdcofaaLgA
namespace Go.Proofs.Ytgjllhdbkdcofaa
open Go.RowKit Go.Dk

/-- Grow: room for k more. -/
theorem grow_any (B : Nat) (sv : Value) (n : Nat) (xs : List Value) (k : Int) (w : World) (hown : w.ownsRow B 5 1 sv n xs) (hB : B ≤ w.heap.size) (hk : 0 ≤ k) (hs : (n : Int) + k ≤ 1048576) :
    Calls Try.prog 26 #[sv, .int .i64 k] w fun e w' => ∃ a c, e = .returned (.slice a n c) ∧ w'.ownsRow B 5 1 (.slice a n c) n xs ∧ (n : Int) + k ≤ c ∧ Chg No w w' ∧ (∀ j, (Value.slice a n c).ownBlock = some j → sv.ownBlock = some j ∨ w.heap.size ≤ j) := by
  obtain ⟨i0, hi, hz0, hz1, hz2⟩ := info_parts Try.infoU8
  obtain ⟨a, c, rfl, hl, hc, hn, hcell⟩ := Rd.of_own hown
  have hcm : c ≤ 9223372036854775807 := by
    rcases hown.2 with ⟨h, -⟩ | ⟨g, cap, cur, h, hb, hg, hnc, hcm, -⟩
    · cases h; omega
    · cases h; unfold maxLen at hcm; exact hcm
  by_cases hroom : k ≤ (c : Int) - n
  · go_enter Try.func26, Try.ntmps26
    go_wp2
    go_ret
    exact ⟨a, c, rfl, hown, by omega, Chg.refl _ _, fun j hj => .inl hj⟩
  · obtain ⟨m, hm⟩ : ∃ m : Nat, (m : Int) = k - (c - n) := ⟨(k - (c - n)).toNat, by omega⟩
    obtain ⟨cur, hcs, htk, hall⟩ : ∃ cur : List Value, cur.length = c ∧ cur.take n = xs ∧ (Builtin.firstCells i0.size c (.slice a c c)).run Try.prog w.drew = .ok cur.toArray w.drew := by
      rw [hz1]
      rcases hown.2 with ⟨h, h0⟩ | ⟨g, cap, cur, h, hb, hg, hnc, hcm', hcs, htk⟩
      · cases h
        exact ⟨[], rfl, by rw [h0] at hl; simp at hl; simp [hl], run_firstCells_none _ _ _ _ _⟩
      · cases h
        refine ⟨cur.toList, by simpa using hcs, by simpa using htk, run_firstCells_some w.drew 1 c _ c c _ (by simpa using hcs) fun j u hu => ?_⟩
        rw [show (⟨g, 0, none⟩ : Addr).add j = ⟨g, j, none⟩ by unfold Addr.add; split <;> simp_all]
        rw [show w.drew.cell? ⟨g, j, none⟩ = w.cell? ⟨g, j, none⟩ from rfl, cell_of_row w g j cur _ (0, 0) hg]
        simpa using hu
    have hrun := Go.Lib.run_append_grow_zeros (P := Try.prog) w 27 3 27 5 i0 (.int .u8 0) .i64 .i64 Try.underlying27 Try.underlying3 hi hz0 a c c cur hall m (by omega) (by omega) (by omega) (by omega) (by rw [hz2]; omega) (growslice_fits (by omega) (by rw [hz2]; omega))
    have hcap := grownCap_ge w (c + m) c 5
    have hcap2 := grownCap_le_maxLen w (c + m) c 5 (by unfold maxLen; omega)
    generalize grownCap w (c + m) c 5 = C at *
    have HR := Go.Lib.hid hrun; clear hrun
    have HA := Go.Lib.hid hall; clear hall
    have HT := Go.Lib.hid htk; clear htk
    have HM := Go.Lib.hid hm; clear hm
    have HC := Go.Lib.hid hcs; clear hcs
    have hnC : n ≤ C := by have := HM.out; omega
    go_enter Try.func26, Try.ntmps26
    go_wp2_with (at_builtin; refine Go.Lib.wpList_append_run _ rfl _ _ _ _ rfl _ _ rfl (show _ = Value.int .i64 (m : Int) from by rw [HM.out]; rfl) _ _ HR.out ?_)
    go_ret
    refine ⟨_, _, rfl, ⟨hl, .inr ⟨w.heap.size, C, _, rfl, hB, heap_alloc_new w.drew _, hnC, hcap2, ?_, ?_⟩⟩, ?_, ?_, fun j hj => .inr ?_⟩
    · have h1 := HC.out; have h2 := HM.out
      simp [size_zeroCells]; omega
    · rw [← HT.out]
      have h1 := HC.out
      simp [List.take_append, h1]
      omega
    · have h2 := HM.out; omega
    · exact ((Chg.refl _ _).drew).alloc _
    · simp [Value.ownBlock] at hj; omega
end Go.Proofs.Ytgjllhdbkdcofaa
