/- fine; labels. -/
import Derived.Test.YtipacbaapkdnaaaGreatJZd
set_option linter.unusedSimpArgs false
set_option linter.unusedVariables false
namespace Go.Proofs.YtipacbaapkdnaaaGreat
open Go.RowKit Go.Dk

theorem fine1_any (n : Int) (w : World) : Calls Tryz.prog 119 #[.int .i64 n] w fun e w' => e = .returned (.bool (decide (n ≠ 0))) ∧ w = w' := by
  go_enter Tryz.func119, Tryz.ntmps119
  go_wp2
  all_goals (go_ret; simp <;> (rw [Bool.eq_iff_iff]; simp))

theorem enters_fine1 : Enters Tryz.prog 119 := enters_of Tryz.func119 (by kernel_rfl) rfl

theorem fine_any (f : Nat → Int) (a : Option Addr) (n c : Nat) (xs : List Value) (w : World) (hx : Rd w (.slice a n c) 1 n xs) (hn : n ≤ 9223372036854775807) (hf : ∀ k x, xs[k]? = some x → x = Value.int .i64 (f k)) :
    Gives 86 #[.slice a n c] w (.bool (!anyB (fun k => decide (f k ≠ 0)) n)) := by
  have h0 := contErr_any 119 #[] enters_fine1 (fun k => decide (f k ≠ 0)) a n c xs w hx hn (fun k x hk w' _ => by
    rw [hf k x hk]
    exact (fine1_any (f k) w').mono fun e w'' ⟨h1, h2⟩ => ⟨h1, h2 ▸ Chg.refl _ _⟩)
  unfold Gives at h0 ⊢
  clear hx hf
  generalize anyB (fun k => decide (f k ≠ 0)) n = B at *
  go_enter Tryz.func86, Tryz.ntmps86
  go_wp2_with (go_at_call 118; refine h0.mono ?_; rintro e w' ⟨rfl, hc'⟩)
  go_ret
  exact ⟨rfl, hc'⟩

/-- two names, which is less -/
theorem byKey_any (k1 v1 k2 v2 : ByteArray) (w : World) : Gives 132 #[.agg #[.string k1, .string v1], .agg #[.string k2, .string v2]] w (.bool (Op.bytesLess k1.toList k2.toList)) := by
  unfold Gives
  go_enter Tryz.func132, Tryz.ntmps132
  go_wp2
  go_ret
  exact ⟨rfl, ((Chg.refl No w).alloc _).alloc _⟩
end Go.Proofs.YtipacbaapkdnaaaGreat
