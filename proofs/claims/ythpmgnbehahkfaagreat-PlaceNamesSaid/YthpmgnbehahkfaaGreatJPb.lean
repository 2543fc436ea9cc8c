/- Small data. -/
import Derived.Test.YthpmgnbehahkfaaGreatJPa
import Derived.Test.YthpmgnbehahkfaaGreatJEb
set_option linter.unusedSimpArgs false
set_option linter.unusedVariables false
namespace Go.Proofs.YthpmgnbehahkfaaGreat
open Go.RowKit Go.Dk Go.Dn

def z0 : ByteArray := ByteArray.empty
def ch1 (c : UInt8) : ByteArray := ⟨#[c]⟩
def noL : Lst LabD := ⟨0, fun _ => ⟨z0, z0⟩⟩
def noT : Lst TermD := ⟨0, fun _ => ⟨0, z0, z0⟩⟩
abbrev nilV : FD := .v (.slice none 0 0)
def fallNC (c : UInt8) : List FD := [S (ch1 c), I 0, I 0, I 0, I 0, I 0, nilV, nilV, B false, B false]
theorem noL_ok : LabsOk noL := ⟨by decide, fun k hk => absurd hk (Nat.not_lt_zero k)⟩
theorem noT_ok : TermsOk noT := ⟨by decide, fun k hk => absurd hk (Nat.not_lt_zero k)⟩
theorem ch1_ok (c : UInt8) : Sm (ch1 c) := by unfold Sm ch1; show 1 ≤ 1048576; decide
theorem z0_ok : Sm z0 := by unfold Sm z0; decide
end Go.Proofs.YthpmgnbehahkfaaGreat
