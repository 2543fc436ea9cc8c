/-
  No cell of these rows narrows 'for every input' (looked for: loops, veiled, ifaces, maps, wideKeys, modest, calm, conditions, laid).
  DERIVED. THE GIVEN ROWS OF THIS SEAT. 6 by the template 'for every input the law returns true; each argument reads behind the call as it read before'; 0 by the template 'total and deterministic' (their statements: YtlefoohoeomklaaGreatTotals.lean).
  GIVEN WITH THE SEED: the statements are not yours to turn. If you find one false, say at which input.
  Laid BY PROGRAM, IN A SANDBOX (cutbox-rows.mjs): the forced cells as the released guide's own fill.sh prints them over the translation 67ca4e02cf9ad138… (all of the seat's roots in one cut). By AI agents, Wed Nov 11 2026. No macro, syntax, notation, axiom, sorry.
-/
import Derived.Test.YtlefoohoeomklaaGreatChecked
import GoSem.Claim
import GoSem.ClaimJoined
import GoSem.ClaimMapViews
import Derived.JoinedTies
import Derived.KernelRfl
namespace Go.Proofs.YtlefoohoeomklaaGreat
/- THE CELL 'sum', in the pinned program and in every row, IS THE sha256 OF THE DUMP (.gsa) THAT YtlefoohoeomklaaGreatProg.lean LOADS. Nothing in Lean hashes anything: it is a label: what it is worth is what the hold of that sum in a sandbox is worth. -/
noncomputable def Tryz.pinned : Pinned := { name := "ytlefoohoeomklaagreat", sum := "67ca4e02cf9ad138dd42ba4636950f37a7328feec695bae9232666cbab990de4", checked := Tryz.checked }
namespace Rows
def none {H : Type} : Left H := { results := [], args := [] }

/-- 'drayagelaw12.HeatTells': WHATEVER THE INPUT: true; the input reads as it did. -/
def heatTellsSpec : ChangeSpec := { name := "heatTells", fn := fun _ => fun
  | [d1, d2, d3] => { results := [.lit (.bool true)], args := [d1, d2, d3] }
  | _ => none }
def heatTellsRow : OpenClaim := { program := "ytlefoohoeomklaagreat", sum := "67ca4e02cf9ad138dd42ba4636950f37a7328feec695bae9232666cbab990de4", func := "drayage/drayagelaw12.HeatTells", spec := "heatTells", inPlace := ["internal/bytealg.abigen_runtime_cmpstring"], unfollowed := true, recurses := true, apart := false }
def HeatTellsSaid : Prop := heatTellsRow.holds Tryz.pinned (OpenSpec.ofChange heatTellsSpec)

/-- ITS FALSE NEIGHBOUR: 'it returns false'. Refute it at one input. -/
def heatTellsWrong : ChangeSpec := { name := "heatTells", fn := fun _ => fun
  | [d1, d2, d3] => { results := [.lit (.bool false)], args := [d1, d2, d3] }
  | _ => none }
def HeatTellsWrongFalsely : Prop := heatTellsRow.holds Tryz.pinned (OpenSpec.ofChange heatTellsWrong)

/-- 'drayagelaw11.StoreLost': WHATEVER THE INPUT: true; the input reads as it did. -/
def storeLostSpec : ChangeSpec := { name := "storeLost", fn := fun _ => fun
  | [d1, d2, d3] => { results := [.lit (.bool true)], args := [d1, d2, d3] }
  | _ => none }
def storeLostRow : OpenClaim := { program := "ytlefoohoeomklaagreat", sum := "67ca4e02cf9ad138dd42ba4636950f37a7328feec695bae9232666cbab990de4", func := "drayage/drayagelaw11.StoreLost", spec := "storeLost", inPlace := ["internal/bytealg.abigen_runtime_cmpstring"], unfollowed := true, recurses := true, apart := false }
def StoreLostSaid : Prop := storeLostRow.holds Tryz.pinned (OpenSpec.ofChange storeLostSpec)

/-- ITS FALSE NEIGHBOUR: 'it returns false'. Refute it at one input. -/
def storeLostWrong : ChangeSpec := { name := "storeLost", fn := fun _ => fun
  | [d1, d2, d3] => { results := [.lit (.bool false)], args := [d1, d2, d3] }
  | _ => none }
def StoreLostWrongFalsely : Prop := storeLostRow.holds Tryz.pinned (OpenSpec.ofChange storeLostWrong)

/-- 'drayagelaw11.StorePlays': WHATEVER THE INPUT: true; the input reads as it did. -/
def storePlaysSpec : ChangeSpec := { name := "storePlays", fn := fun _ => fun
  | [d1, d2] => { results := [.lit (.bool true)], args := [d1, d2] }
  | _ => none }
def storePlaysRow : OpenClaim := { program := "ytlefoohoeomklaagreat", sum := "67ca4e02cf9ad138dd42ba4636950f37a7328feec695bae9232666cbab990de4", func := "drayage/drayagelaw11.StorePlays", spec := "storePlays", inPlace := ["internal/bytealg.abigen_runtime_cmpstring"], unfollowed := true, recurses := true, apart := false }
def StorePlaysSaid : Prop := storePlaysRow.holds Tryz.pinned (OpenSpec.ofChange storePlaysSpec)

/-- ITS FALSE NEIGHBOUR: 'it returns false'. Refute it at one input. -/
def storePlaysWrong : ChangeSpec := { name := "storePlays", fn := fun _ => fun
  | [d1, d2] => { results := [.lit (.bool false)], args := [d1, d2] }
  | _ => none }
def StorePlaysWrongFalsely : Prop := storePlaysRow.holds Tryz.pinned (OpenSpec.ofChange storePlaysWrong)

/-- 'drayagelaw11.StoreKnown': WHATEVER THE INPUT: true; the input reads as it did. -/
def storeKnownSpec : ChangeSpec := { name := "storeKnown", fn := fun _ => fun
  | [] => { results := [.lit (.bool true)], args := [] }
  | _ => none }
def storeKnownRow : OpenClaim := { program := "ytlefoohoeomklaagreat", sum := "67ca4e02cf9ad138dd42ba4636950f37a7328feec695bae9232666cbab990de4", func := "drayage/drayagelaw11.StoreKnown", spec := "storeKnown", inPlace := ["internal/bytealg.abigen_runtime_cmpstring"], unfollowed := true, recurses := true, apart := false }
def StoreKnownSaid : Prop := storeKnownRow.holds Tryz.pinned (OpenSpec.ofChange storeKnownSpec)

/-- ITS FALSE NEIGHBOUR: 'it returns false'. Refute it at one input. -/
def storeKnownWrong : ChangeSpec := { name := "storeKnown", fn := fun _ => fun
  | [] => { results := [.lit (.bool false)], args := [] }
  | _ => none }
def StoreKnownWrongFalsely : Prop := storeKnownRow.holds Tryz.pinned (OpenSpec.ofChange storeKnownWrong)

/-- 'drayagelaw11.StoreSteps': WHATEVER THE INPUT: true; the input reads as it did. -/
def storeStepsSpec : ChangeSpec := { name := "storeSteps", fn := fun _ => fun
  | [d1, d2] => { results := [.lit (.bool true)], args := [d1, d2] }
  | _ => none }
def storeStepsRow : OpenClaim := { program := "ytlefoohoeomklaagreat", sum := "67ca4e02cf9ad138dd42ba4636950f37a7328feec695bae9232666cbab990de4", func := "drayage/drayagelaw11.StoreSteps", spec := "storeSteps", inPlace := ["internal/bytealg.abigen_runtime_cmpstring"], unfollowed := true, recurses := true, apart := false }
def StoreStepsSaid : Prop := storeStepsRow.holds Tryz.pinned (OpenSpec.ofChange storeStepsSpec)

/-- ITS FALSE NEIGHBOUR: 'it returns false'. Refute it at one input. -/
def storeStepsWrong : ChangeSpec := { name := "storeSteps", fn := fun _ => fun
  | [d1, d2] => { results := [.lit (.bool false)], args := [d1, d2] }
  | _ => none }
def StoreStepsWrongFalsely : Prop := storeStepsRow.holds Tryz.pinned (OpenSpec.ofChange storeStepsWrong)

/-- 'drayagelaw11.StoreKeeps': WHATEVER THE INPUT: true; the input reads as it did. -/
def storeKeepsSpec : ChangeSpec := { name := "storeKeeps", fn := fun _ => fun
  | [d1, d2] => { results := [.lit (.bool true)], args := [d1, d2] }
  | _ => none }
def storeKeepsRow : OpenClaim := { program := "ytlefoohoeomklaagreat", sum := "67ca4e02cf9ad138dd42ba4636950f37a7328feec695bae9232666cbab990de4", func := "drayage/drayagelaw11.StoreKeeps", spec := "storeKeeps", inPlace := ["internal/bytealg.abigen_runtime_cmpstring"], unfollowed := true, recurses := true, apart := false }
def StoreKeepsSaid : Prop := storeKeepsRow.holds Tryz.pinned (OpenSpec.ofChange storeKeepsSpec)

/-- ITS FALSE NEIGHBOUR: 'it returns false'. Refute it at one input. -/
def storeKeepsWrong : ChangeSpec := { name := "storeKeeps", fn := fun _ => fun
  | [d1, d2] => { results := [.lit (.bool false)], args := [d1, d2] }
  | _ => none }
def StoreKeepsWrongFalsely : Prop := storeKeepsRow.holds Tryz.pinned (OpenSpec.ofChange storeKeepsWrong)

/- THE SECOND FORM. 'bulk': how many values and letters a reading holds, each counted each time it is reached (what is shared counts as often as it is met; a slice's spare places count too). A statement '..UptoSaid' is the law's where the arguments, and the package variables that the reading takes, are together of bulk at most 1048576: NARROWER than '..Said'. Prove '..Said' where nothing that the law and all that it calls make is longer than what came in: it says more and counts as full. Else prove '..UptoSaid'. A law counts once. -/
mutual
def uptoBulk {H : Type} : DataW H → Nat
  | .lit (.string bytes) => bytes.length + 1
  | .lit _ => 1
  | .nil => 1
  | .ptr d => uptoBulk d + 1
  | .slice elems spare => uptoBulkAll elems + uptoBulkAll spare + 1
  | .agg parts => uptoBulkAll parts + 1
  | .iface _ d => uptoBulk d + 1
  | .map entries => uptoBulkEntries entries + 1
  | .held _ => 1
def uptoBulkAll {H : Type} : List (DataW H) → Nat
  | [] => 0
  | d :: r => uptoBulk d + uptoBulkAll r
def uptoBulkEntries {H : Type} : List (Lit × DataW H) → Nat
  | [] => 0
  | x :: r => uptoBulkEntry x + uptoBulkEntries r
def uptoBulkEntry {H : Type} : Lit × DataW H → Nat
  | (.string bytes, d) => bytes.length + uptoBulk d + 1
  | (_, d) => uptoBulk d + 1
 end
def uptoSmall : (H : Type) → List (DataW H) → Bool := fun _ ds => decide (uptoBulkAll ds ≤ 1048576)
def OpenSpec.upto (s : _root_.Go.ChangeSpec) : _root_.Go.OpenSpec := { _root_.Go.OpenSpec.ofChange s with cond := some uptoSmall }

/-- 'drayagelaw12.HeatTells', WHERE WHAT IT READS IS OF BULK AT MOST 1048576: true; the input reads as it did. -/
def heatTellsUptoRow : OpenClaim := { program := "ytlefoohoeomklaagreat", sum := "67ca4e02cf9ad138dd42ba4636950f37a7328feec695bae9232666cbab990de4", func := "drayage/drayagelaw12.HeatTells", spec := "heatTells", inPlace := ["internal/bytealg.abigen_runtime_cmpstring"], unfollowed := true, recurses := true, apart := false, narrowed := true }
def HeatTellsUptoSaid : Prop := heatTellsUptoRow.holds Tryz.pinned (OpenSpec.upto heatTellsSpec)

/-- 'drayagelaw11.StoreLost', WHERE WHAT IT READS IS OF BULK AT MOST 1048576: true; the input reads as it did. -/
def storeLostUptoRow : OpenClaim := { program := "ytlefoohoeomklaagreat", sum := "67ca4e02cf9ad138dd42ba4636950f37a7328feec695bae9232666cbab990de4", func := "drayage/drayagelaw11.StoreLost", spec := "storeLost", inPlace := ["internal/bytealg.abigen_runtime_cmpstring"], unfollowed := true, recurses := true, apart := false, narrowed := true }
def StoreLostUptoSaid : Prop := storeLostUptoRow.holds Tryz.pinned (OpenSpec.upto storeLostSpec)

/-- 'drayagelaw11.StorePlays', WHERE WHAT IT READS IS OF BULK AT MOST 1048576: true; the input reads as it did. -/
def storePlaysUptoRow : OpenClaim := { program := "ytlefoohoeomklaagreat", sum := "67ca4e02cf9ad138dd42ba4636950f37a7328feec695bae9232666cbab990de4", func := "drayage/drayagelaw11.StorePlays", spec := "storePlays", inPlace := ["internal/bytealg.abigen_runtime_cmpstring"], unfollowed := true, recurses := true, apart := false, narrowed := true }
def StorePlaysUptoSaid : Prop := storePlaysUptoRow.holds Tryz.pinned (OpenSpec.upto storePlaysSpec)

/-- 'drayagelaw11.StoreKnown', WHERE WHAT IT READS IS OF BULK AT MOST 1048576: true; the input reads as it did. -/
def storeKnownUptoRow : OpenClaim := { program := "ytlefoohoeomklaagreat", sum := "67ca4e02cf9ad138dd42ba4636950f37a7328feec695bae9232666cbab990de4", func := "drayage/drayagelaw11.StoreKnown", spec := "storeKnown", inPlace := ["internal/bytealg.abigen_runtime_cmpstring"], unfollowed := true, recurses := true, apart := false, narrowed := true }
def StoreKnownUptoSaid : Prop := storeKnownUptoRow.holds Tryz.pinned (OpenSpec.upto storeKnownSpec)

/-- 'drayagelaw11.StoreSteps', WHERE WHAT IT READS IS OF BULK AT MOST 1048576: true; the input reads as it did. -/
def storeStepsUptoRow : OpenClaim := { program := "ytlefoohoeomklaagreat", sum := "67ca4e02cf9ad138dd42ba4636950f37a7328feec695bae9232666cbab990de4", func := "drayage/drayagelaw11.StoreSteps", spec := "storeSteps", inPlace := ["internal/bytealg.abigen_runtime_cmpstring"], unfollowed := true, recurses := true, apart := false, narrowed := true }
def StoreStepsUptoSaid : Prop := storeStepsUptoRow.holds Tryz.pinned (OpenSpec.upto storeStepsSpec)

/-- 'drayagelaw11.StoreKeeps', WHERE WHAT IT READS IS OF BULK AT MOST 1048576: true; the input reads as it did. -/
def storeKeepsUptoRow : OpenClaim := { program := "ytlefoohoeomklaagreat", sum := "67ca4e02cf9ad138dd42ba4636950f37a7328feec695bae9232666cbab990de4", func := "drayage/drayagelaw11.StoreKeeps", spec := "storeKeeps", inPlace := ["internal/bytealg.abigen_runtime_cmpstring"], unfollowed := true, recurses := true, apart := false, narrowed := true }
def StoreKeepsUptoSaid : Prop := storeKeepsUptoRow.holds Tryz.pinned (OpenSpec.upto storeKeepsSpec)

end Rows
end Go.Proofs.YtlefoohoeomklaaGreat
