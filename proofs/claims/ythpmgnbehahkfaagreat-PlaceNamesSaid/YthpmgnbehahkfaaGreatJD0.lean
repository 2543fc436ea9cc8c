/- A cluster as data. -/
import Derived.Test.YthpmgnbehahkfaaGreatJQa
set_option linter.unusedSimpArgs false
set_option linter.unusedVariables false
namespace Go.Proofs.YthpmgnbehahkfaaGreat
open Go.RowKit Go.Dk

structure LabD where
  key : ByteArray
  val : ByteArray
structure Lst (α : Type) where
  n : Nat
  el : Nat → α
structure TermD where
  kind : Int
  key : ByteArray
  val : ByteArray
structure NodeD where
  name : ByteArray
  cap : Nat → Int
  labels : Lst LabD
  taints : Lst LabD
  cordon : Bool
  lost : Bool
structure PodD where
  name : ByteArray
  owner : ByteArray
  req : Nat → Int
  labels : Lst LabD
  where_ : Lst TermD
  bears : Lst LabD
  wTopo : ByteArray
  wTerms : Lst TermD
  aTopo : ByteArray
  aTerms : Lst TermD
  on : ByteArray
structure OwnerD where
  name : ByteArray
  min : Int
  topo : ByteArray
  skew : Int
  single : Bool
structure SnapD where
  nodes : Lst NodeD
  pods : Lst PodD
  owners : Lst OwnerD
end Go.Proofs.YthpmgnbehahkfaaGreat
