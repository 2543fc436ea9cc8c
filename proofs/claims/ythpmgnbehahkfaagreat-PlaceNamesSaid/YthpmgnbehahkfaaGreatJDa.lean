/- Clusters, rows of labels, of terms, of numbers: as data without addresses. -/
import Derived.Test.YthpmgnbehahkfaaGreatJEa
import Derived.Test.YthpmgnbehahkfaaGreatJD0
set_option linter.unusedSimpArgs false
set_option linter.unusedVariables false
namespace Go.Proofs.YthpmgnbehahkfaaGreat
open Go.RowKit Go.Dk Go.Dn

abbrev I (n : Int) : FD := .v (.int .i64 n)
abbrev B (b : Bool) : FD := .v (.bool b)
abbrev S (s : ByteArray) : FD := .v (.string s)
theorem w64 {n : Int} (h1 : -9223372036854775808 ≤ n) (h2 : n ≤ 9223372036854775807) : IntKind.i64.wrap n = n := by
  simp [IntKind.wrap, IntKind.bits, IntKind.signed]
  omega
def fiveC (u : Nat → Int) : List FD := [I (u 0), I (u 1), I (u 2), I (u 3), I (u 4)]
def fiveF (u : Nat → Int) : FD := .agg [I (u 0), I (u 1), I (u 2), I (u 3), I (u 4)]
def encL (n : Nat) (f : Nat → List FD) : List (List FD) := (List.range n).map f
theorem encL_len (n : Nat) (f : Nat → List FD) : (encL n f).length = n := by simp [encL]
theorem encL_get? {n k : Nat} (f : Nat → List FD) (h : k < n) : (encL n f)[k]? = some (f k) := by simp [encL, h]
theorem encL_getD (n k : Nat) (f : Nat → List FD) (h : (k < n) = True) : (encL n f).getD k [] = f k := by
  have h : k < n := by simpa using h
  simp [List.getD, encL_get? f h]
theorem encL_succ (n : Nat) (f : Nat → List FD) : encL (n + 1) f = encL n f ++ [f n] := by simp [encL, List.range_succ]
theorem encL_set (n k : Nat) (f : Nat → List FD) (h : k < n) : (encL n f).set k (f k) = encL n f := by
  apply List.ext_getElem?
  intro j
  by_cases hj : j = k
  · subst hj; rw [List.getElem?_set_self (by rw [encL_len]; exact h), encL_get? f h]
  · simp [List.getElem?_set, Ne.symm hj]
theorem encL_at (n k : Nat) (f : Nat → List FD) (h : k < (encL n f).length) : (encL n f)[k] = f k := by simp [encL]
theorem encL_zero (f : Nat → List FD) : encL 0 f = [] := rfl
attribute [go_sem] encL_len encL_getD encL_at encL_zero

def labC (d : LabD) : List FD := [S d.key, S d.val]
def labsF (l : Lst LabD) : FD := .sl 2 (encL l.n fun k => labC (l.el k))
def termC (d : TermD) : List FD := [I d.kind, S d.key, S d.val]
def termsF (l : Lst TermD) : FD := .sl 3 (encL l.n fun k => termC (l.el k))
def nodeC (x : NodeD) : List FD := [S x.name, I (x.cap 0), I (x.cap 1), I (x.cap 2), I (x.cap 3), I (x.cap 4), labsF x.labels, labsF x.taints, B x.cordon, B x.lost]
def podC (p : PodD) : List FD := [S p.name, S p.owner, I (p.req 0), I (p.req 1), I (p.req 2), I (p.req 3), I (p.req 4), labsF p.labels, termsF p.where_, labsF p.bears, S p.wTopo, termsF p.wTerms, S p.aTopo, termsF p.aTerms, S p.on]
def ownerC (o : OwnerD) : List FD := [S o.name, I o.min, S o.topo, I o.skew, B o.single]
def nodesF (l : Lst NodeD) : FD := .sl 10 (encL l.n fun k => nodeC (l.el k))
def podsF (l : Lst PodD) : FD := .sl 15 (encL l.n fun k => podC (l.el k))
def ownersF (l : Lst OwnerD) : FD := .sl 5 (encL l.n fun k => ownerC (l.el k))
def snapC (s : SnapD) : List FD := [nodesF s.nodes, podsF s.pods, ownersF s.owners]
def snapF (s : SnapD) : FD := .agg (snapC s)
def intsF (l : Lst Int) : FD := .sl 1 (encL l.n fun k => [I (l.el k)])

/-! ### Rows, not looked into -/
theorem cellsD_labsF (l : Lst LabD) : cellsD (.f (labsF l)) = some [.f (labsF l)] := by rw [labsF]; rfl
theorem elems_labsF (mem : Nat → Option M) (l : Lst LabD) : elems mem 2 (.f (labsF l)) = some (encL l.n fun k => labC (l.el k)) := by simp [labsF, elems]
theorem lenD_labsF (mem : Nat → Option M) (l : Lst LabD) : lenD mem (.f (labsF l)) = some l.n := by simp [labsF, lenD, encL_len]
theorem cellsD_termsF (l : Lst TermD) : cellsD (.f (termsF l)) = some [.f (termsF l)] := by rw [termsF]; rfl
theorem elems_termsF (mem : Nat → Option M) (l : Lst TermD) : elems mem 3 (.f (termsF l)) = some (encL l.n fun k => termC (l.el k)) := by simp [termsF, elems]
theorem lenD_termsF (mem : Nat → Option M) (l : Lst TermD) : lenD mem (.f (termsF l)) = some l.n := by simp [termsF, lenD, encL_len]
theorem cellsD_nodesF (l : Lst NodeD) : cellsD (.f (nodesF l)) = some [.f (nodesF l)] := by rw [nodesF]; rfl
theorem elems_nodesF (mem : Nat → Option M) (l : Lst NodeD) : elems mem 10 (.f (nodesF l)) = some (encL l.n fun k => nodeC (l.el k)) := by simp [nodesF, elems]
theorem lenD_nodesF (mem : Nat → Option M) (l : Lst NodeD) : lenD mem (.f (nodesF l)) = some l.n := by simp [nodesF, lenD, encL_len]
theorem cellsD_podsF (l : Lst PodD) : cellsD (.f (podsF l)) = some [.f (podsF l)] := by rw [podsF]; rfl
theorem elems_podsF (mem : Nat → Option M) (l : Lst PodD) : elems mem 15 (.f (podsF l)) = some (encL l.n fun k => podC (l.el k)) := by simp [podsF, elems]
theorem lenD_podsF (mem : Nat → Option M) (l : Lst PodD) : lenD mem (.f (podsF l)) = some l.n := by simp [podsF, lenD, encL_len]
theorem cellsD_ownersF (l : Lst OwnerD) : cellsD (.f (ownersF l)) = some [.f (ownersF l)] := by rw [ownersF]; rfl
theorem elems_ownersF (mem : Nat → Option M) (l : Lst OwnerD) : elems mem 5 (.f (ownersF l)) = some (encL l.n fun k => ownerC (l.el k)) := by simp [ownersF, elems]
theorem lenD_ownersF (mem : Nat → Option M) (l : Lst OwnerD) : lenD mem (.f (ownersF l)) = some l.n := by simp [ownersF, lenD, encL_len]
theorem cellsD_intsF (l : Lst Int) : cellsD (.f (intsF l)) = some [.f (intsF l)] := by rw [intsF]; rfl
theorem elems_intsF (mem : Nat → Option M) (l : Lst Int) : elems mem 1 (.f (intsF l)) = some (encL l.n fun k => [I (l.el k)]) := by simp [intsF, elems]
theorem lenD_intsF (mem : Nat → Option M) (l : Lst Int) : lenD mem (.f (intsF l)) = some l.n := by simp [intsF, lenD, encL_len]
attribute [go_sem high] cellsD_labsF elems_labsF lenD_labsF cellsD_termsF elems_termsF lenD_termsF cellsD_nodesF elems_nodesF lenD_nodesF cellsD_podsF elems_podsF lenD_podsF cellsD_ownersF elems_ownersF lenD_ownersF cellsD_intsF elems_intsF lenD_intsF
theorem labC_eq (d : LabD) : labC d = [S d.key, S d.val] := rfl
theorem termC_eq (d : TermD) : termC d = [I d.kind, S d.key, S d.val] := rfl
theorem nodeC_eq (x : NodeD) : nodeC x = [S x.name, I (x.cap 0), I (x.cap 1), I (x.cap 2), I (x.cap 3), I (x.cap 4), labsF x.labels, labsF x.taints, B x.cordon, B x.lost] := rfl
theorem podC_eq (p : PodD) : podC p = [S p.name, S p.owner, I (p.req 0), I (p.req 1), I (p.req 2), I (p.req 3), I (p.req 4), labsF p.labels, termsF p.where_, labsF p.bears, S p.wTopo, termsF p.wTerms, S p.aTopo, termsF p.aTerms, S p.on] := rfl
theorem ownerC_eq (o : OwnerD) : ownerC o = [S o.name, I o.min, S o.topo, I o.skew, B o.single] := rfl
end Go.Proofs.YthpmgnbehahkfaaGreat
