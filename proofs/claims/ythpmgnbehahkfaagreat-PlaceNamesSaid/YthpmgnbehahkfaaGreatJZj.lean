/- A cluster as data; rows made by appends. -/
import Derived.Test.YthpmgnbehahkfaaGreatJZi
set_option linter.unusedSimpArgs false
set_option linter.unusedVariables false
namespace Go.Proofs.YthpmgnbehahkfaaGreat
open Go.RowKit Go.Dk

theorem rd_new (w : World) (b : Nat) (xs : List Value) (e : TypeId) (size n : Nat) (h : xs.length = n * size) (hb : b = w.heap.size) : Rd (w.alloc (.cells xs.toArray e)) (.slice (some ⟨b, 0, none⟩) n n) size n xs := by
  subst hb
  refine ⟨_, _, rfl, h, Nat.le_refl _, (fun h => by cases h), fun ad h j u hu => ?_⟩
  cases h
  rw [add0]
  exact cell_of_heap (heap_alloc_new w _) (by simpa using hu)

/-- an own row grows -/
theorem Chg.grown' {w wr w1 w' : World} {B e size n : Nat} {v : Value} {xs : List Value} (h : Chg No w w1) (ho : wr.ownsRow B e size v n xs) (hg : w1.grownBy w' v.ownBlock) (hB : w.heap.size ≤ B := by exact Nat.le_refl _) : Chg No w w' :=
  h.grown hg fun k hk hlt => by
    rcases ho.2 with ⟨rfl, _⟩ | ⟨g, cap, cur, rfl, hb, _⟩
    · simp [Value.ownBlock] at hk
    · simp [Value.ownBlock] at hk; subst hk; omega

theorem flat_get (cells : Nat → List Value) (n sz : Nat) (h : ∀ k, k < n → (cells k).length = sz) : ∀ k j u, k < n → (cells k)[j]? = some u → ((List.range n).flatMap cells)[k * sz + j]? = some u := by
  induction n with
  | zero => intro k j u hk; omega
  | succ n ih =>
    intro k j u hk hu
    have hl := (flat_at cells n sz fun k hk => h k (by omega)).1
    rw [List.range_succ, List.flatMap_append]
    have hj : j < (cells k).length := (List.getElem?_eq_some_iff.1 hu).1
    have hck := h k hk
    by_cases hkn : k < n
    · have h1 := ih (fun k hk => h k (by omega)) k j u hkn hu
      rw [List.getElem?_append_left (by have := (List.getElem?_eq_some_iff.1 h1).1; exact this)]
      exact h1
    · obtain rfl : k = n := by omega
      rw [List.getElem?_append_right (by omega), hl]
      simpa using hu

theorem own_sl {w : World} {B e sz n : Nat} {v : Value} {cells : Nat → List Value} (h : w.ownsRow B e sz v n ((List.range n).flatMap cells)) (hl : ∀ k, k < n → (cells k).length = sz) :
    ∃ a c, v = .slice a n c ∧ Sl w a n c sz cells ∧ ∀ ad, a = some ad → B ≤ ad.block := by
  have hc := fun g => h.cells (g := g)
  rcases h.2 with ⟨rfl, rfl⟩ | ⟨g, cap, cur, rfl, hb, hg, hnc, hcm, hcs, htk⟩
  · exact ⟨none, 0, rfl, ⟨by omega, by omega, fun _ => rfl, fun k hk => by omega⟩, fun ad h => by cases h⟩
  · refine ⟨_, _, rfl, ⟨hnc, by unfold maxLen at hcm; omega, (fun h => by cases h), fun k hk => ⟨hl k hk, g, 0, rfl, fun j u hu => ?_⟩⟩, fun ad h => by cases h; exact hb⟩
    have := hc g rfl _ _ (flat_get cells n sz hl k j u hk hu)
    rw [add0] at this
    simpa using this

def EachRel (w : World) (T usz n : Nat) (outc : Nat → List Value) (v i : Value) (wr : World) : Prop :=
  ∃ k : Nat, i = .int .i64 k ∧ k ≤ n ∧ wr.ownsRow w.heap.size T usz v k ((List.range k).flatMap outc) ∧ Chg No w wr

def NodeD.cells (x : NodeD) (lv tv : Value) : List Value :=
  [.string x.name, .int .i64 (x.cap 0), .int .i64 (x.cap 1), .int .i64 (x.cap 2), .int .i64 (x.cap 3), .int .i64 (x.cap 4), lv, tv, .bool x.cordon, .bool x.lost]
/-- the slices of a pod -/
structure PodV where
  l : Value
  w : Value
  b : Value
  x : Value
  y : Value
def PodD.cells (p : PodD) (v : PodV) : List Value :=
  [.string p.name, .string p.owner, .int .i64 (p.req 0), .int .i64 (p.req 1), .int .i64 (p.req 2), .int .i64 (p.req 3), .int .i64 (p.req 4), v.l, v.w, v.b, .string p.wTopo, v.x, .string p.aTopo, v.y, .string p.on]
def OwnerD.cells (o : OwnerD) : List Value := [.string o.name, .int .i64 o.min, .string o.topo, .int .i64 o.skew, .bool o.single]

/-- a text that a machine can hold -/
def Sm (s : ByteArray) : Prop := s.size ≤ 1048576
def NodeAt (w : World) (x : NodeD) (lv tv : Value) : Prop := Sm x.name ∧ LabsAt w lv x.labels ∧ LabsAt w tv x.taints
def PodAt (w : World) (p : PodD) (v : PodV) : Prop :=
  (Sm p.name ∧ Sm p.owner ∧ Sm p.on ∧ Sm p.wTopo ∧ Sm p.aTopo) ∧ LabsAt w v.l p.labels ∧ TermsAt w v.w p.where_ ∧ LabsAt w v.b p.bears ∧ TermsAt w v.x p.wTerms ∧ TermsAt w v.y p.aTerms
def OwnerAt (o : OwnerD) : Prop := Sm o.name ∧ Sm o.topo
theorem NodeAt.no {w w' : World} {x : NodeD} {lv tv : Value} (h : NodeAt w x lv tv) (hc : Chg No w w') : NodeAt w' x lv tv := ⟨h.1, h.2.1.no hc, h.2.2.no hc⟩
theorem PodAt.no {w w' : World} {p : PodD} {v : PodV} (h : PodAt w p v) (hc : Chg No w w') : PodAt w' p v :=
  ⟨h.1, h.2.1.no hc, h.2.2.1.no hc, h.2.2.2.1.no hc, h.2.2.2.2.1.no hc, h.2.2.2.2.2.no hc⟩

def NodesAt (w : World) (v : Value) (l : Lst NodeD) (lv tv : Nat → Value) : Prop := l.n ≤ 1048576 ∧ ∃ a c, v = .slice a l.n c ∧ Sl w a l.n c 10 (fun k => (l.el k).cells (lv k) (tv k)) ∧ ∀ k, k < l.n → NodeAt w (l.el k) (lv k) (tv k)
def PodsAt (w : World) (v : Value) (l : Lst PodD) (pv : Nat → PodV) : Prop := l.n ≤ 1048576 ∧ ∃ a c, v = .slice a l.n c ∧ Sl w a l.n c 15 (fun k => (l.el k).cells (pv k)) ∧ ∀ k, k < l.n → PodAt w (l.el k) (pv k)
def OwnersAt (w : World) (v : Value) (l : Lst OwnerD) : Prop := l.n ≤ 1048576 ∧ ∃ a c, v = .slice a l.n c ∧ Sl w a l.n c 5 (fun k => (l.el k).cells) ∧ ∀ k, k < l.n → OwnerAt (l.el k)
theorem NodesAt.no {w w' : World} {v : Value} {l : Lst NodeD} {lv tv : Nat → Value} (h : NodesAt w v l lv tv) (hc : Chg No w w') : NodesAt w' v l lv tv := by
  obtain ⟨hn, a, c, e, hs, ho⟩ := h
  exact ⟨hn, a, c, e, hs.no hc, fun k hk => (ho k hk).no hc⟩
theorem PodsAt.no {w w' : World} {v : Value} {l : Lst PodD} {pv : Nat → PodV} (h : PodsAt w v l pv) (hc : Chg No w w') : PodsAt w' v l pv := by
  obtain ⟨hn, a, c, e, hs, ho⟩ := h
  exact ⟨hn, a, c, e, hs.no hc, fun k hk => (ho k hk).no hc⟩
theorem OwnersAt.no {w w' : World} {v : Value} {l : Lst OwnerD} (h : OwnersAt w v l) (hc : Chg No w w') : OwnersAt w' v l := by
  obtain ⟨hn, a, c, e, hs, ho⟩ := h
  exact ⟨hn, a, c, e, hs.no hc, ho⟩

/-- a cluster in memory: its three slices -/
structure SnapAt (w : World) (n p o : Value) (s : SnapD) (lv tv : Nat → Value) (pv : Nat → PodV) : Prop where
  nodes : NodesAt w n s.nodes lv tv
  pods : PodsAt w p s.pods pv
  owners : OwnersAt w o s.owners
theorem SnapAt.no {w w' : World} {n p o : Value} {s : SnapD} {lv tv : Nat → Value} {pv : Nat → PodV} (h : SnapAt w n p o s lv tv pv) (hc : Chg No w w') : SnapAt w' n p o s lv tv pv :=
  ⟨h.nodes.no hc, h.pods.no hc, h.owners.no hc⟩
end Go.Proofs.YthpmgnbehahkfaaGreat
