/- Regions that draw their order, whose operations read and whose calls change nothing that is there: walked once. -/
/- A region that draws its order, taken step by step in a class of worlds. -/
/- A region that draws its order: its head is quiet, its tail a chain of operations that waits for all of the head; inside the wide fence. -/
/- A region that draws its order, its head walked by hand, its tail a chain that waits for all of the head; inside the wide fence. -/
/- A region that draws its order, inside a round of a range over a function: its head is quiet, its tail a chain. -/
import Derived.Test.YthpmgnbehahkfaaGreatJQa
import Derived.Deep.QuietTactic
import Derived.Deep.RegionHeld3
import Derived.OrdersIn
import Derived.TacticsIn
import Derived.OrdersHeld
import Derived.RangeFuncCalls
set_option linter.unusedSimpArgs false
set_option linter.unusedVariables false
section
namespace Go.Dk
open Go.RowKit

/-- a world that parts from W in S alone -/
structure Wd (S : Nat → Prop) (W : World) where
  w : World
  chg : Chg S W w

instance (S : Nat → Prop) (W : World) : Nonempty (Wd S W) := ⟨⟨W, Chg.refl S W⟩⟩

/-- the walk in the order of the text, behind a wall (what is not to be reckoned ahead) -/
structure WQ (P : Program) (ops : Array Oper) (C : World → Prop) (Q : Act → Prop) (l : List Oper) (a : Act) : Prop where
  out : wpQuiet P ops C Q l a
theorem WQ.nil {P : Program} {ops : Array Oper} {C : World → Prop} {Q : Act → Prop} {a : Act} (h : Q a) : WQ P ops C Q [] a := ⟨wpQuiet_nil h⟩
theorem WQ.step {P : Program} {ops : Array Oper} {C : World → Prop} {Q : Act → Prop} {a : Act} {o : Oper} {rest : List Oper}
    (h : ∀ K : Act → Prop, (∀ a, WQ P ops C Q rest a → K a) → if Region.wanted o (yielded ops a.tmps) then o.quiet P a C K else K (a.put o.dst undef)) : WQ P ops C Q (o :: rest) a :=
  ⟨wpQuiet_step fun K hK => h K fun a ha => hK a ha.out⟩
theorem wp_region_wd {P : Program} {S : Nat → Prop} {id : Nat} {Q : Exit → Act → World → Prop} {a : Act} {w : World} {l : List Oper} (hm : P.follows .mixedOrders = true) (hB : Region.lexB .any l.toArray = true)
    (h : WQ P l.toArray (fun w' => ∃ x : Wd S w, w' = x.w) (fun a' => ∀ w', (∃ x : Wd S w, w' = x.w) → Q .normal a' w') l a) : (Code.region id l.toArray true).wp P Q a w :=
  wp_region_quiet (C := fun w' => ∃ x : Wd S w, w' = x.w) hm hB ⟨⟨_, (Chg.refl S w).drew⟩, rfl⟩ (by simpa using h.out)
theorem Wd.next {S : Nat → Prop} {W w' : World} {x : Wd S W} (h : Chg S x.w w') : ∃ y : Wd S W, y.w = w' := ⟨⟨w', x.chg.trans h⟩, rfl⟩
theorem Wd.start (S : Nat → Prop) (W : World) : ∃ x : Wd S W, x.w = W := ⟨⟨W, Chg.refl S W⟩, rfl⟩
/-- a contract, met at a call there -/
theorem wd_calls {P : Program} {W : World} {S : Nat → Prop} {f : FuncId} {args : Array Value} {x : Wd S W} {v : Value}
    (h : Calls P f args x.w fun e w' => e = .returned v ∧ Chg S x.w w') : Calls P f args x.w fun e w'' => e = .returned v ∧ ∃ y : Wd S W, w'' = y.w :=
  h.mono fun _ w'' ⟨he, hc⟩ => ⟨he, ⟨w'', x.chg.trans hc⟩, rfl⟩
theorem wd_same {P : Program} {W : World} {S : Nat → Prop} {f : FuncId} {args : Array Value} {x : Wd S W} {v : Value}
    (h : Calls P f args x.w fun e w' => e = .returned v ∧ x.w = w') : Calls P f args x.w fun e w'' => e = .returned v ∧ ∃ y : Wd S W, w'' = y.w :=
  h.mono fun _ w'' ⟨he, hc⟩ => ⟨he, x, hc.symm⟩
end Go.Dk
end
section
namespace Go.Dk
open Go.RowKit

def InWd (S : Nat → Prop) (W : World) (w : World) : Prop := ∃ x : Wd S W, x.w = w
theorem held_at {l rest : List Oper} {i : Nat} {oi : Oper} (h : l.drop i = oi :: rest) : l.toArray[i]? = some oi := by
  have h1 : (l.drop i)[0]? = some oi := by rw [h]; rfl
  rw [List.getElem?_drop] at h1
  simpa using h1
theorem InWd.start {S : Nat → Prop} {W : World} (x : Wd S W) : InWd S W x.w := ⟨x, rfl⟩
theorem InWd.drew (S : Nat → Prop) (W : World) : InWd S W W.drew := ⟨⟨_, (Chg.refl S W).drew⟩, rfl⟩
theorem wp_region_wd2 {P : Program} {S : Nat → Prop} {W : World} (y : Wd S W) {id : Nat} {Q : Exit → Act → World → Prop} {a : Act} {l : List Oper} (hm : P.follows .mixedOrders = true) (hB : Region.lexB .any l.toArray = true)
    (h : WQ P l.toArray (fun w' => ∃ x : Wd S W, w' = x.w) (fun a' => ∀ w', (∃ x : Wd S W, w' = x.w) → Q .normal a' w') l a) : (Code.region id l.toArray true).wp P Q a y.w :=
  wp_region_quiet (C := fun w' => ∃ x : Wd S W, w' = x.w) hm hB ⟨⟨_, y.chg.drew⟩, rfl⟩ (by simpa using h.out)
theorem InWd.drew' {S : Nat → Prop} {W : World} (y : Wd S W) : InWd S W y.w.drew := ⟨⟨_, y.chg.drew⟩, rfl⟩
end Go.Dk
end
section
namespace Go.Dk
open Go.RowKit

/-- what is quiet, inside the wide fence -/
theorem wpIn_wide_of_quiet {n : Nat} {P : Program} {C : World → Prop} {o : Oper} {a : Act} {K : Act → Prop} {K' : Act → World → Prop} {Q' : Exit → Act → World → Prop} {w : World} (hw : C w) (h : ∀ a w', C w' → K a → K' a w')
    (hh : o.quiet P a C K) : o.wpIn Fence.wide n P a w K' Q' := by
  obtain ⟨v, h1, h2⟩ := hh
  have h3 := h1 w hw
  unfold Oper.quietAt at h3
  unfold Oper.wpIn
  refine ⟨fun _ _ => trivial, ?_⟩
  rw [show Fence.wide.round = none from rfl, Oper.semAt_none]
  generalize (execOp a.eval o).run P w = r at *
  cases r with
  | ok x w' =>
    cases x <;> simp only [Oper.quietUpon] at h3 <;> simp only [Oper.uponIn]
    case value u =>
      obtain ⟨e1, e2⟩ := h3
      rw [e1, e2]
      exact h _ _ hw h2
    case skip =>
      obtain ⟨e1, e2⟩ := h3
      rw [e1, ← e2]
      exact h _ _ hw h2
    case enter f args =>
      obtain ⟨e1, hc⟩ := h3
      rw [e1]
      exact ⟨(fun hx => by cases hx), callsIn_wide.2 (hc.mono fun e w'' ⟨he, hw''⟩ => by subst he; exact h _ _ hw'' h2)⟩
  | halt x w' => simp only [Oper.quietUpon] at h3

section
variable {n : Nat} {P : Program} {md : Region.Mode} {l t : List Oper} {C : World → Prop} {Q : Exit → Act → World → Prop}

def waitsB (md : Region.Mode) (o : Oper) (i : Nat) : Bool := o.after.any fun e => Region.binds md e && e.on == i
theorem waitsB_spec {o : Oper} {i : Nat} (h : waitsB md o i = true) : ∃ e ∈ o.after, Region.binds md e = true ∧ e.on = i := by
  obtain ⟨k, hk, h⟩ := Array.any_eq_true.1 h
  simp at h
  exact ⟨_, Array.getElem_mem hk, h.1, h.2⟩
def underB (md : Region.Mode) (o : Oper) (j : Nat) : Bool := o.after.all fun e => !Region.binds md e || decide (e.on < j)
theorem underB_spec {o : Oper} {j : Nat} (h : underB md o j = true) : ∀ e ∈ o.after, Region.binds md e = true → e.on < j := fun e he hb => by
  have h2 := Array.all_eq_true'.1 h e he
  simpa [hb] using h2

/-- what is asked of the edges -/
def headB (md : Region.Mode) (l : List Oper) : Bool := (List.range l.length).all fun j => ((l[j]?).map fun oj => underB md oj j && (match oj.guard with | none => true | some (g, _) => decide (g < l.length))).getD true
def sinksB (md : Region.Mode) (l t : List Oper) : Bool := (List.range l.length).all fun i => (List.range (l.length + 1)).any fun j => decide (i < j) && (((l ++ t)[j]?).map fun oj => waitsB md oj i).getD false
def chainsB (md : Region.Mode) (l t : List Oper) : Bool := (List.range t.length).all fun k => ((t[k]?).map fun o => underB md o (l.length + k) && (decide (k = 0) || waitsB md o (l.length + k - 1))).getD true

theorem headB_spec (hd : headB md l = true) {j : Nat} {oj : Oper} (hj : l[j]? = some oj) : (∀ e ∈ oj.after, Region.binds md e = true → e.on < j) ∧ ∀ g b, oj.guard = some (g, b) → g < l.length := by
  have hlt := (List.getElem?_eq_some_iff.1 hj).1
  have := List.all_eq_true.1 hd j (by simpa using hlt)
  rw [hj] at this
  simp only [Option.map_some, Option.getD_some, Bool.and_eq_true] at this
  refine ⟨underB_spec this.1, fun g b hg => ?_⟩
  have h2 := this.2
  rw [hg] at h2
  simpa using h2
theorem sinksB_spec (hd : sinksB md l t = true) {i : Nat} (hi : i < l.length) : ∃ j oj, i < j ∧ j ≤ l.length ∧ (l ++ t)[j]? = some oj ∧ ∃ e ∈ oj.after, Region.binds md e = true ∧ e.on = i := by
  have h1 := List.all_eq_true.1 hd i (by simpa using hi)
  obtain ⟨j, hj, h2⟩ := List.any_eq_true.1 h1
  simp only [Bool.and_eq_true, decide_eq_true_eq] at h2
  have hj' : j < l.length + 1 := by simpa using hj
  cases ho : (l ++ t)[j]? with
  | none => rw [ho] at h2; simp at h2
  | some oj =>
    rw [ho] at h2
    exact ⟨j, oj, h2.1, by omega, ho, waitsB_spec (by simpa using h2.2)⟩
theorem chainsB_spec (hd : chainsB md l t = true) {k : Nat} {o : Oper} (hk : t[k]? = some o) : (∀ e ∈ o.after, Region.binds md e = true → e.on < l.length + k) ∧ (k ≠ 0 → ∃ e ∈ o.after, Region.binds md e = true ∧ e.on = l.length + k - 1) := by
  have hlt := (List.getElem?_eq_some_iff.1 hk).1
  have := List.all_eq_true.1 hd k (by simpa using hlt)
  rw [hk] at this
  simp only [Option.map_some, Option.getD_some, Bool.and_eq_true, Bool.or_eq_true, decide_eq_true_eq] at this
  refine ⟨underB_spec this.1, fun h0 => ?_⟩
  rcases this.2 with h | h
  · exact absurd h h0
  · exact waitsB_spec h

theorem ext_false (a : Array Bool) (r i : Nat) : (a ++ Array.replicate r false).getD i false = a.getD i false := by
  by_cases h : i < a.size
  · simp [Array.getD, h, show i < a.size + r by omega, Array.getElem_append]
  · by_cases h2 : i < a.size + r
    · simp [Array.getD, h, h2, Array.getElem_append]
    · simp [Array.getD, h, h2]
theorem ext_true (a : Array Bool) (r i : Nat) (h : i < a.size) : (a ++ Array.replicate r false).getD i true = a.getD i true := by
  simp [Array.getD, h, show i < a.size + r by omega, Array.getElem_append]
theorem ext_new (a : Array Bool) (r i : Nat) (h : a.size ≤ i) (h2 : i < a.size + r) : (a ++ Array.replicate r false).getD i true = false := by
  simp [Array.getD, h2, show ¬ i < a.size by omega, Array.getElem_append]
theorem tf (a : Array Bool) (i : Nat) (h : i < a.size) : a.getD i true = a.getD i false := by simp [Array.getD, h]
theorem at_lt (i : Nat) (h : i < l.length) : ((l ++ t).toArray)[i]? = (l.toArray)[i]? := by simp [List.getElem?_append_left h]
theorem at_ge (k : Nat) : ((l ++ t).toArray)[l.length + k]? = t[k]? := by rw [List.getElem?_toArray, List.getElem?_append_right (by omega)]; congr 1; omega

/-- the tail, one operation behind the other -/
theorem tail_go (hd : chainsB md l t = true) : ∀ (r k : Nat) (listed : Array Bool) (a : Act) (w : World), k + r = t.length → listed.size = l.length + t.length → (∀ i, i < l.length + k → listed.getD i false = true) →
    (∀ i, l.length + k ≤ i → i < l.length + t.length → listed.getD i true = false) → wpListIn Fence.wide n P (l ++ t).toArray Q (t.drop k) a w → ∀ fuel, r ≤ fuel → wpAnyIn Fence.wide n P md (l ++ t).toArray Q fuel listed a w := by
  intro r
  induction r with
  | zero =>
    intro k listed a w hk hs h1 h2 h fuel _
    have hr : Region.ready md (l ++ t).toArray listed = [] := by
      rw [List.eq_nil_iff_forall_not_mem]
      intro j hj
      obtain ⟨g1, oj, g2, -⟩ := mem_ready.1 hj
      have hlt : j < l.length + t.length := by simpa using (Array.getElem?_eq_some_iff.1 g2).1
      rw [tf _ _ (by omega), h1 j (by omega)] at g1
      cases g1
    have hq : Q .normal a w := by
      rw [List.drop_eq_nil_of_le (by omega)] at h
      exact h
    cases fuel with
    | zero => exact ⟨hr, hq⟩
    | succ f => exact ⟨fun _ => hq, by rw [hr]; intro i hi; cases hi⟩
  | succ r ih =>
    intro k listed a w hk hs h1 h2 h fuel hf
    obtain ⟨f, rfl⟩ : ∃ f, fuel = f + 1 := ⟨fuel - 1, by omega⟩
    have hkt : k < t.length := by omega
    have hko : t[k]? = some t[k] := List.getElem?_eq_getElem hkt
    have hmem : l.length + k ∈ Region.ready md (l ++ t).toArray listed := by
      rw [mem_ready]
      exact ⟨h2 _ (Nat.le_refl _) (by omega), t[k], by rw [at_ge, hko], fun e he hb => h1 _ ((chainsB_spec hd hko).1 e he hb)⟩
    refine ⟨fun h0 => (by rw [h0] at hmem; cases hmem), fun j hj => ?_⟩
    obtain ⟨g1, oj, g2, g3⟩ := mem_ready.1 hj
    have hlt : j < l.length + t.length := by simpa using (Array.getElem?_eq_some_iff.1 g2).1
    have hjk : j = l.length + k := by
      rcases Nat.lt_trichotomy j (l.length + k) with hc | hc | hc
      · rw [tf _ _ (by omega), h1 j hc] at g1
        cases g1
      · exact hc
      · obtain ⟨i, rfl⟩ : ∃ i, j = l.length + i := ⟨j - l.length, by omega⟩
        rw [at_ge] at g2
        obtain ⟨e, he, hb, hon⟩ := (chainsB_spec hd g2).2 (by omega)
        have hx := g3 e he hb
        have hy := h2 e.on (by omega) (by omega)
        rw [tf _ _ (by omega), hx] at hy
        cases hy
    subst hjk
    have hnext : ∀ a w, wpListIn Fence.wide n P (l ++ t).toArray Q (t.drop (k + 1)) a w → wpAnyIn Fence.wide n P md (l ++ t).toArray Q f (listed.setIfInBounds (l.length + k) true) a w := fun a w h' => by
      refine ih (k + 1) _ a w (by omega) (by simpa using hs) (fun i hi => ?_) (fun i hi hi2 => ?_) h' f (by omega)
      · by_cases e : l.length + k = i
        · subst e
          simp [Array.getD, show l.length + k < listed.size by omega]
        · rw [getD_set_ne false e]
          exact h1 i (by omega)
      · rw [getD_set_ne true (by omega)]
        exact h2 i (by omega) hi2
    rw [List.drop_eq_getElem_cons hkt] at h
    unfold wpOpIn
    rw [at_ge, hko]
    dsimp only
    simp only [wpListIn] at h
    split
    · rename_i hw
      rw [if_pos hw] at h
      exact Oper.wpIn_mono hnext h
    · rename_i hw
      rw [if_neg hw] at h
      exact ⟨h.1, hnext _ _ h.2⟩

/-- what has come up, its own have -/
def ClosedB (md : Region.Mode) (l : List Oper) (listed : Array Bool) : Prop := ∀ j oj, l[j]? = some oj → listed.getD j false = true → ∀ e ∈ oj.after, Region.binds md e = true → listed.getD e.on false = true

theorem ready_head (hd : headB md l = true) {listed : Array Bool} (hs : listed.size = l.length) {j : Nat} (hj : j < l.length) : j ∈ Region.ready md (l ++ t).toArray (listed ++ Array.replicate t.length false) ↔ j ∈ Region.ready md l.toArray listed := by
  rw [mem_ready, mem_ready, ext_true _ _ _ (by omega), at_lt j hj]
  simp only [ext_false]
theorem head_full (hd : headB md l = true) {listed : Array Bool} (hs : listed.size = l.length) (h : Region.ready md l.toArray listed = []) : ∀ i, i < l.length → listed.getD i false = true := by
  intro i
  induction i using Nat.strongRecOn with
  | ind i ih =>
    intro hi
    cases hv : listed.getD i false with
    | true => rfl
    | false =>
      have hm : i ∈ Region.ready md l.toArray listed := by
        rw [mem_ready]
        refine ⟨by rw [tf _ _ (by omega)]; exact hv, l[i], by simp [hi], fun e he hb => ?_⟩
        have hlt := (headB_spec hd (List.getElem?_eq_getElem hi)).1 e he hb
        exact ih _ hlt (by omega)
      rw [h] at hm
      cases hm
theorem tail_ready (hk : sinksB md l t = true) (hc : chainsB md l t = true) {listed : Array Bool} (hs : listed.size = l.length) (hcl : ClosedB md l listed) {j : Nat} (hj : l.length ≤ j) (h : j ∈ Region.ready md (l ++ t).toArray (listed ++ Array.replicate t.length false)) :
    ∀ d i, l.length - i = d → i < l.length → listed.getD i false = true := by
  obtain ⟨g1, oj, g2, g3⟩ := mem_ready.1 h
  have hlt : j < l.length + t.length := by simpa using (Array.getElem?_eq_some_iff.1 g2).1
  have hj0 : j = l.length := by
    rcases Nat.lt_or_ge l.length j with hx | hx
    · obtain ⟨i, rfl⟩ : ∃ i, j = l.length + i := ⟨j - l.length, by omega⟩
      rw [at_ge] at g2
      obtain ⟨e, he, hb, hon⟩ := (chainsB_spec hc g2).2 (by omega)
      have hy := g3 e he hb
      rw [ext_false] at hy
      simp [Array.getD, show ¬ e.on < listed.size by omega] at hy
    · omega
  subst hj0
  intro d
  induction d using Nat.strongRecOn with
  | ind d ih =>
    intro i hd hi
    obtain ⟨j', oj', hij, hj', ho', e, he, hb, hon⟩ := sinksB_spec hk hi
    rcases Nat.lt_or_ge j' l.length with hx | hx
    · have h1 := ih (l.length - j') (by omega) j' rfl hx
      rw [List.getElem?_append_left hx] at ho'
      have := hcl j' oj' ho' h1 e he hb
      rwa [hon] at this
    · obtain rfl : j' = l.length := by omega
      rw [List.getElem?_toArray, ho'] at g2
      injection g2 with g2
      subst g2
      have := g3 e he hb
      rwa [ext_false, hon] at this

theorem yielded_head (tmps : Array Value) (g : Nat) (hg : g < l.length) : yielded (l ++ t).toArray tmps g = yielded l.toArray tmps g := by
  unfold yielded
  rw [at_lt g hg]
theorem wanted_head (hd : headB md l = true) {j : Nat} {oj : Oper} (hj : l[j]? = some oj) (tmps : Array Value) : Region.wanted oj (yielded (l ++ t).toArray tmps) = Region.wanted oj (yielded l.toArray tmps) := by
  unfold Region.wanted
  cases hg : oj.guard with
  | none => rfl
  | some gb =>
    obtain ⟨g, b⟩ := gb
    have := (headB_spec hd hj).2 g b hg
    simp only [yielded_head tmps g this]

theorem tail_start (hc : chainsB md l t = true) {listed : Array Bool} (hs : listed.size = l.length) (hfull : ∀ i, i < l.length → listed.getD i false = true) {a : Act} {w : World} (h : wpListIn Fence.wide n P (l ++ t).toArray Q t a w) (fuel : Nat) (hf : t.length ≤ fuel) :
    wpAnyIn Fence.wide n P md (l ++ t).toArray Q fuel (listed ++ Array.replicate t.length false) a w :=
  tail_go hc t.length 0 _ a w (by omega) (by simp [hs]) (fun i hi => by rw [ext_false]; exact hfull i (by omega)) (fun i hi hi2 => ext_new _ _ _ (by omega) (by omega)) (by simpa using h) fuel hf

theorem wpAny_tail (hd : headB md l = true) (hk : sinksB md l t = true) (hc : chainsB md l t = true) : ∀ (fuel : Nat) (listed : Array Bool) (a : Act), listed.size = l.length → ClosedB md l listed →
    wpAnyQ P md l.toArray C (fun a => ∀ w, C w → wpListIn Fence.wide n P (l ++ t).toArray Q t a w) fuel listed a →
    ∀ w, C w → wpAnyIn Fence.wide n P md (l ++ t).toArray Q (fuel + t.length) (listed ++ Array.replicate t.length false) a w := by
  intro fuel
  induction fuel with
  | zero =>
    intro listed a hs hcl h w hw
    exact tail_start hc hs (head_full hd hs h.1) (h.2 w hw) _ (by omega)
  | succ fuel ih =>
    intro listed a hs hcl h w hw
    cases hr : Region.ready md l.toArray listed with
    | nil => exact tail_start hc hs (head_full hd hs hr) (h.1 hr w hw) _ (by omega)
    | cons k r =>
      have hk1 : k ∈ Region.ready md l.toArray listed := by rw [hr]; exact List.mem_cons_self
      obtain ⟨hkf, ok, h2, _⟩ := mem_ready.1 hk1
      have hlt : k < l.length := by simpa using (Array.getElem?_eq_some_iff.1 h2).1
      rw [show fuel + 1 + t.length = (fuel + t.length) + 1 by omega]
      refine ⟨fun h0 => ?_, fun j hj => ?_⟩
      · have := (ready_head (t := t) hd hs hlt).2 hk1
        rw [h0] at this
        cases this
      · by_cases hjm : j < l.length
        · have hjr := (ready_head hd hs hjm).1 hj
          have hq := h.2 j hjr
          have hl : l[j]? = some l[j] := List.getElem?_eq_getElem hjm
          have hla : (l.toArray)[j]? = some l[j] := by simp
          have hcl2 : ClosedB md l (listed.setIfInBounds j true) := fun i oi hi hv e he hb => by
            obtain ⟨_, oj, hoj, hall⟩ := mem_ready.1 hjr
            by_cases hij : j = i
            · subst hij
              rw [List.getElem?_toArray, hi] at hoj
              injection hoj with hoj
              subst hoj
              exact getD_set_true (hall e he hb)
            · rw [getD_set_ne false hij] at hv
              exact getD_set_true (hcl i oi hi hv e he hb)
          have hnext : ∀ a' w', C w' → wpAnyQ P md l.toArray C (fun a => ∀ w, C w → wpListIn Fence.wide n P (l ++ t).toArray Q t a w) fuel (listed.setIfInBounds j true) a' →
              wpAnyIn Fence.wide n P md (l ++ t).toArray Q (fuel + t.length) ((listed ++ Array.replicate t.length false).setIfInBounds j true) a' w' := fun a' w' hw' K => by
            have := ih (listed.setIfInBounds j true) a' (by simpa using hs) hcl2 K w' hw'
            rwa [show (listed.setIfInBounds j true) ++ Array.replicate t.length false = (listed ++ Array.replicate t.length false).setIfInBounds j true by
              rw [Array.setIfInBounds_append_left (by omega)]] at this
          unfold qOp at hq
          rw [hla] at hq
          unfold wpOpIn
          rw [at_lt j hjm, hla]
          dsimp only at hq ⊢
          rw [wanted_head hd hl]
          split
          · rename_i hwd
            rw [if_pos hwd] at hq
            exact wpIn_wide_of_quiet hw hnext hq
          · rename_i hwd
            rw [if_neg hwd] at hq
            exact ⟨fun _ _ => trivial, hnext _ _ hw hq⟩
        · have hfull := tail_ready hk hc hs hcl (by omega) hj
          exfalso
          rw [tf _ _ (by omega), hfull _ k rfl hlt] at hkf
          cases hkf
end

/-- the region: its first m operations are quiet -/
theorem wp_region_tail {P : Program} {S : Nat → Prop} {W : World} (n m : Nat) (y : Wd S W) {id : Nat} {Q : Exit → Act → World → Prop} {a : Act} {l0 l t : List Oper} (hl : l0.take m = l) (ho : l0.drop m = t) (hm : P.follows .mixedOrders = true) (hB : Region.lexB .any l.toArray = true)
    (hd : headB .any l = true) (hk : sinksB .any l t = true) (hc : chainsB .any l t = true)
    (h : WQ P l.toArray (fun w' => ∃ x : Wd S W, w' = x.w) (fun a => ∀ w', (∃ x : Wd S W, w' = x.w) → wpListIn Fence.wide n P l0.toArray Q t a w') l a) : (Code.region id l0.toArray true).wpIn Fence.wide n P Q a y.w := by
  have e : l0 = l ++ t := by rw [← hl, ← ho, List.take_append_drop]
  subst e
  simp only [Region.lexB, Bool.and_eq_true] at hB
  have h1 := wpAnyQ_lex (C := fun w' => ∃ x : Wd S W, w' = x.w) (md := .any) hB.1 l 0 (Array.replicate l.length false) a (fun j => by rw [Nat.zero_add, List.getElem?_toArray]) (by simpa using hB.2) h.out
  have h2 := wpAny_tail (n := n) (Q := Q) hd hk hc l.length (Array.replicate l.length false) a (by simp) (fun j oj hj hv => by
    exfalso
    have hlt := (List.getElem?_eq_some_iff.1 hj).1
    simp [Array.getD, hlt] at hv) h1 _ ⟨⟨_, y.chg.drew⟩, rfl⟩
  refine wpIn_region_any hm ?_
  rw [show (l ++ t).toArray.size = l.length + t.length by simp]
  rwa [show Array.replicate l.length false ++ Array.replicate t.length false = Array.replicate (l.length + t.length) false by simp] at h2
end Go.Dk
end
section
namespace Go.Dk
open Go.RowKit

theorem rowsIn_of {n : Nat} {P : Program} {row : String} {args : Array Value} {w : World} {R : Value → World → Prop} (h : Rows P row args w R) : RowsIn Fence.wide n P row args w R :=
  fun c cs _ => let ⟨v, w', r, s⟩ := h c cs; ⟨v, w', r, stepsIn_wide.2 s⟩
/-- what is walked outside of a fence, inside the wide one -/
theorem wpIn_wide_of_wp {n : Nat} {P : Program} {o : Oper} {a : Act} {K : Act → World → Prop} {w : World} {Q Q' : Exit → Act → World → Prop} (hl : ¬ LetsOut Q') (hp : ∀ c a w, Q' (.panic c) a w → Q (.panic c) a w) (h : o.wp P a w K Q') : o.wpIn Fence.wide n P a w K Q := by
  unfold Oper.wp at h
  unfold Oper.wpIn
  refine ⟨fun _ _ => trivial, ?_⟩
  rw [show Fence.wide.round = none from rfl, Oper.semAt_none]
  generalize (execOp a.eval o).run P w = r at *
  cases r with
  | ok x w' =>
    cases x <;> simp only [Oper.upon] at h <;> simp only [Oper.uponIn]
    case value u => exact h
    case skip => exact h
    case defer d => exact h
    case enter f args =>
      exact ⟨(fun hx => by cases hx), callsIn_wide.2 (h.mono fun e w'' he => by
        cases e with
        | returned v => exact he
        | panicked c => exact hp _ _ _ he
        | outgrown => exact absurd he hl)⟩
    case row r args => exact ⟨(fun hx => by cases hx), rowsIn_of h⟩
  | halt x w' =>
    cases x <;> simp only [Oper.upon] at h <;> simp only [Oper.uponIn]
    exact hp _ _ _ h

section
variable {n : Nat} {P : Program} {md : Region.Mode} {l t : List Oper} {Q : Exit → Act → World → Prop}

/-- where the head ends -/
def TailQ (n : Nat) (P : Program) (ops : Array Oper) (Q : Exit → Act → World → Prop) (t : List Oper) : Exit → Act → World → Prop
  | .normal, a, w => wpListIn Fence.wide n P ops Q t a w
  | _, _, _ => False
theorem tailQ_lets {ops : Array Oper} : ¬ LetsOut (TailQ n P ops Q t) := fun ⟨_, _, h⟩ => h

theorem wpAny_tailP (hd : headB md l = true) (hk : sinksB md l t = true) (hc : chainsB md l t = true) : ∀ (fuel : Nat) (listed : Array Bool) (a : Act) (w : World), listed.size = l.length → ClosedB md l listed →
    wpAny P md l.toArray (TailQ n P (l ++ t).toArray Q t) fuel listed a w →
    wpAnyIn Fence.wide n P md (l ++ t).toArray Q (fuel + t.length) (listed ++ Array.replicate t.length false) a w := by
  intro fuel
  induction fuel with
  | zero =>
    intro listed a w hs hcl h
    exact tail_start hc hs (head_full hd hs h.1) h.2 _ (by omega)
  | succ fuel ih =>
    intro listed a w hs hcl h
    cases hr : Region.ready md l.toArray listed with
    | nil => exact tail_start hc hs (head_full hd hs hr) (h.1 hr) _ (by omega)
    | cons k r =>
      have hk1 : k ∈ Region.ready md l.toArray listed := by rw [hr]; exact List.mem_cons_self
      obtain ⟨hkf, ok, h2, _⟩ := mem_ready.1 hk1
      have hlt : k < l.length := by simpa using (Array.getElem?_eq_some_iff.1 h2).1
      rw [show fuel + 1 + t.length = (fuel + t.length) + 1 by omega]
      refine ⟨fun h0 => ?_, fun j hj => ?_⟩
      · have := (ready_head (t := t) hd hs hlt).2 hk1
        rw [h0] at this
        cases this
      · by_cases hjm : j < l.length
        · have hjr := (ready_head hd hs hjm).1 hj
          have hq := h.2 j hjr
          have hl : l[j]? = some l[j] := List.getElem?_eq_getElem hjm
          have hla : (l.toArray)[j]? = some l[j] := by simp
          have hcl2 : ClosedB md l (listed.setIfInBounds j true) := fun i oi hi hv e he hb => by
            obtain ⟨_, oj, hoj, hall⟩ := mem_ready.1 hjr
            by_cases hij : j = i
            · subst hij
              rw [List.getElem?_toArray, hi] at hoj
              injection hoj with hoj
              subst hoj
              exact getD_set_true (hall e he hb)
            · rw [getD_set_ne false hij] at hv
              exact getD_set_true (hcl i oi hi hv e he hb)
          have hnext : ∀ a' w', wpAny P md l.toArray (TailQ n P (l ++ t).toArray Q t) fuel (listed.setIfInBounds j true) a' w' →
              wpAnyIn Fence.wide n P md (l ++ t).toArray Q (fuel + t.length) ((listed ++ Array.replicate t.length false).setIfInBounds j true) a' w' := fun a' w' K => by
            have := ih (listed.setIfInBounds j true) a' w' (by simpa using hs) hcl2 K
            rwa [show (listed.setIfInBounds j true) ++ Array.replicate t.length false = (listed ++ Array.replicate t.length false).setIfInBounds j true by
              rw [Array.setIfInBounds_append_left (by omega)]] at this
          unfold wpOp at hq
          rw [hla] at hq
          unfold wpOpIn
          rw [at_lt j hjm, hla]
          dsimp only at hq ⊢
          rw [wanted_head hd hl]
          split
          · rename_i hwd
            rw [if_pos hwd] at hq
            rcases hq with hq | ⟨-, hq⟩
            · exact Oper.wpIn_mono hnext (wpIn_wide_of_wp tailQ_lets (fun _ _ _ h => h.elim) hq)
            · exact absurd hq tailQ_lets
          · rename_i hwd
            rw [if_neg hwd] at hq
            exact ⟨fun _ _ => trivial, hnext _ _ hq⟩
        · have hfull := tail_ready hk hc hs hcl (by omega) hj
          exfalso
          rw [tf _ _ (by omega), hfull _ k rfl hlt] at hkf
          cases hkf
end

/-- the region: its first m operations are walked one by one -/
theorem wp_region_tailH {P : Program} {S : World → Prop} (n m : Nat) {id : Nat} {Q : Exit → Act → World → Prop} {a : Act} {w : World} {l0 l t : List Oper} (hl : l0.take m = l) (ho : l0.drop m = t) (hm : P.follows .mixedOrders = true)
    (hd : headB .any l = true) (hk : sinksB .any l t = true) (hc : chainsB .any l t = true)
    (h : wpAnyH P .any l.toArray (TailQ n P l0.toArray Q t) S l.length (Array.replicate l.length false) a w.drew) : (Code.region id l0.toArray true).wpIn Fence.wide n P Q a w := by
  have e : l0 = l ++ t := by rw [← hl, ← ho, List.take_append_drop]
  subst e
  have h2 := wpAny_tailP (n := n) (Q := Q) hd hk hc l.length (Array.replicate l.length false) a _ (by simp) (fun j oj hj hv => by
    exfalso
    have hlt := (List.getElem?_eq_some_iff.1 hj).1
    simp [Array.getD, hlt] at hv) (wpAny_of_held _ _ _ _ h)
  refine wpIn_region_any hm ?_
  rw [show (l ++ t).toArray.size = l.length + t.length by simp]
  rwa [show Array.replicate l.length false ++ Array.replicate t.length false = Array.replicate (l.length + t.length) false by simp] at h2
end Go.Dk
end
section
namespace Go.Dk
open Go.RowKit

/-- the wide fence, within a round of the loop l₀ -/
abbrev FR (l₀ : Nat) : Fence := Fence.wide.inRound l₀
def noDef (l : List Oper) : Bool := l.all fun o => match o.op with | .defer _ => false | _ => true
theorem noDef_at {l : List Oper} (h : noDef l = true) {o : Oper} (ho : o ∈ l) : ∀ c, o.op ≠ .defer c := fun c e => by
  have := List.all_eq_true.1 h o ho
  rw [e] at this
  cases this
theorem wpIn_round_of_quiet {l₀ n : Nat} {P : Program} {C : World → Prop} {o : Oper} {a : Act} {K : Act → Prop} {K' : Act → World → Prop} {Q' : Exit → Act → World → Prop} {w : World} (hnd : ∀ c, o.op ≠ .defer c) (hw : C w) (h : ∀ a w', C w' → K a → K' a w')
    (hh : o.quiet P a C K) : o.wpIn (FR l₀) n P a w K' Q' := by
  obtain ⟨v, h1, h2⟩ := hh
  have h3 := h1 w hw
  unfold Oper.quietAt at h3
  unfold Oper.wpIn
  refine ⟨fun _ _ => trivial, ?_⟩
  rw [Oper.semAt_eq _ _ _ hnd]
  generalize (execOp a.eval o).run P w = r at *
  cases r with
  | ok x w' =>
    cases x <;> simp only [Oper.quietUpon] at h3 <;> simp only [Oper.uponIn]
    case value u =>
      obtain ⟨e1, e2⟩ := h3
      rw [e1, e2]
      exact h _ _ hw h2
    case skip =>
      obtain ⟨e1, e2⟩ := h3
      rw [e1, ← e2]
      exact h _ _ hw h2
    case enter f args =>
      obtain ⟨e1, hc⟩ := h3
      rw [e1]
      exact ⟨(fun hx => by cases hx), CallsIn.inRound l₀ (callsIn_wide.2 (hc.mono fun e w'' ⟨he, hw''⟩ => by subst he; exact h _ _ hw'' h2))⟩
  | halt x w' => simp only [Oper.quietUpon] at h3

section
variable {l₀ n : Nat} {P : Program} {md : Region.Mode} {l t : List Oper} {C : World → Prop} {Q : Exit → Act → World → Prop}
/-- the tail, one operation behind the other -/
theorem tail_goR (hd : chainsB md l t = true) : ∀ (r k : Nat) (listed : Array Bool) (a : Act) (w : World), k + r = t.length → listed.size = l.length + t.length → (∀ i, i < l.length + k → listed.getD i false = true) →
    (∀ i, l.length + k ≤ i → i < l.length + t.length → listed.getD i true = false) → wpListIn (FR l₀) n P (l ++ t).toArray Q (t.drop k) a w → ∀ fuel, r ≤ fuel → wpAnyIn (FR l₀) n P md (l ++ t).toArray Q fuel listed a w := by
  intro r
  induction r with
  | zero =>
    intro k listed a w hk hs h1 h2 h fuel _
    have hr : Region.ready md (l ++ t).toArray listed = [] := by
      rw [List.eq_nil_iff_forall_not_mem]
      intro j hj
      obtain ⟨g1, oj, g2, -⟩ := mem_ready.1 hj
      have hlt : j < l.length + t.length := by simpa using (Array.getElem?_eq_some_iff.1 g2).1
      rw [tf _ _ (by omega), h1 j (by omega)] at g1
      cases g1
    have hq : Q .normal a w := by
      rw [List.drop_eq_nil_of_le (by omega)] at h
      exact h
    cases fuel with
    | zero => exact ⟨hr, hq⟩
    | succ f => exact ⟨fun _ => hq, by rw [hr]; intro i hi; cases hi⟩
  | succ r ih =>
    intro k listed a w hk hs h1 h2 h fuel hf
    obtain ⟨f, rfl⟩ : ∃ f, fuel = f + 1 := ⟨fuel - 1, by omega⟩
    have hkt : k < t.length := by omega
    have hko : t[k]? = some t[k] := List.getElem?_eq_getElem hkt
    have hmem : l.length + k ∈ Region.ready md (l ++ t).toArray listed := by
      rw [mem_ready]
      exact ⟨h2 _ (Nat.le_refl _) (by omega), t[k], by rw [at_ge, hko], fun e he hb => h1 _ ((chainsB_spec hd hko).1 e he hb)⟩
    refine ⟨fun h0 => (by rw [h0] at hmem; cases hmem), fun j hj => ?_⟩
    obtain ⟨g1, oj, g2, g3⟩ := mem_ready.1 hj
    have hlt : j < l.length + t.length := by simpa using (Array.getElem?_eq_some_iff.1 g2).1
    have hjk : j = l.length + k := by
      rcases Nat.lt_trichotomy j (l.length + k) with hc | hc | hc
      · rw [tf _ _ (by omega), h1 j hc] at g1
        cases g1
      · exact hc
      · obtain ⟨i, rfl⟩ : ∃ i, j = l.length + i := ⟨j - l.length, by omega⟩
        rw [at_ge] at g2
        obtain ⟨e, he, hb, hon⟩ := (chainsB_spec hd g2).2 (by omega)
        have hx := g3 e he hb
        have hy := h2 e.on (by omega) (by omega)
        rw [tf _ _ (by omega), hx] at hy
        cases hy
    subst hjk
    have hnext : ∀ a w, wpListIn (FR l₀) n P (l ++ t).toArray Q (t.drop (k + 1)) a w → wpAnyIn (FR l₀) n P md (l ++ t).toArray Q f (listed.setIfInBounds (l.length + k) true) a w := fun a w h' => by
      refine ih (k + 1) _ a w (by omega) (by simpa using hs) (fun i hi => ?_) (fun i hi hi2 => ?_) h' f (by omega)
      · by_cases e : l.length + k = i
        · subst e
          simp [Array.getD, show l.length + k < listed.size by omega]
        · rw [getD_set_ne false e]
          exact h1 i (by omega)
      · rw [getD_set_ne true (by omega)]
        exact h2 i (by omega) hi2
    rw [List.drop_eq_getElem_cons hkt] at h
    unfold wpOpIn
    rw [at_ge, hko]
    dsimp only
    simp only [wpListIn] at h
    split
    · rename_i hw
      rw [if_pos hw] at h
      exact Oper.wpIn_mono hnext h
    · rename_i hw
      rw [if_neg hw] at h
      exact ⟨h.1, hnext _ _ h.2⟩

theorem tail_startR (hc : chainsB md l t = true) {listed : Array Bool} (hs : listed.size = l.length) (hfull : ∀ i, i < l.length → listed.getD i false = true) {a : Act} {w : World} (h : wpListIn (FR l₀) n P (l ++ t).toArray Q t a w) (fuel : Nat) (hf : t.length ≤ fuel) :
    wpAnyIn (FR l₀) n P md (l ++ t).toArray Q fuel (listed ++ Array.replicate t.length false) a w :=
  tail_goR hc t.length 0 _ a w (by omega) (by simp [hs]) (fun i hi => by rw [ext_false]; exact hfull i (by omega)) (fun i hi hi2 => ext_new _ _ _ (by omega) (by omega)) (by simpa using h) fuel hf

theorem wpAny_tailR (hnd : noDef l = true) (hd : headB md l = true) (hk : sinksB md l t = true) (hc : chainsB md l t = true) : ∀ (fuel : Nat) (listed : Array Bool) (a : Act), listed.size = l.length → ClosedB md l listed →
    wpAnyQ P md l.toArray C (fun a => ∀ w, C w → wpListIn (FR l₀) n P (l ++ t).toArray Q t a w) fuel listed a →
    ∀ w, C w → wpAnyIn (FR l₀) n P md (l ++ t).toArray Q (fuel + t.length) (listed ++ Array.replicate t.length false) a w := by
  intro fuel
  induction fuel with
  | zero =>
    intro listed a hs hcl h w hw
    exact tail_startR hc hs (head_full hd hs h.1) (h.2 w hw) _ (by omega)
  | succ fuel ih =>
    intro listed a hs hcl h w hw
    cases hr : Region.ready md l.toArray listed with
    | nil => exact tail_startR hc hs (head_full hd hs hr) (h.1 hr w hw) _ (by omega)
    | cons k r =>
      have hk1 : k ∈ Region.ready md l.toArray listed := by rw [hr]; exact List.mem_cons_self
      obtain ⟨hkf, ok, h2, _⟩ := mem_ready.1 hk1
      have hlt : k < l.length := by simpa using (Array.getElem?_eq_some_iff.1 h2).1
      rw [show fuel + 1 + t.length = (fuel + t.length) + 1 by omega]
      refine ⟨fun h0 => ?_, fun j hj => ?_⟩
      · have := (ready_head (t := t) hd hs hlt).2 hk1
        rw [h0] at this
        cases this
      · by_cases hjm : j < l.length
        · have hjr := (ready_head hd hs hjm).1 hj
          have hq := h.2 j hjr
          have hl : l[j]? = some l[j] := List.getElem?_eq_getElem hjm
          have hla : (l.toArray)[j]? = some l[j] := by simp
          have hcl2 : ClosedB md l (listed.setIfInBounds j true) := fun i oi hi hv e he hb => by
            obtain ⟨_, oj, hoj, hall⟩ := mem_ready.1 hjr
            by_cases hij : j = i
            · subst hij
              rw [List.getElem?_toArray, hi] at hoj
              injection hoj with hoj
              subst hoj
              exact getD_set_true (hall e he hb)
            · rw [getD_set_ne false hij] at hv
              exact getD_set_true (hcl i oi hi hv e he hb)
          have hnext : ∀ a' w', C w' → wpAnyQ P md l.toArray C (fun a => ∀ w, C w → wpListIn (FR l₀) n P (l ++ t).toArray Q t a w) fuel (listed.setIfInBounds j true) a' →
              wpAnyIn (FR l₀) n P md (l ++ t).toArray Q (fuel + t.length) ((listed ++ Array.replicate t.length false).setIfInBounds j true) a' w' := fun a' w' hw' K => by
            have := ih (listed.setIfInBounds j true) a' (by simpa using hs) hcl2 K w' hw'
            rwa [show (listed.setIfInBounds j true) ++ Array.replicate t.length false = (listed ++ Array.replicate t.length false).setIfInBounds j true by
              rw [Array.setIfInBounds_append_left (by omega)]] at this
          unfold qOp at hq
          rw [hla] at hq
          unfold wpOpIn
          rw [at_lt j hjm, hla]
          dsimp only at hq ⊢
          rw [wanted_head hd hl]
          split
          · rename_i hwd
            rw [if_pos hwd] at hq
            exact wpIn_round_of_quiet (noDef_at hnd (List.getElem_mem hjm)) hw hnext hq
          · rename_i hwd
            rw [if_neg hwd] at hq
            exact ⟨fun _ _ => trivial, hnext _ _ hw hq⟩
        · have hfull := tail_ready hk hc hs hcl (by omega) hj
          exfalso
          rw [tf _ _ (by omega), hfull _ k rfl hlt] at hkf
          cases hkf
end

/-- the region: its first m operations are quiet -/
theorem wp_region_tailR {l₀ : Nat} {P : Program} {S : Nat → Prop} {W : World} (n m : Nat) (y : Wd S W) {id : Nat} {Q : Exit → Act → World → Prop} {a : Act} {l0 l t : List Oper} (hl : l0.take m = l) (ho : l0.drop m = t) (hm : P.follows .mixedOrders = true) (hB : Region.lexB .any l.toArray = true)
    (hnd : noDef l = true) (hd : headB .any l = true) (hk : sinksB .any l t = true) (hc : chainsB .any l t = true)
    (h : WQ P l.toArray (fun w' => ∃ x : Wd S W, w' = x.w) (fun a => ∀ w', (∃ x : Wd S W, w' = x.w) → wpListIn (FR l₀) n P l0.toArray Q t a w') l a) : (Code.region id l0.toArray true).wpIn (FR l₀) n P Q a y.w := by
  have e : l0 = l ++ t := by rw [← hl, ← ho, List.take_append_drop]
  subst e
  simp only [Region.lexB, Bool.and_eq_true] at hB
  have h1 := wpAnyQ_lex (C := fun w' => ∃ x : Wd S W, w' = x.w) (md := .any) hB.1 l 0 (Array.replicate l.length false) a (fun j => by rw [Nat.zero_add, List.getElem?_toArray]) (by simpa using hB.2) h.out
  have h2 := wpAny_tailR hnd (n := n) (Q := Q) hd hk hc l.length (Array.replicate l.length false) a (by simp) (fun j oj hj hv => by
    exfalso
    have hlt := (List.getElem?_eq_some_iff.1 hj).1
    simp [Array.getD, hlt] at hv) h1 _ ⟨⟨_, y.chg.drew⟩, rfl⟩
  refine wpIn_region_any hm ?_
  rw [show (l ++ t).toArray.size = l.length + t.length by simp]
  rwa [show Array.replicate l.length false ++ Array.replicate t.length false = Array.replicate (l.length + t.length) false by simp] at h2
end Go.Dk
end
