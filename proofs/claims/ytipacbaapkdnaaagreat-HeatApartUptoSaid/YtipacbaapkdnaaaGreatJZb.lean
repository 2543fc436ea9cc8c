/- slices.IndexFunc, ContainsFunc at elements of one cell. -/
import Derived.Test.YtipacbaapkdnaaaGreatJZa
import Derived.Shelf.Abstract
set_option linter.unusedSimpArgs false
set_option linter.unusedVariables false
namespace Go.Proofs.YtipacbaapkdnaaaGreat
open Go.RowKit Go.Dk

/-- a call that turns nothing -/
def Gives (f : Nat) (args : Array Value) (w : World) (v : Value) : Prop := Calls Tryz.prog f args w fun e w' => e = .returned v ∧ Chg No w w'

/-- the first place below n where p holds -/
def idxB (p : Nat → Bool) (n : Nat) : Int := match (List.range n).find? p with | some k => k | none => -1
theorem idxB_hit {p : Nat → Bool} {n k : Nat} (h : k < n) (hp : p k = true) (hb : ∀ j, j < k → p j = false) : idxB p n = (k : Int) := by
  unfold idxB
  have : (List.range n).find? p = some k := by
    rw [List.find?_range_eq_some]; exact ⟨hp, by simpa using h, fun j hj => by simp [hb j hj]⟩
  rw [this]
theorem idxB_none {p : Nat → Bool} {n : Nat} (hb : ∀ j, j < n → p j = false) : idxB p n = -1 := by
  unfold idxB
  have : (List.range n).find? p = none := by
    rw [List.find?_range_eq_none]; intro i hi; simp [hb i hi]
  rw [this]
theorem idxB_range (p : Nat → Bool) (n : Nat) : -1 ≤ idxB p n ∧ idxB p n < n ∨ idxB p n = -1 := by
  unfold idxB
  split
  · rename_i k hk
    have := List.mem_of_find?_eq_some hk
    simp at this
    left; omega
  · right; rfl
theorem idxB_ge {p : Nat → Bool} {n : Nat} : (0 ≤ idxB p n) ↔ ∃ k, k < n ∧ p k = true := by
  unfold idxB
  split
  · rename_i k hk
    have h1 := List.mem_of_find?_eq_some hk
    have h2 := List.find?_some hk
    simp at h1
    exact ⟨fun _ => ⟨k, h1, h2⟩, fun _ => by omega⟩
  · rename_i hk
    simp at hk
    constructor
    · intro h; omega
    · rintro ⟨k, hk1, hk2⟩
      rw [hk k hk1] at hk2; cases hk2

def IdxFRel (w : World) (p : Nat → Bool) (n : Nat) (i : Value) (wr : World) : Prop :=
  ∃ k : Nat, i = .int .i64 k ∧ k ≤ n ∧ (∀ j, j < k → p j = false) ∧ Chg No w wr

/-- is there a place below n where p holds -/
def anyB (p : Nat → Bool) (n : Nat) : Bool := decide (∃ k, k < n ∧ p k = true)

theorem idxStr_any (g : Nat) (cap : Array Value) (eg : Enters Tryz.prog g) (p : Nat → Bool) (a : Option Addr) (n c : Nat) (xs : List Value) (w : World) (hx : Rd w (.slice a n c) 1 n xs) (hn : n ≤ 9223372036854775807)
    (hp : ∀ k x, xs[k]? = some x → ∀ w', Chg No w w' → Gives g (#[x] ++ cap) w' (.bool (p k))) :
    Gives 127 #[.slice a n c, .func (.func g) #[] cap] w (.int .i64 (idxB p n)) := by
  unfold Gives
  go_enter Tryz.func127, Tryz.ntmps127
  go_wp2_with fail
  go_loopw [8] (fun i wr => IdxFRel w p n i wr) (fun i _ => n - (intOf i).toNat)
  case atStart => exact ⟨0, rfl, by omega, (fun j hj => by omega), Chg.refl _ _⟩
  case round =>
    obtain ⟨k, rfl, hk, hall, hc⟩ := hrel
    by_cases hlt : k < n
    · obtain ⟨a', c', he, hl, hcc, hnil, hcell⟩ := hx
      injection he with he1 _ he3
      subst he1; subst he3
      cases a with
      | none => have := hnil rfl; omega
      | some ad =>
        obtain ⟨x, hxk⟩ : ∃ x, xs[k]? = some x := ⟨_, List.getElem?_eq_getElem (by omega)⟩
        have hq := hc.cell (hcell ad rfl k x hxk) id
        have hlt' : (k : Int) < (n : Int) := by omega
        have hcall := hp k x hxk wr hc
        clear hp hcell
        have heg : ∀ args w, (callFunc g args).run Tryz.prog w = .ok (.enter g args) w := eg
        cases hv : p k with
        | true =>
          rw [hv] at hcall
          have HV := Go.Lib.hid hv; clear hv
          go_wp2_with (go_at_fn g; refine hcall.mono ?_; rintro e w' ⟨rfl, hc'⟩)
          go_ret
          rw [idxB_hit hlt HV.out hall]
          exact ⟨rfl, hc.trans hc'⟩
        | false =>
          rw [hv] at hcall
          have HV := Go.Lib.hid hv; clear hv
          go_wp2_with (go_at_fn g; refine hcall.mono ?_; rintro e w' ⟨rfl, hc'⟩)
          go_roundw
          case rel => exact ⟨k + 1, by go_num, by omega, (fun j hj => by rcases Nat.lt_or_eq_of_le (Nat.le_of_lt_succ hj) with h | h; exact hall j h; subst h; exact HV.out), hc.trans hc'⟩
          case measure => simp [intOf]; omega
    · obtain rfl : k = n := by omega
      have hv := idxB_none hall
      go_wp2_with fail
      go_ret
      rw [hv]; exact ⟨rfl, hc⟩

theorem contStr_any (g : Nat) (cap : Array Value) (eg : Enters Tryz.prog g) (p : Nat → Bool) (a : Option Addr) (n c : Nat) (xs : List Value) (w : World) (hx : Rd w (.slice a n c) 1 n xs) (hn : n ≤ 9223372036854775807)
    (hp : ∀ k x, xs[k]? = some x → ∀ w', Chg No w w' → Gives g (#[x] ++ cap) w' (.bool (p k))) :
    Gives 97 #[.slice a n c, .func (.func g) #[] cap] w (.bool (anyB p n)) := by
  have h0 := idxStr_any g cap eg p a n c xs w hx hn hp
  have hr := idxB_ge (p := p) (n := n)
  unfold Gives at h0 ⊢
  clear hp hx
  generalize hi : idxB p n = r at h0 hr
  have HI := Go.Lib.hid hi; clear hi
  have HR := Go.Lib.hid hr; clear hr
  go_enter Tryz.func97, Tryz.ntmps97
  go_wp2_with (go_at_call 127; refine h0.mono ?_; rintro e w' ⟨rfl, hc'⟩)
  all_goals (go_ret; refine ⟨?_, hc'⟩; rw [show anyB p n = decide (0 ≤ r) from decide_eq_decide.2 HR.out.symm]; rfl)


theorem idxErr_any (g : Nat) (cap : Array Value) (eg : Enters Tryz.prog g) (p : Nat → Bool) (a : Option Addr) (n c : Nat) (xs : List Value) (w : World) (hx : Rd w (.slice a n c) 1 n xs) (hn : n ≤ 9223372036854775807)
    (hp : ∀ k x, xs[k]? = some x → ∀ w', Chg No w w' → Gives g (#[x] ++ cap) w' (.bool (p k))) :
    Gives 137 #[.slice a n c, .func (.func g) #[] cap] w (.int .i64 (idxB p n)) := by
  unfold Gives
  go_enter Tryz.func137, Tryz.ntmps137
  go_wp2_with fail
  go_loopw [8] (fun i wr => IdxFRel w p n i wr) (fun i _ => n - (intOf i).toNat)
  case atStart => exact ⟨0, rfl, by omega, (fun j hj => by omega), Chg.refl _ _⟩
  case round =>
    obtain ⟨k, rfl, hk, hall, hc⟩ := hrel
    by_cases hlt : k < n
    · obtain ⟨a', c', he, hl, hcc, hnil, hcell⟩ := hx
      injection he with he1 _ he3
      subst he1; subst he3
      cases a with
      | none => have := hnil rfl; omega
      | some ad =>
        obtain ⟨x, hxk⟩ : ∃ x, xs[k]? = some x := ⟨_, List.getElem?_eq_getElem (by omega)⟩
        have hq := hc.cell (hcell ad rfl k x hxk) id
        have hlt' : (k : Int) < (n : Int) := by omega
        have hcall := hp k x hxk wr hc
        clear hp hcell
        have heg : ∀ args w, (callFunc g args).run Tryz.prog w = .ok (.enter g args) w := eg
        cases hv : p k with
        | true =>
          rw [hv] at hcall
          have HV := Go.Lib.hid hv; clear hv
          go_wp2_with (go_at_fn g; refine hcall.mono ?_; rintro e w' ⟨rfl, hc'⟩)
          go_ret
          rw [idxB_hit hlt HV.out hall]
          exact ⟨rfl, hc.trans hc'⟩
        | false =>
          rw [hv] at hcall
          have HV := Go.Lib.hid hv; clear hv
          go_wp2_with (go_at_fn g; refine hcall.mono ?_; rintro e w' ⟨rfl, hc'⟩)
          go_roundw
          case rel => exact ⟨k + 1, by go_num, by omega, (fun j hj => by rcases Nat.lt_or_eq_of_le (Nat.le_of_lt_succ hj) with h | h; exact hall j h; subst h; exact HV.out), hc.trans hc'⟩
          case measure => simp [intOf]; omega
    · obtain rfl : k = n := by omega
      have hv := idxB_none hall
      go_wp2_with fail
      go_ret
      rw [hv]; exact ⟨rfl, hc⟩

theorem contErr_any (g : Nat) (cap : Array Value) (eg : Enters Tryz.prog g) (p : Nat → Bool) (a : Option Addr) (n c : Nat) (xs : List Value) (w : World) (hx : Rd w (.slice a n c) 1 n xs) (hn : n ≤ 9223372036854775807)
    (hp : ∀ k x, xs[k]? = some x → ∀ w', Chg No w w' → Gives g (#[x] ++ cap) w' (.bool (p k))) :
    Gives 118 #[.slice a n c, .func (.func g) #[] cap] w (.bool (anyB p n)) := by
  have h0 := idxErr_any g cap eg p a n c xs w hx hn hp
  have hr := idxB_ge (p := p) (n := n)
  unfold Gives at h0 ⊢
  clear hp hx
  generalize hi : idxB p n = r at h0 hr
  have HI := Go.Lib.hid hi; clear hi
  have HR := Go.Lib.hid hr; clear hr
  go_enter Tryz.func118, Tryz.ntmps118
  go_wp2_with (go_at_call 137; refine h0.mono ?_; rintro e w' ⟨rfl, hc'⟩)
  all_goals (go_ret; refine ⟨?_, hc'⟩; rw [show anyB p n = decide (0 ≤ r) from decide_eq_decide.2 HR.out.symm]; rfl)


theorem idxInt_any (g : Nat) (cap : Array Value) (eg : Enters Tryz.prog g) (p : Nat → Bool) (a : Option Addr) (n c : Nat) (xs : List Value) (w : World) (hx : Rd w (.slice a n c) 1 n xs) (hn : n ≤ 9223372036854775807)
    (hp : ∀ k x, xs[k]? = some x → ∀ w', Chg No w w' → Gives g (#[x] ++ cap) w' (.bool (p k))) :
    Gives 87 #[.slice a n c, .func (.func g) #[] cap] w (.int .i64 (idxB p n)) := by
  unfold Gives
  go_enter Tryz.func87, Tryz.ntmps87
  go_wp2_with fail
  go_loopw [8] (fun i wr => IdxFRel w p n i wr) (fun i _ => n - (intOf i).toNat)
  case atStart => exact ⟨0, rfl, by omega, (fun j hj => by omega), Chg.refl _ _⟩
  case round =>
    obtain ⟨k, rfl, hk, hall, hc⟩ := hrel
    by_cases hlt : k < n
    · obtain ⟨a', c', he, hl, hcc, hnil, hcell⟩ := hx
      injection he with he1 _ he3
      subst he1; subst he3
      cases a with
      | none => have := hnil rfl; omega
      | some ad =>
        obtain ⟨x, hxk⟩ : ∃ x, xs[k]? = some x := ⟨_, List.getElem?_eq_getElem (by omega)⟩
        have hq := hc.cell (hcell ad rfl k x hxk) id
        have hlt' : (k : Int) < (n : Int) := by omega
        have hcall := hp k x hxk wr hc
        clear hp hcell
        have heg : ∀ args w, (callFunc g args).run Tryz.prog w = .ok (.enter g args) w := eg
        cases hv : p k with
        | true =>
          rw [hv] at hcall
          have HV := Go.Lib.hid hv; clear hv
          go_wp2_with (go_at_fn g; refine hcall.mono ?_; rintro e w' ⟨rfl, hc'⟩)
          go_ret
          rw [idxB_hit hlt HV.out hall]
          exact ⟨rfl, hc.trans hc'⟩
        | false =>
          rw [hv] at hcall
          have HV := Go.Lib.hid hv; clear hv
          go_wp2_with (go_at_fn g; refine hcall.mono ?_; rintro e w' ⟨rfl, hc'⟩)
          go_roundw
          case rel => exact ⟨k + 1, by go_num, by omega, (fun j hj => by rcases Nat.lt_or_eq_of_le (Nat.le_of_lt_succ hj) with h | h; exact hall j h; subst h; exact HV.out), hc.trans hc'⟩
          case measure => simp [intOf]; omega
    · obtain rfl : k = n := by omega
      have hv := idxB_none hall
      go_wp2_with fail
      go_ret
      rw [hv]; exact ⟨rfl, hc⟩

theorem contInt_any (g : Nat) (cap : Array Value) (eg : Enters Tryz.prog g) (p : Nat → Bool) (a : Option Addr) (n c : Nat) (xs : List Value) (w : World) (hx : Rd w (.slice a n c) 1 n xs) (hn : n ≤ 9223372036854775807)
    (hp : ∀ k x, xs[k]? = some x → ∀ w', Chg No w w' → Gives g (#[x] ++ cap) w' (.bool (p k))) :
    Gives 54 #[.slice a n c, .func (.func g) #[] cap] w (.bool (anyB p n)) := by
  have h0 := idxInt_any g cap eg p a n c xs w hx hn hp
  have hr := idxB_ge (p := p) (n := n)
  unfold Gives at h0 ⊢
  clear hp hx
  generalize hi : idxB p n = r at h0 hr
  have HI := Go.Lib.hid hi; clear hi
  have HR := Go.Lib.hid hr; clear hr
  go_enter Tryz.func54, Tryz.ntmps54
  go_wp2_with (go_at_call 87; refine h0.mono ?_; rintro e w' ⟨rfl, hc'⟩)
  all_goals (go_ret; refine ⟨?_, hc'⟩; rw [show anyB p n = decide (0 ≤ r) from decide_eq_decide.2 HR.out.symm]; rfl)

end Go.Proofs.YtipacbaapkdnaaaGreat
