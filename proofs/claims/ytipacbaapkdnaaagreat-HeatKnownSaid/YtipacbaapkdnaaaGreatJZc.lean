/- slices.IndexFunc, ContainsFunc at structs (printed by genc.py). -/
import Derived.Test.YtipacbaapkdnaaaGreatJZb
set_option linter.unusedSimpArgs false
set_option linter.unusedVariables false
namespace Go.Proofs.YtipacbaapkdnaaaGreat
open Go.RowKit Go.Dk

theorem add_at (a : Addr) (m j : Nat) (hj : 0 < j) : a.add (m + j) = (⟨(a.add m).block, (a.add m).off + j, none⟩ : Addr) := by
  unfold Addr.add
  repeat' split
  all_goals simp_all
  all_goals omega


theorem idxOwner_any (g : Nat) (cap : Array Value) (eg : Enters Tryz.prog g) (p : Nat → Bool) (a : Option Addr) (n c : Nat) (xs : List Value) (w : World) (hx : Rd w (.slice a n c) 5 n xs) (hn : n ≤ 9223372036854775807)
    (hp : ∀ k, k < n → ∀ x0 x1 x2 x3 x4, xs[k * 5 + 0]? = some x0 → xs[k * 5 + 1]? = some x1 → xs[k * 5 + 2]? = some x2 → xs[k * 5 + 3]? = some x3 → xs[k * 5 + 4]? = some x4 → ∀ w', Chg No w w' → Gives g (#[.agg #[x0, x1, x2, x3, x4]] ++ cap) w' (.bool (p k))) :
    Gives 109 #[.slice a n c, .func (.func g) #[] cap] w (.int .i64 (idxB p n)) := by
  unfold Gives
  go_enter Tryz.func109, Tryz.ntmps109
  go_wp2_with fail
  go_loopw [8] (fun i wr => IdxFRel w p n i wr) (fun i _ => n - (intOf i).toNat)
  case atStart => exact ⟨0, rfl, by omega, (fun j hj => by omega), Chg.refl _ _⟩
  case round =>
    obtain ⟨k, rfl, hk, hall, hc⟩ := hrel
    by_cases hlt : k < n
    · obtain ⟨a', c', he, hl, hcc, hnil, hcell⟩ := hx
      injection he with he1 _ he3
      subst he1; subst he3
      cases a with
      | none => have := hnil rfl; omega
      | some ad =>
        obtain ⟨x0, h0⟩ : ∃ x, xs[k * 5 + 0]? = some x := ⟨_, List.getElem?_eq_getElem (by omega)⟩
        obtain ⟨x1, h1⟩ : ∃ x, xs[k * 5 + 1]? = some x := ⟨_, List.getElem?_eq_getElem (by omega)⟩
        obtain ⟨x2, h2⟩ : ∃ x, xs[k * 5 + 2]? = some x := ⟨_, List.getElem?_eq_getElem (by omega)⟩
        obtain ⟨x3, h3⟩ : ∃ x, xs[k * 5 + 3]? = some x := ⟨_, List.getElem?_eq_getElem (by omega)⟩
        obtain ⟨x4, h4⟩ : ∃ x, xs[k * 5 + 4]? = some x := ⟨_, List.getElem?_eq_getElem (by omega)⟩
        have q0 := hc.cell (hcell ad rfl (k * 5 + 0) x0 h0) id
        rw [Nat.add_zero] at q0
        have q1 := hc.cell (add_at ad (k * 5) 1 (by decide) ▸ hcell ad rfl (k * 5 + 1) x1 h1) id
        have q2 := hc.cell (add_at ad (k * 5) 2 (by decide) ▸ hcell ad rfl (k * 5 + 2) x2 h2) id
        have q3 := hc.cell (add_at ad (k * 5) 3 (by decide) ▸ hcell ad rfl (k * 5 + 3) x3 h3) id
        have q4 := hc.cell (add_at ad (k * 5) 4 (by decide) ▸ hcell ad rfl (k * 5 + 4) x4 h4) id
        have hlt' : (k : Int) < (n : Int) := by omega
        have hcall := hp k hlt x0 x1 x2 x3 x4 h0 h1 h2 h3 h4 wr hc
        clear hp hcell h0 h1 h2 h3 h4
        have heg : ∀ args w, (callFunc g args).run Tryz.prog w = .ok (.enter g args) w := eg
        cases hv : p k with
        | true =>
          rw [hv] at hcall
          have HV := Go.Lib.hid hv; clear hv
          go_wp2_with (go_at_fn g; refine hcall.mono ?_; rintro e w' ⟨rfl, hc'⟩)
          go_ret
          rw [idxB_hit hlt HV.out hall]
          exact ⟨rfl, hc.trans hc'⟩
        | false =>
          rw [hv] at hcall
          have HV := Go.Lib.hid hv; clear hv
          go_wp2_with (go_at_fn g; refine hcall.mono ?_; rintro e w' ⟨rfl, hc'⟩)
          go_roundw
          case rel => exact ⟨k + 1, by go_num, by omega, (fun j hj => by rcases Nat.lt_or_eq_of_le (Nat.le_of_lt_succ hj) with h | h; exact hall j h; subst h; exact HV.out), hc.trans hc'⟩
          case measure => simp [intOf]; omega
    · obtain rfl : k = n := by omega
      have hv := idxB_none hall
      go_wp2_with fail
      go_ret
      rw [hv]; exact ⟨rfl, hc⟩

theorem contOwner_any (g : Nat) (cap : Array Value) (eg : Enters Tryz.prog g) (p : Nat → Bool) (a : Option Addr) (n c : Nat) (xs : List Value) (w : World) (hx : Rd w (.slice a n c) 5 n xs) (hn : n ≤ 9223372036854775807)
    (hp : ∀ k, k < n → ∀ x0 x1 x2 x3 x4, xs[k * 5 + 0]? = some x0 → xs[k * 5 + 1]? = some x1 → xs[k * 5 + 2]? = some x2 → xs[k * 5 + 3]? = some x3 → xs[k * 5 + 4]? = some x4 → ∀ w', Chg No w w' → Gives g (#[.agg #[x0, x1, x2, x3, x4]] ++ cap) w' (.bool (p k))) :
    Gives 75 #[.slice a n c, .func (.func g) #[] cap] w (.bool (anyB p n)) := by
  have h0 := idxOwner_any g cap eg p a n c xs w hx hn hp
  have hr := idxB_ge (p := p) (n := n)
  unfold Gives at h0 ⊢
  clear hp hx
  generalize hi : idxB p n = r at h0 hr
  have HI := Go.Lib.hid hi; clear hi
  have HR := Go.Lib.hid hr; clear hr
  go_enter Tryz.func75, Tryz.ntmps75
  go_wp2_with (go_at_call 109; refine h0.mono ?_; rintro e w' ⟨rfl, hc'⟩)
  all_goals (go_ret; refine ⟨?_, hc'⟩; rw [show anyB p n = decide (0 ≤ r) from decide_eq_decide.2 HR.out.symm]; rfl)


theorem idxNode_any (g : Nat) (cap : Array Value) (eg : Enters Tryz.prog g) (p : Nat → Bool) (a : Option Addr) (n c : Nat) (xs : List Value) (w : World) (hx : Rd w (.slice a n c) 10 n xs) (hn : n ≤ 9223372036854775807)
    (hp : ∀ k, k < n → ∀ x0 x1 x2 x3 x4 x5 x6 x7 x8 x9, xs[k * 10 + 0]? = some x0 → xs[k * 10 + 1]? = some x1 → xs[k * 10 + 2]? = some x2 → xs[k * 10 + 3]? = some x3 → xs[k * 10 + 4]? = some x4 → xs[k * 10 + 5]? = some x5 → xs[k * 10 + 6]? = some x6 → xs[k * 10 + 7]? = some x7 → xs[k * 10 + 8]? = some x8 → xs[k * 10 + 9]? = some x9 → ∀ w', Chg No w w' → Gives g (#[.agg #[x0, x1, x2, x3, x4, x5, x6, x7, x8, x9]] ++ cap) w' (.bool (p k))) :
    Gives 106 #[.slice a n c, .func (.func g) #[] cap] w (.int .i64 (idxB p n)) := by
  unfold Gives
  go_enter Tryz.func106, Tryz.ntmps106
  go_wp2_with fail
  go_loopw [8] (fun i wr => IdxFRel w p n i wr) (fun i _ => n - (intOf i).toNat)
  case atStart => exact ⟨0, rfl, by omega, (fun j hj => by omega), Chg.refl _ _⟩
  case round =>
    obtain ⟨k, rfl, hk, hall, hc⟩ := hrel
    by_cases hlt : k < n
    · obtain ⟨a', c', he, hl, hcc, hnil, hcell⟩ := hx
      injection he with he1 _ he3
      subst he1; subst he3
      cases a with
      | none => have := hnil rfl; omega
      | some ad =>
        obtain ⟨x0, h0⟩ : ∃ x, xs[k * 10 + 0]? = some x := ⟨_, List.getElem?_eq_getElem (by omega)⟩
        obtain ⟨x1, h1⟩ : ∃ x, xs[k * 10 + 1]? = some x := ⟨_, List.getElem?_eq_getElem (by omega)⟩
        obtain ⟨x2, h2⟩ : ∃ x, xs[k * 10 + 2]? = some x := ⟨_, List.getElem?_eq_getElem (by omega)⟩
        obtain ⟨x3, h3⟩ : ∃ x, xs[k * 10 + 3]? = some x := ⟨_, List.getElem?_eq_getElem (by omega)⟩
        obtain ⟨x4, h4⟩ : ∃ x, xs[k * 10 + 4]? = some x := ⟨_, List.getElem?_eq_getElem (by omega)⟩
        obtain ⟨x5, h5⟩ : ∃ x, xs[k * 10 + 5]? = some x := ⟨_, List.getElem?_eq_getElem (by omega)⟩
        obtain ⟨x6, h6⟩ : ∃ x, xs[k * 10 + 6]? = some x := ⟨_, List.getElem?_eq_getElem (by omega)⟩
        obtain ⟨x7, h7⟩ : ∃ x, xs[k * 10 + 7]? = some x := ⟨_, List.getElem?_eq_getElem (by omega)⟩
        obtain ⟨x8, h8⟩ : ∃ x, xs[k * 10 + 8]? = some x := ⟨_, List.getElem?_eq_getElem (by omega)⟩
        obtain ⟨x9, h9⟩ : ∃ x, xs[k * 10 + 9]? = some x := ⟨_, List.getElem?_eq_getElem (by omega)⟩
        have q0 := hc.cell (hcell ad rfl (k * 10 + 0) x0 h0) id
        rw [Nat.add_zero] at q0
        have q1 := hc.cell (add_at ad (k * 10) 1 (by decide) ▸ hcell ad rfl (k * 10 + 1) x1 h1) id
        have q2 := hc.cell (add_at ad (k * 10) 2 (by decide) ▸ hcell ad rfl (k * 10 + 2) x2 h2) id
        have q3 := hc.cell (add_at ad (k * 10) 3 (by decide) ▸ hcell ad rfl (k * 10 + 3) x3 h3) id
        have q4 := hc.cell (add_at ad (k * 10) 4 (by decide) ▸ hcell ad rfl (k * 10 + 4) x4 h4) id
        have q5 := hc.cell (add_at ad (k * 10) 5 (by decide) ▸ hcell ad rfl (k * 10 + 5) x5 h5) id
        have q6 := hc.cell (add_at ad (k * 10) 6 (by decide) ▸ hcell ad rfl (k * 10 + 6) x6 h6) id
        have q7 := hc.cell (add_at ad (k * 10) 7 (by decide) ▸ hcell ad rfl (k * 10 + 7) x7 h7) id
        have q8 := hc.cell (add_at ad (k * 10) 8 (by decide) ▸ hcell ad rfl (k * 10 + 8) x8 h8) id
        have q9 := hc.cell (add_at ad (k * 10) 9 (by decide) ▸ hcell ad rfl (k * 10 + 9) x9 h9) id
        have hlt' : (k : Int) < (n : Int) := by omega
        have hcall := hp k hlt x0 x1 x2 x3 x4 x5 x6 x7 x8 x9 h0 h1 h2 h3 h4 h5 h6 h7 h8 h9 wr hc
        clear hp hcell h0 h1 h2 h3 h4 h5 h6 h7 h8 h9
        have heg : ∀ args w, (callFunc g args).run Tryz.prog w = .ok (.enter g args) w := eg
        cases hv : p k with
        | true =>
          rw [hv] at hcall
          have HV := Go.Lib.hid hv; clear hv
          go_wp2_with (go_at_fn g; refine hcall.mono ?_; rintro e w' ⟨rfl, hc'⟩)
          go_ret
          rw [idxB_hit hlt HV.out hall]
          exact ⟨rfl, hc.trans hc'⟩
        | false =>
          rw [hv] at hcall
          have HV := Go.Lib.hid hv; clear hv
          go_wp2_with (go_at_fn g; refine hcall.mono ?_; rintro e w' ⟨rfl, hc'⟩)
          go_roundw
          case rel => exact ⟨k + 1, by go_num, by omega, (fun j hj => by rcases Nat.lt_or_eq_of_le (Nat.le_of_lt_succ hj) with h | h; exact hall j h; subst h; exact HV.out), hc.trans hc'⟩
          case measure => simp [intOf]; omega
    · obtain rfl : k = n := by omega
      have hv := idxB_none hall
      go_wp2_with fail
      go_ret
      rw [hv]; exact ⟨rfl, hc⟩

theorem contNode_any (g : Nat) (cap : Array Value) (eg : Enters Tryz.prog g) (p : Nat → Bool) (a : Option Addr) (n c : Nat) (xs : List Value) (w : World) (hx : Rd w (.slice a n c) 10 n xs) (hn : n ≤ 9223372036854775807)
    (hp : ∀ k, k < n → ∀ x0 x1 x2 x3 x4 x5 x6 x7 x8 x9, xs[k * 10 + 0]? = some x0 → xs[k * 10 + 1]? = some x1 → xs[k * 10 + 2]? = some x2 → xs[k * 10 + 3]? = some x3 → xs[k * 10 + 4]? = some x4 → xs[k * 10 + 5]? = some x5 → xs[k * 10 + 6]? = some x6 → xs[k * 10 + 7]? = some x7 → xs[k * 10 + 8]? = some x8 → xs[k * 10 + 9]? = some x9 → ∀ w', Chg No w w' → Gives g (#[.agg #[x0, x1, x2, x3, x4, x5, x6, x7, x8, x9]] ++ cap) w' (.bool (p k))) :
    Gives 72 #[.slice a n c, .func (.func g) #[] cap] w (.bool (anyB p n)) := by
  have h0 := idxNode_any g cap eg p a n c xs w hx hn hp
  have hr := idxB_ge (p := p) (n := n)
  unfold Gives at h0 ⊢
  clear hp hx
  generalize hi : idxB p n = r at h0 hr
  have HI := Go.Lib.hid hi; clear hi
  have HR := Go.Lib.hid hr; clear hr
  go_enter Tryz.func72, Tryz.ntmps72
  go_wp2_with (go_at_call 106; refine h0.mono ?_; rintro e w' ⟨rfl, hc'⟩)
  all_goals (go_ret; refine ⟨?_, hc'⟩; rw [show anyB p n = decide (0 ≤ r) from decide_eq_decide.2 HR.out.symm]; rfl)


theorem idxPod_any (g : Nat) (cap : Array Value) (eg : Enters Tryz.prog g) (p : Nat → Bool) (a : Option Addr) (n c : Nat) (xs : List Value) (w : World) (hx : Rd w (.slice a n c) 15 n xs) (hn : n ≤ 9223372036854775807)
    (hp : ∀ k, k < n → ∀ x0 x1 x2 x3 x4 x5 x6 x7 x8 x9 x10 x11 x12 x13 x14, xs[k * 15 + 0]? = some x0 → xs[k * 15 + 1]? = some x1 → xs[k * 15 + 2]? = some x2 → xs[k * 15 + 3]? = some x3 → xs[k * 15 + 4]? = some x4 → xs[k * 15 + 5]? = some x5 → xs[k * 15 + 6]? = some x6 → xs[k * 15 + 7]? = some x7 → xs[k * 15 + 8]? = some x8 → xs[k * 15 + 9]? = some x9 → xs[k * 15 + 10]? = some x10 → xs[k * 15 + 11]? = some x11 → xs[k * 15 + 12]? = some x12 → xs[k * 15 + 13]? = some x13 → xs[k * 15 + 14]? = some x14 → ∀ w', Chg No w w' → Gives g (#[.agg #[x0, x1, x2, x3, x4, x5, x6, x7, x8, x9, x10, x11, x12, x13, x14]] ++ cap) w' (.bool (p k))) :
    Gives 110 #[.slice a n c, .func (.func g) #[] cap] w (.int .i64 (idxB p n)) := by
  unfold Gives
  go_enter Tryz.func110, Tryz.ntmps110
  go_wp2_with fail
  go_loopw [8] (fun i wr => IdxFRel w p n i wr) (fun i _ => n - (intOf i).toNat)
  case atStart => exact ⟨0, rfl, by omega, (fun j hj => by omega), Chg.refl _ _⟩
  case round =>
    obtain ⟨k, rfl, hk, hall, hc⟩ := hrel
    by_cases hlt : k < n
    · obtain ⟨a', c', he, hl, hcc, hnil, hcell⟩ := hx
      injection he with he1 _ he3
      subst he1; subst he3
      cases a with
      | none => have := hnil rfl; omega
      | some ad =>
        obtain ⟨x0, h0⟩ : ∃ x, xs[k * 15 + 0]? = some x := ⟨_, List.getElem?_eq_getElem (by omega)⟩
        obtain ⟨x1, h1⟩ : ∃ x, xs[k * 15 + 1]? = some x := ⟨_, List.getElem?_eq_getElem (by omega)⟩
        obtain ⟨x2, h2⟩ : ∃ x, xs[k * 15 + 2]? = some x := ⟨_, List.getElem?_eq_getElem (by omega)⟩
        obtain ⟨x3, h3⟩ : ∃ x, xs[k * 15 + 3]? = some x := ⟨_, List.getElem?_eq_getElem (by omega)⟩
        obtain ⟨x4, h4⟩ : ∃ x, xs[k * 15 + 4]? = some x := ⟨_, List.getElem?_eq_getElem (by omega)⟩
        obtain ⟨x5, h5⟩ : ∃ x, xs[k * 15 + 5]? = some x := ⟨_, List.getElem?_eq_getElem (by omega)⟩
        obtain ⟨x6, h6⟩ : ∃ x, xs[k * 15 + 6]? = some x := ⟨_, List.getElem?_eq_getElem (by omega)⟩
        obtain ⟨x7, h7⟩ : ∃ x, xs[k * 15 + 7]? = some x := ⟨_, List.getElem?_eq_getElem (by omega)⟩
        obtain ⟨x8, h8⟩ : ∃ x, xs[k * 15 + 8]? = some x := ⟨_, List.getElem?_eq_getElem (by omega)⟩
        obtain ⟨x9, h9⟩ : ∃ x, xs[k * 15 + 9]? = some x := ⟨_, List.getElem?_eq_getElem (by omega)⟩
        obtain ⟨x10, h10⟩ : ∃ x, xs[k * 15 + 10]? = some x := ⟨_, List.getElem?_eq_getElem (by omega)⟩
        obtain ⟨x11, h11⟩ : ∃ x, xs[k * 15 + 11]? = some x := ⟨_, List.getElem?_eq_getElem (by omega)⟩
        obtain ⟨x12, h12⟩ : ∃ x, xs[k * 15 + 12]? = some x := ⟨_, List.getElem?_eq_getElem (by omega)⟩
        obtain ⟨x13, h13⟩ : ∃ x, xs[k * 15 + 13]? = some x := ⟨_, List.getElem?_eq_getElem (by omega)⟩
        obtain ⟨x14, h14⟩ : ∃ x, xs[k * 15 + 14]? = some x := ⟨_, List.getElem?_eq_getElem (by omega)⟩
        have q0 := hc.cell (hcell ad rfl (k * 15 + 0) x0 h0) id
        rw [Nat.add_zero] at q0
        have q1 := hc.cell (add_at ad (k * 15) 1 (by decide) ▸ hcell ad rfl (k * 15 + 1) x1 h1) id
        have q2 := hc.cell (add_at ad (k * 15) 2 (by decide) ▸ hcell ad rfl (k * 15 + 2) x2 h2) id
        have q3 := hc.cell (add_at ad (k * 15) 3 (by decide) ▸ hcell ad rfl (k * 15 + 3) x3 h3) id
        have q4 := hc.cell (add_at ad (k * 15) 4 (by decide) ▸ hcell ad rfl (k * 15 + 4) x4 h4) id
        have q5 := hc.cell (add_at ad (k * 15) 5 (by decide) ▸ hcell ad rfl (k * 15 + 5) x5 h5) id
        have q6 := hc.cell (add_at ad (k * 15) 6 (by decide) ▸ hcell ad rfl (k * 15 + 6) x6 h6) id
        have q7 := hc.cell (add_at ad (k * 15) 7 (by decide) ▸ hcell ad rfl (k * 15 + 7) x7 h7) id
        have q8 := hc.cell (add_at ad (k * 15) 8 (by decide) ▸ hcell ad rfl (k * 15 + 8) x8 h8) id
        have q9 := hc.cell (add_at ad (k * 15) 9 (by decide) ▸ hcell ad rfl (k * 15 + 9) x9 h9) id
        have q10 := hc.cell (add_at ad (k * 15) 10 (by decide) ▸ hcell ad rfl (k * 15 + 10) x10 h10) id
        have q11 := hc.cell (add_at ad (k * 15) 11 (by decide) ▸ hcell ad rfl (k * 15 + 11) x11 h11) id
        have q12 := hc.cell (add_at ad (k * 15) 12 (by decide) ▸ hcell ad rfl (k * 15 + 12) x12 h12) id
        have q13 := hc.cell (add_at ad (k * 15) 13 (by decide) ▸ hcell ad rfl (k * 15 + 13) x13 h13) id
        have q14 := hc.cell (add_at ad (k * 15) 14 (by decide) ▸ hcell ad rfl (k * 15 + 14) x14 h14) id
        have hlt' : (k : Int) < (n : Int) := by omega
        have hcall := hp k hlt x0 x1 x2 x3 x4 x5 x6 x7 x8 x9 x10 x11 x12 x13 x14 h0 h1 h2 h3 h4 h5 h6 h7 h8 h9 h10 h11 h12 h13 h14 wr hc
        clear hp hcell h0 h1 h2 h3 h4 h5 h6 h7 h8 h9 h10 h11 h12 h13 h14
        have heg : ∀ args w, (callFunc g args).run Tryz.prog w = .ok (.enter g args) w := eg
        cases hv : p k with
        | true =>
          rw [hv] at hcall
          have HV := Go.Lib.hid hv; clear hv
          go_wp2_with (go_at_fn g; refine hcall.mono ?_; rintro e w' ⟨rfl, hc'⟩)
          go_ret
          rw [idxB_hit hlt HV.out hall]
          exact ⟨rfl, hc.trans hc'⟩
        | false =>
          rw [hv] at hcall
          have HV := Go.Lib.hid hv; clear hv
          go_wp2_with (go_at_fn g; refine hcall.mono ?_; rintro e w' ⟨rfl, hc'⟩)
          go_roundw
          case rel => exact ⟨k + 1, by go_num, by omega, (fun j hj => by rcases Nat.lt_or_eq_of_le (Nat.le_of_lt_succ hj) with h | h; exact hall j h; subst h; exact HV.out), hc.trans hc'⟩
          case measure => simp [intOf]; omega
    · obtain rfl : k = n := by omega
      have hv := idxB_none hall
      go_wp2_with fail
      go_ret
      rw [hv]; exact ⟨rfl, hc⟩

theorem contPod_any (g : Nat) (cap : Array Value) (eg : Enters Tryz.prog g) (p : Nat → Bool) (a : Option Addr) (n c : Nat) (xs : List Value) (w : World) (hx : Rd w (.slice a n c) 15 n xs) (hn : n ≤ 9223372036854775807)
    (hp : ∀ k, k < n → ∀ x0 x1 x2 x3 x4 x5 x6 x7 x8 x9 x10 x11 x12 x13 x14, xs[k * 15 + 0]? = some x0 → xs[k * 15 + 1]? = some x1 → xs[k * 15 + 2]? = some x2 → xs[k * 15 + 3]? = some x3 → xs[k * 15 + 4]? = some x4 → xs[k * 15 + 5]? = some x5 → xs[k * 15 + 6]? = some x6 → xs[k * 15 + 7]? = some x7 → xs[k * 15 + 8]? = some x8 → xs[k * 15 + 9]? = some x9 → xs[k * 15 + 10]? = some x10 → xs[k * 15 + 11]? = some x11 → xs[k * 15 + 12]? = some x12 → xs[k * 15 + 13]? = some x13 → xs[k * 15 + 14]? = some x14 → ∀ w', Chg No w w' → Gives g (#[.agg #[x0, x1, x2, x3, x4, x5, x6, x7, x8, x9, x10, x11, x12, x13, x14]] ++ cap) w' (.bool (p k))) :
    Gives 78 #[.slice a n c, .func (.func g) #[] cap] w (.bool (anyB p n)) := by
  have h0 := idxPod_any g cap eg p a n c xs w hx hn hp
  have hr := idxB_ge (p := p) (n := n)
  unfold Gives at h0 ⊢
  clear hp hx
  generalize hi : idxB p n = r at h0 hr
  have HI := Go.Lib.hid hi; clear hi
  have HR := Go.Lib.hid hr; clear hr
  go_enter Tryz.func78, Tryz.ntmps78
  go_wp2_with (go_at_call 110; refine h0.mono ?_; rintro e w' ⟨rfl, hc'⟩)
  all_goals (go_ret; refine ⟨?_, hc'⟩; rw [show anyB p n = decide (0 ≤ r) from decide_eq_decide.2 HR.out.symm]; rfl)

end Go.Proofs.YtipacbaapkdnaaaGreat
