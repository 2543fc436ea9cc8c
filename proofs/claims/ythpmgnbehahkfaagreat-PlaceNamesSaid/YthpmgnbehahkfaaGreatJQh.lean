/- Names and values: label, drayageref03. -/
/- slices.IndexFunc, ContainsFunc at elements of one cell. -/
/- slices.IndexFunc, ContainsFunc at structs (printed by genc.py). -/
/- Rows of quantities: slices.Max, Min; vec.Check, drayageref02.Check; fine. -/
/- fine; labels. -/
import Derived.Test.YthpmgnbehahkfaaGreatRows
import Derived.Test.YthpmgnbehahkfaaGreatJQa
import Derived.WalkKit
import Derived.BigQuiet
import Derived.Lib.Hide
import Derived.Deep.RegionHeld3
import Derived.Deep.QuietTactic
import Derived.Laws.CopyOwn
import Derived.WalkSpells
import Derived.Lib.AppendZerosOnto
import Derived.Laws.RangeAny
import Derived.Shelf.Abstract
import Derived.Lib.MinMax
set_option linter.unusedSimpArgs false
set_option linter.unusedVariables false
section
namespace Go.Proofs.YthpmgnbehahkfaaGreat
open Go.RowKit Go.Dk

def letterB (c : Int) : Bool := decide (97 ≤ c ∧ c ≤ 122)
def insideB (c : Int) : Bool := letterB c || decide (48 ≤ c ∧ c ≤ 57) || decide (c = 45)

theorem refLetter_any (c : Int) (w : World) : Calls Tryz.prog 174 #[.int .u8 c] w fun e w' => e = .returned (.bool (letterB c)) ∧ w = w' := by
  go_enter Tryz.func174, Tryz.ntmps174
  go_wp2
  all_goals (go_ret; simp [letterB]; try omega)

theorem small_any (c : Int) (w : World) : Calls Tryz.prog 217 #[.int .i32 c] w fun e w' => e = .returned (.bool (letterB c)) ∧ w = w' := by
  go_enter Tryz.func217, Tryz.ntmps217
  go_wp2
  all_goals (go_ret; simp [letterB]; try omega)

theorem refInside_any (c : Int) (w : World) : Calls Tryz.prog 218 #[.int .u8 c] w fun e w' => e = .returned (.bool (insideB c)) ∧ w = w' := by
  have h0 := refLetter_any c w
  cases hl : letterB c <;> rw [hl] at h0
  all_goals
    go_enter Tryz.func218, Tryz.ntmps218
    go_wp2_with (go_at_call 174; refine h0.mono ?_; rintro e w' ⟨rfl, rfl⟩)
    all_goals (go_ret; simp [insideB, hl] <;> first | omega | (rw [Bool.eq_iff_iff]; simp; omega))

theorem inside_any (c : Int) (w : World) : Calls Tryz.prog 249 #[.int .i32 c] w fun e w' => e = .returned (.bool (insideB c)) ∧ w = w' := by
  have h0 := small_any c w
  cases hl : letterB c <;> rw [hl] at h0
  all_goals
    go_enter Tryz.func249, Tryz.ntmps249
    go_wp2_with (go_at_call 217; refine h0.mono ?_; rintro e w' ⟨rfl, rfl⟩)
    all_goals (go_ret; simp [insideB, hl] <;> first | omega | (rw [Bool.eq_iff_iff]; simp; omega))

/-- may a text be a value -/
def valueB (s : ByteArray) : Bool := decide (1 ≤ s.size ∧ s.size ≤ 15 ∧ ∀ i, i < s.size → insideB ((s.get! i).toNat : Int) = true)
def nameB (s : ByteArray) : Bool := valueB s && letterB ((s.get! 0).toNat : Int)

theorem byteAt (s : ByteArray) (k : Nat) (h : k < s.size) : s.get! k = s[k]'h := by
  cases s with
  | mk d => exact getElem!_pos d k h

def RefValRel (w : World) (s : ByteArray) (i : Value) (wr : World) : Prop :=
  ∃ k : Nat, i = .int .i64 k ∧ k ≤ s.size ∧ (∀ j, j < k → insideB ((s.get! j).toNat : Int) = true) ∧ w = wr

theorem refValue_any (s : ByteArray) (w : World) (hs : s.size ≤ 9223372036854775807) : Calls Tryz.prog 173 #[.string s] w fun e w' => e = .returned (.bool (valueB s)) ∧ w = w' := by
  go_enter Tryz.func173, Tryz.ntmps173
  go_wp2_with fail
  go_loopw [3] (fun i wr => RefValRel w s i wr) (fun i _ => s.size - (intOf i).toNat)
  case atStart => exact ⟨0, rfl, by omega, (fun j hj => by omega), rfl⟩
  case round =>
    obtain ⟨k, rfl, hk, hall, rfl⟩ := hrel
    by_cases hlt : k < s.size
    · have hgk : s[k] = s.get! k := (byteAt s k hlt).symm
      have h0 := refInside_any ((s.get! k).toNat : Int) w
      cases hv : insideB ((s.get! k).toNat : Int) with
      | true =>
        rw [hv] at h0
        have HV := Go.Lib.hid hv; clear hv
        go_wp2_with (go_at_call 218; (try rw [hgk]); refine h0.mono ?_; rintro e w' ⟨rfl, rfl⟩)
        go_roundw
        case rel => exact ⟨k + 1, by go_num, by omega, (fun j hj => by rcases Nat.lt_or_eq_of_le (Nat.le_of_lt_succ hj) with h | h; exact hall j h; subst h; exact HV.out), rfl⟩
        case measure => simp [intOf]; omega
      | false =>
        rw [hv] at h0
        have hn : valueB s = false := by
          unfold valueB; rw [decide_eq_false_iff_not]; rintro ⟨_, _, h⟩; rw [h k hlt] at hv; cases hv
        have HN := Go.Lib.hid hn; clear hn hv
        go_wp2_with (go_at_call 218; (try rw [hgk]); refine h0.mono ?_; rintro e w' ⟨rfl, rfl⟩)
        go_ret
        rw [HN.out]
        exact ⟨rfl, rfl⟩
    · obtain rfl : k = s.size := by omega
      have hv : valueB s = decide (1 ≤ s.size ∧ s.size ≤ 15) := by unfold valueB; rw [Bool.eq_iff_iff]; simp; intro _ _; exact hall
      have HV := Go.Lib.hid hv; clear hv
      go_wp2_with fail
      all_goals (go_ret; rw [HV.out]; simp <;> first | omega | (rw [Bool.eq_iff_iff]; simp; omega))

theorem refName_any (s : ByteArray) (w : World) (hs : s.size ≤ 9223372036854775807) : Calls Tryz.prog 117 #[.string s] w fun e w' => e = .returned (.bool (nameB s)) ∧ w = w' := by
  have h0 := refValue_any s w hs
  cases hv : valueB s with
  | false =>
    rw [hv] at h0
    have HV := Go.Lib.hid hv; clear hv
    go_enter Tryz.func117, Tryz.ntmps117
    go_wp2_with (go_at_call 173; refine h0.mono ?_; rintro e w' ⟨rfl, rfl⟩)
    go_ret
    simp [nameB, HV.out]
  | true =>
    rw [hv] at h0
    have HV := Go.Lib.hid hv
    have hz : 0 < s.size := by unfold valueB at hv; simp at hv; omega
    have hgk : s[0] = s.get! 0 := (byteAt s 0 hz).symm
    clear hv
    go_enter Tryz.func117, Tryz.ntmps117
    go_wp2_with (go_at_call 173; refine h0.mono ?_; rintro e w' ⟨rfl, rfl⟩)
    try rw [hgk]
    refine (refLetter_any _ _).mono ?_
    rintro e w' ⟨rfl, rfl⟩
    go_wp2
    go_ret
    simp [nameB, HV.out]

/-- the closure of label.Value -/
theorem other_any (c : Int) (w : World) : Calls Tryz.prog 248 #[.int .i32 c] w fun e w' => e = .returned (.bool (!insideB c)) ∧ w = w' := by
  go_enter Tryz.func248, Tryz.ntmps248
  go_wp2_with (go_at_call 249; refine (inside_any c _).mono ?_; rintro e w' ⟨rfl, rfl⟩)
  go_ret
  exact ⟨rfl, rfl⟩

theorem inside_high (n : Int) (h : 128 ≤ n) : insideB n = false := by
  simp [insideB, letterB]; omega
theorem inside_decode (s : ByteArray) (pos : Nat) (h : pos < s.size) : insideB ((Utf8.decode s pos).1 : Int) = insideB ((s.get! pos).toNat : Int) ∧ (insideB ((Utf8.decode s pos).1 : Int) = true → (Utf8.decode s pos).2 = 1) := by
  rw [byteAt s pos h]
  by_cases ha : (s[pos]'h).toNat < 128
  · rw [decode_ascii s pos h ha]; exact ⟨rfl, fun _ => rfl⟩
  · have h1 := decode_high s pos h (by omega)
    rw [inside_high _ (by omega), inside_high _ (by omega)]
    exact ⟨rfl, fun h => by cases h⟩

def IdxRel (w : World) (s : ByteArray) (wr : World) : Prop :=
  ∃ pos : Nat, wr = w.iter s pos ∧ pos ≤ s.size ∧ ∀ j, j < pos → insideB ((s.get! j).toNat : Int) = true

theorem indexFunc_any (s : ByteArray) (w : World) (hs : s.size ≤ 9223372036854775807) :
    Calls Tryz.prog 261 #[.string s, .func (.func 248) #[] #[], .bool true] w fun e w' =>
      (∃ r : Int, e = .returned (.int .i64 r) ∧ (r < 0 ↔ ∀ j, j < s.size → insideB ((s.get! j).toNat : Int) = true)) ∧ Chg No w w' := by
  go_enter Tryz.func261, Tryz.ntmps261
  go_wp2_with fail
  go_loopw [6] (fun _ wr => IdxRel w s wr) (fun _ wr => s.size - wr.iterPos w.heap.size)
  case atStart => exact ⟨0, rfl, by omega, fun j hj => by omega⟩
  case round =>
    obtain ⟨pos, rfl, hk, hall⟩ := hrel
    by_cases hlt : pos < s.size
    · have hnx := fun ty => run_next_any (P := Tryz.prog) w s pos ty hlt
      obtain ⟨c, hc⟩ : ∃ c, c = (Utf8.decode s pos).1 := ⟨_, rfl⟩
      obtain ⟨d, hd⟩ : ∃ d, d = (Utf8.decode s pos).2 := ⟨_, rfl⟩
      rw [← hc, ← hd] at hnx
      have hcl := decode_le s pos
      rw [← hc] at hcl
      have HC := Go.Lib.hid hc; clear hc
      have HD := Go.Lib.hid hd; clear hd
      have h0 := other_any (c : Int) (w.iter s (pos + d))
      cases hv : insideB (c : Int) with
      | true =>
        rw [hv] at h0
        have HV := Go.Lib.hid hv; clear hv
        go_wp2_with (go_at_call 248; refine h0.mono ?_; rintro e w' ⟨rfl, rfl⟩)
        have hid := inside_decode s pos hlt
        rw [← HC.out, ← HD.out, HV.out] at hid
        obtain ⟨hi1, hi2⟩ := hid
        have hd1 := hi2 rfl
        go_roundw
        case rel => exact ⟨pos + d, rfl, by omega, fun j hj => by rcases Nat.lt_or_eq_of_le (show j ≤ pos by omega) with h | h; exact hall j h; subst h; exact hi1.symm⟩
        case measure => simp; omega
      | false =>
        rw [hv] at h0
        have HV := Go.Lib.hid hv; clear hv
        go_wp2_with (go_at_call 248; refine h0.mono ?_; rintro e w' ⟨rfl, rfl⟩)
        go_ret
        have hid := (inside_decode s pos hlt).1
        rw [← HC.out, HV.out] at hid
        refine ⟨⟨pos, rfl, ?_⟩, (Chg.refl No w).alloc _⟩
        constructor
        · intro h; omega
        · intro h; rw [h pos hlt] at hid; cases hid
    · have hnx := fun ty => run_next_end (P := Tryz.prog) w s pos ty hlt
      go_wp2
      go_ret
      refine ⟨⟨-1, rfl, ?_⟩, (Chg.refl No w).alloc _⟩
      constructor
      · intro _ j hj; exact hall j (by omega)
      · intro _; omega

theorem IndexFunc_any (s : ByteArray) (w : World) (hs : s.size ≤ 9223372036854775807) :
    Calls Tryz.prog 250 #[.string s, .func (.func 248) #[] #[]] w fun e w' =>
      (∃ r : Int, e = .returned (.int .i64 r) ∧ (r < 0 ↔ ∀ j, j < s.size → insideB ((s.get! j).toNat : Int) = true)) ∧ Chg No w w' := by
  go_enter Tryz.func250, Tryz.ntmps250
  go_wp2_with fail
  refine (indexFunc_any s w hs).mono ?_
  rintro e w' ⟨⟨r, rfl, hr⟩, hc⟩
  have HR := Go.Lib.hid hr; clear hr
  go_wp2
  go_ret
  exact ⟨⟨r, rfl, HR.out⟩, hc⟩

theorem isEmpty_eq (s : ByteArray) : s.toList.isEmpty = decide (s.size = 0) := by
  have h : s.data.toList.length = s.size := by rw [Array.length_toList]; rfl
  rw [ByteArray.toList_eq]
  cases hl : s.data.toList with
  | nil => rw [hl] at h; simp at h; simp [← h]
  | cons a t => rw [hl] at h; simp only [List.length_cons] at h; simp only [List.isEmpty_cons]; symm; rw [decide_eq_false_iff_not]; omega
theorem toList_nil_iff (s : ByteArray) : s.toList = [] ↔ s.size = 0 := by
  rw [← List.isEmpty_iff, isEmpty_eq]; simp

theorem value_any (s : ByteArray) (w : World) (hs : s.size ≤ 9223372036854775807) :
    Calls Tryz.prog 216 #[.string s] w fun e w' => e = .returned (.bool (valueB s)) ∧ Chg No w w' := by
  by_cases h1 : 1 ≤ s.size
  · have he : s.toList.isEmpty = false := by rw [isEmpty_eq, decide_eq_false_iff_not]; omega
    have he' : (s.toList = []) ↔ False := by rw [toList_nil_iff, iff_false]; omega
    by_cases h2 : s.size ≤ 15
    · have hv : valueB s = decide (∀ i, i < s.size → insideB ((s.get! i).toNat : Int) = true) := by unfold valueB; rw [Bool.eq_iff_iff, decide_eq_true_iff, decide_eq_true_iff]; exact ⟨fun h => h.2.2, fun h => ⟨h1, h2, h⟩⟩
      have HV := Go.Lib.hid hv; clear hv
      go_enter Tryz.func216, Tryz.ntmps216
      go_wp2_with fail
      refine (IndexFunc_any s w hs).mono ?_
      rintro e w' ⟨⟨r, rfl, hr⟩, hc⟩
      have HR := Go.Lib.hid hr; clear hr
      go_wp2
      all_goals (go_ret; rw [HV.out]; refine ⟨?_, hc⟩; rw [← decide_eq_decide.2 HR.out]; rfl)
    · have hv : valueB s = false := by unfold valueB; rw [decide_eq_false_iff_not]; omega
      have HV := Go.Lib.hid hv; clear hv
      go_enter Tryz.func216, Tryz.ntmps216
      go_wp2_with fail
      all_goals (go_ret; rw [HV.out]; exact ⟨rfl, Chg.refl _ _⟩)
  · have he : s.toList.isEmpty = true := by rw [isEmpty_eq, decide_eq_true_iff]; omega
    have he' : s.toList = [] := by rw [toList_nil_iff]; omega
    have hv : valueB s = false := by unfold valueB; rw [decide_eq_false_iff_not]; omega
    have HV := Go.Lib.hid hv; clear hv
    go_enter Tryz.func216, Tryz.ntmps216
    go_wp2_with fail
    all_goals (go_ret; rw [HV.out]; exact ⟨rfl, Chg.refl _ _⟩)

theorem name_any (s : ByteArray) (w : World) (hs : s.size ≤ 9223372036854775807) : Calls Tryz.prog 172 #[.string s] w fun e w' => e = .returned (.bool (nameB s)) ∧ Chg No w w' := by
  have h0 := value_any s w hs
  cases hv : valueB s with
  | false =>
    rw [hv] at h0
    have HV := Go.Lib.hid hv; clear hv
    go_enter Tryz.func172, Tryz.ntmps172
    go_wp2_with (go_at_call 216; refine h0.mono ?_; rintro e w' ⟨rfl, hc⟩)
    go_ret
    exact ⟨by simp [nameB, HV.out], hc⟩
  | true =>
    rw [hv] at h0
    have HV := Go.Lib.hid hv
    have hz : 0 < s.size := by unfold valueB at hv; simp at hv; omega
    have hgk : s[0] = s.get! 0 := (byteAt s 0 hz).symm
    clear hv
    have hb := (s.get! 0).toNat_lt
    have hw : IntKind.i32.wrap ((s.get! 0).toNat : Int) = ((s.get! 0).toNat : Int) := by rw [IntKind.wrap_i32]; omega
    go_enter Tryz.func172, Tryz.ntmps172
    go_wp2_with (go_at_call 216; refine h0.mono ?_; rintro e w' ⟨rfl, hc⟩)
    try rw [hgk]
    try rw [hw]
    refine (small_any _ _).mono ?_
    rintro e w'' ⟨rfl, rfl⟩
    go_wp2
    go_ret
    exact ⟨by simp [nameB, HV.out], hc⟩
end Go.Proofs.YthpmgnbehahkfaaGreat
end
section
namespace Go.Proofs.YthpmgnbehahkfaaGreat
open Go.RowKit Go.Dk

/-- a call that turns nothing -/
def Gives (f : Nat) (args : Array Value) (w : World) (v : Value) : Prop := Calls Tryz.prog f args w fun e w' => e = .returned v ∧ Chg No w w'

/-- the first place below n where p holds -/
def idxB (p : Nat → Bool) (n : Nat) : Int := match (List.range n).find? p with | some k => k | none => -1
theorem idxB_hit {p : Nat → Bool} {n k : Nat} (h : k < n) (hp : p k = true) (hb : ∀ j, j < k → p j = false) : idxB p n = (k : Int) := by
  unfold idxB
  have : (List.range n).find? p = some k := by
    rw [List.find?_range_eq_some]; exact ⟨hp, by simpa using h, fun j hj => by simp [hb j hj]⟩
  rw [this]
theorem idxB_none {p : Nat → Bool} {n : Nat} (hb : ∀ j, j < n → p j = false) : idxB p n = -1 := by
  unfold idxB
  have : (List.range n).find? p = none := by
    rw [List.find?_range_eq_none]; intro i hi; simp [hb i hi]
  rw [this]
theorem idxB_range (p : Nat → Bool) (n : Nat) : -1 ≤ idxB p n ∧ idxB p n < n ∨ idxB p n = -1 := by
  unfold idxB
  split
  · rename_i k hk
    have := List.mem_of_find?_eq_some hk
    simp at this
    left; omega
  · right; rfl
theorem idxB_ge {p : Nat → Bool} {n : Nat} : (0 ≤ idxB p n) ↔ ∃ k, k < n ∧ p k = true := by
  unfold idxB
  split
  · rename_i k hk
    have h1 := List.mem_of_find?_eq_some hk
    have h2 := List.find?_some hk
    simp at h1
    exact ⟨fun _ => ⟨k, h1, h2⟩, fun _ => by omega⟩
  · rename_i hk
    simp at hk
    constructor
    · intro h; omega
    · rintro ⟨k, hk1, hk2⟩
      rw [hk k hk1] at hk2; cases hk2

def IdxFRel (w : World) (p : Nat → Bool) (n : Nat) (i : Value) (wr : World) : Prop :=
  ∃ k : Nat, i = .int .i64 k ∧ k ≤ n ∧ (∀ j, j < k → p j = false) ∧ Chg No w wr

/-- is there a place below n where p holds -/
def anyB (p : Nat → Bool) (n : Nat) : Bool := decide (∃ k, k < n ∧ p k = true)

theorem idxStr_any (g : Nat) (cap : Array Value) (eg : Enters Tryz.prog g) (p : Nat → Bool) (a : Option Addr) (n c : Nat) (xs : List Value) (w : World) (hx : Rd w (.slice a n c) 1 n xs) (hn : n ≤ 9223372036854775807)
    (hp : ∀ k x, xs[k]? = some x → ∀ w', Chg No w w' → Gives g (#[x] ++ cap) w' (.bool (p k))) :
    Gives 219 #[.slice a n c, .func (.func g) #[] cap] w (.int .i64 (idxB p n)) := by
  unfold Gives
  go_enter Tryz.func219, Tryz.ntmps219
  go_wp2_with fail
  go_loopw [8] (fun i wr => IdxFRel w p n i wr) (fun i _ => n - (intOf i).toNat)
  case atStart => exact ⟨0, rfl, by omega, (fun j hj => by omega), Chg.refl _ _⟩
  case round =>
    obtain ⟨k, rfl, hk, hall, hc⟩ := hrel
    by_cases hlt : k < n
    · obtain ⟨a', c', he, hl, hcc, hnil, hcell⟩ := hx
      injection he with he1 _ he3
      subst he1; subst he3
      cases a with
      | none => have := hnil rfl; omega
      | some ad =>
        obtain ⟨x, hxk⟩ : ∃ x, xs[k]? = some x := ⟨_, List.getElem?_eq_getElem (by omega)⟩
        have hq := hc.cell (hcell ad rfl k x hxk) id
        have hlt' : (k : Int) < (n : Int) := by omega
        have hcall := hp k x hxk wr hc
        clear hp hcell
        have heg : ∀ args w, (callFunc g args).run Tryz.prog w = .ok (.enter g args) w := eg
        cases hv : p k with
        | true =>
          rw [hv] at hcall
          have HV := Go.Lib.hid hv; clear hv
          go_wp2_with (go_at_fn g; refine hcall.mono ?_; rintro e w' ⟨rfl, hc'⟩)
          go_ret
          rw [idxB_hit hlt HV.out hall]
          exact ⟨rfl, hc.trans hc'⟩
        | false =>
          rw [hv] at hcall
          have HV := Go.Lib.hid hv; clear hv
          go_wp2_with (go_at_fn g; refine hcall.mono ?_; rintro e w' ⟨rfl, hc'⟩)
          go_roundw
          case rel => exact ⟨k + 1, by go_num, by omega, (fun j hj => by rcases Nat.lt_or_eq_of_le (Nat.le_of_lt_succ hj) with h | h; exact hall j h; subst h; exact HV.out), hc.trans hc'⟩
          case measure => simp [intOf]; omega
    · obtain rfl : k = n := by omega
      have hv := idxB_none hall
      go_wp2_with fail
      go_ret
      rw [hv]; exact ⟨rfl, hc⟩

theorem contStr_any (g : Nat) (cap : Array Value) (eg : Enters Tryz.prog g) (p : Nat → Bool) (a : Option Addr) (n c : Nat) (xs : List Value) (w : World) (hx : Rd w (.slice a n c) 1 n xs) (hn : n ≤ 9223372036854775807)
    (hp : ∀ k x, xs[k]? = some x → ∀ w', Chg No w w' → Gives g (#[x] ++ cap) w' (.bool (p k))) :
    Gives 180 #[.slice a n c, .func (.func g) #[] cap] w (.bool (anyB p n)) := by
  have h0 := idxStr_any g cap eg p a n c xs w hx hn hp
  have hr := idxB_ge (p := p) (n := n)
  unfold Gives at h0 ⊢
  clear hp hx
  generalize hi : idxB p n = r at h0 hr
  have HI := Go.Lib.hid hi; clear hi
  have HR := Go.Lib.hid hr; clear hr
  go_enter Tryz.func180, Tryz.ntmps180
  go_wp2_with (go_at_call 219; refine h0.mono ?_; rintro e w' ⟨rfl, hc'⟩)
  all_goals (go_ret; refine ⟨?_, hc'⟩; rw [show anyB p n = decide (0 ≤ r) from decide_eq_decide.2 HR.out.symm]; rfl)


theorem idxErr_any (g : Nat) (cap : Array Value) (eg : Enters Tryz.prog g) (p : Nat → Bool) (a : Option Addr) (n c : Nat) (xs : List Value) (w : World) (hx : Rd w (.slice a n c) 1 n xs) (hn : n ≤ 9223372036854775807)
    (hp : ∀ k x, xs[k]? = some x → ∀ w', Chg No w w' → Gives g (#[x] ++ cap) w' (.bool (p k))) :
    Gives 229 #[.slice a n c, .func (.func g) #[] cap] w (.int .i64 (idxB p n)) := by
  unfold Gives
  go_enter Tryz.func229, Tryz.ntmps229
  go_wp2_with fail
  go_loopw [8] (fun i wr => IdxFRel w p n i wr) (fun i _ => n - (intOf i).toNat)
  case atStart => exact ⟨0, rfl, by omega, (fun j hj => by omega), Chg.refl _ _⟩
  case round =>
    obtain ⟨k, rfl, hk, hall, hc⟩ := hrel
    by_cases hlt : k < n
    · obtain ⟨a', c', he, hl, hcc, hnil, hcell⟩ := hx
      injection he with he1 _ he3
      subst he1; subst he3
      cases a with
      | none => have := hnil rfl; omega
      | some ad =>
        obtain ⟨x, hxk⟩ : ∃ x, xs[k]? = some x := ⟨_, List.getElem?_eq_getElem (by omega)⟩
        have hq := hc.cell (hcell ad rfl k x hxk) id
        have hlt' : (k : Int) < (n : Int) := by omega
        have hcall := hp k x hxk wr hc
        clear hp hcell
        have heg : ∀ args w, (callFunc g args).run Tryz.prog w = .ok (.enter g args) w := eg
        cases hv : p k with
        | true =>
          rw [hv] at hcall
          have HV := Go.Lib.hid hv; clear hv
          go_wp2_with (go_at_fn g; refine hcall.mono ?_; rintro e w' ⟨rfl, hc'⟩)
          go_ret
          rw [idxB_hit hlt HV.out hall]
          exact ⟨rfl, hc.trans hc'⟩
        | false =>
          rw [hv] at hcall
          have HV := Go.Lib.hid hv; clear hv
          go_wp2_with (go_at_fn g; refine hcall.mono ?_; rintro e w' ⟨rfl, hc'⟩)
          go_roundw
          case rel => exact ⟨k + 1, by go_num, by omega, (fun j hj => by rcases Nat.lt_or_eq_of_le (Nat.le_of_lt_succ hj) with h | h; exact hall j h; subst h; exact HV.out), hc.trans hc'⟩
          case measure => simp [intOf]; omega
    · obtain rfl : k = n := by omega
      have hv := idxB_none hall
      go_wp2_with fail
      go_ret
      rw [hv]; exact ⟨rfl, hc⟩

theorem contErr_any (g : Nat) (cap : Array Value) (eg : Enters Tryz.prog g) (p : Nat → Bool) (a : Option Addr) (n c : Nat) (xs : List Value) (w : World) (hx : Rd w (.slice a n c) 1 n xs) (hn : n ≤ 9223372036854775807)
    (hp : ∀ k x, xs[k]? = some x → ∀ w', Chg No w w' → Gives g (#[x] ++ cap) w' (.bool (p k))) :
    Gives 199 #[.slice a n c, .func (.func g) #[] cap] w (.bool (anyB p n)) := by
  have h0 := idxErr_any g cap eg p a n c xs w hx hn hp
  have hr := idxB_ge (p := p) (n := n)
  unfold Gives at h0 ⊢
  clear hp hx
  generalize hi : idxB p n = r at h0 hr
  have HI := Go.Lib.hid hi; clear hi
  have HR := Go.Lib.hid hr; clear hr
  go_enter Tryz.func199, Tryz.ntmps199
  go_wp2_with (go_at_call 229; refine h0.mono ?_; rintro e w' ⟨rfl, hc'⟩)
  all_goals (go_ret; refine ⟨?_, hc'⟩; rw [show anyB p n = decide (0 ≤ r) from decide_eq_decide.2 HR.out.symm]; rfl)


theorem idxInt_any (g : Nat) (cap : Array Value) (eg : Enters Tryz.prog g) (p : Nat → Bool) (a : Option Addr) (n c : Nat) (xs : List Value) (w : World) (hx : Rd w (.slice a n c) 1 n xs) (hn : n ≤ 9223372036854775807)
    (hp : ∀ k x, xs[k]? = some x → ∀ w', Chg No w w' → Gives g (#[x] ++ cap) w' (.bool (p k))) :
    Gives 167 #[.slice a n c, .func (.func g) #[] cap] w (.int .i64 (idxB p n)) := by
  unfold Gives
  go_enter Tryz.func167, Tryz.ntmps167
  go_wp2_with fail
  go_loopw [8] (fun i wr => IdxFRel w p n i wr) (fun i _ => n - (intOf i).toNat)
  case atStart => exact ⟨0, rfl, by omega, (fun j hj => by omega), Chg.refl _ _⟩
  case round =>
    obtain ⟨k, rfl, hk, hall, hc⟩ := hrel
    by_cases hlt : k < n
    · obtain ⟨a', c', he, hl, hcc, hnil, hcell⟩ := hx
      injection he with he1 _ he3
      subst he1; subst he3
      cases a with
      | none => have := hnil rfl; omega
      | some ad =>
        obtain ⟨x, hxk⟩ : ∃ x, xs[k]? = some x := ⟨_, List.getElem?_eq_getElem (by omega)⟩
        have hq := hc.cell (hcell ad rfl k x hxk) id
        have hlt' : (k : Int) < (n : Int) := by omega
        have hcall := hp k x hxk wr hc
        clear hp hcell
        have heg : ∀ args w, (callFunc g args).run Tryz.prog w = .ok (.enter g args) w := eg
        cases hv : p k with
        | true =>
          rw [hv] at hcall
          have HV := Go.Lib.hid hv; clear hv
          go_wp2_with (go_at_fn g; refine hcall.mono ?_; rintro e w' ⟨rfl, hc'⟩)
          go_ret
          rw [idxB_hit hlt HV.out hall]
          exact ⟨rfl, hc.trans hc'⟩
        | false =>
          rw [hv] at hcall
          have HV := Go.Lib.hid hv; clear hv
          go_wp2_with (go_at_fn g; refine hcall.mono ?_; rintro e w' ⟨rfl, hc'⟩)
          go_roundw
          case rel => exact ⟨k + 1, by go_num, by omega, (fun j hj => by rcases Nat.lt_or_eq_of_le (Nat.le_of_lt_succ hj) with h | h; exact hall j h; subst h; exact HV.out), hc.trans hc'⟩
          case measure => simp [intOf]; omega
    · obtain rfl : k = n := by omega
      have hv := idxB_none hall
      go_wp2_with fail
      go_ret
      rw [hv]; exact ⟨rfl, hc⟩

theorem contInt_any (g : Nat) (cap : Array Value) (eg : Enters Tryz.prog g) (p : Nat → Bool) (a : Option Addr) (n c : Nat) (xs : List Value) (w : World) (hx : Rd w (.slice a n c) 1 n xs) (hn : n ≤ 9223372036854775807)
    (hp : ∀ k x, xs[k]? = some x → ∀ w', Chg No w w' → Gives g (#[x] ++ cap) w' (.bool (p k))) :
    Gives 107 #[.slice a n c, .func (.func g) #[] cap] w (.bool (anyB p n)) := by
  have h0 := idxInt_any g cap eg p a n c xs w hx hn hp
  have hr := idxB_ge (p := p) (n := n)
  unfold Gives at h0 ⊢
  clear hp hx
  generalize hi : idxB p n = r at h0 hr
  have HI := Go.Lib.hid hi; clear hi
  have HR := Go.Lib.hid hr; clear hr
  go_enter Tryz.func107, Tryz.ntmps107
  go_wp2_with (go_at_call 167; refine h0.mono ?_; rintro e w' ⟨rfl, hc'⟩)
  all_goals (go_ret; refine ⟨?_, hc'⟩; rw [show anyB p n = decide (0 ≤ r) from decide_eq_decide.2 HR.out.symm]; rfl)

end Go.Proofs.YthpmgnbehahkfaaGreat
end
section
namespace Go.Proofs.YthpmgnbehahkfaaGreat
open Go.RowKit Go.Dk

theorem add_at (a : Addr) (m j : Nat) (hj : 0 < j) : a.add (m + j) = (⟨(a.add m).block, (a.add m).off + j, none⟩ : Addr) := by
  unfold Addr.add
  repeat' split
  all_goals simp_all
  all_goals omega


theorem idxOwner_any (g : Nat) (cap : Array Value) (eg : Enters Tryz.prog g) (p : Nat → Bool) (a : Option Addr) (n c : Nat) (xs : List Value) (w : World) (hx : Rd w (.slice a n c) 5 n xs) (hn : n ≤ 9223372036854775807)
    (hp : ∀ k, k < n → ∀ x0 x1 x2 x3 x4, xs[k * 5 + 0]? = some x0 → xs[k * 5 + 1]? = some x1 → xs[k * 5 + 2]? = some x2 → xs[k * 5 + 3]? = some x3 → xs[k * 5 + 4]? = some x4 → ∀ w', Chg No w w' → Gives g (#[.agg #[x0, x1, x2, x3, x4]] ++ cap) w' (.bool (p k))) :
    Gives 194 #[.slice a n c, .func (.func g) #[] cap] w (.int .i64 (idxB p n)) := by
  unfold Gives
  go_enter Tryz.func194, Tryz.ntmps194
  go_wp2_with fail
  go_loopw [8] (fun i wr => IdxFRel w p n i wr) (fun i _ => n - (intOf i).toNat)
  case atStart => exact ⟨0, rfl, by omega, (fun j hj => by omega), Chg.refl _ _⟩
  case round =>
    obtain ⟨k, rfl, hk, hall, hc⟩ := hrel
    by_cases hlt : k < n
    · obtain ⟨a', c', he, hl, hcc, hnil, hcell⟩ := hx
      injection he with he1 _ he3
      subst he1; subst he3
      cases a with
      | none => have := hnil rfl; omega
      | some ad =>
        obtain ⟨x0, h0⟩ : ∃ x, xs[k * 5 + 0]? = some x := ⟨_, List.getElem?_eq_getElem (by omega)⟩
        obtain ⟨x1, h1⟩ : ∃ x, xs[k * 5 + 1]? = some x := ⟨_, List.getElem?_eq_getElem (by omega)⟩
        obtain ⟨x2, h2⟩ : ∃ x, xs[k * 5 + 2]? = some x := ⟨_, List.getElem?_eq_getElem (by omega)⟩
        obtain ⟨x3, h3⟩ : ∃ x, xs[k * 5 + 3]? = some x := ⟨_, List.getElem?_eq_getElem (by omega)⟩
        obtain ⟨x4, h4⟩ : ∃ x, xs[k * 5 + 4]? = some x := ⟨_, List.getElem?_eq_getElem (by omega)⟩
        have q0 := hc.cell (hcell ad rfl (k * 5 + 0) x0 h0) id
        rw [Nat.add_zero] at q0
        have q1 := hc.cell (add_at ad (k * 5) 1 (by decide) ▸ hcell ad rfl (k * 5 + 1) x1 h1) id
        have q2 := hc.cell (add_at ad (k * 5) 2 (by decide) ▸ hcell ad rfl (k * 5 + 2) x2 h2) id
        have q3 := hc.cell (add_at ad (k * 5) 3 (by decide) ▸ hcell ad rfl (k * 5 + 3) x3 h3) id
        have q4 := hc.cell (add_at ad (k * 5) 4 (by decide) ▸ hcell ad rfl (k * 5 + 4) x4 h4) id
        have hlt' : (k : Int) < (n : Int) := by omega
        have hcall := hp k hlt x0 x1 x2 x3 x4 h0 h1 h2 h3 h4 wr hc
        clear hp hcell h0 h1 h2 h3 h4
        have heg : ∀ args w, (callFunc g args).run Tryz.prog w = .ok (.enter g args) w := eg
        cases hv : p k with
        | true =>
          rw [hv] at hcall
          have HV := Go.Lib.hid hv; clear hv
          go_wp2_with (go_at_fn g; refine hcall.mono ?_; rintro e w' ⟨rfl, hc'⟩)
          go_ret
          rw [idxB_hit hlt HV.out hall]
          exact ⟨rfl, hc.trans hc'⟩
        | false =>
          rw [hv] at hcall
          have HV := Go.Lib.hid hv; clear hv
          go_wp2_with (go_at_fn g; refine hcall.mono ?_; rintro e w' ⟨rfl, hc'⟩)
          go_roundw
          case rel => exact ⟨k + 1, by go_num, by omega, (fun j hj => by rcases Nat.lt_or_eq_of_le (Nat.le_of_lt_succ hj) with h | h; exact hall j h; subst h; exact HV.out), hc.trans hc'⟩
          case measure => simp [intOf]; omega
    · obtain rfl : k = n := by omega
      have hv := idxB_none hall
      go_wp2_with fail
      go_ret
      rw [hv]; exact ⟨rfl, hc⟩

theorem contOwner_any (g : Nat) (cap : Array Value) (eg : Enters Tryz.prog g) (p : Nat → Bool) (a : Option Addr) (n c : Nat) (xs : List Value) (w : World) (hx : Rd w (.slice a n c) 5 n xs) (hn : n ≤ 9223372036854775807)
    (hp : ∀ k, k < n → ∀ x0 x1 x2 x3 x4, xs[k * 5 + 0]? = some x0 → xs[k * 5 + 1]? = some x1 → xs[k * 5 + 2]? = some x2 → xs[k * 5 + 3]? = some x3 → xs[k * 5 + 4]? = some x4 → ∀ w', Chg No w w' → Gives g (#[.agg #[x0, x1, x2, x3, x4]] ++ cap) w' (.bool (p k))) :
    Gives 131 #[.slice a n c, .func (.func g) #[] cap] w (.bool (anyB p n)) := by
  have h0 := idxOwner_any g cap eg p a n c xs w hx hn hp
  have hr := idxB_ge (p := p) (n := n)
  unfold Gives at h0 ⊢
  clear hp hx
  generalize hi : idxB p n = r at h0 hr
  have HI := Go.Lib.hid hi; clear hi
  have HR := Go.Lib.hid hr; clear hr
  go_enter Tryz.func131, Tryz.ntmps131
  go_wp2_with (go_at_call 194; refine h0.mono ?_; rintro e w' ⟨rfl, hc'⟩)
  all_goals (go_ret; refine ⟨?_, hc'⟩; rw [show anyB p n = decide (0 ≤ r) from decide_eq_decide.2 HR.out.symm]; rfl)


theorem idxNode_any (g : Nat) (cap : Array Value) (eg : Enters Tryz.prog g) (p : Nat → Bool) (a : Option Addr) (n c : Nat) (xs : List Value) (w : World) (hx : Rd w (.slice a n c) 10 n xs) (hn : n ≤ 9223372036854775807)
    (hp : ∀ k, k < n → ∀ x0 x1 x2 x3 x4 x5 x6 x7 x8 x9, xs[k * 10 + 0]? = some x0 → xs[k * 10 + 1]? = some x1 → xs[k * 10 + 2]? = some x2 → xs[k * 10 + 3]? = some x3 → xs[k * 10 + 4]? = some x4 → xs[k * 10 + 5]? = some x5 → xs[k * 10 + 6]? = some x6 → xs[k * 10 + 7]? = some x7 → xs[k * 10 + 8]? = some x8 → xs[k * 10 + 9]? = some x9 → ∀ w', Chg No w w' → Gives g (#[.agg #[x0, x1, x2, x3, x4, x5, x6, x7, x8, x9]] ++ cap) w' (.bool (p k))) :
    Gives 191 #[.slice a n c, .func (.func g) #[] cap] w (.int .i64 (idxB p n)) := by
  unfold Gives
  go_enter Tryz.func191, Tryz.ntmps191
  go_wp2_with fail
  go_loopw [8] (fun i wr => IdxFRel w p n i wr) (fun i _ => n - (intOf i).toNat)
  case atStart => exact ⟨0, rfl, by omega, (fun j hj => by omega), Chg.refl _ _⟩
  case round =>
    obtain ⟨k, rfl, hk, hall, hc⟩ := hrel
    by_cases hlt : k < n
    · obtain ⟨a', c', he, hl, hcc, hnil, hcell⟩ := hx
      injection he with he1 _ he3
      subst he1; subst he3
      cases a with
      | none => have := hnil rfl; omega
      | some ad =>
        obtain ⟨x0, h0⟩ : ∃ x, xs[k * 10 + 0]? = some x := ⟨_, List.getElem?_eq_getElem (by omega)⟩
        obtain ⟨x1, h1⟩ : ∃ x, xs[k * 10 + 1]? = some x := ⟨_, List.getElem?_eq_getElem (by omega)⟩
        obtain ⟨x2, h2⟩ : ∃ x, xs[k * 10 + 2]? = some x := ⟨_, List.getElem?_eq_getElem (by omega)⟩
        obtain ⟨x3, h3⟩ : ∃ x, xs[k * 10 + 3]? = some x := ⟨_, List.getElem?_eq_getElem (by omega)⟩
        obtain ⟨x4, h4⟩ : ∃ x, xs[k * 10 + 4]? = some x := ⟨_, List.getElem?_eq_getElem (by omega)⟩
        obtain ⟨x5, h5⟩ : ∃ x, xs[k * 10 + 5]? = some x := ⟨_, List.getElem?_eq_getElem (by omega)⟩
        obtain ⟨x6, h6⟩ : ∃ x, xs[k * 10 + 6]? = some x := ⟨_, List.getElem?_eq_getElem (by omega)⟩
        obtain ⟨x7, h7⟩ : ∃ x, xs[k * 10 + 7]? = some x := ⟨_, List.getElem?_eq_getElem (by omega)⟩
        obtain ⟨x8, h8⟩ : ∃ x, xs[k * 10 + 8]? = some x := ⟨_, List.getElem?_eq_getElem (by omega)⟩
        obtain ⟨x9, h9⟩ : ∃ x, xs[k * 10 + 9]? = some x := ⟨_, List.getElem?_eq_getElem (by omega)⟩
        have q0 := hc.cell (hcell ad rfl (k * 10 + 0) x0 h0) id
        rw [Nat.add_zero] at q0
        have q1 := hc.cell (add_at ad (k * 10) 1 (by decide) ▸ hcell ad rfl (k * 10 + 1) x1 h1) id
        have q2 := hc.cell (add_at ad (k * 10) 2 (by decide) ▸ hcell ad rfl (k * 10 + 2) x2 h2) id
        have q3 := hc.cell (add_at ad (k * 10) 3 (by decide) ▸ hcell ad rfl (k * 10 + 3) x3 h3) id
        have q4 := hc.cell (add_at ad (k * 10) 4 (by decide) ▸ hcell ad rfl (k * 10 + 4) x4 h4) id
        have q5 := hc.cell (add_at ad (k * 10) 5 (by decide) ▸ hcell ad rfl (k * 10 + 5) x5 h5) id
        have q6 := hc.cell (add_at ad (k * 10) 6 (by decide) ▸ hcell ad rfl (k * 10 + 6) x6 h6) id
        have q7 := hc.cell (add_at ad (k * 10) 7 (by decide) ▸ hcell ad rfl (k * 10 + 7) x7 h7) id
        have q8 := hc.cell (add_at ad (k * 10) 8 (by decide) ▸ hcell ad rfl (k * 10 + 8) x8 h8) id
        have q9 := hc.cell (add_at ad (k * 10) 9 (by decide) ▸ hcell ad rfl (k * 10 + 9) x9 h9) id
        have hlt' : (k : Int) < (n : Int) := by omega
        have hcall := hp k hlt x0 x1 x2 x3 x4 x5 x6 x7 x8 x9 h0 h1 h2 h3 h4 h5 h6 h7 h8 h9 wr hc
        clear hp hcell h0 h1 h2 h3 h4 h5 h6 h7 h8 h9
        have heg : ∀ args w, (callFunc g args).run Tryz.prog w = .ok (.enter g args) w := eg
        cases hv : p k with
        | true =>
          rw [hv] at hcall
          have HV := Go.Lib.hid hv; clear hv
          go_wp2_with (go_at_fn g; refine hcall.mono ?_; rintro e w' ⟨rfl, hc'⟩)
          go_ret
          rw [idxB_hit hlt HV.out hall]
          exact ⟨rfl, hc.trans hc'⟩
        | false =>
          rw [hv] at hcall
          have HV := Go.Lib.hid hv; clear hv
          go_wp2_with (go_at_fn g; refine hcall.mono ?_; rintro e w' ⟨rfl, hc'⟩)
          go_roundw
          case rel => exact ⟨k + 1, by go_num, by omega, (fun j hj => by rcases Nat.lt_or_eq_of_le (Nat.le_of_lt_succ hj) with h | h; exact hall j h; subst h; exact HV.out), hc.trans hc'⟩
          case measure => simp [intOf]; omega
    · obtain rfl : k = n := by omega
      have hv := idxB_none hall
      go_wp2_with fail
      go_ret
      rw [hv]; exact ⟨rfl, hc⟩

theorem contNode_any (g : Nat) (cap : Array Value) (eg : Enters Tryz.prog g) (p : Nat → Bool) (a : Option Addr) (n c : Nat) (xs : List Value) (w : World) (hx : Rd w (.slice a n c) 10 n xs) (hn : n ≤ 9223372036854775807)
    (hp : ∀ k, k < n → ∀ x0 x1 x2 x3 x4 x5 x6 x7 x8 x9, xs[k * 10 + 0]? = some x0 → xs[k * 10 + 1]? = some x1 → xs[k * 10 + 2]? = some x2 → xs[k * 10 + 3]? = some x3 → xs[k * 10 + 4]? = some x4 → xs[k * 10 + 5]? = some x5 → xs[k * 10 + 6]? = some x6 → xs[k * 10 + 7]? = some x7 → xs[k * 10 + 8]? = some x8 → xs[k * 10 + 9]? = some x9 → ∀ w', Chg No w w' → Gives g (#[.agg #[x0, x1, x2, x3, x4, x5, x6, x7, x8, x9]] ++ cap) w' (.bool (p k))) :
    Gives 128 #[.slice a n c, .func (.func g) #[] cap] w (.bool (anyB p n)) := by
  have h0 := idxNode_any g cap eg p a n c xs w hx hn hp
  have hr := idxB_ge (p := p) (n := n)
  unfold Gives at h0 ⊢
  clear hp hx
  generalize hi : idxB p n = r at h0 hr
  have HI := Go.Lib.hid hi; clear hi
  have HR := Go.Lib.hid hr; clear hr
  go_enter Tryz.func128, Tryz.ntmps128
  go_wp2_with (go_at_call 191; refine h0.mono ?_; rintro e w' ⟨rfl, hc'⟩)
  all_goals (go_ret; refine ⟨?_, hc'⟩; rw [show anyB p n = decide (0 ≤ r) from decide_eq_decide.2 HR.out.symm]; rfl)


theorem idxPod_any (g : Nat) (cap : Array Value) (eg : Enters Tryz.prog g) (p : Nat → Bool) (a : Option Addr) (n c : Nat) (xs : List Value) (w : World) (hx : Rd w (.slice a n c) 15 n xs) (hn : n ≤ 9223372036854775807)
    (hp : ∀ k, k < n → ∀ x0 x1 x2 x3 x4 x5 x6 x7 x8 x9 x10 x11 x12 x13 x14, xs[k * 15 + 0]? = some x0 → xs[k * 15 + 1]? = some x1 → xs[k * 15 + 2]? = some x2 → xs[k * 15 + 3]? = some x3 → xs[k * 15 + 4]? = some x4 → xs[k * 15 + 5]? = some x5 → xs[k * 15 + 6]? = some x6 → xs[k * 15 + 7]? = some x7 → xs[k * 15 + 8]? = some x8 → xs[k * 15 + 9]? = some x9 → xs[k * 15 + 10]? = some x10 → xs[k * 15 + 11]? = some x11 → xs[k * 15 + 12]? = some x12 → xs[k * 15 + 13]? = some x13 → xs[k * 15 + 14]? = some x14 → ∀ w', Chg No w w' → Gives g (#[.agg #[x0, x1, x2, x3, x4, x5, x6, x7, x8, x9, x10, x11, x12, x13, x14]] ++ cap) w' (.bool (p k))) :
    Gives 195 #[.slice a n c, .func (.func g) #[] cap] w (.int .i64 (idxB p n)) := by
  unfold Gives
  go_enter Tryz.func195, Tryz.ntmps195
  go_wp2_with fail
  go_loopw [8] (fun i wr => IdxFRel w p n i wr) (fun i _ => n - (intOf i).toNat)
  case atStart => exact ⟨0, rfl, by omega, (fun j hj => by omega), Chg.refl _ _⟩
  case round =>
    obtain ⟨k, rfl, hk, hall, hc⟩ := hrel
    by_cases hlt : k < n
    · obtain ⟨a', c', he, hl, hcc, hnil, hcell⟩ := hx
      injection he with he1 _ he3
      subst he1; subst he3
      cases a with
      | none => have := hnil rfl; omega
      | some ad =>
        obtain ⟨x0, h0⟩ : ∃ x, xs[k * 15 + 0]? = some x := ⟨_, List.getElem?_eq_getElem (by omega)⟩
        obtain ⟨x1, h1⟩ : ∃ x, xs[k * 15 + 1]? = some x := ⟨_, List.getElem?_eq_getElem (by omega)⟩
        obtain ⟨x2, h2⟩ : ∃ x, xs[k * 15 + 2]? = some x := ⟨_, List.getElem?_eq_getElem (by omega)⟩
        obtain ⟨x3, h3⟩ : ∃ x, xs[k * 15 + 3]? = some x := ⟨_, List.getElem?_eq_getElem (by omega)⟩
        obtain ⟨x4, h4⟩ : ∃ x, xs[k * 15 + 4]? = some x := ⟨_, List.getElem?_eq_getElem (by omega)⟩
        obtain ⟨x5, h5⟩ : ∃ x, xs[k * 15 + 5]? = some x := ⟨_, List.getElem?_eq_getElem (by omega)⟩
        obtain ⟨x6, h6⟩ : ∃ x, xs[k * 15 + 6]? = some x := ⟨_, List.getElem?_eq_getElem (by omega)⟩
        obtain ⟨x7, h7⟩ : ∃ x, xs[k * 15 + 7]? = some x := ⟨_, List.getElem?_eq_getElem (by omega)⟩
        obtain ⟨x8, h8⟩ : ∃ x, xs[k * 15 + 8]? = some x := ⟨_, List.getElem?_eq_getElem (by omega)⟩
        obtain ⟨x9, h9⟩ : ∃ x, xs[k * 15 + 9]? = some x := ⟨_, List.getElem?_eq_getElem (by omega)⟩
        obtain ⟨x10, h10⟩ : ∃ x, xs[k * 15 + 10]? = some x := ⟨_, List.getElem?_eq_getElem (by omega)⟩
        obtain ⟨x11, h11⟩ : ∃ x, xs[k * 15 + 11]? = some x := ⟨_, List.getElem?_eq_getElem (by omega)⟩
        obtain ⟨x12, h12⟩ : ∃ x, xs[k * 15 + 12]? = some x := ⟨_, List.getElem?_eq_getElem (by omega)⟩
        obtain ⟨x13, h13⟩ : ∃ x, xs[k * 15 + 13]? = some x := ⟨_, List.getElem?_eq_getElem (by omega)⟩
        obtain ⟨x14, h14⟩ : ∃ x, xs[k * 15 + 14]? = some x := ⟨_, List.getElem?_eq_getElem (by omega)⟩
        have q0 := hc.cell (hcell ad rfl (k * 15 + 0) x0 h0) id
        rw [Nat.add_zero] at q0
        have q1 := hc.cell (add_at ad (k * 15) 1 (by decide) ▸ hcell ad rfl (k * 15 + 1) x1 h1) id
        have q2 := hc.cell (add_at ad (k * 15) 2 (by decide) ▸ hcell ad rfl (k * 15 + 2) x2 h2) id
        have q3 := hc.cell (add_at ad (k * 15) 3 (by decide) ▸ hcell ad rfl (k * 15 + 3) x3 h3) id
        have q4 := hc.cell (add_at ad (k * 15) 4 (by decide) ▸ hcell ad rfl (k * 15 + 4) x4 h4) id
        have q5 := hc.cell (add_at ad (k * 15) 5 (by decide) ▸ hcell ad rfl (k * 15 + 5) x5 h5) id
        have q6 := hc.cell (add_at ad (k * 15) 6 (by decide) ▸ hcell ad rfl (k * 15 + 6) x6 h6) id
        have q7 := hc.cell (add_at ad (k * 15) 7 (by decide) ▸ hcell ad rfl (k * 15 + 7) x7 h7) id
        have q8 := hc.cell (add_at ad (k * 15) 8 (by decide) ▸ hcell ad rfl (k * 15 + 8) x8 h8) id
        have q9 := hc.cell (add_at ad (k * 15) 9 (by decide) ▸ hcell ad rfl (k * 15 + 9) x9 h9) id
        have q10 := hc.cell (add_at ad (k * 15) 10 (by decide) ▸ hcell ad rfl (k * 15 + 10) x10 h10) id
        have q11 := hc.cell (add_at ad (k * 15) 11 (by decide) ▸ hcell ad rfl (k * 15 + 11) x11 h11) id
        have q12 := hc.cell (add_at ad (k * 15) 12 (by decide) ▸ hcell ad rfl (k * 15 + 12) x12 h12) id
        have q13 := hc.cell (add_at ad (k * 15) 13 (by decide) ▸ hcell ad rfl (k * 15 + 13) x13 h13) id
        have q14 := hc.cell (add_at ad (k * 15) 14 (by decide) ▸ hcell ad rfl (k * 15 + 14) x14 h14) id
        have hlt' : (k : Int) < (n : Int) := by omega
        have hcall := hp k hlt x0 x1 x2 x3 x4 x5 x6 x7 x8 x9 x10 x11 x12 x13 x14 h0 h1 h2 h3 h4 h5 h6 h7 h8 h9 h10 h11 h12 h13 h14 wr hc
        clear hp hcell h0 h1 h2 h3 h4 h5 h6 h7 h8 h9 h10 h11 h12 h13 h14
        have heg : ∀ args w, (callFunc g args).run Tryz.prog w = .ok (.enter g args) w := eg
        cases hv : p k with
        | true =>
          rw [hv] at hcall
          have HV := Go.Lib.hid hv; clear hv
          go_wp2_with (go_at_fn g; refine hcall.mono ?_; rintro e w' ⟨rfl, hc'⟩)
          go_ret
          rw [idxB_hit hlt HV.out hall]
          exact ⟨rfl, hc.trans hc'⟩
        | false =>
          rw [hv] at hcall
          have HV := Go.Lib.hid hv; clear hv
          go_wp2_with (go_at_fn g; refine hcall.mono ?_; rintro e w' ⟨rfl, hc'⟩)
          go_roundw
          case rel => exact ⟨k + 1, by go_num, by omega, (fun j hj => by rcases Nat.lt_or_eq_of_le (Nat.le_of_lt_succ hj) with h | h; exact hall j h; subst h; exact HV.out), hc.trans hc'⟩
          case measure => simp [intOf]; omega
    · obtain rfl : k = n := by omega
      have hv := idxB_none hall
      go_wp2_with fail
      go_ret
      rw [hv]; exact ⟨rfl, hc⟩

theorem contPod_any (g : Nat) (cap : Array Value) (eg : Enters Tryz.prog g) (p : Nat → Bool) (a : Option Addr) (n c : Nat) (xs : List Value) (w : World) (hx : Rd w (.slice a n c) 15 n xs) (hn : n ≤ 9223372036854775807)
    (hp : ∀ k, k < n → ∀ x0 x1 x2 x3 x4 x5 x6 x7 x8 x9 x10 x11 x12 x13 x14, xs[k * 15 + 0]? = some x0 → xs[k * 15 + 1]? = some x1 → xs[k * 15 + 2]? = some x2 → xs[k * 15 + 3]? = some x3 → xs[k * 15 + 4]? = some x4 → xs[k * 15 + 5]? = some x5 → xs[k * 15 + 6]? = some x6 → xs[k * 15 + 7]? = some x7 → xs[k * 15 + 8]? = some x8 → xs[k * 15 + 9]? = some x9 → xs[k * 15 + 10]? = some x10 → xs[k * 15 + 11]? = some x11 → xs[k * 15 + 12]? = some x12 → xs[k * 15 + 13]? = some x13 → xs[k * 15 + 14]? = some x14 → ∀ w', Chg No w w' → Gives g (#[.agg #[x0, x1, x2, x3, x4, x5, x6, x7, x8, x9, x10, x11, x12, x13, x14]] ++ cap) w' (.bool (p k))) :
    Gives 134 #[.slice a n c, .func (.func g) #[] cap] w (.bool (anyB p n)) := by
  have h0 := idxPod_any g cap eg p a n c xs w hx hn hp
  have hr := idxB_ge (p := p) (n := n)
  unfold Gives at h0 ⊢
  clear hp hx
  generalize hi : idxB p n = r at h0 hr
  have HI := Go.Lib.hid hi; clear hi
  have HR := Go.Lib.hid hr; clear hr
  go_enter Tryz.func134, Tryz.ntmps134
  go_wp2_with (go_at_call 195; refine h0.mono ?_; rintro e w' ⟨rfl, hc'⟩)
  all_goals (go_ret; refine ⟨?_, hc'⟩; rw [show anyB p n = decide (0 ≤ r) from decide_eq_decide.2 HR.out.symm]; rfl)

end Go.Proofs.YthpmgnbehahkfaaGreat
end
section
namespace Go.Proofs.YthpmgnbehahkfaaGreat
open Go.RowKit Go.Dk

def maxF (f : Nat → Int) : Nat → Int
  | 0 => f 0
  | k + 1 => max (maxF f k) (f (k + 1))
def minF (f : Nat → Int) : Nat → Int
  | 0 => f 0
  | k + 1 => min (minF f k) (f (k + 1))

def MaxRel (w : World) (f : Nat → Int) (n : Nat) (m i : Value) (wr : World) : Prop := ∃ k : Nat, i = .int .i64 ((k + 1 : Nat) : Int) ∧ k + 1 ≤ n ∧ m = .int .i64 (maxF f k) ∧ w = wr
def MinRel (w : World) (f : Nat → Int) (n : Nat) (m i : Value) (wr : World) : Prop := ∃ k : Nat, i = .int .i64 ((k + 1 : Nat) : Int) ∧ k + 1 ≤ n ∧ m = .int .i64 (minF f k) ∧ w = wr

theorem max_any (f : Nat → Int) (b o : Nat) (n c : Nat) (w : World) (h : ∀ j, j < n → w.cell? ⟨b, o + j, none⟩ = some (.int .i64 (f j))) (h1 : 1 ≤ n) (hn : n ≤ 9223372036854775807) :
    Calls Tryz.prog 221 #[.slice (some ⟨b, o, none⟩) n c] w fun e w' => e = .returned (.int .i64 (maxF f (n - 1))) ∧ w = w' := by
  have q0 := h 0 (by omega)
  rw [Nat.add_zero] at q0
  have h1' : (1 : Int) ≤ (n : Int) := by omega
  go_enter Tryz.func221, Tryz.ntmps221
  go_wp2_with fail
  go_loopw [3, 4] (fun m i wr => MaxRel w f n m i wr) (fun _ i _ => n - (intOf i).toNat)
  case atStart => exact ⟨0, rfl, by omega, rfl, rfl⟩
  case round =>
    obtain ⟨k, rfl, hk, rfl, rfl⟩ := hrel
    by_cases hlt : k + 1 < n
    · have q1 := h (k + 1) hlt
      have hlt' : ((k + 1 : Nat) : Int) < (n : Int) := by omega
      clear h q0
      go_wp2_with fail
      go_roundw
      case rel => exact ⟨k + 1, by go_num, by omega, rfl, rfl⟩
      case measure => simp [intOf]; omega
    · obtain rfl : n = k + 1 := by omega
      clear h q0
      go_wp2_with fail
      go_ret
      exact ⟨rfl, rfl⟩

theorem min_any (f : Nat → Int) (b o : Nat) (n c : Nat) (w : World) (h : ∀ j, j < n → w.cell? ⟨b, o + j, none⟩ = some (.int .i64 (f j))) (h1 : 1 ≤ n) (hn : n ≤ 9223372036854775807) :
    Calls Tryz.prog 222 #[.slice (some ⟨b, o, none⟩) n c] w fun e w' => e = .returned (.int .i64 (minF f (n - 1))) ∧ w = w' := by
  have q0 := h 0 (by omega)
  rw [Nat.add_zero] at q0
  have h1' : (1 : Int) ≤ (n : Int) := by omega
  go_enter Tryz.func222, Tryz.ntmps222
  go_wp2_with fail
  go_loopw [3, 4] (fun m i wr => MinRel w f n m i wr) (fun _ i _ => n - (intOf i).toNat)
  case atStart => exact ⟨0, rfl, by omega, rfl, rfl⟩
  case round =>
    obtain ⟨k, rfl, hk, rfl, rfl⟩ := hrel
    by_cases hlt : k + 1 < n
    · have q1 := h (k + 1) hlt
      have hlt' : ((k + 1 : Nat) : Int) < (n : Int) := by omega
      clear h q0
      go_wp2_with fail
      go_roundw
      case rel => exact ⟨k + 1, by go_num, by omega, rfl, rfl⟩
      case measure => simp [intOf]; omega
    · obtain rfl : n = k + 1 := by omega
      clear h q0
      go_wp2_with fail
      go_ret
      exact ⟨rfl, rfl⟩

/-- may a row of quantities be: the error's number -/
def vecE (v0 v1 v2 v3 v4 : Int) : Int :=
  if min (min (min (min v0 v1) v2) v3) v4 < 0 then 2 else if 1099511627776 < max (max (max (max v0 v1) v2) v3) v4 then 10 else 0
def vecV (v0 v1 v2 v3 v4 : Int) : Value := .agg #[.int .i64 v0, .int .i64 v1, .int .i64 v2, .int .i64 v3, .int .i64 v4]
def at5 (v0 v1 v2 v3 v4 : Int) : Nat → Int
  | 0 => v0 | 1 => v1 | 2 => v2 | 3 => v3 | _ => v4

theorem vecCheck_any (v0 v1 v2 v3 v4 : Int) (w : World) :
    Gives 192 #[vecV v0 v1 v2 v3 v4] w (.int .i64 (vecE v0 v1 v2 v3 v4)) := by
  unfold Gives vecV
  have hc := (Chg.refl No w).alloc (.cells #[.int .i64 v0, .int .i64 v1, .int .i64 v2, .int .i64 v3, .int .i64 v4] 58)
  have hW := heap_alloc_new w (.cells #[.int .i64 v0, .int .i64 v1, .int .i64 v2, .int .i64 v3, .int .i64 v4] 58)
  go_enter Tryz.func192, Tryz.ntmps192
  go_wp2_with fail
  generalize w.alloc _ = W at hc hW ⊢
  generalize w.heap.size = b at hW ⊢
  have hcells : ∀ j, j < 5 → W.cell? ⟨b, 0 + j, none⟩ = some (.int .i64 (at5 v0 v1 v2 v3 v4 j)) := fun j hj => by
    rw [Nat.zero_add]
    match j, hj with
    | 0, _ => exact cell_of_heap hW rfl
    | 1, _ => exact cell_of_heap hW rfl
    | 2, _ => exact cell_of_heap hW rfl
    | 3, _ => exact cell_of_heap hW rfl
    | 4, _ => exact cell_of_heap hW rfl
  have hmax := fun k => max_any (at5 v0 v1 v2 v3 v4) b 0 5 5 (W.drewN k) hcells (by omega) (by omega)
  have hmin := fun k => min_any (at5 v0 v1 v2 v3 v4) b 0 5 5 (W.drewN k) hcells (by omega) (by omega)
  have e1 : maxF (at5 v0 v1 v2 v3 v4) (5 - 1) = max (max (max (max v0 v1) v2) v3) v4 := rfl
  have e2 : minF (at5 v0 v1 v2 v3 v4) (5 - 1) = min (min (min (min v0 v1) v2) v3) v4 := rfl
  rw [e1] at hmax
  rw [e2] at hmin
  clear hcells e1 e2
  have hE : vecE v0 v1 v2 v3 v4 = if min (min (min (min v0 v1) v2) v3) v4 < 0 then 2 else if 1099511627776 < max (max (max (max v0 v1) v2) v3) v4 then 10 else 0 := rfl
  generalize max (max (max (max v0 v1) v2) v3) v4 = M at hmax hE
  generalize min (min (min (min v0 v1) v2) v3) v4 = N at hmin hE
  have HE := Go.Lib.hid hE; clear hE
  go_quiet ((first | (go_at_call 221; exact quiet_eq (hmax _)) | (go_at_call 222; exact quiet_eq (hmin _))))
  by_cases h1 : N < 0
  · go_wp2_with fail
    go_ret
    exact ⟨by rw [HE.out, if_pos (by omega)]; rfl, hc.drewN nq⟩
  · by_cases h2 : 1099511627776 < M
    · go_wp2_with fail
      go_ret
      exact ⟨by rw [HE.out, if_neg (by omega), if_pos (by omega)]; rfl, hc.drewN nq⟩
    · go_wp2_with fail
      go_ret
      exact ⟨by rw [HE.out, if_neg (by omega), if_neg (by omega)]; rfl, hc.drewN nq⟩

def Ref2Rel (W : World) (f : Nat → Int) (i : Value) (wr : World) : Prop := ∃ k : Nat, i = .int .i64 k ∧ k ≤ 5 ∧ (∀ j, j < k → 0 ≤ f j) ∧ W = wr
def Ref2Rel' (W : World) (f : Nat → Int) (i : Value) (wr : World) : Prop := ∃ k : Nat, i = .int .i64 k ∧ k ≤ 5 ∧ (∀ j, j < k → f j ≤ 1099511627776) ∧ W = wr

theorem vecE_neg (v0 v1 v2 v3 v4 : Int) (k : Nat) (hk : k < 5) (h : at5 v0 v1 v2 v3 v4 k < 0) : vecE v0 v1 v2 v3 v4 = 2 := by
  unfold vecE
  rw [if_pos]
  match k, hk with
  | 0, _ | 1, _ | 2, _ | 3, _ | 4, _ => simp only [at5] at h; omega
theorem vecE_big (v0 v1 v2 v3 v4 : Int) (h0 : ∀ j, j < 5 → 0 ≤ at5 v0 v1 v2 v3 v4 j) (k : Nat) (hk : k < 5) (h : 1099511627776 < at5 v0 v1 v2 v3 v4 k) : vecE v0 v1 v2 v3 v4 = 10 := by
  have a0 := h0 0 (by omega); have a1 := h0 1 (by omega); have a2 := h0 2 (by omega); have a3 := h0 3 (by omega); have a4 := h0 4 (by omega)
  simp only [at5] at a0 a1 a2 a3 a4
  unfold vecE
  rw [if_neg (by omega), if_pos]
  match k, hk with
  | 0, _ | 1, _ | 2, _ | 3, _ | 4, _ => simp only [at5] at h; omega
theorem vecE_ok (v0 v1 v2 v3 v4 : Int) (h0 : ∀ j, j < 5 → 0 ≤ at5 v0 v1 v2 v3 v4 j) (h1 : ∀ j, j < 5 → at5 v0 v1 v2 v3 v4 j ≤ 1099511627776) : vecE v0 v1 v2 v3 v4 = 0 := by
  have a0 := h0 0 (by omega); have a1 := h0 1 (by omega); have a2 := h0 2 (by omega); have a3 := h0 3 (by omega); have a4 := h0 4 (by omega)
  have b0 := h1 0 (by omega); have b1 := h1 1 (by omega); have b2 := h1 2 (by omega); have b3 := h1 3 (by omega); have b4 := h1 4 (by omega)
  simp only [at5] at a0 a1 a2 a3 a4 b0 b1 b2 b3 b4
  unfold vecE
  rw [if_neg (by omega), if_neg (by omega)]

theorem refVecCheck_any (v0 v1 v2 v3 v4 : Int) (w : World) :
    Gives 232 #[vecV v0 v1 v2 v3 v4] w (.int .i64 (vecE v0 v1 v2 v3 v4)) := by
  unfold Gives vecV
  have hc := (Chg.refl No w).alloc (.cells #[.int .i64 v0, .int .i64 v1, .int .i64 v2, .int .i64 v3, .int .i64 v4] 58)
  have hW := heap_alloc_new w (.cells #[.int .i64 v0, .int .i64 v1, .int .i64 v2, .int .i64 v3, .int .i64 v4] 58)
  have eneg := vecE_neg v0 v1 v2 v3 v4
  have ebig := vecE_big v0 v1 v2 v3 v4
  have eok := vecE_ok v0 v1 v2 v3 v4
  generalize vecE v0 v1 v2 v3 v4 = E at *
  go_enter Tryz.func232, Tryz.ntmps232
  go_wp2_with fail
  generalize w.alloc _ = W at hc hW ⊢
  generalize w.heap.size = b at hW ⊢
  have hcells : ∀ j, j < 5 → W.cell? ⟨b, j, none⟩ = some (.int .i64 (at5 v0 v1 v2 v3 v4 j)) := fun j hj => by
    match j, hj with
    | 0, _ => exact cell_of_heap hW rfl
    | 1, _ => exact cell_of_heap hW rfl
    | 2, _ => exact cell_of_heap hW rfl
    | 3, _ => exact cell_of_heap hW rfl
    | 4, _ => exact cell_of_heap hW rfl
  clear hW
  generalize at5 v0 v1 v2 v3 v4 = f at *
  go_loopw [3] (fun i wr => Ref2Rel W f i wr) (fun i _ => 5 - (intOf i).toNat)
  case atStart => exact ⟨0, rfl, by omega, (fun j hj => by omega), rfl⟩
  case round =>
    obtain ⟨k, rfl, hk, hall, rfl⟩ := hrel
    by_cases hlt : k < 5
    · have q := hcells k hlt
      have hlt' : (k : Int) < 5 := by omega
      by_cases hf : f k < 0
      · have e := eneg k hlt hf
        clear hcells eneg ebig eok
        go_wp2_with fail
        go_ret
        exact ⟨by rw [e]; rfl, hc⟩
      · clear hcells eneg ebig eok
        go_wp2_with fail
        go_roundw
        case rel => exact ⟨k + 1, by go_num, by omega, (fun j hj => by rcases Nat.lt_or_eq_of_le (Nat.le_of_lt_succ hj) with h | h; exact hall j h; subst h; omega), rfl⟩
        case measure => simp [intOf]; omega
    · obtain rfl : k = 5 := by omega
      have HA := Go.Lib.hid hall; clear hall
      go_wp2_with fail
      go_loopw [4] (fun i wr => Ref2Rel' W f i wr) (fun i _ => 5 - (intOf i).toNat)
      case atStart => exact ⟨0, rfl, by omega, (fun j hj => by omega), rfl⟩
      case round =>
        obtain ⟨k, rfl, hk, hall, rfl⟩ := hrel
        by_cases hlt : k < 5
        · have q := hcells k hlt
          have hlt' : (k : Int) < 5 := by omega
          by_cases hf : 1099511627776 < f k
          · have e := ebig HA.out k hlt hf
            clear hcells eneg ebig eok
            go_wp2_with fail
            go_ret
            exact ⟨by rw [e]; rfl, hc⟩
          · clear hcells eneg ebig eok
            go_wp2_with fail
            go_roundw
            case rel => exact ⟨k + 1, by go_num, by omega, (fun j hj => by rcases Nat.lt_or_eq_of_le (Nat.le_of_lt_succ hj) with h | h; exact hall j h; subst h; omega), rfl⟩
            case measure => simp [intOf]; omega
        · obtain rfl : k = 5 := by omega
          have e := eok HA.out hall
          clear hcells eneg ebig eok
          go_wp2_with fail
          go_ret
          exact ⟨by rw [e]; rfl, hc⟩
end Go.Proofs.YthpmgnbehahkfaaGreat
end
section
namespace Go.Proofs.YthpmgnbehahkfaaGreat
open Go.RowKit Go.Dk

theorem fine1_any (n : Int) (w : World) : Calls Tryz.prog 200 #[.int .i64 n] w fun e w' => e = .returned (.bool (decide (n ≠ 0))) ∧ w = w' := by
  go_enter Tryz.func200, Tryz.ntmps200
  go_wp2
  all_goals (go_ret; simp <;> (rw [Bool.eq_iff_iff]; simp))

theorem enters_fine1 : Enters Tryz.prog 200 := enters_of Tryz.func200 (by kernel_rfl) rfl

theorem fine_any (f : Nat → Int) (a : Option Addr) (n c : Nat) (xs : List Value) (w : World) (hx : Rd w (.slice a n c) 1 n xs) (hn : n ≤ 9223372036854775807) (hf : ∀ k x, xs[k]? = some x → x = Value.int .i64 (f k)) :
    Gives 141 #[.slice a n c] w (.bool (!anyB (fun k => decide (f k ≠ 0)) n)) := by
  have h0 := contErr_any 200 #[] enters_fine1 (fun k => decide (f k ≠ 0)) a n c xs w hx hn (fun k x hk w' _ => by
    rw [hf k x hk]
    exact (fine1_any (f k) w').mono fun e w'' ⟨h1, h2⟩ => ⟨h1, h2 ▸ Chg.refl _ _⟩)
  unfold Gives at h0 ⊢
  clear hx hf
  generalize anyB (fun k => decide (f k ≠ 0)) n = B at *
  go_enter Tryz.func141, Tryz.ntmps141
  go_wp2_with (go_at_call 199; refine h0.mono ?_; rintro e w' ⟨rfl, hc'⟩)
  go_ret
  exact ⟨rfl, hc'⟩

/-- two names, which is less -/
theorem byKey_any (k1 v1 k2 v2 : ByteArray) (w : World) : Gives 224 #[.agg #[.string k1, .string v1], .agg #[.string k2, .string v2]] w (.bool (Op.bytesLess k1.toList k2.toList)) := by
  unfold Gives
  go_enter Tryz.func224, Tryz.ntmps224
  go_wp2
  go_ret
  exact ⟨rfl, ((Chg.refl No w).alloc _).alloc _⟩
end Go.Proofs.YthpmgnbehahkfaaGreat
end
