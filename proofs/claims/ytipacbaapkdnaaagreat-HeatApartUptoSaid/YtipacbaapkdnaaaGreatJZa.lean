/- Names and values: label, drayageref03. -/
import Derived.Test.YtipacbaapkdnaaaGreatRows
import Derived.Test.YtipacbaapkdnaaaGreatJDa
import Derived.WalkKit
import Derived.BigQuiet
import Derived.Lib.Hide
import Derived.Deep.RegionHeld3
import Derived.Deep.QuietTactic
import Derived.Laws.CopyOwn
import Derived.WalkSpells
import Derived.Lib.AppendZerosOnto
import Derived.Laws.RangeAny
set_option linter.unusedSimpArgs false
set_option linter.unusedVariables false
namespace Go.Proofs.YtipacbaapkdnaaaGreat
open Go.RowKit Go.Dk

def letterB (c : Int) : Bool := decide (97 ≤ c ∧ c ≤ 122)
def insideB (c : Int) : Bool := letterB c || decide (48 ≤ c ∧ c ≤ 57) || decide (c = 45)

theorem refLetter_any (c : Int) (w : World) : Calls Tryz.prog 94 #[.int .u8 c] w fun e w' => e = .returned (.bool (letterB c)) ∧ w = w' := by
  go_enter Tryz.func94, Tryz.ntmps94
  go_wp2
  all_goals (go_ret; simp [letterB]; try omega)

theorem small_any (c : Int) (w : World) : Calls Tryz.prog 125 #[.int .i32 c] w fun e w' => e = .returned (.bool (letterB c)) ∧ w = w' := by
  go_enter Tryz.func125, Tryz.ntmps125
  go_wp2
  all_goals (go_ret; simp [letterB]; try omega)

theorem refInside_any (c : Int) (w : World) : Calls Tryz.prog 126 #[.int .u8 c] w fun e w' => e = .returned (.bool (insideB c)) ∧ w = w' := by
  have h0 := refLetter_any c w
  cases hl : letterB c <;> rw [hl] at h0
  all_goals
    go_enter Tryz.func126, Tryz.ntmps126
    go_wp2_with (go_at_call 94; refine h0.mono ?_; rintro e w' ⟨rfl, rfl⟩)
    all_goals (go_ret; simp [insideB, hl] <;> first | omega | (rw [Bool.eq_iff_iff]; simp; omega))

theorem inside_any (c : Int) (w : World) : Calls Tryz.prog 145 #[.int .i32 c] w fun e w' => e = .returned (.bool (insideB c)) ∧ w = w' := by
  have h0 := small_any c w
  cases hl : letterB c <;> rw [hl] at h0
  all_goals
    go_enter Tryz.func145, Tryz.ntmps145
    go_wp2_with (go_at_call 125; refine h0.mono ?_; rintro e w' ⟨rfl, rfl⟩)
    all_goals (go_ret; simp [insideB, hl] <;> first | omega | (rw [Bool.eq_iff_iff]; simp; omega))

/-- may a text be a value -/
def valueB (s : ByteArray) : Bool := decide (1 ≤ s.size ∧ s.size ≤ 15 ∧ ∀ i, i < s.size → insideB ((s.get! i).toNat : Int) = true)
def nameB (s : ByteArray) : Bool := valueB s && letterB ((s.get! 0).toNat : Int)

theorem byteAt (s : ByteArray) (k : Nat) (h : k < s.size) : s.get! k = s[k]'h := by
  cases s with
  | mk d => exact getElem!_pos d k h

def RefValRel (w : World) (s : ByteArray) (i : Value) (wr : World) : Prop :=
  ∃ k : Nat, i = .int .i64 k ∧ k ≤ s.size ∧ (∀ j, j < k → insideB ((s.get! j).toNat : Int) = true) ∧ w = wr

theorem refValue_any (s : ByteArray) (w : World) (hs : s.size ≤ 9223372036854775807) : Calls Tryz.prog 93 #[.string s] w fun e w' => e = .returned (.bool (valueB s)) ∧ w = w' := by
  go_enter Tryz.func93, Tryz.ntmps93
  go_wp2_with fail
  go_loopw [3] (fun i wr => RefValRel w s i wr) (fun i _ => s.size - (intOf i).toNat)
  case atStart => exact ⟨0, rfl, by omega, (fun j hj => by omega), rfl⟩
  case round =>
    obtain ⟨k, rfl, hk, hall, rfl⟩ := hrel
    by_cases hlt : k < s.size
    · have hgk : s[k] = s.get! k := (byteAt s k hlt).symm
      have h0 := refInside_any ((s.get! k).toNat : Int) w
      cases hv : insideB ((s.get! k).toNat : Int) with
      | true =>
        rw [hv] at h0
        have HV := Go.Lib.hid hv; clear hv
        go_wp2_with (go_at_call 126; (try rw [hgk]); refine h0.mono ?_; rintro e w' ⟨rfl, rfl⟩)
        go_roundw
        case rel => exact ⟨k + 1, by go_num, by omega, (fun j hj => by rcases Nat.lt_or_eq_of_le (Nat.le_of_lt_succ hj) with h | h; exact hall j h; subst h; exact HV.out), rfl⟩
        case measure => simp [intOf]; omega
      | false =>
        rw [hv] at h0
        have hn : valueB s = false := by
          unfold valueB; rw [decide_eq_false_iff_not]; rintro ⟨_, _, h⟩; rw [h k hlt] at hv; cases hv
        have HN := Go.Lib.hid hn; clear hn hv
        go_wp2_with (go_at_call 126; (try rw [hgk]); refine h0.mono ?_; rintro e w' ⟨rfl, rfl⟩)
        go_ret
        rw [HN.out]
        exact ⟨rfl, rfl⟩
    · obtain rfl : k = s.size := by omega
      have hv : valueB s = decide (1 ≤ s.size ∧ s.size ≤ 15) := by unfold valueB; rw [Bool.eq_iff_iff]; simp; intro _ _; exact hall
      have HV := Go.Lib.hid hv; clear hv
      go_wp2_with fail
      all_goals (go_ret; rw [HV.out]; simp <;> first | omega | (rw [Bool.eq_iff_iff]; simp; omega))

theorem refName_any (s : ByteArray) (w : World) (hs : s.size ≤ 9223372036854775807) : Calls Tryz.prog 63 #[.string s] w fun e w' => e = .returned (.bool (nameB s)) ∧ w = w' := by
  have h0 := refValue_any s w hs
  cases hv : valueB s with
  | false =>
    rw [hv] at h0
    have HV := Go.Lib.hid hv; clear hv
    go_enter Tryz.func63, Tryz.ntmps63
    go_wp2_with (go_at_call 93; refine h0.mono ?_; rintro e w' ⟨rfl, rfl⟩)
    go_ret
    simp [nameB, HV.out]
  | true =>
    rw [hv] at h0
    have HV := Go.Lib.hid hv
    have hz : 0 < s.size := by unfold valueB at hv; simp at hv; omega
    have hgk : s[0] = s.get! 0 := (byteAt s 0 hz).symm
    clear hv
    go_enter Tryz.func63, Tryz.ntmps63
    go_wp2_with (go_at_call 93; refine h0.mono ?_; rintro e w' ⟨rfl, rfl⟩)
    try rw [hgk]
    refine (refLetter_any _ _).mono ?_
    rintro e w' ⟨rfl, rfl⟩
    go_wp2
    go_ret
    simp [nameB, HV.out]

/-- the closure of label.Value -/
theorem other_any (c : Int) (w : World) : Calls Tryz.prog 144 #[.int .i32 c] w fun e w' => e = .returned (.bool (!insideB c)) ∧ w = w' := by
  go_enter Tryz.func144, Tryz.ntmps144
  go_wp2_with (go_at_call 145; refine (inside_any c _).mono ?_; rintro e w' ⟨rfl, rfl⟩)
  go_ret
  exact ⟨rfl, rfl⟩

theorem inside_high (n : Int) (h : 128 ≤ n) : insideB n = false := by
  simp [insideB, letterB]; omega
theorem inside_decode (s : ByteArray) (pos : Nat) (h : pos < s.size) : insideB ((Utf8.decode s pos).1 : Int) = insideB ((s.get! pos).toNat : Int) ∧ (insideB ((Utf8.decode s pos).1 : Int) = true → (Utf8.decode s pos).2 = 1) := by
  rw [byteAt s pos h]
  by_cases ha : (s[pos]'h).toNat < 128
  · rw [decode_ascii s pos h ha]; exact ⟨rfl, fun _ => rfl⟩
  · have h1 := decode_high s pos h (by omega)
    rw [inside_high _ (by omega), inside_high _ (by omega)]
    exact ⟨rfl, fun h => by cases h⟩

def IdxRel (w : World) (s : ByteArray) (wr : World) : Prop :=
  ∃ pos : Nat, wr = w.iter s pos ∧ pos ≤ s.size ∧ ∀ j, j < pos → insideB ((s.get! j).toNat : Int) = true

theorem indexFunc_any (s : ByteArray) (w : World) (hs : s.size ≤ 9223372036854775807) :
    Calls Tryz.prog 155 #[.string s, .func (.func 144) #[] #[], .bool true] w fun e w' =>
      (∃ r : Int, e = .returned (.int .i64 r) ∧ (r < 0 ↔ ∀ j, j < s.size → insideB ((s.get! j).toNat : Int) = true)) ∧ Chg No w w' := by
  go_enter Tryz.func155, Tryz.ntmps155
  go_wp2_with fail
  go_loopw [6] (fun _ wr => IdxRel w s wr) (fun _ wr => s.size - wr.iterPos w.heap.size)
  case atStart => exact ⟨0, rfl, by omega, fun j hj => by omega⟩
  case round =>
    obtain ⟨pos, rfl, hk, hall⟩ := hrel
    by_cases hlt : pos < s.size
    · have hnx := fun ty => run_next_any (P := Tryz.prog) w s pos ty hlt
      obtain ⟨c, hc⟩ : ∃ c, c = (Utf8.decode s pos).1 := ⟨_, rfl⟩
      obtain ⟨d, hd⟩ : ∃ d, d = (Utf8.decode s pos).2 := ⟨_, rfl⟩
      rw [← hc, ← hd] at hnx
      have hcl := decode_le s pos
      rw [← hc] at hcl
      have HC := Go.Lib.hid hc; clear hc
      have HD := Go.Lib.hid hd; clear hd
      have h0 := other_any (c : Int) (w.iter s (pos + d))
      cases hv : insideB (c : Int) with
      | true =>
        rw [hv] at h0
        have HV := Go.Lib.hid hv; clear hv
        go_wp2_with (go_at_call 144; refine h0.mono ?_; rintro e w' ⟨rfl, rfl⟩)
        have hid := inside_decode s pos hlt
        rw [← HC.out, ← HD.out, HV.out] at hid
        obtain ⟨hi1, hi2⟩ := hid
        have hd1 := hi2 rfl
        go_roundw
        case rel => exact ⟨pos + d, rfl, by omega, fun j hj => by rcases Nat.lt_or_eq_of_le (show j ≤ pos by omega) with h | h; exact hall j h; subst h; exact hi1.symm⟩
        case measure => simp; omega
      | false =>
        rw [hv] at h0
        have HV := Go.Lib.hid hv; clear hv
        go_wp2_with (go_at_call 144; refine h0.mono ?_; rintro e w' ⟨rfl, rfl⟩)
        go_ret
        have hid := (inside_decode s pos hlt).1
        rw [← HC.out, HV.out] at hid
        refine ⟨⟨pos, rfl, ?_⟩, (Chg.refl No w).alloc _⟩
        constructor
        · intro h; omega
        · intro h; rw [h pos hlt] at hid; cases hid
    · have hnx := fun ty => run_next_end (P := Tryz.prog) w s pos ty hlt
      go_wp2
      go_ret
      refine ⟨⟨-1, rfl, ?_⟩, (Chg.refl No w).alloc _⟩
      constructor
      · intro _ j hj; exact hall j (by omega)
      · intro _; omega

theorem IndexFunc_any (s : ByteArray) (w : World) (hs : s.size ≤ 9223372036854775807) :
    Calls Tryz.prog 146 #[.string s, .func (.func 144) #[] #[]] w fun e w' =>
      (∃ r : Int, e = .returned (.int .i64 r) ∧ (r < 0 ↔ ∀ j, j < s.size → insideB ((s.get! j).toNat : Int) = true)) ∧ Chg No w w' := by
  go_enter Tryz.func146, Tryz.ntmps146
  go_wp2_with fail
  refine (indexFunc_any s w hs).mono ?_
  rintro e w' ⟨⟨r, rfl, hr⟩, hc⟩
  have HR := Go.Lib.hid hr; clear hr
  go_wp2
  go_ret
  exact ⟨⟨r, rfl, HR.out⟩, hc⟩

theorem isEmpty_eq (s : ByteArray) : s.toList.isEmpty = decide (s.size = 0) := by
  have h : s.data.toList.length = s.size := by rw [Array.length_toList]; rfl
  rw [ByteArray.toList_eq]
  cases hl : s.data.toList with
  | nil => rw [hl] at h; simp at h; simp [← h]
  | cons a t => rw [hl] at h; simp only [List.length_cons] at h; simp only [List.isEmpty_cons]; symm; rw [decide_eq_false_iff_not]; omega
theorem toList_nil_iff (s : ByteArray) : s.toList = [] ↔ s.size = 0 := by
  rw [← List.isEmpty_iff, isEmpty_eq]; simp

theorem value_any (s : ByteArray) (w : World) (hs : s.size ≤ 9223372036854775807) :
    Calls Tryz.prog 124 #[.string s] w fun e w' => e = .returned (.bool (valueB s)) ∧ Chg No w w' := by
  by_cases h1 : 1 ≤ s.size
  · have he : s.toList.isEmpty = false := by rw [isEmpty_eq, decide_eq_false_iff_not]; omega
    have he' : (s.toList = []) ↔ False := by rw [toList_nil_iff, iff_false]; omega
    by_cases h2 : s.size ≤ 15
    · have hv : valueB s = decide (∀ i, i < s.size → insideB ((s.get! i).toNat : Int) = true) := by unfold valueB; rw [Bool.eq_iff_iff, decide_eq_true_iff, decide_eq_true_iff]; exact ⟨fun h => h.2.2, fun h => ⟨h1, h2, h⟩⟩
      have HV := Go.Lib.hid hv; clear hv
      go_enter Tryz.func124, Tryz.ntmps124
      go_wp2_with fail
      refine (IndexFunc_any s w hs).mono ?_
      rintro e w' ⟨⟨r, rfl, hr⟩, hc⟩
      have HR := Go.Lib.hid hr; clear hr
      go_wp2
      all_goals (go_ret; rw [HV.out]; refine ⟨?_, hc⟩; rw [← decide_eq_decide.2 HR.out]; rfl)
    · have hv : valueB s = false := by unfold valueB; rw [decide_eq_false_iff_not]; omega
      have HV := Go.Lib.hid hv; clear hv
      go_enter Tryz.func124, Tryz.ntmps124
      go_wp2_with fail
      all_goals (go_ret; rw [HV.out]; exact ⟨rfl, Chg.refl _ _⟩)
  · have he : s.toList.isEmpty = true := by rw [isEmpty_eq, decide_eq_true_iff]; omega
    have he' : s.toList = [] := by rw [toList_nil_iff]; omega
    have hv : valueB s = false := by unfold valueB; rw [decide_eq_false_iff_not]; omega
    have HV := Go.Lib.hid hv; clear hv
    go_enter Tryz.func124, Tryz.ntmps124
    go_wp2_with fail
    all_goals (go_ret; rw [HV.out]; exact ⟨rfl, Chg.refl _ _⟩)

theorem name_any (s : ByteArray) (w : World) (hs : s.size ≤ 9223372036854775807) : Calls Tryz.prog 92 #[.string s] w fun e w' => e = .returned (.bool (nameB s)) ∧ Chg No w w' := by
  have h0 := value_any s w hs
  cases hv : valueB s with
  | false =>
    rw [hv] at h0
    have HV := Go.Lib.hid hv; clear hv
    go_enter Tryz.func92, Tryz.ntmps92
    go_wp2_with (go_at_call 124; refine h0.mono ?_; rintro e w' ⟨rfl, hc⟩)
    go_ret
    exact ⟨by simp [nameB, HV.out], hc⟩
  | true =>
    rw [hv] at h0
    have HV := Go.Lib.hid hv
    have hz : 0 < s.size := by unfold valueB at hv; simp at hv; omega
    have hgk : s[0] = s.get! 0 := (byteAt s 0 hz).symm
    clear hv
    have hb := (s.get! 0).toNat_lt
    have hw : IntKind.i32.wrap ((s.get! 0).toNat : Int) = ((s.get! 0).toNat : Int) := by rw [IntKind.wrap_i32]; omega
    go_enter Tryz.func92, Tryz.ntmps92
    go_wp2_with (go_at_call 124; refine h0.mono ?_; rintro e w' ⟨rfl, hc⟩)
    try rw [hgk]
    try rw [hw]
    refine (small_any _ _).mono ?_
    rintro e w'' ⟨rfl, rfl⟩
    go_wp2
    go_ret
    exact ⟨by simp [nameB, HV.out], hc⟩
end Go.Proofs.YtipacbaapkdnaaaGreat
