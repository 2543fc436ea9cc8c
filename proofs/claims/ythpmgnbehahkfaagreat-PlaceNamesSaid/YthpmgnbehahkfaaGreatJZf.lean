/- Labels. -/
import Derived.Test.YthpmgnbehahkfaaGreatJD0
import Derived.Test.YthpmgnbehahkfaaGreatJQh
import Derived.Test.YthpmgnbehahkfaaGreatJZs
set_option linter.unusedSimpArgs false
set_option linter.unusedVariables false
namespace Go.Proofs.YthpmgnbehahkfaaGreat
open Go.RowKit Go.Dk

def labV (k v : ByteArray) : Value := .agg #[.string k, .string v]
def risesB (star : Bool) (k1 v1 k2 v2 : ByteArray) : Bool := Op.bytesLess k1.toList k2.toList || (star && k1.toList == k2.toList && Op.bytesLess v1.toList v2.toList)

theorem rises_any (k1 v1 k2 v2 : ByteArray) (star : Bool) (w : World) : Gives 264 #[labV k1 v1, labV k2 v2, .bool star] w (.bool (risesB star k1 v1 k2 v2)) := by
  unfold Gives labV risesB
  cases h1 : Op.bytesLess k1.toList k2.toList <;> cases star <;> cases h2 : (k1.toList == k2.toList)
  all_goals
    go_enter Tryz.func264, Tryz.ntmps264
    go_wp2
    go_ret
    exact ⟨by simp_all, ((Chg.refl No w).alloc _).alloc _⟩

def LabD.cells (l : LabD) : List Value := [.string l.key, .string l.val]
def LabD.ok (l : LabD) : Prop := l.key.size ≤ 9223372036854775807 ∧ l.val.size ≤ 9223372036854775807

/-- may a label stand at the place k -/
def starB (star : Bool) (s : ByteArray) : Bool := valueB s || (star && s.toList == [42])
def labB (star : Bool) (f : Nat → LabD) (k : Nat) : Bool :=
  nameB (f k).key && starB star (f k).val && (k == 0 || risesB star (f (k - 1)).key (f (k - 1)).val (f k).key (f k).val)
/-- may labels be: the error's number -/
def labE (star : Bool) (f : Nat → LabD) (n : Nat) : Int := if n ≤ 6 ∧ ∀ k, k < n → labB star f k = true then 0 else 2

theorem labE_bad {star : Bool} {f : Nat → LabD} {n k : Nat} (hk : k < n) (h : labB star f k = false) : labE star f n = 2 := by
  unfold labE; rw [if_neg]; intro h2; rw [h2.2 k hk] at h; cases h
theorem labE_ok {star : Bool} {f : Nat → LabD} {n : Nat} (h6 : n ≤ 6) (h : ∀ k, k < n → labB star f k = true) : labE star f n = 0 := by
  unfold labE; rw [if_pos ⟨h6, h⟩]

def LabRel (w : World) (star : Bool) (f : Nat → LabD) (n : Nat) (i : Value) (wr : World) : Prop :=
  ∃ k : Nat, i = .int .i64 k ∧ k ≤ n ∧ (∀ j, j < k → labB star f j = true) ∧ Chg No w wr

set_option maxRecDepth 100000 in
set_option maxHeartbeats 4000000 in
theorem refRow_any (star : Bool) (f : Nat → LabD) (a : Option Addr) (n c : Nat) (w : World) (hx : Sl w a n c 2 (fun k => (f k).cells)) (hok : ∀ k, k < n → (f k).ok) :
    Gives 254 #[.slice a n c, .bool star] w (.int .i64 (labE star f n)) := by
  unfold Gives
  have hn := hx.1
  have hc' := hx.2.1
  by_cases h6 : n ≤ 6
  · go_enter Tryz.func254, Tryz.ntmps254
    go_wp2_with fail
    go_loopw [5] (fun i wr => LabRel w star f n i wr) (fun i _ => n - (intOf i).toNat)
    case atStart => exact ⟨0, rfl, by omega, (fun j hj => by omega), Chg.refl _ _⟩
    case round =>
      obtain ⟨k, rfl, hk, hall, hc⟩ := hrel
      by_cases hlt : k < n
      · obtain ⟨hl, b, o, rfl, hcell⟩ := (hx.no hc).2.2.2 k hlt
        have q0 := hcell 0 (.string (f k).key) rfl
        have q1 := hcell 1 (.string (f k).val) rfl
        rw [Nat.add_zero] at q0
        have HX := Go.Lib.hid hx
        clear hcell hl hx
        have hlt' : (k : Int) < (n : Int) := by omega
        obtain ⟨ok1, ok2⟩ := hok k hlt
        have p1 := refName_any (f k).key wr ok1
        have p2 := refValue_any (f k).val wr ok2
        cases h1 : nameB (f k).key with
        | false =>
          rw [h1] at p1
          have H1 := Go.Lib.hid h1; clear h1
          go_wp2_with (go_at_call 117; refine p1.mono ?_; rintro e w' ⟨rfl, rfl⟩)
          go_ret
          rw [labE_bad hlt (by simp [labB, H1.out])]
          exact ⟨rfl, hc⟩
        | true =>
          rw [h1] at p1
          have H1 := Go.Lib.hid h1; clear h1
          cases h2 : starB star (f k).val with
          | false =>
            have hv : valueB (f k).val = false := by unfold starB at h2; simp at h2; exact h2.1
            have hs : star = true → ((f k).val.toList == [42]) = false := by intro e; subst e; unfold starB at h2; simp at h2; simp [h2.2]
            rw [hv] at p2
            have H2 := Go.Lib.hid h2; clear h2 hv
            cases star with
            | false =>
              clear hs
              go_wp2_with (first | (go_at_call 117; refine p1.mono ?_; rintro e w' ⟨rfl, rfl⟩) | (go_at_call 173; refine p2.mono ?_; rintro e w' ⟨rfl, rfl⟩))
              go_ret
              rw [labE_bad hlt (by simp [labB, H2.out])]
              exact ⟨rfl, hc⟩
            | true =>
              have hs' := hs rfl
              clear hs
              go_wp2_with (first | (go_at_call 117; refine p1.mono ?_; rintro e w' ⟨rfl, rfl⟩) | (go_at_call 173; refine p2.mono ?_; rintro e w' ⟨rfl, rfl⟩))
              go_ret
              rw [labE_bad hlt (by simp [labB, H2.out])]
              exact ⟨rfl, hc⟩
          | true =>
            have hcs : valueB (f k).val = true ∨ (valueB (f k).val = false ∧ star = true ∧ ((f k).val.toList == [42]) = true) := by
              unfold starB at h2
              cases hv : valueB (f k).val
              · rw [hv] at h2; simp at h2; right; exact ⟨rfl, h2.1, by simp [h2.2]⟩
              · left; rfl
            have H2 := Go.Lib.hid h2; clear h2
            by_cases hk0 : k = 0
            · have hall' : labB star f k = true := by subst hk0; simp [labB, H1.out, H2.out]
              have HG := Go.Lib.hid hall'; clear hall'
              have hkz : (0 < k) = False := by simp; omega
              clear hk0
              rcases hcs with hv | ⟨hv, rfl, h42⟩
              all_goals
                rw [hv] at p2
                clear hv
                go_wp2_with (first | (go_at_call 117; refine p1.mono ?_; rintro e w' ⟨rfl, rfl⟩) | (go_at_call 173; refine p2.mono ?_; rintro e w' ⟨rfl, rfl⟩))
                go_quiet (fail)
                go_wp2_with fail
                go_roundw
                case rel => exact ⟨k + 1, by go_num, by omega, (fun j hj => by rcases Nat.lt_or_eq_of_le (Nat.le_of_lt_succ hj) with h | h; exact hall j h; subst h; exact HG.out), hc.drewN nq⟩
                case measure => simp [intOf]; omega
            · obtain ⟨m, rfl⟩ : ∃ m, k = m + 1 := ⟨k - 1, by omega⟩
              obtain ⟨-, b', o', hb', hcell'⟩ := (HX.out.no hc).2.2.2 m (by omega)
              injection hb' with hb'
              injection hb' with e1 e2 _
              subst e1; subst e2
              have r0 := hcell' 0 (.string (f m).key) rfl
              have r1 := hcell' 1 (.string (f m).val) rfl
              rw [Nat.add_zero] at r0
              clear hcell'
              have hw1 : IntKind.i64.wrap (((m + 1 : Nat) : Int) - 1) = (m : Int) := by rw [IntWalk.i64_in _ (by omega)]; omega
              have p3 := fun W => rises_any (f m).key (f m).val (f (m + 1)).key (f (m + 1)).val star W
              have hkz : (0 < m + 1) = True := by simp
              have hw2 : IntKind.i64.wrap (m : Int) = (m : Int) := by rw [IntWalk.i64_in _ (by omega)]
              have hw3 : (m : Int) < (n : Int) := by omega
              have hw4 : (m : Int) + 1 < (n : Int) := by omega
              have hw5 : (0 : Int) ≤ (m : Int) := by omega
              have hw6 : (0 : Int) ≤ (m : Int) + 1 := by omega
              have hw7 : ((m : Int) + 1).toNat = m + 1 := by omega
              cases h3 : risesB star (f m).key (f m).val (f (m + 1)).key (f (m + 1)).val with
              | true =>
                have hall' : labB star f (m + 1) = true := by simp [labB, H1.out, H2.out, h3]
                have HG := Go.Lib.hid hall'; clear hall'
                rw [h3] at p3
                clear h3
                rcases hcs with hv | ⟨hv, rfl, h42⟩
                all_goals
                  rw [hv] at p2
                  clear hv
                  go_wp2_with (first | (go_at_call 117; refine p1.mono ?_; rintro e w' ⟨rfl, rfl⟩) | (go_at_call 173; refine p2.mono ?_; rintro e w' ⟨rfl, rfl⟩))
                  go_region_held3 (fun w' => w'.cell? ⟨b, o + (m + 1) * 2, none⟩ = some (.string (f (m + 1)).key) ∧ w'.cell? ⟨b, o + (m + 1) * 2 + 1, none⟩ = some (.string (f (m + 1)).val) ∧ w'.cell? ⟨b, o + m * 2, none⟩ = some (.string (f m).key) ∧ w'.cell? ⟨b, o + m * 2 + 1, none⟩ = some (.string (f m).val)) (first | (exact ⟨q0, q1, r0, r1⟩) | (exact ⟨hc3.cell q0 id, hc3.cell q1 id, hc3.cell r0 id, hc3.cell r1 id⟩) | go_keep) ((go_at_call 264; refine (p3 _).mono ?_; rintro e w3 ⟨rfl, hc3⟩))
                  go_wp2_with fail
                  go_roundw
                  case rel => exact ⟨m + 1 + 1, by go_num, by omega, (fun j hj => by rcases Nat.lt_or_eq_of_le (Nat.le_of_lt_succ hj) with h | h; exact hall j h; subst h; exact HG.out), hc.drew.trans hc3⟩
                  case measure => simp [intOf]; omega
              | false =>
                have hall' : labB star f (m + 1) = false := by simp [labB, h3]
                have HG := Go.Lib.hid hall'; clear hall'
                rw [h3] at p3
                clear h3
                rcases hcs with hv | ⟨hv, rfl, h42⟩
                all_goals
                  rw [hv] at p2
                  clear hv
                  go_wp2_with (first | (go_at_call 117; refine p1.mono ?_; rintro e w' ⟨rfl, rfl⟩) | (go_at_call 173; refine p2.mono ?_; rintro e w' ⟨rfl, rfl⟩))
                  go_region_held3 (fun w' => w'.cell? ⟨b, o + (m + 1) * 2, none⟩ = some (.string (f (m + 1)).key) ∧ w'.cell? ⟨b, o + (m + 1) * 2 + 1, none⟩ = some (.string (f (m + 1)).val) ∧ w'.cell? ⟨b, o + m * 2, none⟩ = some (.string (f m).key) ∧ w'.cell? ⟨b, o + m * 2 + 1, none⟩ = some (.string (f m).val)) (first | (exact ⟨q0, q1, r0, r1⟩) | (exact ⟨hc3.cell q0 id, hc3.cell q1 id, hc3.cell r0 id, hc3.cell r1 id⟩) | go_keep) ((go_at_call 264; refine (p3 _).mono ?_; rintro e w3 ⟨rfl, hc3⟩))
                  go_wp2_with fail
                  go_ret
                  rw [labE_bad hlt HG.out]
                  exact ⟨rfl, hc.drew.trans hc3⟩
      · obtain rfl : k = n := by omega
        have he := labE_ok h6 hall
        have HE := Go.Lib.hid he; clear he
        go_wp2_with fail
        go_ret
        rw [HE.out]
        exact ⟨rfl, hc⟩
  · have he : labE star f n = 2 := by unfold labE; rw [if_neg (fun h => h6 h.1)]
    have HE := Go.Lib.hid he; clear he
    go_enter Tryz.func254, Tryz.ntmps254
    go_wp2_with fail
    go_ret
    exact ⟨by rw [HE.out]; rfl, Chg.refl _ _⟩
end Go.Proofs.YthpmgnbehahkfaaGreat
