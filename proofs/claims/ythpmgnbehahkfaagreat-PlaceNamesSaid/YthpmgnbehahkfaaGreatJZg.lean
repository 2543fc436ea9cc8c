/- label.Check, CheckBears, CheckTerms and the reference's. -/
import Derived.Test.YthpmgnbehahkfaaGreatJZf
import Derived.Lib.Bytealg
set_option linter.unusedSimpArgs false
set_option linter.unusedVariables false
namespace Go.Proofs.YthpmgnbehahkfaaGreat
open Go.RowKit Go.Dk

set_option maxRecDepth 100000 in
theorem compareString_any (a b : ByteArray) (w : World) : Calls Tryz.prog 266 #[.string a, .string b] w fun e w' => e = .returned (.int .i64 (Lib.compareBytes a.toList b.toList)) ∧ w = w' := by
  go_enter Tryz.func266, Tryz.ntmps266
  go_wp2
  rw [run_callFunc_extern Tryz.func267 (by kernel_rfl) (by kernel_rfl) (by kernel_rfl) (e := Extern.BytealgCompare.compare) (by kernel_rfl), Lib.run_compareString]
  simp only [Result.andThen]
  rw [Oper.upon_value]
  go_wp2
  go_ret
  simp [ByteArray.toList_eq]

theorem compareStr_any (a b : ByteArray) (w : World) : Calls Tryz.prog 263 #[.string a, .string b] w fun e w' => e = .returned (.int .i64 (Lib.compareBytes a.toList b.toList)) ∧ w = w' := by
  go_enter Tryz.func263, Tryz.ntmps263
  go_wp2_with (go_at_call 266; refine (compareString_any _ _ _).mono ?_; rintro e w' ⟨rfl, rfl⟩)
  go_ret
  exact ⟨rfl, rfl⟩

def OrRel (w : World) (x y : Int) (i : Value) (wr : World) : Prop := ∃ k : Nat, i = .int .i64 k ∧ k ≤ 2 ∧ (0 < k → x = 0) ∧ (1 < k → y = 0) ∧ w = wr
theorem cmpOr_any (x y : Int) (b : Nat) (w : World) (h0 : w.cell? ⟨b, 0, none⟩ = some (.int .i64 x)) (h1 : w.cell? ⟨b, 1, none⟩ = some (.int .i64 y)) :
    Calls Tryz.prog 262 #[.slice (some ⟨b, 0, none⟩) 2 2] w fun e w' => e = .returned (.int .i64 (if x = 0 then y else x)) ∧ w = w' := by
  go_enter Tryz.func262, Tryz.ntmps262
  go_wp2_with fail
  go_loopw [8] (fun i wr => OrRel w x y i wr) (fun i _ => 2 - (intOf i).toNat)
  case atStart => exact ⟨0, rfl, by omega, by omega, by omega, rfl⟩
  case round =>
    obtain ⟨k, rfl, hk, hx, hy, rfl⟩ := hrel
    match k, hk with
    | 0, _ =>
      by_cases hx0 : x = 0
      · go_wp2_with fail
        go_roundw
        case rel => exact ⟨1, by go_num, by omega, fun _ => hx0, by omega, rfl⟩
        case measure => simp [intOf]
      · go_wp2_with fail
        go_ret
        simp [hx0]
    | 1, _ =>
      have hx0 := hx (by omega)
      clear hx
      by_cases hy0 : y = 0
      · go_wp2_with fail
        go_roundw
        case rel => exact ⟨2, by go_num, by omega, fun _ => hx0, fun _ => hy0, rfl⟩
        case measure => simp [intOf]
      · go_wp2_with fail
        go_ret
        simp [hx0]
    | 2, _ =>
      have hx0 := hx (by omega)
      have hy0 := hy (by omega)
      clear hx hy
      go_wp2_with fail
      go_ret
      simp [hx0, hy0]

theorem less_cmp : ∀ a b : List UInt8, decide (Lib.compareBytes a b < 0) = Op.bytesLess a b ∧ (Lib.compareBytes a b = 0 ↔ a = b)
  | [], [] => by simp [Lib.compareBytes, Op.bytesLess]
  | [], _ :: _ => by simp [Lib.compareBytes, Op.bytesLess]
  | _ :: _, [] => by simp [Lib.compareBytes, Op.bytesLess]
  | x :: a, y :: b => by
    have ih := less_cmp a b
    unfold Lib.compareBytes Op.bytesLess
    by_cases h1 : x < y
    · have : x ≠ y := fun e => by subst e; exact absurd h1 (UInt8.lt_irrefl _)
      simp [h1, this]
    · by_cases h2 : y < x
      · have : x ≠ y := fun e => by subst e; exact absurd h2 (UInt8.lt_irrefl _)
        simp [h1, h2, this]
      · have : x = y := UInt8.le_antisymm (UInt8.not_lt.1 h2) (UInt8.not_lt.1 h1)
        subst this
        simp [ih.1, ih.2]

def cmpLab (k1 v1 k2 v2 : ByteArray) : Int := if Lib.compareBytes k1.toList k2.toList = 0 then Lib.compareBytes v1.toList v2.toList else Lib.compareBytes k1.toList k2.toList
theorem cmpLab_rises (k1 v1 k2 v2 : ByteArray) : decide (cmpLab k1 v1 k2 v2 < 0) = risesB true k1 v1 k2 v2 := by
  unfold cmpLab risesB
  have h1 := less_cmp k1.toList k2.toList
  have h2 := less_cmp v1.toList v2.toList
  rw [← h1.1, ← h2.1]
  by_cases h : Lib.compareBytes k1.toList k2.toList = 0
  · have e := h1.2.1 h
    rw [if_pos h, e]
    rw [e] at h
    simp [h]
  · have : ¬ (k1.toList = k2.toList) := fun e => h (h1.2.2 e)
    simp [h, this]

theorem compare_any (k1 v1 k2 v2 : ByteArray) (w : World) : Gives 252 #[labV k1 v1, labV k2 v2] w (.int .i64 (cmpLab k1 v1 k2 v2)) := by
  unfold Gives labV
  have hA1 := heap_alloc_old' (heap_alloc_new w (.cells #[.string k1, .string v1] 148)) (o' := .cells #[.string k2, .string v2] 148)
  have hA2 := heap_alloc_new (w.alloc (.cells #[.string k1, .string v1] 148)) (.cells #[.string k2, .string v2] 148)
  have hc := ((Chg.refl No w).alloc (.cells #[.string k1, .string v1] 148)).alloc (.cells #[.string k2, .string v2] 148)
  simp only [World.size_alloc] at hA2
  go_enter Tryz.func252, Tryz.ntmps252
  go_wp2_with fail
  generalize (w.alloc _).alloc _ = W at hA1 hA2 hc ⊢
  have q0 := cell_of_heap (j := 0) hA1 rfl
  have q1 := cell_of_heap (j := 1) hA1 rfl
  have q2 := cell_of_heap (j := 0) hA2 rfl
  have q3 := cell_of_heap (j := 1) hA2 rfl
  generalize w.heap.size = B at *
  have p4 : Calls Tryz.prog 262 #[.slice (some ⟨W.heap.size, 0, none⟩) 2 2] ((W.alloc (.cells #[.int .i64 (Lib.compareBytes k1.toList k2.toList), .int .i64 (Lib.compareBytes v1.toList v2.toList)] 3)).drew) fun e w' => e = .returned (.int .i64 (cmpLab k1 v1 k2 v2)) ∧ (W.alloc (.cells #[.int .i64 (Lib.compareBytes k1.toList k2.toList), .int .i64 (Lib.compareBytes v1.toList v2.toList)] 3)).drew = w' := cmpOr_any _ _ W.heap.size _ (cell_of_heap (j := 0) (heap_alloc_new W _) rfl) (cell_of_heap (j := 1) (heap_alloc_new W _) rfl)
  go_region_held3 (fun w' => w'.cell? ⟨B, 0, none⟩ = some (.string k1) ∧ w'.cell? ⟨B, 1, none⟩ = some (.string v1) ∧ w'.cell? ⟨B + 1, 0, none⟩ = some (.string k2) ∧ w'.cell? ⟨B + 1, 1, none⟩ = some (.string v2)) (first | exact ⟨q0, q1, q2, q3⟩ | assumption | go_keep) ((first | (go_at_call 263; refine (compareStr_any _ _ _).mono ?_; rintro e w' ⟨rfl, rfl⟩) | (go_at_call 262; refine p4.mono ?_; rintro e w' ⟨rfl, rfl⟩)))
  go_wp2_with fail
  go_ret
  exact ⟨rfl, (hc.alloc _).drew⟩

theorem byBoth_any (k1 v1 k2 v2 : ByteArray) (w : World) : Gives 228 #[labV k1 v1, labV k2 v2] w (.bool (risesB true k1 v1 k2 v2)) := by
  have p1 := fun W => compare_any k1 v1 k2 v2 W
  have hr := cmpLab_rises k1 v1 k2 v2
  unfold Gives labV at *
  have hc := ((Chg.refl No w).alloc (.cells #[.string k1, .string v1] 148)).alloc (.cells #[.string k2, .string v2] 148)
  generalize cmpLab k1 v1 k2 v2 = r at *
  have HR := Go.Lib.hid hr; clear hr
  go_enter Tryz.func228, Tryz.ntmps228
  go_wp2_with (go_at_call 252; refine (p1 _).mono ?_; rintro e w' ⟨rfl, hc'⟩)
  go_ret
  rw [← HR.out]
  exact ⟨rfl, hc.trans hc'⟩

theorem byKey_gives (k1 v1 k2 v2 : ByteArray) (w : World) : Gives 224 #[labV k1 v1, labV k2 v2] w (.bool (risesB false k1 v1 k2 v2)) := by
  have h := byKey_any k1 v1 k2 v2 w
  simpa [risesB, labV] using h

theorem star_any (s : ByteArray) (w : World) (hs : s.size ≤ 9223372036854775807) : Gives 227 #[.string s] w (.bool (starB true s)) := by
  have p1 := value_any s w hs
  unfold Gives starB
  cases h : (s.toList == [42])
  all_goals
    go_enter Tryz.func227, Tryz.ntmps227
    go_wp2_with (go_at_call 216; refine p1.mono ?_; rintro e w' ⟨rfl, hc'⟩)
    go_ret
    first | exact ⟨by simp, hc'⟩ | exact ⟨by simp, Chg.refl _ _⟩

theorem arg_any (b : Bool) (w : World) : Calls Tryz.prog 226 #[.bool b] w fun e w' => e = .returned (.int .i64 (if b then 0 else 2)) ∧ w = w' := by
  cases b
  all_goals
    go_enter Tryz.func226, Tryz.ntmps226
    go_wp2
    go_ret
    exact ⟨rfl, rfl⟩
theorem valued_any (n : Int) (w : World) : Calls Tryz.prog 225 #[.int .i64 n] w fun e w' => e = .returned (.bool (decide (n = 1 ∨ n = 2))) ∧ w = w' := by
  go_enter Tryz.func225, Tryz.ntmps225
  go_wp2
  all_goals (go_ret; (first | simp_all | skip) <;> (rw [Bool.eq_iff_iff]; simp_all))
theorem refValued_any (n : Int) (w : World) : Calls Tryz.prog 255 #[.int .i64 n] w fun e w' => e = .returned (.bool (decide (n = 1 ∨ n = 2))) ∧ w = w' := by
  go_enter Tryz.func255, Tryz.ntmps255
  go_wp2
  all_goals (go_ret; (first | simp_all | skip) <;> (rw [Bool.eq_iff_iff]; simp_all))
theorem refCheck_any (f : Nat → LabD) (a : Option Addr) (n c : Nat) (w : World) (hx : Sl w a n c 2 (fun k => (f k).cells)) (hok : ∀ k, k < n → (f k).ok) :
    Gives 233 #[.slice a n c] w (.int .i64 (labE false f n)) := by
  have p1 := refRow_any false f a n c w hx hok
  clear hx hok
  unfold Gives at *
  generalize labE false f n = r at *
  go_enter Tryz.func233, Tryz.ntmps233
  go_wp2_with (go_at_call 254; refine p1.mono ?_; rintro e w' ⟨rfl, hc'⟩)
  go_ret
  exact ⟨rfl, hc'⟩
theorem refCheckBears_any (f : Nat → LabD) (a : Option Addr) (n c : Nat) (w : World) (hx : Sl w a n c 2 (fun k => (f k).cells)) (hok : ∀ k, k < n → (f k).ok) :
    Gives 236 #[.slice a n c] w (.int .i64 (labE true f n)) := by
  have p1 := refRow_any true f a n c w hx hok
  clear hx hok
  unfold Gives at *
  generalize labE true f n = r at *
  go_enter Tryz.func236, Tryz.ntmps236
  go_wp2_with (go_at_call 254; refine p1.mono ?_; rintro e w' ⟨rfl, hc'⟩)
  go_ret
  exact ⟨rfl, hc'⟩
end Go.Proofs.YthpmgnbehahkfaaGreat
