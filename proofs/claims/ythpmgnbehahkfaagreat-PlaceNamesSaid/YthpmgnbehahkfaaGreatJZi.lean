/- Labels and terms as data: Check, CheckBears, CheckTerms. -/
import Derived.Test.YthpmgnbehahkfaaGreatJZh
set_option linter.unusedSimpArgs false
set_option linter.unusedVariables false
namespace Go.Proofs.YthpmgnbehahkfaaGreat
open Go.RowKit Go.Dk

/-- a list as data -/
def TermD.cells (t : TermD) : List Value := [.int .i64 t.kind, .string t.key, .string t.val]
def TermD.ok (l : TermD) : Prop := l.key.size ≤ 9223372036854775807 ∧ l.val.size ≤ 9223372036854775807

def LabsAt (w : World) (v : Value) (l : Lst LabD) : Prop := ∃ a c, v = .slice a l.n c ∧ Sl w a l.n c 2 (fun k => (l.el k).cells) ∧ ∀ k, k < l.n → (l.el k).ok
def TermsAt (w : World) (v : Value) (l : Lst TermD) : Prop := ∃ a c, v = .slice a l.n c ∧ Sl w a l.n c 3 (fun k => (l.el k).cells) ∧ ∀ k, k < l.n → (l.el k).ok
theorem LabsAt.no {w w' : World} {v : Value} {l : Lst LabD} (h : LabsAt w v l) (hc : Chg No w w') : LabsAt w' v l := by
  obtain ⟨a, c, e, hs, ho⟩ := h
  exact ⟨a, c, e, hs.no hc, ho⟩
theorem TermsAt.no {w w' : World} {v : Value} {l : Lst TermD} (h : TermsAt w v l) (hc : Chg No w w') : TermsAt w' v l := by
  obtain ⟨a, c, e, hs, ho⟩ := h
  exact ⟨a, c, e, hs.no hc, ho⟩
def labsE (star : Bool) (l : Lst LabD) : Int := labE star l.el l.n

theorem enters_value : Enters Tryz.prog 216 := enters_of Tryz.func216 (by kernel_rfl) rfl
theorem enters_star : Enters Tryz.prog 227 := enters_of Tryz.func227 (by kernel_rfl) rfl
theorem enters_byKey : Enters Tryz.prog 224 := enters_of Tryz.func224 (by kernel_rfl) rfl
theorem enters_byBoth : Enters Tryz.prog 228 := enters_of Tryz.func228 (by kernel_rfl) rfl

theorem labCheck_any {w : World} {v : Value} {l : Lst LabD} (h : LabsAt w v l) : Gives 193 #[v] w (.int .i64 (labsE false l)) := by
  obtain ⟨a, c, rfl, hs, ho⟩ := h
  have p1 := check_any false _ _ enters_value enters_byKey (fun s w hs => by rw [show starB false s = valueB s by simp [starB]]; exact value_any s w hs) byKey_gives l.el a l.n c w hs ho
  clear hs ho
  unfold Gives labsE at *
  generalize labE false l.el l.n = r at *
  go_enter Tryz.func193, Tryz.ntmps193
  go_wp2_with (go_at_call 223; refine p1.mono ?_; rintro e w' ⟨rfl, hc'⟩)
  go_ret
  exact ⟨rfl, hc'⟩
theorem labCheckBears_any {w : World} {v : Value} {l : Lst LabD} (h : LabsAt w v l) : Gives 197 #[v] w (.int .i64 (labsE true l)) := by
  obtain ⟨a, c, rfl, hs, ho⟩ := h
  have p1 := check_any true _ _ enters_star enters_byBoth (fun s w hs => star_any s w hs) byBoth_any l.el a l.n c w hs ho
  clear hs ho
  unfold Gives labsE at *
  generalize labE true l.el l.n = r at *
  go_enter Tryz.func197, Tryz.ntmps197
  go_wp2_with (go_at_call 223; refine p1.mono ?_; rintro e w' ⟨rfl, hc'⟩)
  go_ret
  exact ⟨rfl, hc'⟩
theorem refLabCheck_any {w : World} {v : Value} {l : Lst LabD} (h : LabsAt w v l) : Gives 233 #[v] w (.int .i64 (labsE false l)) := by
  obtain ⟨a, c, rfl, hs, ho⟩ := h
  exact refCheck_any l.el a l.n c w hs ho
theorem refLabCheckBears_any {w : World} {v : Value} {l : Lst LabD} (h : LabsAt w v l) : Gives 236 #[v] w (.int .i64 (labsE true l)) := by
  obtain ⟨a, c, rfl, hs, ho⟩ := h
  exact refCheckBears_any l.el a l.n c w hs ho

def termB (t : TermD) : Bool := decide (¬ t.kind < 1) && decide (¬ 4 < t.kind) && nameB t.key && (if t.kind = 1 ∨ t.kind = 2 then valueB t.val else t.val.toList.isEmpty)
def termsE (l : Lst TermD) : Int := if l.n ≤ 6 ∧ ∀ k, k < l.n → termB (l.el k) = true then 0 else 2
theorem termsE_bad {l : Lst TermD} {k : Nat} (hk : k < l.n) (h : termB (l.el k) = false) : termsE l = 2 := by
  unfold termsE; rw [if_neg]; intro h2; rw [h2.2 k hk] at h; cases h
theorem termsE_ok {l : Lst TermD} (h6 : l.n ≤ 6) (h : ∀ k, k < l.n → termB (l.el k) = true) : termsE l = 0 := by
  unfold termsE; rw [if_pos ⟨h6, h⟩]
theorem termsE_many {l : Lst TermD} (h6 : ¬ l.n ≤ 6) : termsE l = 2 := by
  unfold termsE; rw [if_neg (fun h => h6 h.1)]

theorem toList_of {s : ByteArray} {b : Bool} (h : s.toList.isEmpty = b) : (s.toList = []) ↔ b = true := by rw [← List.isEmpty_iff, h]
/-- the ways of a term -/
inductive TermWay (t : TermD) : Prop
  | low (h1 : t.kind < 1) (hb : termB t = false)
  | high (h1 : ¬ t.kind < 1) (h2 : 4 < t.kind) (hb : termB t = false)
  | key (h1 : ¬ t.kind < 1) (h2 : ¬ 4 < t.kind) (hn : nameB t.key = false) (hb : termB t = false)
  | noVal (h1 : ¬ t.kind < 1) (h2 : ¬ 4 < t.kind) (hn : nameB t.key = true) (hv : decide (t.kind = 1 ∨ t.kind = 2) = true) (hx : valueB t.val = false) (hb : termB t = false)
  | someVal (h1 : ¬ t.kind < 1) (h2 : ¬ 4 < t.kind) (hn : nameB t.key = true) (hv : decide (t.kind = 1 ∨ t.kind = 2) = false) (hx : valueB t.val = true) (he : t.val.toList.isEmpty = false) (hb : termB t = false)
  | odd (h1 : ¬ t.kind < 1) (h2 : ¬ 4 < t.kind) (hn : nameB t.key = true) (hv : decide (t.kind = 1 ∨ t.kind = 2) = false) (hx : valueB t.val = false) (he : t.val.toList.isEmpty = false) (hb : termB t = false)
  | good1 (h1 : ¬ t.kind < 1) (h2 : ¬ 4 < t.kind) (hn : nameB t.key = true) (hv : decide (t.kind = 1 ∨ t.kind = 2) = true) (hx : valueB t.val = true) (hb : termB t = true)
  | good2 (h1 : ¬ t.kind < 1) (h2 : ¬ 4 < t.kind) (hn : nameB t.key = true) (hv : decide (t.kind = 1 ∨ t.kind = 2) = false) (hx : valueB t.val = false) (he : t.val.toList.isEmpty = true) (hb : termB t = true)
theorem termWay (t : TermD) : TermWay t := by
  have hE : valueB t.val = true → t.val.toList.isEmpty = false := fun h => by
    rw [isEmpty_eq, decide_eq_false_iff_not]; unfold valueB at h; simp at h; omega
  by_cases h1 : t.kind < 1
  · exact .low h1 (by simp [termB, h1])
  by_cases h2 : 4 < t.kind
  · exact .high h1 h2 (by simp [termB, h2])
  cases hn : nameB t.key with
  | false => exact .key h1 h2 hn (by simp [termB, hn])
  | true =>
    by_cases hv : t.kind = 1 ∨ t.kind = 2
    · cases hx : valueB t.val with
      | false => exact .noVal h1 h2 hn (by simpa using hv) hx (by simp [termB, hv, hx])
      | true => exact .good1 h1 h2 hn (by simpa using hv) hx (by simp only [termB, hn, hx, if_pos hv, decide_eq_true h1, decide_eq_true h2, Bool.and_self])
    · cases hx : valueB t.val with
      | true => exact .someVal h1 h2 hn (by simpa using hv) hx (hE hx) (by simp [termB, hv, hE hx])
      | false =>
        cases he : t.val.toList.isEmpty with
        | false => exact .odd h1 h2 hn (by simpa using hv) hx he (by simp [termB, hv, he])
        | true => exact .good2 h1 h2 hn (by simpa using hv) hx he (by simp only [termB, hn, he, if_neg hv, decide_eq_true h1, decide_eq_true h2, Bool.and_self])

def TermRel (w : World) (l : Lst TermD) (i : Value) (wr : World) : Prop :=
  ∃ k : Nat, i = .int .i64 k ∧ k ≤ l.n ∧ (∀ j, j < k → termB (l.el j) = true) ∧ Chg No w wr

set_option maxRecDepth 100000 in
set_option maxHeartbeats 1000000 in
theorem refTerms_any {w : World} {v : Value} {l : Lst TermD} (h : TermsAt w v l) : Gives 235 #[v] w (.int .i64 (termsE l)) := by
  obtain ⟨a, c, rfl, hx, hok⟩ := h
  unfold Gives
  have hn := hx.1
  have hc' := hx.2.1
  by_cases h6 : l.n ≤ 6
  · go_enter Tryz.func235, Tryz.ntmps235
    go_wp2_with fail
    go_loopw [3] (fun i wr => TermRel w l i wr) (fun i _ => l.n - (intOf i).toNat)
    case atStart => exact ⟨0, rfl, by omega, (fun j hj => by omega), Chg.refl _ _⟩
    case round =>
      obtain ⟨k, rfl, hk, hall, hc⟩ := hrel
      by_cases hlt : k < l.n
      · obtain ⟨hl, b, o, rfl, hcell⟩ := (hx.no hc).2.2.2 k hlt
        have q0 := hcell 0 _ rfl
        have q1 := hcell 1 _ rfl
        have q2 := hcell 2 _ rfl
        rw [Nat.add_zero] at q0
        clear hcell hl hx
        have hlt' : (k : Int) < (l.n : Int) := by omega
        obtain ⟨ok1, ok2⟩ := hok k hlt
        have hw := termWay (l.el k)
        have HB := Go.Lib.hid fun h => termsE_bad (l := l) hlt h
        obtain ⟨t, ht⟩ : ∃ t, t = l.el k := ⟨_, rfl⟩
        rw [← ht] at q0 q1 q2 ok1 ok2 hw HB
        have HT := Go.Lib.hid ht
        clear ht
        have p1 := fun W => refName_any t.key W ok1
        have p2 := fun W => refValue_any t.val W ok2
        have p3 := fun W => refValued_any t.kind W
        rcases hw with ⟨h1, hb⟩ | ⟨h1, h2, hb⟩ | ⟨h1, h2, hn1, hb⟩ | ⟨h1, h2, hn1, hv, hx, hb⟩ | ⟨h1, h2, hn1, hv, hx, he, hb⟩ | ⟨h1, h2, hn1, hv, hx, he, hb⟩ | ⟨h1, h2, hn1, hv, hx, hb⟩ | ⟨h1, h2, hn1, hv, hx, he, hb⟩
        all_goals
          (try rw [hn1] at p1)
          (try rw [hv] at p3)
          (try rw [hx] at p2)
          have G := Go.Lib.hid hb
          clear hb
          (try clear hn1)
          (try clear hv)
          (try clear hx)
          (try have he' := toList_of he)
          have hcw := hc.alloc (.cells #[.int .i64 t.kind, .string t.key, .string t.val] 155)
          go_wp2_with (first | (go_at_call 117; refine (p1 _).mono ?_; rintro e w' ⟨rfl, rfl⟩) | (go_at_call 173; refine (p2 _).mono ?_; rintro e w' ⟨rfl, rfl⟩) | (go_at_call 255; refine (p3 _).mono ?_; rintro e w' ⟨rfl, rfl⟩))
          first
            | (go_ret; rw [HB.out G.out]; exact ⟨rfl, hcw⟩)
            | (go_roundw
               case rel => exact ⟨k + 1, by go_num, by omega, (fun j hj => by rcases Nat.lt_or_eq_of_le (Nat.le_of_lt_succ hj) with h | h; exact hall j h; subst h; rw [← HT.out]; exact G.out), hcw⟩
               case measure => simp [intOf]; omega)
      · obtain rfl : k = l.n := by omega
        have he := termsE_ok h6 hall
        have HE := Go.Lib.hid he; clear he
        go_wp2_with fail
        go_ret
        rw [HE.out]
        exact ⟨rfl, hc⟩
  · have HE := Go.Lib.hid (termsE_many h6)
    go_enter Tryz.func235, Tryz.ntmps235
    go_wp2_with fail
    go_ret
    exact ⟨by rw [HE.out]; rfl, Chg.refl _ _⟩

set_option maxRecDepth 100000 in
set_option maxHeartbeats 1000000 in
theorem terms_any {w : World} {v : Value} {l : Lst TermD} (h : TermsAt w v l) : Gives 196 #[v] w (.int .i64 (termsE l)) := by
  obtain ⟨a, c, rfl, hx, hok⟩ := h
  unfold Gives
  have hn := hx.1
  have hc' := hx.2.1
  go_enter Tryz.func196, Tryz.ntmps196
  go_wp2_with fail
  go_loopw [7] (fun i wr => TermRel w l i wr) (fun i _ => l.n - (intOf i).toNat)
  case atStart => exact ⟨0, rfl, by omega, (fun j hj => by omega), Chg.refl _ _⟩
  case round =>
      obtain ⟨k, rfl, hk, hall, hc⟩ := hrel
      by_cases hlt : k < l.n
      · obtain ⟨hl, b, o, rfl, hcell⟩ := (hx.no hc).2.2.2 k hlt
        have q0 := hcell 0 _ rfl
        have q1 := hcell 1 _ rfl
        have q2 := hcell 2 _ rfl
        rw [Nat.add_zero] at q0
        clear hcell hl hx
        have hlt' : (k : Int) < (l.n : Int) := by omega
        obtain ⟨ok1, ok2⟩ := hok k hlt
        have hw := termWay (l.el k)
        have HB := Go.Lib.hid fun h => termsE_bad (l := l) hlt h
        obtain ⟨t, ht⟩ : ∃ t, t = l.el k := ⟨_, rfl⟩
        rw [← ht] at q0 q1 q2 ok1 ok2 hw HB
        have HT := Go.Lib.hid ht
        clear ht
        have p1 := fun W => name_any t.key W ok1
        have p2 := fun W => value_any t.val W ok2
        have p3 := fun W => valued_any t.kind W
        rcases hw with ⟨h1, hb⟩ | ⟨h1, h2, hb⟩ | ⟨h1, h2, hn1, hb⟩ | ⟨h1, h2, hn1, hv, hx, hb⟩ | ⟨h1, h2, hn1, hv, hx, he, hb⟩ | ⟨h1, h2, hn1, hv, hx, he, hb⟩ | ⟨h1, h2, hn1, hv, hx, hb⟩ | ⟨h1, h2, hn1, hv, hx, he, hb⟩
        all_goals
          (try rw [hn1] at p1)
          (try rw [hv] at p3)
          (try rw [hx] at p2)
          have G := Go.Lib.hid hb
          clear hb
          (try clear hn1)
          (try clear hv)
          (try clear hx)
          (try have he' := toList_of he)
          have hA := heap_alloc_new wr (.cells #[.int .i64 t.kind, .string t.key, .string t.val] 155)
          have hcw := hc.alloc (.cells #[.int .i64 t.kind, .string t.key, .string t.val] 155)
          go_wp2_with fail
          generalize wr.alloc _ = W at hA hcw ⊢
          generalize wr.heap.size = B at hA ⊢
          have s0 := fun x : Wd No W => x.chg.cell (cell_of_heap (j := 0) hA rfl) id
          have s1 := fun x : Wd No W => x.chg.cell (cell_of_heap (j := 1) hA rfl) id
          have s2 := fun x : Wd No W => x.chg.cell (cell_of_heap (j := 2) hA rfl) id
          refine wp_region_wd (S := No) (by kernel_rfl) (by kernel_rfl) ?_
          repeat (refine WQ.step (fun K hK => ?_); go_simp; first | (refine hK _ ?_; clear hK K) | (apply Exists.intro; refine ⟨fun _ => ?_, hK _ ?_⟩; (first | (go_at_call 172; exact wd_calls (p1 _)) | (go_at_call 216; exact wd_calls (p2 _)) | (go_at_call 225; exact wd_same (p3 _))); clear hK K))
          refine WQ.nil ?_
          rintro _ ⟨x, rfl⟩
          go_wp2_with fail
          first
            | (go_ret; rw [HB.out G.out]; exact ⟨rfl, hcw.trans x.chg⟩)
            | (go_roundw
               case rel => exact ⟨k + 1, by go_num, by omega, (fun j hj => by rcases Nat.lt_or_eq_of_le (Nat.le_of_lt_succ hj) with h | h; exact hall j h; subst h; rw [← HT.out]; exact G.out), hcw.trans x.chg⟩
               case measure => simp [intOf]; omega)
      · obtain rfl : k = l.n := by omega
        by_cases h6 : l.n ≤ 6
        · have he := termsE_ok h6 hall
          have HE := Go.Lib.hid he; clear he
          go_wp2_with (go_at_call 226; refine (arg_any _ _).mono ?_; rintro e w' ⟨rfl, rfl⟩)
          go_ret
          rw [HE.out]
          exact ⟨rfl, hc⟩
        · have he := termsE_many h6
          have HE := Go.Lib.hid he; clear he
          go_wp2_with (go_at_call 226; refine (arg_any _ _).mono ?_; rintro e w' ⟨rfl, rfl⟩)
          go_ret
          rw [HE.out]
          exact ⟨rfl, hc⟩
end Go.Proofs.YthpmgnbehahkfaaGreat
