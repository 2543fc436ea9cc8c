/- Names that rise: slices.IsSorted, Clone, Compact; snap.rise. -/
/- slices.Compact; snap.rise, drayageref05.rise. -/
/- snap.rise, drayageref05.rise. -/
import Derived.Test.YthpmgnbehahkfaaGreatJZl
import Derived.Lib.SliceRun
import Derived.Laws.Cover1
set_option linter.unusedSimpArgs false
set_option linter.unusedVariables false
section
namespace Go.Proofs.YthpmgnbehahkfaaGreat
open Go.RowKit Go.Dk

theorem less_tri : ∀ a b : List UInt8, Op.bytesLess a b = false → a ≠ b → Op.bytesLess b a = true
  | [], [], _, h => absurd rfl h
  | [], _ :: _, h, _ => by simp [Op.bytesLess] at h
  | _ :: _, [], _, _ => by simp [Op.bytesLess]
  | x :: a, y :: b, h, hne => by
    have ih := less_tri a b
    unfold Op.bytesLess at h ⊢
    by_cases h1 : x < y
    · simp [h1] at h
    · by_cases h2 : y < x
      · simp [h2]
      · have e : x = y := UInt8.le_antisymm (UInt8.not_lt.1 h2) (UInt8.not_lt.1 h1)
        subst e
        simp at h hne ⊢
        exact ih h hne
theorem less_irr : ∀ a : List UInt8, Op.bytesLess a a = false
  | [] => rfl
  | x :: a => by simp [Op.bytesLess, less_irr a]
theorem less_asym : ∀ a b : List UInt8, Op.bytesLess a b = true → Op.bytesLess b a = false
  | [], [], h => by simp [Op.bytesLess] at h
  | [], _ :: _, _ => by simp [Op.bytesLess]
  | _ :: _, [], h => by simp [Op.bytesLess] at h
  | x :: a, y :: b, h => by
    have ih := less_asym a b
    unfold Op.bytesLess at h ⊢
    by_cases h1 : x < y
    · have h2 : ¬ y < x := fun h2 => absurd (UInt8.lt_trans h1 h2) (UInt8.lt_irrefl _)
      have h3 : y ≠ x := fun e => by subst e; exact absurd h1 (UInt8.lt_irrefl _)
      simp [h2, h3]
    · simp [h1] at h
      obtain ⟨e, h⟩ := h
      subst e
      simp [ih h]

/-- do names rise -/
def riseB (f : Nat → ByteArray) (n : Nat) : Bool := decide (∀ k, k < n → nameB (f k) = true ∧ (0 < k → Op.bytesLess (f (k - 1)).toList (f k).toList = true))

theorem isNaN_any (s : ByteArray) (w : World) : Calls Tryz.prog 251 #[.string s] w fun e w' => e = .returned (.bool false) ∧ w = w' := by
  go_enter Tryz.func251, Tryz.ntmps251
  go_wp2
  go_ret
  simp
theorem less_any (a b : ByteArray) (w : World) : Calls Tryz.prog 220 #[.string a, .string b] w fun e w' => e = .returned (.bool (Op.bytesLess a.toList b.toList)) ∧ w = w' := by
  generalize hr : Op.bytesLess a.toList b.toList = r
  go_enter Tryz.func220, Tryz.ntmps220
  go_wp2_with (go_at_call 251; refine (isNaN_any _ _).mono ?_; rintro e w' ⟨rfl, rfl⟩)
  go_ret
  exact ⟨rfl, rfl⟩

def SortRel (w : World) (f : Nat → ByteArray) (n : Nat) (i : Value) (wr : World) : Prop :=
  ∃ k : Nat, ((n = 0 ∧ k = 0 ∧ i = .int .i64 (-1)) ∨ (k < n ∧ i = .int .i64 k)) ∧ (∀ j, k < j → j < n → Op.bytesLess (f j).toList (f (j - 1)).toList = false) ∧ Chg No w wr
/-- is none ahead of the one ahead of it -/
def sortB (f : Nat → ByteArray) (n : Nat) : Bool := decide (∀ k, k < n → 0 < k → Op.bytesLess (f k).toList (f (k - 1)).toList = false)

set_option maxHeartbeats 1000000 in
theorem isSorted_any (f : Nat → ByteArray) (a : Option Addr) (n c : Nat) (w : World) (hx : Sl w a n c 1 (fun k => [.string (f k)])) :
    Gives 182 #[.slice a n c] w (.bool (sortB f n)) := by
  unfold Gives
  have hn := hx.1
  have hc' := hx.2.1
  have hw0 : IntKind.i64.wrap ((n : Int) - 1) = (n : Int) - 1 := IntWalk.i64_in _ (by omega)
  go_enter Tryz.func182, Tryz.ntmps182
  go_wp2_with fail
  go_loopw [3] (fun i wr => SortRel w f n i wr) (fun i _ => (intOf i).toNat)
  case atStart =>
    by_cases h0 : n = 0
    · subst h0; exact ⟨0, .inl ⟨rfl, rfl, rfl⟩, (fun j h1 h2 => by omega), Chg.refl _ _⟩
    · refine ⟨n - 1, .inr ⟨by omega, ?_⟩, (fun j h1 h2 => by omega), Chg.refl _ _⟩
      first | rfl | (congr 1; omega) | (rw [hw0]; congr 1; omega)
  case round =>
    obtain ⟨k, hcase, hall, hc⟩ := hrel
    rcases hcase with ⟨h0, rfl, rfl⟩ | ⟨hlt, rfl⟩
    · subst h0
      have hv : sortB f 0 = true := by unfold sortB; simp
      have HV := Go.Lib.hid hv; clear hv
      go_wp2_with fail
      go_ret
      rw [HV.out]; exact ⟨rfl, hc⟩
    · by_cases hk0 : k = 0
      · subst hk0
        have hv : sortB f n = true := by unfold sortB; rw [decide_eq_true_iff]; exact fun k h1 h2 => hall k h2 h1
        have HV := Go.Lib.hid hv; clear hv hall
        go_wp2_with fail
        go_ret
        rw [HV.out]; exact ⟨rfl, hc⟩
      · obtain ⟨m, rfl⟩ : ∃ m, k = m + 1 := ⟨k - 1, by omega⟩
        obtain ⟨-, b, o, rfl, hcell⟩ := (hx.no hc).2.2.2 (m + 1) hlt
        obtain ⟨-, b', o', hb', hcell'⟩ := (hx.no hc).2.2.2 m (by omega)
        injection hb' with hb'
        injection hb' with e1 e2 _
        subst e1; subst e2
        have q0 := hcell 0 (.string (f (m + 1))) rfl
        have r0 := hcell' 0 (.string (f m)) rfl
        rw [Nat.add_zero, Nat.mul_one] at q0 r0
        clear hcell hcell' hx
        have hw1 : IntKind.i64.wrap (((m + 1 : Nat) : Int) - 1) = (m : Int) := by rw [IntWalk.i64_in _ (by omega)]; omega
        have hkz : (0 < m + 1) = True := by simp
        have hw2 : IntKind.i64.wrap (m : Int) = (m : Int) := by rw [IntWalk.i64_in _ (by omega)]
        have hw3 : (m : Int) < (n : Int) := by omega
        have hw4 : (m : Int) + 1 < (n : Int) := by omega
        have hw5 : (0 : Int) ≤ (m : Int) := by omega
        have hw6 : (0 : Int) ≤ (m : Int) + 1 := by omega
        have hw7 : ((m : Int) + 1).toNat = m + 1 := by omega
        have hw8 : ((m + 1 : Nat) : Int) < (n : Int) := by omega
        have p1 := fun W => less_any (f (m + 1)) (f m) W
        have q0' := fun x : Wd No wr => x.chg.cell q0 id
        have r0' := fun x : Wd No wr => x.chg.cell r0 id
        cases hv : Op.bytesLess (f (m + 1)).toList (f m).toList with
        | true =>
          have hs : sortB f n = false := by unfold sortB; rw [decide_eq_false_iff_not]; intro h; have := h (m + 1) hlt (by omega); rw [Nat.add_sub_cancel, hv] at this; cases this
          rw [hv] at p1
          have HS := Go.Lib.hid hs
          clear hs hv hall
          go_wp2_with fail
          refine wp_region_wd (S := No) (by kernel_rfl) (by kernel_rfl) ?_
          repeat (refine WQ.step (fun K hK => ?_); go_simp; first | (refine hK _ ?_; clear hK K) | (apply Exists.intro; refine ⟨fun _ => ?_, hK _ ?_⟩; (go_at_call 220; exact wd_same (p1 _)); clear hK K))
          refine WQ.nil ?_
          rintro _ ⟨x, rfl⟩
          go_wp2_with fail
          go_ret
          rw [HS.out]; exact ⟨rfl, hc.trans x.chg⟩
        | false =>
          rw [hv] at p1
          have HV := Go.Lib.hid hv
          clear hv
          have HA := Go.Lib.hid hall
          clear hall
          go_wp2_with fail
          refine wp_region_wd (S := No) (by kernel_rfl) (by kernel_rfl) ?_
          repeat (refine WQ.step (fun K hK => ?_); go_simp; first | (refine hK _ ?_; clear hK K) | (apply Exists.intro; refine ⟨fun _ => ?_, hK _ ?_⟩; (go_at_call 220; exact wd_same (p1 _)); clear hK K))
          refine WQ.nil ?_
          rintro _ ⟨x, rfl⟩
          go_wp2_with fail
          go_roundw
          case rel => exact ⟨m, .inr ⟨by omega, by first | rfl | go_num | (congr 1; omega)⟩, (fun j h1 h2 => by rcases Nat.lt_or_eq_of_le (show m + 1 ≤ j by omega) with h | h; exact HA.out j h h2; subst h; exact HV.out), hc.trans x.chg⟩
          case measure => simp [intOf] <;> omega

theorem Tryz.infoStrM : (Tryz.prog.info? 9).map (fun i => (i.zero, i.size, i.bytes)) = some (some (.string ⟨#[]⟩), 1, 16) := by kernel_rfl

set_option maxRecDepth 100000 in
set_option maxHeartbeats 1000000 in
theorem cloneS_any (f : Nat → ByteArray) (a : Option Addr) (n c : Nat) (w : World) (hx : Sl w a n c 1 (fun k => [.string (f k)])) (hn : n ≤ 1048576) :
    Calls Tryz.prog 184 #[.slice a n c] w fun e w' => ∃ v, e = .returned v ∧ w'.ownsRow w.heap.size 9 1 v n ((List.range n).flatMap fun k => [.string (f k)]) ∧ Chg No w w' := by
  obtain ⟨i0, hi, hz0, hz1, hz2⟩ := info_parts Tryz.infoStrM
  have q22 : ∀ (w : World) (a : Option Addr) (n c n' c' : Nat), (binOp .eql 29 (.slice a n c) (.slice none n' c')).run Tryz.prog w = .ok (.bool a.isNone) w := fun w a n c n' c' => Lib.run_eql_slice_nil w _ _ a n c n' c' Tryz.underlying29
  have hrd := fun W (h : Chg No w W) => (hx.no h).rd
  have hnil := hx.2.2.1
  have hle := hx.1
  clear hx
  cases a with
  | none =>
    obtain rfl : c = 0 := hnil rfl
    obtain rfl : n = 0 := by omega
    go_enter Tryz.func184, Tryz.ntmps184
    go_wp2_with fail
    go_ret
    exact ⟨_, rfl, World.ownsRow_nil _ _ _ _, Chg.refl _ _⟩
  | some ad =>
    go_enter Tryz.func184, Tryz.ntmps184
    go_wp2_with (at_builtin; refine wpList_append_rd _ rfl _ _ _ rfl w.heap.size 9 i0 _ 1 16 Tryz.underlying29 hi hz0 hz1 hz2 rfl (by decide) (.slice (some ⟨w.heap.size, 0, none⟩) 0 0) 0 [] rfl (World.ownsRow_made w #[] 0 (Nat.le_refl _) (Nat.zero_le _) rfl) _ n _ rfl (hrd _ ((Chg.refl No w).alloc _)) (by intro u hu; simp at hu; obtain ⟨k, _, rfl⟩ := hu; rfl) (by unfold maxLen; omega) (by omega) (by simp) ?_; intro v1 w3 ho1 hg1 hi1 hfr1)
    go_ret
    exact ⟨_, rfl, by simpa using ho1, ((Chg.refl No w).alloc _).grown hg1 (fun k hk hlt => by simp [Value.ownBlock] at hk; omega)⟩
end Go.Proofs.YthpmgnbehahkfaaGreat
end
section
namespace Go.Proofs.YthpmgnbehahkfaaGreat
open Go.RowKit Go.Dk

/-- a row of n texts -/
def StrRow (w : World) (g n : Nat) : Prop := ∃ cur : Array Value, w.heap[g]? = some (.cells cur 9 (0, 0)) ∧ ∀ k, k < n → ∃ s : ByteArray, cur[k]? = some (.string s)
theorem StrRow.no {w w' : World} {g n : Nat} (h : StrRow w g n) (hc : Chg No w w') : StrRow w' g n := by
  obtain ⟨cur, hg, hs⟩ := h
  exact ⟨cur, hc.heap hg id, hs⟩
theorem StrRow.set {w : World} {g n : Nat} (h : StrRow w g n) (j : Nat) (s : ByteArray) : StrRow (w.setCell ⟨g, j, none⟩ (.string s)) g n := by
  obtain ⟨cur, hg, hs⟩ := h
  refine ⟨_, hset_same hg _, fun k hk => ?_⟩
  obtain ⟨t, ht⟩ := hs k hk
  have hlt := (Array.getElem?_eq_some_iff.1 ht).1
  by_cases e : j = k
  · subst e
    exact ⟨s, by simp [hlt]⟩
  · exact ⟨t, by rw [Array.getElem?_setIfInBounds_ne e]; exact ht⟩
theorem StrRow.get {w : World} {g n : Nat} (h : StrRow w g n) {k : Nat} (hk : k < n) : ∃ s : ByteArray, w.cell? ⟨g, k, none⟩ = some (.string s) ∧ w.frozen? ⟨g, k, none⟩ = false := by
  obtain ⟨cur, hg, hs⟩ := h
  obtain ⟨s, h⟩ := hs k hk
  exact ⟨s, cell_of_heap hg h, free_of_heap hg⟩
theorem setCells_chg (b : Nat) : ∀ (l : List Value) (o : Nat) (w : World), Chg (· = b) w (w.setCells b o l)
  | [], _, w => Chg.refl _ w
  | v :: r, o, w => ((Chg.refl (· = b) w).setCell (p := ⟨b, o, none⟩) (fun _ => rfl) v).trans (setCells_chg b r (o + 1) _)

/-- no two neighbours are one -/
def apartB (f : Nat → ByteArray) (n : Nat) : Bool := decide (∀ k, k < n → 0 < k → (f (k - 1)).toList ≠ (f k).toList)
def CompRel (w : World) (f : Nat → ByteArray) (n : Nat) (i : Value) (wr : World) : Prop :=
  ∃ k : Nat, i = .int .i64 k ∧ 1 ≤ k ∧ k ≤ n ∧ (∀ j, j < k → 0 < j → (f (j - 1)).toList ≠ (f j).toList) ∧ Chg No w wr
def CompRel2 (w : World) (g n k0 : Nat) (i j : Value) (wr : World) : Prop :=
  ∃ kk k2 : Nat, i = .int .i64 kk ∧ j = .int .i64 k2 ∧ 1 ≤ k2 ∧ k0 + k2 ≤ n ∧ 1 ≤ kk ∧ kk + 1 ≤ k0 + k2 ∧ StrRow wr g n ∧ Chg (· = g) w wr

set_option maxRecDepth 100000 in
set_option maxHeartbeats 2000000 in
theorem compact_any (f : Nat → ByteArray) (g n c : Nat) (w : World) (hx : Sl w (some ⟨g, 0, none⟩) n c 1 (fun k => [.string (f k)])) (hr : StrRow w g n) :
    Calls Tryz.prog 183 #[.slice (some ⟨g, 0, none⟩) n c] w fun e w' => ∃ m, e = .returned (.slice (some ⟨g, 0, none⟩) m c) ∧ decide (m = n) = apartB f n ∧ Chg (· = g) w w' := by
  have hn := hx.1
  have hc' := hx.2.1
  by_cases h2 : n < 2
  · have ha : apartB f n = true := by unfold apartB; rw [decide_eq_true_iff]; intro k h1 h3; omega
    have HA := Go.Lib.hid ha; clear ha
    go_enter Tryz.func183, Tryz.ntmps183
    go_wp2_with fail
    go_ret
    exact ⟨n, rfl, by rw [HA.out]; simp, Chg.refl _ _⟩
  · go_enter Tryz.func183, Tryz.ntmps183
    go_wp2_with fail
    go_loopw [3] (fun i wr => CompRel w f n i wr) (fun i _ => n - (intOf i).toNat)
    case atStart => exact ⟨1, rfl, by omega, by omega, (fun j h1 h2 => by omega), Chg.refl _ _⟩
    case round =>
      obtain ⟨k, rfl, hk1, hk, hall, hc⟩ := hrel
      by_cases hlt : k < n
      · obtain ⟨m, rfl⟩ : ∃ m, k = m + 1 := ⟨k - 1, by omega⟩
        obtain ⟨-, b, o, hb, hcell⟩ := (hx.no hc).2.2.2 (m + 1) hlt
        obtain ⟨-, b', o', hb', hcell'⟩ := (hx.no hc).2.2.2 m (by omega)
        cases hb; cases hb'
        have q0 := hcell 0 (.string (f (m + 1))) rfl
        have r0 := hcell' 0 (.string (f m)) rfl
        simp only [Nat.add_zero, Nat.mul_one, Nat.zero_add] at q0 r0
        clear hcell hcell' hx
        have hw1 : IntKind.i64.wrap (((m + 1 : Nat) : Int) - 1) = (m : Int) := by rw [IntWalk.i64_in _ (by omega)]; omega
        have hw2 : IntKind.i64.wrap (m : Int) = (m : Int) := by rw [IntWalk.i64_in _ (by omega)]
        have hw3 : (m : Int) < (n : Int) := by omega
        have hw4 : (m : Int) + 1 < (n : Int) := by omega
        have hw5 : (0 : Int) ≤ (m : Int) := by omega
        have hw6 : (0 : Int) ≤ (m : Int) + 1 := by omega
        have hw7 : ((m : Int) + 1).toNat = m + 1 := by omega
        have hw8 : ((m + 1 : Nat) : Int) < (n : Int) := by omega
        have HA := Go.Lib.hid hall
        clear hall
        cases hv : ((f (m + 1)).toList == (f m).toList) with
        | false =>
          have HV := Go.Lib.hid hv
          go_wp2_with fail
          go_quiet (fail)
          go_wp2_with fail
          go_roundw
          case rel => exact ⟨m + 1 + 1, by go_num, by omega, by omega, (fun j h1 h2 => by rcases Nat.lt_or_eq_of_le (Nat.le_of_lt_succ h1) with h | h; exact HA.out j h h2; subst h; rw [Nat.add_sub_cancel]; intro e; have := HV.out; rw [e] at this; simp at this), hc.drewN nq⟩
          case measure => simp [intOf]; omega
        | true =>
          have ha : apartB f n = false := by unfold apartB; rw [decide_eq_false_iff_not]; intro h; exact h (m + 1) hlt (by omega) (by rw [Nat.add_sub_cancel]; exact (eq_of_beq hv).symm)
          have HN := Go.Lib.hid ha
          clear ha
          have hr' := hr.no hc
          have hv2 := eq_of_beq hv
          have hm1 : m + 1 < c := by omega
          go_wp2_with fail
          go_quiet (fail)
          go_wp2_with fail
          clear q0 r0 hv hv2
          have hc1 := hc.drewN nq
          have hr1 := hr'.no ((Chg.refl No wr).drewN nq)
          generalize wr.drewN nq = W1 at hc1 hr1 ⊢
          go_loopw [3, 5] (fun i j wr => CompRel2 W1 g n (m + 1) i j wr) (fun _ j _ => n - (intOf j).toNat)
          case atStart => exact ⟨m + 1, 1, rfl, rfl, by omega, by omega, by omega, by omega, hr1, Chg.refl _ _⟩
          case round =>
            obtain ⟨kk, k2, rfl, rfl, h1, h2, h3, h4, hrow, hch⟩ := hrel
            by_cases hlt2 : m + 1 + k2 < n
            · obtain ⟨u, cu, -⟩ := hrow.get (k := m + 1 + k2) hlt2
              obtain ⟨v, cv, -⟩ := hrow.get (k := m + 1 + (k2 - 1)) (by omega)
              obtain ⟨old, ck, fk⟩ := hrow.get (k := kk) (by omega)
              obtain ⟨j, rfl⟩ : ∃ j, k2 = j + 1 := ⟨k2 - 1, by omega⟩
              rw [Nat.add_sub_cancel] at cv
              have hb1 : ((j + 1 : Nat) : Int) < ((n - (m + 1) : Nat) : Int) := by omega
              have hb2 : (j : Int) + 1 < ((n - (m + 1) : Nat) : Int) := by omega
              have hb3 : (j : Int) < ((n - (m + 1) : Nat) : Int) := by omega
              have hb4 : IntKind.i64.wrap (((j + 1 : Nat) : Int) - 1) = (j : Int) := by rw [IntWalk.i64_in _ (by omega)]; omega
              have hb5 : IntKind.i64.wrap (j : Int) = (j : Int) := by rw [IntWalk.i64_in _ (by omega)]
              have hb6 : (0 : Int) ≤ (j : Int) := by omega
              have hb7 : (0 : Int) ≤ (j : Int) + 1 := by omega
              have hb8 : ((j : Int) + 1).toNat = j + 1 := by omega
              have hb9 : (kk : Int) < (n : Int) := by omega
              have hba : (0 : Int) ≤ (kk : Int) := by omega
              have HR := Go.Lib.hid hrow
              clear hrow
              cases huv : (u.toList == v.toList) with
              | true =>
                have huv2 := eq_of_beq huv
                go_wp2_with fail
                go_quiet (fail)
                go_wp2_with fail
                go_roundw
                case rel => exact ⟨kk, j + 1 + 1, rfl, by go_num, by omega, by omega, by omega, by omega, HR.out.no ((Chg.refl No _).drewN _), hch.drewN _⟩
                case measure => simp [intOf]; omega
              | false =>
                go_wp2_with fail
                go_quiet (fail)
                go_wp2_with fail
                go_roundw
                case rel => exact ⟨kk + 1, j + 1 + 1, by go_num, by go_num, by omega, by omega, by omega, by omega, (HR.out.no ((Chg.refl No _).drewN _)).set _ _, (hch.drewN _).setCell (fun _ => rfl) _⟩
                case measure => simp [intOf]; omega
            · have hend : m + 1 + k2 = n := by omega
              have hb1 : ¬ ((k2 : Int) < ((n - (m + 1) : Nat) : Int)) := by omega
              have hkn : kk < n := by omega
              have hkc : kk < c := by omega
              have hb9 : (kk : Int) ≤ (n : Int) := by omega
              have hba : (0 : Int) ≤ (kk : Int) := by omega
              have hcl : ∀ ty, (Builtin.clear_ #[29] ty #[.slice (some ⟨g, kk, none⟩) (n - kk) (c - kk)]).run Tryz.prog wr = .ok (.tuple #[]) (wr.setCells g kk (List.replicate (n - kk) (.string ⟨#[]⟩))) :=
                fun ty => Lib.run_clear_slice wr _ _ ty _ Tryz.underlying29 (Tryz.zeroValue9) rfl rfl g kk _ _ (by omega) (fun j hj => by obtain ⟨s, hs, -⟩ := hrow.get (k := kk + j) (by omega); rw [hs]; rfl) (fun j hj => (hrow.get (k := kk + j) (by omega)).choose_spec.2)
              clear hrow
              go_wp2_with fail
              go_ret
              refine ⟨kk, rfl, ?_, (hc1.mono (fun _ _ h => h.elim)).trans (hch.trans (setCells_chg _ _ _ _))⟩
              rw [HN.out, decide_eq_false_iff_not]
              omega
      · obtain rfl : k = n := by omega
        have ha : apartB f k = true := by unfold apartB; rw [decide_eq_true_iff]; exact hall
        have HA := Go.Lib.hid ha; clear ha hall
        go_wp2_with fail
        go_ret
        exact ⟨k, rfl, by rw [HA.out]; simp, hc.mono (fun _ _ h => h.elim)⟩
end Go.Proofs.YthpmgnbehahkfaaGreat
end
section
namespace Go.Proofs.YthpmgnbehahkfaaGreat
open Go.RowKit Go.Dk

theorem rise1_any (s : ByteArray) (hs : Sm s) (w : World) : Gives 181 #[.string s] w (.bool (!nameB s)) := by
  have p1 := name_any s w (by unfold Sm at hs; omega)
  unfold Gives
  generalize nameB s = b at *
  go_enter Tryz.func181, Tryz.ntmps181
  go_wp2_with (go_at_call 172; refine p1.mono ?_; rintro e w' ⟨rfl, hc⟩)
  go_ret
  exact ⟨rfl, hc⟩
theorem enters_rise1 : Enters Tryz.prog 181 := enters_of Tryz.func181 (by kernel_rfl) rfl

theorem flat1 (g : Nat → Value) (n : Nat) : ∀ (k : Nat) (x : Value), ((List.range n).flatMap fun k => [g k])[k]? = some x → k < n ∧ x = g k := by
  intro k x h
  obtain ⟨k', j, hk', e, hj⟩ := (flat_at (fun k => [g k]) n 1 (fun _ _ => rfl)).2 k x h
  have hj0 : j = 0 := by have := (List.getElem?_eq_some_iff.1 hj).1; simp at this; omega
  subst hj0
  simp at hj
  have : k = k' := by omega
  subst this
  exact ⟨hk', hj.symm⟩

theorem riseB_eq (f : Nat → ByteArray) (n : Nat) : riseB f n = (!anyB (fun k => !nameB (f k)) n && sortB f n && apartB f n) := by
  rw [Bool.eq_iff_iff]
  unfold riseB anyB sortB apartB
  simp only [Bool.and_eq_true, Bool.not_eq_true', decide_eq_true_iff, decide_eq_false_iff_not, Bool.not_eq_true']
  constructor
  · intro h
    refine ⟨⟨?_, ?_⟩, ?_⟩
    · rintro ⟨k, hk, h2⟩
      rw [(h k hk).1] at h2
      simp at h2
    · intro k hk h0
      exact less_asym _ _ ((h k hk).2 h0)
    · intro k hk h0 e
      have := (h k hk).2 h0
      rw [e, less_irr] at this
      cases this
  · rintro ⟨⟨h1, h2⟩, h3⟩ k hk
    refine ⟨?_, fun h0 => less_tri _ _ (h2 k hk h0) (fun e => h3 k hk h0 e.symm)⟩
    cases hn : nameB (f k) with
    | true => rfl
    | false => exact absurd ⟨k, hk, by simp [hn]⟩ h1

set_option maxHeartbeats 1000000 in
theorem rise_any (f : Nat → ByteArray) (a : Option Addr) (n c : Nat) (w : World) (hx : Sl w a n c 1 (fun k => [.string (f k)])) (hn : n ≤ 1048576) (hok : ∀ k, k < n → Sm (f k)) :
    Gives 124 #[.slice a n c] w (.bool (riseB f n)) := by
  have p1 := contStr_any 181 #[] enters_rise1 (fun k => !nameB (f k)) a n c _ w hx.rd (by omega) (fun k x hk w' _ => by
    obtain ⟨hlt, rfl⟩ := flat1 (fun k => .string (f k)) n k x hk
    simpa using rise1_any (f k) (hok k hlt) w')
  have p2 := fun W (h : Chg No w W) => isSorted_any f a n c W (hx.no h)
  have p3 := fun W (h : Chg No w W) => cloneS_any f a n c W (hx.no h) hn
  have he := riseB_eq f n
  clear hx hok
  unfold Gives at *
  generalize riseB f n = r at *
  generalize anyB (fun k => !nameB (f k)) n = o at *
  generalize sortB f n = so at *
  cases o with
  | true =>
    obtain rfl : r = false := by simpa using he
    clear he p2 p3
    go_enter Tryz.func124, Tryz.ntmps124
    go_wp2_with (go_at_call 180; refine p1.mono ?_; rintro e w' ⟨rfl, hc⟩)
    go_ret
    exact ⟨rfl, hc⟩
  | false =>
    cases so with
    | false =>
      obtain rfl : r = false := by simpa using he
      clear he p3
      go_enter Tryz.func124, Tryz.ntmps124
      go_wp2_with (first
        | (go_at_call 180; refine p1.mono ?_; rintro e w' ⟨rfl, hc⟩)
        | (go_at_call 182; refine (p2 _ hc).mono ?_; rintro e w2 ⟨rfl, hc2⟩))
      go_ret
      exact ⟨rfl, hc.trans hc2⟩
    | true =>
      have he' : r = apartB f n := by simpa using he
      clear he
      have HE := Go.Lib.hid he'
      clear he'
      have p4 : ∀ (v : Value) (B : Nat) (W : World), W.ownsRow B 9 1 v n ((List.range n).flatMap fun k => [.string (f k)]) → Calls Tryz.prog 183 #[v] W fun e w' => ∃ a' m c', e = .returned (.slice a' m c') ∧ decide (m = n) = apartB f n ∧ Chg (B ≤ ·) W w' := by
        intro v B W ho
        have ho2 := ho.2
        obtain ⟨a', c', rfl, hs, hb⟩ := own_sl ho (fun _ _ => rfl)
        cases a' with
        | none =>
          have hc0 := hs.2.2.1 rfl
          have hle := hs.1
          obtain rfl : c' = 0 := hc0
          obtain rfl : n = 0 := by omega
          have ha : apartB f 0 = true := by simp [apartB]
          have HA := Go.Lib.hid ha
          clear ha hs ho ho2 p1 p2 p3
          go_enter Tryz.func183, Tryz.ntmps183
          go_wp2_with fail
          go_ret
          exact ⟨none, 0, 0, rfl, by rw [HA.out]; rfl, Chg.refl _ _⟩
        | some ad =>
          have hB := hb ad rfl
          rcases ho2 with ⟨h, _⟩ | ⟨g, cap, cur, h, hg1, hg, hnc, hcm, hcs, htk⟩
          · cases h
          · cases h
            have hrow : StrRow W g n := ⟨cur, hg, fun k hk => ⟨f k, by
              obtain ⟨_, b, o, hb', hcell⟩ := hs.2.2.2 k hk
              cases hb'
              have := hcell 0 _ rfl
              simpa [World.cell?, hg] using this⟩⟩
            refine (compact_any f g n _ W hs hrow).mono ?_
            rintro e w' ⟨m, h1, h2, h3⟩
            exact ⟨_, m, _, h1, h2, h3.mono (fun k _ e => by show B ≤ k; rw [e]; exact hg1)⟩
      go_enter Tryz.func124, Tryz.ntmps124
      go_wp2_with (first
        | (go_at_call 180; refine p1.mono ?_; rintro e w' ⟨rfl, hc⟩)
        | (go_at_call 182; refine (p2 _ hc).mono ?_; rintro e w2 ⟨rfl, hc2⟩)
        | (go_at_call 184; refine (p3 _ (hc.trans hc2)).mono ?_; rintro e w3 ⟨v3, rfl, ho3, hc3⟩)
        | (go_at_call 183; refine (p4 _ _ _ ho3).mono ?_; rintro e w4 ⟨a4, m, c4, rfl, hm, hc4⟩))
      go_ret
      refine ⟨?_, (hc.trans hc2).trans (hc3.trans' hc4 (fun i h1 h2 => by omega))⟩
      rw [HE.out, ← hm, show decide (m = n) = ((m : Int) == (n : Int)) by rw [Bool.eq_iff_iff]; simp <;> omega]
      rfl

def RiseRel (w : World) (f : Nat → ByteArray) (n : Nat) (i : Value) (wr : World) : Prop :=
  ∃ k : Nat, i = .int .i64 k ∧ k ≤ n ∧ (∀ j, j < k → nameB (f j) = true ∧ (0 < j → Op.bytesLess (f (j - 1)).toList (f j).toList = true)) ∧ Chg No w wr

set_option maxRecDepth 100000 in
set_option maxHeartbeats 1000000 in
theorem refRise_any (f : Nat → ByteArray) (a : Option Addr) (n c : Nat) (w : World) (hx : Sl w a n c 1 (fun k => [.string (f k)])) (hok : ∀ k, k < n → Sm (f k)) :
    Gives 206 #[.slice a n c] w (.bool (riseB f n)) := by
  unfold Gives
  have hn := hx.1
  have hc' := hx.2.1
  go_enter Tryz.func206, Tryz.ntmps206
  go_wp2_with fail
  go_loopw [3] (fun i wr => RiseRel w f n i wr) (fun i _ => n - (intOf i).toNat)
  case atStart => exact ⟨0, rfl, by omega, (fun j hj => by omega), Chg.refl _ _⟩
  case round =>
    obtain ⟨k, rfl, hk, hall, hc⟩ := hrel
    by_cases hlt : k < n
    · have hbad : ¬ (nameB (f k) = true ∧ (0 < k → Op.bytesLess (f (k - 1)).toList (f k).toList = true)) → riseB f n = false := fun h => by unfold riseB; rw [decide_eq_false_iff_not]; intro h2; exact h (h2 k hlt)
      have HB := Go.Lib.hid hbad; clear hbad
      have HA := Go.Lib.hid hall; clear hall
      obtain ⟨-, b, o, rfl, hcell⟩ := (hx.no hc).2.2.2 k hlt
      have q0 := hcell 0 (.string (f k)) rfl
      rw [Nat.add_zero, Nat.mul_one] at q0
      have HX := Go.Lib.hid hx
      clear hcell hx
      have hlt' : (k : Int) < (n : Int) := by omega
      have p1 := fun W => refName_any (f k) W (by have := hok k hlt; unfold Sm at this; omega)
      cases h1 : nameB (f k) with
      | false =>
        rw [h1] at p1
        have H1 := Go.Lib.hid h1; clear h1
        have q0 := fun x : Wd No wr => x.chg.cell q0 id
        go_wp2_with fail
        refine wp_region_wd (S := No) (by kernel_rfl) (by kernel_rfl) ?_
        repeat (refine WQ.step (fun K hK => ?_); go_simp; first | (refine hK _ ?_; clear hK K) | (apply Exists.intro; refine ⟨fun _ => ?_, hK _ ?_⟩; (go_at_call 117; exact wd_same (p1 _)); clear hK K))
        refine WQ.nil ?_
        rintro _ ⟨x, rfl⟩
        go_wp2_with fail
        go_ret
        rw [HB.out (by rw [H1.out]; simp)]; exact ⟨rfl, hc.trans x.chg⟩
      | true =>
        rw [h1] at p1
        have H1 := Go.Lib.hid h1; clear h1
        by_cases hk0 : k = 0
        · have hkz : (0 < k) = False := by simp; omega
          have hg : nameB (f k) = true ∧ (0 < k → Op.bytesLess (f (k - 1)).toList (f k).toList = true) := ⟨H1.out, fun h => by omega⟩
          have HG := Go.Lib.hid hg; clear hg hk0
          have q0 := fun x : Wd No wr => x.chg.cell q0 id
          go_wp2_with fail
          refine wp_region_wd (S := No) (by kernel_rfl) (by kernel_rfl) ?_
          repeat (refine WQ.step (fun K hK => ?_); go_simp; first | (refine hK _ ?_; clear hK K) | (apply Exists.intro; refine ⟨fun _ => ?_, hK _ ?_⟩; (go_at_call 117; exact wd_same (p1 _)); clear hK K))
          refine WQ.nil ?_
          rintro _ ⟨x, rfl⟩
          go_wp2_with fail
          go_roundw
          case rel => exact ⟨k + 1, by go_num, by omega, (fun j hj => by rcases Nat.lt_or_eq_of_le (Nat.le_of_lt_succ hj) with h | h; exact HA.out j h; subst h; exact HG.out), hc.trans x.chg⟩
          case measure => simp [intOf]; omega
        · obtain ⟨m, rfl⟩ : ∃ m, k = m + 1 := ⟨k - 1, by omega⟩
          obtain ⟨-, b', o', hb', hcell'⟩ := (HX.out.no hc).2.2.2 m (by omega)
          cases hb'
          have r0 := hcell' 0 (.string (f m)) rfl
          rw [Nat.add_zero, Nat.mul_one] at r0
          clear hcell'
          have hw1 : IntKind.i64.wrap (((m + 1 : Nat) : Int) - 1) = (m : Int) := by rw [IntWalk.i64_in _ (by omega)]; omega
          have hkz : (0 < m + 1) = True := by simp
          have hw2 : IntKind.i64.wrap (m : Int) = (m : Int) := by rw [IntWalk.i64_in _ (by omega)]
          have hw3 : (m : Int) < (n : Int) := by omega
          have hw4 : (m : Int) + 1 < (n : Int) := by omega
          have hw5 : (0 : Int) ≤ (m : Int) := by omega
          have hw6 : (0 : Int) ≤ (m : Int) + 1 := by omega
          have hw7 : ((m : Int) + 1).toNat = m + 1 := by omega
          have q0 := fun x : Wd No wr => x.chg.cell q0 id
          have r0 := fun x : Wd No wr => x.chg.cell r0 id
          cases hv : Op.bytesLess (f m).toList (f (m + 1)).toList
          all_goals
            have HV := Go.Lib.hid hv
            go_wp2_with fail
            refine wp_region_wd (S := No) (by kernel_rfl) (by kernel_rfl) ?_
            repeat (refine WQ.step (fun K hK => ?_); go_simp; first | (refine hK _ ?_; clear hK K) | (apply Exists.intro; refine ⟨fun _ => ?_, hK _ ?_⟩; (go_at_call 117; exact wd_same (p1 _)); clear hK K))
            refine WQ.nil ?_
            rintro _ ⟨x, rfl⟩
            go_wp2_with fail
          · go_ret
            rw [HB.out (by rw [Nat.add_sub_cancel, HV.out]; simp)]; exact ⟨rfl, hc.trans x.chg⟩
          · go_roundw
            case rel => exact ⟨m + 1 + 1, by go_num, by omega, (fun j hj => by rcases Nat.lt_or_eq_of_le (Nat.le_of_lt_succ hj) with h | h; exact HA.out j h; subst h; exact ⟨H1.out, fun _ => by rw [Nat.add_sub_cancel]; exact HV.out⟩), hc.trans x.chg⟩
            case measure => simp [intOf]; omega
    · obtain rfl : k = n := by omega
      have hv : riseB f k = true := by unfold riseB; rw [decide_eq_true_iff]; exact hall
      have HV := Go.Lib.hid hv; clear hv hall
      go_wp2_with fail
      go_ret
      rw [HV.out]; exact ⟨rfl, hc⟩
end Go.Proofs.YthpmgnbehahkfaaGreat
end
