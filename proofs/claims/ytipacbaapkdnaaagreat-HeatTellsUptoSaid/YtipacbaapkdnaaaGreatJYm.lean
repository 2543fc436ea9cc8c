/- May a policy be: policy.Check, drayageref06.Check, where it drains nothing (printed by genym.py). -/
import Derived.Test.YtipacbaapkdnaaaGreatJYl
namespace Go.Proofs.YtipacbaapkdnaaaGreat
open Go.RowKit Go.Dk

/-- a policy that drains nothing -/
structure GoalD where
  low : Nat → Int
  high : Nat → Int
  on : Int
  max : Int
  tries : Int
  roll : Bool
def GoalD.cells (g : GoalD) : List Value := [.int .i64 (g.low 0), .int .i64 (g.low 1), .int .i64 (g.high 0), .int .i64 (g.high 1), .int .i64 g.on, .slice none 0 0, .int .i64 g.max, .int .i64 g.tries, .bool g.roll]
def winB (n a b : Int) : Bool := decide (a ≤ n) && decide (n ≤ b)
def lowB (g : GoalD) (i : Nat) : Bool := winB (g.low i) 0 1000 && winB (g.high i) (g.low i) 1000
def baseB (g : GoalD) : Bool := winB g.on 0 31 && winB g.max 0 48 && winB g.tries 0 8
def goalK (g : GoalD) : Nat → Bool
  | 0 => baseB g
  | k + 1 => goalK g k && lowB g k
/-- may a policy be: the error's number -/
def goalE (g : GoalD) : Int := if goalK g 2 then 0 else 60

theorem within_any (n a b : Int) (w : World) : Calls Tryz.prog 91 #[.int .i64 n, .int .i64 a, .int .i64 b] w fun e w' => e = .returned (.bool (winB n a b)) ∧ w = w' := by
  go_enter Tryz.func91, Tryz.ntmps91
  go_wp2
  all_goals (go_ret; unfold winB; first | (simp_all; done) | (simp_all <;> (intros; omega)))
theorem refWithin_any (n a b : Int) (w : World) : Calls Tryz.prog 62 #[.int .i64 n, .int .i64 a, .int .i64 b] w fun e w' => e = .returned (.bool (winB n a b)) ∧ w = w' := by
  go_enter Tryz.func62, Tryz.ntmps62
  go_wp2
  all_goals (go_ret; unfold winB; first | (simp_all; done) | (simp_all <;> (intros; omega)))
theorem lowB_ref (g : GoalD) (i : Nat) : lowB g i = (winB (g.low i) 0 1000 && winB (g.high i) 0 1000 && decide (g.low i ≤ g.high i)) := by
  unfold lowB winB
  rw [Bool.eq_iff_iff]
  simp
  omega

def GoalRel (W : World) (g : GoalD) (ok i : Value) (wr : World) : Prop := ∃ k : Nat, i = .int .i64 k ∧ k ≤ 2 ∧ ok = .bool (goalK g k) ∧ Chg No W wr

/-- the ways of what is asked ahead -/
inductive BaseWay (g : GoalD) : Prop
  | a (h1 : winB g.on 0 31 = false) (hb : baseB g = false)
  | b (h1 : winB g.on 0 31 = true) (h2 : winB g.max 0 48 = false) (hb : baseB g = false)
  | c (h1 : winB g.on 0 31 = true) (h2 : winB g.max 0 48 = true) (h3 : winB g.tries 0 8 = false) (hb : baseB g = false)
  | d (h1 : winB g.on 0 31 = true) (h2 : winB g.max 0 48 = true) (h3 : winB g.tries 0 8 = true) (hb : baseB g = true)
theorem baseWay (g : GoalD) : BaseWay g := by
  cases h1 : winB g.on 0 31 with
  | false => exact .a h1 (by simp [baseB, h1])
  | true =>
    cases h2 : winB g.max 0 48 with
    | false => exact .b h1 h2 (by simp [baseB, h2])
    | true =>
      cases h3 : winB g.tries 0 8 with
      | false => exact .c h1 h2 h3 (by simp [baseB, h3])
      | true => exact .d h1 h2 h3 (by simp [baseB, h1, h2, h3])

set_option maxRecDepth 100000 in
set_option maxHeartbeats 8000000 in
theorem policyCheck_any (g : GoalD) (w : World) : Gives 61 #[.agg g.cells.toArray] w (.int .i64 (goalE g)) := by
  unfold Gives GoalD.cells
  have hcw : Chg No w (w.alloc (.cells g.cells.toArray 31)) := (Chg.refl No w).alloc _
  have hA := heap_alloc_new w (.cells g.cells.toArray 31)
  have p1 := fun W => within_any g.on 0 31 W
  have p2 := fun W => within_any g.max 0 48 W
  have p3 := fun W => within_any g.tries 0 8 W
  have i0 : ∀ w, (Instr.index 28 (.agg #[.int .i64 (g.low 0), .int .i64 (g.low 1)]) (.int .i64 0)).run Tryz.prog w = .ok (.int .i64 (g.low 0)) w := fun _ => by kernel_rfl
  have i0' : ∀ w, (Instr.index 28 (.agg #[.int .i64 (g.low 0), .int .i64 (g.low 1)]) (.int .i64 ((0 : Nat) : Int))).run Tryz.prog w = .ok (.int .i64 (g.low 0)) w := fun _ => by kernel_rfl
  have i1 : ∀ w, (Instr.index 28 (.agg #[.int .i64 (g.low 0), .int .i64 (g.low 1)]) (.int .i64 1)).run Tryz.prog w = .ok (.int .i64 (g.low 1)) w := fun _ => by kernel_rfl
  have i1' : ∀ w, (Instr.index 28 (.agg #[.int .i64 (g.low 0), .int .i64 (g.low 1)]) (.int .i64 ((1 : Nat) : Int))).run Tryz.prog w = .ok (.int .i64 (g.low 1)) w := fun _ => by kernel_rfl
  have hge : goalE g = if goalK g 2 then 0 else 60 := rfl
  obtain ⟨r, hr⟩ : ∃ r, r = goalE g := ⟨_, rfl⟩
  rw [← hr] at hge ⊢
  have HGE := Go.Lib.hid hge
  unfold GoalD.cells at hcw hA
  clear hge hr
  rcases baseWay g with ⟨h1, hb⟩ | ⟨h1, h2, hb⟩ | ⟨h1, h2, h3, hb⟩ | ⟨h1, h2, h3, hb⟩
  · rw [h1] at p1
    have HB := Go.Lib.hid hb
    clear hb h1
    go_enter Tryz.func61, Tryz.ntmps61
    go_wp2_with (first | (go_at_call 91; have c3 := c2; refine (p3 _).mono ?_; rintro e w' ⟨rfl, rfl⟩) | (go_at_call 91; have c2 := c1; refine (p2 _).mono ?_; rintro e w' ⟨rfl, rfl⟩) | (go_at_call 91; have c1 := True.intro; refine (p1 _).mono ?_; rintro e w' ⟨rfl, rfl⟩))
    generalize w.alloc _ = W at hcw hA ⊢
    generalize w.heap.size = B at hA ⊢
    have s0 := fun y : Wd No W => y.chg.cell (cell_of_heap (j := 0) hA rfl) id
    have s1 := fun y : Wd No W => y.chg.cell (cell_of_heap (j := 1) hA rfl) id
    have s2 := fun y : Wd No W => y.chg.cell (cell_of_heap (j := 2) hA rfl) id
    have s3 := fun y : Wd No W => y.chg.cell (cell_of_heap (j := 3) hA rfl) id
    have s4 := fun y : Wd No W => y.chg.cell (cell_of_heap (j := 4) hA rfl) id
    have s5 := fun y : Wd No W => y.chg.cell (cell_of_heap (j := 5) hA rfl) id
    have s6 := fun y : Wd No W => y.chg.cell (cell_of_heap (j := 6) hA rfl) id
    have s7 := fun y : Wd No W => y.chg.cell (cell_of_heap (j := 7) hA rfl) id
    have s8 := fun y : Wd No W => y.chg.cell (cell_of_heap (j := 8) hA rfl) id
    clear hA p1 p2 p3
    go_loopw [3, 29] (fun ok i wr => GoalRel W g ok i wr) (fun _ i _ => 2 - (intOf i).toNat)
    case atStart => exact ⟨0, rfl, by omega, by rw [show goalK g 0 = baseB g from rfl, HB.out], Chg.refl _ _⟩
    case round =>
      obtain ⟨k, rfl, hk, rfl, hc⟩ := hrel
      obtain ⟨y, rfl⟩ := Wd.of hc
      match k, hk with
      | 0, _ =>
        have hs : goalK g (0 + 1) = (goalK g 0 && lowB g 0) := rfl
        cases ho : goalK g 0 with
        | false =>
          rw [ho] at hs
          have HS := Go.Lib.hid hs
          clear hs ho
          go_wp2_with fail
          go_roundw
          case rel => exact ⟨0 + 1, by go_num, by omega, by rw [HS.out]; rfl, Wd.chg _⟩
          case measure => simp [intOf]
        | true =>
          rw [ho] at hs
          unfold lowB at hs
          have w1 := fun W => within_any (g.low 0) 0 1000 W
          have w2 := fun W => within_any (g.high 0) (g.low 0) 1000 W
          generalize winB (g.low 0) 0 1000 = b1 at *
          generalize winB (g.high 0) (g.low 0) 1000 = b2 at *
          have HS := Go.Lib.hid hs
          clear hs ho
          cases b1 <;> cases b2
          all_goals
            go_wp2_with (first | (go_at_call 91; have d2 := d1; refine (w2 _).mono ?_; rintro e w' ⟨rfl, rfl⟩) | (go_at_call 91; have d1 := True.intro; refine (w1 _).mono ?_; rintro e w' ⟨rfl, rfl⟩))
            go_roundw
            case rel => exact ⟨0 + 1, by go_num, by omega, by rw [HS.out]; simp, Wd.chg _⟩
            case measure => simp [intOf]
      | 1, _ =>
        have hs : goalK g (1 + 1) = (goalK g 1 && lowB g 1) := rfl
        cases ho : goalK g 1 with
        | false =>
          rw [ho] at hs
          have HS := Go.Lib.hid hs
          clear hs ho
          go_wp2_with fail
          go_roundw
          case rel => exact ⟨1 + 1, by go_num, by omega, by rw [HS.out]; rfl, Wd.chg _⟩
          case measure => simp [intOf]
        | true =>
          rw [ho] at hs
          unfold lowB at hs
          have w1 := fun W => within_any (g.low 1) 0 1000 W
          have w2 := fun W => within_any (g.high 1) (g.low 1) 1000 W
          generalize winB (g.low 1) 0 1000 = b1 at *
          generalize winB (g.high 1) (g.low 1) 1000 = b2 at *
          have HS := Go.Lib.hid hs
          clear hs ho
          cases b1 <;> cases b2
          all_goals
            go_wp2_with (first | (go_at_call 91; have d2 := d1; refine (w2 _).mono ?_; rintro e w' ⟨rfl, rfl⟩) | (go_at_call 91; have d1 := True.intro; refine (w1 _).mono ?_; rintro e w' ⟨rfl, rfl⟩))
            go_roundw
            case rel => exact ⟨1 + 1, by go_num, by omega, by rw [HS.out]; simp, Wd.chg _⟩
            case measure => simp [intOf]
      | 2, _ =>
        go_wp2_with fail
        go_loopw [3, 50] (fun ok i wr => ok = .bool (goalK g 2) ∧ i = .int .i64 0 ∧ Chg No W wr) (fun _ _ _ => 0)
        case atStart => exact ⟨rfl, rfl, Wd.chg _⟩
        case round =>
          obtain ⟨rfl, rfl, hc⟩ := hrel
          cases ho : goalK g 2
          all_goals
            have HO := Go.Lib.hid ho
            clear ho
            go_wp2_with fail
            go_ret
            rw [HGE.out, HO.out]; exact ⟨rfl, hcw.trans hc⟩
  · rw [h1] at p1
    rw [h2] at p2
    have HB := Go.Lib.hid hb
    clear hb h1 h2
    go_enter Tryz.func61, Tryz.ntmps61
    go_wp2_with (first | (go_at_call 91; have c3 := c2; refine (p3 _).mono ?_; rintro e w' ⟨rfl, rfl⟩) | (go_at_call 91; have c2 := c1; refine (p2 _).mono ?_; rintro e w' ⟨rfl, rfl⟩) | (go_at_call 91; have c1 := True.intro; refine (p1 _).mono ?_; rintro e w' ⟨rfl, rfl⟩))
    generalize w.alloc _ = W at hcw hA ⊢
    generalize w.heap.size = B at hA ⊢
    have s0 := fun y : Wd No W => y.chg.cell (cell_of_heap (j := 0) hA rfl) id
    have s1 := fun y : Wd No W => y.chg.cell (cell_of_heap (j := 1) hA rfl) id
    have s2 := fun y : Wd No W => y.chg.cell (cell_of_heap (j := 2) hA rfl) id
    have s3 := fun y : Wd No W => y.chg.cell (cell_of_heap (j := 3) hA rfl) id
    have s4 := fun y : Wd No W => y.chg.cell (cell_of_heap (j := 4) hA rfl) id
    have s5 := fun y : Wd No W => y.chg.cell (cell_of_heap (j := 5) hA rfl) id
    have s6 := fun y : Wd No W => y.chg.cell (cell_of_heap (j := 6) hA rfl) id
    have s7 := fun y : Wd No W => y.chg.cell (cell_of_heap (j := 7) hA rfl) id
    have s8 := fun y : Wd No W => y.chg.cell (cell_of_heap (j := 8) hA rfl) id
    clear hA p1 p2 p3
    go_loopw [3, 29] (fun ok i wr => GoalRel W g ok i wr) (fun _ i _ => 2 - (intOf i).toNat)
    case atStart => exact ⟨0, rfl, by omega, by rw [show goalK g 0 = baseB g from rfl, HB.out], Chg.refl _ _⟩
    case round =>
      obtain ⟨k, rfl, hk, rfl, hc⟩ := hrel
      obtain ⟨y, rfl⟩ := Wd.of hc
      match k, hk with
      | 0, _ =>
        have hs : goalK g (0 + 1) = (goalK g 0 && lowB g 0) := rfl
        cases ho : goalK g 0 with
        | false =>
          rw [ho] at hs
          have HS := Go.Lib.hid hs
          clear hs ho
          go_wp2_with fail
          go_roundw
          case rel => exact ⟨0 + 1, by go_num, by omega, by rw [HS.out]; rfl, Wd.chg _⟩
          case measure => simp [intOf]
        | true =>
          rw [ho] at hs
          unfold lowB at hs
          have w1 := fun W => within_any (g.low 0) 0 1000 W
          have w2 := fun W => within_any (g.high 0) (g.low 0) 1000 W
          generalize winB (g.low 0) 0 1000 = b1 at *
          generalize winB (g.high 0) (g.low 0) 1000 = b2 at *
          have HS := Go.Lib.hid hs
          clear hs ho
          cases b1 <;> cases b2
          all_goals
            go_wp2_with (first | (go_at_call 91; have d2 := d1; refine (w2 _).mono ?_; rintro e w' ⟨rfl, rfl⟩) | (go_at_call 91; have d1 := True.intro; refine (w1 _).mono ?_; rintro e w' ⟨rfl, rfl⟩))
            go_roundw
            case rel => exact ⟨0 + 1, by go_num, by omega, by rw [HS.out]; simp, Wd.chg _⟩
            case measure => simp [intOf]
      | 1, _ =>
        have hs : goalK g (1 + 1) = (goalK g 1 && lowB g 1) := rfl
        cases ho : goalK g 1 with
        | false =>
          rw [ho] at hs
          have HS := Go.Lib.hid hs
          clear hs ho
          go_wp2_with fail
          go_roundw
          case rel => exact ⟨1 + 1, by go_num, by omega, by rw [HS.out]; rfl, Wd.chg _⟩
          case measure => simp [intOf]
        | true =>
          rw [ho] at hs
          unfold lowB at hs
          have w1 := fun W => within_any (g.low 1) 0 1000 W
          have w2 := fun W => within_any (g.high 1) (g.low 1) 1000 W
          generalize winB (g.low 1) 0 1000 = b1 at *
          generalize winB (g.high 1) (g.low 1) 1000 = b2 at *
          have HS := Go.Lib.hid hs
          clear hs ho
          cases b1 <;> cases b2
          all_goals
            go_wp2_with (first | (go_at_call 91; have d2 := d1; refine (w2 _).mono ?_; rintro e w' ⟨rfl, rfl⟩) | (go_at_call 91; have d1 := True.intro; refine (w1 _).mono ?_; rintro e w' ⟨rfl, rfl⟩))
            go_roundw
            case rel => exact ⟨1 + 1, by go_num, by omega, by rw [HS.out]; simp, Wd.chg _⟩
            case measure => simp [intOf]
      | 2, _ =>
        go_wp2_with fail
        go_loopw [3, 50] (fun ok i wr => ok = .bool (goalK g 2) ∧ i = .int .i64 0 ∧ Chg No W wr) (fun _ _ _ => 0)
        case atStart => exact ⟨rfl, rfl, Wd.chg _⟩
        case round =>
          obtain ⟨rfl, rfl, hc⟩ := hrel
          cases ho : goalK g 2
          all_goals
            have HO := Go.Lib.hid ho
            clear ho
            go_wp2_with fail
            go_ret
            rw [HGE.out, HO.out]; exact ⟨rfl, hcw.trans hc⟩
  · rw [h1] at p1
    rw [h2] at p2
    rw [h3] at p3
    have HB := Go.Lib.hid hb
    clear hb h1 h2 h3
    go_enter Tryz.func61, Tryz.ntmps61
    go_wp2_with (first | (go_at_call 91; have c3 := c2; refine (p3 _).mono ?_; rintro e w' ⟨rfl, rfl⟩) | (go_at_call 91; have c2 := c1; refine (p2 _).mono ?_; rintro e w' ⟨rfl, rfl⟩) | (go_at_call 91; have c1 := True.intro; refine (p1 _).mono ?_; rintro e w' ⟨rfl, rfl⟩))
    generalize w.alloc _ = W at hcw hA ⊢
    generalize w.heap.size = B at hA ⊢
    have s0 := fun y : Wd No W => y.chg.cell (cell_of_heap (j := 0) hA rfl) id
    have s1 := fun y : Wd No W => y.chg.cell (cell_of_heap (j := 1) hA rfl) id
    have s2 := fun y : Wd No W => y.chg.cell (cell_of_heap (j := 2) hA rfl) id
    have s3 := fun y : Wd No W => y.chg.cell (cell_of_heap (j := 3) hA rfl) id
    have s4 := fun y : Wd No W => y.chg.cell (cell_of_heap (j := 4) hA rfl) id
    have s5 := fun y : Wd No W => y.chg.cell (cell_of_heap (j := 5) hA rfl) id
    have s6 := fun y : Wd No W => y.chg.cell (cell_of_heap (j := 6) hA rfl) id
    have s7 := fun y : Wd No W => y.chg.cell (cell_of_heap (j := 7) hA rfl) id
    have s8 := fun y : Wd No W => y.chg.cell (cell_of_heap (j := 8) hA rfl) id
    clear hA p1 p2 p3
    go_loopw [3, 29] (fun ok i wr => GoalRel W g ok i wr) (fun _ i _ => 2 - (intOf i).toNat)
    case atStart => exact ⟨0, rfl, by omega, by rw [show goalK g 0 = baseB g from rfl, HB.out], Chg.refl _ _⟩
    case round =>
      obtain ⟨k, rfl, hk, rfl, hc⟩ := hrel
      obtain ⟨y, rfl⟩ := Wd.of hc
      match k, hk with
      | 0, _ =>
        have hs : goalK g (0 + 1) = (goalK g 0 && lowB g 0) := rfl
        cases ho : goalK g 0 with
        | false =>
          rw [ho] at hs
          have HS := Go.Lib.hid hs
          clear hs ho
          go_wp2_with fail
          go_roundw
          case rel => exact ⟨0 + 1, by go_num, by omega, by rw [HS.out]; rfl, Wd.chg _⟩
          case measure => simp [intOf]
        | true =>
          rw [ho] at hs
          unfold lowB at hs
          have w1 := fun W => within_any (g.low 0) 0 1000 W
          have w2 := fun W => within_any (g.high 0) (g.low 0) 1000 W
          generalize winB (g.low 0) 0 1000 = b1 at *
          generalize winB (g.high 0) (g.low 0) 1000 = b2 at *
          have HS := Go.Lib.hid hs
          clear hs ho
          cases b1 <;> cases b2
          all_goals
            go_wp2_with (first | (go_at_call 91; have d2 := d1; refine (w2 _).mono ?_; rintro e w' ⟨rfl, rfl⟩) | (go_at_call 91; have d1 := True.intro; refine (w1 _).mono ?_; rintro e w' ⟨rfl, rfl⟩))
            go_roundw
            case rel => exact ⟨0 + 1, by go_num, by omega, by rw [HS.out]; simp, Wd.chg _⟩
            case measure => simp [intOf]
      | 1, _ =>
        have hs : goalK g (1 + 1) = (goalK g 1 && lowB g 1) := rfl
        cases ho : goalK g 1 with
        | false =>
          rw [ho] at hs
          have HS := Go.Lib.hid hs
          clear hs ho
          go_wp2_with fail
          go_roundw
          case rel => exact ⟨1 + 1, by go_num, by omega, by rw [HS.out]; rfl, Wd.chg _⟩
          case measure => simp [intOf]
        | true =>
          rw [ho] at hs
          unfold lowB at hs
          have w1 := fun W => within_any (g.low 1) 0 1000 W
          have w2 := fun W => within_any (g.high 1) (g.low 1) 1000 W
          generalize winB (g.low 1) 0 1000 = b1 at *
          generalize winB (g.high 1) (g.low 1) 1000 = b2 at *
          have HS := Go.Lib.hid hs
          clear hs ho
          cases b1 <;> cases b2
          all_goals
            go_wp2_with (first | (go_at_call 91; have d2 := d1; refine (w2 _).mono ?_; rintro e w' ⟨rfl, rfl⟩) | (go_at_call 91; have d1 := True.intro; refine (w1 _).mono ?_; rintro e w' ⟨rfl, rfl⟩))
            go_roundw
            case rel => exact ⟨1 + 1, by go_num, by omega, by rw [HS.out]; simp, Wd.chg _⟩
            case measure => simp [intOf]
      | 2, _ =>
        go_wp2_with fail
        go_loopw [3, 50] (fun ok i wr => ok = .bool (goalK g 2) ∧ i = .int .i64 0 ∧ Chg No W wr) (fun _ _ _ => 0)
        case atStart => exact ⟨rfl, rfl, Wd.chg _⟩
        case round =>
          obtain ⟨rfl, rfl, hc⟩ := hrel
          cases ho : goalK g 2
          all_goals
            have HO := Go.Lib.hid ho
            clear ho
            go_wp2_with fail
            go_ret
            rw [HGE.out, HO.out]; exact ⟨rfl, hcw.trans hc⟩
  · rw [h1] at p1
    rw [h2] at p2
    rw [h3] at p3
    have HB := Go.Lib.hid hb
    clear hb h1 h2 h3
    go_enter Tryz.func61, Tryz.ntmps61
    go_wp2_with (first | (go_at_call 91; have c3 := c2; refine (p3 _).mono ?_; rintro e w' ⟨rfl, rfl⟩) | (go_at_call 91; have c2 := c1; refine (p2 _).mono ?_; rintro e w' ⟨rfl, rfl⟩) | (go_at_call 91; have c1 := True.intro; refine (p1 _).mono ?_; rintro e w' ⟨rfl, rfl⟩))
    generalize w.alloc _ = W at hcw hA ⊢
    generalize w.heap.size = B at hA ⊢
    have s0 := fun y : Wd No W => y.chg.cell (cell_of_heap (j := 0) hA rfl) id
    have s1 := fun y : Wd No W => y.chg.cell (cell_of_heap (j := 1) hA rfl) id
    have s2 := fun y : Wd No W => y.chg.cell (cell_of_heap (j := 2) hA rfl) id
    have s3 := fun y : Wd No W => y.chg.cell (cell_of_heap (j := 3) hA rfl) id
    have s4 := fun y : Wd No W => y.chg.cell (cell_of_heap (j := 4) hA rfl) id
    have s5 := fun y : Wd No W => y.chg.cell (cell_of_heap (j := 5) hA rfl) id
    have s6 := fun y : Wd No W => y.chg.cell (cell_of_heap (j := 6) hA rfl) id
    have s7 := fun y : Wd No W => y.chg.cell (cell_of_heap (j := 7) hA rfl) id
    have s8 := fun y : Wd No W => y.chg.cell (cell_of_heap (j := 8) hA rfl) id
    clear hA p1 p2 p3
    go_loopw [3, 29] (fun ok i wr => GoalRel W g ok i wr) (fun _ i _ => 2 - (intOf i).toNat)
    case atStart => exact ⟨0, rfl, by omega, by rw [show goalK g 0 = baseB g from rfl, HB.out], Chg.refl _ _⟩
    case round =>
      obtain ⟨k, rfl, hk, rfl, hc⟩ := hrel
      obtain ⟨y, rfl⟩ := Wd.of hc
      match k, hk with
      | 0, _ =>
        have hs : goalK g (0 + 1) = (goalK g 0 && lowB g 0) := rfl
        cases ho : goalK g 0 with
        | false =>
          rw [ho] at hs
          have HS := Go.Lib.hid hs
          clear hs ho
          go_wp2_with fail
          go_roundw
          case rel => exact ⟨0 + 1, by go_num, by omega, by rw [HS.out]; rfl, Wd.chg _⟩
          case measure => simp [intOf]
        | true =>
          rw [ho] at hs
          unfold lowB at hs
          have w1 := fun W => within_any (g.low 0) 0 1000 W
          have w2 := fun W => within_any (g.high 0) (g.low 0) 1000 W
          generalize winB (g.low 0) 0 1000 = b1 at *
          generalize winB (g.high 0) (g.low 0) 1000 = b2 at *
          have HS := Go.Lib.hid hs
          clear hs ho
          cases b1 <;> cases b2
          all_goals
            go_wp2_with (first | (go_at_call 91; have d2 := d1; refine (w2 _).mono ?_; rintro e w' ⟨rfl, rfl⟩) | (go_at_call 91; have d1 := True.intro; refine (w1 _).mono ?_; rintro e w' ⟨rfl, rfl⟩))
            go_roundw
            case rel => exact ⟨0 + 1, by go_num, by omega, by rw [HS.out]; simp, Wd.chg _⟩
            case measure => simp [intOf]
      | 1, _ =>
        have hs : goalK g (1 + 1) = (goalK g 1 && lowB g 1) := rfl
        cases ho : goalK g 1 with
        | false =>
          rw [ho] at hs
          have HS := Go.Lib.hid hs
          clear hs ho
          go_wp2_with fail
          go_roundw
          case rel => exact ⟨1 + 1, by go_num, by omega, by rw [HS.out]; rfl, Wd.chg _⟩
          case measure => simp [intOf]
        | true =>
          rw [ho] at hs
          unfold lowB at hs
          have w1 := fun W => within_any (g.low 1) 0 1000 W
          have w2 := fun W => within_any (g.high 1) (g.low 1) 1000 W
          generalize winB (g.low 1) 0 1000 = b1 at *
          generalize winB (g.high 1) (g.low 1) 1000 = b2 at *
          have HS := Go.Lib.hid hs
          clear hs ho
          cases b1 <;> cases b2
          all_goals
            go_wp2_with (first | (go_at_call 91; have d2 := d1; refine (w2 _).mono ?_; rintro e w' ⟨rfl, rfl⟩) | (go_at_call 91; have d1 := True.intro; refine (w1 _).mono ?_; rintro e w' ⟨rfl, rfl⟩))
            go_roundw
            case rel => exact ⟨1 + 1, by go_num, by omega, by rw [HS.out]; simp, Wd.chg _⟩
            case measure => simp [intOf]
      | 2, _ =>
        go_wp2_with fail
        go_loopw [3, 50] (fun ok i wr => ok = .bool (goalK g 2) ∧ i = .int .i64 0 ∧ Chg No W wr) (fun _ _ _ => 0)
        case atStart => exact ⟨rfl, rfl, Wd.chg _⟩
        case round =>
          obtain ⟨rfl, rfl, hc⟩ := hrel
          cases ho : goalK g 2
          all_goals
            have HO := Go.Lib.hid ho
            clear ho
            go_wp2_with fail
            go_ret
            rw [HGE.out, HO.out]; exact ⟨rfl, hcw.trans hc⟩

set_option maxRecDepth 100000 in
set_option maxHeartbeats 8000000 in
theorem refPolicyCheck_any (g : GoalD) (w : World) : Gives 40 #[.agg g.cells.toArray] w (.int .i64 (goalE g)) := by
  unfold Gives GoalD.cells
  have hcw : Chg No w (w.alloc (.cells g.cells.toArray 31)) := (Chg.refl No w).alloc _
  have hA := heap_alloc_new w (.cells g.cells.toArray 31)
  have p1 := fun W => refWithin_any g.on 0 31 W
  have p2 := fun W => refWithin_any g.max 0 48 W
  have p3 := fun W => refWithin_any g.tries 0 8 W
  have i0 : ∀ w, (Instr.index 28 (.agg #[.int .i64 (g.low 0), .int .i64 (g.low 1)]) (.int .i64 0)).run Tryz.prog w = .ok (.int .i64 (g.low 0)) w := fun _ => by kernel_rfl
  have i0' : ∀ w, (Instr.index 28 (.agg #[.int .i64 (g.low 0), .int .i64 (g.low 1)]) (.int .i64 ((0 : Nat) : Int))).run Tryz.prog w = .ok (.int .i64 (g.low 0)) w := fun _ => by kernel_rfl
  have i1 : ∀ w, (Instr.index 28 (.agg #[.int .i64 (g.low 0), .int .i64 (g.low 1)]) (.int .i64 1)).run Tryz.prog w = .ok (.int .i64 (g.low 1)) w := fun _ => by kernel_rfl
  have i1' : ∀ w, (Instr.index 28 (.agg #[.int .i64 (g.low 0), .int .i64 (g.low 1)]) (.int .i64 ((1 : Nat) : Int))).run Tryz.prog w = .ok (.int .i64 (g.low 1)) w := fun _ => by kernel_rfl
  have hge : goalE g = if goalK g 2 then 0 else 60 := rfl
  obtain ⟨r, hr⟩ : ∃ r, r = goalE g := ⟨_, rfl⟩
  rw [← hr] at hge ⊢
  have HGE := Go.Lib.hid hge
  unfold GoalD.cells at hcw hA
  clear hge hr
  rcases baseWay g with ⟨h1, hb⟩ | ⟨h1, h2, hb⟩ | ⟨h1, h2, h3, hb⟩ | ⟨h1, h2, h3, hb⟩
  · rw [h1] at p1
    have HB := Go.Lib.hid hb
    clear hb h1
    go_enter Tryz.func40, Tryz.ntmps40
    go_wp2_with (first | (go_at_call 62; have c3 := c2; refine (p3 _).mono ?_; rintro e w' ⟨rfl, rfl⟩) | (go_at_call 62; have c2 := c1; refine (p2 _).mono ?_; rintro e w' ⟨rfl, rfl⟩) | (go_at_call 62; have c1 := True.intro; refine (p1 _).mono ?_; rintro e w' ⟨rfl, rfl⟩))
    generalize w.alloc _ = W at hcw hA ⊢
    generalize w.heap.size = B at hA ⊢
    have s0 := fun y : Wd No W => y.chg.cell (cell_of_heap (j := 0) hA rfl) id
    have s1 := fun y : Wd No W => y.chg.cell (cell_of_heap (j := 1) hA rfl) id
    have s2 := fun y : Wd No W => y.chg.cell (cell_of_heap (j := 2) hA rfl) id
    have s3 := fun y : Wd No W => y.chg.cell (cell_of_heap (j := 3) hA rfl) id
    have s4 := fun y : Wd No W => y.chg.cell (cell_of_heap (j := 4) hA rfl) id
    have s5 := fun y : Wd No W => y.chg.cell (cell_of_heap (j := 5) hA rfl) id
    have s6 := fun y : Wd No W => y.chg.cell (cell_of_heap (j := 6) hA rfl) id
    have s7 := fun y : Wd No W => y.chg.cell (cell_of_heap (j := 7) hA rfl) id
    have s8 := fun y : Wd No W => y.chg.cell (cell_of_heap (j := 8) hA rfl) id
    clear hA p1 p2 p3
    go_loopw [3, 4] (fun ok i wr => GoalRel W g ok i wr) (fun _ i _ => 2 - (intOf i).toNat)
    case atStart => exact ⟨0, rfl, by omega, by rw [show goalK g 0 = baseB g from rfl, HB.out], Chg.refl _ _⟩
    case round =>
      obtain ⟨k, rfl, hk, rfl, hc⟩ := hrel
      obtain ⟨y, rfl⟩ := Wd.of hc
      match k, hk with
      | 0, _ =>
        have hs : goalK g (0 + 1) = (goalK g 0 && lowB g 0) := rfl
        cases ho : goalK g 0 with
        | false =>
          rw [ho] at hs
          have HS := Go.Lib.hid hs
          clear hs ho
          go_wp2_with fail
          refine wp_region_wd2 _ (by kernel_rfl) (by kernel_rfl) ?_
          repeat (refine WQ.step (fun K hK => ?_); go_simp; first | (refine hK _ ?_; clear hK K) | (apply Exists.intro; refine ⟨fun _ => ?_, hK _ ?_⟩; fail; clear hK K; (try have d1 := True.intro)))
          refine WQ.nil ?_
          rintro _ ⟨z, rfl⟩
          go_wp2_with fail
          go_roundw
          case rel => exact ⟨0 + 1, by go_num, by omega, by rw [HS.out]; rfl, Wd.chg _⟩
          case measure => simp [intOf]
        | true =>
          rw [ho] at hs
          rw [lowB_ref] at hs
          have w1 := fun W => refWithin_any (g.low 0) 0 1000 W
          have w2 := fun W => refWithin_any (g.high 0) 0 1000 W
          generalize winB (g.low 0) 0 1000 = b1 at *
          generalize winB (g.high 0) 0 1000 = b2 at *
          have HS := Go.Lib.hid hs
          clear hs ho
          cases b1 <;> cases b2
          all_goals
            go_wp2_with fail
            refine wp_region_wd2 _ (by kernel_rfl) (by kernel_rfl) ?_
            repeat (refine WQ.step (fun K hK => ?_); go_simp; first | (refine hK _ ?_; clear hK K) | (apply Exists.intro; refine ⟨fun _ => ?_, hK _ ?_⟩; (first | (go_at_call 62; have d2 := d1; exact wd_same (w2 _)) | (go_at_call 62; exact wd_same (w1 _))); clear hK K; (try have d1 := True.intro)))
            refine WQ.nil ?_
            rintro _ ⟨z, rfl⟩
            go_wp2_with fail
            go_roundw
            case rel => exact ⟨0 + 1, by go_num, by omega, by rw [HS.out]; simp, Wd.chg _⟩
            case measure => simp [intOf]
      | 1, _ =>
        have hs : goalK g (1 + 1) = (goalK g 1 && lowB g 1) := rfl
        cases ho : goalK g 1 with
        | false =>
          rw [ho] at hs
          have HS := Go.Lib.hid hs
          clear hs ho
          go_wp2_with fail
          refine wp_region_wd2 _ (by kernel_rfl) (by kernel_rfl) ?_
          repeat (refine WQ.step (fun K hK => ?_); go_simp; first | (refine hK _ ?_; clear hK K) | (apply Exists.intro; refine ⟨fun _ => ?_, hK _ ?_⟩; fail; clear hK K; (try have d1 := True.intro)))
          refine WQ.nil ?_
          rintro _ ⟨z, rfl⟩
          go_wp2_with fail
          go_roundw
          case rel => exact ⟨1 + 1, by go_num, by omega, by rw [HS.out]; rfl, Wd.chg _⟩
          case measure => simp [intOf]
        | true =>
          rw [ho] at hs
          rw [lowB_ref] at hs
          have w1 := fun W => refWithin_any (g.low 1) 0 1000 W
          have w2 := fun W => refWithin_any (g.high 1) 0 1000 W
          generalize winB (g.low 1) 0 1000 = b1 at *
          generalize winB (g.high 1) 0 1000 = b2 at *
          have HS := Go.Lib.hid hs
          clear hs ho
          cases b1 <;> cases b2
          all_goals
            go_wp2_with fail
            refine wp_region_wd2 _ (by kernel_rfl) (by kernel_rfl) ?_
            repeat (refine WQ.step (fun K hK => ?_); go_simp; first | (refine hK _ ?_; clear hK K) | (apply Exists.intro; refine ⟨fun _ => ?_, hK _ ?_⟩; (first | (go_at_call 62; have d2 := d1; exact wd_same (w2 _)) | (go_at_call 62; exact wd_same (w1 _))); clear hK K; (try have d1 := True.intro)))
            refine WQ.nil ?_
            rintro _ ⟨z, rfl⟩
            go_wp2_with fail
            go_roundw
            case rel => exact ⟨1 + 1, by go_num, by omega, by rw [HS.out]; simp, Wd.chg _⟩
            case measure => simp [intOf]
      | 2, _ =>
        go_wp2_with fail
        go_loopw [3, 5] (fun ok i wr => ok = .bool (goalK g 2) ∧ i = .int .i64 0 ∧ Chg No W wr) (fun _ _ _ => 0)
        case atStart => exact ⟨rfl, rfl, Wd.chg _⟩
        case round =>
          obtain ⟨rfl, rfl, hc⟩ := hrel
          obtain ⟨y2, rfl⟩ := Wd.of hc
          cases ho : goalK g 2
          all_goals
            have HO := Go.Lib.hid ho
            clear ho
            go_wp2_with fail
            go_ret
            rw [HGE.out, HO.out]; exact ⟨rfl, hcw.trans (Wd.chg _)⟩
  · rw [h1] at p1
    rw [h2] at p2
    have HB := Go.Lib.hid hb
    clear hb h1 h2
    go_enter Tryz.func40, Tryz.ntmps40
    go_wp2_with (first | (go_at_call 62; have c3 := c2; refine (p3 _).mono ?_; rintro e w' ⟨rfl, rfl⟩) | (go_at_call 62; have c2 := c1; refine (p2 _).mono ?_; rintro e w' ⟨rfl, rfl⟩) | (go_at_call 62; have c1 := True.intro; refine (p1 _).mono ?_; rintro e w' ⟨rfl, rfl⟩))
    generalize w.alloc _ = W at hcw hA ⊢
    generalize w.heap.size = B at hA ⊢
    have s0 := fun y : Wd No W => y.chg.cell (cell_of_heap (j := 0) hA rfl) id
    have s1 := fun y : Wd No W => y.chg.cell (cell_of_heap (j := 1) hA rfl) id
    have s2 := fun y : Wd No W => y.chg.cell (cell_of_heap (j := 2) hA rfl) id
    have s3 := fun y : Wd No W => y.chg.cell (cell_of_heap (j := 3) hA rfl) id
    have s4 := fun y : Wd No W => y.chg.cell (cell_of_heap (j := 4) hA rfl) id
    have s5 := fun y : Wd No W => y.chg.cell (cell_of_heap (j := 5) hA rfl) id
    have s6 := fun y : Wd No W => y.chg.cell (cell_of_heap (j := 6) hA rfl) id
    have s7 := fun y : Wd No W => y.chg.cell (cell_of_heap (j := 7) hA rfl) id
    have s8 := fun y : Wd No W => y.chg.cell (cell_of_heap (j := 8) hA rfl) id
    clear hA p1 p2 p3
    go_loopw [3, 4] (fun ok i wr => GoalRel W g ok i wr) (fun _ i _ => 2 - (intOf i).toNat)
    case atStart => exact ⟨0, rfl, by omega, by rw [show goalK g 0 = baseB g from rfl, HB.out], Chg.refl _ _⟩
    case round =>
      obtain ⟨k, rfl, hk, rfl, hc⟩ := hrel
      obtain ⟨y, rfl⟩ := Wd.of hc
      match k, hk with
      | 0, _ =>
        have hs : goalK g (0 + 1) = (goalK g 0 && lowB g 0) := rfl
        cases ho : goalK g 0 with
        | false =>
          rw [ho] at hs
          have HS := Go.Lib.hid hs
          clear hs ho
          go_wp2_with fail
          refine wp_region_wd2 _ (by kernel_rfl) (by kernel_rfl) ?_
          repeat (refine WQ.step (fun K hK => ?_); go_simp; first | (refine hK _ ?_; clear hK K) | (apply Exists.intro; refine ⟨fun _ => ?_, hK _ ?_⟩; fail; clear hK K; (try have d1 := True.intro)))
          refine WQ.nil ?_
          rintro _ ⟨z, rfl⟩
          go_wp2_with fail
          go_roundw
          case rel => exact ⟨0 + 1, by go_num, by omega, by rw [HS.out]; rfl, Wd.chg _⟩
          case measure => simp [intOf]
        | true =>
          rw [ho] at hs
          rw [lowB_ref] at hs
          have w1 := fun W => refWithin_any (g.low 0) 0 1000 W
          have w2 := fun W => refWithin_any (g.high 0) 0 1000 W
          generalize winB (g.low 0) 0 1000 = b1 at *
          generalize winB (g.high 0) 0 1000 = b2 at *
          have HS := Go.Lib.hid hs
          clear hs ho
          cases b1 <;> cases b2
          all_goals
            go_wp2_with fail
            refine wp_region_wd2 _ (by kernel_rfl) (by kernel_rfl) ?_
            repeat (refine WQ.step (fun K hK => ?_); go_simp; first | (refine hK _ ?_; clear hK K) | (apply Exists.intro; refine ⟨fun _ => ?_, hK _ ?_⟩; (first | (go_at_call 62; have d2 := d1; exact wd_same (w2 _)) | (go_at_call 62; exact wd_same (w1 _))); clear hK K; (try have d1 := True.intro)))
            refine WQ.nil ?_
            rintro _ ⟨z, rfl⟩
            go_wp2_with fail
            go_roundw
            case rel => exact ⟨0 + 1, by go_num, by omega, by rw [HS.out]; simp, Wd.chg _⟩
            case measure => simp [intOf]
      | 1, _ =>
        have hs : goalK g (1 + 1) = (goalK g 1 && lowB g 1) := rfl
        cases ho : goalK g 1 with
        | false =>
          rw [ho] at hs
          have HS := Go.Lib.hid hs
          clear hs ho
          go_wp2_with fail
          refine wp_region_wd2 _ (by kernel_rfl) (by kernel_rfl) ?_
          repeat (refine WQ.step (fun K hK => ?_); go_simp; first | (refine hK _ ?_; clear hK K) | (apply Exists.intro; refine ⟨fun _ => ?_, hK _ ?_⟩; fail; clear hK K; (try have d1 := True.intro)))
          refine WQ.nil ?_
          rintro _ ⟨z, rfl⟩
          go_wp2_with fail
          go_roundw
          case rel => exact ⟨1 + 1, by go_num, by omega, by rw [HS.out]; rfl, Wd.chg _⟩
          case measure => simp [intOf]
        | true =>
          rw [ho] at hs
          rw [lowB_ref] at hs
          have w1 := fun W => refWithin_any (g.low 1) 0 1000 W
          have w2 := fun W => refWithin_any (g.high 1) 0 1000 W
          generalize winB (g.low 1) 0 1000 = b1 at *
          generalize winB (g.high 1) 0 1000 = b2 at *
          have HS := Go.Lib.hid hs
          clear hs ho
          cases b1 <;> cases b2
          all_goals
            go_wp2_with fail
            refine wp_region_wd2 _ (by kernel_rfl) (by kernel_rfl) ?_
            repeat (refine WQ.step (fun K hK => ?_); go_simp; first | (refine hK _ ?_; clear hK K) | (apply Exists.intro; refine ⟨fun _ => ?_, hK _ ?_⟩; (first | (go_at_call 62; have d2 := d1; exact wd_same (w2 _)) | (go_at_call 62; exact wd_same (w1 _))); clear hK K; (try have d1 := True.intro)))
            refine WQ.nil ?_
            rintro _ ⟨z, rfl⟩
            go_wp2_with fail
            go_roundw
            case rel => exact ⟨1 + 1, by go_num, by omega, by rw [HS.out]; simp, Wd.chg _⟩
            case measure => simp [intOf]
      | 2, _ =>
        go_wp2_with fail
        go_loopw [3, 5] (fun ok i wr => ok = .bool (goalK g 2) ∧ i = .int .i64 0 ∧ Chg No W wr) (fun _ _ _ => 0)
        case atStart => exact ⟨rfl, rfl, Wd.chg _⟩
        case round =>
          obtain ⟨rfl, rfl, hc⟩ := hrel
          obtain ⟨y2, rfl⟩ := Wd.of hc
          cases ho : goalK g 2
          all_goals
            have HO := Go.Lib.hid ho
            clear ho
            go_wp2_with fail
            go_ret
            rw [HGE.out, HO.out]; exact ⟨rfl, hcw.trans (Wd.chg _)⟩
  · rw [h1] at p1
    rw [h2] at p2
    rw [h3] at p3
    have HB := Go.Lib.hid hb
    clear hb h1 h2 h3
    go_enter Tryz.func40, Tryz.ntmps40
    go_wp2_with (first | (go_at_call 62; have c3 := c2; refine (p3 _).mono ?_; rintro e w' ⟨rfl, rfl⟩) | (go_at_call 62; have c2 := c1; refine (p2 _).mono ?_; rintro e w' ⟨rfl, rfl⟩) | (go_at_call 62; have c1 := True.intro; refine (p1 _).mono ?_; rintro e w' ⟨rfl, rfl⟩))
    generalize w.alloc _ = W at hcw hA ⊢
    generalize w.heap.size = B at hA ⊢
    have s0 := fun y : Wd No W => y.chg.cell (cell_of_heap (j := 0) hA rfl) id
    have s1 := fun y : Wd No W => y.chg.cell (cell_of_heap (j := 1) hA rfl) id
    have s2 := fun y : Wd No W => y.chg.cell (cell_of_heap (j := 2) hA rfl) id
    have s3 := fun y : Wd No W => y.chg.cell (cell_of_heap (j := 3) hA rfl) id
    have s4 := fun y : Wd No W => y.chg.cell (cell_of_heap (j := 4) hA rfl) id
    have s5 := fun y : Wd No W => y.chg.cell (cell_of_heap (j := 5) hA rfl) id
    have s6 := fun y : Wd No W => y.chg.cell (cell_of_heap (j := 6) hA rfl) id
    have s7 := fun y : Wd No W => y.chg.cell (cell_of_heap (j := 7) hA rfl) id
    have s8 := fun y : Wd No W => y.chg.cell (cell_of_heap (j := 8) hA rfl) id
    clear hA p1 p2 p3
    go_loopw [3, 4] (fun ok i wr => GoalRel W g ok i wr) (fun _ i _ => 2 - (intOf i).toNat)
    case atStart => exact ⟨0, rfl, by omega, by rw [show goalK g 0 = baseB g from rfl, HB.out], Chg.refl _ _⟩
    case round =>
      obtain ⟨k, rfl, hk, rfl, hc⟩ := hrel
      obtain ⟨y, rfl⟩ := Wd.of hc
      match k, hk with
      | 0, _ =>
        have hs : goalK g (0 + 1) = (goalK g 0 && lowB g 0) := rfl
        cases ho : goalK g 0 with
        | false =>
          rw [ho] at hs
          have HS := Go.Lib.hid hs
          clear hs ho
          go_wp2_with fail
          refine wp_region_wd2 _ (by kernel_rfl) (by kernel_rfl) ?_
          repeat (refine WQ.step (fun K hK => ?_); go_simp; first | (refine hK _ ?_; clear hK K) | (apply Exists.intro; refine ⟨fun _ => ?_, hK _ ?_⟩; fail; clear hK K; (try have d1 := True.intro)))
          refine WQ.nil ?_
          rintro _ ⟨z, rfl⟩
          go_wp2_with fail
          go_roundw
          case rel => exact ⟨0 + 1, by go_num, by omega, by rw [HS.out]; rfl, Wd.chg _⟩
          case measure => simp [intOf]
        | true =>
          rw [ho] at hs
          rw [lowB_ref] at hs
          have w1 := fun W => refWithin_any (g.low 0) 0 1000 W
          have w2 := fun W => refWithin_any (g.high 0) 0 1000 W
          generalize winB (g.low 0) 0 1000 = b1 at *
          generalize winB (g.high 0) 0 1000 = b2 at *
          have HS := Go.Lib.hid hs
          clear hs ho
          cases b1 <;> cases b2
          all_goals
            go_wp2_with fail
            refine wp_region_wd2 _ (by kernel_rfl) (by kernel_rfl) ?_
            repeat (refine WQ.step (fun K hK => ?_); go_simp; first | (refine hK _ ?_; clear hK K) | (apply Exists.intro; refine ⟨fun _ => ?_, hK _ ?_⟩; (first | (go_at_call 62; have d2 := d1; exact wd_same (w2 _)) | (go_at_call 62; exact wd_same (w1 _))); clear hK K; (try have d1 := True.intro)))
            refine WQ.nil ?_
            rintro _ ⟨z, rfl⟩
            go_wp2_with fail
            go_roundw
            case rel => exact ⟨0 + 1, by go_num, by omega, by rw [HS.out]; simp, Wd.chg _⟩
            case measure => simp [intOf]
      | 1, _ =>
        have hs : goalK g (1 + 1) = (goalK g 1 && lowB g 1) := rfl
        cases ho : goalK g 1 with
        | false =>
          rw [ho] at hs
          have HS := Go.Lib.hid hs
          clear hs ho
          go_wp2_with fail
          refine wp_region_wd2 _ (by kernel_rfl) (by kernel_rfl) ?_
          repeat (refine WQ.step (fun K hK => ?_); go_simp; first | (refine hK _ ?_; clear hK K) | (apply Exists.intro; refine ⟨fun _ => ?_, hK _ ?_⟩; fail; clear hK K; (try have d1 := True.intro)))
          refine WQ.nil ?_
          rintro _ ⟨z, rfl⟩
          go_wp2_with fail
          go_roundw
          case rel => exact ⟨1 + 1, by go_num, by omega, by rw [HS.out]; rfl, Wd.chg _⟩
          case measure => simp [intOf]
        | true =>
          rw [ho] at hs
          rw [lowB_ref] at hs
          have w1 := fun W => refWithin_any (g.low 1) 0 1000 W
          have w2 := fun W => refWithin_any (g.high 1) 0 1000 W
          generalize winB (g.low 1) 0 1000 = b1 at *
          generalize winB (g.high 1) 0 1000 = b2 at *
          have HS := Go.Lib.hid hs
          clear hs ho
          cases b1 <;> cases b2
          all_goals
            go_wp2_with fail
            refine wp_region_wd2 _ (by kernel_rfl) (by kernel_rfl) ?_
            repeat (refine WQ.step (fun K hK => ?_); go_simp; first | (refine hK _ ?_; clear hK K) | (apply Exists.intro; refine ⟨fun _ => ?_, hK _ ?_⟩; (first | (go_at_call 62; have d2 := d1; exact wd_same (w2 _)) | (go_at_call 62; exact wd_same (w1 _))); clear hK K; (try have d1 := True.intro)))
            refine WQ.nil ?_
            rintro _ ⟨z, rfl⟩
            go_wp2_with fail
            go_roundw
            case rel => exact ⟨1 + 1, by go_num, by omega, by rw [HS.out]; simp, Wd.chg _⟩
            case measure => simp [intOf]
      | 2, _ =>
        go_wp2_with fail
        go_loopw [3, 5] (fun ok i wr => ok = .bool (goalK g 2) ∧ i = .int .i64 0 ∧ Chg No W wr) (fun _ _ _ => 0)
        case atStart => exact ⟨rfl, rfl, Wd.chg _⟩
        case round =>
          obtain ⟨rfl, rfl, hc⟩ := hrel
          obtain ⟨y2, rfl⟩ := Wd.of hc
          cases ho : goalK g 2
          all_goals
            have HO := Go.Lib.hid ho
            clear ho
            go_wp2_with fail
            go_ret
            rw [HGE.out, HO.out]; exact ⟨rfl, hcw.trans (Wd.chg _)⟩
  · rw [h1] at p1
    rw [h2] at p2
    rw [h3] at p3
    have HB := Go.Lib.hid hb
    clear hb h1 h2 h3
    go_enter Tryz.func40, Tryz.ntmps40
    go_wp2_with (first | (go_at_call 62; have c3 := c2; refine (p3 _).mono ?_; rintro e w' ⟨rfl, rfl⟩) | (go_at_call 62; have c2 := c1; refine (p2 _).mono ?_; rintro e w' ⟨rfl, rfl⟩) | (go_at_call 62; have c1 := True.intro; refine (p1 _).mono ?_; rintro e w' ⟨rfl, rfl⟩))
    generalize w.alloc _ = W at hcw hA ⊢
    generalize w.heap.size = B at hA ⊢
    have s0 := fun y : Wd No W => y.chg.cell (cell_of_heap (j := 0) hA rfl) id
    have s1 := fun y : Wd No W => y.chg.cell (cell_of_heap (j := 1) hA rfl) id
    have s2 := fun y : Wd No W => y.chg.cell (cell_of_heap (j := 2) hA rfl) id
    have s3 := fun y : Wd No W => y.chg.cell (cell_of_heap (j := 3) hA rfl) id
    have s4 := fun y : Wd No W => y.chg.cell (cell_of_heap (j := 4) hA rfl) id
    have s5 := fun y : Wd No W => y.chg.cell (cell_of_heap (j := 5) hA rfl) id
    have s6 := fun y : Wd No W => y.chg.cell (cell_of_heap (j := 6) hA rfl) id
    have s7 := fun y : Wd No W => y.chg.cell (cell_of_heap (j := 7) hA rfl) id
    have s8 := fun y : Wd No W => y.chg.cell (cell_of_heap (j := 8) hA rfl) id
    clear hA p1 p2 p3
    go_loopw [3, 4] (fun ok i wr => GoalRel W g ok i wr) (fun _ i _ => 2 - (intOf i).toNat)
    case atStart => exact ⟨0, rfl, by omega, by rw [show goalK g 0 = baseB g from rfl, HB.out], Chg.refl _ _⟩
    case round =>
      obtain ⟨k, rfl, hk, rfl, hc⟩ := hrel
      obtain ⟨y, rfl⟩ := Wd.of hc
      match k, hk with
      | 0, _ =>
        have hs : goalK g (0 + 1) = (goalK g 0 && lowB g 0) := rfl
        cases ho : goalK g 0 with
        | false =>
          rw [ho] at hs
          have HS := Go.Lib.hid hs
          clear hs ho
          go_wp2_with fail
          refine wp_region_wd2 _ (by kernel_rfl) (by kernel_rfl) ?_
          repeat (refine WQ.step (fun K hK => ?_); go_simp; first | (refine hK _ ?_; clear hK K) | (apply Exists.intro; refine ⟨fun _ => ?_, hK _ ?_⟩; fail; clear hK K; (try have d1 := True.intro)))
          refine WQ.nil ?_
          rintro _ ⟨z, rfl⟩
          go_wp2_with fail
          go_roundw
          case rel => exact ⟨0 + 1, by go_num, by omega, by rw [HS.out]; rfl, Wd.chg _⟩
          case measure => simp [intOf]
        | true =>
          rw [ho] at hs
          rw [lowB_ref] at hs
          have w1 := fun W => refWithin_any (g.low 0) 0 1000 W
          have w2 := fun W => refWithin_any (g.high 0) 0 1000 W
          generalize winB (g.low 0) 0 1000 = b1 at *
          generalize winB (g.high 0) 0 1000 = b2 at *
          have HS := Go.Lib.hid hs
          clear hs ho
          cases b1 <;> cases b2
          all_goals
            go_wp2_with fail
            refine wp_region_wd2 _ (by kernel_rfl) (by kernel_rfl) ?_
            repeat (refine WQ.step (fun K hK => ?_); go_simp; first | (refine hK _ ?_; clear hK K) | (apply Exists.intro; refine ⟨fun _ => ?_, hK _ ?_⟩; (first | (go_at_call 62; have d2 := d1; exact wd_same (w2 _)) | (go_at_call 62; exact wd_same (w1 _))); clear hK K; (try have d1 := True.intro)))
            refine WQ.nil ?_
            rintro _ ⟨z, rfl⟩
            go_wp2_with fail
            go_roundw
            case rel => exact ⟨0 + 1, by go_num, by omega, by rw [HS.out]; simp, Wd.chg _⟩
            case measure => simp [intOf]
      | 1, _ =>
        have hs : goalK g (1 + 1) = (goalK g 1 && lowB g 1) := rfl
        cases ho : goalK g 1 with
        | false =>
          rw [ho] at hs
          have HS := Go.Lib.hid hs
          clear hs ho
          go_wp2_with fail
          refine wp_region_wd2 _ (by kernel_rfl) (by kernel_rfl) ?_
          repeat (refine WQ.step (fun K hK => ?_); go_simp; first | (refine hK _ ?_; clear hK K) | (apply Exists.intro; refine ⟨fun _ => ?_, hK _ ?_⟩; fail; clear hK K; (try have d1 := True.intro)))
          refine WQ.nil ?_
          rintro _ ⟨z, rfl⟩
          go_wp2_with fail
          go_roundw
          case rel => exact ⟨1 + 1, by go_num, by omega, by rw [HS.out]; rfl, Wd.chg _⟩
          case measure => simp [intOf]
        | true =>
          rw [ho] at hs
          rw [lowB_ref] at hs
          have w1 := fun W => refWithin_any (g.low 1) 0 1000 W
          have w2 := fun W => refWithin_any (g.high 1) 0 1000 W
          generalize winB (g.low 1) 0 1000 = b1 at *
          generalize winB (g.high 1) 0 1000 = b2 at *
          have HS := Go.Lib.hid hs
          clear hs ho
          cases b1 <;> cases b2
          all_goals
            go_wp2_with fail
            refine wp_region_wd2 _ (by kernel_rfl) (by kernel_rfl) ?_
            repeat (refine WQ.step (fun K hK => ?_); go_simp; first | (refine hK _ ?_; clear hK K) | (apply Exists.intro; refine ⟨fun _ => ?_, hK _ ?_⟩; (first | (go_at_call 62; have d2 := d1; exact wd_same (w2 _)) | (go_at_call 62; exact wd_same (w1 _))); clear hK K; (try have d1 := True.intro)))
            refine WQ.nil ?_
            rintro _ ⟨z, rfl⟩
            go_wp2_with fail
            go_roundw
            case rel => exact ⟨1 + 1, by go_num, by omega, by rw [HS.out]; simp, Wd.chg _⟩
            case measure => simp [intOf]
      | 2, _ =>
        go_wp2_with fail
        go_loopw [3, 5] (fun ok i wr => ok = .bool (goalK g 2) ∧ i = .int .i64 0 ∧ Chg No W wr) (fun _ _ _ => 0)
        case atStart => exact ⟨rfl, rfl, Wd.chg _⟩
        case round =>
          obtain ⟨rfl, rfl, hc⟩ := hrel
          obtain ⟨y2, rfl⟩ := Wd.of hc
          cases ho : goalK g 2
          all_goals
            have HO := Go.Lib.hid ho
            clear ho
            go_wp2_with fail
            go_ret
            rw [HGE.out, HO.out]; exact ⟨rfl, hcw.trans (Wd.chg _)⟩

end Go.Proofs.YtipacbaapkdnaaaGreat
