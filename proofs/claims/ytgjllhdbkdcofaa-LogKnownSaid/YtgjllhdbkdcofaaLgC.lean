/- The log's functions: Append. -/
import Derived.Test.YtgjllhdbkdcofaaLgC0
namespace Go.Proofs.Ytgjllhdbkdcofaa
open Go.RowKit Go.Dk

theorem append_quick (B p : Nat) (sv fv x : Value) (bs : List UInt8) (fu : Option Int) (dead : Bool) (n : Nat) (a : Option Addr) (c : Nat) (w : World) (hL : LogIs w B p sv fv bs fu dead) (hn : n ≤ 140737488351232)
    (h : dead = true ∨ 1048576 < bs.length + n) :
    Calls Try.prog 16 #[.pointer (some ⟨p, 0, none⟩), .slice a n c] w fun e w' => e = .returned (.int .i64 (if dead then 190 else 5)) ∧ w = w' := by
  obtain ⟨sa, sc, rfl, -⟩ := Rd.of_own hL.row
  have h0 := cell_of_heap (j := 0) hL.cells rfl
  have h2 := cell_of_heap (j := 2) hL.cells rfl
  have hs := hL.small
  have hno := none_any p _ _ _ _ w hL.cells
  have HN := Go.Lib.hid hno; clear hno
  cases dead with
  | true =>
    clear hL h
    go_enter Try.func16, Try.ntmps16
    go_wp2_with (go_at_call 25; refine HN.out.mono ?_; rintro e w' ⟨rfl, rfl⟩)
    go_ret
    exact ⟨rfl, rfl⟩
  | false =>
    have h5 : 1048576 < bs.length + n := by simpa using h
    clear hL h
    go_enter Try.func16, Try.ntmps16
    go_wp2_with (go_at_call 25; refine HN.out.mono ?_; rintro e w' ⟨rfl, rfl⟩)
    go_ret
    exact ⟨rfl, rfl⟩

theorem append_walk (B p : Nat) (sv fv x : Value) (bs xs : List UInt8) (fu : Option Int) (w : World) (hL : LogIs w B p sv fv bs fu false) (hx : Rd w x 1 xs.length (bv xs)) (hxb : ∀ k, x.ownBlock = some k → 0 < xs.length → ¬ foot p sv fv k)
    (hn : bs.length + xs.length ≤ 1048576) (hB : B ≤ w.heap.size) :
    Calls Try.prog 16 #[.pointer (some ⟨p, 0, none⟩), x] w (AppPost w B p sv fv bs xs fu) := by
  obtain ⟨sa, sc, rfl, -⟩ := Rd.of_own hL.row
  obtain ⟨xa, xc, rfl, hx1, hx2, hx3, hx4⟩ := hx
  have h0 := cell_of_heap (j := 0) (v := .slice sa bs.length sc) hL.cells rfl
  have h1 := cell_of_heap (j := 1) (v := fv) hL.cells rfl
  have h2 := cell_of_heap (j := 2) (v := .bool false) hL.cells rfl
  have h2f := free_of_heap (j := 2) hL.cells
  have hs := hL.small
  have hno := none_any p _ _ _ _ w hL.cells
  have HN := Go.Lib.hid hno; clear hno
  have HL := Go.Lib.hid hL; clear hL
  have HX := Go.Lib.hid hx1; clear hx1
  have HX4 := Go.Lib.hid hx4; clear hx4
  have HXB := Go.Lib.hid hxb; clear hxb
  rcases HL.out.fuse with ⟨rfl, rfl⟩ | ⟨q, y, rfl, rfl, hy0, hy1, hqB, hq⟩
  · have HKK : Hid (xs.length = keptOf none xs.length) := rfl
    go_enter Try.func16, Try.ntmps16
    go_wp2_with (go_at_call 25; refine HN.out.mono ?_; rintro e w' ⟨rfl, rfl⟩)
    obtain ⟨W, hW⟩ : ∃ W, W = w := ⟨_, rfl⟩
    rw [← hW]
    have C0 : Chg No W W.drew := (Chg.refl _ _).drew
    have hrow : W.ownsRow B 5 1 (.slice sa bs.length sc) bs.length (bv bs) := by rw [hW]; exact HL.out.row
    have hWp : W.heap[p]? = some (.cells #[.slice sa bs.length sc, .pointer none, .bool false, .bool true] 43 (0, 0)) := by rw [hW]; exact HL.out.cells
    have hBW : B ≤ W.drew.heap.size := by rw [hW]; exact hB
    have HCW : Hid (Chg (· = p) w W) := by rw [hW]; exact Chg.refl _ _
    clear hW
    have g0 : W.cell? ⟨p, 0, none⟩ = some (Value.slice sa bs.length sc) := cell_of_heap hWp rfl
    have HWp := Go.Lib.hid hWp; clear hWp
    have e1 : IntKind.i64.wrap ((bs.length : Int) + (xs.length : Int)) = (bs.length : Int) + (xs.length : Int) := IntWalk.i64_in _ (by omega)
    have e2 : (0 : Int) ≤ (bs.length : Int) + (xs.length : Int) := by omega
    have e3 : ((bs.length : Int) + (xs.length : Int)).toNat = bs.length + xs.length := by omega
    go_region_held3 (fun w' => Chg No W w' ∧ w'.cell? ⟨p, 0, none⟩ = some (Value.slice sa bs.length sc)) (first | exact ⟨C0, g0⟩ | exact ⟨C0.trans (by assumption), (C0.trans (by assumption)).cell g0 id⟩)
      (first | (go_at_call 26; refine (grow_any B _ _ _ (xs.length : Int) _ (C0.own hrow fun _ _ => id) hBW (by omega) (by omega)).mono ?_; rintro e w1 ⟨ra, rc, rfl, hr1, hr2, hr3, hr4⟩))
    obtain ⟨hc1, g0'⟩ : Chg No W w1 ∧ w1.cell? ⟨p, 0, none⟩ = some (Value.slice sa bs.length sc) := by assumption
    obtain ⟨g, cur, hra, hcl, hg, htk, hgB, hgl, hrm⟩ : ∃ (g : Nat) (cur : List Value), (0 < xs.length → ra = some ⟨g, 0, none⟩) ∧ (0 < xs.length → bs.length + xs.length ≤ cur.length) ∧ (0 < xs.length → w1.heap[g]? = some (.cells cur.toArray 5 (0, 0))) ∧ (0 < xs.length → cur.take bs.length = bv bs) ∧ (0 < xs.length → B ≤ g) ∧ (0 < xs.length → cur.length = rc) ∧ rc ≤ maxLen := by
      rcases hr1.2 with ⟨h, h0⟩ | ⟨g, cap, cur, h, hb, hgg, hnc, hcm, hcs, htk⟩
      · injection h with _ _ h
        exact ⟨B, [], fun h => absurd h (by omega), fun h => absurd h (by omega), fun h => absurd h (by omega), fun h => absurd h (by omega), fun _ => Nat.le_refl _, fun h => absurd h (by omega), by unfold maxLen; omega⟩
      · injection h with ha _ hcc; subst hcc
        exact ⟨g, cur.toList, fun _ => ha, fun _ => by simp [hcs]; omega, fun _ => by simpa using hgg, fun _ => by simpa using htk, fun _ => hb, fun _ => by simpa using hcs, hcm⟩
    have HH := Go.Lib.hid hra; clear hra
    have HHc := Go.Lib.hid hcl; clear hcl
    have HHg := Go.Lib.hid hg; clear hg
    have HHt := Go.Lib.hid htk; clear htk
    have HHl := Go.Lib.hid hgl; clear hgl
    have HR4 := Go.Lib.hid hr4; clear hr4
    have hp1 : w1.heap[p]? = some (.cells #[.slice sa bs.length sc, .pointer none, .bool false, .bool true] 43 (0, 0)) := hc1.heap HWp.out id
    have hpg : 0 < xs.length → p ≠ g := fun h => ne_of_heap hp1 (HHg.out h) (by decide)
    have hxr : Rd w1 (.slice xa xs.length xc) 1 xs.length (bv xs) := ((Rd.mk' HX.out hx2 hx3 HX4.out).chg HCW.out (fun k hk h0 e => HXB.out k hk h0 (.inl e))).chg hc1 (fun _ _ _ => id)
    have HP1 := Go.Lib.hid hp1; clear hp1
    go_wp2_with ((with_reducible show wpList _ _ _ (⟨some 66, _, _, _, _, _⟩ :: _) _ _); refine wpList_copy_rd rfl (.tmp 64) (.tmp 65) 27 27 rfl 5 Try.underlying27 (by kernel_rfl) _ _ _ rfl (.slice xa xs.length xc) rfl xs.length (bv xs) hxr g bs.length cur 5 xs.length (by omega) HHg.out (fun hp => by rw [HH.out hp]; simp [add0]; omega) HHc.out (bv_one _) ?_; rintro w2 hw1 hw2 hw3; have hp2 := hw2.heap HP1.out (fun h => hpg h.1 h.2); have HP2 := Go.Lib.hid hp2; clear hp2; have HW3 := Go.Lib.hid hw3; clear hw3; have HW1 := Go.Lib.hid hw1; clear hw1; have q0 := cell_of_heap (j := 0) (v := .slice sa bs.length sc) HP2.out rfl; have q2 := cell_of_heap (j := 2) (v := .bool false) HP2.out rfl; have qf := free_of_heap (j := 0) HP2.out)
    all_goals go_ret
    all_goals first | exact append_close xs.length rfl HKK.out HL.out hn HCW.out hc1 hr1 hr2 HR4.out HH.out HHc.out HHg.out HW1.out hw2 HW3.out HHt.out HHl.out hgB hrm HP2.out | (obtain rfl : rc = bs.length := (by assumption); exact append_close xs.length rfl HKK.out HL.out hn HCW.out hc1 hr1 hr2 HR4.out HH.out HHc.out HHg.out HW1.out hw2 HW3.out HHt.out HHl.out hgB hrm HP2.out)
  · obtain ⟨y, rfl⟩ := Int.eq_ofNat_of_zero_le hy0
    have hq0 := cell_of_heap (j := 0) (v := .int .i64 y) hq rfl
    clear hq
    by_cases hlt : xs.length ≤ y
    · skip
      have HKK : Hid (xs.length = keptOf (some (y : Int)) xs.length) := by unfold Hid keptOf; simp; omega
      go_enter Try.func16, Try.ntmps16
      go_wp2_with (go_at_call 25; refine HN.out.mono ?_; rintro e w' ⟨rfl, rfl⟩)
      obtain ⟨W, hW⟩ : ∃ W, W = w.setCell ⟨p, 2, none⟩ (.bool true) := ⟨_, rfl⟩
      rw [← hW]
      have C0 : Chg No W W.drew := (Chg.refl _ _).drew
      have hCW : Chg (· = p) w W := by rw [hW]; exact (Chg.refl (· = p) w).setCell (p := ⟨p, 2, none⟩) (fun _ => rfl) _
      have hrow : W.ownsRow B 5 1 (.slice sa bs.length sc) bs.length (bv bs) := hCW.own HL.out.row fun k hk e => by
        subst e
        rcases HL.out.row.2 with ⟨h, _⟩ | ⟨g', cap, cur', h, hb, hg, _⟩
        · rw [h] at hk; simp [Value.ownBlock] at hk
        · rw [h] at hk; simp [Value.ownBlock] at hk; subst hk
          exact ne_of_heap HL.out.cells hg (by decide) rfl
      have hWp : W.heap[p]? = some (.cells #[.slice sa bs.length sc, .pointer (some ⟨q, 0, none⟩), .bool true, .bool true] 43 (0, 0)) := by rw [hW]; exact hset_same HL.out.cells _
      have hBW : B ≤ W.drew.heap.size := Nat.le_trans hB hCW.size
      have HCW := Go.Lib.hid hCW; clear hCW
      clear hW
      have g0 : W.cell? ⟨p, 0, none⟩ = some (Value.slice sa bs.length sc) := cell_of_heap hWp rfl
      have HWp := Go.Lib.hid hWp; clear hWp
      have e1 : IntKind.i64.wrap ((bs.length : Int) + (xs.length : Int)) = (bs.length : Int) + (xs.length : Int) := IntWalk.i64_in _ (by omega)
      have e2 : (0 : Int) ≤ (bs.length : Int) + (xs.length : Int) := by omega
      have e3 : ((bs.length : Int) + (xs.length : Int)).toNat = bs.length + xs.length := by omega
      go_region_held3 (fun w' => Chg No W w' ∧ w'.cell? ⟨p, 0, none⟩ = some (Value.slice sa bs.length sc)) (first | exact ⟨C0, g0⟩ | exact ⟨C0.trans (by assumption), (C0.trans (by assumption)).cell g0 id⟩)
        (first | (go_at_call 26; refine (grow_any B _ _ _ (xs.length : Int) _ (C0.own hrow fun _ _ => id) hBW (by omega) (by omega)).mono ?_; rintro e w1 ⟨ra, rc, rfl, hr1, hr2, hr3, hr4⟩))
      obtain ⟨hc1, g0'⟩ : Chg No W w1 ∧ w1.cell? ⟨p, 0, none⟩ = some (Value.slice sa bs.length sc) := by assumption
      obtain ⟨g, cur, hra, hcl, hg, htk, hgB, hgl, hrm⟩ : ∃ (g : Nat) (cur : List Value), (0 < xs.length → ra = some ⟨g, 0, none⟩) ∧ (0 < xs.length → bs.length + xs.length ≤ cur.length) ∧ (0 < xs.length → w1.heap[g]? = some (.cells cur.toArray 5 (0, 0))) ∧ (0 < xs.length → cur.take bs.length = bv bs) ∧ (0 < xs.length → B ≤ g) ∧ (0 < xs.length → cur.length = rc) ∧ rc ≤ maxLen := by
        rcases hr1.2 with ⟨h, h0⟩ | ⟨g, cap, cur, h, hb, hgg, hnc, hcm, hcs, htk⟩
        · injection h with _ _ h
          exact ⟨B, [], fun h => absurd h (by omega), fun h => absurd h (by omega), fun h => absurd h (by omega), fun h => absurd h (by omega), fun _ => Nat.le_refl _, fun h => absurd h (by omega), by unfold maxLen; omega⟩
        · injection h with ha _ hcc; subst hcc
          exact ⟨g, cur.toList, fun _ => ha, fun _ => by simp [hcs]; omega, fun _ => by simpa using hgg, fun _ => by simpa using htk, fun _ => hb, fun _ => by simpa using hcs, hcm⟩
      have HH := Go.Lib.hid hra; clear hra
      have HHc := Go.Lib.hid hcl; clear hcl
      have HHg := Go.Lib.hid hg; clear hg
      have HHt := Go.Lib.hid htk; clear htk
      have HHl := Go.Lib.hid hgl; clear hgl
      have HR4 := Go.Lib.hid hr4; clear hr4
      have hp1 : w1.heap[p]? = some (.cells #[.slice sa bs.length sc, .pointer (some ⟨q, 0, none⟩), .bool true, .bool true] 43 (0, 0)) := hc1.heap HWp.out id
      have hpg : 0 < xs.length → p ≠ g := fun h => ne_of_heap hp1 (HHg.out h) (by decide)
      have hxr : Rd w1 (.slice xa xs.length xc) 1 xs.length (bv xs) := ((Rd.mk' HX.out hx2 hx3 HX4.out).chg HCW.out (fun k hk h0 e => HXB.out k hk h0 (.inl e))).chg hc1 (fun _ _ _ => id)
      have HP1 := Go.Lib.hid hp1; clear hp1
      go_wp2_with ((with_reducible show wpList _ _ _ (⟨some 66, _, _, _, _, _⟩ :: _) _ _); refine wpList_copy_rd rfl (.tmp 64) (.tmp 65) 27 27 rfl 5 Try.underlying27 (by kernel_rfl) _ _ _ rfl (.slice xa xs.length xc) rfl xs.length (bv xs) hxr g bs.length cur 5 xs.length (by omega) HHg.out (fun hp => by rw [HH.out hp]; simp [add0]; omega) HHc.out (bv_one _) ?_; rintro w2 hw1 hw2 hw3; have hp2 := hw2.heap HP1.out (fun h => hpg h.1 h.2); have HP2 := Go.Lib.hid hp2; clear hp2; have HW3 := Go.Lib.hid hw3; clear hw3; have HW1 := Go.Lib.hid hw1; clear hw1; have q0 := cell_of_heap (j := 0) (v := .slice sa bs.length sc) HP2.out rfl; have q2 := cell_of_heap (j := 2) (v := .bool true) HP2.out rfl; have qf := free_of_heap (j := 0) HP2.out)
      all_goals go_ret
      all_goals first | exact append_close xs.length rfl HKK.out HL.out hn HCW.out hc1 hr1 hr2 HR4.out HH.out HHc.out HHg.out HW1.out hw2 HW3.out HHt.out HHl.out hgB hrm HP2.out | (obtain rfl : rc = bs.length := (by assumption); exact append_close xs.length rfl HKK.out HL.out hn HCW.out hc1 hr1 hr2 HR4.out HH.out HHc.out HHg.out HW1.out hw2 HW3.out HHt.out HHl.out hgB hrm HP2.out)
    · skip
      have HKK : Hid (y = keptOf (some (y : Int)) xs.length) := by unfold Hid keptOf; simp; omega
      go_enter Try.func16, Try.ntmps16
      go_wp2_with (go_at_call 25; refine HN.out.mono ?_; rintro e w' ⟨rfl, rfl⟩)
      obtain ⟨W, hW⟩ : ∃ W, W = w.setCell ⟨p, 2, none⟩ (.bool true) := ⟨_, rfl⟩
      rw [← hW]
      have C0 : Chg No W W.drew := (Chg.refl _ _).drew
      have hCW : Chg (· = p) w W := by rw [hW]; exact (Chg.refl (· = p) w).setCell (p := ⟨p, 2, none⟩) (fun _ => rfl) _
      have hrow : W.ownsRow B 5 1 (.slice sa bs.length sc) bs.length (bv bs) := hCW.own HL.out.row fun k hk e => by
        subst e
        rcases HL.out.row.2 with ⟨h, _⟩ | ⟨g', cap, cur', h, hb, hg, _⟩
        · rw [h] at hk; simp [Value.ownBlock] at hk
        · rw [h] at hk; simp [Value.ownBlock] at hk; subst hk
          exact ne_of_heap HL.out.cells hg (by decide) rfl
      have hWp : W.heap[p]? = some (.cells #[.slice sa bs.length sc, .pointer (some ⟨q, 0, none⟩), .bool true, .bool true] 43 (0, 0)) := by rw [hW]; exact hset_same HL.out.cells _
      have hBW : B ≤ W.drew.heap.size := Nat.le_trans hB hCW.size
      have HCW := Go.Lib.hid hCW; clear hCW
      clear hW
      have g0 : W.cell? ⟨p, 0, none⟩ = some (Value.slice sa bs.length sc) := cell_of_heap hWp rfl
      have HWp := Go.Lib.hid hWp; clear hWp
      have e1 : IntKind.i64.wrap ((bs.length : Int) + (y : Int)) = (bs.length : Int) + (y : Int) := IntWalk.i64_in _ (by omega)
      have e2 : (0 : Int) ≤ (bs.length : Int) + (y : Int) := by omega
      have e3 : ((bs.length : Int) + (y : Int)).toNat = bs.length + y := by omega
      go_region_held3 (fun w' => Chg No W w' ∧ w'.cell? ⟨p, 0, none⟩ = some (Value.slice sa bs.length sc)) (first | exact ⟨C0, g0⟩ | exact ⟨C0.trans (by assumption), (C0.trans (by assumption)).cell g0 id⟩)
        (first | (go_at_call 26; refine (grow_any B _ _ _ (y : Int) _ (C0.own hrow fun _ _ => id) hBW (by omega) (by omega)).mono ?_; rintro e w1 ⟨ra, rc, rfl, hr1, hr2, hr3, hr4⟩))
      obtain ⟨hc1, g0'⟩ : Chg No W w1 ∧ w1.cell? ⟨p, 0, none⟩ = some (Value.slice sa bs.length sc) := by assumption
      obtain ⟨g, cur, hra, hcl, hg, htk, hgB, hgl, hrm⟩ : ∃ (g : Nat) (cur : List Value), (0 < y → ra = some ⟨g, 0, none⟩) ∧ (0 < y → bs.length + y ≤ cur.length) ∧ (0 < y → w1.heap[g]? = some (.cells cur.toArray 5 (0, 0))) ∧ (0 < y → cur.take bs.length = bv bs) ∧ (0 < y → B ≤ g) ∧ (0 < y → cur.length = rc) ∧ rc ≤ maxLen := by
        rcases hr1.2 with ⟨h, h0⟩ | ⟨g, cap, cur, h, hb, hgg, hnc, hcm, hcs, htk⟩
        · injection h with _ _ h
          exact ⟨B, [], fun h => absurd h (by omega), fun h => absurd h (by omega), fun h => absurd h (by omega), fun h => absurd h (by omega), fun _ => Nat.le_refl _, fun h => absurd h (by omega), by unfold maxLen; omega⟩
        · injection h with ha _ hcc; subst hcc
          exact ⟨g, cur.toList, fun _ => ha, fun _ => by simp [hcs]; omega, fun _ => by simpa using hgg, fun _ => by simpa using htk, fun _ => hb, fun _ => by simpa using hcs, hcm⟩
      have HH := Go.Lib.hid hra; clear hra
      have HHc := Go.Lib.hid hcl; clear hcl
      have HHg := Go.Lib.hid hg; clear hg
      have HHt := Go.Lib.hid htk; clear htk
      have HHl := Go.Lib.hid hgl; clear hgl
      have HR4 := Go.Lib.hid hr4; clear hr4
      have hp1 : w1.heap[p]? = some (.cells #[.slice sa bs.length sc, .pointer (some ⟨q, 0, none⟩), .bool true, .bool true] 43 (0, 0)) := hc1.heap HWp.out id
      have hpg : 0 < y → p ≠ g := fun h => ne_of_heap hp1 (HHg.out h) (by decide)
      have hxr : Rd w1 (.slice xa xs.length xc) 1 xs.length (bv xs) := ((Rd.mk' HX.out hx2 hx3 HX4.out).chg HCW.out (fun k hk h0 e => HXB.out k hk h0 (.inl e))).chg hc1 (fun _ _ _ => id)
      have HP1 := Go.Lib.hid hp1; clear hp1
      go_wp2_with ((with_reducible show wpList _ _ _ (⟨some 66, _, _, _, _, _⟩ :: _) _ _); refine wpList_copy_rd rfl (.tmp 64) (.tmp 65) 27 27 rfl 5 Try.underlying27 (by kernel_rfl) _ _ _ rfl (.slice xa xs.length xc) rfl xs.length (bv xs) hxr g bs.length cur 5 y (by omega) HHg.out (fun hp => by rw [HH.out hp]; simp [add0]; omega) HHc.out (bv_one _) ?_; rintro w2 hw1 hw2 hw3; have hp2 := hw2.heap HP1.out (fun h => hpg h.1 h.2); have HP2 := Go.Lib.hid hp2; clear hp2; have HW3 := Go.Lib.hid hw3; clear hw3; have HW1 := Go.Lib.hid hw1; clear hw1; have q0 := cell_of_heap (j := 0) (v := .slice sa bs.length sc) HP2.out rfl; have q2 := cell_of_heap (j := 2) (v := .bool true) HP2.out rfl; have qf := free_of_heap (j := 0) HP2.out)
      all_goals go_ret
      all_goals first | exact append_close y rfl HKK.out HL.out hn HCW.out hc1 hr1 hr2 HR4.out HH.out HHc.out HHg.out HW1.out hw2 HW3.out HHt.out HHl.out hgB hrm HP2.out | (obtain rfl : rc = bs.length := (by assumption); exact append_close y rfl HKK.out HL.out hn HCW.out hc1 hr1 hr2 HR4.out HH.out HHc.out HHg.out HW1.out hw2 HW3.out HHt.out HHl.out hgB hrm HP2.out)
end Go.Proofs.Ytgjllhdbkdcofaa
