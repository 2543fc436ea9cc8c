/- Small things that the Store's and the Place chapter share. -/
import Derived.Test.YthpmgnbehahkfaaGreatJDd
import Derived.Test.YthpmgnbehahkfaaGreatJYd
import Derived.Test.YthpmgnbehahkfaaGreatJDb
import Derived.Test.YthpmgnbehahkfaaGreatJQd
import Derived.Test.YthpmgnbehahkfaaGreatJQh
set_option linter.unusedSimpArgs false
set_option linter.unusedVariables false
namespace Go.Proofs.YthpmgnbehahkfaaGreat
open Go.RowKit Go.Dk Go.Dn

theorem wr3' : IntKind.i64.wrap 3 = 3 := rfl
theorem wr4' : IntKind.i64.wrap 4 = 4 := rfl
theorem wr5' : IntKind.i64.wrap 5 = 5 := rfl
theorem wr1' : IntKind.i64.wrap 1 = 1 := rfl
theorem wr2' : IntKind.i64.wrap 2 = 2 := rfl
theorem map_set {α : Type} (f g : Nat → α) (n o : Nat) (x : α) (h : o < n) (hx : g o = x) (hg : ∀ j, j < n → j ≠ o → g j = f j) : ((List.range n).map f).set o x = (List.range n).map g := by
  apply List.ext_getElem?
  intro j
  by_cases hj : j < n
  · by_cases e : j = o
    · subst e
      rw [List.getElem?_set_self (by simpa using h), List.getElem?_map, List.getElem?_range hj, ← hx]
      rfl
    · rw [List.getElem?_set_ne (Ne.symm e), List.getElem?_map, List.getElem?_range hj, List.getElem?_map, List.getElem?_range hj]
      simp [hg j hj e]
  · rw [List.getElem?_eq_none (by simp; omega), List.getElem?_eq_none (by simp; omega)]
def setC (u : Nat → Int) (o : Nat) (x : Int) : Nat → Int := fun m => if m = o then x else u m
theorem encI_set (N k : Nat) (f : Nat → Int) (x : Int) (h : k < N) : (encL N fun j => [I (f j)]).set k [I x] = encL N fun j => [I (setC f k x j)] := by
  refine map_set _ _ _ _ _ h (by simp [setC]) fun j _ hne => ?_
  simp [setC, hne]
/-- all but the store's own stays -/
def Kept (l : List Nat) (nx : Nat) (m m' : Nat → Option M) : Prop := ∀ id, id < nx → id ∉ l → m' id = m id
theorem Kept.refl (l : List Nat) (nx : Nat) (m : Nat → Option M) : Kept l nx m m := fun _ _ _ => rfl
theorem Kept.trans {l : List Nat} {nx nx' : Nat} {a b c : Nat → Option M} (h : Kept l nx a b) (k : Kept l nx' b c) (hn : nx ≤ nx') : Kept l nx a c := fun id hid hl => (k id (by omega) hl).trans (h id hid hl)
theorem sizeB (n sz b : Nat) (h : n ≤ 1048576) (hb : b ≤ 1000) : n * b ≤ 140737488355328 := by
  have := Nat.mul_le_mul h hb
  omega

theorem Tryz.infoClint : (Tryz.prog.info? 3).bind (fun i => i.zero.map fun z => (z.cells.size, i.size, i.bytes)) = some (1, 1, 8) := by kernel_rfl
set_option maxRecDepth 100000 in
set_option maxHeartbeats 1000000 in
theorem cloneint_any (w : World) (v : Value) (n : Nat) (L : List Value) (hx : Rd w v 1 n L) (h1 : ∀ u ∈ L, u.oneCell' = true) (hn : n ≤ 1048576) :
    Calls Tryz.prog 83 #[v] w fun e w' => ∃ v', e = .returned v' ∧ w'.ownsRow w.heap.size 3 1 v' n L ∧ Chg No w w' := by
  obtain ⟨i0, hi, z0, hz0, hzz⟩ : ∃ i0, Tryz.prog.info? 3 = some i0 ∧ ∃ z, i0.zero = some z ∧ (z.cells.size = 1 ∧ i0.size = 1 ∧ i0.bytes = 8) := by
    have h := Tryz.infoClint
    simp only [Option.bind_eq_some_iff, Option.map_eq_some_iff, Prod.mk.injEq] at h
    obtain ⟨i, h1, z, h2, h3⟩ := h
    exact ⟨i, h1, z, h2, h3⟩
  obtain ⟨hz1, hz2, hz3⟩ := hzz
  have q22 : ∀ (w : World) (a : Option Addr) (n c n' c' : Nat), (binOp .eql 27 (.slice a n c) (.slice none n' c')).run Tryz.prog w = .ok (.bool a.isNone) w := fun w a n c n' c' => Lib.run_eql_slice_nil w _ _ a n c n' c' Tryz.underlying27
  obtain ⟨a, c, rfl, hlen, hle, hnil, hcells⟩ := id hx
  have hrd := fun W (h : Chg No w W) => hx.chg h (fun _ _ _ h => h)
  clear hx hcells
  have hb1 : (0 + n) * 8 ≤ 140737488355328 := sizeB _ 1 _ (by omega) (by decide)
  have hb2 : 0 + n ≤ maxLen := by unfold maxLen; omega
  cases a with
  | none =>
    obtain rfl : c = 0 := hnil rfl
    obtain rfl : n = 0 := by omega
    obtain rfl : L = [] := List.eq_nil_of_length_eq_zero (by omega)
    go_enter Tryz.func83, Tryz.ntmps83
    go_wp2_with fail
    go_ret
    exact ⟨_, rfl, World.ownsRow_nil _ _ _ _, Chg.refl _ _⟩
  | some ad =>
    go_enter Tryz.func83, Tryz.ntmps83
    go_wp2_with (at_builtin; refine wpList_append_rd _ rfl _ _ _ rfl w.heap.size 3 i0 _ 1 8 Tryz.underlying27 hi hz0 hz2 hz3 hz1 (by decide) (.slice (some ⟨w.heap.size, 0, none⟩) 0 0) 0 [] rfl (World.ownsRow_made w #[] 0 (Nat.le_refl _) (Nat.zero_le _) rfl) (.slice (some ad) n c) n L rfl (hrd _ ((Chg.refl No w).alloc _)) h1 hb2 hb1 (by simp) ?_; intro v1 w3 ho1 hg1 hi1 hfr1)
    go_ret
    exact ⟨_, rfl, by simpa using ho1, ((Chg.refl No w).alloc _).grown hg1 (fun k hk hlt => by simp [Value.ownBlock] at hk; omega)⟩
/-- slices.Clone is a new row -/
theorem cloneint_S {x : D} {xs : List (List FD)} {mem : Nat → Option M} {nx : Nat} {K : D → (Nat → Option M) → Nat → Prop} (hel : elems mem 1 x = some xs) (hn : xs.length ≤ 1048576)
    (hk : K (.own nx 0) (upd mem nx (some (.row 3 0 1 xs))) (nx + 1)) : callS Tryz.prog 83 [x] mem nx K :=
  callS_row (goes_of Tryz.func83 rfl rfl) (by decide) hel (fun w v L h h1 => cloneint_any w v _ L h h1 hn) hk
theorem cloneint_copy : CopyRow Tryz.prog 83 3 1 :=
  ⟨⟨goes_of Tryz.func83 rfl rfl, by decide⟩, fun w v n L hn h h1 => cloneint_any w v n L h h1 hn⟩

theorem there_pure (n m : Int) : Pure Tryz.prog 98 [I n, I m] (B (decide (0 ≤ n) && decide (n < m))) := by
  refine Pure.of_run (lit := true) Tryz.func98 rfl rfl rfl rfl (Nat.le_of_ble_eq_true rfl) (run_of_runL ?_)
  unfold St.enter
  by_cases h : 0 ≤ n
  · simp -dsimp -implicitDefEqProofs [go_sem, h]
  · simp -dsimp -implicitDefEqProofs [go_sem, h]
theorem snapCheck_pure (s : SnapD) (ok : SnapOk s) : Pure Tryz.prog 91 [snapF s] (I (checkE s)) :=
  pure_of Tryz.func91 rfl rfl fun x vs hr => by
    obtain ⟨u, rfl, h1⟩ := repL1 hr
    obtain ⟨n, p, o, lv, tv, pv, rfl, h⟩ := snap_of_rep h1 ok
    exact snapCheck_any h
theorem refCheck_pure (s : SnapD) (ok : SnapOk s) : Pure Tryz.prog 100 [snapF s] (I (checkE s)) :=
  pure_of Tryz.func100 rfl rfl fun x vs hr => by
    obtain ⟨u, rfl, h1⟩ := repL1 hr
    obtain ⟨n, p, o, lv, tv, pv, rfl, h⟩ := snap_of_rep h1 ok
    exact refCheckS_any h
end Go.Proofs.YthpmgnbehahkfaaGreat
