/- Rows of quantities over data: quant.Add, Sub, vec.each, Plus, Minus. -/
/- slices.Clone, of each row that a cluster has (printed by genclone.py). -/
import Derived.Test.YthpmgnbehahkfaaGreatJQg
import Derived.Test.YthpmgnbehahkfaaGreatJDb
import Derived.Test.YthpmgnbehahkfaaGreatJQd
import Derived.Test.YthpmgnbehahkfaaGreatJQa
import Derived.Test.YthpmgnbehahkfaaGreatJDa
import Derived.Test.YthpmgnbehahkfaaGreatJQh
set_option linter.unusedSimpArgs false
set_option linter.unusedVariables false
section
namespace Go.Proofs.YthpmgnbehahkfaaGreat
open Go.RowKit Go.Dk Go.Dn

theorem ints_sl {x : X} {v : Value} {l : Lst Int} (h : Rep x v (intsF l)) : ∃ a c, v = .slice a l.n c ∧ Sl x.W a l.n c 1 (fun k => [.int .i64 (l.el k)]) := by
  unfold intsF at h
  obtain ⟨a, c, rfl, cs, hs, hr⟩ := sl_of_rep h
  refine ⟨a, c, rfl, hs.congr fun k hk => ?_⟩
  have := hr k hk
  simp only [repC_V, repC_nil] at this
  obtain ⟨_, e, -, rfl⟩ := this
  exact e
theorem checked_pure (l : Lst Int) (hn : l.n ≤ 1048576) (hf : Fine l.el l.n) : Pure Tryz.prog 170 [intsF l] (I 0) :=
  pure_of Tryz.func170 rfl rfl fun x vs hr => by
    obtain ⟨u, rfl, h1⟩ := repL1 hr
    obtain ⟨a, c, rfl, hs⟩ := ints_sl h1
    exact checked_any l.el a l.n c x.W hs hn hf
theorem add_pure (l : Lst Int) (hn : l.n ≤ 1048576) (hf : Fine l.el l.n) : Pure Tryz.prog 179 [intsF l] (.tup [I (addV l.el l.n), I (addE l.el l.n)]) :=
  ⟨goes_of Tryz.func179 rfl rfl, fun x vs _ hr => by
    obtain ⟨u, rfl, h1⟩ := repL1 hr
    obtain ⟨a, c, rfl, hs⟩ := ints_sl h1
    exact (add_any l.el a l.n c x.W hs hn hf).mono fun e w' ⟨h1, h2⟩ => ⟨_, h1, by simp [Rep, RepL], h2⟩⟩
theorem two_ints (a b : Int) : FD.sl 1 [[I a], [I b]] = intsF ⟨2, fun k => if k = 0 then a else b⟩ := rfl
theorem add2_pure (a b : Int) (ha : 0 ≤ a) (hb : 0 ≤ b) (hs : a + b ≤ 1099511627776) : Pure Tryz.prog 179 [.sl 1 [[I a], [I b]]] (.tup [I (a + b), I 0]) := by
  have h := add_pure ⟨2, fun k => if k = 0 then a else b⟩ (by show 2 ≤ _; omega) (fun k hk => by
    show 0 ≤ (if k = 0 then a else b) ∧ (if k = 0 then a else b) ≤ _
    split <;> omega)
  have e : sumF (fun k => if k = 0 then a else b) 2 = a + b := by simp [sumF]
  unfold addV addE at h
  dsimp only at h
  rw [e, if_pos hs, if_pos hs] at h
  exact h
theorem checked2_pure (a b : Int) (ha : 0 ≤ a) (hb : 0 ≤ b) (h1 : a ≤ 1099511627776) (h2 : b ≤ 1099511627776) : Pure Tryz.prog 170 [.sl 1 [[I a], [I b]]] (I 0) :=
  checked_pure ⟨2, fun k => if k = 0 then a else b⟩ (by show 2 ≤ _; omega) (fun k hk => by
    show 0 ≤ (if k = 0 then a else b) ∧ (if k = 0 then a else b) ≤ _
    split <;> omega)
set_option maxRecDepth 100000 in
theorem sub_pure (a b : Int) (hb : 0 ≤ b) (hab : b ≤ a) (ha : a ≤ 1099511627776) : Pure Tryz.prog 177 [I a, I b] (.tup [I (a - b), I 0]) := by
  have hn : ¬ a < b := by omega
  refine Pure.of_run (lit := true) Tryz.func177 rfl rfl rfl rfl (Nat.le_of_ble_eq_true rfl) (run_of_runL ?_)
  unfold St.enter
  simp -dsimp -implicitDefEqProofs [go_sem, hn]
  refine callW_f (checked2_pure a b (by omega) (by omega) (by omega) (by omega)) ?_
  simp -dsimp -implicitDefEqProofs [go_sem, hn]
  exact w64 (by omega) (by omega)
theorem five_cases {i : Nat} (hi : i < 5) : i = 0 ∨ i = 1 ∨ i = 2 ∨ i = 3 ∨ i = 4 := by omega
set_option maxRecDepth 100000 in
theorem plus1_pure (a b : Nat → Int) (i : Nat) (hi : i < 5) (ha : 0 ≤ a i) (hb : 0 ≤ b i) (hs : a i + b i ≤ 1099511627776) : Pure Tryz.prog 178 [I i, .ref [.sl 5 [fiveC a, fiveC b]]] (.tup [I (a i + b i), I 0]) := by
  have hadd := add2_pure (a i) (b i) ha hb hs
  refine Pure.of_run (lit := true) Tryz.func178 rfl rfl rfl rfl (Nat.le_of_ble_eq_true rfl) (run_of_runL ?_)
  unfold St.enter
  have w1 : IntKind.i64.wrap 1 = 1 := rfl
  have w2 : IntKind.i64.wrap 2 = 2 := rfl
  rcases five_cases hi with rfl | rfl | rfl | rfl | rfl
  all_goals
    simp -dsimp -implicitDefEqProofs [go_sem, fiveC]
    refine runL_unroll 3 (iter_step ?_)
    simp -dsimp -implicitDefEqProofs [go_sem, w1, w2]
    refine iter_step ?_
    simp -dsimp -implicitDefEqProofs [go_sem, w1, w2]
    refine iter_step ?_
    simp -dsimp -implicitDefEqProofs [go_sem, w1, w2]
    refine callW_z (fs := [.sl 1 [[I _], [I _]]]) (by simp -dsimp -implicitDefEqProofs [go_sem]) hadd rfl ?_
    simp -dsimp -implicitDefEqProofs [go_sem]
theorem wr3' : IntKind.i64.wrap 3 = 3 := rfl
theorem wr4' : IntKind.i64.wrap 4 = 4 := rfl
theorem wr5' : IntKind.i64.wrap 5 = 5 := rfl
theorem wr1' : IntKind.i64.wrap 1 = 1 := rfl
theorem wr2' : IntKind.i64.wrap 2 = 2 := rfl
set_option maxRecDepth 100000 in
theorem vecEach_pure {g : FuncId} {gc : List FD} (v : Nat → Int) (h : ∀ i : Nat, i < 5 → Pure Tryz.prog g (I i :: gc) (.tup [I (v i), I 0])) : Pure Tryz.prog 175 [.fn g gc] (.tup [fiveF v, I 0]) := by
  have h0 := h 0 (by omega)
  have h1 := h 1 (by omega)
  have h2 := h 2 (by omega)
  have h3 := h 3 (by omega)
  have h4 := h 4 (by omega)
  refine Pure.of_run (lit := true) Tryz.func175 rfl rfl rfl rfl (Nat.le_of_ble_eq_true rfl) (run_of_runL ?_)
  unfold St.enter
  simp -dsimp -implicitDefEqProofs [go_sem]
  refine runL_unroll 6 (iter_step ?_)
  simp -dsimp -implicitDefEqProofs [go_sem, wr1', wr2', wr3', wr4', wr5']
  refine callW_f (fs := I 0 :: gc) h0 ?_
  simp -dsimp -implicitDefEqProofs [go_sem, wr1', wr2', wr3', wr4', wr5']
  refine iter_step ?_
  simp -dsimp -implicitDefEqProofs [go_sem, wr1', wr2', wr3', wr4', wr5']
  refine callW_f (fs := I 1 :: gc) h1 ?_
  simp -dsimp -implicitDefEqProofs [go_sem, wr1', wr2', wr3', wr4', wr5']
  refine iter_step ?_
  simp -dsimp -implicitDefEqProofs [go_sem, wr1', wr2', wr3', wr4', wr5']
  refine callW_f (fs := I 2 :: gc) h2 ?_
  simp -dsimp -implicitDefEqProofs [go_sem, wr1', wr2', wr3', wr4', wr5']
  refine iter_step ?_
  simp -dsimp -implicitDefEqProofs [go_sem, wr1', wr2', wr3', wr4', wr5']
  refine callW_f (fs := I 3 :: gc) h3 ?_
  simp -dsimp -implicitDefEqProofs [go_sem, wr1', wr2', wr3', wr4', wr5']
  refine iter_step ?_
  simp -dsimp -implicitDefEqProofs [go_sem, wr1', wr2', wr3', wr4', wr5']
  refine callW_f (fs := I 4 :: gc) h4 ?_
  simp -dsimp -implicitDefEqProofs [go_sem, wr1', wr2', wr3', wr4', wr5']
  refine iter_step ?_
  simp -dsimp -implicitDefEqProofs [go_sem, wr1', wr2', wr3', wr4', wr5']
  rfl
set_option maxRecDepth 100000 in
theorem plus2_pure (a b : Nat → Int) (h : ∀ i, i < 5 → 0 ≤ a i ∧ 0 ≤ b i ∧ a i + b i ≤ 1099511627776) : Pure Tryz.prog 121 [.sl 5 [fiveC a, fiveC b]] (.tup [fiveF (fun i => a i + b i), I 0]) := by
  refine Pure.of_run (lit := true) Tryz.func121 rfl rfl rfl rfl (Nat.le_of_ble_eq_true rfl) (run_of_runL ?_)
  unfold St.enter
  simp -dsimp -implicitDefEqProofs [go_sem]
  refine callW_f (fs := [.fn _ [.ref [.sl 5 [fiveC a, fiveC b]]]]) (vecEach_pure (fun i => a i + b i) fun i hi => plus1_pure a b i hi (h i hi).1 (h i hi).2.1 (h i hi).2.2) ?_
  simp -dsimp -implicitDefEqProofs [go_sem, fiveF]
set_option maxRecDepth 100000 in
theorem minus1_pure (a b : Nat → Int) (i : Nat) (hi : i < 5) (hb : 0 ≤ b i) (hab : b i ≤ a i) (ha : a i ≤ 1099511627776) : Pure Tryz.prog 176 [I i, .ref (fiveC a), .ref (fiveC b)] (.tup [I (a i - b i), I 0]) := by
  have hsub := sub_pure (a i) (b i) hb hab ha
  refine Pure.of_run (lit := true) Tryz.func176 rfl rfl rfl rfl (Nat.le_of_ble_eq_true rfl) (run_of_runL ?_)
  unfold St.enter
  rcases five_cases hi with rfl | rfl | rfl | rfl | rfl
  all_goals
    simp -dsimp -implicitDefEqProofs [go_sem, fiveC]
    refine runL_draw [[], [0], [1, 0], [], [3], [4, 3], [2, 1, 0, 5, 4, 3], [6, 2, 1, 0, 5, 4, 3], [6, 2, 1, 0, 5, 4, 3], [7, 6, 2, 1, 0, 5, 4, 3, 8], [8, 6, 2, 1, 0, 5, 4, 3, 9, 7]] (by kernel_rfl) (by kernel_rfl) ?_
    simp -dsimp -implicitDefEqProofs [go_sem, fiveC, Tv, Cw, silentAt, silentOp]
    refine callW_f hsub ?_
    simp -dsimp -implicitDefEqProofs [go_sem, Tv, Cw, silentAt, silentOp]
set_option maxRecDepth 100000 in
theorem minus_pure (a b : Nat → Int) (h : ∀ i, i < 5 → 0 ≤ b i ∧ b i ≤ a i ∧ a i ≤ 1099511627776) : Pure Tryz.prog 120 [fiveF a, fiveF b] (.tup [fiveF (fun i => a i - b i), I 0]) := by
  refine Pure.of_run (lit := true) Tryz.func120 rfl rfl rfl rfl (Nat.le_of_ble_eq_true rfl) (run_of_runL ?_)
  unfold St.enter
  simp -dsimp -implicitDefEqProofs [go_sem, fiveF]
  refine callW_f (fs := [.fn _ [.ref (fiveC a), .ref (fiveC b)]]) (vecEach_pure (fun i => a i - b i) fun i hi => minus1_pure a b i hi (h i hi).1 (h i hi).2.1 (h i hi).2.2) ?_
  simp -dsimp -implicitDefEqProofs [go_sem, fiveF]
end Go.Proofs.YthpmgnbehahkfaaGreat
end
section
namespace Go.Proofs.YthpmgnbehahkfaaGreat
open Go.RowKit Go.Dk Go.Dn

theorem sizeB (n sz b : Nat) (h : n ≤ 1048576) (hb : b ≤ 1000) : n * b ≤ 140737488355328 := by
  have := Nat.mul_le_mul h hb
  omega

theorem Tryz.infoClint : (Tryz.prog.info? 3).bind (fun i => i.zero.map fun z => (z.cells.size, i.size, i.bytes)) = some (1, 1, 8) := by kernel_rfl
set_option maxRecDepth 100000 in
set_option maxHeartbeats 1000000 in
theorem cloneint_any (w : World) (v : Value) (n : Nat) (L : List Value) (hx : Rd w v 1 n L) (h1 : ∀ u ∈ L, u.oneCell' = true) (hn : n ≤ 1048576) :
    Calls Tryz.prog 83 #[v] w fun e w' => ∃ v', e = .returned v' ∧ w'.ownsRow w.heap.size 3 1 v' n L ∧ Chg No w w' := by
  obtain ⟨i0, hi, z0, hz0, hzz⟩ : ∃ i0, Tryz.prog.info? 3 = some i0 ∧ ∃ z, i0.zero = some z ∧ (z.cells.size = 1 ∧ i0.size = 1 ∧ i0.bytes = 8) := by
    have h := Tryz.infoClint
    simp only [Option.bind_eq_some_iff, Option.map_eq_some_iff, Prod.mk.injEq] at h
    obtain ⟨i, h1, z, h2, h3⟩ := h
    exact ⟨i, h1, z, h2, h3⟩
  obtain ⟨hz1, hz2, hz3⟩ := hzz
  have q22 : ∀ (w : World) (a : Option Addr) (n c n' c' : Nat), (binOp .eql 27 (.slice a n c) (.slice none n' c')).run Tryz.prog w = .ok (.bool a.isNone) w := fun w a n c n' c' => Lib.run_eql_slice_nil w _ _ a n c n' c' Tryz.underlying27
  obtain ⟨a, c, rfl, hlen, hle, hnil, hcells⟩ := id hx
  have hrd := fun W (h : Chg No w W) => hx.chg h (fun _ _ _ h => h)
  clear hx hcells
  have hb1 : (0 + n) * 8 ≤ 140737488355328 := sizeB _ 1 _ (by omega) (by decide)
  have hb2 : 0 + n ≤ maxLen := by unfold maxLen; omega
  cases a with
  | none =>
    obtain rfl : c = 0 := hnil rfl
    obtain rfl : n = 0 := by omega
    obtain rfl : L = [] := List.eq_nil_of_length_eq_zero (by omega)
    go_enter Tryz.func83, Tryz.ntmps83
    go_wp2_with fail
    go_ret
    exact ⟨_, rfl, World.ownsRow_nil _ _ _ _, Chg.refl _ _⟩
  | some ad =>
    go_enter Tryz.func83, Tryz.ntmps83
    go_wp2_with (at_builtin; refine wpList_append_rd _ rfl _ _ _ rfl w.heap.size 3 i0 _ 1 8 Tryz.underlying27 hi hz0 hz2 hz3 hz1 (by decide) (.slice (some ⟨w.heap.size, 0, none⟩) 0 0) 0 [] rfl (World.ownsRow_made w #[] 0 (Nat.le_refl _) (Nat.zero_le _) rfl) (.slice (some ad) n c) n L rfl (hrd _ ((Chg.refl No w).alloc _)) h1 hb2 hb1 (by simp) ?_; intro v1 w3 ho1 hg1 hi1 hfr1)
    go_ret
    exact ⟨_, rfl, by simpa using ho1, ((Chg.refl No w).alloc _).grown hg1 (fun k hk hlt => by simp [Value.ownBlock] at hk; omega)⟩
/-- slices.Clone is a new row -/
theorem cloneint_S {x : D} {xs : List (List FD)} {mem : Nat → Option M} {nx : Nat} {K : D → (Nat → Option M) → Nat → Prop} (hel : elems mem 1 x = some xs) (hn : xs.length ≤ 1048576)
    (hk : K (.own nx 0) (upd mem nx (some (.row 3 0 1 xs))) (nx + 1)) : callS Tryz.prog 83 [x] mem nx K :=
  callS_row (goes_of Tryz.func83 rfl rfl) (by decide) hel (fun w v L h h1 => cloneint_any w v _ L h h1 hn) hk
theorem cloneint_copy : CopyRow Tryz.prog 83 3 1 :=
  ⟨⟨goes_of Tryz.func83 rfl rfl, by decide⟩, fun w v n L hn h h1 => cloneint_any w v n L h h1 hn⟩

theorem Tryz.infoClLab : (Tryz.prog.info? 148).bind (fun i => i.zero.map fun z => (z.cells.size, i.size, i.bytes)) = some (2, 2, 32) := by kernel_rfl
set_option maxRecDepth 100000 in
set_option maxHeartbeats 1000000 in
theorem cloneLab_any (w : World) (v : Value) (n : Nat) (L : List Value) (hx : Rd w v 2 n L) (h1 : ∀ u ∈ L, u.oneCell' = true) (hn : n ≤ 1048576) :
    Calls Tryz.prog 145 #[v] w fun e w' => ∃ v', e = .returned v' ∧ w'.ownsRow w.heap.size 148 2 v' n L ∧ Chg No w w' := by
  obtain ⟨i0, hi, z0, hz0, hzz⟩ : ∃ i0, Tryz.prog.info? 148 = some i0 ∧ ∃ z, i0.zero = some z ∧ (z.cells.size = 2 ∧ i0.size = 2 ∧ i0.bytes = 32) := by
    have h := Tryz.infoClLab
    simp only [Option.bind_eq_some_iff, Option.map_eq_some_iff, Prod.mk.injEq] at h
    obtain ⟨i, h1, z, h2, h3⟩ := h
    exact ⟨i, h1, z, h2, h3⟩
  obtain ⟨hz1, hz2, hz3⟩ := hzz
  have q22 : ∀ (w : World) (a : Option Addr) (n c n' c' : Nat), (binOp .eql 73 (.slice a n c) (.slice none n' c')).run Tryz.prog w = .ok (.bool a.isNone) w := fun w a n c n' c' => Lib.run_eql_slice_nil w _ _ a n c n' c' Tryz.underlying73
  obtain ⟨a, c, rfl, hlen, hle, hnil, hcells⟩ := id hx
  have hrd := fun W (h : Chg No w W) => hx.chg h (fun _ _ _ h => h)
  clear hx hcells
  have hb1 : (0 + n) * 32 ≤ 140737488355328 := sizeB _ 1 _ (by omega) (by decide)
  have hb2 : 0 + n ≤ maxLen := by unfold maxLen; omega
  cases a with
  | none =>
    obtain rfl : c = 0 := hnil rfl
    obtain rfl : n = 0 := by omega
    obtain rfl : L = [] := List.eq_nil_of_length_eq_zero (by omega)
    go_enter Tryz.func145, Tryz.ntmps145
    go_wp2_with fail
    go_ret
    exact ⟨_, rfl, World.ownsRow_nil _ _ _ _, Chg.refl _ _⟩
  | some ad =>
    go_enter Tryz.func145, Tryz.ntmps145
    go_wp2_with (at_builtin; refine wpList_append_rd _ rfl _ _ _ rfl w.heap.size 148 i0 _ 2 32 Tryz.underlying73 hi hz0 hz2 hz3 hz1 (by decide) (.slice (some ⟨w.heap.size, 0, none⟩) 0 0) 0 [] rfl (World.ownsRow_made w #[] 0 (Nat.le_refl _) (Nat.zero_le _) rfl) (.slice (some ad) n c) n L rfl (hrd _ ((Chg.refl No w).alloc _)) h1 hb2 hb1 (by simp) ?_; intro v1 w3 ho1 hg1 hi1 hfr1)
    go_ret
    exact ⟨_, rfl, by simpa using ho1, ((Chg.refl No w).alloc _).grown hg1 (fun k hk hlt => by simp [Value.ownBlock] at hk; omega)⟩
/-- slices.Clone is a new row -/
theorem cloneLab_S {x : D} {xs : List (List FD)} {mem : Nat → Option M} {nx : Nat} {K : D → (Nat → Option M) → Nat → Prop} (hel : elems mem 2 x = some xs) (hn : xs.length ≤ 1048576)
    (hk : K (.own nx 0) (upd mem nx (some (.row 148 0 2 xs))) (nx + 1)) : callS Tryz.prog 145 [x] mem nx K :=
  callS_row (goes_of Tryz.func145 rfl rfl) (by decide) hel (fun w v L h h1 => cloneLab_any w v _ L h h1 hn) hk
theorem cloneLab_copy : CopyRow Tryz.prog 145 148 2 :=
  ⟨⟨goes_of Tryz.func145 rfl rfl, by decide⟩, fun w v n L hn h h1 => cloneLab_any w v n L h h1 hn⟩

theorem Tryz.infoClTerm : (Tryz.prog.info? 155).bind (fun i => i.zero.map fun z => (z.cells.size, i.size, i.bytes)) = some (3, 3, 40) := by kernel_rfl
set_option maxRecDepth 100000 in
set_option maxHeartbeats 1000000 in
theorem cloneTerm_any (w : World) (v : Value) (n : Nat) (L : List Value) (hx : Rd w v 3 n L) (h1 : ∀ u ∈ L, u.oneCell' = true) (hn : n ≤ 1048576) :
    Calls Tryz.prog 146 #[v] w fun e w' => ∃ v', e = .returned v' ∧ w'.ownsRow w.heap.size 155 3 v' n L ∧ Chg No w w' := by
  obtain ⟨i0, hi, z0, hz0, hzz⟩ : ∃ i0, Tryz.prog.info? 155 = some i0 ∧ ∃ z, i0.zero = some z ∧ (z.cells.size = 3 ∧ i0.size = 3 ∧ i0.bytes = 40) := by
    have h := Tryz.infoClTerm
    simp only [Option.bind_eq_some_iff, Option.map_eq_some_iff, Prod.mk.injEq] at h
    obtain ⟨i, h1, z, h2, h3⟩ := h
    exact ⟨i, h1, z, h2, h3⟩
  obtain ⟨hz1, hz2, hz3⟩ := hzz
  have q22 : ∀ (w : World) (a : Option Addr) (n c n' c' : Nat), (binOp .eql 77 (.slice a n c) (.slice none n' c')).run Tryz.prog w = .ok (.bool a.isNone) w := fun w a n c n' c' => Lib.run_eql_slice_nil w _ _ a n c n' c' Tryz.underlying77
  obtain ⟨a, c, rfl, hlen, hle, hnil, hcells⟩ := id hx
  have hrd := fun W (h : Chg No w W) => hx.chg h (fun _ _ _ h => h)
  clear hx hcells
  have hb1 : (0 + n) * 40 ≤ 140737488355328 := sizeB _ 1 _ (by omega) (by decide)
  have hb2 : 0 + n ≤ maxLen := by unfold maxLen; omega
  cases a with
  | none =>
    obtain rfl : c = 0 := hnil rfl
    obtain rfl : n = 0 := by omega
    obtain rfl : L = [] := List.eq_nil_of_length_eq_zero (by omega)
    go_enter Tryz.func146, Tryz.ntmps146
    go_wp2_with fail
    go_ret
    exact ⟨_, rfl, World.ownsRow_nil _ _ _ _, Chg.refl _ _⟩
  | some ad =>
    go_enter Tryz.func146, Tryz.ntmps146
    go_wp2_with (at_builtin; refine wpList_append_rd _ rfl _ _ _ rfl w.heap.size 155 i0 _ 3 40 Tryz.underlying77 hi hz0 hz2 hz3 hz1 (by decide) (.slice (some ⟨w.heap.size, 0, none⟩) 0 0) 0 [] rfl (World.ownsRow_made w #[] 0 (Nat.le_refl _) (Nat.zero_le _) rfl) (.slice (some ad) n c) n L rfl (hrd _ ((Chg.refl No w).alloc _)) h1 hb2 hb1 (by simp) ?_; intro v1 w3 ho1 hg1 hi1 hfr1)
    go_ret
    exact ⟨_, rfl, by simpa using ho1, ((Chg.refl No w).alloc _).grown hg1 (fun k hk hlt => by simp [Value.ownBlock] at hk; omega)⟩
/-- slices.Clone is a new row -/
theorem cloneTerm_S {x : D} {xs : List (List FD)} {mem : Nat → Option M} {nx : Nat} {K : D → (Nat → Option M) → Nat → Prop} (hel : elems mem 3 x = some xs) (hn : xs.length ≤ 1048576)
    (hk : K (.own nx 0) (upd mem nx (some (.row 155 0 3 xs))) (nx + 1)) : callS Tryz.prog 146 [x] mem nx K :=
  callS_row (goes_of Tryz.func146 rfl rfl) (by decide) hel (fun w v L h h1 => cloneTerm_any w v _ L h h1 hn) hk
theorem cloneTerm_copy : CopyRow Tryz.prog 146 155 3 :=
  ⟨⟨goes_of Tryz.func146 rfl rfl, by decide⟩, fun w v n L hn h h1 => cloneTerm_any w v n L h h1 hn⟩

theorem Tryz.infoClNode : (Tryz.prog.info? 75).bind (fun i => i.zero.map fun z => (z.cells.size, i.size, i.bytes)) = some (10, 10, 112) := by kernel_rfl
set_option maxRecDepth 100000 in
set_option maxHeartbeats 1000000 in
theorem cloneNode_any (w : World) (v : Value) (n : Nat) (L : List Value) (hx : Rd w v 10 n L) (h1 : ∀ u ∈ L, u.oneCell' = true) (hn : n ≤ 1048576) :
    Calls Tryz.prog 142 #[v] w fun e w' => ∃ v', e = .returned v' ∧ w'.ownsRow w.heap.size 75 10 v' n L ∧ Chg No w w' := by
  obtain ⟨i0, hi, z0, hz0, hzz⟩ : ∃ i0, Tryz.prog.info? 75 = some i0 ∧ ∃ z, i0.zero = some z ∧ (z.cells.size = 10 ∧ i0.size = 10 ∧ i0.bytes = 112) := by
    have h := Tryz.infoClNode
    simp only [Option.bind_eq_some_iff, Option.map_eq_some_iff, Prod.mk.injEq] at h
    obtain ⟨i, h1, z, h2, h3⟩ := h
    exact ⟨i, h1, z, h2, h3⟩
  obtain ⟨hz1, hz2, hz3⟩ := hzz
  have q22 : ∀ (w : World) (a : Option Addr) (n c n' c' : Nat), (binOp .eql 22 (.slice a n c) (.slice none n' c')).run Tryz.prog w = .ok (.bool a.isNone) w := fun w a n c n' c' => Lib.run_eql_slice_nil w _ _ a n c n' c' Tryz.underlying22
  obtain ⟨a, c, rfl, hlen, hle, hnil, hcells⟩ := id hx
  have hrd := fun W (h : Chg No w W) => hx.chg h (fun _ _ _ h => h)
  clear hx hcells
  have hb1 : (0 + n) * 112 ≤ 140737488355328 := sizeB _ 1 _ (by omega) (by decide)
  have hb2 : 0 + n ≤ maxLen := by unfold maxLen; omega
  cases a with
  | none =>
    obtain rfl : c = 0 := hnil rfl
    obtain rfl : n = 0 := by omega
    obtain rfl : L = [] := List.eq_nil_of_length_eq_zero (by omega)
    go_enter Tryz.func142, Tryz.ntmps142
    go_wp2_with fail
    go_ret
    exact ⟨_, rfl, World.ownsRow_nil _ _ _ _, Chg.refl _ _⟩
  | some ad =>
    go_enter Tryz.func142, Tryz.ntmps142
    go_wp2_with (at_builtin; refine wpList_append_rd _ rfl _ _ _ rfl w.heap.size 75 i0 _ 10 112 Tryz.underlying22 hi hz0 hz2 hz3 hz1 (by decide) (.slice (some ⟨w.heap.size, 0, none⟩) 0 0) 0 [] rfl (World.ownsRow_made w #[] 0 (Nat.le_refl _) (Nat.zero_le _) rfl) (.slice (some ad) n c) n L rfl (hrd _ ((Chg.refl No w).alloc _)) h1 hb2 hb1 (by simp) ?_; intro v1 w3 ho1 hg1 hi1 hfr1)
    go_ret
    exact ⟨_, rfl, by simpa using ho1, ((Chg.refl No w).alloc _).grown hg1 (fun k hk hlt => by simp [Value.ownBlock] at hk; omega)⟩
/-- slices.Clone is a new row -/
theorem cloneNode_S {x : D} {xs : List (List FD)} {mem : Nat → Option M} {nx : Nat} {K : D → (Nat → Option M) → Nat → Prop} (hel : elems mem 10 x = some xs) (hn : xs.length ≤ 1048576)
    (hk : K (.own nx 0) (upd mem nx (some (.row 75 0 10 xs))) (nx + 1)) : callS Tryz.prog 142 [x] mem nx K :=
  callS_row (goes_of Tryz.func142 rfl rfl) (by decide) hel (fun w v L h h1 => cloneNode_any w v _ L h h1 hn) hk
theorem cloneNode_copy : CopyRow Tryz.prog 142 75 10 :=
  ⟨⟨goes_of Tryz.func142 rfl rfl, by decide⟩, fun w v n L hn h h1 => cloneNode_any w v n L h h1 hn⟩

theorem Tryz.infoClPod : (Tryz.prog.info? 81).bind (fun i => i.zero.map fun z => (z.cells.size, i.size, i.bytes)) = some (15, 15, 240) := by kernel_rfl
set_option maxRecDepth 100000 in
set_option maxHeartbeats 1000000 in
theorem clonePod_any (w : World) (v : Value) (n : Nat) (L : List Value) (hx : Rd w v 15 n L) (h1 : ∀ u ∈ L, u.oneCell' = true) (hn : n ≤ 1048576) :
    Calls Tryz.prog 143 #[v] w fun e w' => ∃ v', e = .returned v' ∧ w'.ownsRow w.heap.size 81 15 v' n L ∧ Chg No w w' := by
  obtain ⟨i0, hi, z0, hz0, hzz⟩ : ∃ i0, Tryz.prog.info? 81 = some i0 ∧ ∃ z, i0.zero = some z ∧ (z.cells.size = 15 ∧ i0.size = 15 ∧ i0.bytes = 240) := by
    have h := Tryz.infoClPod
    simp only [Option.bind_eq_some_iff, Option.map_eq_some_iff, Prod.mk.injEq] at h
    obtain ⟨i, h1, z, h2, h3⟩ := h
    exact ⟨i, h1, z, h2, h3⟩
  obtain ⟨hz1, hz2, hz3⟩ := hzz
  have q22 : ∀ (w : World) (a : Option Addr) (n c n' c' : Nat), (binOp .eql 23 (.slice a n c) (.slice none n' c')).run Tryz.prog w = .ok (.bool a.isNone) w := fun w a n c n' c' => Lib.run_eql_slice_nil w _ _ a n c n' c' Tryz.underlying23
  obtain ⟨a, c, rfl, hlen, hle, hnil, hcells⟩ := id hx
  have hrd := fun W (h : Chg No w W) => hx.chg h (fun _ _ _ h => h)
  clear hx hcells
  have hb1 : (0 + n) * 240 ≤ 140737488355328 := sizeB _ 1 _ (by omega) (by decide)
  have hb2 : 0 + n ≤ maxLen := by unfold maxLen; omega
  cases a with
  | none =>
    obtain rfl : c = 0 := hnil rfl
    obtain rfl : n = 0 := by omega
    obtain rfl : L = [] := List.eq_nil_of_length_eq_zero (by omega)
    go_enter Tryz.func143, Tryz.ntmps143
    go_wp2_with fail
    go_ret
    exact ⟨_, rfl, World.ownsRow_nil _ _ _ _, Chg.refl _ _⟩
  | some ad =>
    go_enter Tryz.func143, Tryz.ntmps143
    go_wp2_with (at_builtin; refine wpList_append_rd _ rfl _ _ _ rfl w.heap.size 81 i0 _ 15 240 Tryz.underlying23 hi hz0 hz2 hz3 hz1 (by decide) (.slice (some ⟨w.heap.size, 0, none⟩) 0 0) 0 [] rfl (World.ownsRow_made w #[] 0 (Nat.le_refl _) (Nat.zero_le _) rfl) (.slice (some ad) n c) n L rfl (hrd _ ((Chg.refl No w).alloc _)) h1 hb2 hb1 (by simp) ?_; intro v1 w3 ho1 hg1 hi1 hfr1)
    go_ret
    exact ⟨_, rfl, by simpa using ho1, ((Chg.refl No w).alloc _).grown hg1 (fun k hk hlt => by simp [Value.ownBlock] at hk; omega)⟩
/-- slices.Clone is a new row -/
theorem clonePod_S {x : D} {xs : List (List FD)} {mem : Nat → Option M} {nx : Nat} {K : D → (Nat → Option M) → Nat → Prop} (hel : elems mem 15 x = some xs) (hn : xs.length ≤ 1048576)
    (hk : K (.own nx 0) (upd mem nx (some (.row 81 0 15 xs))) (nx + 1)) : callS Tryz.prog 143 [x] mem nx K :=
  callS_row (goes_of Tryz.func143 rfl rfl) (by decide) hel (fun w v L h h1 => clonePod_any w v _ L h h1 hn) hk
theorem clonePod_copy : CopyRow Tryz.prog 143 81 15 :=
  ⟨⟨goes_of Tryz.func143 rfl rfl, by decide⟩, fun w v n L hn h h1 => clonePod_any w v n L h h1 hn⟩

theorem Tryz.infoClOwner : (Tryz.prog.info? 100).bind (fun i => i.zero.map fun z => (z.cells.size, i.size, i.bytes)) = some (5, 5, 56) := by kernel_rfl
set_option maxRecDepth 100000 in
set_option maxHeartbeats 1000000 in
theorem cloneOwner_any (w : World) (v : Value) (n : Nat) (L : List Value) (hx : Rd w v 5 n L) (h1 : ∀ u ∈ L, u.oneCell' = true) (hn : n ≤ 1048576) :
    Calls Tryz.prog 144 #[v] w fun e w' => ∃ v', e = .returned v' ∧ w'.ownsRow w.heap.size 100 5 v' n L ∧ Chg No w w' := by
  obtain ⟨i0, hi, z0, hz0, hzz⟩ : ∃ i0, Tryz.prog.info? 100 = some i0 ∧ ∃ z, i0.zero = some z ∧ (z.cells.size = 5 ∧ i0.size = 5 ∧ i0.bytes = 56) := by
    have h := Tryz.infoClOwner
    simp only [Option.bind_eq_some_iff, Option.map_eq_some_iff, Prod.mk.injEq] at h
    obtain ⟨i, h1, z, h2, h3⟩ := h
    exact ⟨i, h1, z, h2, h3⟩
  obtain ⟨hz1, hz2, hz3⟩ := hzz
  have q22 : ∀ (w : World) (a : Option Addr) (n c n' c' : Nat), (binOp .eql 24 (.slice a n c) (.slice none n' c')).run Tryz.prog w = .ok (.bool a.isNone) w := fun w a n c n' c' => Lib.run_eql_slice_nil w _ _ a n c n' c' Tryz.underlying24
  obtain ⟨a, c, rfl, hlen, hle, hnil, hcells⟩ := id hx
  have hrd := fun W (h : Chg No w W) => hx.chg h (fun _ _ _ h => h)
  clear hx hcells
  have hb1 : (0 + n) * 56 ≤ 140737488355328 := sizeB _ 1 _ (by omega) (by decide)
  have hb2 : 0 + n ≤ maxLen := by unfold maxLen; omega
  cases a with
  | none =>
    obtain rfl : c = 0 := hnil rfl
    obtain rfl : n = 0 := by omega
    obtain rfl : L = [] := List.eq_nil_of_length_eq_zero (by omega)
    go_enter Tryz.func144, Tryz.ntmps144
    go_wp2_with fail
    go_ret
    exact ⟨_, rfl, World.ownsRow_nil _ _ _ _, Chg.refl _ _⟩
  | some ad =>
    go_enter Tryz.func144, Tryz.ntmps144
    go_wp2_with (at_builtin; refine wpList_append_rd _ rfl _ _ _ rfl w.heap.size 100 i0 _ 5 56 Tryz.underlying24 hi hz0 hz2 hz3 hz1 (by decide) (.slice (some ⟨w.heap.size, 0, none⟩) 0 0) 0 [] rfl (World.ownsRow_made w #[] 0 (Nat.le_refl _) (Nat.zero_le _) rfl) (.slice (some ad) n c) n L rfl (hrd _ ((Chg.refl No w).alloc _)) h1 hb2 hb1 (by simp) ?_; intro v1 w3 ho1 hg1 hi1 hfr1)
    go_ret
    exact ⟨_, rfl, by simpa using ho1, ((Chg.refl No w).alloc _).grown hg1 (fun k hk hlt => by simp [Value.ownBlock] at hk; omega)⟩
/-- slices.Clone is a new row -/
theorem cloneOwner_S {x : D} {xs : List (List FD)} {mem : Nat → Option M} {nx : Nat} {K : D → (Nat → Option M) → Nat → Prop} (hel : elems mem 5 x = some xs) (hn : xs.length ≤ 1048576)
    (hk : K (.own nx 0) (upd mem nx (some (.row 100 0 5 xs))) (nx + 1)) : callS Tryz.prog 144 [x] mem nx K :=
  callS_row (goes_of Tryz.func144 rfl rfl) (by decide) hel (fun w v L h h1 => cloneOwner_any w v _ L h h1 hn) hk
theorem cloneOwner_copy : CopyRow Tryz.prog 144 100 5 :=
  ⟨⟨goes_of Tryz.func144 rfl rfl, by decide⟩, fun w v n L hn h h1 => cloneOwner_any w v n L h h1 hn⟩

theorem cloneLabs_pure (l : Lst LabD) (hn : l.n ≤ 1048576) : Pure Tryz.prog 145 [labsF l] (labsF l) :=
  Pure.of_copy cloneLab_copy (by rw [encL_len]; exact hn)
theorem cloneTerms_pure (l : Lst TermD) (hn : l.n ≤ 1048576) : Pure Tryz.prog 146 [termsF l] (termsF l) :=
  Pure.of_copy cloneTerm_copy (by rw [encL_len]; exact hn)
end Go.Proofs.YthpmgnbehahkfaaGreat
end
