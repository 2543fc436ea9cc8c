/- place.Spread. -/
/- Moves and SameMoves; EqInts, Check of the reference, over data. -/
/- drayageref07.Apply, of whatever step. -/
/- place.Apply, of whatever step: what it answers is its caller's own. -/
import Derived.Test.YthpmgnbehahkfaaGreatJQr
import Derived.Test.YthpmgnbehahkfaaGreatJQc
set_option linter.unusedSimpArgs false
set_option linter.unusedVariables false
section
namespace Go.Proofs.YthpmgnbehahkfaaGreat
open Go.RowKit Go.Dk Go.Dn Go.Shelf

attribute [local go_sem] Oper.semAt_some

theorem kpB_n {B : Nat} {W W' : World} (h : Chg No W W') : KpO (isB B) (gB B) W W' := fun hG =>
  ⟨Nat.lt_of_lt_of_le hG h.size, fun b o u hc hn => ⟨h.cell hc id, hn⟩, h.size⟩
theorem may_facts' {s : SnapD} {l : Lst Int} (h : mayB s l = true) : checkE s = 0 := by
  unfold mayB placeE at h
  rw [decide_eq_true_iff] at h
  split at h
  · assumption
  · exact h
theorem owner_row {x : X} {a : Option Addr} {n c : Nat} {l : Lst OwnerD} (h : Rep x (.slice a n c) (ownersF l)) {j : Nat} (hj : j < l.n) : ∃ b o, a = some ⟨b, o, none⟩ ∧ x.W.cell? ⟨b, o + j * 5 + 2, none⟩ = some (.string (l.el j).topo) := by
  unfold ownersF Rep at h
  obtain ⟨a', c', e, -, -, h⟩ := h
  injection e with e1 e2 e3
  subst e1
  obtain ⟨b, o, rfl, hr⟩ := h (by
    intro h0
    have := congrArg List.length h0
    rw [encL_len] at this
    simp at this
    omega)
  have hA := (repR_get hr (encL_get? (fun k => ownerC (l.el k)) hj)).2
  unfold ownerC RepA at hA
  obtain ⟨-, hA⟩ := hA
  unfold RepA at hA
  obtain ⟨-, hA⟩ := hA
  unfold RepA at hA
  obtain ⟨⟨v2, c2, -, -, r2⟩, -⟩ := hA
  unfold Rep at r2
  subst r2
  exact ⟨b, o, rfl, c2⟩
theorem owners_of_snap {x : X} {n p o : Value} {s : SnapD} (h1 : Rep x (.agg #[n, p, o]) (snapF s)) : ∃ a c, o = .slice a s.owners.n c ∧ Rep x o (ownersF s.owners) := by
  unfold snapF snapC Rep at h1
  obtain ⟨vs, e, h1⟩ := h1
  unfold RepC at h1
  obtain ⟨u, us, rfl, -, hu, h1⟩ := h1
  unfold RepC at h1
  obtain ⟨u1, us1, rfl, -, hu1, h1⟩ := h1
  unfold RepC at h1
  obtain ⟨u2, us2, rfl, -, hu2, h1⟩ := h1
  injection e with e
  have e2 : o = u2 := by
    have := congrArg Array.toList e
    simp only at this
    exact (List.cons.inj (List.cons.inj (List.cons.inj this).2).2).1
  subst e2
  have hu3 := hu2
  unfold ownersF Rep at hu2
  obtain ⟨a, c, e3, -⟩ := hu2
  rw [encL_len] at e3
  exact ⟨a, c, e3, hu3⟩
set_option maxRecDepth 100000 in
set_option maxHeartbeats 4000000 in
theorem spread_any (s : SnapD) (ok : SnapOk s) (l : Lst Int) (hl : l.n ≤ 1048576) (k : Int) (WS : Nat → Nat → Prop) (w : World) (hws : ∀ b o, WS b o → b < w.heap.size) {n p o q : Value} (h1 : Rep ⟨WS, w⟩ (.agg #[n, p, o]) (snapF s)) (h2 : Rep ⟨WS, w⟩ q (intsF l)) :
    Calls Tryz.prog 60 #[.agg #[n, p, o], q, .int .i64 k] w fun e w' => ∃ v, e = .returned v ∧ Rep ⟨WS, w'⟩ v (intsF (spreadL s l k)) ∧ Chg No w w' ∧ ∀ a m c, v = .slice (some a) m c → w.heap.size ≤ a.block := by
  have hb1 := heap_alloc_new w (.cells #[n, p, o] 26)
  have hcw := (Chg.refl No w).alloc (.cells #[n, p, o] 26)
  refine (callsIn_wide (n := 6)).1 ?_
  refine callsIn_of_wp_marks Tryz.func60 rfl trivial ?_ rfl
  simp only [Tryz.ntmps60, List.size_toArray, List.length_cons, List.length_nil, Nat.reduceAdd, Nat.reduceSub, Array.replicate_succ, Array.replicate_zero, List.push_toArray, List.append_toArray, List.nil_append, List.cons_append]
  gi_wp2_with fail
  generalize hW : w.alloc _ = W at hb1 hcw ⊢
  generalize hBe : w.heap.size = B at hb1 ⊢
  have hws1 : ∀ b o, WS b o → b < W.heap.size := fun b o h => Nat.lt_of_lt_of_le (hws b o h) hcw.size
  have hsub : ∀ V, Chg No w V → Sub ⟨WS, w⟩ ⟨WS, V⟩ := fun V hc b o u hu hn => ⟨hc.cell hu id, hn⟩
  have r1 := fun V hc => Rep.mono (hsub V hc) h1
  have r2 := fun V hc => Rep.mono (hsub V hc) h2
  have r3 : ∀ x : X, Rep x (.int .i64 k) (I k) := fun x => by unfold Rep; rfl
  refine ⟨trivial, (callsIn_wide.2 ((asked_pure s ok l hl k).2 ⟨_, W⟩ _ hws1 (repL_3 (r1 _ hcw) (r2 _ hcw) (r3 _)))).mono ?_⟩
  rintro e V ⟨v, rfl, hv, hc⟩
  unfold Rep at hv
  subst hv
  have c0 := hc.cell (cell_of_heap (j := 0) hb1 rfl) id
  have c1 := hc.cell (cell_of_heap (j := 1) hb1 rfl) id
  have c2 := hc.cell (cell_of_heap (j := 2) hb1 rfl) id
  have hcV := hcw.trans hc
  clear hc hcw hb1 hws1
  rcases Bool.eq_false_or_eq_true (askedB s l k) with ha | ha
  · rw [ha]
    have hk : 0 ≤ k ∧ k < (s.owners.n : Int) ∧ mayB s l = true := by
      simp [askedB] at ha
      exact ⟨ha.2.1, ha.2.2, ha.1⟩
    obtain ⟨j, rfl⟩ : ∃ j : Nat, k = j := ⟨k.toNat, by omega⟩
    have hsp : spreadL s l j = ⟨(domL s (s.owners.el j).topo s.nodes.n).length, numL ((ownL s l j l.n).map (inD s (s.owners.el j).topo))⟩ := by unfold spreadL; rw [if_pos ha, Int.toNat_natCast]
    have hjo : j < s.owners.n := by omega
    obtain ⟨na, nc, rfl, hN⟩ := nodes_of_snap h1
    obtain ⟨oa, oc, rfl, hO⟩ := owners_of_snap h1
    obtain ⟨ob', oo, rfl, ho⟩ := owner_row (Rep.mono (hsub _ hcV) hO) hjo
    dsimp only at ho
    obtain ⟨key, hkey⟩ : ∃ key, key = (s.owners.el j).topo := ⟨_, rfl⟩
    rw [← hkey] at ho hsp
    have HK := Go.Lib.hid hkey
    have HS := Go.Lib.hid hsp
    clear hkey hsp
    have hc3 := (Chg.refl No V).alloc (.cells #[.string key] 9 (0, 0))
    have d0 := hc3.cell c0 id
    have d1 := hc3.cell c1 id
    have d2 := hc3.cell c2 id
    have hkb := heap_alloc_new V (.cells #[.string key] 9 (0, 0))
    have dk := cell_of_heap (j := 0) hkb rfl
    gi_wp2_with fail
    have hcV3 := hcV.trans hc3
    have hBV : B < V.heap.size := World.block_lt_of_cell? _ _ c0
    have hwV : w.heap.size ≤ V.heap.size := hcV.size
    obtain ⟨V3, hV3⟩ : ∃ V3, V3 = V.alloc (.cells #[.string key] 9 (0, 0)) := ⟨_, rfl⟩
    rw [← hV3] at hc3 hcV3 hkb d0 d1 d2 dk ⊢
    have hK3 : V3.heap.size = V.heap.size + 1 := by rw [hV3, World.size_alloc]
    clear hV3 c0 c1 c2 ho
    generalize V.heap.size = Kb at *
    have hws3 : ∀ b o, WS b o → b < V3.heap.size := fun b o h => Nat.lt_of_lt_of_le (hws b o h) hcV3.size
    refine ⟨trivial, (callsIn_wide.2 ((domains_pure s ok key).2 ⟨_, V3⟩ _ hws3 (repL_2 (r1 _ hcV3) (rep_S key)))).mono ?_⟩
    rintro e V4 ⟨v, rfl, hv, hc4⟩
    have hce : checkE s = 0 := (may_facts' hk.2.2)
    unfold domsF at hv
    rw [if_pos hce] at hv
    obtain ⟨L, hL⟩ : ∃ L, L = domL s key s.nodes.n := ⟨_, rfl⟩
    rw [← hL] at hv
    have hv2 := hv
    unfold strsF Rep at hv
    obtain ⟨va, vc, rfl, -⟩ := hv
    rw [strsR_len] at hv2 ⊢
    have hLn : L.length ≤ 1048576 := by
      have h1 := domL_len s key s.nodes.n
      have h2 := ok.n1
      rw [hL]
      omega
    have HL := Go.Lib.hid hL
    clear hL
    have hcV4 := hcV3.trans hc4
    have k0 := hc4.cell dk id
    have b0 := hc4.cell d0 id
    have b1 := hc4.cell d1 id
    have b2 := hc4.cell d2 id
    have hKV4 : Kb < V4.heap.size := World.block_lt_of_cell? _ _ k0
    obtain ⟨V5, hV5⟩ : ∃ V5, V5 = V4.alloc (.cells #[.slice va L.length vc] 29 (0, 0)) := ⟨_, rfl⟩
    have hc5 : Chg No V4 V5 := by rw [hV5]; exact (Chg.refl No V4).alloc _
    have h5 : V5.heap.size = V4.heap.size + 1 := by rw [hV5, World.size_alloc]
    have hab : V5.heap[V4.heap.size]? = some (.cells #[.slice va L.length vc] 29 (0, 0)) := by rw [hV5]; exact heap_alloc_new V4 _
    have a0 := cell_of_heap (j := 0) hab rfl
    have hmk := make_ints V5 L.length hLn
    obtain ⟨V6, hV6⟩ : ∃ V6, V6 = (V5.alloc (.cells ((List.range L.length).map fun _ => Value.int .i64 0).toArray 3 (0, 0))).alloc (.cells #[.slice (some ⟨V4.heap.size + 1, 0, none⟩) L.length L.length] 27 (0, 0)) := ⟨_, rfl⟩
    have hc6 : Chg No V5 V6 := by rw [hV6]; exact ((Chg.refl No V5).alloc _).alloc _
    have g0 := hc6.cell (hc5.cell b0 id) id
    have g1 := hc6.cell (hc5.cell b1 id) id
    have g2 := hc6.cell (hc5.cell b2 id) id
    have a0' := a0
    rw [hV5] at a0 hmk
    rw [hV6, hV5] at g0 g1 g2
    gi_wp2_with fail
    rw [← hV5, ← hV6]
    have hRow : RowIs V6 V5.heap.size L.length (fun _ => 0) := by
      rw [hV6]
      exact heap_alloc_old' (heap_alloc_new V5 _)
    have hBox : BoxIs V6 (V5.heap.size + 1) (.slice (some ⟨V5.heap.size, 0, none⟩) L.length L.length) 27 := by
      rw [hV6]
      have := heap_alloc_new (V5.alloc (.cells ((List.range L.length).map fun _ => Value.int .i64 0).toArray 3 (0, 0))) (.cells #[.slice (some ⟨V4.heap.size + 1, 0, none⟩) L.length L.length] 27 (0, 0))
      rw [World.size_alloc] at this
      rw [h5] at this ⊢
      exact this
    have k5 := hc5.cell k0 id
    have s0 := hc5.cell b0 id
    have s1 := hc5.cell b1 id
    have s2 := hc5.cell b2 id
    have hwA : w.heap.size ≤ V4.heap.size := hcV4.size
    have hcV5 := hcV4.trans hc5
    have hwR : w.heap.size ≤ V5.heap.size := hcV5.size
    have hln : l.n = s.pods.n := (may_facts hk.2.2).2.2.2.1
    have hws2 : ∀ b o, (WS b o ∨ b = V5.heap.size) → b < V6.heap.size := fun b o h => by
      rcases h with h | rfl
      · exact Nat.lt_of_lt_of_le (hws b o h) (hcV5.trans hc6).size
      · exact lt_of_heap hRow
    have hsub2 : Sub ⟨WS, w⟩ ⟨fun b o => WS b o ∨ b = V5.heap.size, V6⟩ := fun b o u hu hn => by
      refine ⟨(hcV5.trans hc6).cell hu id, fun h => ?_⟩
      rcases h with h | rfl
      · exact hn h
      · have := World.block_lt_of_cell? _ _ hu
        dsimp only at this
        omega
    have hv5 : Rep ⟨WS, V5⟩ (.slice va L.length vc) (strsF L) := Rep.mono (x := ⟨WS, V4⟩) (y := ⟨WS, V5⟩) (fun b o u hu hn => ⟨hc5.cell hu id, hn⟩) hv2
    have hN5 : Rep ⟨WS, V5⟩ (.slice na s.nodes.n nc) (nodesF s.nodes) := Rep.mono (hsub _ hcV5) hN
    have hws5 : ∀ b o, WS b o → b < V5.heap.size := fun b o h => Nat.lt_of_lt_of_le (hws b o h) hwR
    clear hmk g0 g1 g2 a0 b0 b1 b2 k0 d0 d1 d2 dk hkb hab hV5 hV6 hv2 hc4 hcV4 hc5 hcV3 hc3 hN hO hws3
    refine ⟨trivial, (callsIn_wide.2 ((owned_pure s l j).2 ⟨_, V6⟩ _ hws2 (repL_3 (Rep.mono hsub2 h1) (Rep.mono hsub2 h2) (r3 _)))).mono ?_⟩
    rintro e U ⟨v, rfl, hv, hc⟩
    unfold Rep at hv
    obtain ⟨vs, rfl, hr⟩ := hv
    have hRowU : RowIs U V5.heap.size L.length (fun _ => 0) := hc.heap hRow id
    have hBoxU : BoxIs U (V5.heap.size + 1) (.slice (some ⟨V5.heap.size, 0, none⟩) L.length L.length) 27 := hc.heap hBox id
    have hc5U := hc6.trans hc
    have it := owned1_iterR s l hl (by omega) j hjo (fun i => 0 ≤ i ∧ i < s.nodes.n) (fun m hm h0 => by
      obtain ⟨-, -, -, -, hodd⟩ := may_facts hk.2.2
      refine ⟨h0, ?_⟩
      rcases Int.lt_or_le (l.el m) s.nodes.n with h | h
      · exact h
      · have := anyB_true (p := fun k => oddP s (l.el k)) hm (by simp [oddP, h])
        rw [this] at hodd
        cases hodd)
    have hlen := ownL_len s l j l.n
    have hseq := it.2 (isB V5.heap.size) (gB V5.heap.size) 5 U vs (own1B _) (lt_of_heap hRowU) (RepL.mono (x := ⟨fun b o => WS b o ∨ b = V5.heap.size, U⟩) (y := ⟨fun b _ => isB V5.heap.size U b, U⟩) (fun b o u hc hn => ⟨hc, fun h => hn (Or.inr h)⟩) hr)
    generalize vs.toArray = lb at *
    obtain ⟨xs, hxs⟩ : ∃ xs, xs = ownL s l j l.n := ⟨_, rfl⟩
    rw [← hxs] at hseq hlen
    have HX := Go.Lib.hid hxs
    clear hxs
    have hRU : V5.heap.size < U.heap.size := lt_of_heap hRowU
    have hon := ok.n1
    clear hr hc hws2 r1 r2 r3 hsub hsub2 it hBox hRow
    rw [h5] at hRU hBoxU hRowU hwR hseq
    generalize V4.heap.size = Ab at *
    rw [h5] at hws5
    gi_wp2_with fail
    refine wpIn_rangeFunc_ownG (α := {i : Int // 0 ≤ i ∧ i < s.nodes.n}) rfl (by omega) (gf := 169) (lb := lb) rfl trivial (enters_of Tryz.func169 (by kernel_rfl) rfl)
      hseq kpB_t (fun W l o o' hl ho hoc _ => kpB_b (by have := hl; omega) ho hoc) (Below.refl _ _) (fun _ => rfl)
      (fun pre W => (RowIs W (Ab + 1) L.length (numL ((valsR pre).map (inD s key))) ∧ BoxIs W (Ab + 1 + 1) (.slice (some ⟨Ab + 1, 0, none⟩) L.length L.length) 27) ∧ Below V5.heap.size V5 W)
      (fun _ _ _ => False)
      (OwnFrom.and (OwnFrom.and (Own.from (row_own (Ab + 1) L.length (fun pre => numL ((valsR pre).map (inD s key)))) _) (Own.from (box_own _ _ _) _)) (ownFrom_below (Nat.le_refl _) hc5U.size))
      (fun _ _ _ _ _ hs _ _ => hs)
      ⟨⟨hRowU, hBoxU⟩, hc5U.below⟩
      (fun x => { tmps := #[.agg #[.slice na s.nodes.n nc, p, .slice (some ⟨ob', oo, none⟩) s.owners.n oc], q, .int .i64 j, .pointer (some ⟨B, 0, none⟩), undef, undef, .slice none 0 0, .pointer (some ⟨Kb, 0, none⟩), .pointer (some ⟨Ab, 0, none⟩), .pointer (some ⟨Ab + 1 + 1, 0, none⟩), .int .i64 x.1, undef, undef,
        .agg #[.slice na s.nodes.n nc, p, .slice (some ⟨ob', oo, none⟩) s.owners.n oc], q, .int .i64 j, .bool true, .bool false, .pointer (some ⟨B, 2, none⟩), .slice (some ⟨ob', oo, none⟩) s.owners.n oc, .int .i64 j, .pointer (some ⟨ob', oo + j * 5, none⟩), .pointer (some ⟨ob', oo + j * 5 + 2, none⟩), .string key,
        .agg #[.slice na s.nodes.n nc, p, .slice (some ⟨ob', oo, none⟩) s.owners.n oc], .string key, .slice va L.length vc, .slice va L.length vc, .int .i64 L.length, .slice (some ⟨Ab + 1, 0, none⟩) L.length L.length, .agg #[.slice na s.nodes.n nc, p, .slice (some ⟨ob', oo, none⟩) s.owners.n oc], q, .int .i64 j,
        .func (.func 169) #[] lb, .int .i64 x.1, undef, undef, undef, undef, undef, undef, undef, undef, undef, undef, undef, undef, undef, undef, undef, undef, undef, undef, undef, undef], defers := [] })
      ?assign ?body ?done ?stop
    case assign =>
      intro l x W K hK
      gi_wp2
      simpa [undef] using hK
    case body =>
      rintro lr pre ⟨x, hx0, hx1⟩ W ⟨⟨hR, hB⟩, hBl⟩ hlt
      obtain ⟨m, rfl⟩ : ∃ m : Nat, x = m := ⟨x.toNat, by omega⟩
      have hm : m < s.nodes.n := by omega
      have hcW := Chg.of_below hBl
      have hNW : Rep ⟨WS, W⟩ (.slice na s.nodes.n nc) (nodesF s.nodes) := Rep.mono (x := ⟨WS, V5⟩) (y := ⟨WS, W⟩) (fun b o u hu hn => ⟨hcW.cell hu id, hn⟩) hN5
      obtain ⟨nb, no, a6, q6, a7, q7, rfl, ⟨e0, e1, e2, e3, e4, e5, e6, e7, e8, e9⟩, hrep⟩ := node_row hNW hm
      have y0 : ∀ y : Wd No W, y.w.cell? ⟨nb, no + m * 10, none⟩ = some (.string (s.nodes.el m).name) := fun y => y.chg.cell e0 id
      have y1 : ∀ y : Wd No W, y.w.cell? ⟨nb, no + m * 10 + 1, none⟩ = some (.int .i64 ((s.nodes.el m).cap 0)) := fun y => y.chg.cell e1 id
      have y2 : ∀ y : Wd No W, y.w.cell? ⟨nb, no + m * 10 + 2, none⟩ = some (.int .i64 ((s.nodes.el m).cap 1)) := fun y => y.chg.cell e2 id
      have y3 : ∀ y : Wd No W, y.w.cell? ⟨nb, no + m * 10 + 3, none⟩ = some (.int .i64 ((s.nodes.el m).cap 2)) := fun y => y.chg.cell e3 id
      have y4 : ∀ y : Wd No W, y.w.cell? ⟨nb, no + m * 10 + 4, none⟩ = some (.int .i64 ((s.nodes.el m).cap 3)) := fun y => y.chg.cell e4 id
      have y5 : ∀ y : Wd No W, y.w.cell? ⟨nb, no + m * 10 + 5, none⟩ = some (.int .i64 ((s.nodes.el m).cap 4)) := fun y => y.chg.cell e5 id
      have y6 : ∀ y : Wd No W, y.w.cell? ⟨nb, no + m * 10 + 6, none⟩ = some (.slice a6 (s.nodes.el m).labels.n q6) := fun y => y.chg.cell e6 id
      have y7 : ∀ y : Wd No W, y.w.cell? ⟨nb, no + m * 10 + 7, none⟩ = some (.slice a7 (s.nodes.el m).taints.n q7) := fun y => y.chg.cell e7 id
      have y8 : ∀ y : Wd No W, y.w.cell? ⟨nb, no + m * 10 + 8, none⟩ = some (.bool (s.nodes.el m).cordon) := fun y => y.chg.cell e8 id
      have y9 : ∀ y : Wd No W, y.w.cell? ⟨nb, no + m * 10 + 9, none⟩ = some (.bool (s.nodes.el m).lost) := fun y => y.chg.cell e9 id
      have yb : ∀ y : Wd No W, y.w.cell? ⟨B, 0, none⟩ = some (.slice (some ⟨nb, no, none⟩) s.nodes.n nc) := fun y => y.chg.cell (hcW.cell s0 id) id
      have yk : ∀ y : Wd No W, y.w.cell? ⟨Kb, 0, none⟩ = some (.string key) := fun y => y.chg.cell (hcW.cell k5 id) id
      have yA : ∀ y : Wd No W, y.w.cell? ⟨Ab, 0, none⟩ = some (.slice va L.length vc) := fun y => y.chg.cell (hcW.cell a0' id) id
      have yB : ∀ y : Wd No W, y.w.cell? ⟨Ab + 1 + 1, 0, none⟩ = some (.slice (some ⟨Ab + 1, 0, none⟩) L.length L.length) := fun y => y.chg.cell (cell_of_heap hB rfl) id
      have hcall : ∀ y : Wd No W, Calls Tryz.prog 99 #[.agg #[.string (s.nodes.el m).name, .int .i64 ((s.nodes.el m).cap 0), .int .i64 ((s.nodes.el m).cap 1), .int .i64 ((s.nodes.el m).cap 2), .int .i64 ((s.nodes.el m).cap 3), .int .i64 ((s.nodes.el m).cap 4), .slice a6 (s.nodes.el m).labels.n q6, .slice a7 (s.nodes.el m).taints.n q7, .bool (s.nodes.el m).cordon, .bool (s.nodes.el m).lost], .string key] y.w
          fun e w' => e = .returned (.tuple #[.string (valS (s.nodes.el m) key), .bool (valB (s.nodes.el m) key)]) ∧ Chg No y.w w' := fun y => by
        refine ((value_pure (s.nodes.el m) (ok.n2 m hm).2.1.1 key).2 ⟨WS, y.w⟩ _ (fun b o h => Nat.lt_of_lt_of_le (hws b o h) ?_) (repL_2 (Rep.mono (x := ⟨WS, W⟩) (y := ⟨WS, y.w⟩) (fun b o u hu hn => ⟨y.chg.cell hu id, hn⟩) hrep) (rep_S key))).mono ?_
        · exact Nat.le_trans hcV5.size (Nat.le_trans hcW.size y.chg.size)
        · rintro e w' ⟨v, h1, h2, h3⟩
          rw [rep_val h2] at h1
          exact ⟨h1, h3⟩
      have hpn : numL ((valsR (pre ++ [(⟨(m : Int), hx0, hx1⟩ : {i : Int // 0 ≤ i ∧ i < s.nodes.n})])).map (inD s key)) = fun i => numL ((valsR pre).map (inD s key)) i + if inD s key m = i then 1 else 0 := by
        funext i
        rw [valsR_snoc, List.map_append]
        exact numL_snoc _ _ _
      have hin : inD s key m = if valB (s.nodes.el m) key = true then posI (domL s key s.nodes.n) (valS (s.nodes.el m) key) else -1 := by unfold inD; rw [Int.toNat_natCast]
      dsimp only
      rcases Bool.eq_false_or_eq_true (valB (s.nodes.el m) key) with hv | hv
      · rw [if_pos hv] at hin
        obtain ⟨i, hi, hpos⟩ := posI_mem (domL_mem s key hv s.nodes.n hm)
        rw [hpos] at hin
        rw [← HL.out] at hi hpos
        rw [hv] at hcall
        have hidx : ∀ y : Wd No W, Calls Tryz.prog 111 #[.slice va L.length vc, .string (valS (s.nodes.el m) key)] y.w fun e w' => e = .returned (.int .i64 i) ∧ Chg No y.w w' := fun y => by
          refine ((index_pure L hLn (valS (s.nodes.el m) key)).2 ⟨WS, y.w⟩ _ (fun b o h => Nat.lt_of_lt_of_le (hws b o h) ?_) (repL_2 (Rep.mono (x := ⟨WS, V5⟩) (y := ⟨WS, y.w⟩) (fun b o u hu hn => ⟨y.chg.cell (hcW.cell hu id) id, hn⟩) hv5) (rep_S _))).mono ?_
          · exact Nat.le_trans hcV5.size (Nat.le_trans hcW.size y.chg.size)
          · rintro e w' ⟨v, h1, h2, h3⟩
            unfold Rep at h2
            rw [h2, hpos] at h1
            exact ⟨h1, h3⟩
        have yR : ∀ y : Wd No W, y.w.cell? ⟨Ab + 1, i, none⟩ = some (.int .i64 (numL ((valsR pre).map (inD s key)) i)) := fun y => y.chg.cell (hR.cell hi) id
        have yF : ∀ y : Wd No W, y.w.frozen? ⟨Ab + 1, i, none⟩ = false := fun y => RowIs.free (f := numL ((valsR pre).map (inD s key))) (N := L.length) (y.chg.heap hR id) i
        have hw : wrap64 (numL ((valsR pre).map (inD s key)) i + 1) = numL ((valsR pre).map (inD s key)) i + 1 := by
          have := numL_range ((valsR pre).map (inD s key)) i
          rw [List.length_map, valsR_len] at this
          exact IntWalk.wrap64_in _ (by omega)
        gi_wp2_with fail
        obtain ⟨y, hy⟩ := Wd.start No W
        rw [← hy]
        clear e0 e1 e2 e3 e4 e5 e6 e7 e8 e9 hNW hrep hpos
        refine wp_region_tailR _ 11 y rfl rfl (by kernel_rfl) (by kernel_rfl) (by kernel_rfl) (by kernel_rfl) (by kernel_rfl) (by kernel_rfl) ?_
        simp only [List.take_succ_cons, List.take_zero]
        repeat (refine WQ.step (fun K hK => ?_); go_simp; first | (refine hK _ ?_; clear hK K) | (apply Exists.intro; refine ⟨fun _ => ?_, hK _ ?_⟩; (go_at_call 99; exact wd_calls (hcall _)); clear hK K))
        refine WQ.nil ?_
        rintro _ ⟨z, rfl⟩
        gi_wp2_with fail
        refine wp_region_tailR _ 8 z rfl rfl (by kernel_rfl) (by kernel_rfl) (by kernel_rfl) (by kernel_rfl) (by kernel_rfl) (by kernel_rfl) ?_
        simp only [List.take_succ_cons, List.take_zero]
        repeat (refine WQ.step (fun K hK => ?_); go_simp; first | (refine hK _ ?_; clear hK K) | (apply Exists.intro; refine ⟨fun _ => ?_, hK _ ?_⟩; (go_at_call 111; exact wd_calls (hidx _)); clear hK K))
        refine WQ.nil ?_
        rintro _ ⟨z2, rfl⟩
        gi_wp2_with fail
        rw [hw]
        have hR2 := RowIs.set (f := numL ((valsR pre).map (inD s key))) (N := L.length) (z2.chg.heap hR id) hi (numL ((valsR pre).map (inD s key)) i + 1)
        refine ⟨((KeepsOthers.of_grownBy (grown_of z2.chg) (fun _ _ h => by cases h)).trans (KeepsOthers.setCell _ _ _)).from _, kpB_t (kpB_n z2.chg) (kpB_s i), ⟨?_, hset_other (z2.chg.heap hB id) (by omega) _⟩, ?_⟩
        · have e : (fun k => if k = i then numL ((valsR pre).map (inD s key)) i + 1 else numL ((valsR pre).map (inD s key)) k) = fun k : Nat => numL ((valsR pre).map (inD s key)) k + if inD s key m = k then 1 else 0 := by
            funext k
            rw [hin]
            by_cases h : k = i
            · subst h; simp
            · have h' : ¬ ((i : Int) = k) := by omega
              simp [h, h']
          rw [hpn, ← e]
          exact hR2
        · exact hBl.trans ((z2.chg.below.mono hBl.size).trans (((Chg.refl (· = Ab + 1) z2.w).setCell (p := ⟨Ab + 1, i, none⟩) (fun _ => rfl) _).belowB (by have := hBl.size; have := z2.chg.size; omega) (fun k hk => by omega)))
      · rw [if_neg (by simp [hv])] at hin
        rw [hv] at hcall
        gi_wp2_with fail
        obtain ⟨y, hy⟩ := Wd.start No W
        rw [← hy]
        clear e0 e1 e2 e3 e4 e5 e6 e7 e8 e9 hNW hrep
        refine wp_region_tailR _ 11 y rfl rfl (by kernel_rfl) (by kernel_rfl) (by kernel_rfl) (by kernel_rfl) (by kernel_rfl) (by kernel_rfl) ?_
        simp only [List.take_succ_cons, List.take_zero]
        repeat (refine WQ.step (fun K hK => ?_); go_simp; first | (refine hK _ ?_; clear hK K) | (apply Exists.intro; refine ⟨fun _ => ?_, hK _ ?_⟩; (go_at_call 99; exact wd_calls (hcall _)); clear hK K))
        refine WQ.nil ?_
        rintro _ ⟨z, rfl⟩
        gi_wp2_with fail
        refine ⟨(KeepsOthers.of_grownBy (grown_of z.chg) (fun _ _ h => by cases h)).from _, kpB_n z.chg, ⟨?_, z.chg.heap hB id⟩, hBl.trans (z.chg.below.mono hBl.size)⟩
        have e : (fun i : Nat => numL ((valsR pre).map (inD s key)) i + if inD s key m = i then 1 else 0) = numL ((valsR pre).map (inD s key)) := by
          funext i
          rw [hin, if_neg (by omega), Int.add_zero]
        rw [hpn, e]
        exact z.chg.heap hR id
    case done =>
      rintro E ys W hE hys ⟨⟨hR, hB⟩, hBl⟩ hK
      have cb : W.cell? ⟨Ab + 1 + 1, 0, none⟩ = some (.slice (some ⟨Ab + 1, 0, none⟩) L.length L.length) := cell_of_heap hB rfl
      gi_wp2
      have hEs := lt_of_heap hK
      refine ⟨by simp, .inl ⟨_, _, rfl, run_takeDeferred hK, ?_⟩⟩
      have hRE : RowIs (W.putObj E (.deferred none)) (Ab + 1) L.length (numL ((valsR ys).map (inD s key))) := (World.putObj_heap_other (by omega)).trans hR
      refine ⟨.slice (some ⟨Ab + 1, 0, none⟩) L.length L.length, by simp [results, Tryz.results60, go_sem], _, rfl, ?_, ?_, fun a m c e => by
        cases e
        exact Nat.le_trans hwA (Nat.le_succ _)⟩
      · have e : valsR ys = ownL s l j l.n := Eq.trans hys HX.out
        rw [HS.out, ← HL.out, ← e]
        exact hRE.rep hLn fun o h => absurd (hws5 _ o h) (by omega)
      · exact hcV5.trans (Chg.of_below (hBl.trans (belowK_b (w := V5) (Nat.le_refl _) W E _ _ (by have := hc5U.size; omega) hK rfl rfl)))
    case stop =>
      rintro D c pre W _ _ h _
      exact h.elim
  · rw [ha]
    have hsp : spreadL s l k = ⟨0, numL ((ownL s l k.toNat l.n).map (inD s (s.owners.el k.toNat).topo))⟩ := by
      unfold spreadL
      rw [ha]
      rfl
    gi_wp2_with fail
    all_goals rw [hsp]
    all_goals exact ⟨.slice none 0 0, by simp [results, Tryz.results60, go_sem], _, rfl, rep_nil _ _, hcV, fun a m c e => by cases e⟩
theorem spread_pure (s : SnapD) (ok : SnapOk s) (l : Lst Int) (hl : l.n ≤ 1048576) (k : Int) : Pure Tryz.prog 60 [snapF s, intsF l, I k] (intsF (spreadL s l k)) :=
  ⟨goes_of Tryz.func60 rfl rfl, fun x vs hws hr => by
    obtain ⟨u, v, z, rfl, h1, h2, h3⟩ := repL3 hr
    obtain ⟨n, p, o, rfl⟩ := snapF_split h1
    unfold Rep at h3
    subst h3
    refine (spread_any s ok l hl k x.WS x.W hws h1 h2).mono fun e w' ⟨v, h1, h2, h3, _⟩ => ⟨v, h1, h2, h3⟩⟩
theorem spread_new (s : SnapD) (ok : SnapOk s) (l : Lst Int) (hl : l.n ≤ 1048576) (k : Int) : PureNew Tryz.prog 60 [snapF s, intsF l, I k] 1 (encL (spreadL s l k).n fun i => [I ((spreadL s l k).el i)]) :=
  ⟨⟨goes_of Tryz.func60 rfl rfl, enc_isV _ _⟩, fun x vs hws hr => by
    obtain ⟨u, v, z, rfl, h1, h2, h3⟩ := repL3 hr
    obtain ⟨n, p, o, rfl⟩ := snapF_split h1
    unfold Rep at h3
    subst h3
    refine (spread_any s ok l hl k x.WS x.W hws h1 h2).mono fun e w' ⟨v, h1, h2, h3, h4⟩ => ⟨v, h1, h2, h3, h4⟩⟩
end Go.Proofs.YthpmgnbehahkfaaGreat
end
section
namespace Go.Proofs.YthpmgnbehahkfaaGreat
open Go.RowKit Go.Dk Go.Dn

theorem eqI_pure (a b : Lst Int) (ha : a.n ≤ 1048576) (hb : b.n ≤ 1048576) : Pure Tryz.prog 16 [intsF a, intsF b] (B (eqL a b)) :=
  ⟨goes_of Tryz.func16 rfl rfl, fun x vs _ hr => by
    obtain ⟨u, v, rfl, h1, h2⟩ := repL2 hr
    exact (eqInts_any (ints_of_rep h1 ha) (ints_of_rep h2 hb)).mono fun e w' ⟨h1, h2⟩ => ⟨_, h1, by unfold Rep; rfl, h2⟩⟩
theorem ref07CheckE_pure (s : SnapD) (ok : SnapOk s) (l : Lst Int) (hl : l.n ≤ 1048576) : Pure Tryz.prog 105 [snapF s, intsF l] (I (placeE s l)) :=
  ⟨goes_of Tryz.func105 rfl rfl, fun x vs _ hr => by
    obtain ⟨u, v, rfl, h1, h2⟩ := repL2 hr
    obtain ⟨n, p, o, lv, tv, pv, rfl, h⟩ := snap_of_rep h1 ok
    exact (refPlaceCheck_any h (ints_of_rep h2 hl)).mono fun e w' ⟨h1, h2⟩ => ⟨_, h1, by unfold Rep; rfl, h2⟩⟩
/-- what is unlike, at the first places -/
def movP (p q : Lst Int) : Nat → List (Int × Int)
  | 0 => []
  | j + 1 => movP p q j ++ if p.el j = q.el j then [] else [((j : Int), q.el j)]
theorem movP_len (p q : Lst Int) : ∀ j, (movP p q j).length ≤ j
  | 0 => Nat.le_refl _
  | j + 1 => by
    have := movP_len p q j
    simp only [movP, List.length_append]
    split <;> simp <;> omega
def movR (l : List (Int × Int)) : List (List FD) := l.map fun x => [I x.1, I x.2]
def movF (l : List (Int × Int)) : FD := .sl 2 (movR l)
theorem movR_len (l : List (Int × Int)) : (movR l).length = l.length := by simp [movR]
theorem movR_snoc (l : List (Int × Int)) (a b : Int) : movR l ++ [[I a, I b]] = movR (l ++ [(a, b)]) := by simp [movR]
theorem movR_get {l : List (Int × Int)} {k : Nat} (h : k < l.length) : (movR l)[k]? = some [I l[k].1, I l[k].2] := by simp [movR, h]
theorem movR_at {l : List (Int × Int)} {k : Nat} (h : k < (movR l).length) : (movR l)[k] = [I (l[k]'(by simpa [movR] using h)).1, I (l[k]'(by simpa [movR] using h)).2] := by simp [movR]
def movesL (p q : Lst Int) : List (Int × Int) := movP p q (min p.n q.n)
set_option maxRecDepth 100000 in
set_option maxHeartbeats 2000000 in
theorem moves_pure (p q : Lst Int) (hp : p.n ≤ 1048576) (hq : q.n ≤ 1048576) : Pure Tryz.prog 53 [intsF p, intsF q] (movF (movesL p q)) := by
  obtain ⟨M, hM⟩ : ∃ M, M = min p.n q.n := ⟨_, rfl⟩
  unfold movesL
  rw [← hM]
  have hm1 : (if (q.n : Int) < (p.n : Int) then (q.n : Int) else (p.n : Int)) = (M : Int) := by split <;> omega
  have hm2 : (if q.n < p.n then (q.n : Int) else (p.n : Int)) = (M : Int) := by split <;> omega
  refine Pure.of_run' (lit := true) Tryz.func53 rfl rfl rfl rfl (Nat.le_of_ble_eq_true rfl) (run_of_runL ?_)
  unfold St.enter
  simp -dsimp -implicitDefEqProofs [go_sem, intsF, hm1, hm2]
  refine runL_loop [.slot 4 104 2] 8 (by simp -dsimp -implicitDefEqProofs [go_sem]) (fun m st => ∃ j v : Nat, st.n = 34 ∧ st.lit = true ∧ j ≤ M ∧ m = M - j ∧ st.fr 0 = .f (intsF p) ∧ st.fr 1 = .f (intsF q) ∧ st.fr 4 = .own 7 v ∧ st.fr 10 = .f (I M) ∧ st.fr 11 = .f (I j) ∧ st.mem 7 = some (.row 104 v 2 (movR (movP p q j)))) M ⟨0, 0, ?_⟩ ?_
  · simp -dsimp -implicitDefEqProofs [go_sem, intsF, movP, movR]
  rintro m ⟨N, fr, mem, nx, lt⟩ hnx ⟨j, v, hN, hlt, hj, rfl, f0, f1, f4, f10, f11, m7⟩
  dsimp only at *
  subst hN hnx hlt
  rcases Nat.lt_or_ge j M with hlt | hge
  · have h1 : j < p.n := by omega
    have h2 : j < q.n := by omega
    have hlen := movP_len p q j
    have hst : movP p q (j + 1) = movP p q j ++ if p.el j = q.el j then [] else [((j : Int), q.el j)] := rfl
    simp -dsimp -implicitDefEqProofs [go_sem, f0, f1, f4, f10, f11, hlt, intsF]
    refine runL_draw [[], [], [0, 1], [2, 0, 1], [], [], [4, 5], [6, 4, 5], [3, 2, 0, 1, 7, 6, 4, 5]] (by kernel_rfl) (by kernel_rfl) ?_
    by_cases e : p.el j = q.el j
    · rw [if_pos e, List.append_nil] at hst
      simp -dsimp -implicitDefEqProofs [go_sem, Tv, Cw, silentAt, silentOp, f0, f1, f4, f10, f11, m7, hlt, intsF, encL_get? _ h1, encL_get? _ h2, h1, h2, e]
      exact ⟨_, by omega, j + 1, by omega, rfl, w64 (by omega) (by omega), by rw [hst]⟩
    · rw [if_neg e] at hst
      have e' : (p.el j != q.el j) = true := by simpa using e
      simp -dsimp -implicitDefEqProofs [go_sem, Tv, Cw, silentAt, silentOp, f0, f1, f4, f10, f11, m7, hlt, intsF, encL_get? _ h1, encL_get? _ h2, h1, h2, e', movR_len]
      refine andL_mk (by omega) ?_
      simp -dsimp -implicitDefEqProofs [go_sem, f0, f1, f4, f10, f11, m7, hlt, intsF]
      exact ⟨_, by omega, j + 1, by omega, rfl, w64 (by omega) (by omega), by rw [hst, movR_snoc]⟩
  · obtain rfl : j = M := by omega
    simp -dsimp -implicitDefEqProofs [go_sem, f0, f1, f4, f10, f11, m7]
    exact FLe.refl _
set_option maxRecDepth 100000 in
set_option maxHeartbeats 2000000 in
theorem refMoves_pure (p q : Lst Int) (hp : p.n ≤ 1048576) (hq : q.n ≤ 1048576) : Pure Tryz.prog 54 [intsF p, intsF q] (movF (movesL p q)) := by
  obtain ⟨M, hM⟩ : ∃ M, M = min p.n q.n := ⟨_, rfl⟩
  unfold movesL
  rw [← hM]
  refine Pure.of_run' (lit := true) Tryz.func54 rfl rfl rfl rfl (Nat.le_of_ble_eq_true rfl) (run_of_runL ?_)
  unfold St.enter
  simp -dsimp -implicitDefEqProofs [go_sem, intsF]
  refine runL_loop [.slot 5 104 2] 4 (by simp -dsimp -implicitDefEqProofs [go_sem]) (fun m st => ∃ j v : Nat, st.n = 38 ∧ st.lit = true ∧ j ≤ M ∧ m = M - j ∧ st.fr 0 = .f (intsF p) ∧ st.fr 1 = .f (intsF q) ∧ st.fr 5 = .own 3 v ∧ st.fr 6 = .f (I j) ∧ st.mem 3 = some (.row 104 v 2 (movR (movP p q j)))) M ⟨0, 0, ?_⟩ ?_
  · simp -dsimp -implicitDefEqProofs [go_sem, intsF, movP, movR]
  rintro m ⟨N, fr, mem, nx, lt⟩ hnx ⟨j, v, hN, hlt, hj, rfl, f0, f1, f5, f6, m4⟩
  dsimp only at *
  subst hN hnx hlt
  rcases Nat.lt_or_ge j M with hlt | hge
  · have h1 : j < p.n := by omega
    have h2 : j < q.n := by omega
    have hlen := movP_len p q j
    have hst : movP p q (j + 1) = movP p q j ++ if p.el j = q.el j then [] else [((j : Int), q.el j)] := rfl
    simp -dsimp -implicitDefEqProofs [go_sem, f0, f1, f5, f6, h1, h2, intsF]
    refine runL_draw [[], [], [0, 1], [2, 0, 1], [], [], [4, 5], [6, 4, 5], [3, 2, 0, 1, 7, 6, 4, 5]] (by kernel_rfl) (by kernel_rfl) ?_
    by_cases e : p.el j = q.el j
    · rw [if_pos e, List.append_nil] at hst
      simp -dsimp -implicitDefEqProofs [go_sem, Tv, Cw, silentAt, silentOp, f0, f1, f5, f6, m4, hlt, intsF, encL_get? _ h1, encL_get? _ h2, h1, h2, e]
      exact ⟨_, by omega, j + 1, by omega, rfl, w64 (by omega) (by omega), by rw [hst]⟩
    · rw [if_neg e] at hst
      have e' : (p.el j != q.el j) = true := by simpa using e
      simp -dsimp -implicitDefEqProofs [go_sem, Tv, Cw, silentAt, silentOp, f0, f1, f5, f6, m4, hlt, intsF, encL_get? _ h1, encL_get? _ h2, h1, h2, e', movR_len]
      refine andL_mk (by omega) ?_
      simp -dsimp -implicitDefEqProofs [go_sem, f0, f1, f5, f6, m4, hlt, intsF]
      exact ⟨_, by omega, j + 1, by omega, rfl, w64 (by omega) (by omega), by rw [hst, movR_snoc]⟩
  · obtain rfl : j = M := by omega
    rcases Nat.lt_or_ge j p.n with h1 | h1
    · have h2 : ¬ j < q.n := by omega
      simp -dsimp -implicitDefEqProofs [go_sem, f0, f1, f5, f6, m4, h1, h2, intsF]
      exact FLe.refl _
    · have h2 : ¬ j < p.n := by omega
      simp -dsimp -implicitDefEqProofs [go_sem, f0, f1, f5, f6, m4, h2, intsF]
      exact FLe.refl _
set_option maxRecDepth 100000 in
theorem sameMoves_pure (l : List (Int × Int)) (hl : l.length ≤ 1048576) : Pure Tryz.prog 52 [movF l, movF l] (B true) := by
  refine Pure.of_run (lit := true) Tryz.func52 rfl rfl rfl rfl (Nat.le_of_ble_eq_true rfl) (run_of_runL ?_)
  unfold St.enter
  simp -dsimp -implicitDefEqProofs [go_sem, movF, movR_len]
  refine runL_loop [] 7 (by simp -dsimp -implicitDefEqProofs [go_sem]) (fun m st => ∃ j : Nat, st.n = 26 ∧ st.lit = true ∧ j ≤ l.length ∧ m = l.length - j ∧ st.fr 0 = .f (movF l) ∧ st.fr 1 = .f (movF l) ∧ st.fr 5 = .f (I j)) l.length ⟨0, ?_⟩ ?_
  · simp -dsimp -implicitDefEqProofs [go_sem, movF]
  rintro m ⟨N, fr, mem, nx, lt⟩ hnx ⟨j, hN, hlt, hj, rfl, f0, f1, f5⟩
  dsimp only at *
  subst hN hnx hlt
  rcases Nat.lt_or_ge j l.length with hlt | hge
  · simp -dsimp -implicitDefEqProofs [go_sem, f0, f1, f5, movF, movR_len, hlt]
    refine runL_draw [[], [], [0, 1], [2, 0, 1], [], [], [4, 5], [6, 4, 5], [3, 2, 0, 1, 7, 6, 4, 5]] (by kernel_rfl) (by kernel_rfl) ?_
    simp -dsimp -implicitDefEqProofs [go_sem, Tv, Cw, silentAt, silentOp, f0, f1, f5, movF, movR_len, hlt, movR_at, movR_get hlt]
    exact ⟨_, by omega, j + 1, by omega, rfl, w64 (by omega) (by omega)⟩
  · obtain rfl : j = l.length := by omega
    simp -dsimp -implicitDefEqProofs [go_sem, f0, f1, f5, movF, movR_len]
end Go.Proofs.YthpmgnbehahkfaaGreat
end
section
namespace Go.Proofs.YthpmgnbehahkfaaGreat
open Go.RowKit Go.Dk Go.Dn

def appE (s : SnapD) (l : Lst Int) (kd pd nd : Int) : Int :=
  if placeE s l ≠ 0 then placeE s l
  else if ¬ kd = 1 ∧ ¬ kd = 2 then 2
  else if pd < 0 ∨ (l.n : Int) ≤ pd ∨ nd < 0 ∨ (if kd = 2 then (s.nodes.n : Int) else 1) ≤ nd then 9
  else if (l.el pd.toNat = -1 ↔ kd = 1) ∨ (kd = 2 ∧ (s.nodes.el nd.toNat).lost = true) then 110 else 0
def appTo (kd nd : Int) : Int := if kd = 2 then nd else -1
def appL (s : SnapD) (l : Lst Int) (kd pd nd : Int) : Lst Int := if appE s l kd pd nd = 0 then ⟨l.n, setC l.el pd.toNat (appTo kd nd)⟩ else ⟨0, l.el⟩
def appF (s : SnapD) (l : Lst Int) (kd pd nd : Int) : FD := .tup [intsF (appL s l kd pd nd), I (appE s l kd pd nd)]
theorem appF_bad {s : SnapD} {l : Lst Int} {kd pd nd e : Int} (h : appE s l kd pd nd = e) (he : e ≠ 0) : appF s l kd pd nd = .tup [.sl 1 [], I e] := by
  unfold appF appL
  rw [h, if_neg he]
  rfl
theorem appF_good {s : SnapD} {l : Lst Int} {kd pd nd : Int} {i : Nat} (h : appE s l kd pd nd = 0) (hp : pd = i) : appF s l kd pd nd = .tup [.sl 1 (encL l.n fun j => [I (setC l.el i (appTo kd nd) j)]), I 0] := by
  unfold appF appL
  rw [h, if_pos rfl, hp, Int.toNat_natCast]
  rfl
theorem setC_twice (f : Nat → Int) (i : Nat) (x y : Int) : setC (setC f i x) i y = setC f i y := by
  funext j
  unfold setC
  split <;> rfl
theorem tup_nil (e : Int) : FLe (.tup [.v (.slice none 0 0), I e]) (.tup [.sl 1 [], I e]) := FLe.tup (FLeL.cons (FLe.nil _) (FLeL.refl _))
section
variable {s : SnapD} {l : Lst Int} {kd pd nd : Int}
theorem appE_check (h : ¬ placeE s l = 0) : appE s l kd pd nd = placeE s l := by unfold appE; rw [if_pos h]
theorem appE_kind (h : placeE s l = 0) (h1 : ¬ kd = 1) (h2 : ¬ kd = 2) : appE s l kd pd nd = 2 := by unfold appE; rw [if_neg (by simp [h]), if_pos ⟨h1, h2⟩]
theorem appE_range (h : placeE s l = 0) (hk : kd = 1 ∨ kd = 2) (hr : pd < 0 ∨ (l.n : Int) ≤ pd ∨ nd < 0 ∨ (if kd = 2 then (s.nodes.n : Int) else 1) ≤ nd) : appE s l kd pd nd = 9 := by unfold appE; rw [if_neg (by simp [h]), if_neg (by omega), if_pos hr]
theorem appE_state (h : placeE s l = 0) (hk : kd = 1 ∨ kd = 2) (hr : ¬ (pd < 0 ∨ (l.n : Int) ≤ pd ∨ nd < 0 ∨ (if kd = 2 then (s.nodes.n : Int) else 1) ≤ nd)) (hs : (l.el pd.toNat = -1 ↔ kd = 1) ∨ (kd = 2 ∧ (s.nodes.el nd.toNat).lost = true)) : appE s l kd pd nd = 110 := by
  unfold appE; rw [if_neg (by simp [h]), if_neg (by omega), if_neg hr, if_pos hs]
theorem appE_ok (h : placeE s l = 0) (hk : kd = 1 ∨ kd = 2) (hr : ¬ (pd < 0 ∨ (l.n : Int) ≤ pd ∨ nd < 0 ∨ (if kd = 2 then (s.nodes.n : Int) else 1) ≤ nd)) (hs : ¬ ((l.el pd.toNat = -1 ↔ kd = 1) ∨ (kd = 2 ∧ (s.nodes.el nd.toNat).lost = true))) : appE s l kd pd nd = 0 := by
  unfold appE; rw [if_neg (by simp [h]), if_neg (by omega), if_neg hr, if_neg hs]
end
set_option maxRecDepth 100000 in
set_option maxHeartbeats 4000000 in
theorem refApply_pure (s : SnapD) (ok : SnapOk s) (l : Lst Int) (hl : l.n ≤ 1048576) (kd pd nd : Int) : Pure Tryz.prog 51 [snapF s, intsF l, .agg [I kd, I pd, I nd]] (appF s l kd pd nd) := by
  refine Pure.of_run' (lit := false) Tryz.func51 rfl rfl rfl rfl (Nat.le_of_ble_eq_true rfl) (run_of_runL ?_)
  unfold St.enter
  simp -dsimp -implicitDefEqProofs [go_sem, snapF, snapC]
  refine callW_f (fs := [snapF s, intsF l]) (ref07CheckE_pure s ok l hl) ?_
  by_cases hc : placeE s l = 0
  · have hc2 : (placeE s l != 0) = false := by simp [hc]
    simp -dsimp -implicitDefEqProofs [go_sem, hc2]
    by_cases h1 : kd = 1
    · subst h1
      simp -dsimp -implicitDefEqProofs [go_sem]
      rcases Int.lt_or_le pd 0 with a | a
      · rw [appF_bad (appE_range hc (.inl rfl) (.inl a)) (by decide)]
        simp -dsimp -implicitDefEqProofs [go_sem, a]
        exact tup_nil _
      obtain ⟨i, rfl⟩ : ∃ i : Nat, pd = i := ⟨pd.toNat, by omega⟩
      have a' : ¬ (i : Int) < 0 := by omega
      rcases Nat.lt_or_ge i l.n with b | b
      · have b1 : ¬ l.n ≤ i := by omega
        have b2 : ¬ (l.n : Int) ≤ (i : Int) := by omega
        rcases Int.lt_or_le nd 0 with c | c
        · rw [appF_bad (appE_range hc (.inl rfl) (.inr (.inr (.inl c)))) (by decide)]
          simp -dsimp -implicitDefEqProofs [go_sem, a', b1, b2, c]
          exact tup_nil _
        obtain ⟨m, rfl⟩ : ∃ m : Nat, nd = m := ⟨nd.toNat, by omega⟩
        have c' : ¬ (m : Int) < 0 := by omega
        rcases Nat.eq_zero_or_pos m with d | d
        · subst d
          have hr : ¬ ((i : Int) < 0 ∨ (l.n : Int) ≤ i ∨ ((0 : Nat) : Int) < 0 ∨ (if (1 : Int) = 2 then (s.nodes.n : Int) else 1) ≤ ((0 : Nat) : Int)) := by
            rw [if_neg (by decide)]
            omega
          by_cases e : l.el i = -1
          · rw [appF_bad (appE_state hc (.inl rfl) hr (.inl (by rw [Int.toNat_natCast]; simp [e]))) (by decide)]
            simp -dsimp -implicitDefEqProofs [go_sem, a', b1, b2, c']
            refine runL_draw [[], [], [1], [0, 2, 1], [3, 0, 2, 1], [4, 3, 0, 2, 1], [], [6], [7, 6], [5, 4, 3, 0, 2, 1, 8, 7, 6], [9, 5, 4, 3, 0, 2, 1, 8, 7, 6], [10, 9, 5, 4, 3, 0, 2, 1, 8, 7, 6], [11, 10, 9, 5, 4, 3, 0, 2, 1, 8, 7, 6], [12, 11, 10, 9, 5, 4, 3, 0, 2, 1, 8, 7, 6], [13, 12, 11, 10, 9, 5, 4, 3, 0, 2, 1, 8, 7, 6], [14, 13, 12, 11, 10, 9, 5, 4, 3, 0, 2, 1, 8, 7, 6], [15, 14, 13, 12, 11, 10, 9, 5, 4, 3, 0, 2, 1, 8, 7, 6], [14, 13, 12, 11, 10, 9, 5, 4, 3, 0, 2, 1, 8, 7, 6], [17, 14, 13, 12, 11, 10, 9, 5, 4, 3, 0, 2, 1, 8, 7, 6], [16, 15, 14, 13, 12, 11, 10, 9, 5, 4, 3, 0, 2, 1, 8, 7, 6, 18, 17], [19, 16, 15, 14, 13, 12, 11, 10, 9, 5, 4, 3, 0, 2, 1, 8, 7, 6, 18, 17], [20, 19, 16, 15, 14, 13, 12, 11, 10, 9, 5, 4, 3, 0, 2, 1, 8, 7, 6, 18, 17], [14, 13, 12, 11, 10, 9, 5, 4, 3, 0, 2, 1, 8, 7, 6, 21, 20, 19, 16, 15, 18, 17], [10, 9, 5, 4, 3, 0, 2, 1, 8, 7, 6, 22, 14, 13, 12, 11, 21, 20, 19, 16, 15, 18, 17]] (by kernel_rfl) (by kernel_rfl) ?_
            simp -dsimp -implicitDefEqProofs [go_sem, Tv, Cw, silentAt, silentOp, intsF, encL_get? _ b, b, e]
            exact tup_nil _
          · have e' : (l.el i == -1) = false := by simpa using e
            rw [appF_good (appE_ok hc (.inl rfl) hr (by rw [Int.toNat_natCast]; simp [e])) rfl]
            simp -dsimp -implicitDefEqProofs [go_sem, a', b1, b2, c']
            refine runL_draw [[], [], [1], [0, 2, 1], [3, 0, 2, 1], [4, 3, 0, 2, 1], [], [6], [7, 6], [5, 4, 3, 0, 2, 1, 8, 7, 6], [9, 5, 4, 3, 0, 2, 1, 8, 7, 6], [10, 9, 5, 4, 3, 0, 2, 1, 8, 7, 6], [11, 10, 9, 5, 4, 3, 0, 2, 1, 8, 7, 6], [12, 11, 10, 9, 5, 4, 3, 0, 2, 1, 8, 7, 6], [13, 12, 11, 10, 9, 5, 4, 3, 0, 2, 1, 8, 7, 6], [14, 13, 12, 11, 10, 9, 5, 4, 3, 0, 2, 1, 8, 7, 6], [15, 14, 13, 12, 11, 10, 9, 5, 4, 3, 0, 2, 1, 8, 7, 6], [14, 13, 12, 11, 10, 9, 5, 4, 3, 0, 2, 1, 8, 7, 6], [17, 14, 13, 12, 11, 10, 9, 5, 4, 3, 0, 2, 1, 8, 7, 6], [16, 15, 14, 13, 12, 11, 10, 9, 5, 4, 3, 0, 2, 1, 8, 7, 6, 18, 17], [19, 16, 15, 14, 13, 12, 11, 10, 9, 5, 4, 3, 0, 2, 1, 8, 7, 6, 18, 17], [20, 19, 16, 15, 14, 13, 12, 11, 10, 9, 5, 4, 3, 0, 2, 1, 8, 7, 6, 18, 17], [14, 13, 12, 11, 10, 9, 5, 4, 3, 0, 2, 1, 8, 7, 6, 21, 20, 19, 16, 15, 18, 17], [10, 9, 5, 4, 3, 0, 2, 1, 8, 7, 6, 22, 14, 13, 12, 11, 21, 20, 19, 16, 15, 18, 17]] (by kernel_rfl) (by kernel_rfl) ?_
            simp -dsimp -implicitDefEqProofs [go_sem, Tv, Cw, silentAt, silentOp, intsF, encL_get? _ b, b, e']
            refine andL_mk (by omega) ?_
            simp -dsimp -implicitDefEqProofs [go_sem, b, encI_set _ _ _ _ b]
            exact FLe.refl _
        · rw [appF_bad (appE_range hc (.inl rfl) (.inr (.inr (.inr (by rw [if_neg (by decide)]; omega))))) (by decide)]
          have d' : ((m : Int) != 0) = true := by
            have : ¬ (m : Int) = 0 := by omega
            simpa using this
          simp -dsimp -implicitDefEqProofs [go_sem, a', b1, b2, c', d']
          exact tup_nil _
      · have b2 : (l.n : Int) ≤ (i : Int) := by omega
        rw [appF_bad (appE_range hc (.inl rfl) (.inr (.inl b2))) (by decide)]
        simp -dsimp -implicitDefEqProofs [go_sem, a', b, b2]
        exact tup_nil _
    · by_cases h2 : kd = 2
      · subst h2
        simp -dsimp -implicitDefEqProofs [go_sem]
        rcases Int.lt_or_le pd 0 with a | a
        · rw [appF_bad (appE_range hc (.inr rfl) (.inl a)) (by decide)]
          simp -dsimp -implicitDefEqProofs [go_sem, a]
          exact tup_nil _
        obtain ⟨i, rfl⟩ : ∃ i : Nat, pd = i := ⟨pd.toNat, by omega⟩
        have a' : ¬ (i : Int) < 0 := by omega
        rcases Nat.lt_or_ge i l.n with b | b
        · have b1 : ¬ l.n ≤ i := by omega
          have b2 : ¬ (l.n : Int) ≤ (i : Int) := by omega
          rcases Int.lt_or_le nd 0 with c | c
          · rw [appF_bad (appE_range hc (.inr rfl) (.inr (.inr (.inl c)))) (by decide)]
            simp -dsimp -implicitDefEqProofs [go_sem, a', b1, b2, c]
            exact tup_nil _
          obtain ⟨m, rfl⟩ : ∃ m : Nat, nd = m := ⟨nd.toNat, by omega⟩
          have c' : ¬ (m : Int) < 0 := by omega
          rcases Nat.lt_or_ge m s.nodes.n with d | d
          · have d1 : ¬ s.nodes.n ≤ m := by omega
            have d2 : ¬ (s.nodes.n : Int) ≤ (m : Int) := by omega
            have hr : ¬ ((i : Int) < 0 ∨ (l.n : Int) ≤ i ∨ (m : Int) < 0 ∨ (if (2 : Int) = 2 then (s.nodes.n : Int) else 1) ≤ (m : Int)) := by
              rw [if_pos rfl]
              omega
            by_cases e : l.el i = -1
            · rcases Bool.eq_false_or_eq_true (s.nodes.el m).lost with f | f
              · rw [appF_bad (appE_state hc (.inr rfl) hr (.inr ⟨rfl, by rw [Int.toNat_natCast]; exact f⟩)) (by decide)]
                simp -dsimp -implicitDefEqProofs [go_sem, a', b1, b2, c', d1, d2]
                refine runL_draw [[], [], [1], [0, 2, 1], [3, 0, 2, 1], [4, 3, 0, 2, 1], [], [6], [7, 6], [5, 4, 3, 0, 2, 1, 8, 7, 6], [9, 5, 4, 3, 0, 2, 1, 8, 7, 6], [10, 9, 5, 4, 3, 0, 2, 1, 8, 7, 6], [11, 10, 9, 5, 4, 3, 0, 2, 1, 8, 7, 6], [12, 11, 10, 9, 5, 4, 3, 0, 2, 1, 8, 7, 6], [13, 12, 11, 10, 9, 5, 4, 3, 0, 2, 1, 8, 7, 6], [14, 13, 12, 11, 10, 9, 5, 4, 3, 0, 2, 1, 8, 7, 6], [15, 14, 13, 12, 11, 10, 9, 5, 4, 3, 0, 2, 1, 8, 7, 6], [14, 13, 12, 11, 10, 9, 5, 4, 3, 0, 2, 1, 8, 7, 6], [17, 14, 13, 12, 11, 10, 9, 5, 4, 3, 0, 2, 1, 8, 7, 6], [16, 15, 14, 13, 12, 11, 10, 9, 5, 4, 3, 0, 2, 1, 8, 7, 6, 18, 17], [19, 16, 15, 14, 13, 12, 11, 10, 9, 5, 4, 3, 0, 2, 1, 8, 7, 6, 18, 17], [20, 19, 16, 15, 14, 13, 12, 11, 10, 9, 5, 4, 3, 0, 2, 1, 8, 7, 6, 18, 17], [14, 13, 12, 11, 10, 9, 5, 4, 3, 0, 2, 1, 8, 7, 6, 21, 20, 19, 16, 15, 18, 17], [10, 9, 5, 4, 3, 0, 2, 1, 8, 7, 6, 22, 14, 13, 12, 11, 21, 20, 19, 16, 15, 18, 17]] (by kernel_rfl) (by kernel_rfl) ?_
                simp -dsimp -implicitDefEqProofs [go_sem, Tv, Cw, silentAt, silentOp, intsF, encL_get? _ b, b, e, d, encL_get? _ d, nodeC_eq (s.nodes.el m), f]
                exact tup_nil _
              · rw [appF_good (appE_ok hc (.inr rfl) hr (by rw [Int.toNat_natCast, Int.toNat_natCast]; simp [e, f])) rfl]
                simp -dsimp -implicitDefEqProofs [go_sem, a', b1, b2, c', d1, d2]
                refine runL_draw [[], [], [1], [0, 2, 1], [3, 0, 2, 1], [4, 3, 0, 2, 1], [], [6], [7, 6], [5, 4, 3, 0, 2, 1, 8, 7, 6], [9, 5, 4, 3, 0, 2, 1, 8, 7, 6], [10, 9, 5, 4, 3, 0, 2, 1, 8, 7, 6], [11, 10, 9, 5, 4, 3, 0, 2, 1, 8, 7, 6], [12, 11, 10, 9, 5, 4, 3, 0, 2, 1, 8, 7, 6], [13, 12, 11, 10, 9, 5, 4, 3, 0, 2, 1, 8, 7, 6], [14, 13, 12, 11, 10, 9, 5, 4, 3, 0, 2, 1, 8, 7, 6], [15, 14, 13, 12, 11, 10, 9, 5, 4, 3, 0, 2, 1, 8, 7, 6], [14, 13, 12, 11, 10, 9, 5, 4, 3, 0, 2, 1, 8, 7, 6], [17, 14, 13, 12, 11, 10, 9, 5, 4, 3, 0, 2, 1, 8, 7, 6], [16, 15, 14, 13, 12, 11, 10, 9, 5, 4, 3, 0, 2, 1, 8, 7, 6, 18, 17], [19, 16, 15, 14, 13, 12, 11, 10, 9, 5, 4, 3, 0, 2, 1, 8, 7, 6, 18, 17], [20, 19, 16, 15, 14, 13, 12, 11, 10, 9, 5, 4, 3, 0, 2, 1, 8, 7, 6, 18, 17], [14, 13, 12, 11, 10, 9, 5, 4, 3, 0, 2, 1, 8, 7, 6, 21, 20, 19, 16, 15, 18, 17], [10, 9, 5, 4, 3, 0, 2, 1, 8, 7, 6, 22, 14, 13, 12, 11, 21, 20, 19, 16, 15, 18, 17]] (by kernel_rfl) (by kernel_rfl) ?_
                simp -dsimp -implicitDefEqProofs [go_sem, Tv, Cw, silentAt, silentOp, intsF, encL_get? _ b, b, e, d, encL_get? _ d, nodeC_eq (s.nodes.el m), f]
                refine andL_mk (by omega) ?_
                simp -dsimp -implicitDefEqProofs [go_sem, b, encI_set _ _ _ _ b]
                rw [setC_twice]
                exact FLe.refl _
            · have e' : (l.el i == -1) = false := by simpa using e
              rw [appF_bad (appE_state hc (.inr rfl) hr (.inl (by rw [Int.toNat_natCast]; simp [e]))) (by decide)]
              simp -dsimp -implicitDefEqProofs [go_sem, a', b1, b2, c', d1, d2]
              refine runL_draw [[], [], [1], [0, 2, 1], [3, 0, 2, 1], [4, 3, 0, 2, 1], [], [6], [7, 6], [5, 4, 3, 0, 2, 1, 8, 7, 6], [9, 5, 4, 3, 0, 2, 1, 8, 7, 6], [10, 9, 5, 4, 3, 0, 2, 1, 8, 7, 6], [11, 10, 9, 5, 4, 3, 0, 2, 1, 8, 7, 6], [12, 11, 10, 9, 5, 4, 3, 0, 2, 1, 8, 7, 6], [13, 12, 11, 10, 9, 5, 4, 3, 0, 2, 1, 8, 7, 6], [14, 13, 12, 11, 10, 9, 5, 4, 3, 0, 2, 1, 8, 7, 6], [15, 14, 13, 12, 11, 10, 9, 5, 4, 3, 0, 2, 1, 8, 7, 6], [14, 13, 12, 11, 10, 9, 5, 4, 3, 0, 2, 1, 8, 7, 6], [17, 14, 13, 12, 11, 10, 9, 5, 4, 3, 0, 2, 1, 8, 7, 6], [16, 15, 14, 13, 12, 11, 10, 9, 5, 4, 3, 0, 2, 1, 8, 7, 6, 18, 17], [19, 16, 15, 14, 13, 12, 11, 10, 9, 5, 4, 3, 0, 2, 1, 8, 7, 6, 18, 17], [20, 19, 16, 15, 14, 13, 12, 11, 10, 9, 5, 4, 3, 0, 2, 1, 8, 7, 6, 18, 17], [14, 13, 12, 11, 10, 9, 5, 4, 3, 0, 2, 1, 8, 7, 6, 21, 20, 19, 16, 15, 18, 17], [10, 9, 5, 4, 3, 0, 2, 1, 8, 7, 6, 22, 14, 13, 12, 11, 21, 20, 19, 16, 15, 18, 17]] (by kernel_rfl) (by kernel_rfl) ?_
              simp -dsimp -implicitDefEqProofs [go_sem, Tv, Cw, silentAt, silentOp, intsF, encL_get? _ b, b, e']
              exact tup_nil _
          · rw [appF_bad (appE_range hc (.inr rfl) (.inr (.inr (.inr (by rw [if_pos rfl]; omega))))) (by decide)]
            have d1 : s.nodes.n ≤ m := d
            have d2 : (s.nodes.n : Int) ≤ (m : Int) := by omega
            simp -dsimp -implicitDefEqProofs [go_sem, a', b1, b2, c', d1, d2]
            exact tup_nil _
        · have b2 : (l.n : Int) ≤ (i : Int) := by omega
          rw [appF_bad (appE_range hc (.inr rfl) (.inr (.inl b2))) (by decide)]
          simp -dsimp -implicitDefEqProofs [go_sem, a', b, b2]
          exact tup_nil _
      · have h1' : (kd != 1) = true := by simpa using h1
        have h2' : (kd != 2) = true := by simpa using h2
        rw [appF_bad (appE_kind hc h1 h2) (by decide)]
        simp -dsimp -implicitDefEqProofs [go_sem, h1', h2']
        exact tup_nil _
  · have hc2 : (placeE s l != 0) = true := by simpa using hc
    rw [appF_bad (appE_check hc) hc]
    simp -dsimp -implicitDefEqProofs [go_sem, hc2]
    exact tup_nil _
end Go.Proofs.YthpmgnbehahkfaaGreat
end
section
namespace Go.Proofs.YthpmgnbehahkfaaGreat
open Go.RowKit Go.Dk Go.Dn

section
variable {mem : Nat → Option M} {nx : Nat} {K : D → (Nat → Option M) → Nat → Prop}
set_option maxRecDepth 100000 in
set_option maxHeartbeats 4000000 in
theorem apply_C (s : SnapD) (ok : SnapOk s) (l : Lst Int) (hl : l.n ≤ 1048576) (kd pd nd : Int)
    (hbad : appE s l kd pd nd ≠ 0 → ∀ m' n', nx ≤ n' → Kept [] nx mem m' → K (.tup [.f (.v (.slice none 0 0)), .f (I (appE s l kd pd nd))]) m' n')
    (hgood : appE s l kd pd nd = 0 → ∀ m' n' q, nx ≤ q → q < n' → Kept [] nx mem m' → m' q = some (.row 3 0 1 (encL l.n fun j => [I (setC l.el pd.toNat (appTo kd nd) j)])) → K (.tup [.own q 0, .f (I 0)]) m' n') :
    callS Tryz.prog 50 [.f (snapF s), .f (intsF l), .f (.agg [I kd, I pd, I nd])] mem nx K := by
  have bad : ∀ e, appE s l kd pd nd = e → e ≠ 0 → ∀ m' n', nx ≤ n' → Kept [] nx mem m' → K (.tup [.f (.v (.slice none 0 0)), .f (I e)]) m' n' := fun e h1 h2 => by
    subst h1
    exact hbad h2
  clear hbad
  have u0 : ¬ nx = nx + 1 ∧ ¬ nx + 1 = nx := by omega
  refine callS.of_run (lit := false) (B := fun _ => []) Tryz.func50 rfl rfl rfl rfl (Nat.le_of_ble_eq_true rfl) (runC_of_runCL ?_)
  simp -dsimp -implicitDefEqProofs [go_sem, snapF, snapC, u0]
  refine callW_f (fs := [snapF s, intsF l]) (placeCheck_pure s ok l hl) ?_
  by_cases hc : placeE s l = 0
  · have hc2 : (placeE s l != 0) = false := by simp [hc]
    simp -dsimp -implicitDefEqProofs [go_sem, hc2, u0]
    by_cases h1 : kd = 1
    · subst h1
      simp -dsimp -implicitDefEqProofs [go_sem, u0]
      refine callW_f (there_pure _ _) ?_
      rcases Int.lt_or_le pd 0 with a | a
      · have hbad' := bad _ (appE_range hc (.inl rfl) (.inl a)) (by decide)
        have a0 : (decide (0 ≤ pd) && decide (pd < (l.n : Int))) = false := by simp; omega
        rw [a0]
        simp -dsimp -implicitDefEqProofs [go_sem, u0]
        exact hbad' _ _ (by first | omega | (simp -dsimp -implicitDefEqProofs [go_sem] <;> omega)) (fun id hid hl => by
          have v : ¬ id = nx ∧ ¬ id = nx + 1 := by omega
          simp -dsimp -implicitDefEqProofs [upd, v])
      obtain ⟨i, rfl⟩ : ∃ i : Nat, pd = i := ⟨pd.toNat, by omega⟩
      rcases Nat.lt_or_ge i l.n with b | b
      · have a0 : (decide ((0 : Int) ≤ i) && decide ((i : Int) < (l.n : Int))) = true := by simp; omega
        rw [a0]
        simp -dsimp -implicitDefEqProofs [go_sem, u0]
        refine callW_f (there_pure _ _) ?_
        rcases Int.lt_or_le nd 0 with c | c
        · have hbad' := bad _ (appE_range hc (.inl rfl) (.inr (.inr (.inl c)))) (by decide)
          have c0 : (decide (0 ≤ nd) && decide (nd < (1 : Int))) = false := by simp; omega
          rw [c0]
          simp -dsimp -implicitDefEqProofs [go_sem, u0]
          exact hbad' _ _ (by first | omega | (simp -dsimp -implicitDefEqProofs [go_sem] <;> omega)) (fun id hid hl => by
            have v : ¬ id = nx ∧ ¬ id = nx + 1 := by omega
            simp -dsimp -implicitDefEqProofs [upd, v])
        obtain ⟨m, rfl⟩ : ∃ m : Nat, nd = m := ⟨nd.toNat, by omega⟩
        rcases Nat.eq_zero_or_pos m with d | d
        · subst d
          have hr : ¬ ((i : Int) < 0 ∨ (l.n : Int) ≤ i ∨ ((0 : Nat) : Int) < 0 ∨ (if (1 : Int) = 2 then (s.nodes.n : Int) else 1) ≤ ((0 : Nat) : Int)) := by
            rw [if_neg (by decide)]
            omega
          have c0 : (decide ((0 : Int) ≤ ((0 : Nat) : Int)) && decide (((0 : Nat) : Int) < 1)) = true := by decide
          rw [c0]
          by_cases e : l.el i = -1
          · have hbad' := bad _ (appE_state hc (.inl rfl) hr (.inl (by rw [Int.toNat_natCast]; simp [e]))) (by decide)
            simp -dsimp -implicitDefEqProofs [go_sem, u0, encL_get? _ b, b, e, intsF]
            exact hbad' _ _ (by first | omega | (simp -dsimp -implicitDefEqProofs [go_sem] <;> omega)) (fun id hid hl => by
              have v : ¬ id = nx ∧ ¬ id = nx + 1 := by omega
              simp -dsimp -implicitDefEqProofs [upd, v])
          · have e' : (l.el i == -1) = false := by simpa using e
            have hE := appE_ok hc (.inl rfl) hr (by rw [Int.toNat_natCast]; simp [e])
            simp -dsimp -implicitDefEqProofs [go_sem, u0, encL_get? _ b, b, e', intsF]
            refine callW_copy cloneint_copy (xs := encL l.n fun k => [I (l.el k)]) (by simp -dsimp -implicitDefEqProofs [go_sem]) (by rw [encL_len]; exact hl) ?_
            simp -dsimp -implicitDefEqProofs [go_sem, u0, b, encI_set _ _ _ _ b]
            exact hgood hE _ _ _ (by omega) (by omega) (fun id hid hl => by
              simp only [upd]
              rw [if_neg (by omega), if_neg (by omega), if_neg (by omega), if_neg (by omega)]) (by simp only [upd, if_true]; rfl)
        · have hbad' := bad _ (appE_range hc (.inl rfl) (.inr (.inr (.inr (by rw [if_neg (by decide)]; omega))))) (by decide)
          have c0 : (decide ((0 : Int) ≤ (m : Int)) && decide ((m : Int) < 1)) = false := by simp; omega
          rw [c0]
          simp -dsimp -implicitDefEqProofs [go_sem, u0]
          exact hbad' _ _ (by first | omega | (simp -dsimp -implicitDefEqProofs [go_sem] <;> omega)) (fun id hid hl => by
            have v : ¬ id = nx ∧ ¬ id = nx + 1 := by omega
            simp -dsimp -implicitDefEqProofs [upd, v])
      · have hbad' := bad _ (appE_range hc (.inl rfl) (.inr (.inl (by omega)))) (by decide)
        have a0 : (decide ((0 : Int) ≤ i) && decide ((i : Int) < (l.n : Int))) = false := by simp; omega
        rw [a0]
        simp -dsimp -implicitDefEqProofs [go_sem, u0]
        exact hbad' _ _ (by first | omega | (simp -dsimp -implicitDefEqProofs [go_sem] <;> omega)) (fun id hid hl => by
          have v : ¬ id = nx ∧ ¬ id = nx + 1 := by omega
          simp -dsimp -implicitDefEqProofs [upd, v])
    · by_cases h2 : kd = 2
      · subst h2
        generalize hb : nx + 4 + 4 + 2 + 2 + 2 + 2 + 2 = b9
        have uv : nx < b9 ∧ nx + 1 < b9 := by omega
        simp -dsimp -implicitDefEqProofs [go_sem, u0]
        refine runCL_draw [[], [0], [1, 0], [], [3], [2, 1, 0], [4, 3, 5, 2, 1, 0]] rfl (by kernel_rfl) (by kernel_rfl) ?_
        simp -dsimp -implicitDefEqProofs [go_sem, Tv, Cw, silentAt, silentOp, u0, uv]
        refine callW_f (there_pure _ _) ?_
        rcases Int.lt_or_le pd 0 with a | a
        · have hbad' := bad _ (appE_range hc (.inr rfl) (.inl a)) (by decide)
          have a0 : (decide (0 ≤ pd) && decide (pd < (l.n : Int))) = false := by simp; omega
          rw [a0]
          simp -dsimp -implicitDefEqProofs [go_sem, u0]
          exact hbad' _ _ (by first | omega | (simp -dsimp -implicitDefEqProofs [go_sem] <;> omega)) (fun id hid hl => by
            have v : ¬ id = nx ∧ ¬ id = nx + 1 := by omega
            simp -dsimp -implicitDefEqProofs [upd, v])
        obtain ⟨i, rfl⟩ : ∃ i : Nat, pd = i := ⟨pd.toNat, by omega⟩
        rcases Nat.lt_or_ge i l.n with b | b
        · have a0 : (decide ((0 : Int) ≤ i) && decide ((i : Int) < (l.n : Int))) = true := by simp; omega
          rw [a0]
          simp -dsimp -implicitDefEqProofs [go_sem, u0]
          refine callW_f (there_pure _ _) ?_
          rcases Int.lt_or_le nd 0 with c | c
          · have hbad' := bad _ (appE_range hc (.inr rfl) (.inr (.inr (.inl c)))) (by decide)
            have c0 : (decide (0 ≤ nd) && decide (nd < (s.nodes.n : Int))) = false := by simp; omega
            rw [c0]
            simp -dsimp -implicitDefEqProofs [go_sem, u0]
            exact hbad' _ _ (by first | omega | (simp -dsimp -implicitDefEqProofs [go_sem] <;> omega)) (fun id hid hl => by
              have v : ¬ id = nx ∧ ¬ id = nx + 1 := by omega
              simp -dsimp -implicitDefEqProofs [upd, v])
          obtain ⟨m, rfl⟩ : ∃ m : Nat, nd = m := ⟨nd.toNat, by omega⟩
          rcases Nat.lt_or_ge m s.nodes.n with d | d
          · have hr : ¬ ((i : Int) < 0 ∨ (l.n : Int) ≤ i ∨ (m : Int) < 0 ∨ (if (2 : Int) = 2 then (s.nodes.n : Int) else 1) ≤ (m : Int)) := by
              rw [if_pos rfl]
              omega
            have c0 : (decide ((0 : Int) ≤ (m : Int)) && decide ((m : Int) < (s.nodes.n : Int))) = true := by simp; omega
            have em : ((m : Int) == -1) = false := by simp
            have eg : (0 : Int) ≤ (m : Int) := by omega
            rw [c0]
            by_cases e : l.el i = -1
            · rcases Bool.eq_false_or_eq_true (s.nodes.el m).lost with f | f
              · have hbad' := bad _ (appE_state hc (.inr rfl) hr (.inr ⟨rfl, by rw [Int.toNat_natCast]; exact f⟩)) (by decide)
                simp -dsimp -implicitDefEqProofs [go_sem, u0, encL_get? _ b, b, e, em, eg, intsF, d, encL_get? _ d, nodeC_eq (s.nodes.el m), f]
                exact hbad' _ _ (by first | omega | (simp -dsimp -implicitDefEqProofs [go_sem] <;> omega)) (fun id hid hl => by
                  have v : ¬ id = nx ∧ ¬ id = nx + 1 := by omega
                  simp -dsimp -implicitDefEqProofs [upd, v])
              · have hE := appE_ok hc (.inr rfl) hr (by rw [Int.toNat_natCast, Int.toNat_natCast]; simp [e, f])
                simp -dsimp -implicitDefEqProofs [go_sem, u0, encL_get? _ b, b, e, em, eg, intsF, d, encL_get? _ d, nodeC_eq (s.nodes.el m), f]
                refine callW_copy cloneint_copy (xs := encL l.n fun k => [I (l.el k)]) (by simp -dsimp -implicitDefEqProofs [go_sem]) (by rw [encL_len]; exact hl) ?_
                simp -dsimp -implicitDefEqProofs [go_sem, u0, b, encI_set _ _ _ _ b]
                exact hgood hE _ _ _ (by omega) (by omega) (fun id hid hl => by
                  simp only [upd]
                  rw [if_neg (by omega), if_neg (by omega), if_neg (by omega), if_neg (by omega)]) (by simp only [upd, if_true]; rfl)
            · have e' : (l.el i == -1) = false := by simpa using e
              have hbad' := bad _ (appE_state hc (.inr rfl) hr (.inl (by rw [Int.toNat_natCast]; simp [e]))) (by decide)
              simp -dsimp -implicitDefEqProofs [go_sem, u0, encL_get? _ b, b, e', em, intsF]
              exact hbad' _ _ (by first | omega | (simp -dsimp -implicitDefEqProofs [go_sem] <;> omega)) (fun id hid hl => by
                have v : ¬ id = nx ∧ ¬ id = nx + 1 := by omega
                simp -dsimp -implicitDefEqProofs [upd, v])
          · have hbad' := bad _ (appE_range hc (.inr rfl) (.inr (.inr (.inr (by rw [if_pos rfl]; omega))))) (by decide)
            have c0 : (decide ((0 : Int) ≤ (m : Int)) && decide ((m : Int) < (s.nodes.n : Int))) = false := by simp; omega
            rw [c0]
            simp -dsimp -implicitDefEqProofs [go_sem, u0]
            exact hbad' _ _ (by first | omega | (simp -dsimp -implicitDefEqProofs [go_sem] <;> omega)) (fun id hid hl => by
              have v : ¬ id = nx ∧ ¬ id = nx + 1 := by omega
              simp -dsimp -implicitDefEqProofs [upd, v])
        · have hbad' := bad _ (appE_range hc (.inr rfl) (.inr (.inl (by omega)))) (by decide)
          have a0 : (decide ((0 : Int) ≤ i) && decide ((i : Int) < (l.n : Int))) = false := by simp; omega
          rw [a0]
          simp -dsimp -implicitDefEqProofs [go_sem, u0]
          exact hbad' _ _ (by first | omega | (simp -dsimp -implicitDefEqProofs [go_sem] <;> omega)) (fun id hid hl => by
            have v : ¬ id = nx ∧ ¬ id = nx + 1 := by omega
            simp -dsimp -implicitDefEqProofs [upd, v])
      · have h1' : (kd == 1) = false := by simpa using h1
        have h2' : (kd == 2) = false := by simpa using h2
        have hbad' := bad _ (appE_kind hc h1 h2) (by decide)
        simp -dsimp -implicitDefEqProofs [go_sem, h1', h2', u0]
        exact hbad' _ _ (by omega) (fun id hid hl => by
          have v : ¬ id = nx ∧ ¬ id = nx + 1 := by omega
          simp -dsimp -implicitDefEqProofs [upd, v])
  · have hc2 : (placeE s l != 0) = true := by simpa using hc
    have hbad' := bad _ (appE_check hc) hc
    simp -dsimp -implicitDefEqProofs [go_sem, hc2, u0]
    exact hbad' _ _ (by omega) (fun id hid hl => by
      have v : ¬ id = nx ∧ ¬ id = nx + 1 := by omega
      simp -dsimp -implicitDefEqProofs [upd, v])
end
end Go.Proofs.YthpmgnbehahkfaaGreat
end
