/- slices.AppendSeq, slices.Collect, over an iterator as data. -/
/- heat.live's iterator, as data. -/
/- heat.Low, High, Idle, as contracts of data. -/
import Derived.Test.YtipacbaapkdnaaaGreatJEg
import Derived.Test.YtipacbaapkdnaaaGreatJDc
import Derived.RangeFuncNested
import Derived.RangeFuncBound
import Derived.RangeFuncCalls
import Derived.RangeFuncLeaves
import Derived.RangeFuncBox
import Derived.Shelf.Abstract
import Derived.Shelf.RegionOpen
import Derived.WalkKit
import Derived.OwnWalkIn
import Derived.TacticsInMore
import Derived.LoopNIn
import Derived.LoopIn
import Derived.Maps.AppendAt
import Derived.Test.YtipacbaapkdnaaaGreatJEj
import Derived.Test.YtipacbaapkdnaaaGreatJEa
set_option linter.unusedSimpArgs false
set_option linter.unusedVariables false
section
namespace Go.Proofs.YtipacbaapkdnaaaGreat
open Go.RowKit Go.Dk Go.Dn Go.Shelf

attribute [local go_sem] Oper.semAt_some

/-- an append, with what is known of the block that the row has then -/
theorem wpListIn_append_rd {F : Fence} {n : Nat} {P : Program} (w : World) {ops : Array Oper} {rest : List Oper} {o : Oper} {a : Act} {Q : Exit → Act → World → Prop}
    (hg : o.guard = none) (s x : Operand) (t : TypeId) (hop : o.op = Op.call { callee := Callee.builtin Builtin.append, args := #[s, x], argTypes := #[t, t] })
    (base : Nat) (e : TypeId) (i : TypeInfo) (z : Value) (size bytes : Nat) (h1 : P.underlying t = some (.slice e)) (h2 : P.info? e = some i) (h3 : i.zero = some z) (h4 : i.size = size) (h5 : i.bytes = bytes) (h6 : z.cells.size = size) (h7 : 0 < size)
    (v : Value) (k : Nat) (xs : List Value) (hs : a.eval s = v) (hown : w.ownsRow base e size v k xs) (y : Value) (m : Nat) (news : List Value) (hx : a.eval x = y) (hrd : Rd w y size m news)
    (h1c : ∀ u ∈ news, u.oneCell' = true) (b1 : k + m ≤ maxLen) (b2 : (k + m) * bytes ≤ 140737488355328) (b3 : base ≤ w.heap.size)
    (hK : ∀ v' w', w'.ownsRow base e size v' (k + m) (xs ++ news) → w.grownBy w' v.ownBlock → (∀ k, v'.ownBlock = some k → v.ownBlock = some k ∨ w.heap.size ≤ k) → wpListIn F n P ops Q rest (a.put o.dst v') w') :
    wpListIn F n P ops Q (o :: rest) a w := by
  refine wpListIn_plain hg fun K hK' => ?_
  obtain ⟨v', w', hrun, r1, r2, -, r3⟩ := run_append_own_rd (P := P) (w := w) base t o.type e i z size bytes h1 h2 h3 h4 h5 h6 h7 v k xs hown y m news hrd h1c b1 b2 b3
  unfold Oper.wpIn
  refine ⟨?_, ?_⟩
  · simp [Oper.about, hop, resolve, Target.leads, Sem.run_pure]
  · rw [Oper.semAt_plain F _ _ (by rw [hop]; intro c hc'; cases hc')]
    simp [execOp, hop, resolve, invoke, builtin, hs, hx, hrun, Result.andThen]
    exact hK' _ _ (hK v' w' r1 r2 r3)

/-- whose box it is: the box, and the row in it -/
def boxOwn (B : Nat) (W : World) (b : Nat) : Prop := b = B ∨ ∃ v, W.cell? ⟨B, 0, none⟩ = some v ∧ v.ownBlock = some b
def boxG (B : Nat) (W : World) : Prop := ∃ v, W.cell? ⟨B, 0, none⟩ = some v ∧ ∀ g, v.ownBlock = some g → g < W.heap.size
theorem box_own1 (B : Nat) : Own1 (boxOwn B) (boxG B) where
  bnd W h b hb := by
    obtain ⟨v, h1, h2⟩ := h
    rcases hb with rfl | ⟨u, k1, k2⟩
    · exact World.block_lt_of_cell? _ _ h1
    · rw [h1] at k1; cases k1; exact h2 b k2
  stab W W' h hc := by
    obtain ⟨v, h1, h2⟩ := h
    have h3 := hc.cell h1 id
    refine ⟨⟨v, h3, fun g hg => Nat.lt_of_lt_of_le (h2 g hg) hc.size⟩, fun b => ?_⟩
    unfold boxOwn
    rw [h1, h3]
theorem kpO_t {own : World → Nat → Prop} {G : World → Prop} {A B C : World} (h : KpO own G A B) (k : KpO own G B C) : KpO own G A C := fun g =>
  let ⟨g1, s1, n1⟩ := h g
  let ⟨g2, s2, n2⟩ := k g1
  ⟨g2, s1.trans s2, Nat.le_trans n1 n2⟩
theorem kpO_b {B : Nat} {W : World} {l : Nat} {o o' : Obj} (hl : B < l) (h : W.heap[l]? = some o) (ho : o.isCells = false) : KpO (boxOwn B) (boxG B) W (W.putObj l o') := by
  rintro ⟨v, h1, h2⟩
  have same : ∀ b oo, b ≠ l → (W.putObj l o').cell? ⟨b, oo, none⟩ = W.cell? ⟨b, oo, none⟩ := fun b oo hb => World.cell?_of_block (a := ⟨b, oo, none⟩) (World.putObj_heap_other (by simpa using hb))
  have h3 : (W.putObj l o').cell? ⟨B, 0, none⟩ = some v := (same B 0 (by omega)).trans h1
  refine ⟨⟨v, h3, fun g hg => by simpa using h2 g hg⟩, fun b oo u hc hn => ?_, by simp⟩
  have hbl : b ≠ l := by
    rintro rfl
    cases o <;> simp_all [Obj.isCells, World.cell?]
  refine ⟨(same b oo hbl).trans hc, fun hh => hn ?_⟩
  rcases hh with rfl | ⟨u', k1, k2⟩
  · exact .inl rfl
  · exact .inr ⟨u', by rw [h3] at k1; rw [h1]; exact k1, k2⟩
theorem kpO_app {B : Nat} {W w1 : World} {tmp : Obj} {v v' : Value} (hc : W.cell? ⟨B, 0, none⟩ = some v) (hg : (W.alloc tmp).grownBy w1 v.ownBlock) (h5 : ∀ k, v'.ownBlock = some k → v.ownBlock = some k ∨ (W.alloc tmp).heap.size ≤ k)
    (hc2 : (w1.setCell ⟨B, 0, none⟩ v').cell? ⟨B, 0, none⟩ = some v') (hlt : ∀ g, v'.ownBlock = some g → g < (w1.setCell ⟨B, 0, none⟩ v').heap.size) : KpO (boxOwn B) (boxG B) W (w1.setCell ⟨B, 0, none⟩ v') := by
  intro _
  have hgs := grownBy_setCell' w1 B v'
  have hs1 := hg.size
  have hs2 := hgs.size
  simp only [World.size_alloc] at hs1
  refine ⟨⟨v', hc2, hlt⟩, fun b oo u hu hn => ?_, by omega⟩
  have hb := World.block_lt_of_cell? _ _ hu
  dsimp only at hb
  have n1 : b ≠ B := fun e => hn (.inl e)
  have n2 : v.ownBlock ≠ some b := fun e => hn (.inr ⟨v, hc, e⟩)
  constructor
  · have e1 := hgs.block b (by omega) (fun e => n1 (by simpa using e))
    have e2 := hg.block b (by simp; omega) (fun e => n2 e.symm)
    have e3 : (W.alloc tmp).heap[b]? = W.heap[b]? := ((Chg.refl No W).alloc tmp).block b hb id
    exact (World.cell?_of_block (a := ⟨b, oo, none⟩) ((e1.trans e2).trans e3)).trans hu
  · rintro (rfl | ⟨u', k1, k2⟩)
    · exact n1 rfl
    · rw [hc2] at k1
      cases k1
      rcases h5 b k2 with e | e
      · exact n2 e
      · simp at e; omega

theorem owns_lt' {w : World} {B e sz n : Nat} {v : Value} {xs : List Value} (h : w.ownsRow B e sz v n xs) : ∀ g, v.ownBlock = some g → g < w.heap.size := fun g hg => by
  rcases h.2 with ⟨rfl, -⟩ | ⟨g', cap, cur, rfl, -, hg', -⟩
  · simp [Value.ownBlock] at hg
  · simp [Value.ownBlock] at hg; subst hg; exact lt_of_heap hg'

set_option maxRecDepth 100000 in
set_option maxHeartbeats 4000000 in
theorem appendSeq_I {f : FuncId} {caps : List FD} {xs : List Int} (h : IterI Tryz.prog f caps xs) (hN : xs.length ≤ 1048576) (x : X) (hws : ∀ b o, x.WS b o → b < x.W.heap.size) (vs : List Value) (hr : RepL x vs caps) :
    Calls Tryz.prog 64 #[.slice none 0 0, .func (.func f) #[] vs.toArray] x.W fun e w' => ∃ v, e = .returned v ∧ w'.ownsRow x.W.heap.size 3 1 v xs.length (xs.map (.int .i64)) ∧ Below x.W.heap.size x.W w' := by
  obtain ⟨i0, hi, hz0, hz1, hz2⟩ := info_parts Tryz.infoIntR
  have heg : ∀ args w, (callFunc f args).run Tryz.prog w = .ok (.enter f args) w := h.1
  obtain ⟨WS, w⟩ := x
  dsimp only at hws ⊢
  have hB0 : Below w.heap.size w (w.alloc (.cells #[.slice none 0 0] 27)) := (Below.refl _ w).alloc (Nat.le_refl _) _
  have bO := Boxed.new w 27 (.slice none 0 0)
  have hseq : SeqStopsK Fence.wide 5 Tryz.prog f vs.toArray (fun i : Int => #[.int .i64 i]) (KpO (boxOwn w.heap.size) (boxG w.heap.size)) (fun ys => ys = xs) (fun _ => True) xs.length (w.alloc (.cells #[.slice none 0 0] 27)) := by
    refine h.2 _ _ 5 _ vs (box_own1 _) ⟨_, bO.cell, fun g hg => by simp [Value.ownBlock] at hg⟩ (RepL.mono (x := ⟨WS, w⟩) ?_ hr)
    intro b o u hc hn
    dsimp only at hc
    have hlt := World.block_lt_of_cell? _ _ hc
    refine ⟨((Chg.refl No w).alloc _).cell hc id, ?_⟩
    rintro (rfl | ⟨u', k1, k2⟩)
    · exact Nat.lt_irrefl _ hlt
    · rw [bO.cell] at k1
      cases k1
      simp [Value.ownBlock] at k2
  refine (callsIn_wide (n := 6)).1 ?_
  refine callsIn_of_wp_marks Tryz.func64 rfl trivial ?_ rfl
  simp only [Tryz.ntmps64, List.size_toArray, List.length_cons, List.length_nil, Nat.reduceAdd, Nat.reduceSub, Array.replicate_succ, Array.replicate_zero, List.push_toArray, List.append_toArray, List.nil_append, List.cons_append]
  generalize vs.toArray = lb at *
  clear hr
  gi_wp2
  refine wpIn_rangeFunc_ownG rfl (by omega) (gf := f) (lb := lb) rfl trivial heg
    hseq kpO_t (fun W l o o' hl ho hoc _ => kpO_b (by simp at hl; omega) ho hoc) (Below.refl _ _) (fun _ => rfl)
    (fun pre W => ((∃ v, Boxed W w.heap.size 27 v ∧ W.ownsRow w.heap.size 3 1 v pre.length (pre.map (.int .i64)) ∧ True) ∧ Below w.heap.size w W) ∧ pre.length ≤ xs.length)
    (fun _ _ _ => False)
    (OwnFrom.and (OwnFrom.and (Own.from (holdsRow_own w.heap.size w.heap.size 27 3 1 (fun pre : List Int => pre.length) (fun pre => pre.map (.int .i64)) (fun _ _ => True)) _) (ownFrom_below (Nat.le_refl _) (by simp))) (fun _ _ _ _ hs _ _ => hs))
    (fun _ _ _ _ _ hs _ _ => hs)
    ⟨⟨⟨_, bO, World.ownsRow_nil _ _ _ _, trivial⟩, hB0⟩, Nat.zero_le _⟩
    (fun x => { tmps := #[.slice none 0 0, .func (.func f) #[] lb, .pointer (some ⟨w.heap.size, 0, none⟩), undef, .slice none 0 0, .int .i64 x, .func (.func f) #[] lb, .int .i64 x, undef, undef, undef, undef, undef], defers := [] }) ?assign ?body ?done ?stop
  case assign =>
    intro l x W K hK
    gi_wp2
    exact hK
  case body =>
    rintro l pre x W ⟨⟨⟨v, hv, hrow, -⟩, hB⟩, hpN⟩ hlt
    have hc := hv.cell
    gi_wp2_with (gi_at_builtin; refine wpListIn_append_rd _ rfl _ _ 27 rfl w.heap.size 3 i0 (.int .i64 0) 1 8 Tryz.underlying27 hi hz0 hz1 hz2 rfl (by decide) _ _ _ rfl (hrow.alloc _) _ 1 [.int .i64 x] rfl (Rd.mk' (by simp) (by simp) (fun hh => by cases hh) (fun ad had j u hj => by cases had; exact cell_one_new _ _ _ j u hj)) (by simp [Value.oneCell']) (by unfold maxLen; omega) (by omega) (by have := hB.size; simp; omega) ?_; intro v' w1 hown' hgrow h5; obtain ⟨g', cap', rfl⟩ := ownsRow_succ hown'; obtain ⟨hv1, hv2, hr2, hk2, hb2⟩ := hv.appended (by decide) hrow hB.size (Nat.le_refl _) hown' hgrow; have hc1 := hv1.cell; have hf1 := hv1.frozen)
    exact ⟨hk2.from _, kpO_app hc hgrow h5 hv2.cell (owns_lt' hr2), ⟨⟨_, hv2, by simpa using hr2, trivial⟩, hB.trans hb2⟩, by simp; omega⟩
  case done =>
    rintro D ys W hD hS ⟨⟨⟨v, hv, hrow, -⟩, hB⟩, hpN⟩ hK
    subst hS
    have hc := hv.cell
    gi_wp2
    refine ⟨by simp, .inl ⟨_, _, rfl, run_takeDeferred hK, ?_⟩⟩
    exact ⟨_, results_tmp rfl _ _ _, v, rfl, ownsRow_putObj hrow _ hK rfl, hB.trans (belowK_b (w := w) (Nat.le_refl _) W D _ _ (by simp at hD; omega) hK rfl rfl)⟩
  case stop =>
    rintro D c pre W _ _ h _
    exact h.elim

theorem repC_ints {x : X} : ∀ xs : List Int, RepC x (xs.map (.int .i64)) ((xs.map fun n => [I n]).flatten)
  | [] => by simp [RepC]
  | i :: xs => by
    simp only [List.map_cons, List.flatten_cons, List.singleton_append]
    unfold RepC
    exact ⟨_, _, rfl, rfl, by unfold Rep; rfl, repC_ints xs⟩
theorem collect_pure {f : FuncId} {caps : List FD} {xs : List Int} (h : IterI Tryz.prog f caps xs) (hN : xs.length ≤ 1048576) : Pure Tryz.prog 43 [.fn f caps] (listF xs) := by
  refine ⟨goes_of Tryz.func43 rfl rfl, fun x vs hws hr => ?_⟩
  unfold RepL at hr
  obtain ⟨u, us, rfl, h1, h2⟩ := hr
  unfold RepL at h2
  subst h2
  unfold Rep at h1
  obtain ⟨vs, rfl, hr⟩ := h1
  have p := appendSeq_I h hN x hws vs hr
  have main : Calls Tryz.prog 43 #[.func (.func f) #[] vs.toArray] x.W fun e w' => ∃ v, e = .returned v ∧ w'.ownsRow x.W.heap.size 3 1 v xs.length (xs.map (.int .i64)) ∧ Below x.W.heap.size x.W w' := by
    generalize vs.toArray = lb at p ⊢
    go_enter Tryz.func43, Tryz.ntmps43
    go_wp2_with (go_at_call 64; refine p.mono ?_; rintro e w' ⟨v, rfl, h3, h4⟩)
    go_ret
    exact ⟨v, rfl, h3, h4⟩
  refine main.mono ?_
  rintro e w' ⟨v, rfl, hown, hB⟩
  refine ⟨v, rfl, ?_, Chg.of_below hB⟩
  unfold listF Rep
  rcases hown.2 with ⟨rfl, hn⟩ | ⟨b, cap, cur, rfl, hb1, hg, hnc, hmx, rest⟩
  · exact ⟨none, 0, by simp [hn], ⟨by simp [hn], by omega⟩, fun _ => rfl, fun hne => (hne (by simp; exact List.eq_nil_of_length_eq_zero hn)).elim⟩
  · refine ⟨_, cap, by simp, ⟨by simpa using hnc, hmx⟩, (fun hh => by cases hh), fun _ => ⟨b, 0, rfl, repR_of (by simp) (repA_of (repC_ints xs) fun j u hu => ⟨?_, fun hw => ?_⟩)⟩⟩
    · have := hown.cells (g := b) rfl j u hu
      rw [Addr.add_mid] at this
      exact this
    · have := hws _ _ hw; omega
end Go.Proofs.YtipacbaapkdnaaaGreat
end
section
namespace Go.Proofs.YtipacbaapkdnaaaGreat
open Go.RowKit Go.Dk Go.Dn

def liveP (s : SnapD) (l : Lst Int) (pr : Int → Int → Int → Bool) (k : Nat) : Bool := !(s.nodes.el k).lost && pr (podsV s l k).length (shV s l k 0) (shV s l k 1)
def liveV (s : SnapD) (l : Lst Int) (pr : Int → Int → Int → Bool) : List Int := if mayB s l then pickL (liveP s l pr) s.nodes.n else []

theorem pickL_mono (p : Nat → Bool) {a b : Nat} (h : a ≤ b) : (pickL p a).length ≤ (pickL p b).length := by
  induction h with
  | refl => exact Nat.le_refl _
  | step h ih => simp only [pickL, List.length_append]; omega
theorem layIs : lay Tryz.prog 71 = some ⟨1, false, [Value.nilFunc], Ki.other⟩ := by kernel_rfl
attribute [local go_sem] layIs

set_option maxRecDepth 100000 in
set_option maxHeartbeats 4000000 in
theorem live1_iter (s : SnapD) (ok : SnapOk s) (l : Lst Int) (hl : l.n ≤ 1048576) {g : Nat} {gc : List FD} (pr : Int → Int → Int → Bool) (hpr : ∀ a x y : Int, Pure Tryz.prog g ([I a, twoF x y] ++ gc) (B (pr a x y))) :
    IterI Tryz.prog 65 [.ref (snapC s), .ref [intsF l], .ref [.fn g gc]] (liveV s l pr) := by
  refine IterI.of_run (lit := true) Tryz.func65 rfl rfl rfl rfl (Nat.le_of_ble_eq_true rfl) (fun lp => runI_of_runIL ?_)
  unfold St.enter
  simp (dsimp := false) (implicitDefEqProofs := false) [go_sem, snapC]
  refine runIL_reg ?_
  simp (dsimp := false) (implicitDefEqProofs := false) [go_sem]
  refine callW_f (heatMay_pure s ok l hl) ?_
  simp (dsimp := false) (implicitDefEqProofs := false) [go_sem]
  cases hm : mayB s l with
  | false =>
    simp (dsimp := false) (implicitDefEqProofs := false) [go_sem]
    rw [liveV, if_neg (by simp [hm])]
  | true =>
    have hL : liveV s l pr = pickL (liveP s l pr) s.nodes.n := by rw [liveV, if_pos hm]
    rw [hL]
    simp (dsimp := false) (implicitDefEqProofs := false) [go_sem]
    refine runIL_reg ?_
    simp (dsimp := false) (implicitDefEqProofs := false) [go_sem]
    refine runIL_loop [] 8 (by simp (dsimp := false) (implicitDefEqProofs := false) [go_sem]) (fun m st y => ∃ j : Nat, st.n = 42 ∧ st.lit = true ∧ j ≤ s.nodes.n ∧ m = s.nodes.n - j ∧ st.fr 0 = .f (.v (.func (.yield lp) #[] #[])) ∧ st.fr 1 = .f (.ref [nodesF s.nodes, podsF s.pods, ownersF s.owners]) ∧ st.fr 2 = .f (.ref [intsF l]) ∧ st.fr 3 = .f (.ref [.fn g gc]) ∧
      st.fr 12 = .f (nodesF s.nodes) ∧ st.fr 13 = .f (I s.nodes.n) ∧ st.fr 14 = .f (I j) ∧ y = ⟨pickL (liveP s l pr) j, false⟩) s.nodes.n ⟨0, ?_⟩ ?_
    · simp (dsimp := false) (implicitDefEqProofs := false) [go_sem, pickL]
    rintro m ⟨nn, fr, mem, nx, lt⟩ y hnx ⟨j, hN, hlt, hj, rfl, f0, f1, f2, f3, f12, f13, f14, rfl⟩
    dsimp only at *
    subst hN hnx hlt
    simp (dsimp := false) (implicitDefEqProofs := false) [go_sem]
    refine runIL_reg ?_
    simp (dsimp := false) (implicitDefEqProofs := false) [go_sem, f0, f1, f2, f3, f12, f13, f14]
    refine gif_dec (fun hlt => ?_) (fun hge => ?_)
    · simp (dsimp := false) (implicitDefEqProofs := false) [go_sem, f0, f1, f2, f3, f12, f13, f14]
      refine runIL_reg ?_
      simp (dsimp := false) (implicitDefEqProofs := false) [go_sem, f0, f1, f2, f3, f12, f13, f14, hlt, nodeC_eq (s.nodes.el j)]
      refine runIL_ydraw 19 [[], [0], [1, 0], [2, 1, 0], [3, 2, 1, 0], [3, 2, 1, 0], [3, 2, 1, 0], [3, 2, 1, 0], [5, 3, 2, 1, 0, 6, 7],
        [8, 5, 3, 2, 1, 0, 6, 7], [3, 2, 1, 0], [3, 2, 1, 0], [3, 2, 1, 0], [10, 3, 2, 1, 0, 11, 12, 8, 5, 6, 7],
        [4, 3, 2, 1, 0, 9, 8, 5, 6, 7, 13, 10, 11, 12], [3, 2, 1, 0, 14, 4, 9, 8, 5, 6, 7, 13, 10, 11, 12],
        [15, 3, 2, 1, 0, 14, 4, 9, 8, 5, 6, 7, 13, 10, 11, 12], [16, 15, 3, 2, 1, 0, 14, 4, 9, 8, 5, 6, 7, 13, 10, 11, 12],
        [16, 15, 3, 2, 1, 0, 14, 4, 9, 8, 5, 6, 7, 13, 10, 11, 12]] rfl rfl (by kernel_rfl) (by kernel_rfl) (by kernel_rfl) (by kernel_rfl) (by kernel_rfl) ?_
      simp (dsimp := false) (implicitDefEqProofs := false) [go_sem, f0, f1, f2, f3, f12, f13, f14, Tv, Cw, silentAt, silentOp]
      have hst : pickL (liveP s l pr) (j + 1) = pickL (liveP s l pr) j ++ if liveP s l pr j then [(j : Int)] else [] := rfl
      have hlen := pickL_len (liveP s l pr) j
      have hn1 := ok.n1
      have hmono := pickL_mono (liveP s l pr) (show j + 1 ≤ s.nodes.n by omega)
      rw [hst] at hmono
      refine gif_split (fun hlost => ?_) (fun hlost => ?_)
      · simp (dsimp := false) (implicitDefEqProofs := false) [go_sem, f0, f1, f2, f3, f12, f13, f14, Tv, Cw, silentAt, silentOp, hlost]
        refine runIL_reg ?_
        simp (dsimp := false) (implicitDefEqProofs := false) [go_sem, f0, f1, f2, f3, f12, f13, f14]
        exact ⟨_, by omega, j + 1, by omega, rfl, w64 (by omega) (by omega), by rw [hst, if_neg (by simp [liveP, hlost]), List.append_nil]⟩
      · simp (dsimp := false) (implicitDefEqProofs := false) [go_sem, f0, f1, f2, f3, f12, f13, f14, Tv, Cw, silentAt, silentOp, hlost]
        refine callW_f (heatPods_pure s ok l hl j) ?_
        simp (dsimp := false) (implicitDefEqProofs := false) [go_sem, f0, f1, f2, f3, f12, f13, f14, Tv, Cw, silentAt, silentOp, hlost, lenD_listF]
        refine callW_f (heatShare_pure s ok l hl j) ?_
        simp (dsimp := false) (implicitDefEqProofs := false) [go_sem, f0, f1, f2, f3, f12, f13, f14, Tv, Cw, silentAt, silentOp, hlost, lenD_listF]
        refine callW_f (fs := [I (podsV s l j).length, twoF (shV s l j 0) (shV s l j 1)] ++ gc) (hpr _ _ _) ?_
        simp (dsimp := false) (implicitDefEqProofs := false) [go_sem, f0, f1, f2, f3, f12, f13, f14, Tv, Cw, silentAt, silentOp, hlost, lenD_listF]
        refine gif_split (fun hp => ?_) (fun hp => ?_)
        · simp (dsimp := false) (implicitDefEqProofs := false) [go_sem, f0, f1, f2, f3, f12, f13, f14, Tv, Cw, silentAt, silentOp, hlost, lenD_listF, hp]
          have hP : liveP s l pr j = true := by simp [liveP, hlost, hp]
          rw [hP, if_pos rfl, List.length_append] at hmono
          refine yieldL_mk (j : Int) (by simp (dsimp := false) (implicitDefEqProofs := false) [go_sem, f0, f1, f2, f3, f12, f13, f14]) (by simp (dsimp := false) (implicitDefEqProofs := false) [go_sem, f0, f1, f2, f3, f12, f13, f14]) (Nat.lt_of_succ_le (by simpa using hmono)) ?_ ?_
          · simp (dsimp := false) (implicitDefEqProofs := false) [go_sem, f0, f1, f2, f3, f12, f13, f14, hp]
            refine runIL_reg ?_
            simp (dsimp := false) (implicitDefEqProofs := false) [go_sem, f0, f1, f2, f3, f12, f13, f14]
            exact ⟨_, by omega, j + 1, by omega, rfl, w64 (by omega) (by omega), by rw [hst, hP, if_pos rfl]⟩
          · simp (dsimp := false) (implicitDefEqProofs := false) [go_sem, f0, f1, f2, f3, f12, f13, f14, hp]
        · simp (dsimp := false) (implicitDefEqProofs := false) [go_sem, f0, f1, f2, f3, f12, f13, f14, Tv, Cw, silentAt, silentOp, hlost, lenD_listF, hp]
          refine runIL_reg ?_
          simp (dsimp := false) (implicitDefEqProofs := false) [go_sem, f0, f1, f2, f3, f12, f13, f14]
          exact ⟨_, by omega, j + 1, by omega, rfl, w64 (by omega) (by omega), by rw [hst, if_neg (by simp [liveP, hp]), List.append_nil]⟩
    · obtain rfl : j = s.nodes.n := by omega
      simp (dsimp := false) (implicitDefEqProofs := false) [go_sem, f0, f1, f2, f3, f12, f13, f14, hge]

theorem layIt : lay Tryz.prog 75 = some ⟨1, false, [Value.nilFunc], Ki.other⟩ := by kernel_rfl
attribute [local go_sem] layIt
theorem live_pure (s : SnapD) (l : Lst Int) (g : Nat) (gc : List FD) : Pure Tryz.prog 44 [snapF s, intsF l, .fn g gc] (.fn 65 [.ref (snapC s), .ref [intsF l], .ref [.fn g gc]]) := by
  refine Pure.of_run (lit := true) Tryz.func44 rfl rfl rfl rfl (Nat.le_of_ble_eq_true rfl) (run_of_runL ?_)
  unfold St.enter
  simp (dsimp := false) (implicitDefEqProofs := false) [go_sem, snapF, snapC]
  trace_state
end Go.Proofs.YtipacbaapkdnaaaGreat
end
section
namespace Go.Proofs.YtipacbaapkdnaaaGreat
open Go.RowKit Go.Dk Go.Dn
attribute [local go_sem] layIs layIt

def goalC (g : GoalD) : List FD := g.cells.map .v
set_option maxRecDepth 100000 in
theorem low1_pure (g : GoalD) (a x y : Int) : Pure Tryz.prog 39 [I a, twoF x y, .ref (goalC g)] (B (decide (0 < a) && decide (x < g.low 0) && decide (y < g.low 1))) := by
  refine Pure.of_run (lit := true) Tryz.func39 rfl rfl rfl rfl (Nat.le_of_ble_eq_true rfl) (run_of_runL ?_)
  unfold St.enter
  simp (dsimp := false) (implicitDefEqProofs := false) [go_sem, twoF, goalC, GoalD.cells]
  refine gif_dec (fun h1 => ?_) (fun h1 => ?_)
  · simp (dsimp := false) (implicitDefEqProofs := false) [go_sem, h1]
    refine gif_dec (fun h2 => ?_) (fun h2 => ?_)
    · simp (dsimp := false) (implicitDefEqProofs := false) [go_sem, h1, h2]
    · simp (dsimp := false) (implicitDefEqProofs := false) [go_sem, h1, h2]
  · simp (dsimp := false) (implicitDefEqProofs := false) [go_sem, h1]
set_option maxRecDepth 100000 in
theorem high1_pure (g : GoalD) (i : Nat) (hi : i = 0 ∨ i = 1) (x y : Int) : Pure Tryz.prog 41 [I i, twoF x y, .ref (goalC g)] (B (decide (0 < g.high i) && decide (g.high i < if i = 0 then x else y))) := by
  rcases hi with rfl | rfl
  all_goals
    refine Pure.of_run (lit := true) Tryz.func41 rfl rfl rfl rfl (Nat.le_of_ble_eq_true rfl) (run_of_runL ?_)
    unfold St.enter
    simp (dsimp := false) (implicitDefEqProofs := false) [go_sem, twoF, goalC, GoalD.cells]
    refine runL_draw [[], [], [1, 0], [2, 1, 0], [3, 2, 1, 0], [4, 3, 2, 1, 0], [5, 4, 3, 2, 1, 0], [6, 5, 4, 3, 2, 1, 0], [7, 6, 5, 4, 3, 2, 1, 0], [5, 4, 3, 2, 1, 0], [5, 4, 3, 2, 1, 0], [10, 5, 4, 3, 2, 1, 0, 9], [11, 10, 5, 4, 3, 2, 1, 0, 9], [8, 7, 6, 5, 4, 3, 2, 1, 0, 12, 11, 10, 9], [5, 4, 3, 2, 1, 0, 13, 8, 7, 6, 12, 11, 10, 9], [14, 5, 4, 3, 2, 1, 0, 13, 8, 7, 6, 12, 11, 10, 9]] (by kernel_rfl) (by kernel_rfl) ?_
    simp (dsimp := false) (implicitDefEqProofs := false) [go_sem, Tv, Cw, silentAt, silentOp]
    refine gif_dec (fun h1 => ?_) (fun h1 => ?_)
    · simp (dsimp := false) (implicitDefEqProofs := false) [go_sem, Tv, Cw, silentAt, silentOp, h1]
    · simp (dsimp := false) (implicitDefEqProofs := false) [go_sem, Tv, Cw, silentAt, silentOp, h1]
set_option maxRecDepth 100000 in
theorem high2_pure (g : GoalD) (a x y : Int) : Pure Tryz.prog 42 [I a, twoF x y, .ref [.fn 41 [.ref (goalC g)]]] (B ((decide (0 < g.high 0) && decide (g.high 0 < x)) || (decide (0 < g.high 1) && decide (g.high 1 < y)))) := by
  refine Pure.of_run (lit := true) Tryz.func42 rfl rfl rfl rfl (Nat.le_of_ble_eq_true rfl) (run_of_runL ?_)
  unfold St.enter
  have p0 := high1_pure g 0 (.inl rfl) x y
  have p1 := high1_pure g 1 (.inr rfl) x y
  rw [if_pos rfl] at p0
  rw [if_neg (by decide)] at p1
  generalize (decide (0 < g.high 0) && decide (g.high 0 < x)) = b0 at *
  generalize (decide (0 < g.high 1) && decide (g.high 1 < y)) = b1 at *
  simp (dsimp := false) (implicitDefEqProofs := false) [go_sem, twoF]
  refine callW_f p0 ?_
  simp (dsimp := false) (implicitDefEqProofs := false) [go_sem]
  refine gif_split (fun h1 => ?_) (fun h1 => ?_)
  · simp (dsimp := false) (implicitDefEqProofs := false) [go_sem, h1]
  · simp (dsimp := false) (implicitDefEqProofs := false) [go_sem, h1]
    refine callW_f p1 ?_
    simp (dsimp := false) (implicitDefEqProofs := false) [go_sem, h1]
theorem idle1_pure (a x y : Int) : Pure Tryz.prog 45 [I a, twoF x y] (B (decide (a = 0))) := by
  refine Pure.of_run (lit := true) Tryz.func45 rfl rfl rfl rfl (Nat.le_of_ble_eq_true rfl) (run_of_runL ?_)
  unfold St.enter
  simp (dsimp := false) (implicitDefEqProofs := false) [go_sem, twoF]
  rfl
theorem liveV_len (s : SnapD) (l : Lst Int) (pr : Int → Int → Int → Bool) : (liveV s l pr).length ≤ s.nodes.n := by
  unfold liveV
  split
  · exact pickL_len _ _
  · simp
set_option maxRecDepth 100000 in
theorem picked_pure (s : SnapD) (ok : SnapOk s) (l : Lst Int) (hl : l.n ≤ 1048576) (g : GoalD) {h : Nat} {hc : List FD} (pr : Int → Int → Int → Bool) (hpr : ∀ a x y : Int, Pure Tryz.prog h ([I a, twoF x y] ++ hc) (B (pr a x y))) :
    Pure Tryz.prog 38 [snapF s, intsF l, goalF g, .fn h hc] (listF (if goalE g = 0 then liveV s l pr else [])) := by
  refine Pure.of_run' (lit := true) Tryz.func38 rfl rfl rfl rfl (Nat.le_of_ble_eq_true rfl) (run_of_runL ?_)
  unfold St.enter
  simp (dsimp := false) (implicitDefEqProofs := false) [go_sem, snapF, snapC, goalF, GoalD.cells]
  refine callW_f (policyCheck_pure g) ?_
  simp (dsimp := false) (implicitDefEqProofs := false) [go_sem]
  refine gif_split (fun h1 => ?_) (fun h1 => ?_)
  · simp (dsimp := false) (implicitDefEqProofs := false) [go_sem, h1]
    rw [if_neg (by simpa using h1)]
    exact FLe.nil 1
  · simp (dsimp := false) (implicitDefEqProofs := false) [go_sem, h1]
    refine callW_f (live_pure s l h hc) ?_
    simp (dsimp := false) (implicitDefEqProofs := false) [go_sem, h1]
    refine callW_f (collect_pure (live1_iter s ok l hl pr hpr) (Nat.le_trans (liveV_len s l pr) ok.n1)) ?_
    simp (dsimp := false) (implicitDefEqProofs := false) [go_sem, h1]
    rw [if_pos (by simpa using h1)]
    exact FLe.refl _
set_option maxRecDepth 100000 in
theorem heatIdle_pure (s : SnapD) (ok : SnapOk s) (l : Lst Int) (hl : l.n ≤ 1048576) : Pure Tryz.prog 19 [snapF s, intsF l] (listF (idleV s l)) := by
  refine Pure.of_run' (lit := true) Tryz.func19 rfl rfl rfl rfl (Nat.le_of_ble_eq_true rfl) (run_of_runL ?_)
  unfold St.enter
  simp (dsimp := false) (implicitDefEqProofs := false) [go_sem, snapF, snapC]
  refine callW_f (live_pure s l 45 []) ?_
  simp (dsimp := false) (implicitDefEqProofs := false) [go_sem]
  refine callW_f (collect_pure (live1_iter s ok l hl (fun a _ _ => decide (a = 0)) (fun a x y => idle1_pure a x y)) (Nat.le_trans (liveV_len s l _) ok.n1)) ?_
  simp (dsimp := false) (implicitDefEqProofs := false) [go_sem]
  have e : liveP s l (fun a _ _ => decide (a = 0)) = idleP s l := by funext k; simp [liveP, idleP]
  rw [liveV, e, idleV]
  exact FLe.refl _
set_option maxRecDepth 100000 in
theorem heatLow_pure (s : SnapD) (ok : SnapOk s) (l : Lst Int) (hl : l.n ≤ 1048576) (g : GoalD) : Pure Tryz.prog 15 [snapF s, intsF l, goalF g] (listF (lowV s l g)) := by
  refine Pure.of_run' (lit := true) Tryz.func15 rfl rfl rfl rfl (Nat.le_of_ble_eq_true rfl) (run_of_runL ?_)
  unfold St.enter
  simp (dsimp := false) (implicitDefEqProofs := false) [go_sem, snapF, snapC, goalF, GoalD.cells]
  refine callW_f (picked_pure s ok l hl g _ (fun a x y => low1_pure g a x y)) ?_
  simp (dsimp := false) (implicitDefEqProofs := false) [go_sem]
  have e : liveP s l (fun a x y => decide (0 < a) && decide (x < g.low 0) && decide (y < g.low 1)) = lowP s l g := by funext k; simp [liveP, lowP, Bool.and_assoc]
  rw [liveV, e, lowV]
  by_cases h1 : goalE g = 0 <;> by_cases h2 : mayB s l = true <;> simp [h1, h2] <;> exact FLe.refl _
set_option maxRecDepth 100000 in
theorem heatHigh_pure (s : SnapD) (ok : SnapOk s) (l : Lst Int) (hl : l.n ≤ 1048576) (g : GoalD) : Pure Tryz.prog 17 [snapF s, intsF l, goalF g] (listF (highV s l g)) := by
  refine Pure.of_runF (lit := true) Tryz.func17 rfl rfl rfl rfl (Nat.le_of_ble_eq_true rfl) (runF_of_runFL ?_)
  unfold St.enter
  refine runFL_on ?_
  simp (dsimp := false) (implicitDefEqProofs := false) [go_sem, snapF, snapC, goalF, GoalD.cells]
  refine runFL_frz ?_
  simp (dsimp := false) (implicitDefEqProofs := false) [go_sem]
  refine runFL_end ?_
  simp (dsimp := false) (implicitDefEqProofs := false) [go_sem]
  refine callW_f (picked_pure s ok l hl g _ (fun a x y => high2_pure g a x y)) ?_
  simp (dsimp := false) (implicitDefEqProofs := false) [go_sem]
  have e : liveP s l (fun a x y => (decide (0 < g.high 0) && decide (g.high 0 < x)) || (decide (0 < g.high 1) && decide (g.high 1 < y))) = highP s l g := by funext k; simp [liveP, highP]
  rw [liveV, e, highV]
  by_cases h1 : goalE g = 0 <;> by_cases h2 : mayB s l = true <;> simp [h1, h2] <;> exact FLe.refl _
end Go.Proofs.YtipacbaapkdnaaaGreat
end
