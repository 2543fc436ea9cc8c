/- snap.Placement makes a new row; Used and Count of a store that is only read. -/
/- Used and Count of a store that is only read. -/
/- Names that rise; a store's cells as data. -/
/- drayageref05.Copy makes three rows. -/
/- drayageref05.With over data. -/
/- drayageref05.Placement as a maker of a row; drayageref05.Check; drayageref07.Check, Used where all may be. -/
/- drayageref07.UsedOf, Used, where all may be. -/
/- drayageref07.counts, PlacedOf, Placed, where all may be. -/
/- The reference's store, only read. -/
/- The program's store, only read: Placement, IsGone, Snap over data. -/
/- What the reference's store tells is what the program's tells. -/
/- drayagelaw11.same of stores that stand alike. -/
import Derived.Test.YthpmgnbehahkfaaGreatJQp
import Derived.Test.YthpmgnbehahkfaaGreatJQm
import Derived.Test.YthpmgnbehahkfaaGreatJDf
import Derived.Test.YthpmgnbehahkfaaGreatJYd
import Derived.Test.YthpmgnbehahkfaaGreatJEf
import Derived.Test.YthpmgnbehahkfaaGreatJDe
set_option linter.unusedSimpArgs false
set_option linter.unusedVariables false
section
namespace Go.Proofs.YthpmgnbehahkfaaGreat
open Go.RowKit Go.Dk Go.Dn

theorem encI_row (n : Nat) (f : Nat → Int) : (0 < 1 ∧ ∀ ds ∈ encL n fun k => [I (f k)], ds.length = 1) ∧ (encL n fun k => [I (f k)]).flatten.all isV = true := by
  refine ⟨⟨by decide, fun ds hd => ?_⟩, ?_⟩
  · obtain ⟨k, -, rfl⟩ := List.mem_map.1 hd
    rfl
  · unfold encL
    simp [isV]
set_option maxRecDepth 100000 in
theorem eachPod_row (p : Lst PodD) (hp : p.n ≤ 1048576) (g : Nat) (gc : List FD) (f : Nat → Int) (hg : ∀ k, Pure Tryz.prog g (.agg (podC (p.el k)) :: gc) (I (f k))) : PureRow Tryz.prog 147 [podsF p, .fn g gc] 3 1 (encL p.n fun k => [I (f k)]) := by
  refine PureRow.of_run (lit := true) Tryz.func147 rfl rfl rfl rfl (Nat.le_of_ble_eq_true rfl) (encI_row _ _) (run_of_runL ?_)
  unfold St.enter
  simp -dsimp -implicitDefEqProofs [go_sem]
  refine andL_mk (by omega) ?_
  simp -dsimp -implicitDefEqProofs [go_sem]
  refine runL_loop [] 8 (by simp -dsimp -implicitDefEqProofs [go_sem]) (fun m st => ∃ j v : Nat, st.n = 25 ∧ st.lit = true ∧ j ≤ p.n ∧ m = p.n - j ∧ st.fr 1 = .f (.fn g gc) ∧ st.fr 5 = .own 3 v ∧ st.fr 11 = .f (podsF p) ∧ st.fr 12 = .f (I p.n) ∧ st.fr 13 = .f (I j) ∧ st.mem 3 = some (.row 3 v 1 (encL j fun k => [I (f k)]))) p.n ⟨0, 0, ?_⟩ ?_
  · simp -dsimp -implicitDefEqProofs [go_sem]
  rintro m ⟨N, fr, mem, nx, lt⟩ hnx ⟨j, v, hN, hlt, hj, rfl, f1, f5, f11, f12, f13, m3⟩
  dsimp only at *
  subst hN hnx hlt
  simp -dsimp -implicitDefEqProofs [go_sem, f1, f5, f11, f12, f13, m3]
  refine gif_dec (fun hlt => ?_) (fun hge => ?_)
  · simp -dsimp -implicitDefEqProofs [go_sem, f1, f5, f11, f12, f13, m3, hlt, podC_eq (p.el j)]
    refine callW_f (fs := .agg (podC (p.el j)) :: gc) (hg j) ?_
    simp -dsimp -implicitDefEqProofs [go_sem, f1, f5, f11, f12, f13, m3]
    refine andL_mk (by omega) ?_
    simp -dsimp -implicitDefEqProofs [go_sem, f1, f5, f11, f12, f13, m3]
    exact ⟨_, by omega, j + 1, by omega, rfl, w64 (by omega) (by omega), by rw [encL_succ]⟩
  obtain rfl : j = p.n := by omega
  simp -dsimp -implicitDefEqProofs [go_sem, f1, f5, f11, f12, f13, m3]
  exact ⟨3, v, ⟨rfl, rfl⟩, m3⟩
set_option maxRecDepth 100000 in
theorem snapPlacement_row (s : SnapD) (ok : SnapOk s) : PureRow Tryz.prog 93 [snapF s] 3 1 (encL s.pods.n fun k => [I (onV s k)]) := by
  refine PureRow.of_run (lit := true) Tryz.func93 rfl rfl rfl rfl (Nat.le_of_ble_eq_true rfl) (encI_row _ _) (run_of_runL ?_)
  unfold St.enter
  simp -dsimp -implicitDefEqProofs [go_sem, snapF, snapC]
  refine callW_row (eachPod_row s.pods ok.p1 _ _ (onV s) (fun k => pl1_pure s ok k)) ?_
  simp -dsimp -implicitDefEqProofs [go_sem]
  exact ⟨5, 0, ⟨rfl, rfl⟩, by simp -dsimp -implicitDefEqProofs [upd]⟩
theorem callS_prow {P : Program} {f : FuncId} {ds : List D} {fs : List FD} {e sz : Nat} {xs : List (List FD)} {mem : Nat → Option M} {nx : Nat} {K : D → (Nat → Option M) → Nat → Prop} (hfs : omap (frz mem 4) ds = some fs) (hp : PureRow P f fs e sz xs)
    (hk : K (.own nx 0) (upd mem nx (some (.row e 0 sz xs))) (nx + 1)) : callS P f ds mem nx K := by
  obtain ⟨⟨hgo, hsz, hl, hsv⟩, hp⟩ := hp
  refine callS_of (nx' := nx + 1) ⟨hgo, fun w0 WS0 c vs hv hM hfr => ?_⟩
  refine (hp (c.hold w0) vs (fun b o hb => hM.wsd b o hb.1) (omap_repL (fun d y v h1 h2 => frz_rep hM 4 d y v h1 h2) hfs hv)).mono ?_
  rintro en w' ⟨v', cells, rfl, hown, hr, hch⟩
  refine ⟨v', rfl, (goes_nextS hfr).grow hM (g := nx) (ver := 0) (e := e) (sz := sz) (v := .slice none 0 0) (zs := xs) (vs := cells) ((hfr nx (Nat.le_refl _)).2 0) (fun k _ => (hfr nx (Nat.le_refl _)).2 k) (.inr ⟨(hfr nx (Nat.le_refl _)).1, rfl, rfl⟩) (ownsRow_less hown hM.chg.size) (Chg.grown_none hch) (fun k hk => .inr (ownsRow_from hown k hk)) (repC_isV _ _ hsv hr) hl hsz ?_⟩
  exact hk
end Go.Proofs.YthpmgnbehahkfaaGreat
end
section
namespace Go.Proofs.YthpmgnbehahkfaaGreat
open Go.RowKit Go.Dk Go.Dn

/-- a store's cells, as data that nobody writes -/
def stFD (d : StD) (k : Nat) : FD :=
  if k = 0 then nodesF d.s.nodes else if k = 1 then podsF d.s.pods else if k = 2 then ownersF d.s.owners else if k = 3 then .sl 1 (encL d.s.pods.n fun k => [I (d.on k)]) else if k = 4 then .sl 1 (encL d.s.pods.n fun k => [B (d.gone k)])
  else if k < 45 then I (d.used ((k - 5) / 5) ((k - 5) % 5)) else if k < 53 then I (d.cnt (k - 45)) else if k = 53 then .sl 1 (encL d.wn fun k => [I (d.own k)]) else B true
def stF (d : StD) : List FD := (List.range 55).map (stFD d)
theorem stF_0 (d : StD) : (stF d)[0]? = some (nodesF d.s.nodes) := rfl
theorem stF_2 (d : StD) : (stF d)[2]? = some (ownersF d.s.owners) := rfl
theorem stF_54 (d : StD) : (stF d)[54]? = some (B true) := rfl
theorem stF_len (d : StD) : (stF d).length = 55 := by simp [stF]
theorem stF_used (d : StD) {n : Nat} (hn : n < 8) : ((stF d).drop (5 + n * 5)).take 5 = [I (d.used n 0), I (d.used n 1), I (d.used n 2), I (d.used n 3), I (d.used n 4)] := by
  have h : ∀ i, i < 5 → stFD d (5 + n * 5 + i) = I (d.used n i) := fun i hi => by
    unfold stFD
    rw [if_neg (by omega), if_neg (by omega), if_neg (by omega), if_neg (by omega), if_neg (by omega), if_pos (by omega)]
    have e1 : (5 + n * 5 + i - 5) / 5 = n := by omega
    have e2 : (5 + n * 5 + i - 5) % 5 = i := by omega
    rw [e1, e2]
  rw [stF, map_drop_take _ _ _ _ (by omega)]
  show [stFD d (5 + n * 5 + 0), stFD d (5 + n * 5 + 1), stFD d (5 + n * 5 + 2), stFD d (5 + n * 5 + 3), stFD d (5 + n * 5 + 4)] = _
  rw [h 0 (by omega), h 1 (by omega), h 2 (by omega), h 3 (by omega), h 4 (by omega)]
theorem stF_cnt (d : StD) {o : Nat} (ho : o < 8) : (stF d)[45 + o]? = some (I (d.cnt o)) := by
  have h : stFD d (45 + o) = I (d.cnt o) := by
    unfold stFD
    rw [if_neg (by omega), if_neg (by omega), if_neg (by omega), if_neg (by omega), if_neg (by omega), if_neg (by omega), if_pos (by omega)]
    have e1 : 45 + o - 45 = o := by omega
    rw [e1]
  rw [stF, List.getElem?_map, List.getElem?_range (by omega)]
  show some (stFD d (45 + o)) = _
  rw [h]
theorem none_F (d : StD) : Pure Tryz.prog 82 [.ref (stF d)] (B false) := by
  refine Pure.of_run (lit := true) Tryz.func82 rfl rfl rfl rfl (Nat.le_of_ble_eq_true rfl) (run_of_runL ?_)
  unfold St.enter
  simp -dsimp -implicitDefEqProofs [go_sem, stF_54]
theorem node_F (d : StD) (k : Int) : Pure Tryz.prog 84 [.ref (stF d), I k] (I (nodeE d k)) := by
  refine Pure.of_run (lit := true) Tryz.func84 rfl rfl rfl rfl (Nat.le_of_ble_eq_true rfl) (run_of_runL ?_)
  unfold St.enter
  simp -dsimp -implicitDefEqProofs [go_sem]
  refine callW_f (none_F d) ?_
  simp -dsimp -implicitDefEqProofs [go_sem, stF_0]
  refine callW_f (stIn_pure _ _) ?_
  by_cases hp : 0 ≤ k ∧ k < (d.s.nodes.n : Int)
  · rw [nodeE, if_pos hp]
    obtain ⟨p1, p2⟩ := hp
    simp -dsimp -implicitDefEqProofs [go_sem, p1, p2]
  · rw [nodeE, if_neg hp]
    have e : (!decide (0 ≤ k) || !decide (k < (d.s.nodes.n : Int))) = true := by simp; omega
    simp -dsimp -implicitDefEqProofs [go_sem, e]
theorem used_F (d : StD) (hd : DOk d) (k : Int) : Pure Tryz.prog 34 [.ref (stF d), I k] (fiveF (usedR d k)) := by
  refine Pure.of_run (lit := true) Tryz.func34 rfl rfl rfl rfl (Nat.le_of_ble_eq_true rfl) (run_of_runL ?_)
  unfold St.enter
  simp -dsimp -implicitDefEqProofs [go_sem]
  refine callW_f (node_F d k) ?_
  rcases nodeE_or d k with e | e
  · obtain ⟨p, rfl, hp⟩ := nodeE_ok e
    have hn8 := hd.s.n8
    have hp8 : p < 8 := by omega
    have hp8' : (p : Int) < 8 := by omega
    have hp50 : 5 + p * 5 ≤ 50 := by omega
    have eR : usedR d p = d.used p := by simp [usedR, e]
    have hp51 : 5 ≤ 55 - (5 + p * 5) := by omega
    simp -dsimp -implicitDefEqProofs [go_sem, e, hp8', hp50, stF_len, hp51, stF_used _ hp8, eR]
    rfl
  · have eR : usedR d k = fun _ => 0 := by simp [usedR, e]
    simp -dsimp -implicitDefEqProofs [go_sem, e, eR]
    rfl
theorem count_F (d : StD) (hd : DOk d) (k : Int) : Pure Tryz.prog 40 [.ref (stF d), I k] (I (cntR d k)) := by
  refine Pure.of_run (lit := true) Tryz.func40 rfl rfl rfl rfl (Nat.le_of_ble_eq_true rfl) (run_of_runL ?_)
  unfold St.enter
  simp -dsimp -implicitDefEqProofs [go_sem]
  refine callW_f (none_F d) ?_
  simp -dsimp -implicitDefEqProofs [go_sem, stF_2]
  refine callW_f (stIn_pure _ _) ?_
  by_cases hp : 0 ≤ k ∧ k < (d.s.owners.n : Int)
  · have eR : cntR d k = d.cnt k.toNat := by simp [cntR, hp]
    obtain ⟨o, rfl⟩ : ∃ o : Nat, k = o := ⟨k.toNat, by omega⟩
    have ho8 := hd.s.o8
    have h8 : o < 8 := by omega
    have h8' : (o : Int) < 8 := by omega
    obtain ⟨p1, p2⟩ := hp
    simp -dsimp -implicitDefEqProofs [go_sem, p1, p2, h8', stF_cnt _ h8, eR, stF_len]
  · have eR : cntR d k = 0 := by simp only [cntR, if_neg hp]
    have e : (!decide (0 ≤ k) || !decide (k < (d.s.owners.n : Int))) = true := by simp; omega
    simp -dsimp -implicitDefEqProofs [go_sem, e, eR]
end Go.Proofs.YthpmgnbehahkfaaGreat
end
section
namespace Go.Proofs.YthpmgnbehahkfaaGreat
open Go.RowKit Go.Dk Go.Dn

theorem name_full {s : ByteArray} (h : nameB s = true) : s.toList.isEmpty = false := by
  rw [isEmpty_eq]
  unfold nameB valueB at h
  simp only [Bool.and_eq_true, decide_eq_true_iff] at h
  exact decide_eq_false (by omega)
theorem nameIdx_iff {f : Nat → ByteArray} {n o : Nat} (h : riseB f n = true) (ho : o < n) (nm : ByteArray) : (nameIdx f n nm = (o : Int)) ↔ (nm.toList == (f o).toList) = true := by
  constructor
  · intro e
    unfold nameIdx idxB at e
    split at e
    · rename_i k hk
      have hk := (List.find?_range_eq_some.1 hk).1
      obtain rfl : k = o := by omega
      have : (f k).toList = nm.toList := by simpa using hk
      simp [this]
    · omega
  · intro e
    have e : nm.toList = (f o).toList := by simpa using e
    rw [← nameIdx_at h ho]
    unfold nameIdx
    rw [e]
theorem riseN_of {s : SnapD} (he : checkE s = 0) : riseN s = true ∧ riseO s = true := by
  unfold checkE at he
  split at he
  case isFalse => cases he
  rename_i hs
  simp only [shapedB, Bool.and_eq_true] at hs
  exact ⟨hs.1.1.1.1.1.2, hs.1.1.1.2⟩
theorem riseB_name {f : Nat → ByteArray} {n k : Nat} (h : riseB f n = true) (hk : k < n) : nameB (f k) = true := by
  unfold riseB at h
  exact (of_decide_eq_true h k hk).1
/-- what is there, as data -/
theorem omap_map {α β γ : Type} {f : β → Option γ} {g : α → β} {h : α → γ} : ∀ (l : List α), (∀ a ∈ l, f (g a) = some (h a)) → omap f (l.map g) = some (l.map h)
  | [], _ => rfl
  | a :: l, hh => by
    simp only [List.map_cons, omap, hh a (List.mem_cons_self ..), omap_map l fun b hb => hh b (List.mem_cons_of_mem _ hb)]
    rfl
theorem st_frz {mem : Nat → Option M} {A : SA} {d : StD} (h : StoreM mem A d) : frz mem 4 (.loc A.t 0) = some (.ref (stF d)) := by
  simp only [frz, h.t, List.drop_zero]
  unfold stC stF
  rw [omap_map (h := stFD d)]
  · rfl
  intro k _
  unfold cellSt stFD
  by_cases e : k = 0
  · rw [if_pos e, if_pos e]
    simp [frz, h.n, nodesF]
  rw [if_neg e, if_neg e]
  clear e
  by_cases e : k = 1
  · rw [if_pos e, if_pos e]
    simp [frz, h.p, podsF]
  rw [if_neg e, if_neg e]
  clear e
  by_cases e : k = 2
  · rw [if_pos e, if_pos e]
    simp [frz, h.q, ownersF]
  rw [if_neg e, if_neg e]
  clear e
  by_cases e : k = 3
  · rw [if_pos e, if_pos e]
    simp [frz, h.o]
  rw [if_neg e, if_neg e]
  clear e
  by_cases e : k = 4
  · rw [if_pos e, if_pos e]
    simp [frz, h.g]
  rw [if_neg e, if_neg e]
  clear e
  by_cases e : k < 45
  · rw [if_pos e, if_pos e]
  rw [if_neg e, if_neg e]
  clear e
  by_cases e : k < 53
  · rw [if_pos e, if_pos e]
  rw [if_neg e, if_neg e]
  clear e
  by_cases e : k = 53
  · rw [if_pos e, if_pos e]
    simp [frz, h.w]
  rw [if_neg e, if_neg e]
theorem vis_lt {l : List Oper} {As : List (List Nat)} {base k : Nat} {mem : Nat → Option M} {i : Nat} (hs : silentAt l k = false) (h : i < base) : visM (Tv l As base k) mem i = mem i := by
  unfold visM
  rw [Tv_lt h hs]
  rfl
theorem frz_f (mem : Nat → Option M) (x : FD) : frz mem 4 (.f x) = some x := rfl
end Go.Proofs.YthpmgnbehahkfaaGreat
end
section
namespace Go.Proofs.YthpmgnbehahkfaaGreat
open Go.RowKit Go.Dk Go.Dn

theorem refLabels_pure (l : Lst LabD) (hl : l.n ≤ 1048576) : Pure Tryz.prog 64 [labsF l] (labsF l) := by
  refine Pure.of_run (lit := true) Tryz.func64 rfl rfl rfl rfl (Nat.le_of_ble_eq_true rfl) (run_of_runL ?_)
  unfold St.enter
  simp -dsimp -implicitDefEqProofs [go_sem, labsF]
  refine andL_mk (by omega) ?_
  simp -dsimp -implicitDefEqProofs [go_sem]
  rfl
theorem refTerms_pure (l : Lst TermD) (hl : l.n ≤ 1048576) : Pure Tryz.prog 65 [termsF l] (termsF l) := by
  refine Pure.of_run (lit := true) Tryz.func65 rfl rfl rfl rfl (Nat.le_of_ble_eq_true rfl) (run_of_runL ?_)
  unfold St.enter
  simp -dsimp -implicitDefEqProofs [go_sem, termsF]
  refine andL_mk (by omega) ?_
  simp -dsimp -implicitDefEqProofs [go_sem]
  rfl
set_option maxRecDepth 100000 in
set_option maxHeartbeats 2000000 in
theorem refCopy_rows (s : SnapD) (ok : SnapOk s) : RowsCall Tryz.prog 12 [snapF s] (snapRows s) := by
  have hn1 := ok.n1
  have hp1 := ok.p1
  have ho1 := ok.o1
  refine RowsCall.of_callS ?_ ?_
  · intro r hr
    simp only [snapRows, List.mem_cons, List.not_mem_nil, or_false] at hr
    rcases hr with rfl | rfl | rfl
    · exact ⟨Nat.le_of_ble_eq_true rfl, fun ds h => by simp only [nodeRow, encL, List.mem_map] at h; obtain ⟨k, -, rfl⟩ := h; rfl⟩
    · exact ⟨Nat.le_of_ble_eq_true rfl, fun ds h => by simp only [podRow, encL, List.mem_map] at h; obtain ⟨k, -, rfl⟩ := h; rfl⟩
    · exact ⟨Nat.le_of_ble_eq_true rfl, fun ds h => by simp only [ownerRow, encL, List.mem_map] at h; obtain ⟨k, -, rfl⟩ := h; rfl⟩
  refine callS.of_run (lit := true) (B := fun _ => []) Tryz.func12 rfl rfl rfl rfl (Nat.le_of_ble_eq_true rfl) (runC_of_runCL ?_)
  simp -dsimp -implicitDefEqProofs [go_sem, snapF, snapC]
  refine runCL_loop [.cell 2 0 75 10] (fun m st => ∃ j v : Nat, st.n = 83 ∧ st.lit = true ∧ j ≤ s.nodes.n ∧ m = s.nodes.n - j ∧ 5 ≤ st.next ∧ st.fr 1 = .f (.ref [nodesF s.nodes, podsF s.pods, ownersF s.owners]) ∧ st.fr 2 = .loc 1 0 ∧ st.fr 3 = .loc 2 0 ∧ st.fr 4 = .f (I j) ∧
      st.mem 1 = some (.blk [.f (.v (.slice none 0 0)), .f (.v (.slice none 0 0)), .f (.v (.slice none 0 0))]) ∧ st.mem 4 = some (.row 75 v 10 (encL j fun k => nodeC (s.nodes.el k))) ∧
      st.mem 2 = some (.blk [.own 4 v, .f (.v (.slice none 0 0)), .f (.v (.slice none 0 0))])) s.nodes.n ⟨0, 0, ?_⟩ ?_
  · simp -dsimp -implicitDefEqProofs [go_sem]
  rintro m ⟨N, fr, mem, nx, lt⟩ ⟨j, v, hN, hlt, hj, rfl, hnx, f1, f2, f3, f4, m1, m4, m2⟩
  dsimp only at *
  subst hN hlt
  rcases Nat.lt_or_ge j s.nodes.n with hlt | hge
  · obtain ⟨-, ol, ot⟩ := ok.n2 j hlt
    have v1 : ∀ k, ¬ 4 = nx + k := fun k => by omega
    have v2 : ∀ k, ¬ 2 = nx + k := fun k => by omega
    have v3 : ∀ k, ¬ 1 = nx + k := fun k => by omega
    simp -dsimp -implicitDefEqProofs [go_sem, f1, f2, f3, f4, m1, m4, m2, hlt, encL_get? _ hlt, nodeC_eq (s.nodes.el j), v1, v2, v3]
    refine callW_f (refLabels_pure _ ol.1) ?_
    simp -dsimp -implicitDefEqProofs [go_sem, f1, f2, f3, f4, m1, m4, m2, v1, v2, v3]
    refine callW_f (refLabels_pure _ ot.1) ?_
    simp -dsimp -implicitDefEqProofs [go_sem, f1, f2, f3, f4, m1, m4, m2, v1, v2, v3]
    refine andL_mk (by omega) ?_
    simp -dsimp -implicitDefEqProofs [go_sem, f1, f2, f3, f4, m1, m4, m2, v1, v2, v3]
    exact ⟨_, by omega, j + 1, by omega, rfl, w64 (by omega) (by omega), by rw [encL_succ, nodeC_eq (s.nodes.el j)]⟩
  obtain rfl : j = s.nodes.n := by omega
  simp -dsimp -implicitDefEqProofs [go_sem, f1, f2, f3, f4, m1, m4, m2]
  refine runCL_loop [.cell 2 1 81 15] (fun m st => ∃ j v2 g : Nat, st.n = 83 ∧ st.lit = true ∧ j ≤ s.pods.n ∧ m = s.pods.n - j ∧ 5 ≤ g ∧ g < st.next ∧ st.fr 1 = .f (.ref [nodesF s.nodes, podsF s.pods, ownersF s.owners]) ∧ st.fr 2 = .loc 1 0 ∧ st.fr 3 = .loc 2 0 ∧ st.fr 6 = .f (I j) ∧
      st.mem 1 = some (.blk [.f (.v (.slice none 0 0)), .f (.v (.slice none 0 0)), .f (.v (.slice none 0 0))]) ∧ st.mem 4 = some (.row 75 v 10 (encL s.nodes.n fun k => nodeC (s.nodes.el k))) ∧ st.mem g = some (.row 81 v2 15 (encL j fun k => podC (s.pods.el k))) ∧
      st.mem 2 = some (.blk [.own 4 v, .own g v2, .f (.v (.slice none 0 0))])) s.pods.n ⟨0, 0, nx + 5 + 1, ?_⟩ ?_
  · have v1 : ∀ k, ¬ 4 = nx + k := fun k => by omega
    have v2 : ∀ k, ¬ 2 = nx + k := fun k => by omega
    have v3 : ∀ k, ¬ 1 = nx + k := fun k => by omega
    simp -dsimp -implicitDefEqProofs [go_sem, f1, f2, f3, f4, m1, m4, m2, v1, v2, v3]
  clear f1 f2 f3 f4 m1 m2 m4 hnx
  rintro m ⟨N, fr, mem, nx, lt⟩ ⟨j, v2, g, hN, hlt, hj, rfl, hg, hgn, f1, f2, f3, f6, m1, m4, mg, m2⟩
  dsimp only at *
  subst hN hlt
  rcases Nat.lt_or_ge j s.pods.n with hlt | hge
  · obtain ⟨-, o1, o2, o3, o4, o5⟩ := ok.p2 j hlt
    have u1 : ∀ k, ¬ 4 = nx + k := fun k => by omega
    have u2 : ∀ k, ¬ 2 = nx + k := fun k => by omega
    have u3 : ∀ k, ¬ 1 = nx + k := fun k => by omega
    have u4 : (∀ k, ¬ g = nx + k) ∧ (∀ k l, ¬ g = nx + k + l) ∧ (∀ k l m, ¬ g = nx + k + l + m) := ⟨fun k => by omega, fun k l => by omega, fun k l m => by omega⟩
    have u5 : ¬ g = 1 ∧ ¬ g = 2 ∧ ¬ g = 4 ∧ ¬ 1 = g ∧ ¬ 2 = g ∧ ¬ 4 = g := by omega
    simp -dsimp -implicitDefEqProofs [go_sem, f1, f2, f3, f6, m1, m4, m2, mg, hlt, encL_get? _ hlt, podC_eq (s.pods.el j), u1, u2, u3, u4, u5]
    refine callW_f (refLabels_pure _ o1.1) ?_
    simp -dsimp -implicitDefEqProofs [go_sem, f1, f2, f3, f6, m1, m4, m2, mg, u1, u2, u3, u4, u5]
    refine callW_f (refTerms_pure _ o2.1) ?_
    simp -dsimp -implicitDefEqProofs [go_sem, f1, f2, f3, f6, m1, m4, m2, mg, u1, u2, u3, u4, u5]
    refine callW_f (refLabels_pure _ o3.1) ?_
    simp -dsimp -implicitDefEqProofs [go_sem, f1, f2, f3, f6, m1, m4, m2, mg, u1, u2, u3, u4, u5]
    refine callW_f (refTerms_pure _ o4.1) ?_
    simp -dsimp -implicitDefEqProofs [go_sem, f1, f2, f3, f6, m1, m4, m2, mg, u1, u2, u3, u4, u5]
    refine callW_f (refTerms_pure _ o5.1) ?_
    simp -dsimp -implicitDefEqProofs [go_sem, f1, f2, f3, f6, m1, m4, m2, mg, u1, u2, u3, u4, u5]
    refine andL_mk (by omega) ?_
    simp -dsimp -implicitDefEqProofs [go_sem, f1, f2, f3, f6, m1, m4, m2, mg, u1, u2, u3, u4, u5]
    refine ⟨_, by omega, j + 1, by omega, rfl, v2 + 1, g, by omega, by omega, w64 (by omega) (by omega), ?_⟩
    simp -dsimp -implicitDefEqProofs [u1, u2, u3, u4, u5, upd, encL_succ, podC_eq (s.pods.el j), m1, m4, mg]
  obtain rfl : j = s.pods.n := by omega
  simp -dsimp -implicitDefEqProofs [go_sem, f1, f2, f3, f6, m1, m4, m2, mg]
  refine andL_mk (by omega) ?_
  have u1 : ∀ k, ¬ 4 = nx + k := fun k => by omega
  have u2 : ∀ k, ¬ 2 = nx + k := fun k => by omega
  have u3 : ∀ k, ¬ 1 = nx + k := fun k => by omega
  have u4 : (∀ k, ¬ g = nx + k) ∧ (∀ k l, ¬ g = nx + k + l) := ⟨fun k => by omega, fun k l => by omega⟩
  have u5 : ¬ g = 1 ∧ ¬ g = 2 ∧ ¬ g = 4 ∧ ¬ 1 = g ∧ ¬ 2 = g ∧ ¬ 4 = g := by omega
  simp -dsimp -implicitDefEqProofs [go_sem, f1, f2, f3, f6, m1, m4, m2, mg, u1, u2, u3, u4, u5]
  refine ⟨[(4, v), (g, v2), (nx + 5 + 4, 0)], rfl, rfl, by simp [u1, u4, u5], ?_⟩
  intro j a b a1 a2 b1 h1 h2
  match j, h1, h2 with
  | 0, h1, h2 => cases h1; cases h2; exact (by simp -dsimp -implicitDefEqProofs [go_sem, m4, u1, u4, u5])
  | 1, h1, h2 => cases h1; cases h2; exact (by simp -dsimp -implicitDefEqProofs [go_sem, mg, u1, u4, u5])
  | 2, h1, h2 => cases h1; cases h2; exact (by have w1 : ¬ nx + 5 + 4 = 1 ∧ ¬ nx + 5 + 4 = 2 := by omega
                                               simp -dsimp -implicitDefEqProofs [go_sem, w1]; try rfl)
  | j + 3, h1, h2 => simp at h1
end Go.Proofs.YthpmgnbehahkfaaGreat
end
section
namespace Go.Proofs.YthpmgnbehahkfaaGreat
open Go.RowKit Go.Dk Go.Dn

set_option maxRecDepth 100000 in
set_option maxHeartbeats 2000000 in
theorem refWith_pure (s : SnapD) (ok : SnapOk s) (on : Nat → Int) (hon : OnOk s on) : Pure Tryz.prog 203 [snapF s, intsF ⟨s.pods.n, on⟩] (.tup [snapF (onS s on), I 0]) := by
  have hn1 := ok.n1
  have hp1 := ok.p1
  have ho1 := ok.o1
  have h3 : ownsD 10 (snapRows s).length = [.own 10 0, .own 10 1, .own 10 2] := rfl
  refine Pure.of_runC (lit := true) (fun _ => []) Tryz.func203 rfl rfl rfl rfl (Nat.le_of_ble_eq_true rfl) (runC_of_runCL ?_)
  unfold St.enter
  simp -dsimp -implicitDefEqProofs [go_sem, snapF, snapC, intsF]
  refine callW_rows (fs := [snapF s]) (refCopy_rows s ok) ?_
  simp -dsimp -implicitDefEqProofs [go_sem, h3]
  refine runCL_loop [.opn 10 11] (fun m st => ∃ j : Nat, st.n = 69 ∧ st.lit = true ∧ j ≤ s.pods.n ∧ m = s.pods.n - j ∧ 17 ≤ st.next ∧ st.fr 1 = .f (.sl 1 (encL s.pods.n fun k => [I (on k)])) ∧ st.fr 2 = .f (.ref [nodesF s.nodes, podsF s.pods, ownersF s.owners]) ∧ st.fr 4 = .loc 1 0 ∧ st.fr 6 = .loc 11 0 ∧ st.fr 7 = .f (I j) ∧
      st.mem 1 = some (.blk [.f (.v (.slice none 0 0)), .f (.v (.slice none 0 0)), .f (.v (.slice none 0 0))]) ∧ st.mem 11 = some (.blk [.own 14 0, .own 15 0, .own 16 0]) ∧ st.mem 14 = some (.row 75 0 10 (encL s.nodes.n fun k => nodeC (s.nodes.el k))) ∧
      st.mem 15 = some (.row 81 0 15 (encL s.pods.n fun k => podC (onStep s on j k))) ∧ st.mem 16 = some (.row 100 0 5 (encL s.owners.n fun k => ownerC (s.owners.el k)))) s.pods.n ⟨0, ?_⟩ ?_
  · simp -dsimp -implicitDefEqProofs [go_sem, redir, snapRows, upd, openM, nodeRow, podRow, ownerRow]
    exact encL_same fun k _ => by simp [onStep]
  rintro m ⟨N, fr, mem, nx, lt⟩ ⟨j, hN, hlt, hj, rfl, hnx, f1, f2, f4, f6, f7, m1, mB, w1, w2, w3⟩
  dsimp only at *
  subst hN hlt
  rcases Nat.lt_or_ge j s.pods.n with hlt | hge
  · have cur : onStep s on j j = s.pods.el j := by unfold onStep; rw [if_neg (by omega)]
    have fin : ∀ nm, nm = nameOn s on j → ((encL s.pods.n fun k => podC (onStep s on j k)).set j (podC { s.pods.el j with on := nm })) = encL s.pods.n fun k => podC (onStep s on (j + 1) k) := fun nm hnm => by
      rw [encPod_set _ _ _ _ hlt]
      refine encL_same fun k _ => congrArg podC ?_
      unfold onStep
      by_cases c1 : k = j
      · subst c1
        rw [if_pos rfl, if_pos (by omega), hnm]
        rfl
      · rw [if_neg c1]
        by_cases c2 : k < j
        · rw [if_pos c2, if_pos (by omega)]
        · rw [if_neg c2, if_neg (by omega)]
    rcases hon j hlt with e1 | ⟨n, hn, e1, hl⟩
    · have fin1 := fin ByteArray.empty (by unfold nameOn; rw [if_pos e1])
      simp only [podC_eq { s.pods.el j with on := ByteArray.empty }] at fin1
      have e0 : ¬ ((s.nodes.n : Int) ≤ -1) := by omega
      simp -dsimp -implicitDefEqProofs [go_sem, f1, f2, f4, f6, f7, m1, mB, w1, w2, w3, hlt, encL_get? _ hlt, e1, e0, cur, podC_eq (s.pods.el j)]
      exact ⟨_, by omega, j + 1, by omega, rfl, w64 (by omega) (by omega), fin1⟩
    · have e0 : ¬ ((n : Int) < -1) := by omega
      have e2 : ¬ (s.nodes.n ≤ n) := by omega
      have fin1 := fin (s.nodes.el n).name (by unfold nameOn; rw [if_neg (by omega), e1, Int.toNat_natCast])
      simp only [podC_eq { s.pods.el j with on := (s.nodes.el n).name }] at fin1
      simp -dsimp -implicitDefEqProofs [go_sem, f1, f2, f4, f6, f7, m1, mB, w1, w2, w3, hlt, encL_get? _ hlt, e1, e0, e2, hn, encL_get? _ hn, nodeC_eq (s.nodes.el n), hl, cur, podC_eq (s.pods.el j)]
      have mid : ∀ c : List FD, ((encL s.pods.n fun k => podC (onStep s on j k)).set j c)[j]? = some c := fun c => by
        rw [List.getElem?_set_self (by rw [encL_len]; exact hlt)]
      generalize hb3 : nx + 4 + 5 + 21 + 6 + 2 = b3
      have n4 : 11 < b3 ∧ 15 < b3 := by omega
      refine runCL_draw [[], [0], [], [], [3], [], [4, 3, 5], [6, 4, 3, 5], [7, 6, 4, 3, 5], [1, 0, 2, 3, 4, 5, 6, 7, 8], [9, 1, 0, 2, 3, 4, 5, 6, 7, 8], [10, 9, 1, 0, 2, 3, 4, 5, 6, 7, 8]] rfl (by kernel_rfl) (by kernel_rfl) ?_
      simp -dsimp -implicitDefEqProofs [go_sem, Tv, Cw, silentAt, silentOp, f1, f2, f4, f6, f7, m1, mB, w1, w2, w3, n4, hlt, mid, hn, encL_get? _ hn, nodeC_eq (s.nodes.el n)]
      refine exWL_mk (andL_mk ⟨Cw_lt (by omega) (by kernel_rfl), Tv_lt (by omega) (by kernel_rfl)⟩ ?_)
      simp -dsimp -implicitDefEqProofs [go_sem, Tv, Cw, silentAt, silentOp, f1, f2, f4, f6, f7, m1, mB, w1, w2, w3, n4, hlt, mid, hn, encL_get? _ hn, nodeC_eq (s.nodes.el n)]
      exact ⟨_, by omega, j + 1, by omega, rfl, by omega, w64 (by omega) (by omega), fin1⟩
  · obtain rfl : j = s.pods.n := by omega
    simp -dsimp -implicitDefEqProofs [go_sem, f1, f2, f4, f6, f7, m1, mB, w1, w2, w3]
    unfold snapF snapC nodesF podsF ownersF
    exact congrArg (fun x => FD.agg [FD.sl 10 (encL s.nodes.n fun k => nodeC (s.nodes.el k)), FD.sl 15 x, FD.sl 5 (encL s.owners.n fun k => ownerC (s.owners.el k))]) (encL_same fun k hk => congrArg podC (by unfold onStep; rw [if_pos hk]; rfl))
end Go.Proofs.YthpmgnbehahkfaaGreat
end
section
namespace Go.Proofs.YthpmgnbehahkfaaGreat
open Go.RowKit Go.Dk Go.Dn

set_option maxRecDepth 100000 in
theorem refPlacement_row (s : SnapD) (ok : SnapOk s) : PureRow Tryz.prog 11 [snapF s] 3 1 (encL s.pods.n fun k => [I (onV s k)]) := by
  refine PureRow.of_run (lit := false) Tryz.func11 rfl rfl rfl rfl (Nat.le_of_ble_eq_true rfl) (encI_row _ _) (run_of_runL ?_)
  unfold St.enter
  simp -dsimp -implicitDefEqProofs [go_sem, snapF, snapC]
  refine runL_loop [.slot 3 3 1] 5 (by simp -dsimp -implicitDefEqProofs [go_sem]) (fun m st => ∃ j v : Nat, st.n = 33 ∧ st.lit = false ∧ j ≤ s.pods.n ∧ m = s.pods.n - j ∧ st.fr 1 = .loc 0 0 ∧ st.fr 3 = .own 4 v ∧ st.fr 4 = .f (I j) ∧
      st.mem 0 = some (.blk [.f (nodesF s.nodes), .f (podsF s.pods), .f (ownersF s.owners)]) ∧ st.mem 4 = some (.row 3 v 1 (encL j fun k => [I (onV s k)]))) s.pods.n ⟨0, 0, ?_⟩ ?_
  · simp -dsimp -implicitDefEqProofs [go_sem]
  rintro m ⟨N, fr, mem, nx, lt⟩ hnx ⟨j, v, hN, hlt, hj, rfl, f1, f3, f4, m0, m4⟩
  dsimp only at *
  subst hN hnx hlt
  have hp := ok.p1
  simp -dsimp -implicitDefEqProofs [go_sem, f1, f4, m0]
  refine gif_dec (fun hlt => ?_) (fun hge => ?_)
  · simp -dsimp -implicitDefEqProofs [go_sem, f1, f3, f4, m0, m4, hlt, podC_eq (s.pods.el j)]
    refine gif_split (fun he => ?_) (fun he => ?_)
    · simp -dsimp -implicitDefEqProofs [go_sem, f1, f3, f4, m0, m4]
      refine andL_mk (by omega) ?_
      simp -dsimp -implicitDefEqProofs [go_sem, f1, f3, f4, m0, m4]
      exact ⟨_, by omega, j + 1, by omega, rfl, w64 (by omega) (by omega), by rw [encL_succ]; simp [onV, he]⟩
    · refine runL_draw [[], [], [1], [], [2, 1, 3], [4, 2, 1, 3], [5, 4, 2, 1, 3], [0, 6, 5, 4, 2, 1, 3], [7, 0, 6, 5, 4, 2, 1, 3]] (by kernel_rfl) (by kernel_rfl) ?_
      simp -dsimp -implicitDefEqProofs [go_sem, f1, f3, f4, m0, m4, hlt, podC_eq (s.pods.el j), Tv, Cw, silentAt, silentOp]
      refine callW_f (refNode_pure s ok _) ?_
      simp -dsimp -implicitDefEqProofs [go_sem, f1, f3, f4, m0, m4, hlt, podC_eq (s.pods.el j), Tv, Cw, silentAt, silentOp]
      refine andL_mk (by omega) ?_
      simp -dsimp -implicitDefEqProofs [go_sem, f1, f3, f4, m0, m4]
      exact ⟨_, by omega, j + 1, by omega, rfl, w64 (by omega) (by omega), by rw [encL_succ]; simp [onV, he]⟩
  obtain rfl : j = s.pods.n := by omega
  simp -dsimp -implicitDefEqProofs [go_sem, f1, f3, f4, m0, m4]
  exact ⟨4, v, ⟨rfl, rfl⟩, m4⟩
theorem refCheck_pure (s : SnapD) (ok : SnapOk s) : Pure Tryz.prog 100 [snapF s] (I (checkE s)) :=
  pure_of Tryz.func100 rfl rfl fun x vs hr => by
    obtain ⟨u, rfl, h1⟩ := repL1 hr
    obtain ⟨n, p, o, lv, tv, pv, rfl, h⟩ := snap_of_rep h1 ok
    exact refCheckS_any h
set_option maxRecDepth 100000 in
set_option maxHeartbeats 1000000 in
theorem ref07Check_pure (s : SnapD) (ok : SnapOk s) (hc : checkE s = 0) (on : Nat → Int) (hon : OnOk s on) : Pure Tryz.prog 105 [snapF s, intsF ⟨s.pods.n, on⟩] (I 0) := by
  have hp := ok.p1
  refine Pure.of_run (lit := true) Tryz.func105 rfl rfl rfl rfl (Nat.le_of_ble_eq_true rfl) (run_of_runL ?_)
  unfold St.enter
  simp -dsimp -implicitDefEqProofs [go_sem, snapF, snapC]
  refine callW_f (fs := [snapF s]) (refCheck_pure s ok) ?_
  simp -dsimp -implicitDefEqProofs [go_sem, hc, intsF]
  refine runL_loop [] 14 (by simp -dsimp -implicitDefEqProofs [go_sem]) (fun m st => ∃ j : Nat, st.n = 57 ∧ st.lit = true ∧ j ≤ s.pods.n ∧ m = s.pods.n - j ∧ st.fr 1 = .f (.sl 1 (encL s.pods.n fun k => [I (on k)])) ∧ st.fr 2 = .f (.ref [nodesF s.nodes, podsF s.pods, ownersF s.owners]) ∧ st.fr 6 = .f (I j)) s.pods.n ⟨0, ?_⟩ ?_
  · simp -dsimp -implicitDefEqProofs [go_sem]
  rintro m ⟨N, fr, mem, nx, lt⟩ hnx ⟨j, hN, hlt, hj, rfl, f1, f2, f6⟩
  dsimp only at *
  subst hN hnx hlt
  rcases Nat.lt_or_ge j s.pods.n with hlt | hge
  · simp -dsimp -implicitDefEqProofs [go_sem, f1, f2, f6, hlt]
    rcases hon j hlt with e1 | ⟨n, hn, e1, hl⟩
    · have e0 : ¬ ((s.nodes.n : Int) ≤ -1) := by omega
      refine runL_draw [[], [], [0, 1], [2, 0, 1], [3, 2, 0, 1], [4, 3, 2, 0, 1], [5, 4, 3, 2, 0, 1], [5, 4, 3, 2, 0, 1], [6, 5, 4, 3, 2, 0, 1, 7], [8, 6, 5, 4, 3, 2, 0, 1, 7], [5, 4, 3, 2, 0, 1], [10, 5, 4, 3, 2, 0, 1], [11, 10, 5, 4, 3, 2, 0, 1], [9, 8, 6, 5, 4, 3, 2, 0, 1, 7, 12, 11, 10], [5, 4, 3, 2, 0, 1, 13, 9, 8, 6, 7, 12, 11, 10], [14, 5, 4, 3, 2, 0, 1, 13, 9, 8, 6, 7, 12, 11, 10], [15, 14, 5, 4, 3, 2, 0, 1, 13, 9, 8, 6, 7, 12, 11, 10], [15, 14, 5, 4, 3, 2, 0, 1, 13, 9, 8, 6, 7, 12, 11, 10], [16, 15, 14, 5, 4, 3, 2, 0, 1, 13, 9, 8, 6, 7, 12, 11, 10, 17], [18, 16, 15, 14, 5, 4, 3, 2, 0, 1, 13, 9, 8, 6, 7, 12, 11, 10, 17], [19, 18, 16, 15, 14, 5, 4, 3, 2, 0, 1, 13, 9, 8, 6, 7, 12, 11, 10, 17], [20, 19, 18, 16, 15, 14, 5, 4, 3, 2, 0, 1, 13, 9, 8, 6, 7, 12, 11, 10, 17], [21, 20, 19, 18, 16, 15, 14, 5, 4, 3, 2, 0, 1, 13, 9, 8, 6, 7, 12, 11, 10, 17], [22, 21, 20, 19, 18, 16, 15, 14, 5, 4, 3, 2, 0, 1, 13, 9, 8, 6, 7, 12, 11, 10, 17], [21, 20, 19, 18, 16, 15, 14, 5, 4, 3, 2, 0, 1, 13, 9, 8, 6, 7, 12, 11, 10, 17], [21, 20, 19, 18, 16, 15, 14, 5, 4, 3, 2, 0, 1, 13, 9, 8, 6, 7, 12, 11, 10, 17], [24, 21, 20, 19, 18, 16, 15, 14, 5, 4, 3, 2, 0, 1, 13, 9, 8, 6, 7, 12, 11, 10, 17, 25], [26, 24, 21, 20, 19, 18, 16, 15, 14, 5, 4, 3, 2, 0, 1, 13, 9, 8, 6, 7, 12, 11, 10, 17, 25], [23, 22, 21, 20, 19, 18, 16, 15, 14, 5, 4, 3, 2, 0, 1, 13, 9, 8, 6, 7, 12, 11, 10, 17, 27, 26, 24, 25], [28, 23, 22, 21, 20, 19, 18, 16, 15, 14, 5, 4, 3, 2, 0, 1, 13, 9, 8, 6, 7, 12, 11, 10, 17, 27, 26, 24, 25], [29, 28, 23, 22, 21, 20, 19, 18, 16, 15, 14, 5, 4, 3, 2, 0, 1, 13, 9, 8, 6, 7, 12, 11, 10, 17, 27, 26, 24, 25], [21, 20, 19, 18, 16, 15, 14, 5, 4, 3, 2, 0, 1, 13, 9, 8, 6, 7, 12, 11, 10, 17, 30, 29, 28, 23, 22, 27, 26, 24, 25], [15, 14, 5, 4, 3, 2, 0, 1, 13, 9, 8, 6, 7, 12, 11, 10, 31, 21, 20, 19, 18, 16, 17, 30, 29, 28, 23, 22, 27, 26, 24, 25]] (by kernel_rfl) (by kernel_rfl) ?_
      simp -dsimp -implicitDefEqProofs [go_sem, Tv, Cw, silentAt, silentOp, f1, f2, f6, hlt, encL_get? _ hlt, e1, e0]
      exact ⟨_, by omega, j + 1, by omega, rfl, w64 (by omega) (by omega)⟩
    · have e0 : ¬ ((n : Int) < -1) := by omega
      have e2 : ¬ (s.nodes.n ≤ n) := by omega
      refine runL_draw [[], [], [0, 1], [2, 0, 1], [3, 2, 0, 1], [4, 3, 2, 0, 1], [5, 4, 3, 2, 0, 1], [5, 4, 3, 2, 0, 1], [6, 5, 4, 3, 2, 0, 1, 7], [8, 6, 5, 4, 3, 2, 0, 1, 7], [5, 4, 3, 2, 0, 1], [10, 5, 4, 3, 2, 0, 1], [11, 10, 5, 4, 3, 2, 0, 1], [9, 8, 6, 5, 4, 3, 2, 0, 1, 7, 12, 11, 10], [5, 4, 3, 2, 0, 1, 13, 9, 8, 6, 7, 12, 11, 10], [14, 5, 4, 3, 2, 0, 1, 13, 9, 8, 6, 7, 12, 11, 10], [15, 14, 5, 4, 3, 2, 0, 1, 13, 9, 8, 6, 7, 12, 11, 10], [15, 14, 5, 4, 3, 2, 0, 1, 13, 9, 8, 6, 7, 12, 11, 10], [16, 15, 14, 5, 4, 3, 2, 0, 1, 13, 9, 8, 6, 7, 12, 11, 10, 17], [18, 16, 15, 14, 5, 4, 3, 2, 0, 1, 13, 9, 8, 6, 7, 12, 11, 10, 17], [19, 18, 16, 15, 14, 5, 4, 3, 2, 0, 1, 13, 9, 8, 6, 7, 12, 11, 10, 17], [20, 19, 18, 16, 15, 14, 5, 4, 3, 2, 0, 1, 13, 9, 8, 6, 7, 12, 11, 10, 17], [21, 20, 19, 18, 16, 15, 14, 5, 4, 3, 2, 0, 1, 13, 9, 8, 6, 7, 12, 11, 10, 17], [22, 21, 20, 19, 18, 16, 15, 14, 5, 4, 3, 2, 0, 1, 13, 9, 8, 6, 7, 12, 11, 10, 17], [21, 20, 19, 18, 16, 15, 14, 5, 4, 3, 2, 0, 1, 13, 9, 8, 6, 7, 12, 11, 10, 17], [21, 20, 19, 18, 16, 15, 14, 5, 4, 3, 2, 0, 1, 13, 9, 8, 6, 7, 12, 11, 10, 17], [24, 21, 20, 19, 18, 16, 15, 14, 5, 4, 3, 2, 0, 1, 13, 9, 8, 6, 7, 12, 11, 10, 17, 25], [26, 24, 21, 20, 19, 18, 16, 15, 14, 5, 4, 3, 2, 0, 1, 13, 9, 8, 6, 7, 12, 11, 10, 17, 25], [23, 22, 21, 20, 19, 18, 16, 15, 14, 5, 4, 3, 2, 0, 1, 13, 9, 8, 6, 7, 12, 11, 10, 17, 27, 26, 24, 25], [28, 23, 22, 21, 20, 19, 18, 16, 15, 14, 5, 4, 3, 2, 0, 1, 13, 9, 8, 6, 7, 12, 11, 10, 17, 27, 26, 24, 25], [29, 28, 23, 22, 21, 20, 19, 18, 16, 15, 14, 5, 4, 3, 2, 0, 1, 13, 9, 8, 6, 7, 12, 11, 10, 17, 27, 26, 24, 25], [21, 20, 19, 18, 16, 15, 14, 5, 4, 3, 2, 0, 1, 13, 9, 8, 6, 7, 12, 11, 10, 17, 30, 29, 28, 23, 22, 27, 26, 24, 25], [15, 14, 5, 4, 3, 2, 0, 1, 13, 9, 8, 6, 7, 12, 11, 10, 31, 21, 20, 19, 18, 16, 17, 30, 29, 28, 23, 22, 27, 26, 24, 25]] (by kernel_rfl) (by kernel_rfl) ?_
      simp -dsimp -implicitDefEqProofs [go_sem, Tv, Cw, silentAt, silentOp, f1, f2, f6, hlt, encL_get? _ hlt, e1, e0, e2, hn, encL_get? _ hn, nodeC_eq (s.nodes.el n), hl]
      exact ⟨_, by omega, j + 1, by omega, rfl, w64 (by omega) (by omega)⟩
  · obtain rfl : j = s.pods.n := by omega
    simp -dsimp -implicitDefEqProofs [go_sem, f1, f2, f6]
end Go.Proofs.YthpmgnbehahkfaaGreat
end
section
namespace Go.Proofs.YthpmgnbehahkfaaGreat
open Go.RowKit Go.Dk Go.Dn

/-- what is asked for on a node, up to a place -/
def partU (s : SnapD) (on : Nat → Int) (k : Int) (j i : Nat) : Int := sumF (fun p => if on p = k then (s.pods.el p).req i else 0) j
theorem partU_range {s : SnapD} (h : SOk s) (on : Nat → Int) (k : Int) {i j : Nat} (hi : i < 5) (hj : j ≤ s.pods.n) : 0 ≤ partU s on k j i ∧ partU s on k j i ≤ 1099511627776 := by
  have hp : ∀ p, p < s.pods.n → 0 ≤ (if on p = k then (s.pods.el p).req i else 0) := fun p hp => by split; exact h.req p hp i hi; exact Int.le_refl _
  have h1 := sumF_nonneg hp j hj
  have h2 := sumF_mono hp s.pods.n hj (Nat.le_refl _)
  refine ⟨h1, Int.le_trans h2 (Int.le_trans (sumF_le fun p hq => ?_) (h.sum i hi))⟩
  split
  · exact Int.le_refl _
  · exact h.req p hq i hi
set_option maxRecDepth 100000 in
set_option maxHeartbeats 2000000 in
theorem ref07UsedOf_pure (s : SnapD) (ok : SnapOk s) (so : SOk s) (on : Nat → Int) (k : Int) : Pure Tryz.prog 113 [snapF s, intsF ⟨s.pods.n, on⟩, I k] (fiveF (partU s on k s.pods.n)) := by
  have hp := ok.p1
  refine Pure.of_run (lit := true) Tryz.func113 rfl rfl rfl rfl (Nat.le_of_ble_eq_true rfl) (run_of_runL ?_)
  unfold St.enter
  simp -dsimp -implicitDefEqProofs [go_sem, snapF, snapC, intsF]
  refine runL_loop [] 4 (by simp -dsimp -implicitDefEqProofs [go_sem]) (fun m st => ∃ j : Nat, st.n = 43 ∧ st.lit = true ∧ j ≤ s.pods.n ∧ m = s.pods.n - j ∧ st.fr 1 = .f (.sl 1 (encL s.pods.n fun k => [I (on k)])) ∧ st.fr 2 = .f (I k) ∧ st.fr 3 = .f (.ref [nodesF s.nodes, podsF s.pods, ownersF s.owners]) ∧ st.fr 6 = .loc 1 0 ∧ st.fr 7 = .loc 2 0 ∧ st.fr 8 = .f (I j) ∧
      st.mem 1 = some (.blk [.f (I 0), .f (I 0), .f (I 0), .f (I 0), .f (I 0)]) ∧ st.mem 2 = some (.blk [.f (I (partU s on k j 0)), .f (I (partU s on k j 1)), .f (I (partU s on k j 2)), .f (I (partU s on k j 3)), .f (I (partU s on k j 4))])) s.pods.n ⟨0, ?_⟩ ?_
  · simp -dsimp -implicitDefEqProofs [go_sem, partU, sumF]
  rintro m ⟨N, fr, mem, nx, lt⟩ hnx ⟨j, hN, hlt, hj, rfl, f1, f2, f3, f6, f7, f8, m1, m2⟩
  dsimp only at *
  subst hN hnx hlt
  rcases Nat.lt_or_ge j s.pods.n with hlt | hge
  · simp -dsimp -implicitDefEqProofs [go_sem, f1, f2, f3, f6, f7, f8, hlt]
    by_cases e : on j = k
    · have hs : ∀ i, partU s on k (j + 1) i = partU s on k j i + (s.pods.el j).req i := fun i => by simp [partU, sumF, e]
      have hw : ∀ i, i < 5 → IntKind.i64.wrap (partU s on k j i + (s.pods.el j).req i) = partU s on k (j + 1) i := fun i hi => by
        have := partU_range so on k hi (show j + 1 ≤ s.pods.n by omega)
        rw [hs] at this ⊢
        exact w64 (by omega) (by omega)
      have w0 := hw 0 (by omega)
      have w1 := hw 1 (by omega)
      have w2 := hw 2 (by omega)
      have w3 := hw 3 (by omega)
      have w4 := hw 4 (by omega)
      refine runL_unroll 6 (iter_step ?_)
      simp -dsimp -implicitDefEqProofs [go_sem, f1, f2, f3, f6, f7, f8, m1, m2, hlt, encL_get? _ hlt, podC_eq (s.pods.el j), e, w0, w1, w2, w3, w4, wr1', wr2', wr3', wr4', wr5']
      refine runL_draw [[], [], [1], [2, 1], [], [4], [], [], [5, 4, 6], [8, 5, 4, 6], [9, 8, 5, 4, 6, 7], [10, 9, 8, 5, 4, 6, 7], [3, 2, 1, 11, 10, 9, 8, 5, 4, 6, 7], [0, 1, 2, 3, 4, 5, 6, 7, 8, 9, 10, 11, 12], [13, 0, 1, 2, 3, 4, 5, 6, 7, 8, 9, 10, 11, 12]] (by kernel_rfl) (by kernel_rfl) ?_
      simp -dsimp -implicitDefEqProofs [go_sem, Tv, Cw, silentAt, silentOp, f1, f2, f3, f6, f7, f8, m1, m2, hlt, encL_get? _ hlt, podC_eq (s.pods.el j), e, w0, w1, w2, w3, w4, wr1', wr2', wr3', wr4', wr5']
      refine exWL_mk (andL_mk ⟨Cw_lt (by omega) (by kernel_rfl), Tv_lt (by omega) (by kernel_rfl)⟩ ?_)
      simp -dsimp -implicitDefEqProofs [go_sem, Tv, Cw, silentAt, silentOp, f1, f2, f3, f6, f7, f8, m1, m2, hlt, encL_get? _ hlt, podC_eq (s.pods.el j), e, w0, w1, w2, w3, w4, wr1', wr2', wr3', wr4', wr5']
      refine iter_step ?_
      simp -dsimp -implicitDefEqProofs [go_sem, f1, f2, f3, f6, f7, f8, m1, m2, hlt, encL_get? _ hlt, podC_eq (s.pods.el j), e, w0, w1, w2, w3, w4, wr1', wr2', wr3', wr4', wr5']
      refine runL_draw [[], [], [1], [2, 1], [], [4], [], [], [5, 4, 6], [8, 5, 4, 6], [9, 8, 5, 4, 6, 7], [10, 9, 8, 5, 4, 6, 7], [3, 2, 1, 11, 10, 9, 8, 5, 4, 6, 7], [0, 1, 2, 3, 4, 5, 6, 7, 8, 9, 10, 11, 12], [13, 0, 1, 2, 3, 4, 5, 6, 7, 8, 9, 10, 11, 12]] (by kernel_rfl) (by kernel_rfl) ?_
      simp -dsimp -implicitDefEqProofs [go_sem, Tv, Cw, silentAt, silentOp, f1, f2, f3, f6, f7, f8, m1, m2, hlt, encL_get? _ hlt, podC_eq (s.pods.el j), e, w0, w1, w2, w3, w4, wr1', wr2', wr3', wr4', wr5']
      refine exWL_mk (andL_mk ⟨Cw_lt (by omega) (by kernel_rfl), Tv_lt (by omega) (by kernel_rfl)⟩ ?_)
      simp -dsimp -implicitDefEqProofs [go_sem, Tv, Cw, silentAt, silentOp, f1, f2, f3, f6, f7, f8, m1, m2, hlt, encL_get? _ hlt, podC_eq (s.pods.el j), e, w0, w1, w2, w3, w4, wr1', wr2', wr3', wr4', wr5']
      refine iter_step ?_
      simp -dsimp -implicitDefEqProofs [go_sem, f1, f2, f3, f6, f7, f8, m1, m2, hlt, encL_get? _ hlt, podC_eq (s.pods.el j), e, w0, w1, w2, w3, w4, wr1', wr2', wr3', wr4', wr5']
      refine runL_draw [[], [], [1], [2, 1], [], [4], [], [], [5, 4, 6], [8, 5, 4, 6], [9, 8, 5, 4, 6, 7], [10, 9, 8, 5, 4, 6, 7], [3, 2, 1, 11, 10, 9, 8, 5, 4, 6, 7], [0, 1, 2, 3, 4, 5, 6, 7, 8, 9, 10, 11, 12], [13, 0, 1, 2, 3, 4, 5, 6, 7, 8, 9, 10, 11, 12]] (by kernel_rfl) (by kernel_rfl) ?_
      simp -dsimp -implicitDefEqProofs [go_sem, Tv, Cw, silentAt, silentOp, f1, f2, f3, f6, f7, f8, m1, m2, hlt, encL_get? _ hlt, podC_eq (s.pods.el j), e, w0, w1, w2, w3, w4, wr1', wr2', wr3', wr4', wr5']
      refine exWL_mk (andL_mk ⟨Cw_lt (by omega) (by kernel_rfl), Tv_lt (by omega) (by kernel_rfl)⟩ ?_)
      simp -dsimp -implicitDefEqProofs [go_sem, Tv, Cw, silentAt, silentOp, f1, f2, f3, f6, f7, f8, m1, m2, hlt, encL_get? _ hlt, podC_eq (s.pods.el j), e, w0, w1, w2, w3, w4, wr1', wr2', wr3', wr4', wr5']
      refine iter_step ?_
      simp -dsimp -implicitDefEqProofs [go_sem, f1, f2, f3, f6, f7, f8, m1, m2, hlt, encL_get? _ hlt, podC_eq (s.pods.el j), e, w0, w1, w2, w3, w4, wr1', wr2', wr3', wr4', wr5']
      refine runL_draw [[], [], [1], [2, 1], [], [4], [], [], [5, 4, 6], [8, 5, 4, 6], [9, 8, 5, 4, 6, 7], [10, 9, 8, 5, 4, 6, 7], [3, 2, 1, 11, 10, 9, 8, 5, 4, 6, 7], [0, 1, 2, 3, 4, 5, 6, 7, 8, 9, 10, 11, 12], [13, 0, 1, 2, 3, 4, 5, 6, 7, 8, 9, 10, 11, 12]] (by kernel_rfl) (by kernel_rfl) ?_
      simp -dsimp -implicitDefEqProofs [go_sem, Tv, Cw, silentAt, silentOp, f1, f2, f3, f6, f7, f8, m1, m2, hlt, encL_get? _ hlt, podC_eq (s.pods.el j), e, w0, w1, w2, w3, w4, wr1', wr2', wr3', wr4', wr5']
      refine exWL_mk (andL_mk ⟨Cw_lt (by omega) (by kernel_rfl), Tv_lt (by omega) (by kernel_rfl)⟩ ?_)
      simp -dsimp -implicitDefEqProofs [go_sem, Tv, Cw, silentAt, silentOp, f1, f2, f3, f6, f7, f8, m1, m2, hlt, encL_get? _ hlt, podC_eq (s.pods.el j), e, w0, w1, w2, w3, w4, wr1', wr2', wr3', wr4', wr5']
      refine iter_step ?_
      simp -dsimp -implicitDefEqProofs [go_sem, f1, f2, f3, f6, f7, f8, m1, m2, hlt, encL_get? _ hlt, podC_eq (s.pods.el j), e, w0, w1, w2, w3, w4, wr1', wr2', wr3', wr4', wr5']
      refine runL_draw [[], [], [1], [2, 1], [], [4], [], [], [5, 4, 6], [8, 5, 4, 6], [9, 8, 5, 4, 6, 7], [10, 9, 8, 5, 4, 6, 7], [3, 2, 1, 11, 10, 9, 8, 5, 4, 6, 7], [0, 1, 2, 3, 4, 5, 6, 7, 8, 9, 10, 11, 12], [13, 0, 1, 2, 3, 4, 5, 6, 7, 8, 9, 10, 11, 12]] (by kernel_rfl) (by kernel_rfl) ?_
      simp -dsimp -implicitDefEqProofs [go_sem, Tv, Cw, silentAt, silentOp, f1, f2, f3, f6, f7, f8, m1, m2, hlt, encL_get? _ hlt, podC_eq (s.pods.el j), e, w0, w1, w2, w3, w4, wr1', wr2', wr3', wr4', wr5']
      refine exWL_mk (andL_mk ⟨Cw_lt (by omega) (by kernel_rfl), Tv_lt (by omega) (by kernel_rfl)⟩ ?_)
      simp -dsimp -implicitDefEqProofs [go_sem, Tv, Cw, silentAt, silentOp, f1, f2, f3, f6, f7, f8, m1, m2, hlt, encL_get? _ hlt, podC_eq (s.pods.el j), e, w0, w1, w2, w3, w4, wr1', wr2', wr3', wr4', wr5']
      refine iter_step ?_
      simp -dsimp -implicitDefEqProofs [go_sem, f1, f2, f3, f6, f7, f8, m1, m2, hlt, encL_get? _ hlt, podC_eq (s.pods.el j), e, w0, w1, w2, w3, w4, wr1', wr2', wr3', wr4', wr5']
      exact ⟨_, by omega, j + 1, by omega, rfl, w64 (by omega) (by omega), rfl, rfl, rfl, rfl, rfl⟩
    · have hs : ∀ i, partU s on k (j + 1) i = partU s on k j i := fun i => by simp [partU, sumF, e]
      have e' : (on j == k) = false := by simpa using e
      refine runL_unroll 1 (iter_step ?_)
      simp -dsimp -implicitDefEqProofs [go_sem, f1, f2, f3, f6, f7, f8, m1, m2, hlt, encL_get? _ hlt, e']
      exact ⟨_, by omega, j + 1, by omega, rfl, w64 (by omega) (by omega), (hs 0).symm, (hs 1).symm, (hs 2).symm, (hs 3).symm, (hs 4).symm⟩
  · obtain rfl : j = s.pods.n := by omega
    simp -dsimp -implicitDefEqProofs [go_sem, f1, f2, f3, f6, f7, f8, m1, m2]
    rfl
/-- what a node has, or nothing -/
def usedN (s : SnapD) (on : Nat → Int) (k : Int) : Nat → Int := if 0 ≤ k ∧ k < s.nodes.n then partU s on k s.pods.n else fun _ => 0
set_option maxRecDepth 100000 in
theorem ref07Used_pure (s : SnapD) (ok : SnapOk s) (so : SOk s) (hc : checkE s = 0) (on : Nat → Int) (hon : OnOk s on) (k : Int) : Pure Tryz.prog 69 [snapF s, intsF ⟨s.pods.n, on⟩, I k] (fiveF (usedN s on k)) := by
  refine Pure.of_run (lit := true) Tryz.func69 rfl rfl rfl rfl (Nat.le_of_ble_eq_true rfl) (run_of_runL ?_)
  unfold St.enter
  simp -dsimp -implicitDefEqProofs [go_sem, snapF, snapC]
  refine callW_f (fs := [snapF s, intsF ⟨s.pods.n, on⟩]) (ref07Check_pure s ok hc on hon) ?_
  by_cases h0 : k < 0
  · have e : usedN s on k = fun _ => 0 := by unfold usedN; rw [if_neg (by omega)]
    simp -dsimp -implicitDefEqProofs [go_sem, h0, e]
    rfl
  by_cases h1 : (s.nodes.n : Int) ≤ k
  · have e : usedN s on k = fun _ => 0 := by unfold usedN; rw [if_neg (by omega)]
    simp -dsimp -implicitDefEqProofs [go_sem, h0, h1, e]
    rfl
  · have e : usedN s on k = partU s on k s.pods.n := by unfold usedN; rw [if_pos (by omega)]
    simp -dsimp -implicitDefEqProofs [go_sem, h0, h1, e]
    refine callW_f (fs := [snapF s, intsF ⟨s.pods.n, on⟩, I k]) (ref07UsedOf_pure s ok so on k) ?_
    simp -dsimp -implicitDefEqProofs [go_sem, fiveF]
    exact ⟨by rw [e], by rw [e], by rw [e], by rw [e], by rw [e]⟩
end Go.Proofs.YthpmgnbehahkfaaGreat
end
section
namespace Go.Proofs.YthpmgnbehahkfaaGreat
open Go.RowKit Go.Dk Go.Dn

def hasB (s : SnapD) (o p : Nat) : Bool := (s.pods.el p).owner.toList == (s.owners.el o).name.toList
/-- how many of an owner's pods, of the first ones, are on a node -/
def cntN (s : SnapD) (on : Nat → Int) (o j m : Nat) : Int := sumF (fun p => if hasB s o p = true ∧ on p = m then 1 else 0) j
/-- and on any -/
def allC (s : SnapD) (on : Nat → Int) (o j : Nat) : Int := sumF (fun p => if hasB s o p = true ∧ on p ≠ -1 then 1 else 0) j
theorem cntN_succ (s : SnapD) (on : Nat → Int) (o j m : Nat) : cntN s on o (j + 1) m = cntN s on o j m + (if hasB s o j = true ∧ on j = m then 1 else 0) := rfl
theorem cntN_range (s : SnapD) (on : Nat → Int) (o j m : Nat) : 0 ≤ cntN s on o j m ∧ cntN s on o j m ≤ j := by
  constructor
  · exact sumF_pos fun k hk => by split <;> omega
  · have h1 : cntN s on o j m ≤ sumF (fun _ => 1) j := sumF_le fun k hk => by split <;> omega
    rw [sumF_const] at h1
    omega
theorem allC_range (s : SnapD) (on : Nat → Int) (o j : Nat) : 0 ≤ allC s on o j ∧ allC s on o j ≤ j := by
  constructor
  · exact sumF_pos fun k hk => by split <;> omega
  · have h1 : allC s on o j ≤ sumF (fun _ => 1) j := sumF_le fun k hk => by split <;> omega
    rw [sumF_const] at h1
    omega
theorem sumF_add (f g : Nat → Int) : ∀ n, sumF (fun k => f k + g k) n = sumF f n + sumF g n
  | 0 => rfl
  | n + 1 => by simp only [sumF, sumF_add f g n]; omega
theorem sumF_zero {f : Nat → Int} : ∀ {n : Nat}, (∀ k, k < n → f k = 0) → sumF f n = 0
  | 0, _ => rfl
  | n + 1, h => by
    have ih := sumF_zero (f := f) (n := n) fun k hk => h k (by omega)
    have := h n (by omega)
    simp only [sumF]
    omega
theorem sumF_hit {x : Int} : ∀ {n : Nat} {m : Nat}, x = m → m < n → sumF (fun k => if x = k then 1 else 0) n = 1
  | 0, _, _, h => by omega
  | n + 1, m, e, h => by
    simp only [sumF]
    by_cases hn : m = n
    · subst hn
      rw [sumF_zero fun k hk => if_neg (by omega), if_pos e]
      rfl
    · rw [sumF_hit e (by omega), if_neg (by omega)]
      rfl
theorem sum_cnt {s : SnapD} {on : Nat → Int} (hon : OnOk s on) (o : Nat) : ∀ j, j ≤ s.pods.n → sumF (cntN s on o j) s.nodes.n = allC s on o j
  | 0, _ => by
    exact sumF_zero fun k _ => rfl
  | j + 1, hj => by
    have ih := sum_cnt hon o j (by omega)
    have e : cntN s on o (j + 1) = fun m => cntN s on o j m + if hasB s o j = true ∧ on j = m then 1 else 0 := rfl
    rw [e, sumF_add, ih]
    show _ = allC s on o j + (if hasB s o j = true ∧ on j ≠ -1 then 1 else 0)
    congr 1
    by_cases hb : hasB s o j = true
    · rcases hon j (by omega) with e1 | ⟨n, hn, e1, -⟩
      · rw [if_neg (by simp [e1])]
        exact sumF_zero fun k _ => if_neg (by omega)
      · rw [if_pos ⟨hb, by omega⟩]
        rw [show (fun k : Nat => if hasB s o j = true ∧ on j = (k : Int) then (1 : Int) else 0) = fun k : Nat => if on j = (k : Int) then 1 else 0 from funext fun k => by simp [hb]]
        exact sumF_hit e1 hn
    · rw [if_neg (by simp [hb])]
      exact sumF_zero fun k _ => if_neg (by simp [hb])
set_option maxRecDepth 100000 in
set_option maxHeartbeats 2000000 in
theorem ref07counts_pure (s : SnapD) (ok : SnapOk s) (on : Nat → Int) (hon : OnOk s on) (o : Nat) (ho : o < s.owners.n) : Pure Tryz.prog 253 [snapF s, intsF ⟨s.pods.n, on⟩, I o] (.sl 1 (encL s.nodes.n fun m => [I (cntN s on o s.pods.n m)])) := by
  have hp := ok.p1
  have hn1 := ok.n1
  refine Pure.of_run (lit := true) Tryz.func253 rfl rfl rfl rfl (Nat.le_of_ble_eq_true rfl) (run_of_runL ?_)
  unfold St.enter
  simp -dsimp -implicitDefEqProofs [go_sem, snapF, snapC, intsF]
  refine andL_mk ⟨by omega, by omega⟩ ?_
  simp -dsimp -implicitDefEqProofs [go_sem]
  refine runL_loop [] 8 (by simp -dsimp -implicitDefEqProofs [go_sem]) (fun m st => ∃ j : Nat, st.n = 49 ∧ st.lit = true ∧ j ≤ s.pods.n ∧ m = s.pods.n - j ∧ st.fr 1 = .f (.sl 1 (encL s.pods.n fun k => [I (on k)])) ∧ st.fr 2 = .f (I o) ∧ st.fr 3 = .f (.ref [nodesF s.nodes, podsF s.pods, ownersF s.owners]) ∧ st.fr 7 = .own 5 0 ∧ st.fr 8 = .f (I j) ∧
      st.mem 5 = some (.row 3 0 1 (encL s.nodes.n fun m => [I (cntN s on o j m)]))) s.pods.n ⟨0, ?_⟩ ?_
  · simp -dsimp -implicitDefEqProofs [go_sem]
    exact replicate_encL _ _
  rintro m ⟨N, fr, mem, nx, lt⟩ hnx ⟨j, hN, hlt, hj, rfl, f1, f2, f3, f7, f8, m5⟩
  dsimp only at *
  subst hN hnx hlt
  rcases Nat.lt_or_ge j s.pods.n with hlt | hge
  · simp -dsimp -implicitDefEqProofs [go_sem, f1, f2, f3, f7, f8, hlt]
    have hw : ∀ m, IntKind.i64.wrap (cntN s on o j m + 1) = cntN s on o j m + 1 := fun m => by
      have := cntN_range s on o j m
      exact w64 (by omega) (by omega)
    refine runL_draw [[], [], [0, 1], [2, 0, 1], [3, 2, 0, 1], [4, 3, 2, 0, 1], [5, 4, 3, 2, 0, 1], [6, 5, 4, 3, 2, 0, 1], [5, 4, 3, 2, 0, 1], [7, 6, 5, 4, 3, 2, 0, 1, 8], [9, 7, 6, 5, 4, 3, 2, 0, 1, 8], [10, 9, 7, 6, 5, 4, 3, 2, 0, 1, 8], [5, 4, 3, 2, 0, 1], [12, 5, 4, 3, 2, 0, 1], [5, 4, 3, 2, 0, 1], [13, 12, 5, 4, 3, 2, 0, 1, 14], [15, 13, 12, 5, 4, 3, 2, 0, 1, 14], [16, 15, 13, 12, 5, 4, 3, 2, 0, 1, 14], [11, 10, 9, 7, 6, 5, 4, 3, 2, 0, 1, 8, 17, 16, 15, 13, 12, 14], [5, 4, 3, 2, 0, 1, 18, 11, 10, 9, 7, 6, 8, 17, 16, 15, 13, 12, 14]] (by kernel_rfl) (by kernel_rfl) ?_
    rcases hon j hlt with e1 | ⟨n, hn, e1, hl⟩
    · simp -dsimp -implicitDefEqProofs [go_sem, Tv, Cw, silentAt, silentOp, f1, f2, f3, f7, f8, hlt, encL_get? _ hlt, e1, m5]
      exact ⟨_, by omega, j + 1, by omega, rfl, w64 (by omega) (by omega), by rw [show cntN s on o (j + 1) = cntN s on o j from funext fun m => by rw [cntN_succ, if_neg (by omega), Int.add_zero]]⟩
    · rcases Bool.eq_false_or_eq_true ((s.pods.el j).owner.toList == (s.owners.el o).name.toList) with hb | hb
      · simp -dsimp -implicitDefEqProofs [go_sem, Tv, Cw, silentAt, silentOp, f1, f2, f3, f7, f8, hlt, encL_get? _ hlt, e1, ho, encL_get? _ ho, podC_eq (s.pods.el j), ownerC_eq (s.owners.el o), hb, m5, hn, encL_get? _ hn, hw]
        exact ⟨_, by omega, j + 1, by omega, rfl, w64 (by omega) (by omega), by
          rw [encI_set _ _ _ _ hn]
          rw [show cntN s on o (j + 1) = setC (cntN s on o j) n (cntN s on o j n + 1) from funext fun m => by
            unfold setC
            by_cases c : m = n
            · subst c; rw [cntN_succ, if_pos ⟨hb, e1⟩, if_pos rfl]
            · rw [cntN_succ, if_neg (by omega), if_neg c, Int.add_zero]]⟩
      · simp -dsimp -implicitDefEqProofs [go_sem, Tv, Cw, silentAt, silentOp, f1, f2, f3, f7, f8, hlt, encL_get? _ hlt, e1, ho, encL_get? _ ho, podC_eq (s.pods.el j), ownerC_eq (s.owners.el o), hb, m5]
        exact ⟨_, by omega, j + 1, by omega, rfl, w64 (by omega) (by omega), by rw [show cntN s on o (j + 1) = cntN s on o j from funext fun m => by rw [cntN_succ, if_neg (by unfold hasB; simp [hb]), Int.add_zero]]⟩
  · obtain rfl : j = s.pods.n := by omega
    simp -dsimp -implicitDefEqProofs [go_sem, f1, f2, f3, f7, f8, m5]
theorem sum_range {s : SnapD} {on : Nat → Int} (o j : Nat) (hon : OnOk s on) (hj : j ≤ s.nodes.n) : 0 ≤ sumF (cntN s on o s.pods.n) j ∧ sumF (cntN s on o s.pods.n) j ≤ s.pods.n := by
  have hp : ∀ k, k < s.nodes.n → 0 ≤ cntN s on o s.pods.n k := fun k _ => (cntN_range s on o s.pods.n k).1
  have h1 := sumF_nonneg hp j hj
  have h2 := sumF_mono hp s.nodes.n hj (Nat.le_refl _)
  have h3 := sum_cnt hon o s.pods.n (Nat.le_refl _)
  have h4 := allC_range s on o s.pods.n
  omega
set_option maxRecDepth 100000 in
theorem ref07PlacedOf_pure (s : SnapD) (ok : SnapOk s) (on : Nat → Int) (hon : OnOk s on) (o : Nat) (ho : o < s.owners.n) : Pure Tryz.prog 231 [snapF s, intsF ⟨s.pods.n, on⟩, I o] (I (allC s on o s.pods.n)) := by
  have hp := ok.p1
  have hn1 := ok.n1
  refine Pure.of_run (lit := true) Tryz.func231 rfl rfl rfl rfl (Nat.le_of_ble_eq_true rfl) (run_of_runL ?_)
  unfold St.enter
  simp -dsimp -implicitDefEqProofs [go_sem, snapF, snapC]
  refine callW_f (fs := [snapF s, intsF ⟨s.pods.n, on⟩, I o]) (ref07counts_pure s ok on hon o ho) ?_
  simp -dsimp -implicitDefEqProofs [go_sem]
  refine runL_loop [] 9 (by simp -dsimp -implicitDefEqProofs [go_sem]) (fun m st => ∃ j : Nat, st.n = 27 ∧ st.lit = true ∧ j ≤ s.nodes.n ∧ m = s.nodes.n - j ∧ st.fr 7 = .f (I (sumF (cntN s on o s.pods.n) j)) ∧ st.fr 8 = .f (.sl 1 (encL s.nodes.n fun m => [I (cntN s on o s.pods.n m)])) ∧ st.fr 9 = .f (I j)) s.nodes.n ⟨0, ?_⟩ ?_
  · simp -dsimp -implicitDefEqProofs [go_sem]
    rfl
  rintro m ⟨N, fr, mem, nx, lt⟩ hnx ⟨j, hN, hlt, hj, rfl, f7, f8, f9⟩
  dsimp only at *
  subst hN hnx hlt
  rcases Nat.lt_or_ge j s.nodes.n with hlt | hge
  · have h1 := sum_range o (j + 1) hon (show j + 1 ≤ s.nodes.n by omega)
    have hw : IntKind.i64.wrap (sumF (cntN s on o s.pods.n) j + cntN s on o s.pods.n j) = sumF (cntN s on o s.pods.n) (j + 1) := w64 (by simp only [sumF] at h1; omega) (by simp only [sumF] at h1; omega)
    simp -dsimp -implicitDefEqProofs [go_sem, f7, f8, f9, hlt, encL_get? _ hlt, hw]
    exact ⟨_, by omega, j + 1, by omega, rfl, rfl, w64 (by omega) (by omega)⟩
  · obtain rfl : j = s.nodes.n := by omega
    simp -dsimp -implicitDefEqProofs [go_sem, f7, f8, f9]
    rw [sum_cnt hon o _ (Nat.le_refl _)]
/-- what of an owner is placed, or nothing -/
def placN (s : SnapD) (on : Nat → Int) (k : Int) : Int := if 0 ≤ k ∧ k < s.owners.n then allC s on k.toNat s.pods.n else 0
set_option maxRecDepth 100000 in
theorem ref07asked_pure (s : SnapD) (ok : SnapOk s) (hc : checkE s = 0) (on : Nat → Int) (hon : OnOk s on) (k : Int) : Pure Tryz.prog 230 [snapF s, intsF ⟨s.pods.n, on⟩, I k] (B (decide (0 ≤ k ∧ k < s.owners.n))) := by
  refine Pure.of_run (lit := true) Tryz.func230 rfl rfl rfl rfl (Nat.le_of_ble_eq_true rfl) (run_of_runL ?_)
  unfold St.enter
  by_cases h0 : 0 ≤ k
  · by_cases h1 : k < (s.owners.n : Int)
    · simp -dsimp -implicitDefEqProofs [go_sem, snapF, snapC, h0, h1]
      refine callW_f (fs := [snapF s, intsF ⟨s.pods.n, on⟩]) (ref07Check_pure s ok hc on hon) ?_
      simp -dsimp -implicitDefEqProofs [go_sem]
      exact ⟨h0, h1⟩
    · simp -dsimp -implicitDefEqProofs [go_sem, snapF, snapC, h0, h1]
  · simp -dsimp -implicitDefEqProofs [go_sem, snapF, snapC, h0]
set_option maxRecDepth 100000 in
theorem ref07Placed_pure (s : SnapD) (ok : SnapOk s) (hc : checkE s = 0) (on : Nat → Int) (hon : OnOk s on) (k : Int) : Pure Tryz.prog 204 [snapF s, intsF ⟨s.pods.n, on⟩, I k] (I (placN s on k)) := by
  refine Pure.of_run (lit := true) Tryz.func204 rfl rfl rfl rfl (Nat.le_of_ble_eq_true rfl) (run_of_runL ?_)
  unfold St.enter
  simp -dsimp -implicitDefEqProofs [go_sem, snapF, snapC]
  refine callW_f (fs := [snapF s, intsF ⟨s.pods.n, on⟩, I k]) (ref07asked_pure s ok hc on hon k) ?_
  by_cases h : 0 ≤ k ∧ k < (s.owners.n : Int)
  · obtain ⟨o, rfl⟩ : ∃ o : Nat, k = o := ⟨k.toNat, by omega⟩
    have e : placN s on o = allC s on o s.pods.n := by unfold placN; rw [if_pos h, Int.toNat_natCast]
    simp -dsimp -implicitDefEqProofs [go_sem, h, e]
    refine callW_f (fs := [snapF s, intsF ⟨s.pods.n, on⟩, I o]) (ref07PlacedOf_pure s ok on hon o (by omega)) ?_
    simp -dsimp -implicitDefEqProofs [go_sem]
    exact e.symm
  · have e : placN s on k = 0 := by unfold placN; rw [if_neg h]
    have hd : decide (0 ≤ k ∧ k < (s.owners.n : Int)) = false := decide_eq_false h
    rw [hd]
    simp -dsimp -implicitDefEqProofs [go_sem, e]
end Go.Proofs.YthpmgnbehahkfaaGreat
end
section
namespace Go.Proofs.YthpmgnbehahkfaaGreat
open Go.RowKit Go.Dk Go.Dn

/-- its cells, as data that nobody writes -/
def refF (d : StD) : List FD := [nodesF d.s.nodes, podsF d.s.pods, ownersF d.s.owners, .sl 1 (encL d.s.pods.n fun k => [I (d.on k)]), .sl 1 (encL d.s.pods.n fun k => [B (d.gone k)])]
theorem refPod_F (d : StD) (k : Int) : Pure Tryz.prog 201 [.ref (refF d), I k] (B (decide (podE d k = 0))) := by
  refine Pure.of_run (lit := true) Tryz.func201 rfl rfl rfl rfl (Nat.le_of_ble_eq_true rfl) (run_of_runL ?_)
  unfold St.enter
  by_cases h0 : 0 ≤ k
  · by_cases h1 : k < (d.s.pods.n : Int)
    · have e : podE d k = 0 := by unfold podE; rw [if_pos ⟨h0, h1⟩]
      simp -dsimp -implicitDefEqProofs [go_sem, refF, h0, h1, e]
    · have e : podE d k = 9 := by unfold podE; rw [if_neg (by omega)]
      simp -dsimp -implicitDefEqProofs [go_sem, refF, h0, h1, e]
  · have e : podE d k = 9 := by unfold podE; rw [if_neg (by omega)]
    simp -dsimp -implicitDefEqProofs [go_sem, refF, h0, e]
theorem refIsGone_F (d : StD) (k : Int) : Pure Tryz.prog 157 [.ref (refF d), I k] (B (isGoneR d k)) := by
  refine Pure.of_run (lit := true) Tryz.func157 rfl rfl rfl rfl (Nat.le_of_ble_eq_true rfl) (run_of_runL ?_)
  unfold St.enter
  simp -dsimp -implicitDefEqProofs [go_sem]
  refine callW_f (refPod_F d k) ?_
  rcases podE_or d k with e | e
  · obtain ⟨p, rfl, hp⟩ := podE_ok e
    have eR : isGoneR d p = d.gone p := by simp [isGoneR, e]
    simp -dsimp -implicitDefEqProofs [go_sem, refF, e, hp, encL_get? _ hp, eR]
  · have eR : isGoneR d k = false := by simp [isGoneR, e]
    simp -dsimp -implicitDefEqProofs [go_sem, e, eR]
theorem refCopyInts_row (n : Nat) (f : Nat → Int) (hn : n ≤ 1048576) : PureRow Tryz.prog 13 [.sl 1 (encL n fun k => [I (f k)])] 3 1 (encL n fun k => [I (f k)]) := by
  refine PureRow.of_run (lit := false) Tryz.func13 rfl rfl rfl rfl (Nat.le_of_ble_eq_true rfl) (encI_row _ _) (run_of_runL ?_)
  unfold St.enter
  simp -dsimp -implicitDefEqProofs [go_sem]
  refine andL_mk (by omega) ?_
  simp -dsimp -implicitDefEqProofs [go_sem]
  exact ⟨4, 0, ⟨rfl, rfl⟩, rfl⟩
theorem refPlacement_F (d : StD) (hp : d.s.pods.n ≤ 1048576) : PureRow Tryz.prog 155 [.ref (refF d)] 3 1 (encL d.s.pods.n fun k => [I (d.on k)]) := by
  refine PureRow.of_run (lit := true) Tryz.func155 rfl rfl rfl rfl (Nat.le_of_ble_eq_true rfl) (encI_row _ _) (run_of_runL ?_)
  unfold St.enter
  simp -dsimp -implicitDefEqProofs [go_sem, refF]
  refine callW_row (refCopyInts_row _ _ hp) ?_
  simp -dsimp -implicitDefEqProofs [go_sem]
  exact ⟨_, 0, ⟨rfl, rfl⟩, by simp -dsimp -implicitDefEqProofs [upd]⟩
set_option maxRecDepth 100000 in
theorem refSnap_F (d : StD) (ok : SnapOk d.s) (inv : DInv d) : Pure Tryz.prog 156 [.ref (refF d)] (snapF (nowS d)) := by
  refine Pure.of_run (lit := true) Tryz.func156 rfl rfl rfl rfl (Nat.le_of_ble_eq_true rfl) (run_of_runL ?_)
  unfold St.enter
  simp -dsimp -implicitDefEqProofs [go_sem, refF]
  refine runL_draw [[], [0], [1, 0], [2, 1, 0], [], [4], [5, 4], [6, 5, 4], [3, 2, 1, 0, 7, 6, 5, 4], [8, 3, 2, 1, 0, 7, 6, 5, 4], [9, 8, 3, 2, 1, 0, 7, 6, 5, 4], [9, 8, 3, 2, 1, 0, 7, 6, 5, 4], [], [12, 10, 9, 8, 3, 2, 1, 0, 7, 6, 5, 4], [11, 9, 8, 3, 2, 1, 0, 7, 6, 5, 4, 13, 12, 10]] (by kernel_rfl) (by kernel_rfl) ?_
  simp -dsimp -implicitDefEqProofs [go_sem, Tv, Cw, silentAt, silentOp]
  refine callW_f (fs := [snapF d.s, intsF ⟨d.s.pods.n, d.on⟩]) (refWith_pure d.s ok d.on inv.onOk) ?_
  simp -dsimp -implicitDefEqProofs [go_sem, Tv, Cw, silentAt, silentOp, snapF, snapC]
  repeat (refine exWL_mk (andL_mk ⟨by kernel_rfl, by kernel_rfl⟩ ?_); simp -dsimp -implicitDefEqProofs [go_sem, Tv, Cw, silentAt, silentOp])
  rfl
set_option maxRecDepth 100000 in
theorem refUsed_F (d : StD) (ok : SnapOk d.s) (inv : DInv d) (hc : checkE (nowS d) = 0) (k : Int) : Pure Tryz.prog 158 [.ref (refF d), I k] (fiveF (usedN (nowS d) d.on k)) := by
  have oknow : SnapOk (nowS d) := onS_ok inv.onOk ok
  refine Pure.of_run (lit := true) Tryz.func158 rfl rfl rfl rfl (Nat.le_of_ble_eq_true rfl) (run_of_runL ?_)
  unfold St.enter
  simp -dsimp -implicitDefEqProofs [go_sem]
  refine runL_draw [[], [0], [], [2], [3, 2], [4, 3, 2], [], [1, 0, 5, 4, 3, 2, 6], [7, 1, 0, 5, 4, 3, 2, 6]] (by kernel_rfl) (by kernel_rfl) ?_
  simp -dsimp -implicitDefEqProofs [go_sem, Tv, Cw, silentAt, silentOp]
  refine callW_f (refSnap_F d ok inv) ?_
  simp -dsimp -implicitDefEqProofs [go_sem, Tv, Cw, silentAt, silentOp, refF]
  refine callW_f (fs := [snapF (nowS d), intsF ⟨(nowS d).pods.n, d.on⟩, I k]) (ref07Used_pure (nowS d) oknow (check_sok hc) hc d.on inv.onOk k) ?_
  simp -dsimp -implicitDefEqProofs [go_sem, Tv, Cw, silentAt, silentOp, fiveF]
  repeat (refine exWL_mk (andL_mk ⟨by kernel_rfl, by kernel_rfl⟩ ?_); simp -dsimp -implicitDefEqProofs [go_sem, Tv, Cw, silentAt, silentOp])
  rfl
set_option maxRecDepth 100000 in
theorem refCount_F (d : StD) (ok : SnapOk d.s) (inv : DInv d) (hc : checkE (nowS d) = 0) (k : Int) : Pure Tryz.prog 159 [.ref (refF d), I k] (I (placN (nowS d) d.on k)) := by
  have oknow : SnapOk (nowS d) := onS_ok inv.onOk ok
  refine Pure.of_run (lit := true) Tryz.func159 rfl rfl rfl rfl (Nat.le_of_ble_eq_true rfl) (run_of_runL ?_)
  unfold St.enter
  simp -dsimp -implicitDefEqProofs [go_sem]
  refine runL_draw [[], [0], [], [2], [3, 2], [4, 3, 2], [], [1, 0, 5, 4, 3, 2, 6], [7, 1, 0, 5, 4, 3, 2, 6]] (by kernel_rfl) (by kernel_rfl) ?_
  simp -dsimp -implicitDefEqProofs [go_sem, Tv, Cw, silentAt, silentOp]
  refine callW_f (refSnap_F d ok inv) ?_
  simp -dsimp -implicitDefEqProofs [go_sem, Tv, Cw, silentAt, silentOp, refF]
  refine callW_f (fs := [snapF (nowS d), intsF ⟨(nowS d).pods.n, d.on⟩, I k]) (ref07Placed_pure (nowS d) oknow hc d.on inv.onOk k) ?_
  simp -dsimp -implicitDefEqProofs [go_sem, Tv, Cw, silentAt, silentOp]
end Go.Proofs.YthpmgnbehahkfaaGreat
end
section
namespace Go.Proofs.YthpmgnbehahkfaaGreat
open Go.RowKit Go.Dk Go.Dn

theorem stF_1 (d : StD) : (stF d)[1]? = some (podsF d.s.pods) := rfl
theorem stF_3 (d : StD) : (stF d)[3]? = some (.sl 1 (encL d.s.pods.n fun k => [I (d.on k)])) := rfl
theorem stF_4 (d : StD) : (stF d)[4]? = some (.sl 1 (encL d.s.pods.n fun k => [B (d.gone k)])) := rfl
theorem stF_t3 (d : StD) : (stF d).take 3 = [nodesF d.s.nodes, podsF d.s.pods, ownersF d.s.owners] := rfl
theorem pod_F (d : StD) (k : Int) : Pure Tryz.prog 87 [.ref (stF d), I k] (I (podE d k)) := by
  refine Pure.of_run (lit := true) Tryz.func87 rfl rfl rfl rfl (Nat.le_of_ble_eq_true rfl) (run_of_runL ?_)
  unfold St.enter
  simp -dsimp -implicitDefEqProofs [go_sem]
  refine callW_f (none_F d) ?_
  simp -dsimp -implicitDefEqProofs [go_sem, stF_1]
  refine callW_f (stIn_pure _ _) ?_
  by_cases hp : 0 ≤ k ∧ k < (d.s.pods.n : Int)
  · rw [podE, if_pos hp]
    obtain ⟨p1, p2⟩ := hp
    simp -dsimp -implicitDefEqProofs [go_sem, p1, p2]
  · rw [podE, if_neg hp]
    have e : (!decide (0 ≤ k) || !decide (k < (d.s.pods.n : Int))) = true := by simp; omega
    simp -dsimp -implicitDefEqProofs [go_sem, e]
theorem isGone_F (d : StD) (k : Int) : Pure Tryz.prog 33 [.ref (stF d), I k] (B (isGoneR d k)) := by
  refine Pure.of_run (lit := true) Tryz.func33 rfl rfl rfl rfl (Nat.le_of_ble_eq_true rfl) (run_of_runL ?_)
  unfold St.enter
  simp -dsimp -implicitDefEqProofs [go_sem]
  refine callW_f (pod_F d k) ?_
  rcases podE_or d k with e | e
  · obtain ⟨p, rfl, hp⟩ := podE_ok e
    have eR : isGoneR d p = d.gone p := by simp [isGoneR, e]
    simp -dsimp -implicitDefEqProofs [go_sem, e, stF_4, hp, encL_get? _ hp, eR]
  · have eR : isGoneR d k = false := by simp [isGoneR, e]
    simp -dsimp -implicitDefEqProofs [go_sem, e, eR]
theorem placement_F (d : StD) (hp : d.s.pods.n ≤ 1048576) : PureRow Tryz.prog 29 [.ref (stF d)] 3 1 (encL d.s.pods.n fun k => [I (d.on k)]) := by
  refine PureRow.of_run (lit := true) Tryz.func29 rfl rfl rfl rfl (Nat.le_of_ble_eq_true rfl) (encI_row _ _) (run_of_runL ?_)
  unfold St.enter
  simp -dsimp -implicitDefEqProofs [go_sem]
  refine callW_f (none_F d) ?_
  simp -dsimp -implicitDefEqProofs [go_sem, stF_3]
  refine callW_copy cloneint_copy (xs := encL d.s.pods.n fun k => [I (d.on k)]) (by simp -dsimp -implicitDefEqProofs [go_sem]) (by rw [encL_len]; exact hp) ?_
  simp -dsimp -implicitDefEqProofs [go_sem]
  exact ⟨_, 0, ⟨rfl, rfl⟩, by simp -dsimp -implicitDefEqProofs [upd]⟩
set_option maxRecDepth 100000 in
set_option maxHeartbeats 2000000 in
theorem snapWith_pure (s : SnapD) (ok : SnapOk s) (on : Nat → Int) (hon : OnOk s on) : Pure Tryz.prog 89 [snapF s, intsF ⟨s.pods.n, on⟩] (.tup [snapF (onS s on), I 0]) := by
  have hn1 := ok.n1
  have hp1 := ok.p1
  have ho1 := ok.o1
  have h3 : ownsD 17 (snapRows s).length = [.own 17 0, .own 17 1, .own 17 2] := rfl
  refine Pure.of_runC (lit := true) (fun _ => []) Tryz.func89 rfl rfl rfl rfl (Nat.le_of_ble_eq_true rfl) (runC_of_runCL ?_)
  unfold St.enter
  simp -dsimp -implicitDefEqProofs [go_sem, snapF, snapC, intsF]
  refine callW_f (fs := [intsF ⟨s.pods.n, on⟩, .fn 122 [.ref (snapC s)]]) (hasInt_none ⟨s.pods.n, on⟩ hp1 _ _ fun k hk => withOdd_pure s hn1 (on k) (hon k hk)) ?_
  simp -dsimp -implicitDefEqProofs [go_sem]
  refine callW_rows (fs := [snapF s]) (snapCopy_rows s ok) ?_
  simp -dsimp -implicitDefEqProofs [go_sem, h3]
  refine runCL_loop [.opn 17 18] (fun m st => ∃ j : Nat, st.n = 52 ∧ st.lit = true ∧ j ≤ s.pods.n ∧ m = s.pods.n - j ∧ 26 ≤ st.next ∧ st.fr 2 = .f (.ref [nodesF s.nodes, podsF s.pods, ownersF s.owners]) ∧ st.fr 4 = .loc 1 0 ∧ st.fr 5 = .f (I 0) ∧ st.fr 7 = .loc 18 0 ∧ st.fr 25 = .f (.sl 1 (encL s.pods.n fun k => [I (on k)])) ∧ st.fr 26 = .f (I s.pods.n) ∧ st.fr 27 = .f (I j) ∧
      st.mem 1 = some (.blk [.f (.v (.slice none 0 0)), .f (.v (.slice none 0 0)), .f (.v (.slice none 0 0))]) ∧ st.mem 18 = some (.blk [.own 23 0, .own 24 0, .own 25 0]) ∧ st.mem 23 = some (.row 75 0 10 (encL s.nodes.n fun k => nodeC (s.nodes.el k))) ∧
      st.mem 24 = some (.row 81 0 15 (encL s.pods.n fun k => podC (onStep s on j k))) ∧ st.mem 25 = some (.row 100 0 5 (encL s.owners.n fun k => ownerC (s.owners.el k)))) s.pods.n ⟨0, ?_⟩ ?_
  · simp -dsimp -implicitDefEqProofs [go_sem, redir, snapRows, upd, openM, nodeRow, podRow, ownerRow]
    exact encL_same fun k _ => by simp [onStep]
  rintro m ⟨N, fr, mem, nx, lt⟩ ⟨j, hN, hlt, hj, rfl, hnx, f2, f4, f5, f7, f25, f26, f27, m1, mB, w1, w2, w3⟩
  dsimp only at *
  subst hN hlt
  rcases Nat.lt_or_ge j s.pods.n with hlt | hge
  · have cur : onStep s on j j = s.pods.el j := by unfold onStep; rw [if_neg (by omega)]
    have fin : ∀ nm, nm = nameOn s on j → ((encL s.pods.n fun k => podC (onStep s on j k)).set j (podC { s.pods.el j with on := nm })) = encL s.pods.n fun k => podC (onStep s on (j + 1) k) := fun nm hnm => by
      rw [encPod_set _ _ _ _ hlt]
      refine encL_same fun k _ => congrArg podC ?_
      unfold onStep
      by_cases c1 : k = j
      · subst c1
        rw [if_pos rfl, if_pos (by omega), hnm]
        rfl
      · rw [if_neg c1]
        by_cases c2 : k < j
        · rw [if_pos c2, if_pos (by omega)]
        · rw [if_neg c2, if_neg (by omega)]
    rcases hon j hlt with e1 | ⟨n, hn, e1, hl⟩
    · have fin1 := fin ByteArray.empty (by unfold nameOn; rw [if_pos e1])
      simp only [podC_eq { s.pods.el j with on := ByteArray.empty }] at fin1
      simp -dsimp -implicitDefEqProofs [go_sem, f2, f4, f5, f7, f25, f26, f27, m1, mB, w1, w2, w3, hlt, encL_get? _ hlt, e1, cur, podC_eq (s.pods.el j)]
      exact ⟨_, by omega, j + 1, by omega, rfl, by omega, w64 (by omega) (by omega), fin1⟩
    · have e2 : ((n : Int) != -1) = true := by simp
      have fin1 := fin (s.nodes.el n).name (by unfold nameOn; rw [if_neg (by omega), e1, Int.toNat_natCast])
      simp only [podC_eq { s.pods.el j with on := (s.nodes.el n).name }] at fin1
      have mid : ∀ c : List FD, ((encL s.pods.n fun k => podC (onStep s on j k)).set j c)[j]? = some c := fun c => by
        rw [List.getElem?_set_self (by rw [encL_len]; exact hlt)]
      simp -dsimp -implicitDefEqProofs [go_sem, f2, f4, f5, f7, f25, f26, f27, m1, mB, w1, w2, w3, hlt, encL_get? _ hlt, e1, e2, cur, podC_eq (s.pods.el j)]
      generalize hb3 : nx + 1 + 5 + 6 + 2 = b3
      have n4 : 18 < b3 ∧ 24 < b3 ∧ 26 < b3 := by omega
      refine runCL_draw [[], [0], [], [], [3], [], [4, 3, 5], [6, 4, 3, 5], [7, 6, 4, 3, 5], [1, 0, 2, 3, 4, 5, 6, 7, 8], [9, 1, 0, 2, 3, 4, 5, 6, 7, 8], [10, 9, 1, 0, 2, 3, 4, 5, 6, 7, 8]] rfl (by kernel_rfl) (by kernel_rfl) ?_
      simp -dsimp -implicitDefEqProofs [go_sem, Tv, Cw, silentAt, silentOp, f2, f4, f5, f7, f25, f26, f27, m1, mB, w1, w2, w3, n4, hlt, mid, e1, hn, encL_get? _ hn, nodeC_eq (s.nodes.el n)]
      refine exWL_mk (andL_mk ⟨Cw_lt (by omega) (by kernel_rfl), Tv_lt (by omega) (by kernel_rfl)⟩ ?_)
      simp -dsimp -implicitDefEqProofs [go_sem, Tv, Cw, silentAt, silentOp, f2, f4, f5, f7, f25, f26, f27, m1, mB, w1, w2, w3, n4, hlt, mid, e1, hn, encL_get? _ hn, nodeC_eq (s.nodes.el n)]
      exact ⟨_, by omega, j + 1, by omega, rfl, by omega, w64 (by omega) (by omega), fin1⟩
  · obtain rfl : j = s.pods.n := by omega
    simp -dsimp -implicitDefEqProofs [go_sem, f2, f4, f5, f7, f25, f26, f27, m1, mB, w1, w2, w3]
    unfold snapF snapC nodesF podsF ownersF
    exact congrArg (fun x => FD.agg [FD.sl 10 (encL s.nodes.n fun k => nodeC (s.nodes.el k)), FD.sl 15 x, FD.sl 5 (encL s.owners.n fun k => ownerC (s.owners.el k))]) (encL_same fun k hk => congrArg podC (by unfold onStep; rw [if_pos hk]; rfl))
set_option maxRecDepth 100000 in
theorem snap_F (d : StD) (ok : SnapOk d.s) (inv : DInv d) : Pure Tryz.prog 39 [.ref (stF d)] (snapF (nowS d)) := by
  refine Pure.of_run (lit := true) Tryz.func39 rfl rfl rfl rfl (Nat.le_of_ble_eq_true rfl) (run_of_runL ?_)
  unfold St.enter
  simp -dsimp -implicitDefEqProofs [go_sem]
  refine callW_f (none_F d) ?_
  simp -dsimp -implicitDefEqProofs [go_sem]
  refine runL_draw [[], [0], [1, 0], [2, 1, 0], [], [4], [5, 4], [6, 5, 4], [3, 2, 1, 0, 7, 6, 5, 4], [8, 3, 2, 1, 0, 7, 6, 5, 4], [9, 8, 3, 2, 1, 0, 7, 6, 5, 4], [9, 8, 3, 2, 1, 0, 7, 6, 5, 4], [], [12, 10, 9, 8, 3, 2, 1, 0, 7, 6, 5, 4], [11, 9, 8, 3, 2, 1, 0, 7, 6, 5, 4, 13, 12, 10]] (by kernel_rfl) (by kernel_rfl) ?_
  simp -dsimp -implicitDefEqProofs [go_sem, Tv, Cw, silentAt, silentOp, stF_len, stF_3, stF_t3]
  refine callW_f (fs := [snapF d.s, intsF ⟨d.s.pods.n, d.on⟩]) (snapWith_pure d.s ok d.on inv.onOk) ?_
  simp -dsimp -implicitDefEqProofs [go_sem, Tv, Cw, silentAt, silentOp, snapF, snapC]
  repeat (refine exWL_mk (andL_mk ⟨by kernel_rfl, by kernel_rfl⟩ ?_); simp -dsimp -implicitDefEqProofs [go_sem, Tv, Cw, silentAt, silentOp])
  rfl
end Go.Proofs.YthpmgnbehahkfaaGreat
end
section
namespace Go.Proofs.YthpmgnbehahkfaaGreat
open Go.RowKit Go.Dk Go.Dn

section
variable {s : SnapD} {d : StD}
theorem alike_used (inv : DInv d) (k : Int) : fiveF (usedN (nowS d) d.on k) = fiveF (usedR d k) := by
  have hn8 := inv.ok.s.n8
  by_cases h : 0 ≤ k ∧ k < (d.s.nodes.n : Int)
  · obtain ⟨n, rfl⟩ : ∃ n : Nat, k = n := ⟨k.toNat, by omega⟩
    have hV : ∀ i, i < 5 → usedN (nowS d) d.on n i = d.used n i := fun i hi => by
      unfold usedN
      rw [if_pos (show (0 : Int) ≤ n ∧ (n : Int) < (nowS d).nodes.n from h), inv.ok.used n (by omega) i hi]
      rfl
    have hR : usedR d n = d.used n := by unfold usedR nodeE; rw [if_pos (by rw [if_pos h]), Int.toNat_natCast]
    unfold fiveF
    rw [hR, hV 0 (by omega), hV 1 (by omega), hV 2 (by omega), hV 3 (by omega), hV 4 (by omega)]
  · have e1 : usedN (nowS d) d.on k = fun _ => 0 := by
      unfold usedN
      rw [if_neg (show ¬ ((0 : Int) ≤ k ∧ k < (nowS d).nodes.n) from h)]
    have e2 : usedR d k = fun _ => 0 := by unfold usedR nodeE; rw [if_neg (by rw [if_neg h]; decide)]
    rw [e1, e2]
theorem alike_cnt (like : LikeS s d.s) (he : checkE s = 0) (inv : DInv d) (hown : d.own = ownV s) (k : Int) : placN (nowS d) d.on k = cntR d k := by
  have ho8 := inv.ok.s.o8
  have hr := (riseN_of he).2
  obtain ⟨l1, l2, l3, l4⟩ := like
  by_cases h : 0 ≤ k ∧ k < (d.s.owners.n : Int)
  · obtain ⟨o, rfl⟩ : ∃ o : Nat, k = o := ⟨k.toNat, by omega⟩
    have ho : o < d.s.owners.n := by omega
    unfold placN cntR
    rw [if_pos (show (0 : Int) ≤ o ∧ (o : Int) < (nowS d).owners.n from h), if_pos h, Int.toNat_natCast, inv.ok.cnt o (by omega)]
    refine sumF_congr fun p hp => ?_
    have h1 : ((nowS d).pods.el p).owner = (s.pods.el p).owner := by
      show (d.s.pods.el p).owner = _
      rw [l2]
    have h2 : ((nowS d).owners.el o).name = (s.owners.el o).name := by
      show (d.s.owners.el o).name = _
      rw [l3]
    have h3 := nameIdx_iff (f := fun k => (s.owners.el k).name) (n := s.owners.n) (o := o) hr (by rw [← l3]; exact ho) (s.pods.el p).owner
    have h4 : d.own p = nameIdx (fun k => (s.owners.el k).name) s.owners.n (s.pods.el p).owner := by rw [hown]; rfl
    rw [← h4] at h3
    have e : hasB (nowS d) o p = true ↔ d.own p = o := by
      unfold hasB
      rw [h1, h2]
      exact h3.symm
    by_cases c : d.own p = o
    · have c1 := e.2 c
      simp [c1, c]
    · have c1 : ¬ hasB (nowS d) o p = true := fun x => c (e.1 x)
      rw [if_neg (fun x => c1 x.1), if_neg (fun x => c x.1)]
  · unfold placN cntR
    rw [if_neg (show ¬ ((0 : Int) ≤ k ∧ k < (nowS d).owners.n) from h), if_neg h]
end
end Go.Proofs.YthpmgnbehahkfaaGreat
end
section
namespace Go.Proofs.YthpmgnbehahkfaaGreat
open Go.RowKit Go.Dk Go.Dn

set_option maxRecDepth 100000 in
set_option maxHeartbeats 2000000 in
theorem same_F {s : SnapD} {d : StD} (like : LikeS s d.s) (he : checkE s = 0) (ok : SnapOk d.s) (inv : DInv d) (hown : d.own = ownV s) : Pure Tryz.prog 97 [.ref (stF d), .ref (refF d)] (B true) := by
  have hp := ok.p1
  have hp24 := inv.ok.s.p24
  have oknow : SnapOk (nowS d) := onS_ok inv.onOk ok
  have hc : checkE (nowS d) = 0 := now_check like he inv.onOk
  refine Pure.of_runC (lit := true) (fun _ => []) Tryz.func97 rfl rfl rfl rfl (Nat.le_of_ble_eq_true rfl) (runC_of_runCL ?_)
  unfold St.enter
  simp -dsimp -implicitDefEqProofs [go_sem]
  refine callW_row (fs := [.ref (stF d)]) (placement_F d hp) ?_
  simp -dsimp -implicitDefEqProofs [go_sem]
  refine callW_row (fs := [.ref (refF d)]) (refPlacement_F d hp) ?_
  simp -dsimp -implicitDefEqProofs [go_sem]
  refine callW_z (fs := [.sl 1 (encL d.s.pods.n fun k => [I (d.on k)]), .sl 1 (encL d.s.pods.n fun k => [I (d.on k)])]) (by simp -dsimp -implicitDefEqProofs [omap, frz, upd]) (eqInts_row _ _ hp) rfl ?_
  simp -dsimp -implicitDefEqProofs [go_sem]
  refine callW_f (fs := [.ref (stF d)]) (snap_F d ok inv) ?_
  simp -dsimp -implicitDefEqProofs [go_sem]
  refine callW_f (fs := [.ref (refF d)]) (refSnap_F d ok inv) ?_
  simp -dsimp -implicitDefEqProofs [go_sem]
  refine callW_f (fs := [snapF (nowS d), snapF (nowS d)]) (same_pure (nowS d) oknow) ?_
  simp -dsimp -implicitDefEqProofs [go_sem]
  refine runCL_loop [] (fun m st => ∃ (j : Nat) (f : Nat → Int), st.n = 66 ∧ st.lit = true ∧ j ≤ d.s.pods.n ∧ m = d.s.pods.n - j ∧ st.fr 0 = .f (.ref (stF d)) ∧ st.fr 1 = .f (.ref (refF d)) ∧ st.fr 5 = .own 2 0 ∧ st.fr 6 = .f (I j) ∧ st.mem 2 = some (.row 3 0 1 (encL d.s.pods.n fun k => [I (f k)]))) d.s.pods.n ⟨0, d.on, ?_⟩ ?_
  · simp -dsimp -implicitDefEqProofs [go_sem, upd]
  rintro m ⟨N, fr, mem, nx, lt⟩ ⟨j, f, hN, hlt, hj, rfl, f0, f1, f5, f6, m2⟩
  dsimp only at *
  subst hN hlt
  rcases Nat.lt_or_ge j d.s.pods.n with hlt | hge
  · simp -dsimp -implicitDefEqProofs [go_sem, f0, f1, f5, f6, m2, hlt, encI_set _ _ _ _ hlt]
    exact ⟨_, by omega, j + 1, by omega, rfl, w64 (by omega) (by omega), _, rfl⟩
  obtain rfl : j = d.s.pods.n := by omega
  simp -dsimp -implicitDefEqProofs [go_sem, f0, f1, f5, f6, m2]
  refine runCL_loop [] (fun m st => ∃ j : Nat, st.n = 66 ∧ st.lit = true ∧ j ≤ 27 ∧ m = 27 - j ∧ st.fr 0 = .f (.ref (stF d)) ∧ st.fr 1 = .f (.ref (refF d)) ∧ st.fr 7 = .f (I ((j : Int) - 1))) 27 ⟨0, ?_⟩ ?_
  · simp -dsimp -implicitDefEqProofs [go_sem, f0, f1]
  clear f0 f1 f5 f6 m2
  rintro m ⟨N, fr, mem, nx, lt⟩ ⟨j, hN, hlt, hj, rfl, f0, f1, f7⟩
  dsimp only at *
  subst hN hlt
  rcases Nat.lt_or_ge j 27 with hlt | hge
  · have h26 : (j : Int) - 1 < 26 := by omega
    simp -dsimp -implicitDefEqProofs [go_sem, f0, f1, f7, h26]
    refine callW_f (fs := [.ref (stF d), I ((j : Int) - 1)]) (isGone_F d _) ?_
    simp -dsimp -implicitDefEqProofs [go_sem, f0, f1, f7]
    refine callW_f (fs := [.ref (refF d), I ((j : Int) - 1)]) (refIsGone_F d _) ?_
    simp -dsimp -implicitDefEqProofs [go_sem, f0, f1, f7]
    refine callW_f (fs := [.ref (stF d), I ((j : Int) - 1)]) (used_F d inv.ok _) ?_
    simp -dsimp -implicitDefEqProofs [go_sem, f0, f1, f7]
    refine callW_f (fs := [.ref (refF d), I ((j : Int) - 1)]) (alike_used inv _ ▸ refUsed_F d ok inv hc ((j : Int) - 1)) ?_
    simp -dsimp -implicitDefEqProofs [go_sem, f0, f1, f7, fiveF, eqC]
    refine callW_f (fs := [.ref (stF d), I ((j : Int) - 1)]) (count_F d inv.ok _) ?_
    simp -dsimp -implicitDefEqProofs [go_sem, f0, f1, f7]
    refine callW_f (fs := [.ref (refF d), I ((j : Int) - 1)]) (alike_cnt like he inv hown _ ▸ refCount_F d ok inv hc ((j : Int) - 1)) ?_
    simp -dsimp -implicitDefEqProofs [go_sem, f0, f1, f7]
    exact ⟨_, by omega, j + 1, by omega, rfl, by rw [show IntKind.i64.wrap (j : Int) = j from w64 (by omega) (by omega)]; omega⟩
  obtain rfl : j = 27 := by omega
  simp -dsimp -implicitDefEqProofs [go_sem, f0, f1, f7]
  refine callW_row (fs := [.ref (stF d)]) (placement_F d hp) ?_
  simp -dsimp -implicitDefEqProofs [go_sem, f0, f1, f7]
  refine callW_row (fs := [.ref (refF d)]) (refPlacement_F d hp) ?_
  simp -dsimp -implicitDefEqProofs [go_sem, f0, f1, f7]
  refine callW_z (fs := [.sl 1 (encL d.s.pods.n fun k => [I (d.on k)]), .sl 1 (encL d.s.pods.n fun k => [I (d.on k)])]) (by simp -dsimp -implicitDefEqProofs [omap, frz, upd]) (eqInts_row _ _ hp) rfl ?_
  simp -dsimp -implicitDefEqProofs [go_sem]
end Go.Proofs.YthpmgnbehahkfaaGreat
end
