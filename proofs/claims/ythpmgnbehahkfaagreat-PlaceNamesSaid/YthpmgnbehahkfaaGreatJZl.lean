/- Names of a cluster; where a name stands (printed by genl.py). -/
import Derived.Test.YthpmgnbehahkfaaGreatJZk
import Derived.Handy
set_option linter.unusedSimpArgs false
set_option linter.unusedVariables false
namespace Go.Proofs.YthpmgnbehahkfaaGreat
open Go.RowKit Go.Dk

theorem SnapAt.args {w : World} {n p o : Value} {s : SnapD} {lv tv : Nat → Value} {pv : Nat → PodV} (h : SnapAt w n p o s lv tv pv) :
    ∃ na nc pa pc oa oc, n = .slice na s.nodes.n nc ∧ p = .slice pa s.pods.n pc ∧ o = .slice oa s.owners.n oc := by
  obtain ⟨⟨_, na, nc, h1, _⟩, ⟨_, pa, pc, h2, _⟩, ⟨_, oa, oc, h3, _⟩⟩ := h
  exact ⟨na, nc, pa, pc, oa, oc, h1, h2, h3⟩
/-- a nodes' slice, as it stands at its place -/
theorem NodesAt.sl {w : World} {a : Option Addr} {n c : Nat} {l : Lst NodeD} {lv tv : Nat → Value} (h : NodesAt w (.slice a n c) l lv tv) : n = l.n ∧ Sl w a l.n c 10 (fun k => (l.el k).cells (lv k) (tv k)) := by
  obtain ⟨_, a', c', h1, h2, _⟩ := h
  cases h1
  exact ⟨rfl, h2⟩
theorem PodsAt.sl {w : World} {a : Option Addr} {n c : Nat} {l : Lst PodD} {pv : Nat → PodV} (h : PodsAt w (.slice a n c) l pv) : n = l.n ∧ Sl w a l.n c 15 (fun k => (l.el k).cells (pv k)) := by
  obtain ⟨_, a', c', h1, h2, _⟩ := h
  cases h1
  exact ⟨rfl, h2⟩
theorem OwnersAt.sl {w : World} {a : Option Addr} {n c : Nat} {l : Lst OwnerD} (h : OwnersAt w (.slice a n c) l) : n = l.n ∧ Sl w a l.n c 5 (fun k => (l.el k).cells) := by
  obtain ⟨_, a', c', h1, h2, _⟩ := h
  cases h1
  exact ⟨rfl, h2⟩

theorem nodeName_any {w : World} {x : NodeD} {lv tv : Value} (h : NodeAt w x lv tv) : Gives 186 #[.agg (x.cells lv tv).toArray] w (.string x.name) := by
  obtain ⟨-, ⟨_, _, rfl, -⟩, ⟨_, _, rfl, -⟩⟩ := h
  unfold Gives NodeD.cells
  go_enter Tryz.func186, Tryz.ntmps186
  go_wp2
  go_ret
  exact ⟨rfl, (Chg.refl No w).alloc _⟩
theorem enters_nodeName_any : Enters Tryz.prog 186 := enters_of Tryz.func186 (by kernel_rfl) rfl

theorem podName_any {w : World} {x : PodD} {v : PodV} (h : PodAt w x v) : Gives 188 #[.agg (x.cells v).toArray] w (.string x.name) := by
  obtain ⟨l, wv, b, x1, y1⟩ := v
  obtain ⟨-, ⟨_, _, h1, -⟩, ⟨_, _, h2, -⟩, ⟨_, _, h3, -⟩, ⟨_, _, h4, -⟩, ⟨_, _, h5, -⟩⟩ := h
  dsimp only at h1 h2 h3 h4 h5
  subst h1 h2 h3 h4 h5
  unfold Gives PodD.cells
  go_enter Tryz.func188, Tryz.ntmps188
  go_wp2
  go_ret
  exact ⟨rfl, (Chg.refl No w).alloc _⟩
theorem enters_podName_any : Enters Tryz.prog 188 := enters_of Tryz.func188 (by kernel_rfl) rfl

theorem ownerName_any {w : World} {x : OwnerD} (h : OwnerAt x) : Gives 190 #[.agg (x.cells).toArray] w (.string x.name) := by
  unfold Gives OwnerD.cells
  go_enter Tryz.func190, Tryz.ntmps190
  go_wp2
  go_ret
  exact ⟨rfl, (Chg.refl No w).alloc _⟩
theorem enters_ownerName_any : Enters Tryz.prog 190 := enters_of Tryz.func190 (by kernel_rfl) rfl

theorem nodeCap_any {w : World} {x : NodeD} {lv tv : Value} (h : NodeAt w x lv tv) : Gives 138 #[.agg (x.cells lv tv).toArray] w (.agg #[.int .i64 (x.cap 0), .int .i64 (x.cap 1), .int .i64 (x.cap 2), .int .i64 (x.cap 3), .int .i64 (x.cap 4)]) := by
  obtain ⟨-, ⟨_, _, rfl, -⟩, ⟨_, _, rfl, -⟩⟩ := h
  unfold Gives NodeD.cells
  go_enter Tryz.func138, Tryz.ntmps138
  go_wp2
  go_returns
  exact ⟨rfl, ((Chg.refl No w).alloc _).alloc _⟩
theorem enters_nodeCap_any : Enters Tryz.prog 138 := enters_of Tryz.func138 (by kernel_rfl) rfl

theorem podReq_any {w : World} {x : PodD} {v : PodV} (h : PodAt w x v) : Gives 140 #[.agg (x.cells v).toArray] w (.agg #[.int .i64 (x.req 0), .int .i64 (x.req 1), .int .i64 (x.req 2), .int .i64 (x.req 3), .int .i64 (x.req 4)]) := by
  obtain ⟨l, wv, b, x1, y1⟩ := v
  obtain ⟨-, ⟨_, _, h1, -⟩, ⟨_, _, h2, -⟩, ⟨_, _, h3, -⟩, ⟨_, _, h4, -⟩, ⟨_, _, h5, -⟩⟩ := h
  dsimp only at h1 h2 h3 h4 h5
  subst h1 h2 h3 h4 h5
  unfold Gives PodD.cells
  go_enter Tryz.func140, Tryz.ntmps140
  go_wp2
  go_returns
  exact ⟨rfl, ((Chg.refl No w).alloc _).alloc _⟩
theorem enters_podReq_any : Enters Tryz.prog 140 := enters_of Tryz.func140 (by kernel_rfl) rfl

set_option maxHeartbeats 1000000 in
theorem nodes_any {w : World} {n p o : Value} {s : SnapD} {lv tv : Nat → Value} {pv : Nat → PodV} (h : SnapAt w n p o s lv tv pv) :
    Calls Tryz.prog 125 #[.agg #[n, p, o]] w fun e w' => ∃ a' c', e = .returned (.slice a' s.nodes.n c') ∧ Sl w' a' s.nodes.n c' 1 (fun k => [.string (s.nodes.el k).name]) ∧ Chg No w w' := by
  have p1 := fun W (hc : Chg No w W) => eachNodeStr_any 186 #[] enters_nodeName_any (fun k => (s.nodes.el k).name) _ s.nodes lv tv W (h.no hc).nodes (fun k hk w' hc' => by
    obtain ⟨_, _, _, _, _, hat⟩ := ((h.no hc).no hc').nodes
    simpa using nodeName_any (hat k hk))
  obtain ⟨na, nc, pa, pc, oa, oc, rfl, rfl, rfl⟩ := h.args
  clear h
  go_enter Tryz.func125, Tryz.ntmps125
  go_wp2_with (go_at_call 185; refine (p1 _ ((Chg.refl No w).alloc _)).mono ?_; rintro e w' ⟨a', c', rfl, hs, hc, -⟩)
  go_ret
  exact ⟨a', c', rfl, hs, ((Chg.refl No w).alloc _).trans hc⟩

set_option maxHeartbeats 1000000 in
theorem pods_any {w : World} {n p o : Value} {s : SnapD} {lv tv : Nat → Value} {pv : Nat → PodV} (h : SnapAt w n p o s lv tv pv) :
    Calls Tryz.prog 126 #[.agg #[n, p, o]] w fun e w' => ∃ a' c', e = .returned (.slice a' s.pods.n c') ∧ Sl w' a' s.pods.n c' 1 (fun k => [.string (s.pods.el k).name]) ∧ Chg No w w' := by
  have p1 := fun W (hc : Chg No w W) => eachPodStr_any 188 #[] enters_podName_any (fun k => (s.pods.el k).name) _ s.pods pv W (h.no hc).pods (fun k hk w' hc' => by
    obtain ⟨_, _, _, _, _, hat⟩ := ((h.no hc).no hc').pods
    simpa using podName_any (hat k hk))
  obtain ⟨na, nc, pa, pc, oa, oc, rfl, rfl, rfl⟩ := h.args
  clear h
  go_enter Tryz.func126, Tryz.ntmps126
  go_wp2_with (go_at_call 187; refine (p1 _ ((Chg.refl No w).alloc _)).mono ?_; rintro e w' ⟨a', c', rfl, hs, hc, -⟩)
  go_ret
  exact ⟨a', c', rfl, hs, ((Chg.refl No w).alloc _).trans hc⟩

set_option maxHeartbeats 1000000 in
theorem owners_any {w : World} {n p o : Value} {s : SnapD} {lv tv : Nat → Value} {pv : Nat → PodV} (h : SnapAt w n p o s lv tv pv) :
    Calls Tryz.prog 127 #[.agg #[n, p, o]] w fun e w' => ∃ a' c', e = .returned (.slice a' s.owners.n c') ∧ Sl w' a' s.owners.n c' 1 (fun k => [.string (s.owners.el k).name]) ∧ Chg No w w' := by
  have p1 := fun W (hc : Chg No w W) => eachOwnerStr_any 190 #[] enters_ownerName_any (fun k => (s.owners.el k).name) _ s.owners W (h.no hc).owners (fun k hk w' hc' => by
    obtain ⟨_, _, _, _, _, hat⟩ := ((h.no hc).no hc').owners
    simpa using ownerName_any (hat k hk))
  obtain ⟨na, nc, pa, pc, oa, oc, rfl, rfl, rfl⟩ := h.args
  clear h
  go_enter Tryz.func127, Tryz.ntmps127
  go_wp2_with (go_at_call 189; refine (p1 _ ((Chg.refl No w).alloc _)).mono ?_; rintro e w' ⟨a', c', rfl, hs, hc, -⟩)
  go_ret
  exact ⟨a', c', rfl, hs, ((Chg.refl No w).alloc _).trans hc⟩

/-- where a name stands -/
def nameIdx (f : Nat → ByteArray) (n : Nat) (nm : ByteArray) : Int := idxB (fun k => (f k).toList == nm.toList) n

def IdxSRel (w : World) (f : Nat → ByteArray) (n : Nat) (nm : ByteArray) (i : Value) (wr : World) : Prop :=
  ∃ k : Nat, i = .int .i64 k ∧ k ≤ n ∧ (∀ j, j < k → ((f j).toList == nm.toList) = false) ∧ Chg No w wr
theorem index_any (f : Nat → ByteArray) (nm : ByteArray) (a : Option Addr) (n c : Nat) (w : World) (hx : Sl w a n c 1 (fun k => [.string (f k)])) :
    Gives 111 #[.slice a n c, .string nm] w (.int .i64 (nameIdx f n nm)) := by
  unfold Gives nameIdx
  have hn := hx.1
  have hc' := hx.2.1
  go_enter Tryz.func111, Tryz.ntmps111
  go_wp2_with fail
  go_loopw [8] (fun i wr => IdxSRel w f n nm i wr) (fun i _ => n - (intOf i).toNat)
  case atStart => exact ⟨0, rfl, by omega, (fun j hj => by omega), Chg.refl _ _⟩
  case round =>
    obtain ⟨k, rfl, hk, hall, hc⟩ := hrel
    by_cases hlt : k < n
    · obtain ⟨hl, b, o, rfl, hcell⟩ := (hx.no hc).2.2.2 k hlt
      have q0 := hcell 0 (.string (f k)) rfl
      rw [Nat.add_zero, Nat.mul_one] at q0
      clear hcell hl hx
      have hlt' : (k : Int) < (n : Int) := by omega
      cases hv : ((f k).toList == nm.toList) with
      | true =>
        have hv' : (nm.toList == (f k).toList) = true := by rw [beq_iff_eq] at hv ⊢; exact hv.symm
        have hv2 := eq_of_beq hv'
        have HV := Go.Lib.hid hv; clear hv
        go_wp2_with fail
        go_ret
        rw [idxB_hit hlt HV.out hall]
        exact ⟨rfl, hc⟩
      | false =>
        have hv' : (nm.toList == (f k).toList) = false := by rw [beq_eq_false_iff_ne] at hv ⊢; exact hv.symm
        have HV := Go.Lib.hid hv; clear hv
        go_wp2_with fail
        go_roundw
        case rel => exact ⟨k + 1, by go_num, by omega, (fun j hj => by rcases Nat.lt_or_eq_of_le (Nat.le_of_lt_succ hj) with h | h; exact hall j h; subst h; exact HV.out), hc⟩
        case measure => simp [intOf]; omega
    · obtain rfl : k = n := by omega
      have HV := Go.Lib.hid (idxB_none hall)
      clear hall
      go_wp2_with fail
      go_ret
      rw [HV.out]; exact ⟨rfl, hc⟩

theorem snapNode_any {w : World} {n p o : Value} {s : SnapD} {lv tv : Nat → Value} {pv : Nat → PodV} (h : SnapAt w n p o s lv tv pv) (nm : ByteArray) :
    Gives 149 #[.agg #[n, p, o], .string nm] w (.int .i64 (nameIdx (fun k => (s.nodes.el k).name) s.nodes.n nm)) := by
  have p1 := fun W (hc : Chg No w W) => nodes_any (h.no hc)
  obtain ⟨na, nc, pa, pc, oa, oc, rfl, rfl, rfl⟩ := h.args
  clear h
  unfold Gives
  go_enter Tryz.func149, Tryz.ntmps149
  go_wp2_with (first
    | (go_at_call 125; refine (p1 _ ((Chg.refl No w).alloc _)).mono ?_; rintro e w1 ⟨a', c', rfl, hs, hc1⟩)
    | (go_at_call 111; refine (index_any _ nm _ _ _ _ hs).mono ?_; rintro e w2 ⟨rfl, hc2⟩))
  go_ret
  exact ⟨rfl, (((Chg.refl No w).alloc _).trans hc1).trans hc2⟩

theorem refNode_any {w : World} {n p o : Value} {s : SnapD} {lv tv : Nat → Value} {pv : Nat → PodV} (h : SnapAt w n p o s lv tv pv) (nm : ByteArray) :
    Gives 63 #[.agg #[n, p, o], .string nm] w (.int .i64 (nameIdx (fun k => (s.nodes.el k).name) s.nodes.n nm)) := by
  have hN := h.nodes
  have hn := h.nodes.1
  obtain ⟨na, nc, pa, pc, oa, oc, rfl, rfl, rfl⟩ := h.args
  clear h
  obtain ⟨-, hx⟩ := hN.sl
  clear hN
  unfold Gives nameIdx
  have hA := heap_alloc_new w (.cells #[.slice na s.nodes.n nc, .slice pa s.pods.n pc, .slice oa s.owners.n oc] 26)
  have hcw := (Chg.refl No w).alloc (.cells #[.slice na s.nodes.n nc, .slice pa s.pods.n pc, .slice oa s.owners.n oc] 26)
  go_enter Tryz.func63, Tryz.ntmps63
  go_wp2_with fail
  generalize w.alloc _ = W at hA hcw ⊢
  have hx := hx.no hcw
  generalize w.heap.size = B at hA ⊢
  have s0 := cell_of_heap (j := 0) hA rfl
  clear hA
  go_loopw [5] (fun i wr => IdxSRel W (fun k => (s.nodes.el k).name) s.nodes.n nm i wr) (fun i _ => s.nodes.n - (intOf i).toNat)
  case atStart => exact ⟨0, rfl, by omega, (fun j hj => by omega), Chg.refl _ _⟩
  case round =>
    obtain ⟨k, rfl, hk, hall, hc⟩ := hrel
    have s0 := hc.cell s0 id
    by_cases hlt : k < s.nodes.n
    · obtain ⟨hl, b, o, rfl, hcell⟩ := (hx.no hc).2.2.2 k hlt
      have q0 := hcell 0 (.string (s.nodes.el k).name) rfl
      rw [Nat.add_zero] at q0
      clear hcell hl hx
      have hlt' : (k : Int) < (s.nodes.n : Int) := by omega
      cases hv : ((s.nodes.el k).name.toList == nm.toList) with
      | true =>
        have hv2 := eq_of_beq hv
        have HV := Go.Lib.hid hv; clear hv
        go_wp2_with fail
        go_ret
        rw [idxB_hit hlt HV.out hall]
        exact ⟨rfl, hcw.trans hc⟩
      | false =>
        have HV := Go.Lib.hid hv
        go_wp2_with fail
        go_roundw
        case rel => exact ⟨k + 1, by go_num, by omega, (fun j hj => by rcases Nat.lt_or_eq_of_le (Nat.le_of_lt_succ hj) with h | h; exact hall j h; subst h; exact HV.out), hc⟩
        case measure => simp [intOf]; omega
    · obtain rfl : k = s.nodes.n := by omega
      have HV := Go.Lib.hid (idxB_none hall)
      clear hall
      go_wp2_with fail
      go_ret
      rw [HV.out]; exact ⟨rfl, hcw.trans hc⟩

theorem snapOwner_any {w : World} {n p o : Value} {s : SnapD} {lv tv : Nat → Value} {pv : Nat → PodV} (h : SnapAt w n p o s lv tv pv) (nm : ByteArray) :
    Gives 94 #[.agg #[n, p, o], .string nm] w (.int .i64 (nameIdx (fun k => (s.owners.el k).name) s.owners.n nm)) := by
  have p1 := fun W (hc : Chg No w W) => owners_any (h.no hc)
  obtain ⟨na, nc, pa, pc, oa, oc, rfl, rfl, rfl⟩ := h.args
  clear h
  unfold Gives
  go_enter Tryz.func94, Tryz.ntmps94
  go_wp2_with (first
    | (go_at_call 127; refine (p1 _ ((Chg.refl No w).alloc _)).mono ?_; rintro e w1 ⟨a', c', rfl, hs, hc1⟩)
    | (go_at_call 111; refine (index_any _ nm _ _ _ _ hs).mono ?_; rintro e w2 ⟨rfl, hc2⟩))
  go_ret
  exact ⟨rfl, (((Chg.refl No w).alloc _).trans hc1).trans hc2⟩

theorem refOwner_any {w : World} {n p o : Value} {s : SnapD} {lv tv : Nat → Value} {pv : Nat → PodV} (h : SnapAt w n p o s lv tv pv) (nm : ByteArray) :
    Gives 234 #[.agg #[n, p, o], .string nm] w (.int .i64 (nameIdx (fun k => (s.owners.el k).name) s.owners.n nm)) := by
  have hN := h.owners
  have hn := h.owners.1
  obtain ⟨na, nc, pa, pc, oa, oc, rfl, rfl, rfl⟩ := h.args
  clear h
  obtain ⟨-, hx⟩ := hN.sl
  clear hN
  unfold Gives nameIdx
  have hA := heap_alloc_new w (.cells #[.slice na s.nodes.n nc, .slice pa s.pods.n pc, .slice oa s.owners.n oc] 26)
  have hcw := (Chg.refl No w).alloc (.cells #[.slice na s.nodes.n nc, .slice pa s.pods.n pc, .slice oa s.owners.n oc] 26)
  go_enter Tryz.func234, Tryz.ntmps234
  go_wp2_with fail
  generalize w.alloc _ = W at hA hcw ⊢
  have hx := hx.no hcw
  generalize w.heap.size = B at hA ⊢
  have s0 := cell_of_heap (j := 2) hA rfl
  clear hA
  go_loopw [5] (fun i wr => IdxSRel W (fun k => (s.owners.el k).name) s.owners.n nm i wr) (fun i _ => s.owners.n - (intOf i).toNat)
  case atStart => exact ⟨0, rfl, by omega, (fun j hj => by omega), Chg.refl _ _⟩
  case round =>
    obtain ⟨k, rfl, hk, hall, hc⟩ := hrel
    have s0 := hc.cell s0 id
    by_cases hlt : k < s.owners.n
    · obtain ⟨hl, b, o, rfl, hcell⟩ := (hx.no hc).2.2.2 k hlt
      have q0 := hcell 0 (.string (s.owners.el k).name) rfl
      rw [Nat.add_zero] at q0
      clear hcell hl hx
      have hlt' : (k : Int) < (s.owners.n : Int) := by omega
      cases hv : ((s.owners.el k).name.toList == nm.toList) with
      | true =>
        have hv2 := eq_of_beq hv
        have HV := Go.Lib.hid hv; clear hv
        go_wp2_with fail
        go_ret
        rw [idxB_hit hlt HV.out hall]
        exact ⟨rfl, hcw.trans hc⟩
      | false =>
        have HV := Go.Lib.hid hv
        go_wp2_with fail
        go_roundw
        case rel => exact ⟨k + 1, by go_num, by omega, (fun j hj => by rcases Nat.lt_or_eq_of_le (Nat.le_of_lt_succ hj) with h | h; exact hall j h; subst h; exact HV.out), hc⟩
        case measure => simp [intOf]; omega
    · obtain rfl : k = s.owners.n := by omega
      have HV := Go.Lib.hid (idxB_none hall)
      clear hall
      go_wp2_with fail
      go_ret
      rw [HV.out]; exact ⟨rfl, hcw.trans hc⟩

end Go.Proofs.YthpmgnbehahkfaaGreat
