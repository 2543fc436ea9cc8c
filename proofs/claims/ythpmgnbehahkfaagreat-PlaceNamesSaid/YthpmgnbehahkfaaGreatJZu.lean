/- drayageref05.pod. -/
import Derived.Test.YthpmgnbehahkfaaGreatJZp
import Derived.Test.YthpmgnbehahkfaaGreatJQc
set_option linter.unusedSimpArgs false
set_option linter.unusedVariables false
namespace Go.Proofs.YthpmgnbehahkfaaGreat
open Go.RowKit Go.Dk

def nodeIdx (s : SnapD) (nm : ByteArray) : Int := nameIdx (fun k => (s.nodes.el k).name) s.nodes.n nm
def ownerIdx (s : SnapD) (nm : ByteArray) : Int := nameIdx (fun k => (s.owners.el k).name) s.owners.n nm
def ownOk (s : SnapD) (p : PodD) : Bool := p.owner.toList.isEmpty || decide (0 ≤ ownerIdx s p.owner)
def onOk (s : SnapD) (p : PodD) : Bool := p.on.toList.isEmpty || (decide (0 ≤ nodeIdx s p.on) && !(s.nodes.el (nodeIdx s p.on).toNat).lost)
def restB (p : PodD) : Bool :=
  decide (vecE (p.req 0) (p.req 1) (p.req 2) (p.req 3) (p.req 4) = 0) && decide (labsE false p.labels = 0) && decide (termsE p.where_ = 0) && decide (labsE true p.bears = 0) && nearB p.wTopo p.wTerms && nearB p.aTopo p.aTerms
def podB (s : SnapD) (p : PodD) : Bool := ownOk s p && onOk s p && restB p

theorem nameIdx_cases (f : Nat → ByteArray) (n : Nat) (nm : ByteArray) : nameIdx f n nm = -1 ∨ ∃ k : Nat, k < n ∧ nameIdx f n nm = k := by
  unfold nameIdx idxB
  split
  · rename_i k hk
    have := List.mem_of_find?_eq_some hk
    simp at this
    exact .inr ⟨k, this, rfl⟩
  · exact .inl rfl
/-- the ways of a pod's node -/
inductive OnWay (s : SnapD) (p : PodD) : Prop
  | none (he : p.on.toList.isEmpty = true) (hb : onOk s p = true)
  | odd (he : p.on.toList.isEmpty = false) (hi : nodeIdx s p.on = -1) (hb : onOk s p = false)
  | at (he : p.on.toList.isEmpty = false) (k : Nat) (hk : k < s.nodes.n) (hi : nodeIdx s p.on = k) (l : Bool) (hl : (s.nodes.el k).lost = l) (hb : onOk s p = !l)
theorem onWay (s : SnapD) (p : PodD) : OnWay s p := by
  cases he : p.on.toList.isEmpty with
  | true => exact .none he (by simp [onOk, he])
  | false =>
    rcases nameIdx_cases (fun k => (s.nodes.el k).name) s.nodes.n p.on with h | ⟨k, hk, h⟩
    · exact .odd he h (by unfold onOk; rw [he, show nodeIdx s p.on = -1 from h]; rfl)
    · exact .at he k hk h _ rfl (by unfold onOk; rw [he, show nodeIdx s p.on = k from h]; simp)

set_option maxRecDepth 100000 in
set_option maxHeartbeats 1000000 in
theorem refPod_any {w : World} {n p o : Value} {s : SnapD} {lv tv : Nat → Value} {pv : Nat → PodV} (h : SnapAt w n p o s lv tv pv) {x : PodD} {v : PodV} (hp : PodAt w x v) :
    Gives 208 #[.agg #[n, p, o], .agg (x.cells v).toArray] w (.bool (podB s x)) := by
  have hcw := ((Chg.refl No w).alloc (.cells #[n, p, o] 26)).alloc (.cells (x.cells v).toArray 81)
  have hA := heap_alloc_old' (heap_alloc_new w (.cells #[n, p, o] 26)) (o' := .cells (x.cells v).toArray 81)
  have hR := heap_alloc_new (w.alloc (.cells #[n, p, o] 26)) (.cells (x.cells v).toArray 81)
  simp only [World.size_alloc] at hR
  obtain ⟨na, nc, pa, pc, oa, oc, rfl, rfl, rfl⟩ := h.args
  obtain ⟨v1, v2, v3, v4, v5⟩ := v
  have hp' := hp
  obtain ⟨-, ⟨_, _, h1, -⟩, ⟨_, _, h2, -⟩, ⟨_, _, h3, -⟩, ⟨_, _, h4, -⟩, ⟨_, _, h5, -⟩⟩ := hp'
  dsimp only at h1 h2 h3 h4 h5
  subst h1 h2 h3 h4 h5
  have hN := (h.no hcw).nodes
  obtain ⟨-, hxn⟩ := hN.sl
  unfold Gives PodD.cells at *
  obtain ⟨r, hr⟩ : ∃ r, r = podB s x := ⟨_, rfl⟩
  rw [← hr]
  cases heo : x.owner.toList.isEmpty
  all_goals
    rcases onWay s x with ⟨he, hb⟩ | ⟨he, hi, hb⟩ | ⟨he, k, hk, hi, l, hl, hb⟩
    · unfold podB ownOk restB at hr
      rw [hb, heo] at hr
      have heo' := toList_of heo
      have he' := toList_of he
      clear hb
      go_enter Tryz.func208, Tryz.ntmps208
      go_wp2_with fail
      generalize (w.alloc _).alloc _ = W at hcw hA hR hxn hN ⊢
      generalize w.heap.size = B at hA hR ⊢
      have q1 : ∀ y : Wd No W, Gives 234 _ y.w (.int .i64 (ownerIdx s x.owner)) := fun y => refOwner_any ((h.no hcw).no y.chg) x.owner
      have q2 : ∀ y : Wd No W, Gives 63 _ y.w (.int .i64 (nodeIdx s x.on)) := fun y => refNode_any ((h.no hcw).no y.chg) x.on
      have q3 := fun y : Wd No W => refVecCheck_any (x.req 0) (x.req 1) (x.req 2) (x.req 3) (x.req 4) y.w
      have q4 := fun y : Wd No W => refLabCheck_any ((hp.2.1.no hcw).no y.chg)
      have q5 := fun y : Wd No W => refTerms_any ((hp.2.2.1.no hcw).no y.chg)
      have q6 := fun y : Wd No W => refLabCheckBears_any ((hp.2.2.2.1.no hcw).no y.chg)
      have q7 := fun y : Wd No W => refNear_any hp.1.2.2.2.1 ((hp.2.2.2.2.1.no hcw).no y.chg)
      have q8 := fun y : Wd No W => refNear_any hp.1.2.2.2.2 ((hp.2.2.2.2.2.no hcw).no y.chg)
      unfold Gives at q1 q2 q3 q4 q5 q6 q7 q8
      unfold vecV at q3
      dsimp only at q4 q5 q6 q7 q8
      generalize ownerIdx s x.owner = io at *
      generalize vecE (x.req 0) (x.req 1) (x.req 2) (x.req 3) (x.req 4) = e0 at *
      generalize labsE false x.labels = e1 at *
      generalize termsE x.where_ = e2 at *
      generalize labsE true x.bears = e3 at *
      generalize nearB x.wTopo x.wTerms = n1 at *
      generalize nearB x.aTopo x.aTerms = n2 at *
      have HR := Go.Lib.hid hr
      clear hr
      have sa0 := fun y : Wd No W => y.chg.cell (cell_of_heap (j := 0) hA rfl) id
      have sa1 := fun y : Wd No W => y.chg.cell (cell_of_heap (j := 1) hA rfl) id
      have sa2 := fun y : Wd No W => y.chg.cell (cell_of_heap (j := 2) hA rfl) id
      have r1 := fun y : Wd No W => y.chg.cell (cell_of_heap (j := 1) hR rfl) id
      have r2 := fun y : Wd No W => y.chg.cell (cell_of_heap (j := 2) hR rfl) id
      have r3 := fun y : Wd No W => y.chg.cell (cell_of_heap (j := 3) hR rfl) id
      have r4 := fun y : Wd No W => y.chg.cell (cell_of_heap (j := 4) hR rfl) id
      have r5 := fun y : Wd No W => y.chg.cell (cell_of_heap (j := 5) hR rfl) id
      have r6 := fun y : Wd No W => y.chg.cell (cell_of_heap (j := 6) hR rfl) id
      have r7 := fun y : Wd No W => y.chg.cell (cell_of_heap (j := 7) hR rfl) id
      have r8 := fun y : Wd No W => y.chg.cell (cell_of_heap (j := 8) hR rfl) id
      have r9 := fun y : Wd No W => y.chg.cell (cell_of_heap (j := 9) hR rfl) id
      have r10 := fun y : Wd No W => y.chg.cell (cell_of_heap (j := 10) hR rfl) id
      have r11 := fun y : Wd No W => y.chg.cell (cell_of_heap (j := 11) hR rfl) id
      have r12 := fun y : Wd No W => y.chg.cell (cell_of_heap (j := 12) hR rfl) id
      have r13 := fun y : Wd No W => y.chg.cell (cell_of_heap (j := 13) hR rfl) id
      have r14 := fun y : Wd No W => y.chg.cell (cell_of_heap (j := 14) hR rfl) id
      clear hA hR hxn hN h hp
      obtain ⟨x0, hx0⟩ := Wd.start No W
      rw [← hx0]
      clear hx0
      go_wp2_with (first | (go_at_call 234; refine (q1 _).mono ?_; rintro e w' ⟨rfl, hc'⟩; obtain ⟨y, rfl⟩ := Wd.next hc'; clear hc') | (go_at_call 63; refine (q2 _).mono ?_; rintro e w' ⟨rfl, hc'⟩; obtain ⟨y, rfl⟩ := Wd.next hc'; clear hc') | (go_at_call 232; refine (q3 _).mono ?_; rintro e w' ⟨rfl, hc'⟩; obtain ⟨y, rfl⟩ := Wd.next hc'; clear hc') | (go_at_call 233; refine (q4 _).mono ?_; rintro e w' ⟨rfl, hc'⟩; obtain ⟨y, rfl⟩ := Wd.next hc'; clear hc') | (go_at_call 235; refine (q5 _).mono ?_; rintro e w' ⟨rfl, hc'⟩; obtain ⟨y, rfl⟩ := Wd.next hc'; clear hc') | (go_at_call 236; refine (q6 _).mono ?_; rintro e w' ⟨rfl, hc'⟩; obtain ⟨y, rfl⟩ := Wd.next hc'; clear hc') | (go_at_call 237; have m2 := m1; refine (q8 _).mono ?_; rintro e w' ⟨rfl, hc'⟩; obtain ⟨y, rfl⟩ := Wd.next hc'; clear hc') | (go_at_call 237; have m1 := True.intro; refine (q7 _).mono ?_; rintro e w' ⟨rfl, hc'⟩; obtain ⟨y, rfl⟩ := Wd.next hc'; clear hc'))
      all_goals
        go_ret
        refine ⟨?_, hcw.trans (Wd.chg _)⟩
        rw [HR.out]
        first
          | (simp_all; done)
          | (simp_all <;> (intros; omega))
          | fail
    · unfold podB ownOk restB at hr
      rw [hb, heo] at hr
      have heo' := toList_of heo
      have he' := toList_of he
      clear hb
      go_enter Tryz.func208, Tryz.ntmps208
      go_wp2_with fail
      generalize (w.alloc _).alloc _ = W at hcw hA hR hxn hN ⊢
      generalize w.heap.size = B at hA hR ⊢
      have q1 : ∀ y : Wd No W, Gives 234 _ y.w (.int .i64 (ownerIdx s x.owner)) := fun y => refOwner_any ((h.no hcw).no y.chg) x.owner
      have q2 : ∀ y : Wd No W, Gives 63 _ y.w (.int .i64 (nodeIdx s x.on)) := fun y => refNode_any ((h.no hcw).no y.chg) x.on
      have q3 := fun y : Wd No W => refVecCheck_any (x.req 0) (x.req 1) (x.req 2) (x.req 3) (x.req 4) y.w
      have q4 := fun y : Wd No W => refLabCheck_any ((hp.2.1.no hcw).no y.chg)
      have q5 := fun y : Wd No W => refTerms_any ((hp.2.2.1.no hcw).no y.chg)
      have q6 := fun y : Wd No W => refLabCheckBears_any ((hp.2.2.2.1.no hcw).no y.chg)
      have q7 := fun y : Wd No W => refNear_any hp.1.2.2.2.1 ((hp.2.2.2.2.1.no hcw).no y.chg)
      have q8 := fun y : Wd No W => refNear_any hp.1.2.2.2.2 ((hp.2.2.2.2.2.no hcw).no y.chg)
      unfold Gives at q1 q2 q3 q4 q5 q6 q7 q8
      unfold vecV at q3
      dsimp only at q4 q5 q6 q7 q8
      rw [hi] at q2
      generalize ownerIdx s x.owner = io at *
      generalize vecE (x.req 0) (x.req 1) (x.req 2) (x.req 3) (x.req 4) = e0 at *
      generalize labsE false x.labels = e1 at *
      generalize termsE x.where_ = e2 at *
      generalize labsE true x.bears = e3 at *
      generalize nearB x.wTopo x.wTerms = n1 at *
      generalize nearB x.aTopo x.aTerms = n2 at *
      have HR := Go.Lib.hid hr
      clear hr
      have sa0 := fun y : Wd No W => y.chg.cell (cell_of_heap (j := 0) hA rfl) id
      have sa1 := fun y : Wd No W => y.chg.cell (cell_of_heap (j := 1) hA rfl) id
      have sa2 := fun y : Wd No W => y.chg.cell (cell_of_heap (j := 2) hA rfl) id
      have r1 := fun y : Wd No W => y.chg.cell (cell_of_heap (j := 1) hR rfl) id
      have r2 := fun y : Wd No W => y.chg.cell (cell_of_heap (j := 2) hR rfl) id
      have r3 := fun y : Wd No W => y.chg.cell (cell_of_heap (j := 3) hR rfl) id
      have r4 := fun y : Wd No W => y.chg.cell (cell_of_heap (j := 4) hR rfl) id
      have r5 := fun y : Wd No W => y.chg.cell (cell_of_heap (j := 5) hR rfl) id
      have r6 := fun y : Wd No W => y.chg.cell (cell_of_heap (j := 6) hR rfl) id
      have r7 := fun y : Wd No W => y.chg.cell (cell_of_heap (j := 7) hR rfl) id
      have r8 := fun y : Wd No W => y.chg.cell (cell_of_heap (j := 8) hR rfl) id
      have r9 := fun y : Wd No W => y.chg.cell (cell_of_heap (j := 9) hR rfl) id
      have r10 := fun y : Wd No W => y.chg.cell (cell_of_heap (j := 10) hR rfl) id
      have r11 := fun y : Wd No W => y.chg.cell (cell_of_heap (j := 11) hR rfl) id
      have r12 := fun y : Wd No W => y.chg.cell (cell_of_heap (j := 12) hR rfl) id
      have r13 := fun y : Wd No W => y.chg.cell (cell_of_heap (j := 13) hR rfl) id
      have r14 := fun y : Wd No W => y.chg.cell (cell_of_heap (j := 14) hR rfl) id
      clear hA hR hxn hN h hp
      clear hi
      obtain ⟨x0, hx0⟩ := Wd.start No W
      rw [← hx0]
      clear hx0
      go_wp2_with (first | (go_at_call 234; refine (q1 _).mono ?_; rintro e w' ⟨rfl, hc'⟩; obtain ⟨y, rfl⟩ := Wd.next hc'; clear hc') | (go_at_call 63; refine (q2 _).mono ?_; rintro e w' ⟨rfl, hc'⟩; obtain ⟨y, rfl⟩ := Wd.next hc'; clear hc') | (go_at_call 232; refine (q3 _).mono ?_; rintro e w' ⟨rfl, hc'⟩; obtain ⟨y, rfl⟩ := Wd.next hc'; clear hc') | (go_at_call 233; refine (q4 _).mono ?_; rintro e w' ⟨rfl, hc'⟩; obtain ⟨y, rfl⟩ := Wd.next hc'; clear hc') | (go_at_call 235; refine (q5 _).mono ?_; rintro e w' ⟨rfl, hc'⟩; obtain ⟨y, rfl⟩ := Wd.next hc'; clear hc') | (go_at_call 236; refine (q6 _).mono ?_; rintro e w' ⟨rfl, hc'⟩; obtain ⟨y, rfl⟩ := Wd.next hc'; clear hc') | (go_at_call 237; have m2 := m1; refine (q8 _).mono ?_; rintro e w' ⟨rfl, hc'⟩; obtain ⟨y, rfl⟩ := Wd.next hc'; clear hc') | (go_at_call 237; have m1 := True.intro; refine (q7 _).mono ?_; rintro e w' ⟨rfl, hc'⟩; obtain ⟨y, rfl⟩ := Wd.next hc'; clear hc'))
      all_goals
        go_ret
        refine ⟨?_, hcw.trans (Wd.chg _)⟩
        rw [HR.out]
        first
          | (simp_all; done)
          | (simp_all <;> (intros; omega))
          | fail
    · cases l
      all_goals
        unfold podB ownOk restB at hr
        rw [hb, heo] at hr
        have heo' := toList_of heo
        have he' := toList_of he
        clear hb
        go_enter Tryz.func208, Tryz.ntmps208
        go_wp2_with fail
        generalize (w.alloc _).alloc _ = W at hcw hA hR hxn hN ⊢
        generalize w.heap.size = B at hA hR ⊢
        have q1 : ∀ y : Wd No W, Gives 234 _ y.w (.int .i64 (ownerIdx s x.owner)) := fun y => refOwner_any ((h.no hcw).no y.chg) x.owner
        have q2 : ∀ y : Wd No W, Gives 63 _ y.w (.int .i64 (nodeIdx s x.on)) := fun y => refNode_any ((h.no hcw).no y.chg) x.on
        have q3 := fun y : Wd No W => refVecCheck_any (x.req 0) (x.req 1) (x.req 2) (x.req 3) (x.req 4) y.w
        have q4 := fun y : Wd No W => refLabCheck_any ((hp.2.1.no hcw).no y.chg)
        have q5 := fun y : Wd No W => refTerms_any ((hp.2.2.1.no hcw).no y.chg)
        have q6 := fun y : Wd No W => refLabCheckBears_any ((hp.2.2.2.1.no hcw).no y.chg)
        have q7 := fun y : Wd No W => refNear_any hp.1.2.2.2.1 ((hp.2.2.2.2.1.no hcw).no y.chg)
        have q8 := fun y : Wd No W => refNear_any hp.1.2.2.2.2 ((hp.2.2.2.2.2.no hcw).no y.chg)
        unfold Gives at q1 q2 q3 q4 q5 q6 q7 q8
        unfold vecV at q3
        dsimp only at q4 q5 q6 q7 q8
        rw [hi] at q2
        generalize ownerIdx s x.owner = io at *
        generalize vecE (x.req 0) (x.req 1) (x.req 2) (x.req 3) (x.req 4) = e0 at *
        generalize labsE false x.labels = e1 at *
        generalize termsE x.where_ = e2 at *
        generalize labsE true x.bears = e3 at *
        generalize nearB x.wTopo x.wTerms = n1 at *
        generalize nearB x.aTopo x.aTerms = n2 at *
        have HR := Go.Lib.hid hr
        clear hr
        have sa0 := fun y : Wd No W => y.chg.cell (cell_of_heap (j := 0) hA rfl) id
        have sa1 := fun y : Wd No W => y.chg.cell (cell_of_heap (j := 1) hA rfl) id
        have sa2 := fun y : Wd No W => y.chg.cell (cell_of_heap (j := 2) hA rfl) id
        have r1 := fun y : Wd No W => y.chg.cell (cell_of_heap (j := 1) hR rfl) id
        have r2 := fun y : Wd No W => y.chg.cell (cell_of_heap (j := 2) hR rfl) id
        have r3 := fun y : Wd No W => y.chg.cell (cell_of_heap (j := 3) hR rfl) id
        have r4 := fun y : Wd No W => y.chg.cell (cell_of_heap (j := 4) hR rfl) id
        have r5 := fun y : Wd No W => y.chg.cell (cell_of_heap (j := 5) hR rfl) id
        have r6 := fun y : Wd No W => y.chg.cell (cell_of_heap (j := 6) hR rfl) id
        have r7 := fun y : Wd No W => y.chg.cell (cell_of_heap (j := 7) hR rfl) id
        have r8 := fun y : Wd No W => y.chg.cell (cell_of_heap (j := 8) hR rfl) id
        have r9 := fun y : Wd No W => y.chg.cell (cell_of_heap (j := 9) hR rfl) id
        have r10 := fun y : Wd No W => y.chg.cell (cell_of_heap (j := 10) hR rfl) id
        have r11 := fun y : Wd No W => y.chg.cell (cell_of_heap (j := 11) hR rfl) id
        have r12 := fun y : Wd No W => y.chg.cell (cell_of_heap (j := 12) hR rfl) id
        have r13 := fun y : Wd No W => y.chg.cell (cell_of_heap (j := 13) hR rfl) id
        have r14 := fun y : Wd No W => y.chg.cell (cell_of_heap (j := 14) hR rfl) id
        obtain ⟨-, nb, no, rfl, ncell⟩ := hxn.2.2.2 k hk
        have ql := fun y : Wd No W => y.chg.cell (ncell 9 (.bool (s.nodes.el k).lost) rfl) id
        rw [hl] at ql
        have hkn : (k : Int) < (s.nodes.n : Int) := by omega
        clear ncell hl hi hk
        clear hA hR hxn hN h hp
        obtain ⟨x0, hx0⟩ := Wd.start No W
        rw [← hx0]
        clear hx0
        go_wp2_with (first | (go_at_call 234; refine (q1 _).mono ?_; rintro e w' ⟨rfl, hc'⟩; obtain ⟨y, rfl⟩ := Wd.next hc'; clear hc') | (go_at_call 63; refine (q2 _).mono ?_; rintro e w' ⟨rfl, hc'⟩; obtain ⟨y, rfl⟩ := Wd.next hc'; clear hc') | (go_at_call 232; refine (q3 _).mono ?_; rintro e w' ⟨rfl, hc'⟩; obtain ⟨y, rfl⟩ := Wd.next hc'; clear hc') | (go_at_call 233; refine (q4 _).mono ?_; rintro e w' ⟨rfl, hc'⟩; obtain ⟨y, rfl⟩ := Wd.next hc'; clear hc') | (go_at_call 235; refine (q5 _).mono ?_; rintro e w' ⟨rfl, hc'⟩; obtain ⟨y, rfl⟩ := Wd.next hc'; clear hc') | (go_at_call 236; refine (q6 _).mono ?_; rintro e w' ⟨rfl, hc'⟩; obtain ⟨y, rfl⟩ := Wd.next hc'; clear hc') | (go_at_call 237; have m2 := m1; refine (q8 _).mono ?_; rintro e w' ⟨rfl, hc'⟩; obtain ⟨y, rfl⟩ := Wd.next hc'; clear hc') | (go_at_call 237; have m1 := True.intro; refine (q7 _).mono ?_; rintro e w' ⟨rfl, hc'⟩; obtain ⟨y, rfl⟩ := Wd.next hc'; clear hc'))
        all_goals
          go_ret
          refine ⟨?_, hcw.trans (Wd.chg _)⟩
          rw [HR.out]
          first
            | (simp_all; done)
            | (simp_all <;> (intros; omega))
            | fail
end Go.Proofs.YthpmgnbehahkfaaGreat
