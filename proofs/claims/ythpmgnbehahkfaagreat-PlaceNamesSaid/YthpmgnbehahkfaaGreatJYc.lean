/- snap.Check. -/
import Derived.Test.YthpmgnbehahkfaaGreatJZw
set_option linter.unusedSimpArgs false
set_option linter.unusedVariables false
namespace Go.Proofs.YthpmgnbehahkfaaGreat
open Go.RowKit Go.Dk

theorem any2 (e0 e1 : Int) (f : Nat → Int) (h0 : f 0 = e0) (h1 : f 1 = e1) : (!anyB (fun k => decide (f k ≠ 0)) 2) = (decide (e0 = 0) && decide (e1 = 0)) := by
  subst h0 h1
  rw [Bool.eq_iff_iff]
  unfold anyB
  simp only [Bool.not_eq_true', decide_eq_false_iff_not, Bool.and_eq_true, decide_eq_true_iff]
  constructor
  · intro h
    refine ⟨?_, ?_⟩
    all_goals (refine Classical.byContradiction fun hh => h ⟨_, ?_, hh⟩; omega)
  · rintro ⟨a, b⟩ ⟨k, hk, h⟩
    match k, hk with
    | 0, _ => exact h a
    | 1, _ => exact h b
theorem fine2_any (e0 e1 : Int) (W : World) (b : Nat) (hb : b = W.heap.size) : Gives 141 #[.slice (some ⟨b, 0, none⟩) 2 2] (W.alloc (.cells #[.int .i64 e0, .int .i64 e1] 54)) (.bool (decide (e0 = 0) && decide (e1 = 0))) := by
  rw [← any2 e0 e1 (fun k => match k with | 0 => e0 | _ => e1) rfl rfl]
  refine fine_any _ _ 2 2 [.int .i64 e0, .int .i64 e1] _ (rd_new W b _ _ 1 2 rfl hb) (by omega) (fun k x hk => ?_)
  match k, (List.getElem?_eq_some_iff.1 hk).1 with
  | 0, _ => simpa using hk.symm
  | 1, _ => simpa using hk.symm

set_option maxRecDepth 100000 in
set_option maxHeartbeats 4000000 in
theorem snapCheck_any {w : World} {n p o : Value} {s : SnapD} {lv tv : Nat → Value} {pv : Nat → PodV} (h : SnapAt w n p o s lv tv pv) :
    Gives 91 #[.agg #[n, p, o]] w (.int .i64 (checkE s)) := by
  have hcw := (Chg.refl No w).alloc (.cells #[n, p, o] 26)
  have hA := heap_alloc_new w (.cells #[n, p, o] 26)
  have hS := h.no hcw
  have hn1 := hS.nodes.1
  have hn2 := hS.pods.1
  have hn3 := hS.owners.1
  obtain ⟨na, nc, pa, pc, oa, oc, rfl, rfl, rfl⟩ := h.args
  clear h
  unfold Gives
  obtain ⟨sh, hsh⟩ : ∃ b, shapedB s = b := ⟨_, rfl⟩
  obtain ⟨r, hr⟩ : ∃ r, r = checkE s := ⟨_, rfl⟩
  rw [← hr]
  unfold checkE at hr
  rw [hsh] at hr
  have hfn := fun (e : sh = true) => shaped_caps (s := s) (hsh.trans e)
  have hfp := fun (e : sh = true) => shaped_reqs (s := s) (hsh.trans e)
  unfold shapedB at hsh
  go_enter Tryz.func91, Tryz.ntmps91
  go_wp2_with fail
  generalize w.alloc _ = W at hcw hA hS ⊢
  generalize w.heap.size = B at hA ⊢
  have q0 := fun y : Wd No W => many_any (hS.no y.chg)
  have qn := fun y : Wd No W => nodes_any (hS.no y.chg)
  have qp := fun y : Wd No W => pods_any (hS.no y.chg)
  have qo := fun y : Wd No W => owners_any (hS.no y.chg)
  have kn : ∀ (y : Wd No W) a c, Sl y.w a s.nodes.n c 1 (fun k => [.string (s.nodes.el k).name]) → Gives 124 #[.slice a s.nodes.n c] y.w (.bool (riseN s)) := fun y a c hs => rise_any _ a _ c y.w hs hn1 (fun k hk => by obtain ⟨_, _, _, _, _, hat⟩ := hS.nodes; exact (hat k hk).1)
  have kp : ∀ (y : Wd No W) a c, Sl y.w a s.pods.n c 1 (fun k => [.string (s.pods.el k).name]) → Gives 124 #[.slice a s.pods.n c] y.w (.bool (riseP s)) := fun y a c hs => rise_any _ a _ c y.w hs hn2 (fun k hk => by obtain ⟨_, _, _, _, _, hat⟩ := hS.pods; exact (hat k hk).1.1)
  have ko : ∀ (y : Wd No W) a c, Sl y.w a s.owners.n c 1 (fun k => [.string (s.owners.el k).name]) → Gives 124 #[.slice a s.owners.n c] y.w (.bool (riseO s)) := fun y a c hs => rise_any _ a _ c y.w hs hn3 (fun k hk => by obtain ⟨_, _, _, _, _, hat⟩ := hS.owners; exact (hat k hk).1)
  have cn : ∀ y : Wd No W, Gives 128 #[.slice na s.nodes.n nc, .func (.func 129) #[] #[]] y.w (.bool (!allN s)) := fun y => by
    have := contNodes_any (hS.no y.chg).nodes 129 #[] enters_check1 (fun k => !nodeB (s.nodes.el k)) (fun k hk w' hc => by obtain ⟨_, _, _, _, _, hat⟩ := ((hS.no y.chg).no hc).nodes; simpa using check1_any (hat k hk))
    rw [show (!allN s) = anyB (fun k => !nodeB (s.nodes.el k)) s.nodes.n by simp [allN, allB]]
    exact this
  have co : ∀ y : Wd No W, Gives 131 #[.slice oa s.owners.n oc, .func (.func 132) #[] #[]] y.w (.bool (!allO s)) := fun y => by
    have := contOwners_any (hS.no y.chg).owners 132 #[] enters_check2 (fun k => !ownerB (s.owners.el k)) (fun k hk w' hc => by obtain ⟨_, _, _, _, _, hat⟩ := ((hS.no y.chg).no hc).owners; simpa using check2_any (w := w') (hat k hk))
    rw [show (!allO s) = anyB (fun k => !ownerB (s.owners.el k)) s.owners.n by simp [allO, allB]]
    exact this
  have cp : ∀ y : Wd No W, Gives 134 #[.slice pa s.pods.n pc, .func (.func 135) #[] #[.pointer (some ⟨B, 0, none⟩)]] y.w (.bool (!allP s)) := fun y => by
    have := contPods_any (hS.no y.chg).pods 135 #[.pointer (some ⟨B, 0, none⟩)] enters_check3 (fun k => !podB s (s.pods.el k)) (fun k hk w' hc => by obtain ⟨_, _, _, _, _, hat⟩ := ((hS.no y.chg).no hc).pods; simpa using check3_any ((hS.no y.chg).no hc) (hat k hk) B (hc.heap (y.chg.heap hA id) id))
    rw [show (!allP s) = anyB (fun k => !podB s (s.pods.el k)) s.pods.n by simp [allP, allB]]
    exact this
  have en := fun y : Wd No W => eachNodeVec_any 138 #[] enters_nodeCap_any (fun k => (s.nodes.el k).cap) _ s.nodes lv tv y.w (hS.no y.chg).nodes (fun k hk w' hc' => by
    obtain ⟨_, _, _, _, _, hat⟩ := ((hS.no y.chg).no hc').nodes
    simpa using nodeCap_any (hat k hk))
  have ep := fun y : Wd No W => eachPodVec_any 140 #[] enters_podReq_any (fun k => (s.pods.el k).req) _ s.pods pv y.w (hS.no y.chg).pods (fun k hk w' hc' => by
    obtain ⟨_, _, _, _, _, hat⟩ := ((hS.no y.chg).no hc').pods
    simpa using podReq_any (hat k hk))
  unfold Gives at q0 kn kp ko cn co cp
  have sa := fun y : Wd No W => y.chg.cell (cell_of_heap (j := 0) hA rfl) id
  have sb := fun y : Wd No W => y.chg.cell (cell_of_heap (j := 1) hA rfl) id
  have sc := fun y : Wd No W => y.chg.cell (cell_of_heap (j := 2) hA rfl) id
  have sa' : ∀ (y : Wd No W) (o : Obj), (y.w.alloc o).cell? ⟨B, 0, none⟩ = some (.slice na s.nodes.n nc) := fun y o => (Wd.al y o).chg.cell (cell_of_heap (j := 0) hA rfl) id
  have sb' : ∀ (y : Wd No W) (o : Obj), (y.w.alloc o).cell? ⟨B, 1, none⟩ = some (.slice pa s.pods.n pc) := fun y o => (Wd.al y o).chg.cell (cell_of_heap (j := 1) hA rfl) id
  have sc' : ∀ (y : Wd No W) (o : Obj), (y.w.alloc o).cell? ⟨B, 2, none⟩ = some (.slice oa s.owners.n oc) := fun y o => (Wd.al y o).chg.cell (cell_of_heap (j := 2) hA rfl) id
  clear hA hS
  generalize manyB s = mb at *
  generalize riseN s = r1 at *
  generalize riseP s = r2 at *
  generalize riseO s = r3 at *
  generalize allN s = b1 at *
  generalize allO s = b3 at *
  generalize allP s = b2 at *
  obtain ⟨y, hy⟩ := Wd.start No W
  rw [← hy]
  clear hy
  cases sh with
  | true =>
    have hfn := hfn rfl
    have hfp := hfp rfl
    simp only [Bool.and_eq_true, Bool.not_eq_true'] at hsh
    obtain ⟨⟨⟨⟨⟨⟨rfl, rfl⟩, rfl⟩, rfl⟩, rfl⟩, rfl⟩, rfl⟩ := hsh
    have pn := fun (y : Wd No W) a c hs => plus_any (fun k => (s.nodes.el k).cap) a s.nodes.n c y.w hs hn1 hfn
    have pp := fun (y : Wd No W) a c hs => plus_any (fun k => (s.pods.el k).req) a s.pods.n c y.w hs hn2 hfp
    rw [show plusE (fun k => (s.nodes.el k).cap) s.nodes.n = capsE s from rfl] at pn
    rw [show plusE (fun k => (s.pods.el k).req) s.pods.n = reqsE s from rfl] at pp
    generalize capsE s = e1 at *
    generalize reqsE s = e2 at *
    have p9 := fun (W : World) (b : Nat) (hb : b = W.heap.size) => fine2_any e1 e2 W b hb
    unfold Gives at p9
    have HR := Go.Lib.hid hr
    have HFN := Go.Lib.hid hfn
    have HFP := Go.Lib.hid hfp
    clear hr hfn hfp
    go_wp2_with (first
      | (go_at_call 123; refine (q0 _).mono ?_; rintro e w' ⟨rfl, hc'⟩; obtain ⟨y, rfl⟩ := Wd.next hc'; clear hc')
      | (go_at_call 125; refine (qn _).mono ?_; rintro e w' ⟨a', c', rfl, hs, hc'⟩; obtain ⟨y, rfl⟩ := Wd.next hc'; clear hc'; have qr := kn y a' c' hs)
      | (go_at_call 126; refine (qp _).mono ?_; rintro e w' ⟨a', c', rfl, hs, hc'⟩; obtain ⟨y, rfl⟩ := Wd.next hc'; clear hc'; have qr := kp y a' c' hs)
      | (go_at_call 127; refine (qo _).mono ?_; rintro e w' ⟨a', c', rfl, hs, hc'⟩; obtain ⟨y, rfl⟩ := Wd.next hc'; clear hc'; have qr := ko y a' c' hs)
      | (go_at_call 124; refine qr.mono ?_; rintro e w' ⟨rfl, hc'⟩; obtain ⟨y, rfl⟩ := Wd.next hc'; clear hc')
      | (go_at_call 128; refine (cn _).mono ?_; rintro e w' ⟨rfl, hc'⟩; obtain ⟨y, rfl⟩ := Wd.next hc'; clear hc')
      | (go_at_call 131; refine (co _).mono ?_; rintro e w' ⟨rfl, hc'⟩; obtain ⟨y, rfl⟩ := Wd.next hc'; clear hc')
      | (go_at_call 134; refine (cp _).mono ?_; rintro e w' ⟨rfl, hc'⟩; obtain ⟨y, rfl⟩ := Wd.next hc'; clear hc')
      | (go_at_call 137; refine (en _).mono ?_; rintro e w' ⟨a', c', rfl, hs, hc', -⟩; obtain ⟨y, rfl⟩ := Wd.next hc'; clear hc'; have ql := pn y a' c' hs)
      | (go_at_call 139; refine (ep (Wd.al _ _)).mono ?_; rintro e w' ⟨a', c', rfl, hs, hc', -⟩; obtain ⟨y, rfl⟩ := Wd.next hc'; clear hc'; have ql := pp y a' c' hs)
      | (go_at_call 121; refine ql.mono ?_; rintro e w' ⟨x, rfl, hc'⟩; obtain ⟨y, rfl⟩ := Wd.next hc'; clear hc'; unfold cells5)
      | (go_at_call 141; refine (p9 _ _ (by simp)).mono ?_; rintro e w' ⟨rfl, hc'⟩))
    all_goals
      go_ret
      refine ⟨?_, hcw.trans (((y.chg.alloc _).alloc _).trans hc')⟩
      rw [HR.out]
      first | (simp_all; done) | (rcases (by assumption : (!decide (e1 = 0)) = true ∨ (!decide (e2 = 0)) = true) with g | g <;> (simp at g; simp [g]; done))
  | false =>
    have hr' : r = 50 := by simpa using hr
    subst hr'
    have HSH := Go.Lib.hid hsh
    clear hfn hfp hr hsh
    go_wp2_with (first
      | (go_at_call 123; refine (q0 _).mono ?_; rintro e w' ⟨rfl, hc'⟩; obtain ⟨y, rfl⟩ := Wd.next hc'; clear hc')
      | (go_at_call 125; refine (qn _).mono ?_; rintro e w' ⟨a', c', rfl, hs, hc'⟩; obtain ⟨y, rfl⟩ := Wd.next hc'; clear hc'; have qr := kn y a' c' hs)
      | (go_at_call 126; refine (qp _).mono ?_; rintro e w' ⟨a', c', rfl, hs, hc'⟩; obtain ⟨y, rfl⟩ := Wd.next hc'; clear hc'; have qr := kp y a' c' hs)
      | (go_at_call 127; refine (qo _).mono ?_; rintro e w' ⟨a', c', rfl, hs, hc'⟩; obtain ⟨y, rfl⟩ := Wd.next hc'; clear hc'; have qr := ko y a' c' hs)
      | (go_at_call 124; refine qr.mono ?_; rintro e w' ⟨rfl, hc'⟩; obtain ⟨y, rfl⟩ := Wd.next hc'; clear hc')
      | (go_at_call 128; refine (cn _).mono ?_; rintro e w' ⟨rfl, hc'⟩; obtain ⟨y, rfl⟩ := Wd.next hc'; clear hc')
      | (go_at_call 131; refine (co _).mono ?_; rintro e w' ⟨rfl, hc'⟩; obtain ⟨y, rfl⟩ := Wd.next hc'; clear hc')
      | (go_at_call 134; refine (cp _).mono ?_; rintro e w' ⟨rfl, hc'⟩; obtain ⟨y, rfl⟩ := Wd.next hc'; clear hc'))
    all_goals
      first
        | (go_ret; exact ⟨rfl, hcw.trans (Wd.chg _)⟩)
        | (exfalso; have hsh := HSH.out; simp_all; done)
end Go.Proofs.YthpmgnbehahkfaaGreat
