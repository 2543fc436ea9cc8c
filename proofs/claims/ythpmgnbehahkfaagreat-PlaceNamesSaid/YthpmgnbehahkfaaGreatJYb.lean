/- drayageref05.shaped (printed by genyb.py). -/
import Derived.Test.YthpmgnbehahkfaaGreatJYa
import Derived.Test.YthpmgnbehahkfaaGreatJZx
set_option linter.unusedSimpArgs false
set_option linter.unusedVariables false
namespace Go.Proofs.YthpmgnbehahkfaaGreat
open Go.RowKit Go.Dk

/-- the ways of a cluster, up to its names -/
theorem shaped_early {s : SnapD} (h : manyB s = true ∨ riseN s = false ∨ riseP s = false ∨ riseO s = false) : shapedB s = false := by
  unfold shapedB
  rcases h with h | h | h | h <;> simp [h]
theorem shaped_n {s : SnapD} {k : Nat} (hk : k < s.nodes.n) (h : nodeB (s.nodes.el k) = false) : shapedB s = false := by
  have : allN s = false := allB_false hk h
  simp [shapedB, this]
theorem shaped_p {s : SnapD} {k : Nat} (hk : k < s.pods.n) (h : podB s (s.pods.el k) = false) : shapedB s = false := by
  have : allP s = false := allB_false hk h
  simp [shapedB, this]
theorem shaped_o {s : SnapD} {k : Nat} (hk : k < s.owners.n) (h : ownerB (s.owners.el k) = false) : shapedB s = false := by
  have : allO s = false := allB_false hk h
  simp [shapedB, this]

set_option maxRecDepth 100000 in
set_option maxHeartbeats 4000000 in
theorem refShaped_any {w : World} {n p o : Value} {s : SnapD} {lv tv : Nat → Value} {pv : Nat → PodV} (h : SnapAt w n p o s lv tv pv) :
    Gives 162 #[.agg #[n, p, o]] w (.bool (shapedB s)) := by
  have hcw := (Chg.refl No w).alloc (.cells #[n, p, o] 26)
  have hA := heap_alloc_new w (.cells #[n, p, o] 26)
  obtain ⟨na, nc, pa, pc, oa, oc, rfl, rfl, rfl⟩ := h.args
  have hS := h.no hcw
  obtain ⟨-, hx1⟩ := hS.nodes.sl
  obtain ⟨-, hx2⟩ := hS.pods.sl
  obtain ⟨-, hx3⟩ := hS.owners.sl
  unfold Gives
  by_cases hm : s.nodes.n ≤ 8 ∧ s.pods.n ≤ 24 ∧ s.owners.n ≤ 8
  · obtain ⟨m1, m2, m3⟩ := hm
    have hmb : manyB s = false := by unfold manyB; simp; omega
    have HMB := Go.Lib.hid hmb
    clear hmb
    have i1 : ¬ ((8 : Int) < (s.nodes.n : Int)) := by omega
    have i2 : ¬ ((24 : Int) < (s.pods.n : Int)) := by omega
    have i3 : ¬ ((8 : Int) < (s.owners.n : Int)) := by omega
    go_enter Tryz.func162, Tryz.ntmps162
    go_wp2_with fail
    generalize w.alloc _ = W at hcw hA hS hx1 hx2 hx3 ⊢
    generalize w.heap.size = B at hA ⊢
    have q1 := fun y : Wd No W => refNames_any (hS.no y.chg)
    have qn : ∀ (y : Wd No W) a c, Sl y.w a s.nodes.n c 1 (fun k => [.string (s.nodes.el k).name]) → Gives 206 #[.slice a s.nodes.n c] y.w (.bool (riseN s)) := fun y a c hs => refRise_any _ a _ c y.w hs (fun k hk => by obtain ⟨_, _, _, _, _, hat⟩ := hS.nodes; exact (hat k hk).1)
    have qp : ∀ (y : Wd No W) a c, Sl y.w a s.pods.n c 1 (fun k => [.string (s.pods.el k).name]) → Gives 206 #[.slice a s.pods.n c] y.w (.bool (riseP s)) := fun y a c hs => refRise_any _ a _ c y.w hs (fun k hk => by obtain ⟨_, _, _, _, _, hat⟩ := hS.pods; exact (hat k hk).1.1)
    have qo : ∀ (y : Wd No W) a c, Sl y.w a s.owners.n c 1 (fun k => [.string (s.owners.el k).name]) → Gives 206 #[.slice a s.owners.n c] y.w (.bool (riseO s)) := fun y a c hs => refRise_any _ a _ c y.w hs (fun k hk => by obtain ⟨_, _, _, _, _, hat⟩ := hS.owners; exact (hat k hk).1)
    have kn : ∀ (y : Wd No W) k, k < s.nodes.n → Gives 207 #[.agg ((s.nodes.el k).cells (lv k) (tv k)).toArray] y.w (.bool (nodeB (s.nodes.el k))) := fun y k hk => by obtain ⟨_, _, _, _, _, hat⟩ := hS.nodes; exact refNode_any0 ((hat k hk).no y.chg)
    have kp : ∀ (y : Wd No W) k, k < s.pods.n → Gives 208 #[.agg #[.slice na s.nodes.n nc, .slice pa s.pods.n pc, .slice oa s.owners.n oc], .agg ((s.pods.el k).cells (pv k)).toArray] y.w (.bool (podB s (s.pods.el k))) := fun y k hk => by obtain ⟨_, _, _, _, _, hat⟩ := hS.pods; exact refPod_any (hS.no y.chg) ((hat k hk).no y.chg)
    have ko : ∀ (y : Wd No W) k, k < s.owners.n → Gives 209 #[.agg ((s.owners.el k).cells).toArray] y.w (.bool (ownerB (s.owners.el k))) := fun y k hk => by obtain ⟨_, _, _, _, _, hat⟩ := hS.owners; exact refOwner_any0 (w := y.w) (hat k hk)
    unfold Gives at qn qp qo kn kp ko
    have sa := fun y : Wd No W => y.chg.cell (cell_of_heap (j := 0) hA rfl) id
    have sb := fun y : Wd No W => y.chg.cell (cell_of_heap (j := 1) hA rfl) id
    have sc := fun y : Wd No W => y.chg.cell (cell_of_heap (j := 2) hA rfl) id
    have HS := Go.Lib.hid hS
    have HX1 := Go.Lib.hid hx1
    have HX2 := Go.Lib.hid hx2
    have HX3 := Go.Lib.hid hx3
    have HKN := Go.Lib.hid kn
    have HKP := Go.Lib.hid kp
    have HKO := Go.Lib.hid ko
    clear hS hA h hx1 hx2 hx3 kn kp ko
    obtain ⟨y, hy⟩ := Wd.start No W
    rw [← hy]
    clear hy
    refine (q1 _).mono ?_
    rintro e w1 ⟨a1, c1, a2, c2, a3, c3, rfl, hs1, hs2, hs3, hc1⟩
    obtain ⟨y, rfl⟩ := Wd.next hc1
    clear hc1
    cases hn : riseN s with
    | false =>
      rw [hn] at qn
      have HE := Go.Lib.hid (shaped_early (s := s) (.inr (.inl hn)))
      clear hn
      go_wp2_with (go_at_call 206; refine (qn _ _ _ hs1).mono ?_; rintro e w' ⟨rfl, hc'⟩; obtain ⟨y, rfl⟩ := Wd.next hc'; clear hc')
      go_ret
      rw [HE.out]; exact ⟨rfl, hcw.trans (Wd.chg _)⟩
    | true =>
      rw [hn] at qn
      have r1 := fun (z : Wd No W) (hc : Chg No y.w z.w) => qp z a2 c2 (hs2.no hc)
      have r2 := fun (z : Wd No W) (hc : Chg No y.w z.w) => qo z a3 c3 (hs3.no hc)
      cases hp : riseP s with
      | false =>
        rw [hp] at r1
        have HE := Go.Lib.hid (shaped_early (s := s) (.inr (.inr (.inl hp))))
        clear hn hp
        go_wp2_with (first
          | (go_at_call 206; have m2 := m1; refine (r1 _ hcy).mono ?_; rintro e w' ⟨rfl, hc'⟩; obtain ⟨y, rfl⟩ := Wd.next hc'; clear hc')
          | (go_at_call 206; have m1 := True.intro; refine (qn _ _ _ hs1).mono ?_; rintro e w' ⟨rfl, hc'⟩; obtain ⟨y, rfl⟩ := Wd.next hc'; have hcy := hc'))
        go_ret
        rw [HE.out]; exact ⟨rfl, hcw.trans (Wd.chg _)⟩
      | true =>
        rw [hp] at r1
        cases ho : riseO s with
        | false =>
          rw [ho] at r2
          have HE := Go.Lib.hid (shaped_early (s := s) (.inr (.inr (.inr ho))))
          clear hn hp ho
          go_wp2_with (first
            | (go_at_call 206; have m4 := m2; refine (r2 _ (hcy.trans hcz)).mono ?_; rintro e w' ⟨rfl, hc'⟩; obtain ⟨y, rfl⟩ := Wd.next hc'; clear hc')
            | (go_at_call 206; have m2 := m1; refine (r1 _ hcy).mono ?_; rintro e w' ⟨rfl, hc'⟩; obtain ⟨y, rfl⟩ := Wd.next hc'; have hcz := hc')
            | (go_at_call 206; have m1 := True.intro; refine (qn _ _ _ hs1).mono ?_; rintro e w' ⟨rfl, hc'⟩; obtain ⟨y, rfl⟩ := Wd.next hc'; have hcy := hc'))
          go_ret
          rw [HE.out]; exact ⟨rfl, hcw.trans (Wd.chg _)⟩
        | true =>
          rw [ho] at r2
          have HN := Go.Lib.hid hn
          have HP := Go.Lib.hid hp
          have HO := Go.Lib.hid ho
          clear hn hp ho
          go_wp2_with (first
            | (go_at_call 206; have m4 := m2; refine (r2 _ (hcy.trans hcz)).mono ?_; rintro e w' ⟨rfl, hc'⟩; obtain ⟨y, rfl⟩ := Wd.next hc'; clear hc')
            | (go_at_call 206; have m2 := m1; refine (r1 _ hcy).mono ?_; rintro e w' ⟨rfl, hc'⟩; obtain ⟨y, rfl⟩ := Wd.next hc'; have hcz := hc')
            | (go_at_call 206; have m1 := True.intro; refine (qn _ _ _ hs1).mono ?_; rintro e w' ⟨rfl, hc'⟩; obtain ⟨y, rfl⟩ := Wd.next hc'; have hcy := hc'))
          clear qn qp qo r1 r2 hs1 hs2 hs3
          go_loopw [6] (fun i wr => LoopRel W (fun k => nodeB (s.nodes.el k)) s.nodes.n i wr) (fun i _ => s.nodes.n - (intOf i).toNat)
          case atStart => exact ⟨0, rfl, by omega, (fun j hj => by omega), Wd.chg _⟩
          case round =>
            obtain ⟨k, rfl, hk, hall, hc⟩ := hrel
            obtain ⟨y, rfl⟩ := Wd.of hc
            by_cases hlt : k < s.nodes.n
            · have hkn := fun y => HKN.out y k hlt
              obtain ⟨-, b, o, rfl, ncell⟩ := HX1.out.2.2.2 k hlt
              have n0 := ncell 0 _ rfl
              have n1 := ncell 1 _ rfl
              have n2 := ncell 2 _ rfl
              have n3 := ncell 3 _ rfl
              have n4 := ncell 4 _ rfl
              have n5 := ncell 5 _ rfl
              have n6 := ncell 6 _ rfl
              have n7 := ncell 7 _ rfl
              have n8 := ncell 8 _ rfl
              have n9 := ncell 9 _ rfl
              rw [Nat.add_zero] at n0
              have n0 := fun y : Wd No W => y.chg.cell n0 id
              have n1 := fun y : Wd No W => y.chg.cell n1 id
              have n2 := fun y : Wd No W => y.chg.cell n2 id
              have n3 := fun y : Wd No W => y.chg.cell n3 id
              have n4 := fun y : Wd No W => y.chg.cell n4 id
              have n5 := fun y : Wd No W => y.chg.cell n5 id
              have n6 := fun y : Wd No W => y.chg.cell n6 id
              have n7 := fun y : Wd No W => y.chg.cell n7 id
              have n8 := fun y : Wd No W => y.chg.cell n8 id
              have n9 := fun y : Wd No W => y.chg.cell n9 id
              unfold NodeD.cells at hkn
              have hlt' : (k : Int) < (s.nodes.n : Int) := by omega
              cases hb : nodeB (s.nodes.el k) with
              | false =>
                rw [hb] at hkn
                have HE := Go.Lib.hid (shaped_n hlt hb)
                clear hb ncell hall
                go_wp2_with (go_at_call 207; refine (hkn _).mono ?_; rintro e w' ⟨rfl, hc'⟩; obtain ⟨y, rfl⟩ := Wd.next hc'; clear hc')
                go_ret
                rw [HE.out]; exact ⟨rfl, hcw.trans (Wd.chg _)⟩
              | true =>
                rw [hb] at hkn
                have HB := Go.Lib.hid hb
                have HALL := Go.Lib.hid hall
                clear hb ncell hall
                go_wp2_with (go_at_call 207; refine (hkn _).mono ?_; rintro e w' ⟨rfl, hc'⟩; obtain ⟨y, rfl⟩ := Wd.next hc'; clear hc')
                go_roundw
                case rel => exact ⟨k + 1, by go_num, by omega, (fun j hj => by rcases Nat.lt_or_eq_of_le (Nat.le_of_lt_succ hj) with h | h; exact HALL.out j h; subst h; exact HB.out), Wd.chg _⟩
                case measure => simp [intOf]; omega
            · obtain rfl : k = s.nodes.n := by omega
              have HAN := Go.Lib.hid hall
              clear hall hlt hk
              go_wp2_with fail
              go_loopw [7] (fun i wr => LoopRel W (fun k => podB s (s.pods.el k)) s.pods.n i wr) (fun i _ => s.pods.n - (intOf i).toNat)
              case atStart => exact ⟨0, rfl, by omega, (fun j hj => by omega), Wd.chg _⟩
              case round =>
                obtain ⟨k, rfl, hk, hall, hc⟩ := hrel
                obtain ⟨y, rfl⟩ := Wd.of hc
                by_cases hlt : k < s.pods.n
                · have hkn := fun y => HKP.out y k hlt
                  obtain ⟨-, b, o, rfl, ncell⟩ := HX2.out.2.2.2 k hlt
                  have n0 := ncell 0 _ rfl
                  have n1 := ncell 1 _ rfl
                  have n2 := ncell 2 _ rfl
                  have n3 := ncell 3 _ rfl
                  have n4 := ncell 4 _ rfl
                  have n5 := ncell 5 _ rfl
                  have n6 := ncell 6 _ rfl
                  have n7 := ncell 7 _ rfl
                  have n8 := ncell 8 _ rfl
                  have n9 := ncell 9 _ rfl
                  have n10 := ncell 10 _ rfl
                  have n11 := ncell 11 _ rfl
                  have n12 := ncell 12 _ rfl
                  have n13 := ncell 13 _ rfl
                  have n14 := ncell 14 _ rfl
                  rw [Nat.add_zero] at n0
                  have n0 := fun y : Wd No W => y.chg.cell n0 id
                  have n1 := fun y : Wd No W => y.chg.cell n1 id
                  have n2 := fun y : Wd No W => y.chg.cell n2 id
                  have n3 := fun y : Wd No W => y.chg.cell n3 id
                  have n4 := fun y : Wd No W => y.chg.cell n4 id
                  have n5 := fun y : Wd No W => y.chg.cell n5 id
                  have n6 := fun y : Wd No W => y.chg.cell n6 id
                  have n7 := fun y : Wd No W => y.chg.cell n7 id
                  have n8 := fun y : Wd No W => y.chg.cell n8 id
                  have n9 := fun y : Wd No W => y.chg.cell n9 id
                  have n10 := fun y : Wd No W => y.chg.cell n10 id
                  have n11 := fun y : Wd No W => y.chg.cell n11 id
                  have n12 := fun y : Wd No W => y.chg.cell n12 id
                  have n13 := fun y : Wd No W => y.chg.cell n13 id
                  have n14 := fun y : Wd No W => y.chg.cell n14 id
                  unfold PodD.cells at hkn
                  have hlt' : (k : Int) < (s.pods.n : Int) := by omega
                  cases hb : podB s (s.pods.el k)
                  all_goals
                    rw [hb] at hkn
                    have HB := Go.Lib.hid hb
                    have HALL := Go.Lib.hid hall
                    clear hb ncell hall
                    go_wp2_with fail
                    refine wp_region_wd2 _ (by kernel_rfl) (by kernel_rfl) ?_
                    repeat (refine WQ.step (fun K hK => ?_); go_simp; first | (refine hK _ ?_; clear hK K) | (apply Exists.intro; refine ⟨fun _ => ?_, hK _ ?_⟩; (go_at_call 208; exact wd_calls (hkn _)); clear hK K))
                    refine WQ.nil ?_
                    rintro _ ⟨z, rfl⟩
                    go_wp2_with fail
                  · go_ret
                    rw [shaped_p hlt HB.out]; exact ⟨rfl, hcw.trans (Wd.chg _)⟩
                  · go_roundw
                    case rel => exact ⟨k + 1, by go_num, by omega, (fun j hj => by rcases Nat.lt_or_eq_of_le (Nat.le_of_lt_succ hj) with h | h; exact HALL.out j h; subst h; exact HB.out), Wd.chg _⟩
                    case measure => simp [intOf]; omega
                · obtain rfl : k = s.pods.n := by omega
                  have HAP := Go.Lib.hid hall
                  clear hall hlt hk
                  go_wp2_with fail
                  go_loopw [8] (fun i wr => LoopRel W (fun k => ownerB (s.owners.el k)) s.owners.n i wr) (fun i _ => s.owners.n - (intOf i).toNat)
                  case atStart => exact ⟨0, rfl, by omega, (fun j hj => by omega), Wd.chg _⟩
                  case round =>
                    obtain ⟨k, rfl, hk, hall, hc⟩ := hrel
                    obtain ⟨y, rfl⟩ := Wd.of hc
                    by_cases hlt : k < s.owners.n
                    · have hkn := fun y => HKO.out y k hlt
                      obtain ⟨-, b, o, rfl, ncell⟩ := HX3.out.2.2.2 k hlt
                      have n0 := ncell 0 _ rfl
                      have n1 := ncell 1 _ rfl
                      have n2 := ncell 2 _ rfl
                      have n3 := ncell 3 _ rfl
                      have n4 := ncell 4 _ rfl
                      rw [Nat.add_zero] at n0
                      have n0 := fun y : Wd No W => y.chg.cell n0 id
                      have n1 := fun y : Wd No W => y.chg.cell n1 id
                      have n2 := fun y : Wd No W => y.chg.cell n2 id
                      have n3 := fun y : Wd No W => y.chg.cell n3 id
                      have n4 := fun y : Wd No W => y.chg.cell n4 id
                      unfold OwnerD.cells at hkn
                      have hlt' : (k : Int) < (s.owners.n : Int) := by omega
                      cases hb : ownerB (s.owners.el k)
                      all_goals
                        rw [hb] at hkn
                        have HB := Go.Lib.hid hb
                        have HALL := Go.Lib.hid hall
                        clear hb ncell hall
                        go_wp2_with (go_at_call 209; refine (hkn _).mono ?_; rintro e w' ⟨rfl, hc'⟩; obtain ⟨y, rfl⟩ := Wd.next hc'; clear hc')
                      · go_ret
                        rw [shaped_o hlt HB.out]; exact ⟨rfl, hcw.trans (Wd.chg _)⟩
                      · go_roundw
                        case rel => exact ⟨k + 1, by go_num, by omega, (fun j hj => by rcases Nat.lt_or_eq_of_le (Nat.le_of_lt_succ hj) with h | h; exact HALL.out j h; subst h; exact HB.out), Wd.chg _⟩
                        case measure => simp [intOf]; omega
                    · obtain rfl : k = s.owners.n := by omega
                      have hsh : shapedB s = true := by
                        have a1 : allN s = true := allB_iff.2 HAN.out
                        have a2 : allP s = true := allB_iff.2 HAP.out
                        have a3 : allO s = true := allB_iff.2 hall
                        simp [shapedB, HMB.out, HN.out, HP.out, HO.out, a1, a2, a3]
                      have HSH := Go.Lib.hid hsh
                      clear hsh hall
                      go_wp2_with fail
                      go_ret
                      rw [HSH.out]; exact ⟨rfl, hcw.trans (Wd.chg _)⟩
  · have hmb : manyB s = true := by unfold manyB; simp; omega
    have HE := Go.Lib.hid (shaped_early (s := s) (.inl hmb))
    clear hmb
    have h1 : (8 : Int) < (s.nodes.n : Int) ∨ (¬ (8 : Int) < (s.nodes.n : Int) ∧ (24 : Int) < (s.pods.n : Int)) ∨ (¬ (8 : Int) < (s.nodes.n : Int) ∧ ¬ (24 : Int) < (s.pods.n : Int) ∧ (8 : Int) < (s.owners.n : Int)) := by omega
    clear hm hx1 hx2 hx3 hS h hA
    rcases h1 with h1 | ⟨h1, h2⟩ | ⟨h1, h2, h3⟩
    all_goals
      go_enter Tryz.func162, Tryz.ntmps162
      go_wp2_with fail
      go_ret
      rw [HE.out]; exact ⟨rfl, hcw⟩
end Go.Proofs.YthpmgnbehahkfaaGreat
