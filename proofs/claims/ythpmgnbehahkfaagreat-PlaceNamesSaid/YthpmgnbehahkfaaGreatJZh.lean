/- label.check. -/
import Derived.Test.YthpmgnbehahkfaaGreatJZg
import Derived.Test.YthpmgnbehahkfaaGreatJQc
set_option linter.unusedSimpArgs false
set_option linter.unusedVariables false
namespace Go.Proofs.YthpmgnbehahkfaaGreat
open Go.RowKit Go.Dk

theorem cell_alloc_of {w : World} {p : Addr} {v : Value} (h : w.cell? p = some v) (o : Obj) : (w.alloc o).cell? p = some v := ((Chg.refl No w).alloc o).cell h id

set_option maxRecDepth 100000 in
set_option maxHeartbeats 1000000 in
theorem check_any (star : Bool) (g1 g2 : Nat) (eg1 : Enters Tryz.prog g1) (eg2 : Enters Tryz.prog g2) (hv : ∀ s w, s.size ≤ 9223372036854775807 → Gives g1 #[.string s] w (.bool (starB star s)))
    (hr : ∀ k1 v1 k2 v2 w, Gives g2 #[labV k1 v1, labV k2 v2] w (.bool (risesB star k1 v1 k2 v2)))
    (f : Nat → LabD) (a : Option Addr) (n c : Nat) (w : World) (hx : Sl w a n c 2 (fun k => (f k).cells)) (hok : ∀ k, k < n → (f k).ok) :
    Gives 223 #[.slice a n c, .func (.func g1) #[] #[], .func (.func g2) #[] #[]] w (.int .i64 (labE star f n)) := by
  unfold Gives
  have hn := hx.1
  have hc' := hx.2.1
  go_enter Tryz.func223, Tryz.ntmps223
  go_wp2_with fail
  go_loopw [11] (fun i wr => LabRel w star f n i wr) (fun i _ => n - (intOf i).toNat)
  case atStart => exact ⟨0, rfl, by omega, (fun j hj => by omega), Chg.refl _ _⟩
  case round =>
    obtain ⟨k, rfl, hk, hall, hc⟩ := hrel
    by_cases hlt : k < n
    · obtain ⟨hl, b, o, rfl, hcell⟩ := (hx.no hc).2.2.2 k hlt
      have q0 := hcell 0 (.string (f k).key) rfl
      have q1 := hcell 1 (.string (f k).val) rfl
      rw [Nat.add_zero] at q0
      have HX := Go.Lib.hid hx
      clear hcell hl hx
      have hlt' : (k : Int) < (n : Int) := by omega
      obtain ⟨ok1, ok2⟩ := hok k hlt
      have heg1 : ∀ args w, (callFunc g1 args).run Tryz.prog w = .ok (.enter g1 args) w := eg1
      have heg2 : ∀ args w, (callFunc g2 args).run Tryz.prog w = .ok (.enter g2 args) w := eg2
      have p1 := fun W => name_any (f k).key W ok1
      have p2 := fun W => hv (f k).val W ok2
      clear hv
      have HR := Go.Lib.hid hr; clear hr
      cases h1 : nameB (f k).key with
      | false =>
        rw [h1] at p1
        have H1 := Go.Lib.hid h1; clear h1 p2
        have hA := heap_alloc_new wr (.cells #[.string (f k).key, .string (f k).val] 148)
        have hcw := hc.alloc (.cells #[.string (f k).key, .string (f k).val] 148)
        go_wp2_with fail
        generalize wr.alloc _ = W at hA hcw ⊢
        generalize wr.heap.size = B at hA ⊢
        have s0 := fun x : Wd No W => x.chg.cell (cell_of_heap (j := 0) hA rfl) id
        have s1 := fun x : Wd No W => x.chg.cell (cell_of_heap (j := 1) hA rfl) id
        refine wp_region_wd (S := No) (by kernel_rfl) (by kernel_rfl) ?_
        repeat (refine WQ.step (fun K hK => ?_); go_simp; first | (refine hK _ ?_; clear hK K) | (apply Exists.intro; refine ⟨fun _ => ?_, hK _ ?_⟩; ((first | (go_at_call 172; exact wd_calls (p1 _)) | (go_at_fn g1; exact wd_calls (p2 _)) | (go_at_fn g2; exact wd_calls (p3 _)))); clear hK K))
        refine WQ.nil ?_
        rintro _ ⟨x, rfl⟩
        go_wp2_with fail
        go_ret
        rw [labE_bad hlt (by simp [labB, H1.out])]
        exact ⟨rfl, hcw.trans x.chg⟩
      | true =>
        rw [h1] at p1
        have H1 := Go.Lib.hid h1; clear h1
        cases h2 : starB star (f k).val with
        | false =>
          rw [h2] at p2
          have H2 := Go.Lib.hid h2; clear h2
          have hA := heap_alloc_new wr (.cells #[.string (f k).key, .string (f k).val] 148)
          have hcw := hc.alloc (.cells #[.string (f k).key, .string (f k).val] 148)
          go_wp2_with fail
          generalize wr.alloc _ = W at hA hcw ⊢
          generalize wr.heap.size = B at hA ⊢
          have s0 := fun x : Wd No W => x.chg.cell (cell_of_heap (j := 0) hA rfl) id
          have s1 := fun x : Wd No W => x.chg.cell (cell_of_heap (j := 1) hA rfl) id
          refine wp_region_wd (S := No) (by kernel_rfl) (by kernel_rfl) ?_
          repeat (refine WQ.step (fun K hK => ?_); go_simp; first | (refine hK _ ?_; clear hK K) | (apply Exists.intro; refine ⟨fun _ => ?_, hK _ ?_⟩; ((first | (go_at_call 172; exact wd_calls (p1 _)) | (go_at_fn g1; exact wd_calls (p2 _)) | (go_at_fn g2; exact wd_calls (p3 _)))); clear hK K))
          refine WQ.nil ?_
          rintro _ ⟨x, rfl⟩
          go_wp2_with fail
          go_ret
          rw [labE_bad hlt (by simp [labB, H2.out])]
          exact ⟨rfl, hcw.trans x.chg⟩
        | true =>
          rw [h2] at p2
          have H2 := Go.Lib.hid h2; clear h2
          by_cases hk0 : k = 0
          · have hall' : labB star f k = true := by subst hk0; simp [labB, H1.out, H2.out]
            have HG := Go.Lib.hid hall'; clear hall'
            have hkz : (0 < k) = False := by simp; omega
            clear hk0
            have hA := heap_alloc_new wr (.cells #[.string (f k).key, .string (f k).val] 148)
            have hcw := hc.alloc (.cells #[.string (f k).key, .string (f k).val] 148)
            go_wp2_with fail
            generalize wr.alloc _ = W at hA hcw ⊢
            generalize wr.heap.size = B at hA ⊢
            have s0 := fun x : Wd No W => x.chg.cell (cell_of_heap (j := 0) hA rfl) id
            have s1 := fun x : Wd No W => x.chg.cell (cell_of_heap (j := 1) hA rfl) id
            refine wp_region_wd (S := No) (by kernel_rfl) (by kernel_rfl) ?_
            repeat (refine WQ.step (fun K hK => ?_); go_simp; first | (refine hK _ ?_; clear hK K) | (apply Exists.intro; refine ⟨fun _ => ?_, hK _ ?_⟩; ((first | (go_at_call 172; exact wd_calls (p1 _)) | (go_at_fn g1; exact wd_calls (p2 _)) | (go_at_fn g2; exact wd_calls (p3 _)))); clear hK K))
            refine WQ.nil ?_
            rintro _ ⟨x, rfl⟩
            go_wp2_with fail
            go_roundw
            case rel => exact ⟨k + 1, by go_num, by omega, (fun j hj => by rcases Nat.lt_or_eq_of_le (Nat.le_of_lt_succ hj) with h | h; exact hall j h; subst h; exact HG.out), hcw.trans x.chg⟩
            case measure => simp [intOf]; omega
          · obtain ⟨m, rfl⟩ : ∃ m, k = m + 1 := ⟨k - 1, by omega⟩
            obtain ⟨-, b', o', hb', hcell'⟩ := (HX.out.no hc).2.2.2 m (by omega)
            injection hb' with hb'
            injection hb' with e1 e2 _
            subst e1; subst e2
            have r0 := hcell' 0 (.string (f m).key) rfl
            have r1 := hcell' 1 (.string (f m).val) rfl
            rw [Nat.add_zero] at r0
            clear hcell'
            have hw1 : IntKind.i64.wrap (((m + 1 : Nat) : Int) - 1) = (m : Int) := by rw [IntWalk.i64_in _ (by omega)]; omega
            have p3 := fun W => HR.out (f m).key (f m).val (f (m + 1)).key (f (m + 1)).val W
            have hkz : (0 < m + 1) = True := by simp
            have hw2 : IntKind.i64.wrap (m : Int) = (m : Int) := by rw [IntWalk.i64_in _ (by omega)]
            have hw3 : (m : Int) < (n : Int) := by omega
            have hw4 : (m : Int) + 1 < (n : Int) := by omega
            have hw5 : (0 : Int) ≤ (m : Int) := by omega
            have hw6 : (0 : Int) ≤ (m : Int) + 1 := by omega
            have hw7 : ((m : Int) + 1).toNat = m + 1 := by omega
            unfold labV at p3
            cases h3 : risesB star (f m).key (f m).val (f (m + 1)).key (f (m + 1)).val with
            | true =>
              have hall' : labB star f (m + 1) = true := by simp [labB, H1.out, H2.out, h3]
              have HG := Go.Lib.hid hall'; clear hall'
              rw [h3] at p3
              clear h3
              have hA := heap_alloc_new wr (.cells #[.string (f (m + 1)).key, .string (f (m + 1)).val] 148)
              have hcw := hc.alloc (.cells #[.string (f (m + 1)).key, .string (f (m + 1)).val] 148)
              have r0 := cell_alloc_of r0 (.cells #[.string (f (m + 1)).key, .string (f (m + 1)).val] 148)
              have r1 := cell_alloc_of r1 (.cells #[.string (f (m + 1)).key, .string (f (m + 1)).val] 148)
              go_wp2_with fail
              generalize wr.alloc _ = W at hA hcw r0 r1 ⊢
              generalize wr.heap.size = B at hA ⊢
              have s0 := fun x : Wd No W => x.chg.cell (cell_of_heap (j := 0) hA rfl) id
              have s1 := fun x : Wd No W => x.chg.cell (cell_of_heap (j := 1) hA rfl) id
              have t0 := fun x : Wd No W => x.chg.cell r0 id
              have t1 := fun x : Wd No W => x.chg.cell r1 id
              refine wp_region_wd (S := No) (by kernel_rfl) (by kernel_rfl) ?_
              repeat (refine WQ.step (fun K hK => ?_); go_simp; first | (refine hK _ ?_; clear hK K) | (apply Exists.intro; refine ⟨fun _ => ?_, hK _ ?_⟩; ((first | (go_at_call 172; exact wd_calls (p1 _)) | (go_at_fn g1; exact wd_calls (p2 _)) | (go_at_fn g2; exact wd_calls (p3 _)))); clear hK K))
              refine WQ.nil ?_
              rintro _ ⟨x, rfl⟩
              go_wp2_with fail
              go_roundw
              case rel => exact ⟨m + 1 + 1, by go_num, by omega, (fun j hj => by rcases Nat.lt_or_eq_of_le (Nat.le_of_lt_succ hj) with h | h; exact hall j h; subst h; exact HG.out), hcw.trans x.chg⟩
              case measure => simp [intOf]; omega
            | false =>
              have hall' : labB star f (m + 1) = false := by simp [labB, h3]
              have HG := Go.Lib.hid hall'; clear hall'
              rw [h3] at p3
              clear h3
              have hA := heap_alloc_new wr (.cells #[.string (f (m + 1)).key, .string (f (m + 1)).val] 148)
              have hcw := hc.alloc (.cells #[.string (f (m + 1)).key, .string (f (m + 1)).val] 148)
              have r0 := cell_alloc_of r0 (.cells #[.string (f (m + 1)).key, .string (f (m + 1)).val] 148)
              have r1 := cell_alloc_of r1 (.cells #[.string (f (m + 1)).key, .string (f (m + 1)).val] 148)
              go_wp2_with fail
              generalize wr.alloc _ = W at hA hcw r0 r1 ⊢
              generalize wr.heap.size = B at hA ⊢
              have s0 := fun x : Wd No W => x.chg.cell (cell_of_heap (j := 0) hA rfl) id
              have s1 := fun x : Wd No W => x.chg.cell (cell_of_heap (j := 1) hA rfl) id
              have t0 := fun x : Wd No W => x.chg.cell r0 id
              have t1 := fun x : Wd No W => x.chg.cell r1 id
              refine wp_region_wd (S := No) (by kernel_rfl) (by kernel_rfl) ?_
              repeat (refine WQ.step (fun K hK => ?_); go_simp; first | (refine hK _ ?_; clear hK K) | (apply Exists.intro; refine ⟨fun _ => ?_, hK _ ?_⟩; ((first | (go_at_call 172; exact wd_calls (p1 _)) | (go_at_fn g1; exact wd_calls (p2 _)) | (go_at_fn g2; exact wd_calls (p3 _)))); clear hK K))
              refine WQ.nil ?_
              rintro _ ⟨x, rfl⟩
              go_wp2_with fail
              go_ret
              rw [labE_bad hlt HG.out]
              exact ⟨rfl, hcw.trans x.chg⟩
    · obtain rfl : k = n := by omega
      by_cases h6 : k ≤ 6
      · have he := labE_ok h6 hall
        have HE := Go.Lib.hid he; clear he
        go_wp2_with (go_at_call 226; refine (arg_any _ _).mono ?_; rintro e w' ⟨rfl, rfl⟩)
        go_ret
        rw [HE.out]
        exact ⟨rfl, hc⟩
      · have he : labE star f k = 2 := by unfold labE; rw [if_neg (fun h => h6 h.1)]
        have HE := Go.Lib.hid he; clear he
        go_wp2_with (go_at_call 226; refine (arg_any _ _).mono ?_; rintro e w' ⟨rfl, rfl⟩)
        go_ret
        rw [HE.out]
        exact ⟨rfl, hc⟩
end Go.Proofs.YthpmgnbehahkfaaGreat
