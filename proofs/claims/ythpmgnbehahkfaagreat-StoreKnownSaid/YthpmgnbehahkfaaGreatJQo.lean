/- What a statement reads is data. -/
/- A law over data: from its contract to what the form asks. -/
import Derived.Test.YthpmgnbehahkfaaGreatJQb
import Derived.Test.YthpmgnbehahkfaaGreatRows
import Derived.OpenShut
import Derived.WalkKit
import Derived.ProofKit
import Derived.JoinedCond
import Derived.Carry
set_option linter.unusedSimpArgs false
set_option linter.unusedVariables false
section
namespace Go.Proofs.YthpmgnbehahkfaaGreat
open Go.RowKit Go.Dk Go.Dn Go.ChangeShapes

/-! ### Data of a kind -/
mutual
def IsK : LK → FD → Prop
  | .b, d => ∃ x, d = .v (.bool x)
  | .i k, d => ∃ n, d = .v (.int k n) ∧ (Lit.int k n).wf = true
  | .s, d => ∃ s : ByteArray, d = .v (.string s) ∧ s.size ≤ maxLen
  | .sl l, d => ∃ xs, d = .sl l.length xs ∧ ∀ c ∈ xs, IsL l c
def IsL : List LK → List FD → Prop
  | [], ds => ds = []
  | k :: ks, ds => ∃ e es, ds = e :: es ∧ IsK k e ∧ IsL ks es
end
theorem isL_len : ∀ {l : List LK} {ds : List FD}, IsL l ds → ds.length = l.length
  | [], ds, h => by unfold IsL at h; subst h; rfl
  | k :: l, ds, h => by
    unfold IsL at h
    obtain ⟨e, es, rfl, -, h2⟩ := h
    simp [isL_len h2]
theorem isL_app : ∀ {l : List LK} {ds : List FD} {l' : List LK} {es : List FD}, IsL l ds → IsL l' es → IsL (l ++ l') (ds ++ es)
  | [], ds, l', es, h, k => by unfold IsL at h; subst h; exact k
  | _ :: l, ds, l', es, h, k => by
    unfold IsL at h
    obtain ⟨e, r, rfl, h1, h2⟩ := h
    simp only [List.cons_append]
    unfold IsL
    exact ⟨e, _, rfl, h1, isL_app h2 k⟩
/-! ### How great it is -/
mutual
def bk : FD → Nat
  | .v (.string s) => s.size + 1
  | .v _ => 1
  | .sl _ xs => bkLL xs + 1
  | _ => 1
def bkL : List FD → Nat
  | [] => 0
  | d :: ds => bk d + bkL ds
def bkLL : List (List FD) → Nat
  | [] => 0
  | c :: cs => bkL c + bkLL cs
end
theorem bkL_app : ∀ (a b : List FD), bkL (a ++ b) = bkL a + bkL b
  | [], b => by simp [bkL]
  | d :: a, b => by simp only [List.cons_append, bkL, bkL_app a b]; omega

theorem len_rep (l : List LK) : ∀ n, (List.replicate n l).flatten.length = n * l.length
  | 0 => by simp
  | n + 1 => by rw [List.replicate_succ, List.flatten_cons, List.length_append, len_rep l n, Nat.succ_mul, Nat.add_comm]
section
variable {H : Type} {enc : TypeId × Value → H} {P : Program} {w : World} {spare : Nat → Bool} {held : Bool}
theorem cells_at {a : Addr} {n : Nat} {vs : List Value} (h : w.cells? 0 a n = some vs) : vs.length = n ∧ ∀ j u, vs[j]? = some u → w.cell? (a.add j) = some u := by
  unfold World.cells? at h
  rw [if_pos (Nat.zero_le _)] at h
  have hl := mapM_some_length h
  simp at hl
  refine ⟨hl, fun j u hu => ?_⟩
  have hj : j < n := by rw [← hl]; exact (List.getElem?_eq_some_iff.1 hu).1
  have := mapM_some_get h j j (by simp [hj])
  rw [this, hu]
theorem repR_mk {x : X} {b sz : Nat} {f : Nat → List FD} : ∀ (n s o : Nat), (∀ i, i < n → (f (s + i)).length = sz ∧ RepA x b (o + i * sz) (f (s + i))) → RepR x b o sz ((List.range' s n).map f)
  | 0, s, o, _ => by simp [RepR]
  | n + 1, s, o, h => by
    rw [List.range'_succ, List.map_cons]
    unfold RepR
    obtain ⟨h1, h2⟩ := h 0 (by omega)
    simp only [Nat.zero_mul, Nat.add_zero] at h1 h2
    refine ⟨h1, h2, repR_mk n (s + 1) (o + sz) fun i hi => ?_⟩
    have := h (i + 1) (by omega)
    rw [show s + 1 + i = s + (i + 1) by omega, show o + sz + i * sz = o + (i + 1) * sz by rw [Nat.add_mul]; omega]
    exact this
theorem bkLL_le {f : Nat → List FD} : ∀ (es : List (DataW H × List MemPlace)) (s : Nat), (∀ i e, es[i]? = some e → bkL (f (s + i)) ≤ Rows.uptoBulk e.1) → bkLL ((List.range' s es.length).map f) ≤ Rows.uptoBulkAll (es.map (·.1))
  | [], s, _ => by simp [bkLL]
  | e :: es, s, h => by
    rw [List.length_cons, List.range'_succ, List.map_cons, List.map_cons]
    simp only [bkLL, Rows.uptoBulkAll]
    have h0 := h 0 e rfl
    have ih := bkLL_le es (s + 1) fun i e' hi => by
      have := h (i + 1) e' (by simpa using hi)
      rw [show s + 1 + i = s + (i + 1) by omega]
      exact this
    simp only [Nat.add_zero] at h0
    omega
def wx (w : World) : X := ⟨fun _ _ => False, w⟩
theorem items_rep {l : List LK} {c : Nat} (hc : l.length = c) {e : TypeId} {fuel : Nat}
    (IH : ∀ cs x, DataW.trod enc P w 0 spare held fuel e cs = some x → ∃ fds, RepC (wx w) cs fds ∧ IsL l fds ∧ bkL fds ≤ Rows.uptoBulk x.1) (cs : List Value) :
    ∀ (xs : List (DataW H × List MemPlace)) (s : Nat), (∀ i y, xs[i]? = some y → DataW.trod enc P w 0 spare held fuel e ((cs.drop ((s + i) * c)).take c) = some y) → cs.length = (s + xs.length) * c →
      ∃ fds, RepC (wx w) (cs.drop (s * c)) fds ∧ IsL (List.replicate xs.length l).flatten fds ∧ bkL fds ≤ Rows.uptoBulkAll (xs.map (·.1))
  | [], s, _, hl => ⟨[], by rw [List.drop_of_length_le (by rw [hl]; simp)]; simp [RepC], by simp [IsL], by simp [bkL]⟩
  | y :: xs, s, h, hl => by
    have h0 := h 0 y rfl
    rw [Nat.add_zero] at h0
    obtain ⟨f1, k1, k2, k3⟩ := IH _ _ h0
    obtain ⟨f2, j1, j2, j3⟩ := items_rep hc IH cs xs (s + 1) (fun i z hz => by
      have := h (i + 1) z (by simpa using hz)
      rw [show s + 1 + i = s + (i + 1) by omega]
      exact this) (by rw [hl]; simp; congr 1; omega)
    refine ⟨f1 ++ f2, ?_, ?_, ?_⟩
    · have := repC_append k1 j1
      rw [show cs.drop ((s + 1) * c) = (cs.drop (s * c)).drop c by rw [List.drop_drop, Nat.succ_mul], List.take_append_drop] at this
      exact this
    · rw [List.length_cons, List.replicate_succ, List.flatten_cons]
      exact isL_app k2 j2
    · rw [bkL_app, List.map_cons]
      simp only [Rows.uptoBulkAll]
      omega
theorem fields_rep {m fuel : Nat}
    (IH : ∀ t l, flat P m t = some l → l.length = P.cellsOf t → ∀ cs x, DataW.trod enc P w 0 spare held fuel t cs = some x → ∃ fds, RepC (wx w) cs fds ∧ IsL l fds ∧ bkL fds ≤ Rows.uptoBulk x.1) (cs : List Value) :
    ∀ (fs : List Field) (xs : List (DataW H × List MemPlace)) (off : Nat) (l : List LK), flatFs (flat P m) P.cellsOf off fs = some l → xs.length = fs.length → (∀ (i : Nat) (f : Field), fs[i]? = some f → DataW.trod enc P w 0 spare held fuel f.type ((cs.drop f.offset).take (P.cellsOf f.type)) = xs[i]?) → cs.length = off + l.length →
      ∃ fds, RepC (wx w) (cs.drop off) fds ∧ IsL l fds ∧ bkL fds ≤ Rows.uptoBulkAll (xs.map (·.1))
  | [], xs, off, l, hf, hx, _, hl => by
    cases hf
    have : xs = [] := by simpa using hx
    subst this
    exact ⟨[], by rw [List.drop_of_length_le (by rw [hl]; simp)]; simp [RepC], by simp [IsL], by simp [bkL]⟩
  | f :: fs, [], off, l, hf, hx, _, hl => by simp at hx
  | f :: fs, y :: xs, off, l, hf, hx, h, hl => by
    simp only [flatFs, Option.bind_eq_some_iff] at hf
    obtain ⟨l1, h1, h2⟩ := hf
    split at h2
    · rename_i hh
      obtain ⟨rfl, hn, hc⟩ := hh
      simp only [Option.map_eq_some_iff] at h2
      obtain ⟨l2, h2, rfl⟩ := h2
      obtain ⟨f1, k1, k2, k3⟩ := IH _ _ h1 hc _ _ (h 0 f rfl)
      obtain ⟨f2, j1, j2, j3⟩ := fields_rep IH cs fs xs (f.offset + l1.length) l2 h2 (by simpa using hx) (fun i g hg => by simpa using h (i + 1) g (by simpa using hg)) (by rw [hl, List.length_append]; omega)
      refine ⟨f1 ++ f2, ?_, isL_app k2 j2, ?_⟩
      · have := repC_append k1 j1
        rw [← List.drop_drop, hc, List.take_append_drop] at this
        exact this
      · rw [bkL_app, List.map_cons]
        simp only [Rows.uptoBulkAll]
        omega
    · cases h2
/-- WHAT A READING HAS FOUND IS DATA OF THE TYPE's KIND, no greater than the reading. -/
theorem trod_rep : ∀ (m : Nat) (t : TypeId) (l : List LK), flat P m t = some l → l.length = P.cellsOf t → ∀ (fuel : Nat) (cs : List Value) (x : DataW H × List MemPlace), DataW.trod enc P w 0 spare held fuel t cs = some x →
    ∃ fds, RepC (wx w) cs fds ∧ IsL l fds ∧ bkL fds ≤ Rows.uptoBulk x.1
  | 0, _, _, h, _, _, _, _, _ => by simp [flat] at h
  | m + 1, t, l, hf, hlc, fuel, cs, x, hx => by
    cases flat_way hf with
    | b hu hl =>
      subst hl
      obtain ⟨b, rfl, rfl⟩ := DataW.trod_bool hu hx
      exact ⟨[.v (.bool b)], by simp only [RepC, Rep]; exact ⟨_, _, rfl, rfl, rfl, rfl⟩, by simp [IsL, IsK], by simp [bkL, bk, Rows.uptoBulk]⟩
    | i k hu hl =>
      subst hl
      obtain ⟨n, rfl, rfl, hw⟩ := DataW.trod_int hu hx
      exact ⟨[.v (.int k n)], by simp only [RepC, Rep]; exact ⟨_, _, rfl, rfl, rfl, rfl⟩, by simp [IsL, IsK, hw], by simp [bkL, bk, Rows.uptoBulk]⟩
    | s hu hl =>
      subst hl
      obtain ⟨s, rfl, rfl, hw⟩ := DataW.trod_string hu hx
      exact ⟨[.v (.string s)], by simp only [RepC, Rep]; exact ⟨_, _, rfl, rfl, rfl, rfl⟩, by simp [IsL, IsK, hw], by simp [bkL, bk, Rows.uptoBulk]⟩
    | sl e l' hu hf' hc hl =>
      subst hl
      rcases DataW.trod_slice hu hx with ⟨rfl, rfl⟩ | ⟨a, len, cap, elems, rest, n, rfl, rfl, rfl, -, hlc', hcm, hel, hall, -⟩
      · refine ⟨[.sl l'.length []], ?_, by simp [IsL, IsK], by simp [bkL, bk, bkLL, Rows.uptoBulk]⟩
        simp only [RepC, Rep]
        exact ⟨_, _, rfl, rfl, ⟨none, 0, rfl, ⟨Nat.le_refl _, Nat.zero_le _⟩, fun _ => rfl, fun h => absurd rfl h⟩, rfl⟩
      · have hex : ∀ i, ∃ fds : List FD, i < len → (∃ y, elems[i]? = some y ∧ bkL fds ≤ Rows.uptoBulk y.1) ∧ IsL l' fds ∧ ∃ vs, w.cells? 0 (a.add (i * P.cellsOf e)) (P.cellsOf e) = some vs ∧ RepC (wx w) vs fds := by
          intro i
          by_cases hi : i < len
          · have h1 := hall i hi
            have hlt : i < elems.length := by omega
            rw [List.getElem?_eq_getElem hlt, Option.bind_eq_some_iff] at h1
            obtain ⟨vs, h1, h2⟩ := h1
            obtain ⟨fds, k1, k2, k3⟩ := trod_rep m e l' hf' hc.1 n vs _ h2
            exact ⟨fds, fun _ => ⟨⟨_, List.getElem?_eq_getElem hlt, k3⟩, k2, vs, h1, k1⟩⟩
          · exact ⟨[], fun h => absurd h hi⟩
        obtain ⟨f, hfd⟩ := Classical.axiomOfChoice hex
        refine ⟨[.sl l'.length ((List.range' 0 len).map f)], ?_, ?_, ?_⟩
        · simp only [RepC, Rep]
          refine ⟨_, _, rfl, rfl, ⟨some a, cap, by simp, ⟨by simpa using hlc', hcm⟩, (fun h => by cases h), fun hne => ?_⟩, rfl⟩
          have hpos : 0 < len := by
            rcases Nat.eq_zero_or_pos len with h | h
            · subst h; exact absurd rfl hne
            · exact h
          obtain ⟨-, hi0, vs0, hc0, hr0⟩ := hfd 0 hpos
          obtain ⟨hl0, hcell0⟩ := cells_at hc0
          have hv0 : ∃ u, vs0[0]? = some u := ⟨_, List.getElem?_eq_getElem (by rw [hl0, ← hc.1]; exact hc.2)⟩
          obtain ⟨u0, hu0⟩ := hv0
          have hs := hcell0 0 u0 hu0
          obtain ⟨b, off, spot⟩ := a
          have hspot : spot = none := by simpa [Addr.add] using World.cell?_spot hs
          subst hspot
          refine ⟨b, off, rfl, repR_mk len 0 off fun i hi => ?_⟩
          rw [Nat.zero_add]
          obtain ⟨-, hik, vs, hcs, hrc⟩ := hfd i hi
          obtain ⟨hl1, hcell⟩ := cells_at hcs
          refine ⟨isL_len hik, repA_of hrc fun j u hj => ⟨?_, fun h => h⟩⟩
          have := hcell j u hj
          rw [Go.WideShapes.add_plain, Go.WideShapes.add_plain] at this
          rw [hc.1]
          exact this
        · simp only [IsL, IsK]
          refine ⟨_, _, rfl, ⟨_, rfl, fun c hcm => ?_⟩, rfl⟩
          obtain ⟨i, hi, rfl⟩ := List.mem_map.1 hcm
          simp at hi
          exact (hfd i (by omega)).2.1
        · simp only [bkL, bk, Rows.uptoBulk]
          have := bkLL_le (f := f) elems 0 fun i y hy => by
            have hi : i < len := by rw [← hel]; exact (List.getElem?_eq_some_iff.1 hy).1
            obtain ⟨⟨y', hy', hb⟩, -⟩ := hfd i hi
            rw [hy] at hy'
            cases hy'
            rw [Nat.zero_add]
            exact hb
          rw [hel] at this
          omega
    | arr n e l' hu hf' hc hl =>
      subst hl
      obtain ⟨xs, fu, rfl, rfl, hcl, hxn, hall⟩ := DataW.trod_array hu hx
      have hlen : cs.length = n * P.cellsOf e := by
        rw [hcl, ← hlc]
        rw [← hc]
        exact len_rep l' n
      obtain ⟨fds, k1, k2, k3⟩ := items_rep hc (fun cs x h => trod_rep m e l' hf' hc fu cs x h) cs xs 0 (fun i y hy => by
        have hi : i < n := by rw [← hxn]; exact (List.getElem?_eq_some_iff.1 hy).1
        rw [Nat.zero_add, hall i hi, hy]) (by rw [hlen, Nat.zero_add, hxn])
      refine ⟨fds, by simpa using k1, by rw [← hxn]; exact k2, ?_⟩
      simp only [Rows.uptoBulk]
      omega
    | struct fs hu hf' hs =>
      obtain ⟨xs, fu, rfl, rfl, hcl, hxn, hall⟩ := DataW.trod_struct hu hx
      obtain ⟨fds, k1, k2, k3⟩ := fields_rep (fun t l h1 h2 cs x h => trod_rep m t l h1 h2 fu cs x h) cs fs.toList xs 0 l hf' (by simpa using hxn) (fun i f hi => hall i f (by simpa using hi)) (by rw [hcl, Nat.zero_add, hlc])
      refine ⟨fds, by simpa using k1, k2, ?_⟩
      simp only [Rows.uptoBulk]
      omega
end
end Go.Proofs.YthpmgnbehahkfaaGreat
end
section
namespace Go.Proofs.YthpmgnbehahkfaaGreat
open Go.RowKit Go.Dk Go.Dn Go.ChangeShapes Go.WideShapes Go.ChangeAt

def pk (agg : Bool) (ds : List FD) : FD := match agg, ds with
  | false, [d] => d
  | _, ds => .agg ds
def packs (P : Program) : List TypeId → List (List FD) → List FD
  | t :: ts, d :: ds => pk (aggB P t) d :: packs P ts ds
  | _, _ => []
def FlatAll (P : Program) : List TypeId → List (List LK) → Prop
  | [], [] => True
  | t :: ts, l :: ls => (∃ m, flat P m t = some l ∧ l.length = P.cellsOf t) ∧ FlatAll P ts ls
  | _, _ => False
def IsLL : List (List LK) → List (List FD) → Prop
  | [], [] => True
  | l :: ls, d :: ds => IsL l d ∧ IsLL ls ds
  | _, _ => False

theorem isLL_cons {l : List LK} {ls : List (List LK)} {dss : List (List FD)} (h : IsLL (l :: ls) dss) : ∃ d ds, dss = d :: ds ∧ IsL l d ∧ IsLL ls ds := by
  cases dss with
  | nil => exact h.elim
  | cons d ds => exact ⟨d, ds, rfl, h⟩
theorem isLL_nil {dss : List (List FD)} (h : IsLL [] dss) : dss = [] := by
  cases dss with
  | nil => rfl
  | cons d ds => exact h.elim
section
variable {H : Type} {enc : TypeId × Value → H} {P : Program} {W : World}
theorem rep_one {x : X} {v : Value} {d : FD} (h : RepC x [v] [d]) : Rep x v d := by
  unfold RepC at h
  obtain ⟨u, us, e, -, h, -⟩ := h
  cases e
  exact h
theorem val_rep {t : TypeId} {m : Nat} {l : List LK} (hf : flat P m t = some l) {base : Nat} {v : Value} (hok : Value.okWide P W .any base t v) {fds : List FD} (h : RepC (wx W) v.cells.toList fds) (hl : IsL l fds) : Rep (wx W) v (pk (aggB P t) fds) := by
  have one : l.length = 1 → ∃ d, fds = [d] := fun h1 => by
    have := isL_len hl
    match fds, this with
    | [d], _ => exact ⟨d, rfl⟩
    | [], h => simp at h; omega
    | _ :: _ :: _, h => simp at h; omega
  have agg : aggB P t = true → ∀ cs, v = .agg cs → Rep (wx W) v (pk (aggB P t) fds) := fun ha cs e => by
    subst e
    rw [ha]
    show Rep (wx W) _ (.agg fds)
    unfold Rep
    exact ⟨cs.toList, rfl, h⟩
  cases m with
  | zero => simp [flat] at hf
  | succ m =>
    cases flat_way hf with
    | b hu hl' =>
      subst hl'
      obtain ⟨b, rfl⟩ := okWide_bool hu hok
      obtain ⟨d, rfl⟩ := one rfl
      have ha : aggB P t = false := by unfold aggB; rw [hu]
      rw [ha]
      exact rep_one h
    | i k hu hl' =>
      subst hl'
      obtain ⟨b, rfl⟩ := okWide_int hu hok
      obtain ⟨d, rfl⟩ := one rfl
      have ha : aggB P t = false := by unfold aggB; rw [hu]
      rw [ha]
      exact rep_one h
    | s hu hl' =>
      subst hl'
      obtain ⟨b, rfl⟩ := okWide_string hu hok
      obtain ⟨d, rfl⟩ := one rfl
      have ha : aggB P t = false := by unfold aggB; rw [hu]
      rw [ha]
      exact rep_one h
    | sl e l' hu _ _ hl' =>
      subst hl'
      obtain ⟨a, n, c, rfl⟩ := okWide_slice hu hok
      obtain ⟨d, rfl⟩ := one rfl
      have ha : aggB P t = false := by unfold aggB; rw [hu]
      rw [ha]
      exact rep_one h
    | arr n e l' hu _ _ _ =>
      have ha : aggB P t = true := by unfold aggB; rw [hu]
      simp only [Value.okWide, hu] at hok
      obtain ⟨cs, e, -⟩ := hok
      exact agg ha cs e
    | struct fs hu _ _ =>
      have ha : aggB P t = true := by unfold aggB; rw [hu]
      obtain ⟨cs, e, -⟩ := okWide_struct hu hok
      exact agg ha cs e
theorem trodAll_rep {base : Nat} : ∀ (ts : List TypeId) (ls : List (List LK)) (vs : List Value) (ds : List (DataW H)) (ps : List MemPlace), FlatAll P ts ls → DataW.TrodAll enc P W 0 (fun _ => true) true ts vs ds ps →
    (∀ (j : Nat) t v, ts[j]? = some t → vs[j]? = some v → Value.okWide P W .any base t v) → ∃ dss, IsLL ls dss ∧ bkLL dss ≤ Rows.uptoBulkAll ds ∧ RepL (wx W) vs (packs P ts dss)
  | [], [], vs, ds, ps, _, h, _ => by
    obtain ⟨rfl, rfl, rfl⟩ := trodAll_nil h
    exact ⟨[], trivial, by simp [bkLL, Rows.uptoBulkAll], by simp [packs, RepL]⟩
  | t :: ts, l :: ls, vs, ds, ps, ⟨⟨m, hf, hc⟩, hfs⟩, h, hok => by
    obtain ⟨v, vs', d, ds', p, q, rfl, rfl, rfl, h1, h2⟩ := trodAll_cons h
    obtain ⟨dss, k1, k2, k3⟩ := trodAll_rep ts ls vs' ds' q hfs h2 (fun j t v h1 h2 => hok (j + 1) t v (by simpa using h1) (by simpa using h2))
    obtain ⟨fuel, h1⟩ := h1
    obtain ⟨fds, j1, j2, j3⟩ := trod_rep m t l hf hc fuel _ _ h1
    refine ⟨fds :: dss, ⟨j2, k1⟩, ?_, ?_⟩
    · dsimp only at j3
      simp only [bkLL, Rows.uptoBulkAll]
      omega
    · simp only [packs]
      unfold RepL
      exact ⟨v, vs', rfl, val_rep hf (hok 0 t v rfl rfl) j1 j2, k3⟩
  | [], _ :: _, _, _, _, h, _, _ => h.elim
  | _ :: _, [], _, _, _, h, _, _ => h.elim
theorem trodAll_stays (laidOut : laidOutB P = true) {W' : World} (bel : Below W.heap.size W W') : ∀ (ts : List TypeId) (vs : List Value) (ds : List (DataW H)) (ps : List MemPlace), (ts.all fun t => P.readableRec t && decide (t < P.types.size)) = true → DataW.TrodAll enc P W 0 (fun _ => true) true ts vs ds ps →
    DataW.TrodAll enc P W' 0 (fun b => decide (b < W.heap.size)) true ts vs ds ps
  | [], vs, ds, ps, _, h => by
    obtain ⟨rfl, rfl, rfl⟩ := trodAll_nil h
    exact trodAll_mk0
  | t :: ts, vs, ds, ps, ht, h => by
    obtain ⟨v, vs', d, ds', p, q, rfl, rfl, rfl, h1, h2⟩ := trodAll_cons h
    simp only [List.all_cons, Bool.and_eq_true, decide_eq_true_eq] at ht
    have lt : ∀ x ∈ p, x.block < W.heap.size := by obtain ⟨m, hm⟩ := h1; exact DataW.trod_lt m _ _ _ hm
    exact trodAll_cons_mk (Below.trod laidOut ht.1.1 ht.1.2 h1 bel lt) (trodAll_stays laidOut bel ts vs' ds' q (by simpa using ht.2) h2)

/-- what the form asks, from a contract of data -/
theorem law_contract {f : FuncId} {fn : Func} {s : ChangeSpec} {ts : List TypeId} {tb : TypeId} {ls : List (List LK)} (laidOut : laidOutB P = true) (hts : fn.params.toList = ts) (hrs : fn.resultTypes = #[tb]) (htb : P.underlying tb = some .bool) (hsv : s.vars = [])
    (hs : ∀ (ds : List (DataW H)), ds.length = ts.length → (s.fn H ds).results = [.lit (.bool true)] ∧ (s.fn H ds).args = ds ∧ (s.fn H ds).vars = []) (hfl : FlatAll P ts ls) (hrd : (ts.all fun t => P.readableRec t && decide (t < P.types.size)) = true)
    (hp : ∀ dss : List (List FD), IsLL ls dss → bkLL dss ≤ 1048576 → Pure P f (packs P ts dss) (.v (.bool true)))
    (base : Nat) (args : Array Value) (ds gs : List (DataW H)) (before : List MemPlace)
    (hval : ∀ (j : Nat) t v, fn.params[j]? = some t → args[j]? = some v → Value.okWide P W .any base t v)
    (hW : DataW.Whole enc P fn.params.toList s.vars false W args.toList ds gs before) (hk : Rows.uptoSmall H (ds ++ gs) = true) :
    Calls P f args W fun e W' => ∃ v, e = .returned v ∧ s.post enc P fn false true false false W args v W' := by
  have hW' := hW
  obtain ⟨p, q, hA, hV, rfl, hfz, hnd⟩ := hW
  rw [hsv] at hV
  obtain ⟨rfl, rfl⟩ := trodVars_none hV
  rw [hts] at hA
  have hb : Rows.uptoBulkAll (ds ++ []) ≤ 1048576 := of_decide_eq_true hk
  rw [List.append_nil] at hb
  obtain ⟨dss, k1, k2, k3⟩ := trodAll_rep ts ls _ _ _ hfl hA (base := base) (fun j t v h1 h2 => hval j t v (by rw [← hts] at h1; simpa using h1) (by simpa using h2))
  have hlen : ds.length = ts.length := by
    clear k1 k2 k3 hb hk hval hV hrd hp hs hrs hts hfz hnd hW' hfl
    generalize args.toList = vs at hA
    induction ts generalizing vs ds p with
    | nil => obtain ⟨-, rfl, -⟩ := trodAll_nil hA; rfl
    | cons t ts ih =>
      obtain ⟨v, vs', d, ds', p, q, rfl, rfl, rfl, h1, h2⟩ := trodAll_cons hA
      simp [ih _ _ _ h2]
  obtain ⟨-, hcall⟩ := hp dss k1 (by omega)
  have hc := hcall (wx W) args.toList (fun b o h => h.elim) k3
  rw [show args.toList.toArray = args by simp] at hc
  refine hc.mono ?_
  rintro e W' ⟨v, rfl, hv, hch⟩
  unfold Rep at hv
  subst hv
  have bel : Below W.heap.size W W' := hch.below
  obtain ⟨s1, s2, s3⟩ := hs ds hlen
  refine ⟨_, rfl, ds, [], _, [], p, [], hW', ?_, ?_, ?_, ?_, fun h => by cases h⟩
  · rw [List.append_nil, s1, hrs]
    exact trodAll_mk1 (shut_bool htb _)
  · rw [List.append_nil, s2, hts]
    exact trodAll_stays laidOut bel _ _ _ _ hrd hA
  · rw [List.append_nil, s3, hsv]
    rfl
  · exact bel.frame _
end
end Go.Proofs.YthpmgnbehahkfaaGreat
end
