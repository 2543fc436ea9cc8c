/- What a statement reads is data. -/
/- Data of a cluster's kind is a cluster. -/
/- A law over data: from its contract to what the form asks. -/
import Derived.Test.YthpmgnbehahkfaaGreatJQb
import Derived.Test.YthpmgnbehahkfaaGreatRows
import Derived.OpenShut
import Derived.Test.YthpmgnbehahkfaaGreatJEb
import Derived.WalkKit
import Derived.ProofKit
import Derived.JoinedCond
import Derived.Carry
set_option linter.unusedSimpArgs false
set_option linter.unusedVariables false
section
namespace Go.Proofs.YthpmgnbehahkfaaGreat
open Go.RowKit Go.Dk Go.Dn Go.ChangeShapes

/-! ### Data of a kind -/
mutual
def IsK : LK → FD → Prop
  | .b, d => ∃ x, d = .v (.bool x)
  | .i k, d => ∃ n, d = .v (.int k n) ∧ (Lit.int k n).wf = true
  | .s, d => ∃ s : ByteArray, d = .v (.string s) ∧ s.size ≤ maxLen
  | .sl l, d => ∃ xs, d = .sl l.length xs ∧ ∀ c ∈ xs, IsL l c
def IsL : List LK → List FD → Prop
  | [], ds => ds = []
  | k :: ks, ds => ∃ e es, ds = e :: es ∧ IsK k e ∧ IsL ks es
end
theorem isL_len : ∀ {l : List LK} {ds : List FD}, IsL l ds → ds.length = l.length
  | [], ds, h => by unfold IsL at h; subst h; rfl
  | k :: l, ds, h => by
    unfold IsL at h
    obtain ⟨e, es, rfl, -, h2⟩ := h
    simp [isL_len h2]
theorem isL_app : ∀ {l : List LK} {ds : List FD} {l' : List LK} {es : List FD}, IsL l ds → IsL l' es → IsL (l ++ l') (ds ++ es)
  | [], ds, l', es, h, k => by unfold IsL at h; subst h; exact k
  | _ :: l, ds, l', es, h, k => by
    unfold IsL at h
    obtain ⟨e, r, rfl, h1, h2⟩ := h
    simp only [List.cons_append]
    unfold IsL
    exact ⟨e, _, rfl, h1, isL_app h2 k⟩
/-! ### How great it is -/
mutual
def bk : FD → Nat
  | .v (.string s) => s.size + 1
  | .v _ => 1
  | .sl _ xs => bkLL xs + 1
  | _ => 1
def bkL : List FD → Nat
  | [] => 0
  | d :: ds => bk d + bkL ds
def bkLL : List (List FD) → Nat
  | [] => 0
  | c :: cs => bkL c + bkLL cs
end
theorem bkL_app : ∀ (a b : List FD), bkL (a ++ b) = bkL a + bkL b
  | [], b => by simp [bkL]
  | d :: a, b => by simp only [List.cons_append, bkL, bkL_app a b]; omega

theorem len_rep (l : List LK) : ∀ n, (List.replicate n l).flatten.length = n * l.length
  | 0 => by simp
  | n + 1 => by rw [List.replicate_succ, List.flatten_cons, List.length_append, len_rep l n, Nat.succ_mul, Nat.add_comm]
section
variable {H : Type} {enc : TypeId × Value → H} {P : Program} {w : World} {spare : Nat → Bool} {held : Bool}
theorem cells_at {a : Addr} {n : Nat} {vs : List Value} (h : w.cells? 0 a n = some vs) : vs.length = n ∧ ∀ j u, vs[j]? = some u → w.cell? (a.add j) = some u := by
  unfold World.cells? at h
  rw [if_pos (Nat.zero_le _)] at h
  have hl := mapM_some_length h
  simp at hl
  refine ⟨hl, fun j u hu => ?_⟩
  have hj : j < n := by rw [← hl]; exact (List.getElem?_eq_some_iff.1 hu).1
  have := mapM_some_get h j j (by simp [hj])
  rw [this, hu]
theorem repR_mk {x : X} {b sz : Nat} {f : Nat → List FD} : ∀ (n s o : Nat), (∀ i, i < n → (f (s + i)).length = sz ∧ RepA x b (o + i * sz) (f (s + i))) → RepR x b o sz ((List.range' s n).map f)
  | 0, s, o, _ => by simp [RepR]
  | n + 1, s, o, h => by
    rw [List.range'_succ, List.map_cons]
    unfold RepR
    obtain ⟨h1, h2⟩ := h 0 (by omega)
    simp only [Nat.zero_mul, Nat.add_zero] at h1 h2
    refine ⟨h1, h2, repR_mk n (s + 1) (o + sz) fun i hi => ?_⟩
    have := h (i + 1) (by omega)
    rw [show s + 1 + i = s + (i + 1) by omega, show o + sz + i * sz = o + (i + 1) * sz by rw [Nat.add_mul]; omega]
    exact this
theorem bkLL_le {f : Nat → List FD} : ∀ (es : List (DataW H × List MemPlace)) (s : Nat), (∀ i e, es[i]? = some e → bkL (f (s + i)) ≤ Rows.uptoBulk e.1) → bkLL ((List.range' s es.length).map f) ≤ Rows.uptoBulkAll (es.map (·.1))
  | [], s, _ => by simp [bkLL]
  | e :: es, s, h => by
    rw [List.length_cons, List.range'_succ, List.map_cons, List.map_cons]
    simp only [bkLL, Rows.uptoBulkAll]
    have h0 := h 0 e rfl
    have ih := bkLL_le es (s + 1) fun i e' hi => by
      have := h (i + 1) e' (by simpa using hi)
      rw [show s + 1 + i = s + (i + 1) by omega]
      exact this
    simp only [Nat.add_zero] at h0
    omega
def wx (w : World) : X := ⟨fun _ _ => False, w⟩
theorem items_rep {l : List LK} {c : Nat} (hc : l.length = c) {e : TypeId} {fuel : Nat}
    (IH : ∀ cs x, DataW.trod enc P w 0 spare held fuel e cs = some x → ∃ fds, RepC (wx w) cs fds ∧ IsL l fds ∧ bkL fds ≤ Rows.uptoBulk x.1) (cs : List Value) :
    ∀ (xs : List (DataW H × List MemPlace)) (s : Nat), (∀ i y, xs[i]? = some y → DataW.trod enc P w 0 spare held fuel e ((cs.drop ((s + i) * c)).take c) = some y) → cs.length = (s + xs.length) * c →
      ∃ fds, RepC (wx w) (cs.drop (s * c)) fds ∧ IsL (List.replicate xs.length l).flatten fds ∧ bkL fds ≤ Rows.uptoBulkAll (xs.map (·.1))
  | [], s, _, hl => ⟨[], by rw [List.drop_of_length_le (by rw [hl]; simp)]; simp [RepC], by simp [IsL], by simp [bkL]⟩
  | y :: xs, s, h, hl => by
    have h0 := h 0 y rfl
    rw [Nat.add_zero] at h0
    obtain ⟨f1, k1, k2, k3⟩ := IH _ _ h0
    obtain ⟨f2, j1, j2, j3⟩ := items_rep hc IH cs xs (s + 1) (fun i z hz => by
      have := h (i + 1) z (by simpa using hz)
      rw [show s + 1 + i = s + (i + 1) by omega]
      exact this) (by rw [hl]; simp; congr 1; omega)
    refine ⟨f1 ++ f2, ?_, ?_, ?_⟩
    · have := repC_append k1 j1
      rw [show cs.drop ((s + 1) * c) = (cs.drop (s * c)).drop c by rw [List.drop_drop, Nat.succ_mul], List.take_append_drop] at this
      exact this
    · rw [List.length_cons, List.replicate_succ, List.flatten_cons]
      exact isL_app k2 j2
    · rw [bkL_app, List.map_cons]
      simp only [Rows.uptoBulkAll]
      omega
theorem fields_rep {m fuel : Nat}
    (IH : ∀ t l, flat P m t = some l → l.length = P.cellsOf t → ∀ cs x, DataW.trod enc P w 0 spare held fuel t cs = some x → ∃ fds, RepC (wx w) cs fds ∧ IsL l fds ∧ bkL fds ≤ Rows.uptoBulk x.1) (cs : List Value) :
    ∀ (fs : List Field) (xs : List (DataW H × List MemPlace)) (off : Nat) (l : List LK), flatFs (flat P m) P.cellsOf off fs = some l → xs.length = fs.length → (∀ (i : Nat) (f : Field), fs[i]? = some f → DataW.trod enc P w 0 spare held fuel f.type ((cs.drop f.offset).take (P.cellsOf f.type)) = xs[i]?) → cs.length = off + l.length →
      ∃ fds, RepC (wx w) (cs.drop off) fds ∧ IsL l fds ∧ bkL fds ≤ Rows.uptoBulkAll (xs.map (·.1))
  | [], xs, off, l, hf, hx, _, hl => by
    cases hf
    have : xs = [] := by simpa using hx
    subst this
    exact ⟨[], by rw [List.drop_of_length_le (by rw [hl]; simp)]; simp [RepC], by simp [IsL], by simp [bkL]⟩
  | f :: fs, [], off, l, hf, hx, _, hl => by simp at hx
  | f :: fs, y :: xs, off, l, hf, hx, h, hl => by
    simp only [flatFs, Option.bind_eq_some_iff] at hf
    obtain ⟨l1, h1, h2⟩ := hf
    split at h2
    · rename_i hh
      obtain ⟨rfl, hn, hc⟩ := hh
      simp only [Option.map_eq_some_iff] at h2
      obtain ⟨l2, h2, rfl⟩ := h2
      obtain ⟨f1, k1, k2, k3⟩ := IH _ _ h1 hc _ _ (h 0 f rfl)
      obtain ⟨f2, j1, j2, j3⟩ := fields_rep IH cs fs xs (f.offset + l1.length) l2 h2 (by simpa using hx) (fun i g hg => by simpa using h (i + 1) g (by simpa using hg)) (by rw [hl, List.length_append]; omega)
      refine ⟨f1 ++ f2, ?_, isL_app k2 j2, ?_⟩
      · have := repC_append k1 j1
        rw [← List.drop_drop, hc, List.take_append_drop] at this
        exact this
      · rw [bkL_app, List.map_cons]
        simp only [Rows.uptoBulkAll]
        omega
    · cases h2
/-- WHAT A READING HAS FOUND IS DATA OF THE TYPE's KIND, no greater than the reading. -/
theorem trod_rep : ∀ (m : Nat) (t : TypeId) (l : List LK), flat P m t = some l → l.length = P.cellsOf t → ∀ (fuel : Nat) (cs : List Value) (x : DataW H × List MemPlace), DataW.trod enc P w 0 spare held fuel t cs = some x →
    ∃ fds, RepC (wx w) cs fds ∧ IsL l fds ∧ bkL fds ≤ Rows.uptoBulk x.1
  | 0, _, _, h, _, _, _, _, _ => by simp [flat] at h
  | m + 1, t, l, hf, hlc, fuel, cs, x, hx => by
    cases flat_way hf with
    | b hu hl =>
      subst hl
      obtain ⟨b, rfl, rfl⟩ := DataW.trod_bool hu hx
      exact ⟨[.v (.bool b)], by simp only [RepC, Rep]; exact ⟨_, _, rfl, rfl, rfl, rfl⟩, by simp [IsL, IsK], by simp [bkL, bk, Rows.uptoBulk]⟩
    | i k hu hl =>
      subst hl
      obtain ⟨n, rfl, rfl, hw⟩ := DataW.trod_int hu hx
      exact ⟨[.v (.int k n)], by simp only [RepC, Rep]; exact ⟨_, _, rfl, rfl, rfl, rfl⟩, by simp [IsL, IsK, hw], by simp [bkL, bk, Rows.uptoBulk]⟩
    | s hu hl =>
      subst hl
      obtain ⟨s, rfl, rfl, hw⟩ := DataW.trod_string hu hx
      exact ⟨[.v (.string s)], by simp only [RepC, Rep]; exact ⟨_, _, rfl, rfl, rfl, rfl⟩, by simp [IsL, IsK, hw], by simp [bkL, bk, Rows.uptoBulk]⟩
    | sl e l' hu hf' hc hl =>
      subst hl
      rcases DataW.trod_slice hu hx with ⟨rfl, rfl⟩ | ⟨a, len, cap, elems, rest, n, rfl, rfl, rfl, -, hlc', hcm, hel, hall, -⟩
      · refine ⟨[.sl l'.length []], ?_, by simp [IsL, IsK], by simp [bkL, bk, bkLL, Rows.uptoBulk]⟩
        simp only [RepC, Rep]
        exact ⟨_, _, rfl, rfl, ⟨none, 0, rfl, ⟨Nat.le_refl _, Nat.zero_le _⟩, fun _ => rfl, fun h => absurd rfl h⟩, rfl⟩
      · have hex : ∀ i, ∃ fds : List FD, i < len → (∃ y, elems[i]? = some y ∧ bkL fds ≤ Rows.uptoBulk y.1) ∧ IsL l' fds ∧ ∃ vs, w.cells? 0 (a.add (i * P.cellsOf e)) (P.cellsOf e) = some vs ∧ RepC (wx w) vs fds := by
          intro i
          by_cases hi : i < len
          · have h1 := hall i hi
            have hlt : i < elems.length := by omega
            rw [List.getElem?_eq_getElem hlt, Option.bind_eq_some_iff] at h1
            obtain ⟨vs, h1, h2⟩ := h1
            obtain ⟨fds, k1, k2, k3⟩ := trod_rep m e l' hf' hc.1 n vs _ h2
            exact ⟨fds, fun _ => ⟨⟨_, List.getElem?_eq_getElem hlt, k3⟩, k2, vs, h1, k1⟩⟩
          · exact ⟨[], fun h => absurd h hi⟩
        obtain ⟨f, hfd⟩ := Classical.axiomOfChoice hex
        refine ⟨[.sl l'.length ((List.range' 0 len).map f)], ?_, ?_, ?_⟩
        · simp only [RepC, Rep]
          refine ⟨_, _, rfl, rfl, ⟨some a, cap, by simp, ⟨by simpa using hlc', hcm⟩, (fun h => by cases h), fun hne => ?_⟩, rfl⟩
          have hpos : 0 < len := by
            rcases Nat.eq_zero_or_pos len with h | h
            · subst h; exact absurd rfl hne
            · exact h
          obtain ⟨-, hi0, vs0, hc0, hr0⟩ := hfd 0 hpos
          obtain ⟨hl0, hcell0⟩ := cells_at hc0
          have hv0 : ∃ u, vs0[0]? = some u := ⟨_, List.getElem?_eq_getElem (by rw [hl0, ← hc.1]; exact hc.2)⟩
          obtain ⟨u0, hu0⟩ := hv0
          have hs := hcell0 0 u0 hu0
          obtain ⟨b, off, spot⟩ := a
          have hspot : spot = none := by simpa [Addr.add] using World.cell?_spot hs
          subst hspot
          refine ⟨b, off, rfl, repR_mk len 0 off fun i hi => ?_⟩
          rw [Nat.zero_add]
          obtain ⟨-, hik, vs, hcs, hrc⟩ := hfd i hi
          obtain ⟨hl1, hcell⟩ := cells_at hcs
          refine ⟨isL_len hik, repA_of hrc fun j u hj => ⟨?_, fun h => h⟩⟩
          have := hcell j u hj
          rw [Go.WideShapes.add_plain, Go.WideShapes.add_plain] at this
          rw [hc.1]
          exact this
        · simp only [IsL, IsK]
          refine ⟨_, _, rfl, ⟨_, rfl, fun c hcm => ?_⟩, rfl⟩
          obtain ⟨i, hi, rfl⟩ := List.mem_map.1 hcm
          simp at hi
          exact (hfd i (by omega)).2.1
        · simp only [bkL, bk, Rows.uptoBulk]
          have := bkLL_le (f := f) elems 0 fun i y hy => by
            have hi : i < len := by rw [← hel]; exact (List.getElem?_eq_some_iff.1 hy).1
            obtain ⟨⟨y', hy', hb⟩, -⟩ := hfd i hi
            rw [hy] at hy'
            cases hy'
            rw [Nat.zero_add]
            exact hb
          rw [hel] at this
          omega
    | arr n e l' hu hf' hc hl =>
      subst hl
      obtain ⟨xs, fu, rfl, rfl, hcl, hxn, hall⟩ := DataW.trod_array hu hx
      have hlen : cs.length = n * P.cellsOf e := by
        rw [hcl, ← hlc]
        rw [← hc]
        exact len_rep l' n
      obtain ⟨fds, k1, k2, k3⟩ := items_rep hc (fun cs x h => trod_rep m e l' hf' hc fu cs x h) cs xs 0 (fun i y hy => by
        have hi : i < n := by rw [← hxn]; exact (List.getElem?_eq_some_iff.1 hy).1
        rw [Nat.zero_add, hall i hi, hy]) (by rw [hlen, Nat.zero_add, hxn])
      refine ⟨fds, by simpa using k1, by rw [← hxn]; exact k2, ?_⟩
      simp only [Rows.uptoBulk]
      omega
    | struct fs hu hf' hs =>
      obtain ⟨xs, fu, rfl, rfl, hcl, hxn, hall⟩ := DataW.trod_struct hu hx
      obtain ⟨fds, k1, k2, k3⟩ := fields_rep (fun t l h1 h2 cs x h => trod_rep m t l h1 h2 fu cs x h) cs fs.toList xs 0 l hf' (by simpa using hxn) (fun i f hi => hall i f (by simpa using hi)) (by rw [hcl, Nat.zero_add, hlc])
      refine ⟨fds, by simpa using k1, k2, ?_⟩
      simp only [Rows.uptoBulk]
      omega
end
end Go.Proofs.YthpmgnbehahkfaaGreat
end
section
namespace Go.Proofs.YthpmgnbehahkfaaGreat
open Go.RowKit Go.Dk Go.Dn

theorem bk_pos (d : FD) : 1 ≤ bk d := by
  cases d with
  | v u => cases u <;> simp [bk]
  | _ => simp [bk]
theorem bkL_pos {d : FD} {ds : List FD} : 1 ≤ bkL (d :: ds) := by
  have := bk_pos d
  simp only [bkL]
  omega
theorem bkLL_len : ∀ {xs : List (List FD)}, (∀ c ∈ xs, 1 ≤ bkL c) → xs.length ≤ bkLL xs
  | [], _ => by simp [bkLL]
  | c :: xs, h => by
    have h1 := h c (List.mem_cons_self ..)
    have h2 := bkLL_len (xs := xs) fun c hc => h c (List.mem_cons_of_mem _ hc)
    simp only [bkLL, List.length_cons]
    omega
theorem bkLL_mem : ∀ {xs : List (List FD)} {c : List FD}, c ∈ xs → bkL c ≤ bkLL xs
  | x :: xs, c, h => by
    simp only [bkLL]
    rcases List.mem_cons.1 h with rfl | h
    · omega
    · have := bkLL_mem h; omega
theorem rows_of {α : Type} (a0 : α) (enc : α → List FD) (ok : α → Nat → Prop) (hmono : ∀ a i j, i ≤ j → ok a i → ok a j) {l : List LK} (hone : ∀ c, IsL l c → ∃ a : α, c = enc a ∧ ok a (bkL c) ∧ 1 ≤ bkL c) {d : FD} (h : IsK (.sl l) d) :
    ∃ r : Lst α, d = .sl l.length (encL r.n fun k => enc (r.el k)) ∧ r.n + 1 ≤ bk d ∧ ∀ k, k < r.n → ok (r.el k) (bk d) := by
  unfold IsK at h
  obtain ⟨xs, rfl, h⟩ := h
  have hex : ∀ k : Nat, ∃ a : α, ∀ c, xs[k]? = some c → c = enc a ∧ ok a (bkL c) ∧ 1 ≤ bkL c := by
    intro k
    cases hk : xs[k]? with
    | none => exact ⟨a0, fun c hc => by cases hc⟩
    | some c =>
      obtain ⟨a, h1, h2⟩ := hone c (h c (List.mem_of_getElem? hk))
      exact ⟨a, fun c' hc => by cases hc; exact ⟨h1, h2⟩⟩
  obtain ⟨f, hf⟩ := Classical.axiomOfChoice hex
  refine ⟨⟨xs.length, f⟩, ?_, ?_, fun k hk => ?_⟩
  · congr 1
    apply List.ext_getElem?
    intro k
    by_cases hk : k < xs.length
    · rw [encL_get? _ hk, List.getElem?_eq_getElem hk]
      exact congrArg some (hf k _ (List.getElem?_eq_getElem hk)).1
    · rw [List.getElem?_eq_none (by omega), List.getElem?_eq_none (by rw [encL_len]; exact Nat.not_lt.1 hk)]
  · simp only [bk]
    have := bkLL_len (xs := xs) fun c hc => by
      obtain ⟨k, hk⟩ := List.getElem?_of_mem hc
      exact (hf k c hk).2.2
    omega
  · have hg := List.getElem?_eq_getElem (l := xs) hk
    refine hmono _ _ _ ?_ (hf k _ hg).2.1
    simp only [bk]
    have := bkLL_mem (List.mem_of_getElem? hg)
    omega
def labK : List LK := [.s, .s]
def termK : List LK := [.i .i64, .s, .s]
def nodeK : List LK := [.s, .i .i64, .i .i64, .i .i64, .i .i64, .i .i64, .sl labK, .sl labK, .b, .b]
def podK : List LK := [.s, .s, .i .i64, .i .i64, .i .i64, .i .i64, .i .i64, .sl labK, .sl termK, .sl labK, .s, .sl termK, .s, .sl termK, .s]
def ownerK : List LK := [.s, .i .i64, .s, .i .i64, .b]
def e0 : ByteArray := ByteArray.empty
theorem labs_of {d : FD} (h : IsK (.sl labK) d) : ∃ r : Lst LabD, d = labsF r ∧ (bk d ≤ 1048576 → LabsOk r) := by
  obtain ⟨r, rfl, hn, hk⟩ := rows_of (α := LabD) ⟨e0, e0⟩ labC (fun a i => a.key.size ≤ i ∧ a.val.size ≤ i) (fun a i j hij h => ⟨by omega, by omega⟩) (fun c hc => by
    simp only [labK, IsL, IsK] at hc
    obtain ⟨_, _, rfl, ⟨x, rfl, -⟩, _, _, rfl, ⟨y, rfl, -⟩, rfl⟩ := hc
    exact ⟨⟨x, y⟩, rfl, by simp only [bkL, bk]; omega, bkL_pos⟩) h
  refine ⟨r, rfl, fun hb => ⟨by omega, fun k hk' => ?_⟩⟩
  have := hk k hk'
  unfold Sm
  omega
theorem terms_of {d : FD} (h : IsK (.sl termK) d) : ∃ r : Lst TermD, d = termsF r ∧ (bk d ≤ 1048576 → TermsOk r) := by
  obtain ⟨r, rfl, hn, hk⟩ := rows_of (α := TermD) ⟨0, e0, e0⟩ termC (fun a i => a.key.size ≤ i ∧ a.val.size ≤ i) (fun a i j hij h => ⟨by omega, by omega⟩) (fun c hc => by
    simp only [termK, IsL, IsK] at hc
    obtain ⟨_, _, rfl, ⟨n, rfl, -⟩, _, _, rfl, ⟨x, rfl, -⟩, _, _, rfl, ⟨y, rfl, -⟩, rfl⟩ := hc
    exact ⟨⟨n, x, y⟩, rfl, by simp only [bkL, bk]; omega, bkL_pos⟩) h
  refine ⟨r, rfl, fun hb => ⟨by omega, fun k hk' => ?_⟩⟩
  have := hk k hk'
  unfold Sm
  omega
/-- five numbers -/
def five (a b c d e : Int) : Nat → Int
  | 0 => a
  | 1 => b
  | 2 => c
  | 3 => d
  | _ => e
theorem nodes_of {d : FD} (h : IsK (.sl nodeK) d) : ∃ r : Lst NodeD, d = nodesF r ∧ (bk d ≤ 1048576 → r.n ≤ 1048576 ∧ ∀ k, k < r.n → NodeOk (r.el k)) := by
  obtain ⟨r, rfl, hn, hk⟩ := rows_of (α := NodeD) ⟨e0, fun _ => 0, ⟨0, fun _ => ⟨e0, e0⟩⟩, ⟨0, fun _ => ⟨e0, e0⟩⟩, false, false⟩ nodeC (fun a i => i ≤ 1048576 → NodeOk a)
    (fun a i j hij h hj => h (by omega)) (fun c hc => by
    simp only [nodeK, IsL] at hc
    obtain ⟨_, _, rfl, s, _, _, rfl, i0, _, _, rfl, i1, _, _, rfl, i2, _, _, rfl, i3, _, _, rfl, i4, _, _, rfl, h1, _, _, rfl, h2, _, _, rfl, b1, _, _, rfl, b2, rfl⟩ := hc
    simp only [IsK] at s i0 i1 i2 i3 i4 b1 b2
    obtain ⟨s, rfl, -⟩ := s
    obtain ⟨i0, rfl, -⟩ := i0
    obtain ⟨i1, rfl, -⟩ := i1
    obtain ⟨i2, rfl, -⟩ := i2
    obtain ⟨i3, rfl, -⟩ := i3
    obtain ⟨i4, rfl, -⟩ := i4
    obtain ⟨b1, rfl⟩ := b1
    obtain ⟨b2, rfl⟩ := b2
    obtain ⟨l1, rfl, k1⟩ := labs_of h1
    obtain ⟨l2, rfl, k2⟩ := labs_of h2
    refine ⟨⟨s, five i0 i1 i2 i3 i4, l1, l2, b1, b2⟩, rfl, fun hb => ?_, bkL_pos⟩
    simp only [bkL, bk] at hb
    exact ⟨by unfold Sm; dsimp only; omega, k1 (by omega), k2 (by omega)⟩) h
  exact ⟨r, rfl, fun hb => ⟨by omega, fun k hk' => hk k hk' hb⟩⟩
set_option maxHeartbeats 2000000 in
theorem pods_of {d : FD} (h : IsK (.sl podK) d) : ∃ r : Lst PodD, d = podsF r ∧ (bk d ≤ 1048576 → r.n ≤ 1048576 ∧ ∀ k, k < r.n → PodOk (r.el k)) := by
  obtain ⟨r, rfl, hn, hk⟩ := rows_of (α := PodD) ⟨e0, e0, fun _ => 0, ⟨0, fun _ => ⟨e0, e0⟩⟩, ⟨0, fun _ => ⟨0, e0, e0⟩⟩, ⟨0, fun _ => ⟨e0, e0⟩⟩, e0, ⟨0, fun _ => ⟨0, e0, e0⟩⟩, e0, ⟨0, fun _ => ⟨0, e0, e0⟩⟩, e0⟩ podC (fun a i => i ≤ 1048576 → PodOk a)
    (fun a i j hij h hj => h (by omega)) (fun c hc => by
    simp only [podK, IsL] at hc
    obtain ⟨_, _, rfl, s, _, _, rfl, s2, _, _, rfl, i0, _, _, rfl, i1, _, _, rfl, i2, _, _, rfl, i3, _, _, rfl, i4, _, _, rfl, h1, _, _, rfl, h2, _, _, rfl, h3, _, _, rfl, s3, _, _, rfl, h4, _, _, rfl, s4, _, _, rfl, h5, _, _, rfl, s5, rfl⟩ := hc
    simp only [IsK] at s s2 s3 s4 s5 i0 i1 i2 i3 i4
    obtain ⟨s, rfl, -⟩ := s
    obtain ⟨s2, rfl, -⟩ := s2
    obtain ⟨s3, rfl, -⟩ := s3
    obtain ⟨s4, rfl, -⟩ := s4
    obtain ⟨s5, rfl, -⟩ := s5
    obtain ⟨i0, rfl, -⟩ := i0
    obtain ⟨i1, rfl, -⟩ := i1
    obtain ⟨i2, rfl, -⟩ := i2
    obtain ⟨i3, rfl, -⟩ := i3
    obtain ⟨i4, rfl, -⟩ := i4
    obtain ⟨l1, rfl, k1⟩ := labs_of h1
    obtain ⟨l2, rfl, k2⟩ := terms_of h2
    obtain ⟨l3, rfl, k3⟩ := labs_of h3
    obtain ⟨l4, rfl, k4⟩ := terms_of h4
    obtain ⟨l5, rfl, k5⟩ := terms_of h5
    refine ⟨⟨s, s2, five i0 i1 i2 i3 i4, l1, l2, l3, s3, l4, s4, l5, s5⟩, rfl, fun hb => ?_, bkL_pos⟩
    simp only [bkL, bk] at hb
    unfold PodOk Sm
    dsimp only
    exact ⟨⟨by omega, by omega, by omega, by omega, by omega⟩, k1 (by omega), k2 (by omega), k3 (by omega), k4 (by omega), k5 (by omega)⟩) h
  exact ⟨r, rfl, fun hb => ⟨by omega, fun k hk' => hk k hk' hb⟩⟩
theorem owners_of {d : FD} (h : IsK (.sl ownerK) d) : ∃ r : Lst OwnerD, d = ownersF r ∧ (bk d ≤ 1048576 → r.n ≤ 1048576 ∧ ∀ k, k < r.n → OwnerAt (r.el k)) := by
  obtain ⟨r, rfl, hn, hk⟩ := rows_of (α := OwnerD) ⟨e0, 0, e0, 0, false⟩ ownerC (fun a i => i ≤ 1048576 → OwnerAt a)
    (fun a i j hij h hj => h (by omega)) (fun c hc => by
    simp only [ownerK, IsL, IsK] at hc
    obtain ⟨_, _, rfl, ⟨s, rfl, -⟩, _, _, rfl, ⟨n, rfl, -⟩, _, _, rfl, ⟨s2, rfl, -⟩, _, _, rfl, ⟨n2, rfl, -⟩, _, _, rfl, ⟨b, rfl⟩, rfl⟩ := hc
    refine ⟨⟨s, n, s2, n2, b⟩, rfl, fun hb => ?_, bkL_pos⟩
    simp only [bkL, bk] at hb
    exact ⟨by unfold Sm; dsimp only; omega, by unfold Sm; dsimp only; omega⟩) h
  exact ⟨r, rfl, fun hb => ⟨by omega, fun k hk' => hk k hk' hb⟩⟩
def snapK : List LK := [.sl nodeK, .sl podK, .sl ownerK]
theorem snap_of {ds : List FD} (h : IsL snapK ds) (hb : bkL ds ≤ 1048576) : ∃ s : SnapD, ds = snapC s ∧ SnapOk s := by
  simp only [snapK, IsL] at h
  obtain ⟨_, _, rfl, h1, _, _, rfl, h2, _, _, rfl, h3, rfl⟩ := h
  obtain ⟨n, rfl, k1⟩ := nodes_of h1
  obtain ⟨p, rfl, k2⟩ := pods_of h2
  obtain ⟨o, rfl, k3⟩ := owners_of h3
  simp only [bkL] at hb
  obtain ⟨a1, a2⟩ := k1 (by omega)
  obtain ⟨b1, b2⟩ := k2 (by omega)
  obtain ⟨c1, c2⟩ := k3 (by omega)
  exact ⟨⟨n, p, o⟩, rfl, a1, a2, b1, b2, c1, c2⟩
theorem ints_of {d : FD} (h : IsK (.sl [.i .i64]) d) : ∃ r : Lst Int, d = intsF r ∧ (bk d ≤ 1048576 → r.n ≤ 1048576) ∧ ∀ k, k < r.n → (Lit.int .i64 (r.el k)).wf = true := by
  obtain ⟨r, rfl, hn, hk⟩ := rows_of (α := Int) 0 (fun n => [I n]) (fun a _ => (Lit.int .i64 a).wf = true) (fun a i j hij h => h) (fun c hc => by
    simp only [IsL, IsK] at hc
    obtain ⟨_, _, rfl, ⟨n, rfl, hw⟩, rfl⟩ := hc
    exact ⟨n, rfl, hw, bkL_pos⟩) h
  exact ⟨r, rfl, fun hb => by omega, hk⟩
end Go.Proofs.YthpmgnbehahkfaaGreat
end
section
namespace Go.Proofs.YthpmgnbehahkfaaGreat
open Go.RowKit Go.Dk Go.Dn Go.ChangeShapes Go.WideShapes Go.ChangeAt

def pk (agg : Bool) (ds : List FD) : FD := match agg, ds with
  | false, [d] => d
  | _, ds => .agg ds
def packs (P : Program) : List TypeId → List (List FD) → List FD
  | t :: ts, d :: ds => pk (aggB P t) d :: packs P ts ds
  | _, _ => []
def FlatAll (P : Program) : List TypeId → List (List LK) → Prop
  | [], [] => True
  | t :: ts, l :: ls => (∃ m, flat P m t = some l ∧ l.length = P.cellsOf t) ∧ FlatAll P ts ls
  | _, _ => False
def IsLL : List (List LK) → List (List FD) → Prop
  | [], [] => True
  | l :: ls, d :: ds => IsL l d ∧ IsLL ls ds
  | _, _ => False

theorem isLL_cons {l : List LK} {ls : List (List LK)} {dss : List (List FD)} (h : IsLL (l :: ls) dss) : ∃ d ds, dss = d :: ds ∧ IsL l d ∧ IsLL ls ds := by
  cases dss with
  | nil => exact h.elim
  | cons d ds => exact ⟨d, ds, rfl, h⟩
theorem isLL_nil {dss : List (List FD)} (h : IsLL [] dss) : dss = [] := by
  cases dss with
  | nil => rfl
  | cons d ds => exact h.elim
section
variable {H : Type} {enc : TypeId × Value → H} {P : Program} {W : World}
theorem rep_one {x : X} {v : Value} {d : FD} (h : RepC x [v] [d]) : Rep x v d := by
  unfold RepC at h
  obtain ⟨u, us, e, -, h, -⟩ := h
  cases e
  exact h
theorem val_rep {t : TypeId} {m : Nat} {l : List LK} (hf : flat P m t = some l) {base : Nat} {v : Value} (hok : Value.okWide P W .any base t v) {fds : List FD} (h : RepC (wx W) v.cells.toList fds) (hl : IsL l fds) : Rep (wx W) v (pk (aggB P t) fds) := by
  have one : l.length = 1 → ∃ d, fds = [d] := fun h1 => by
    have := isL_len hl
    match fds, this with
    | [d], _ => exact ⟨d, rfl⟩
    | [], h => simp at h; omega
    | _ :: _ :: _, h => simp at h; omega
  have agg : aggB P t = true → ∀ cs, v = .agg cs → Rep (wx W) v (pk (aggB P t) fds) := fun ha cs e => by
    subst e
    rw [ha]
    show Rep (wx W) _ (.agg fds)
    unfold Rep
    exact ⟨cs.toList, rfl, h⟩
  cases m with
  | zero => simp [flat] at hf
  | succ m =>
    cases flat_way hf with
    | b hu hl' =>
      subst hl'
      obtain ⟨b, rfl⟩ := okWide_bool hu hok
      obtain ⟨d, rfl⟩ := one rfl
      have ha : aggB P t = false := by unfold aggB; rw [hu]
      rw [ha]
      exact rep_one h
    | i k hu hl' =>
      subst hl'
      obtain ⟨b, rfl⟩ := okWide_int hu hok
      obtain ⟨d, rfl⟩ := one rfl
      have ha : aggB P t = false := by unfold aggB; rw [hu]
      rw [ha]
      exact rep_one h
    | s hu hl' =>
      subst hl'
      obtain ⟨b, rfl⟩ := okWide_string hu hok
      obtain ⟨d, rfl⟩ := one rfl
      have ha : aggB P t = false := by unfold aggB; rw [hu]
      rw [ha]
      exact rep_one h
    | sl e l' hu _ _ hl' =>
      subst hl'
      obtain ⟨a, n, c, rfl⟩ := okWide_slice hu hok
      obtain ⟨d, rfl⟩ := one rfl
      have ha : aggB P t = false := by unfold aggB; rw [hu]
      rw [ha]
      exact rep_one h
    | arr n e l' hu _ _ _ =>
      have ha : aggB P t = true := by unfold aggB; rw [hu]
      simp only [Value.okWide, hu] at hok
      obtain ⟨cs, e, -⟩ := hok
      exact agg ha cs e
    | struct fs hu _ _ =>
      have ha : aggB P t = true := by unfold aggB; rw [hu]
      obtain ⟨cs, e, -⟩ := okWide_struct hu hok
      exact agg ha cs e
theorem trodAll_rep {base : Nat} : ∀ (ts : List TypeId) (ls : List (List LK)) (vs : List Value) (ds : List (DataW H)) (ps : List MemPlace), FlatAll P ts ls → DataW.TrodAll enc P W 0 (fun _ => true) true ts vs ds ps →
    (∀ (j : Nat) t v, ts[j]? = some t → vs[j]? = some v → Value.okWide P W .any base t v) → ∃ dss, IsLL ls dss ∧ bkLL dss ≤ Rows.uptoBulkAll ds ∧ RepL (wx W) vs (packs P ts dss)
  | [], [], vs, ds, ps, _, h, _ => by
    obtain ⟨rfl, rfl, rfl⟩ := trodAll_nil h
    exact ⟨[], trivial, by simp [bkLL, Rows.uptoBulkAll], by simp [packs, RepL]⟩
  | t :: ts, l :: ls, vs, ds, ps, ⟨⟨m, hf, hc⟩, hfs⟩, h, hok => by
    obtain ⟨v, vs', d, ds', p, q, rfl, rfl, rfl, h1, h2⟩ := trodAll_cons h
    obtain ⟨dss, k1, k2, k3⟩ := trodAll_rep ts ls vs' ds' q hfs h2 (fun j t v h1 h2 => hok (j + 1) t v (by simpa using h1) (by simpa using h2))
    obtain ⟨fuel, h1⟩ := h1
    obtain ⟨fds, j1, j2, j3⟩ := trod_rep m t l hf hc fuel _ _ h1
    refine ⟨fds :: dss, ⟨j2, k1⟩, ?_, ?_⟩
    · dsimp only at j3
      simp only [bkLL, Rows.uptoBulkAll]
      omega
    · simp only [packs]
      unfold RepL
      exact ⟨v, vs', rfl, val_rep hf (hok 0 t v rfl rfl) j1 j2, k3⟩
  | [], _ :: _, _, _, _, h, _, _ => h.elim
  | _ :: _, [], _, _, _, h, _, _ => h.elim
theorem trodAll_stays (laidOut : laidOutB P = true) {W' : World} (bel : Below W.heap.size W W') : ∀ (ts : List TypeId) (vs : List Value) (ds : List (DataW H)) (ps : List MemPlace), (ts.all fun t => P.readableRec t && decide (t < P.types.size)) = true → DataW.TrodAll enc P W 0 (fun _ => true) true ts vs ds ps →
    DataW.TrodAll enc P W' 0 (fun b => decide (b < W.heap.size)) true ts vs ds ps
  | [], vs, ds, ps, _, h => by
    obtain ⟨rfl, rfl, rfl⟩ := trodAll_nil h
    exact trodAll_mk0
  | t :: ts, vs, ds, ps, ht, h => by
    obtain ⟨v, vs', d, ds', p, q, rfl, rfl, rfl, h1, h2⟩ := trodAll_cons h
    simp only [List.all_cons, Bool.and_eq_true, decide_eq_true_eq] at ht
    have lt : ∀ x ∈ p, x.block < W.heap.size := by obtain ⟨m, hm⟩ := h1; exact DataW.trod_lt m _ _ _ hm
    exact trodAll_cons_mk (Below.trod laidOut ht.1.1 ht.1.2 h1 bel lt) (trodAll_stays laidOut bel ts vs' ds' q (by simpa using ht.2) h2)

/-- what the form asks, from a contract of data -/
theorem law_contract {f : FuncId} {fn : Func} {s : ChangeSpec} {ts : List TypeId} {tb : TypeId} {ls : List (List LK)} (laidOut : laidOutB P = true) (hts : fn.params.toList = ts) (hrs : fn.resultTypes = #[tb]) (htb : P.underlying tb = some .bool) (hsv : s.vars = [])
    (hs : ∀ (ds : List (DataW H)), ds.length = ts.length → (s.fn H ds).results = [.lit (.bool true)] ∧ (s.fn H ds).args = ds ∧ (s.fn H ds).vars = []) (hfl : FlatAll P ts ls) (hrd : (ts.all fun t => P.readableRec t && decide (t < P.types.size)) = true)
    (hp : ∀ dss : List (List FD), IsLL ls dss → bkLL dss ≤ 1048576 → Pure P f (packs P ts dss) (.v (.bool true)))
    (base : Nat) (args : Array Value) (ds gs : List (DataW H)) (before : List MemPlace)
    (hval : ∀ (j : Nat) t v, fn.params[j]? = some t → args[j]? = some v → Value.okWide P W .any base t v)
    (hW : DataW.Whole enc P fn.params.toList s.vars false W args.toList ds gs before) (hk : Rows.uptoSmall H (ds ++ gs) = true) :
    Calls P f args W fun e W' => ∃ v, e = .returned v ∧ s.post enc P fn false true false false W args v W' := by
  have hW' := hW
  obtain ⟨p, q, hA, hV, rfl, hfz, hnd⟩ := hW
  rw [hsv] at hV
  obtain ⟨rfl, rfl⟩ := trodVars_none hV
  rw [hts] at hA
  have hb : Rows.uptoBulkAll (ds ++ []) ≤ 1048576 := of_decide_eq_true hk
  rw [List.append_nil] at hb
  obtain ⟨dss, k1, k2, k3⟩ := trodAll_rep ts ls _ _ _ hfl hA (base := base) (fun j t v h1 h2 => hval j t v (by rw [← hts] at h1; simpa using h1) (by simpa using h2))
  have hlen : ds.length = ts.length := by
    clear k1 k2 k3 hb hk hval hV hrd hp hs hrs hts hfz hnd hW' hfl
    generalize args.toList = vs at hA
    induction ts generalizing vs ds p with
    | nil => obtain ⟨-, rfl, -⟩ := trodAll_nil hA; rfl
    | cons t ts ih =>
      obtain ⟨v, vs', d, ds', p, q, rfl, rfl, rfl, h1, h2⟩ := trodAll_cons hA
      simp [ih _ _ _ h2]
  obtain ⟨-, hcall⟩ := hp dss k1 (by omega)
  have hc := hcall (wx W) args.toList (fun b o h => h.elim) k3
  rw [show args.toList.toArray = args by simp] at hc
  refine hc.mono ?_
  rintro e W' ⟨v, rfl, hv, hch⟩
  unfold Rep at hv
  subst hv
  have bel : Below W.heap.size W W' := hch.below
  obtain ⟨s1, s2, s3⟩ := hs ds hlen
  refine ⟨_, rfl, ds, [], _, [], p, [], hW', ?_, ?_, ?_, ?_, fun h => by cases h⟩
  · rw [List.append_nil, s1, hrs]
    exact trodAll_mk1 (shut_bool htb _)
  · rw [List.append_nil, s2, hts]
    exact trodAll_stays laidOut bel _ _ _ _ hrd hA
  · rw [List.append_nil, s3, hsv]
    rfl
  · exact bel.frame _
end
end Go.Proofs.YthpmgnbehahkfaaGreat
end
