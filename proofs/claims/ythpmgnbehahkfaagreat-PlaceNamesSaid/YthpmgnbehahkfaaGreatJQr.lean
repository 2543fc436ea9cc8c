/- slices.IndexFunc of labels; place.value, Domain; drayageref07.ValueOf, Domain. -/
/- drayageref07.domains, Domains; eqTexts. -/
/- Domains: a set of texts, sorted, is the row of texts that rise. -/
/- place.Counts. -/
/- place.Domains. -/
/- slices.Index of texts; where a node's domain is among all. -/
import Derived.Test.YthpmgnbehahkfaaGreatJPa
import Derived.Test.YthpmgnbehahkfaaGreatJQd
import Derived.Sort.KeysCollected
import Derived.Sort.Walk0
import Derived.Maps.Views
import Derived.Test.YthpmgnbehahkfaaGreatJQt
import Derived.Test.YthpmgnbehahkfaaGreatJQo
import Derived.Test.YthpmgnbehahkfaaGreatJDnW
import Derived.Test.YthpmgnbehahkfaaGreatJLi
import Derived.Maps.OwnIn
import Derived.StringKeys
set_option linter.unusedSimpArgs false
set_option linter.unusedVariables false
section
namespace Go.Proofs.YthpmgnbehahkfaaGreat
open Go.RowKit Go.Dk Go.Dn

set_option maxRecDepth 100000 in
theorem idxLab_pure (l : Lst LabD) (hl : l.n ≤ 1048576) (g : Nat) (gc : List FD) (p : Nat → Bool) (hg : ∀ k, k < l.n → Pure Tryz.prog g (.agg (labC (l.el k)) :: gc) (B (p k))) : Pure Tryz.prog 160 [labsF l, .fn g gc] (I (idxB p l.n)) := by
  refine Pure.of_run (lit := true) Tryz.func160 rfl rfl rfl rfl (Nat.le_of_ble_eq_true rfl) (run_of_runL ?_)
  unfold St.enter
  simp -dsimp -implicitDefEqProofs [go_sem, labsF]
  refine runL_loop [] 4 (by simp -dsimp -implicitDefEqProofs [go_sem]) (fun m st => ∃ j : Nat, st.n = 19 ∧ st.lit = true ∧ j ≤ l.n ∧ m = l.n - j ∧ (∀ i, i < j → p i = false) ∧ st.fr 0 = .f (labsF l) ∧ st.fr 1 = .f (.fn g gc) ∧ st.fr 7 = .f (I l.n) ∧ st.fr 8 = .f (I j)) l.n ⟨0, ?_⟩ ?_
  · simp -dsimp -implicitDefEqProofs [go_sem, labsF]
  rintro m ⟨N, fr, mem, nx, lt⟩ hnx ⟨j, hN, hlt, hj, rfl, hall, f0, f1, f7, f8⟩
  dsimp only at *
  subst hN hnx hlt
  rcases Nat.lt_or_ge j l.n with hlt | hge
  · simp -dsimp -implicitDefEqProofs [go_sem, f0, f1, f7, f8, hlt, labsF, encL_get? _ hlt, labC_eq (l.el j)]
    refine callW_f (fs := .agg (labC (l.el j)) :: gc) (hg j hlt) ?_
    rcases Bool.eq_false_or_eq_true (p j) with hp | hp
    · simp -dsimp -implicitDefEqProofs [go_sem, f0, f1, f7, f8, hp]
      exact (idxB_hit hlt hp hall).symm
    · simp -dsimp -implicitDefEqProofs [go_sem, f0, f1, f7, f8, hp]
      refine ⟨_, by omega, j + 1, by omega, rfl, fun i hi => ?_, w64 (by omega) (by omega)⟩
      rcases Nat.lt_or_ge i j with h | h
      · exact hall i h
      · obtain rfl : i = j := by omega
        exact hp
  · obtain rfl : j = l.n := by omega
    simp -dsimp -implicitDefEqProofs [go_sem, f0, f1, f7, f8]
    exact (idxB_none hall).symm
theorem value1_pure (d : LabD) (key : ByteArray) : Pure Tryz.prog 161 [.agg (labC d), .ref [S key]] (B (d.key.toList == key.toList)) := by
  refine Pure.of_run (lit := true) Tryz.func161 rfl rfl rfl rfl (Nat.le_of_ble_eq_true rfl) (run_of_runL ?_)
  unfold St.enter
  simp -dsimp -implicitDefEqProofs [go_sem, labC]
/-- at which place a key is -/
def keyI (x : NodeD) (key : ByteArray) : Int := idxB (fun k => (x.labels.el k).key.toList == key.toList) x.labels.n
/-- has a node that is not lost a value for a key -/
def valB (x : NodeD) (key : ByteArray) : Bool := !x.lost && decide (0 ≤ keyI x key)
/-- which one -/
def valS (x : NodeD) (key : ByteArray) : ByteArray := if valB x key = true then (x.labels.el (keyI x key).toNat).val else ByteArray.empty
def valF (x : NodeD) (key : ByteArray) : FD := .tup [S (valS x key), B (valB x key)]
theorem keyI_range (x : NodeD) (key : ByteArray) (h : 0 ≤ keyI x key) : ∃ k, k < x.labels.n ∧ keyI x key = (k : Int) := by
  have := idxB_range (fun k => (x.labels.el k).key.toList == key.toList) x.labels.n
  unfold keyI at h ⊢
  exact ⟨(idxB (fun k => (x.labels.el k).key.toList == key.toList) x.labels.n).toNat, by omega, by omega⟩
set_option maxRecDepth 100000 in
theorem value_pure (x : NodeD) (hx : x.labels.n ≤ 1048576) (key : ByteArray) : Pure Tryz.prog 99 [.agg (nodeC x), S key] (valF x key) := by
  refine Pure.of_run (lit := true) Tryz.func99 rfl rfl rfl rfl (Nat.le_of_ble_eq_true rfl) (run_of_runL ?_)
  unfold St.enter
  simp -dsimp -implicitDefEqProofs [go_sem, nodeC]
  refine callW_f (fs := [labsF x.labels, .fn 161 [.ref [S key]]]) (idxLab_pure x.labels hx _ _ _ fun k _ => value1_pure _ key) ?_
  have hk : idxB (fun k => (x.labels.el k).key.toList == key.toList) x.labels.n = keyI x key := rfl
  rw [hk]
  rcases Bool.eq_false_or_eq_true x.lost with hl | hl
  · have hb : valB x key = false := by simp [valB, hl]
    simp -dsimp -implicitDefEqProofs [go_sem, hl, valF, valS, hb]
    try rfl
  · rcases Int.lt_or_le (keyI x key) 0 with h0 | h0
    · have hb : valB x key = false := by simp [valB, hl]; omega
      simp -dsimp -implicitDefEqProofs [go_sem, hl, valF, valS, hb, h0]
      try rfl
    · obtain ⟨k, hk, e⟩ := keyI_range x key h0
      have hb : valB x key = true := by simp [valB, hl, h0]
      rw [e]
      have hn : ¬ ((k : Int) < 0) := by omega
      simp -dsimp -implicitDefEqProofs [go_sem, hl, valF, valS, hb, hn, e, labsF, hk, encL_get? _ hk, labC_eq]
set_option maxRecDepth 100000 in
theorem valueOf_pure (x : NodeD) (hx : x.labels.n ≤ 1048576) (key : ByteArray) : Pure Tryz.prog 101 [.agg (nodeC x), S key] (valF x key) := by
  refine Pure.of_run (lit := true) Tryz.func101 rfl rfl rfl rfl (Nat.le_of_ble_eq_true rfl) (run_of_runL ?_)
  unfold St.enter
  simp -dsimp -implicitDefEqProofs [go_sem, nodeC]
  refine runL_loop [] 4 (by simp -dsimp -implicitDefEqProofs [go_sem]) (fun m st => ∃ j : Nat, st.n = 33 ∧ st.lit = true ∧ j ≤ x.labels.n ∧ m = x.labels.n - j ∧ (∀ i, i < j → ¬ (x.labels.el i).key.toList = key.toList ∨ x.lost = true) ∧ st.fr 1 = .f (S key) ∧ st.fr 2 = .f (.ref (nodeC x)) ∧ st.fr 6 = .f (I j)) x.labels.n ⟨0, ?_⟩ ?_
  · simp -dsimp -implicitDefEqProofs [go_sem, nodeC]
  rintro m ⟨N, fr, mem, nx, lt⟩ hnx ⟨j, hN, hlt, hj, rfl, hall, f1, f2, f6⟩
  dsimp only at *
  subst hN hnx hlt
  rcases Nat.lt_or_ge j x.labels.n with hlt | hge
  · rcases Bool.eq_false_or_eq_true ((x.labels.el j).key.toList == key.toList) with hp | hp
    · rcases Bool.eq_false_or_eq_true x.lost with hl | hl
      · simp -dsimp -implicitDefEqProofs [go_sem, f1, f2, f6, hlt, nodeC, labsF, encL_get? _ hlt, labC_eq, hp, hl]
        exact ⟨_, by omega, j + 1, by omega, rfl, w64 (by omega) (by omega)⟩
      · have hi : keyI x key = (j : Int) := idxB_hit hlt hp fun i hi => by
          rcases hall i hi with h | h
          · simpa using h
          · rw [hl] at h; cases h
        have hb : valB x key = true := by simp [valB, hl, hi]
        simp -dsimp -implicitDefEqProofs [go_sem, f1, f2, f6, hlt, nodeC, labsF, encL_get? _ hlt, labC_eq, hp, hl, valF, valS, hb, hi]
    · simp -dsimp -implicitDefEqProofs [go_sem, f1, f2, f6, hlt, nodeC, labsF, encL_get? _ hlt, labC_eq, hp]
      refine ⟨_, by omega, j + 1, by omega, rfl, fun i hi => ?_, w64 (by omega) (by omega)⟩
      rcases Nat.lt_or_ge i j with h | h
      · exact hall i h
      · obtain rfl : i = j := by omega
        exact .inl (by simpa using hp)
  · obtain rfl : j = x.labels.n := by omega
    have hb : valB x key = false := by
      rcases Bool.eq_false_or_eq_true x.lost with hl | hl
      · simp [valB, hl]
      · have : keyI x key = -1 := idxB_none fun i hi => by
          rcases hall i hi with h | h
          · simpa using h
          · rw [hl] at h; cases h
        simp [valB, this]
    simp -dsimp -implicitDefEqProofs [go_sem, f1, f2, f6, nodeC, labsF, valF, valS, hb]
    try rfl
def domF (s : SnapD) (k : Int) (key : ByteArray) : FD := if checkE s = 0 ∧ 0 ≤ k ∧ k < s.nodes.n then valF (s.nodes.el k.toNat) key else .tup [S ByteArray.empty, B false]
set_option maxRecDepth 100000 in
theorem domain_pure (s : SnapD) (ok : SnapOk s) (k : Int) (key : ByteArray) : Pure Tryz.prog 44 [snapF s, I k, S key] (domF s k key) := by
  refine Pure.of_run (lit := true) Tryz.func44 rfl rfl rfl rfl (Nat.le_of_ble_eq_true rfl) (run_of_runL ?_)
  unfold St.enter
  simp -dsimp -implicitDefEqProofs [go_sem, snapF, snapC]
  refine callW_f (fs := [snapF s]) (snapCheck_pure s ok) ?_
  by_cases hc : checkE s = 0
  · have h1 : (checkE s != 0) = false := by simp [hc]
    simp -dsimp -implicitDefEqProofs [go_sem, h1]
    refine callW_f (fs := [I k, I s.nodes.n]) (there_pure _ _) ?_
    by_cases hk : 0 ≤ k ∧ k < s.nodes.n
    · obtain ⟨i, rfl⟩ : ∃ i : Nat, k = i := ⟨k.toNat, by omega⟩
      have hi : i < s.nodes.n := by omega
      have hd : domF s i key = valF (s.nodes.el i) key := by unfold domF; rw [if_pos ⟨hc, hk⟩, Int.toNat_natCast]
      have hb : (decide ((0 : Int) ≤ i) && decide ((i : Int) < s.nodes.n)) = true := by simp [hi]
      rw [hd, hb]
      simp -dsimp -implicitDefEqProofs [go_sem, h1, hi, encL_get? _ hi, nodeC_eq (s.nodes.el i)]
      refine callW_f (fs := [.agg (nodeC (s.nodes.el i)), S key]) (value_pure _ (ok.n2 i hi).2.1.1 key) ?_
      simp -dsimp -implicitDefEqProofs [go_sem, valF]
    · have hd : domF s k key = .tup [S ByteArray.empty, B false] := by unfold domF; rw [if_neg (fun h => hk h.2)]
      have hb : (decide ((0 : Int) ≤ k) && decide (k < s.nodes.n)) = false := by
        rw [← Bool.not_eq_true]; simp; omega
      rw [hd, hb]
      simp -dsimp -implicitDefEqProofs [go_sem, h1]
      try rfl
  · have h1 : (checkE s != 0) = true := by simpa using hc
    have hd : domF s k key = .tup [S ByteArray.empty, B false] := by unfold domF; rw [if_neg (fun h => hc h.1)]
    rw [hd]
    simp -dsimp -implicitDefEqProofs [go_sem, h1]
    try rfl
set_option maxRecDepth 100000 in
theorem refDomain_pure (s : SnapD) (ok : SnapOk s) (k : Int) (key : ByteArray) : Pure Tryz.prog 45 [snapF s, I k, S key] (domF s k key) := by
  refine Pure.of_run (lit := true) Tryz.func45 rfl rfl rfl rfl (Nat.le_of_ble_eq_true rfl) (run_of_runL ?_)
  unfold St.enter
  by_cases hk : 0 ≤ k ∧ k < s.nodes.n
  · obtain ⟨i, rfl⟩ : ∃ i : Nat, k = i := ⟨k.toNat, by omega⟩
    have hi : i < s.nodes.n := by omega
    have hi2 : ¬ s.nodes.n ≤ i := by omega
    have hi3 : ¬ (i : Int) < 0 := by omega
    simp -dsimp -implicitDefEqProofs [go_sem, snapF, snapC, hi, hi2, hi3]
    refine callW_f (fs := [snapF s]) (refCheck_pure s ok) ?_
    by_cases hc : checkE s = 0
    · have h1 : (checkE s != 0) = false := by simp [hc]
      have hd : domF s i key = valF (s.nodes.el i) key := by unfold domF; rw [if_pos ⟨hc, hk⟩, Int.toNat_natCast]
      rw [hd]
      simp -dsimp -implicitDefEqProofs [go_sem, h1, hi, hi2, hi3, encL_get? _ hi, nodeC_eq (s.nodes.el i)]
      refine callW_f (fs := [.agg (nodeC (s.nodes.el i)), S key]) (valueOf_pure _ (ok.n2 i hi).2.1.1 key) ?_
      simp -dsimp -implicitDefEqProofs [go_sem, valF]
    · have h1 : (checkE s != 0) = true := by simpa using hc
      have hd : domF s i key = .tup [S ByteArray.empty, B false] := by unfold domF; rw [if_neg (fun h => hc h.1)]
      rw [hd]
      simp -dsimp -implicitDefEqProofs [go_sem, h1, hi, hi2, hi3]
      try rfl
  · have hd : domF s k key = .tup [S ByteArray.empty, B false] := by unfold domF; rw [if_neg (fun h => hk h.2)]
    rw [hd]
    rcases Int.lt_or_le k 0 with h0 | h0
    · simp -dsimp -implicitDefEqProofs [go_sem, snapF, snapC, h0]
      try rfl
    · have h1 : ¬ k < 0 := by omega
      have h2 : (s.nodes.n : Int) ≤ k := by omega
      simp -dsimp -implicitDefEqProofs [go_sem, snapF, snapC, h1, h2]
      try rfl
end Go.Proofs.YthpmgnbehahkfaaGreat
end
section
namespace Go.Proofs.YthpmgnbehahkfaaGreat
open Go.RowKit Go.Dk Go.Dn

def ltB (a b : ByteArray) : Bool := Op.bytesLess a.toList b.toList
/-- a text among texts that rise, once -/
def insB (v : ByteArray) : List ByteArray → List ByteArray
  | [] => [v]
  | x :: l => if ltB x v = true then x :: insB v l else if (x.toList == v.toList) = true then x :: l else v :: x :: l
theorem insB_len (v : ByteArray) : ∀ l, (insB v l).length ≤ l.length + 1
  | [] => Nat.le_refl _
  | x :: l => by
    have := insB_len v l
    unfold insB
    split
    · simp only [List.length_cons]; omega
    · split
      · simp
      · simp
theorem insB_at (v : ByteArray) : ∀ (l : List ByteArray) (k : Nat), k ≤ l.length → (∀ i (h : i < l.length), i < k → ltB l[i] v = true) → (∀ h : k < l.length, ltB l[k] v = false ∧ (l[k].toList == v.toList) = false) → insB v l = l.take k ++ v :: l.drop k
  | [], k, hk, _, _ => by
    obtain rfl : k = 0 := by simpa using hk
    rfl
  | x :: l, 0, _, _, h => by
    have := h (by simp)
    simp only [List.getElem_cons_zero] at this
    simp [insB, this.1, this.2]
  | x :: l, k + 1, hk, h1, h2 => by
    have h0 := h1 0 (by simp) (by omega)
    simp only [List.getElem_cons_zero] at h0
    have ih := insB_at v l k (by simpa using hk) (fun i h hik => h1 (i + 1) (by simpa using h) (by omega)) (fun h => h2 (by simpa using h))
    simp [insB, h0, ih]
theorem insB_in (v : ByteArray) : ∀ (l : List ByteArray) (k : Nat) (hk : k < l.length), (∀ i (h : i < l.length), i < k → ltB l[i] v = true) → ltB l[k] v = false → (l[k].toList == v.toList) = true → insB v l = l
  | x :: l, 0, _, _, h1, h2 => by
    simp only [List.getElem_cons_zero] at h1 h2
    simp [insB, h1, h2]
  | x :: l, k + 1, hk, h1, h2, h3 => by
    have h0 := h1 0 (by simp) (by omega)
    simp only [List.getElem_cons_zero] at h0
    have ih := insB_in v l k (by simpa using hk) (fun i h hik => h1 (i + 1) (by simpa using h) (by omega)) h2 h3
    simp [insB, h0, ih]
/-- the values of a key at the first nodes -/
def domL (s : SnapD) (key : ByteArray) : Nat → List ByteArray
  | 0 => []
  | j + 1 => if valB (s.nodes.el j) key = true then insB (valS (s.nodes.el j) key) (domL s key j) else domL s key j
theorem domL_len (s : SnapD) (key : ByteArray) : ∀ j, (domL s key j).length ≤ j
  | 0 => Nat.le_refl _
  | j + 1 => by
    have := domL_len s key j
    have := insB_len (valS (s.nodes.el j) key) (domL s key j)
    unfold domL
    split <;> omega
def strsR (l : List ByteArray) : List (List FD) := l.map fun c => [S c]
def strsF (l : List ByteArray) : FD := .sl 1 (strsR l)
theorem strsR_len (l : List ByteArray) : (strsR l).length = l.length := by simp [strsR]
theorem strsR_get {l : List ByteArray} {k : Nat} (h : k < l.length) : (strsR l)[k]? = some [S l[k]] := by simp [strsR, h]
theorem strsR_getD {l : List ByteArray} {k : Nat} (h : k < l.length) : (strsR l).getD k [] = [S l[k]] := by simp [strsR, h]
theorem strsR_at {l : List ByteArray} {k : Nat} (h : k < (strsR l).length) : (strsR l)[k] = [S (l[k]'(by simpa [strsR] using h))] := by simp [strsR]
set_option maxRecDepth 100000 in
set_option maxHeartbeats 4000000 in
theorem ref07domains_pure (s : SnapD) (ok : SnapOk s) (key : ByteArray) : Pure Tryz.prog 104 [snapF s, S key] (strsF (domL s key s.nodes.n)) := by
  have hn1 := ok.n1
  refine Pure.of_runH (lit := true) (fun _ => []) Tryz.func104 rfl rfl rfl rfl (Nat.le_of_ble_eq_true rfl) (runH_of_runHL ?_)
  unfold St.enter
  refine runHL_on ?_
  simp -dsimp -implicitDefEqProofs [go_sem, snapF, snapC]
  refine runHL_on ?_
  simp -dsimp -implicitDefEqProofs [go_sem]
  refine runHL_sub ?_
  refine runHL_on ?_
  simp -dsimp -implicitDefEqProofs [go_sem]
  refine runHL_loop [.slot 5 9 1] (fun m st => ∃ j : Nat, st.n = 71 ∧ st.lit = true ∧ j ≤ s.nodes.n ∧ m = s.nodes.n - j ∧ st.fr 1 = .f (S key) ∧ st.fr 2 = .f (.ref [nodesF s.nodes, podsF s.pods, ownersF s.owners]) ∧ st.fr 6 = .f (I j) ∧
    (st.fr 5 = .f (strsF (domL s key j)) ∨ ∃ g v, st.fr 5 = .own g v ∧ st.mem g = some (.row 9 v 1 (strsR (domL s key j))))) s.nodes.n ⟨0, ?_⟩ ?_
  · simp -dsimp -implicitDefEqProofs [go_sem]
    exact ⟨4, 0, ⟨rfl, rfl⟩, by simp -dsimp -implicitDefEqProofs [upd]; rfl⟩
  rintro m ⟨N, fr, mem, nx, lt⟩ ⟨j, hN, hlt, hj, rfl, f1, f2, f6, f5⟩
  dsimp only at *
  subst hN hlt
  obtain ⟨gs, hs⟩ : ∃ gs, (St.frzl 0 gs ⟨71, fr, mem, nx, true⟩).n = 71 ∧ (St.frzl 0 gs ⟨71, fr, mem, nx, true⟩).lit = true ∧ (St.frzl 0 gs ⟨71, fr, mem, nx, true⟩).fr 1 = .f (S key) ∧ (St.frzl 0 gs ⟨71, fr, mem, nx, true⟩).fr 2 = .f (.ref [nodesF s.nodes, podsF s.pods, ownersF s.owners]) ∧ (St.frzl 0 gs ⟨71, fr, mem, nx, true⟩).fr 6 = .f (I j) ∧ (St.frzl 0 gs ⟨71, fr, mem, nx, true⟩).fr 5 = .f (strsF (domL s key j)) := by
    rcases f5 with f5 | ⟨g, v, f5, mg⟩
    · exact ⟨[], rfl, rfl, f1, f2, f6, f5⟩
    · refine ⟨[g], ?_⟩
      simp -dsimp -implicitDefEqProofs [go_sem, f1, f2, f5, f6, mg, strsF]
  refine ⟨0, gs, runHL_end ?_⟩
  generalize St.frzl 0 gs ⟨71, fr, mem, nx, true⟩ = st at hs ⊢
  obtain ⟨N, fr, mem, nx, lt⟩ := st
  obtain ⟨hN, hlt, f1, f2, f6, f5⟩ := hs
  dsimp only at *
  subst hN hlt
  rcases Nat.lt_or_ge j s.nodes.n with hlt | hge
  · simp -dsimp -implicitDefEqProofs [go_sem, f1, f2, f5, f6, hlt, nodesF, encL_get? _ hlt, nodeC_eq (s.nodes.el j)]
    refine callW_f (fs := [.agg (nodeC (s.nodes.el j)), S key]) (valueOf_pure _ (ok.n2 j hlt).2.1.1 key) ?_
    rcases Bool.eq_false_or_eq_true (valB (s.nodes.el j) key) with hv | hv
    · have hst : domL s key (j + 1) = insB (valS (s.nodes.el j) key) (domL s key j) := by simp [domL, hv]
      have hlen := domL_len s key j
      simp -dsimp -implicitDefEqProofs [go_sem, valF, hv]
      generalize valS (s.nodes.el j) key = v at *
      generalize domL s key j = L at *
      refine runCL_loop [] (fun m st => ∃ k : Nat, st.n = 71 ∧ st.lit = true ∧ k ≤ L.length ∧ m = L.length - k ∧ st.fr 1 = .f (S key) ∧ st.fr 2 = .f (.ref [nodesF s.nodes, podsF s.pods, ownersF s.owners]) ∧ st.fr 6 = .f (I j) ∧ st.fr 5 = .f (strsF L) ∧ st.fr 7 = .f (S v) ∧ st.fr 9 = .f (I k) ∧ (∀ i (h : i < L.length), i < k → ltB L[i] v = true)) L.length ⟨0, ?_⟩ ?_
      · simp -dsimp -implicitDefEqProofs [go_sem, f1, f2, f5, f6, nodesF]
      clear f1 f2 f5 f6
      rintro m ⟨N, fr, mem, nx, lt⟩ ⟨k, hN, hlt2, hk, rfl, f1, f2, f6, f5, f7, f9, hall⟩
      dsimp only at *
      subst hN hlt2
      rcases Nat.lt_or_ge k L.length with hkl | hkl
      · rcases Bool.eq_false_or_eq_true (ltB L[k] v) with hb | hb
        · have hb' : Op.bytesLess L[k].toList v.toList = true := hb
          simp -dsimp -implicitDefEqProofs [go_sem, f1, f2, f5, f6, f7, f9, strsF, strsR_len, hkl, strsR_get hkl, strsR_getD hkl, strsR_at, hb']
          refine ⟨_, by omega, k + 1, by omega, rfl, w64 (by omega) (by omega), fun i h hi => ?_⟩
          rcases Nat.lt_or_ge i k with h2 | h2
          · exact hall i h h2
          · obtain rfl : i = k := by omega
            exact hb
        · have hb' : Op.bytesLess L[k].toList v.toList = false := hb
          rcases Bool.eq_false_or_eq_true (L[k].toList == v.toList) with he | he
          · simp -dsimp -implicitDefEqProofs [go_sem, f1, f2, f5, f6, f7, f9, strsF, strsR_len, hkl, strsR_get hkl, strsR_getD hkl, strsR_at, hb', he]
            exact ⟨_, by omega, j + 1, by omega, rfl, w64 (by omega) (by omega), by rw [hst, insB_in v L k hkl hall hb he]⟩
          · simp -dsimp -implicitDefEqProofs [go_sem, f1, f2, f5, f6, f7, f9, strsF, strsR_len, hkl, strsR_get hkl, strsR_getD hkl, strsR_at, hb', he, hk]
            refine andL_mk (by omega) ?_
            simp -dsimp -implicitDefEqProofs [go_sem, f1, f2, f5, f6, f7, f9, strsF, strsR_len, Nat.min_eq_left hk]
            refine andL_mk (by omega) ?_
            simp -dsimp -implicitDefEqProofs [go_sem, f1, f2, f5, f6, f7, f9, strsF, strsR_len, Nat.min_eq_left hk]
            refine andL_mk hk ?_
            simp -dsimp -implicitDefEqProofs [go_sem, f1, f2, f5, f6, f7, f9, strsF, strsR_len, Nat.min_eq_left hk]
            refine andL_mk (by omega) ?_
            simp -dsimp -implicitDefEqProofs [go_sem, f1, f2, f5, f6, f7, f9, strsF, strsR_len, Nat.min_eq_left hk]
            refine ⟨_, by omega, j + 1, by omega, rfl, w64 (by omega) (by omega), _, _, ⟨rfl, rfl⟩, ?_⟩
            rw [hst, insB_at v L k hk hall (fun _ => ⟨hb, he⟩)]
            have ht : List.take L.length (strsR L) = strsR L := List.take_of_length_le (by rw [strsR_len]; exact Nat.le_refl _)
            simp [upd, ht]
            simp [strsR, List.map_take, List.map_drop]
      · obtain rfl : k = L.length := by omega
        simp -dsimp -implicitDefEqProofs [go_sem, f1, f2, f5, f6, f7, f9, strsF, strsR_len]
        refine andL_mk (by omega) ?_
        simp -dsimp -implicitDefEqProofs [go_sem, f1, f2, f5, f6, f7, f9, strsF, strsR_len]
        refine andL_mk (by omega) ?_
        simp -dsimp -implicitDefEqProofs [go_sem, f1, f2, f5, f6, f7, f9, strsF, strsR_len]
        refine andL_mk (by omega) ?_
        simp -dsimp -implicitDefEqProofs [go_sem, f1, f2, f5, f6, f7, f9, strsF, strsR_len]
        refine ⟨_, by omega, j + 1, by omega, rfl, w64 (by omega) (by omega), _, _, ⟨rfl, rfl⟩, ?_⟩
        rw [hst, insB_at v L L.length (Nat.le_refl _) hall (fun h => absurd h (Nat.lt_irrefl _))]
        have ht : List.take L.length (strsR L) = strsR L := List.take_of_length_le (by rw [strsR_len]; exact Nat.le_refl _)
        simp [upd, ht]
        simp [strsR]
    · have hst : domL s key (j + 1) = domL s key j := by simp [domL, hv]
      simp -dsimp -implicitDefEqProofs [go_sem, valF, hv, f1, f2, f5, f6]
      exact ⟨_, by omega, j + 1, by omega, rfl, w64 (by omega) (by omega), by rw [hst]⟩
  · obtain rfl : j = s.nodes.n := by omega
    simp -dsimp -implicitDefEqProofs [go_sem, f1, f2, f5, f6, nodesF]
    refine runHL_end ?_
    simp -dsimp -implicitDefEqProofs [go_sem, f1, f2, f5, f6]
    exact FLe.refl _
/-- all domains of a key, of a cluster that may be -/
def domsF (s : SnapD) (key : ByteArray) : FD := strsF (if checkE s = 0 then domL s key s.nodes.n else [])
set_option maxRecDepth 100000 in
theorem ref07Domains_pure (s : SnapD) (ok : SnapOk s) (key : ByteArray) : Pure Tryz.prog 48 [snapF s, S key] (domsF s key) := by
  refine Pure.of_run' (lit := true) Tryz.func48 rfl rfl rfl rfl (Nat.le_of_ble_eq_true rfl) (run_of_runL ?_)
  unfold St.enter
  simp -dsimp -implicitDefEqProofs [go_sem, snapF, snapC]
  refine callW_f (fs := [snapF s]) (refCheck_pure s ok) ?_
  by_cases hc : checkE s = 0
  · have h1 : (checkE s != 0) = false := by simp [hc]
    simp -dsimp -implicitDefEqProofs [go_sem, h1]
    refine callW_f (fs := [snapF s, S key]) (ref07domains_pure s ok key) ?_
    simp -dsimp -implicitDefEqProofs [go_sem, strsF]
    unfold domsF
    rw [if_pos hc]
    exact FLe.refl _
  · have h1 : (checkE s != 0) = true := by simpa using hc
    simp -dsimp -implicitDefEqProofs [go_sem, h1]
    unfold domsF
    rw [if_neg hc]
    exact FLe.nil _
set_option maxRecDepth 100000 in
theorem eqTexts_pure (l : List ByteArray) (hl : l.length ≤ 1048576) : Pure Tryz.prog 46 [strsF l, strsF l] (B true) := by
  refine Pure.of_run (lit := true) Tryz.func46 rfl rfl rfl rfl (Nat.le_of_ble_eq_true rfl) (run_of_runL ?_)
  unfold St.enter
  simp -dsimp -implicitDefEqProofs [go_sem, strsF, strsR_len]
  refine runL_loop [] 7 (by simp -dsimp -implicitDefEqProofs [go_sem]) (fun m st => ∃ j : Nat, st.n = 26 ∧ st.lit = true ∧ j ≤ l.length ∧ m = l.length - j ∧ st.fr 0 = .f (strsF l) ∧ st.fr 1 = .f (strsF l) ∧ st.fr 5 = .f (I j)) l.length ⟨0, ?_⟩ ?_
  · simp -dsimp -implicitDefEqProofs [go_sem, strsF]
  rintro m ⟨N, fr, mem, nx, lt⟩ hnx ⟨j, hN, hlt, hj, rfl, f0, f1, f5⟩
  dsimp only at *
  subst hN hnx hlt
  rcases Nat.lt_or_ge j l.length with hlt | hge
  · simp -dsimp -implicitDefEqProofs [go_sem, f0, f1, f5, strsF, strsR_len, hlt]
    refine runL_draw [[], [], [0, 1], [2, 0, 1], [], [], [4, 5], [6, 4, 5], [3, 2, 0, 1, 7, 6, 4, 5]] (by kernel_rfl) (by kernel_rfl) ?_
    simp -dsimp -implicitDefEqProofs [go_sem, Tv, Cw, silentAt, silentOp, f0, f1, f5, strsF, strsR_len, hlt, strsR_at, strsR_get hlt]
    exact ⟨_, by omega, j + 1, by omega, rfl, w64 (by omega) (by omega)⟩
  · obtain rfl : j = l.length := by omega
    simp -dsimp -implicitDefEqProofs [go_sem, f0, f1, f5, strsF, strsR_len]
end Go.Proofs.YthpmgnbehahkfaaGreat
end
section
namespace Go.Proofs.YthpmgnbehahkfaaGreat
open Go.RowKit Go.Dk Go.Dn Go.Maps

theorem ltB_eq (a b : ByteArray) : ltB a b = decide (a.data.toList < b.data.toList) := by
  unfold ltB
  rw [bytesLess_eq, Lib.toList_data, Lib.toList_data]
def bL (l : List ByteArray) : List (List UInt8) := l.map fun c => c.data.toList
theorem beq_bytes (a b : ByteArray) : (a.toList == b.toList) = decide (a.data.toList = b.data.toList) := by
  rw [Lib.toList_data, Lib.toList_data]
  by_cases h : a.data.toList = b.data.toList
  · rw [beq_iff_eq.2 h, decide_eq_true h]
  · rw [beq_eq_false_iff_ne.2 h, decide_eq_false h]
theorem lt_tri {a b : List UInt8} (h1 : ¬ a < b) (h2 : ¬ a = b) : b < a := by
  rcases Decidable.em (b < a) with h | h
  · exact h
  · exact absurd (List.le_antisymm (List.not_lt.1 h) (List.not_lt.1 h1)) h2
theorem insB_mem (v : ByteArray) (x : List UInt8) : ∀ l, x ∈ bL (insB v l) ↔ x = v.data.toList ∨ x ∈ bL l
  | [] => by simp [insB, bL]
  | y :: l => by
    have ih := insB_mem v x l
    unfold insB
    rw [ltB_eq, beq_bytes]
    by_cases h1 : y.data.toList < v.data.toList
    · rw [if_pos (by simpa using h1)]
      simp only [bL, List.map_cons, List.mem_cons] at ih ⊢
      rw [ih]
      exact ⟨fun h => h.elim (fun h => .inr (.inl h)) (fun h => h.elim .inl fun h => .inr (.inr h)), fun h => h.elim (fun h => .inr (.inl h)) (fun h => h.elim .inl fun h => .inr (.inr h))⟩
    · rw [if_neg (by simpa using h1)]
      by_cases h2 : y.data.toList = v.data.toList
      · rw [if_pos (by simpa using h2)]
        simp only [bL, List.map_cons, List.mem_cons]
        exact ⟨.inr, fun h => h.elim (fun h => .inl (h.trans h2.symm)) id⟩
      · rw [if_neg (by simpa using h2)]
        simp [bL]
theorem insB_rise (v : ByteArray) : ∀ l, (bL l).Pairwise (· < ·) → (bL (insB v l)).Pairwise (· < ·)
  | [], _ => by simp [insB, bL]
  | y :: l, h => by
    have h' := h
    simp only [bL, List.map_cons, List.pairwise_cons] at h'
    obtain ⟨g1, g2⟩ := h'
    have ih := insB_rise v l g2
    unfold insB
    rw [ltB_eq, beq_bytes]
    by_cases h1 : y.data.toList < v.data.toList
    · rw [if_pos (by simpa using h1)]
      simp only [bL, List.map_cons, List.pairwise_cons]
      refine ⟨fun x hx => ?_, ih⟩
      rcases (insB_mem v x l).1 hx with rfl | hx
      · exact h1
      · exact g1 x hx
    · rw [if_neg (by simpa using h1)]
      by_cases h2 : y.data.toList = v.data.toList
      · rw [if_pos (by simpa using h2)]
        exact h
      · rw [if_neg (by simpa using h2)]
        have h3 := lt_tri h1 h2
        simp only [bL, List.map_cons, List.pairwise_cons]
        refine ⟨fun x hx => ?_, g1, g2⟩
        rcases List.mem_cons.1 hx with rfl | hx
        · exact h3
        · exact List.lt_trans h3 (g1 x hx)
theorem domL_rise (s : SnapD) (key : ByteArray) : ∀ j, (bL (domL s key j)).Pairwise (· < ·)
  | 0 => by simp [domL, bL]
  | j + 1 => by
    have ih := domL_rise s key j
    unfold domL
    split
    · exact insB_rise _ _ ih
    · exact ih
/-- the set of the values, at the first nodes -/
def dmD (s : SnapD) (key : ByteArray) : Nat → DataW Unit
  | 0 => .map []
  | j + 1 => if valB (s.nodes.el j) key = true then (dmD s key j).put (.string (valS (s.nodes.el j) key).data.toList) (.lit (.int .i64 1)) else dmD s key j
theorem dmD_map (s : SnapD) (key : ByteArray) : ∀ j, IsMap (dmD s key j)
  | 0 => isMap_empty
  | j + 1 => by
    have ih := dmD_map s key j
    unfold dmD
    split
    · exact ih.put _ _
    · exact ih
theorem dmD_has (s : SnapD) (key : ByteArray) (x : List UInt8) : ∀ j, has (dmD s key j) (.string x) = true ↔ x ∈ bL (domL s key j)
  | 0 => by simp [dmD, domL, bL, has]
  | j + 1 => by
    have ih := dmD_has s key x j
    unfold dmD domL
    by_cases h : valB (s.nodes.el j) key = true
    · rw [if_pos h, if_pos h, insB_mem]
      by_cases e : x = (valS (s.nodes.el j) key).data.toList
      · subst e
        rw [has_put_same (dmD_map s key j) (by trivial)]
        simp
      · rw [has_put_other (by simpa using e), ih]
        simp [e]
    · rw [if_neg h, if_neg h]
      exact ih
theorem dmD_sorted {s : SnapD} {key : ByteArray} {j b n k : Nat} {P : Program} {R : Value → Option (DataW Unit × List MemPlace)} {w : World} (hown : w.ownsMap P k R b n (dmD s key j)) (K : Keyed P k) (hk : P.underlying k = some .string) {ss : List (List UInt8)} (h : ss.Perm (strKeys (dmD s key j))) :
    ss.mergeSort leB = bL (domL s key j) := by
  have hr := domL_rise s key j
  have hC : Collected (dmD s key j) (fun _ => false) (bL (domL s key j)) := by
    refine ⟨hr.imp fun {a b} h e => ?_, fun x => ?_⟩
    · subst e
      exact List.lt_irrefl _ h
    · rw [dmD_has]
      simp
  rw [mergeSort_of_perm (h.trans (hC.perm hown K hk fun _ => rfl).symm)]
  exact List.mergeSort_of_pairwise (hr.imp fun {a b} h => by
    simp only [leB, decide_eq_true_eq]
    exact List.le_of_lt h)
end Go.Proofs.YthpmgnbehahkfaaGreat
end
section
namespace Go.Proofs.YthpmgnbehahkfaaGreat
open Go.RowKit Go.Dk Go.Dn Go.Shelf

attribute [local go_sem] Oper.semAt_some

/-- how often a number is in a row -/
def numL (xs : List Int) (m : Nat) : Int := (xs.filter (· == (m : Int))).length
theorem numL_snoc (xs : List Int) (x : Int) (m : Nat) : numL (xs ++ [x]) m = numL xs m + if x = m then 1 else 0 := by
  unfold numL
  rw [List.filter_append]
  by_cases h : x = m
  · simp [h]
  · simp [h]
theorem numL_range (xs : List Int) (m : Nat) : 0 ≤ numL xs m ∧ numL xs m ≤ xs.length := by
  unfold numL
  have := List.length_filter_le (· == (m : Int)) xs
  omega
/-- a block is a row of numbers -/
def RowIs (W : World) (R N : Nat) (f : Nat → Int) : Prop := W.heap[R]? = some (.cells ((List.range N).map fun m => Value.int .i64 (f m)).toArray 3 (0, 0))
theorem RowIs.cell {W : World} {R N : Nat} {f : Nat → Int} (h : RowIs W R N f) {m : Nat} (hm : m < N) : W.cell? ⟨R, m, none⟩ = some (.int .i64 (f m)) := cell_of_heap h (by simp [hm])
theorem RowIs.free {W : World} {R N : Nat} {f : Nat → Int} (h : RowIs W R N f) (m : Nat) : W.frozen? ⟨R, m, none⟩ = false := free_of_heap h
theorem RowIs.set {W : World} {R N : Nat} {f : Nat → Int} (h : RowIs W R N f) {m : Nat} (hm : m < N) (x : Int) : RowIs (W.setCell ⟨R, m, none⟩ (.int .i64 x)) R N (fun k => if k = m then x else f k) := by
  unfold RowIs at *
  rw [hset_same h]
  congr 2
  apply Array.ext'
  simp only [Array.toList_setIfInBounds]
  refine List.ext_getElem? fun i => ?_
  simp only [List.getElem?_set, List.getElem?_map, List.length_map, List.length_range]
  by_cases hi : i < N
  · rw [List.getElem?_range hi]
    by_cases h2 : m = i
    · subst h2
      simp [hi]
    · simp [h2, Ne.symm h2]
  · rw [List.getElem?_eq_none (by simpa using hi)]
    by_cases h2 : m = i
    · omega
    · simp [h2]
theorem made_ints (n : Nat) : madeCells #[Value.int .i64 0] n = ((List.range n).map fun _ => Value.int .i64 0).toArray := by
  apply Array.ext'
  simp [madeCells, Nat.mod_one]
theorem info_int : ∃ i, Tryz.prog.info? 3 = some i ∧ i.zero = some (.int .i64 0) ∧ i.size = 1 ∧ i.bytes = 8 := by
  have h : (Tryz.prog.info? 3).map (fun i => (i.zero, i.size, i.bytes)) = some (some (.int .i64 0), 1, 8) := by kernel_rfl
  cases hi : Tryz.prog.info? 3 with
  | none => rw [hi] at h; cases h
  | some i =>
    rw [hi] at h
    simp only [Option.map_some, Option.some.injEq, Prod.mk.injEq] at h
    exact ⟨i, rfl, h.1, h.2.1, h.2.2⟩
theorem make_ints (V : World) (n : Nat) (hn : n ≤ 1048576) : (Instr.makeSlice 27 (.int .i64 n) (.int .i64 n)).run Tryz.prog V = .ok (.slice (some ⟨V.heap.size, 0, none⟩) n n) (V.alloc (.cells ((List.range n).map fun _ => Value.int .i64 0).toArray 3 (0, 0))) := by
  obtain ⟨i, h1, h2, h3, h4⟩ := info_int
  have this := run_makeSlice (P := Tryz.prog) V 27 3 i _ Tryz.underlying27 h1 h2 .i64 .i64 n n (by omega) (Int.le_refl _) (by rw [h3]; omega) (by rw [h4]; omega) (by omega)
  have e : madeCells (Value.int .i64 0).cells (n * i.size) = ((List.range n).map fun _ => Value.int .i64 0).toArray := by
    rw [h3, Nat.mul_one]
    exact made_ints n
  simp only [Int.toNat_natCast, e] at this
  exact this
theorem row_own {β : Type} (R N : Nat) (f : β → Nat → Int) : Own (fun s W => RowIs W R N (f s)) := fun s X Y row hs hg hr =>
  (grownBy_keeps_cells hg hr (show X.heap[R]? = _ from hs) rfl).trans hs
def valsR {R : Int → Prop} (l : List {i : Int // R i}) : List Int := l.map (·.1)
theorem valsR_snoc {R : Int → Prop} (l : List {i : Int // R i}) (x : {i : Int // R i}) : valsR (l ++ [x]) = valsR l ++ [x.1] := by simp [valsR]
theorem valsR_len {R : Int → Prop} (l : List {i : Int // R i}) : (valsR l).length = l.length := by simp [valsR]
def BoxIs (W : World) (b : Nat) (v : Value) (t : TypeId) : Prop := W.heap[b]? = some (.cells #[v] t (0, 0))
theorem box_own {β : Type} (b : Nat) (v : Value) (t : TypeId) : Own (fun (_ : β) W => BoxIs W b v t) := fun s X Y row hs hg hr =>
  (grownBy_keeps_cells hg hr (show X.heap[b]? = _ from hs) rfl).trans hs
theorem rep_nil (x : X) (sz : Nat) : Rep x (.slice none 0 0) (.sl sz []) := by
  unfold Rep
  exact ⟨none, 0, rfl, ⟨Nat.le_refl _, Nat.zero_le _⟩, fun _ => rfl, fun h => absurd rfl h⟩
theorem RowIs.rep {W : World} {R N : Nat} {f : Nat → Int} (h : RowIs W R N f) (hN : N ≤ 1048576) {WS : Nat → Nat → Prop} (hws : ∀ o, ¬ WS R o) : Rep ⟨WS, W⟩ (.slice (some ⟨R, 0, none⟩) N N) (intsF ⟨N, f⟩) := by
  unfold intsF Rep
  refine ⟨some ⟨R, 0, none⟩, N, by rw [encL_len], ⟨by rw [encL_len]; exact Nat.le_refl _, by unfold maxLen; omega⟩, (fun e => by cases e), fun _ => ⟨R, 0, rfl, ?_⟩⟩
  unfold encL
  rw [List.range_eq_range']
  refine repR_mk N 0 0 fun i hi => ⟨rfl, ?_⟩
  unfold RepA
  refine ⟨⟨.int .i64 (f (0 + i)), ?_, hws _, rfl, by unfold Rep; rfl⟩, by unfold RepA; trivial⟩
  have := h.cell hi
  simpa using this
set_option maxRecDepth 100000 in
set_option maxHeartbeats 4000000 in
theorem counts_any (s : SnapD) (ok : SnapOk s) (l : Lst Int) (hl : l.n ≤ 1048576) (k : Int) (WS : Nat → Nat → Prop) (w : World) (hws : ∀ b o, WS b o → b < w.heap.size) {n p o q : Value} (h1 : Rep ⟨WS, w⟩ (.agg #[n, p, o]) (snapF s)) (h2 : Rep ⟨WS, w⟩ q (intsF l)) :
    Calls Tryz.prog 58 #[.agg #[n, p, o], q, .int .i64 k] w fun e w' => ∃ v, e = .returned v ∧ Rep ⟨WS, w'⟩ v (intsF ⟨if askedB s l k then s.nodes.n else 0, numL (ownL s l k.toNat l.n)⟩) ∧ Chg No w w' := by
  have hb1 := heap_alloc_new w (.cells #[n, p, o] 26)
  have hcw := (Chg.refl No w).alloc (.cells #[n, p, o] 26)
  refine (callsIn_wide (n := 6)).1 ?_
  refine callsIn_of_wp_marks Tryz.func58 rfl trivial ?_ rfl
  simp only [Tryz.ntmps58, List.size_toArray, List.length_cons, List.length_nil, Nat.reduceAdd, Nat.reduceSub, Array.replicate_succ, Array.replicate_zero, List.push_toArray, List.append_toArray, List.nil_append, List.cons_append]
  gi_wp2_with fail
  have hwC := hcw
  generalize hW : w.alloc _ = W at hb1 hcw ⊢
  generalize hBe : w.heap.size = B at hb1 ⊢
  have hws1 : ∀ b o, WS b o → b < W.heap.size := fun b o h => Nat.lt_of_lt_of_le (hws b o h) hcw.size
  have hsub : ∀ V, Chg No w V → Sub ⟨WS, w⟩ ⟨WS, V⟩ := fun V hc b o u hu hn => ⟨hc.cell hu id, hn⟩
  have r1 := fun V hc => Rep.mono (hsub V hc) h1
  have r2 := fun V hc => Rep.mono (hsub V hc) h2
  have r3 : ∀ x : X, Rep x (.int .i64 k) (I k) := fun x => by unfold Rep; rfl
  refine ⟨trivial, (callsIn_wide.2 ((asked_pure s ok l hl k).2 ⟨_, W⟩ _ hws1 (repL_3 (r1 _ hcw) (r2 _ hcw) (r3 _)))).mono ?_⟩
  rintro e V ⟨v, rfl, hv, hc⟩
  unfold Rep at hv
  subst hv
  have c0 := hc.cell (cell_of_heap (j := 0) hb1 rfl) id
  have c1 := hc.cell (cell_of_heap (j := 1) hb1 rfl) id
  have c2 := hc.cell (cell_of_heap (j := 2) hb1 rfl) id
  have hcV := hcw.trans hc
  clear hc hcw hb1 hws1
  rcases Bool.eq_false_or_eq_true (askedB s l k) with ha | ha
  · rw [ha]
    obtain ⟨na, nc, hn⟩ : ∃ a c, n = .slice a s.nodes.n c := by
      have := h1
      unfold snapF snapC Rep RepC nodesF at this
      obtain ⟨vs, e, u, us, rfl, -, hu, -⟩ := this
      injection e with e
      have e2 : n = u := by
        have := congrArg Array.toList e
        simp only at this
        exact (List.cons.inj this).1
      subst e2
      unfold Rep at hu
      obtain ⟨a, c, e3, -⟩ := hu
      rw [encL_len] at e3
      exact ⟨a, c, e3⟩
    subst hn
    have hmk := make_ints V s.nodes.n ok.n1
    obtain ⟨V2, hV2⟩ : ∃ V2, V2 = (V.alloc (.cells ((List.range s.nodes.n).map fun _ => Value.int .i64 0).toArray 3 (0, 0))).alloc (.cells #[.slice (some ⟨V.heap.size, 0, none⟩) s.nodes.n s.nodes.n] 27 (0, 0)) := ⟨_, rfl⟩
    have hc2 : Chg No V V2 := by rw [hV2]; exact ((Chg.refl No V).alloc _).alloc _
    have d0 := hc2.cell c0 id
    have d1 := hc2.cell c1 id
    have d2 := hc2.cell c2 id
    rw [hV2] at d0 d1 d2
    gi_wp2_with fail
    rw [← hV2]
    have hcV2 := hcV.trans hc2
    have hRow : RowIs V2 V.heap.size s.nodes.n (fun _ => 0) := by
      rw [hV2]
      exact heap_alloc_old' (heap_alloc_new V _)
    have hBox : BoxIs V2 (V.heap.size + 1) (.slice (some ⟨V.heap.size, 0, none⟩) s.nodes.n s.nodes.n) 27 := by
      rw [hV2]
      have := heap_alloc_new (V.alloc (.cells ((List.range s.nodes.n).map fun _ => Value.int .i64 0).toArray 3 (0, 0))) (.cells #[.slice (some ⟨V.heap.size, 0, none⟩) s.nodes.n s.nodes.n] 27 (0, 0))
      rwa [World.size_alloc] at this
    have hwV : w.heap.size ≤ V.heap.size := hcV.size
    have hBV : B < V.heap.size := World.block_lt_of_cell? _ _ c0
    generalize V.heap.size = R at hRow hBox hwV hBV ⊢
    clear d0 d1 d2 hV2 hmk hc2 c0 c1 c2
    have hk : 0 ≤ k ∧ k < (s.owners.n : Int) ∧ mayB s l = true := by
      simp [askedB] at ha
      exact ⟨ha.2.1, ha.2.2, ha.1⟩
    obtain ⟨j, rfl⟩ : ∃ j : Nat, k = j := ⟨k.toNat, by omega⟩
    have hln : l.n = s.pods.n := (may_facts hk.2.2).2.2.2.1
    have hws2 : ∀ b o, (WS b o ∨ b = R) → b < V2.heap.size := fun b o h => by
      rcases h with h | rfl
      · exact Nat.lt_of_lt_of_le (hws b o h) hcV2.size
      · exact lt_of_heap hRow
    have hsub2 : Sub ⟨WS, w⟩ ⟨fun b o => WS b o ∨ b = R, V2⟩ := fun b o u hu hn => by
      refine ⟨hcV2.cell hu id, fun h => ?_⟩
      rcases h with h | rfl
      · exact hn h
      · have := World.block_lt_of_cell? _ _ hu
        dsimp only at this
        omega
    refine ⟨trivial, (callsIn_wide.2 ((owned_pure s l j).2 ⟨_, V2⟩ _ hws2 (repL_3 (Rep.mono hsub2 h1) (Rep.mono hsub2 h2) (r3 _)))).mono ?_⟩
    rintro e U ⟨v, rfl, hv, hc⟩
    unfold Rep at hv
    obtain ⟨vs, rfl, hr⟩ := hv
    have hRowU : RowIs U R s.nodes.n (fun _ => 0) := hc.heap hRow id
    have hBoxU : BoxIs U (R + 1) (.slice (some ⟨R, 0, none⟩) s.nodes.n s.nodes.n) 27 := hc.heap hBox id
    have hcU := hcV2.trans hc
    have it := owned1_iterR s l hl (by omega) j (by omega) (fun i => 0 ≤ i ∧ i < s.nodes.n) (fun m hm h0 => by
      obtain ⟨-, -, -, -, hodd⟩ := may_facts hk.2.2
      refine ⟨h0, ?_⟩
      rcases Int.lt_or_le (l.el m) s.nodes.n with h | h
      · exact h
      · have := anyB_true (p := fun k => oddP s (l.el k)) hm (by simp [oddP, h])
        rw [this] at hodd
        cases hodd)
    have hlen := ownL_len s l j l.n
    have hseq := it.2 (isB R) (gB R) 5 U vs (own1B _) (lt_of_heap hRowU) (RepL.mono (x := ⟨fun b o => WS b o ∨ b = R, U⟩) (y := ⟨fun b _ => isB R U b, U⟩) (fun b o u hc hn => ⟨hc, fun h => hn (Or.inr h)⟩) hr)
    generalize vs.toArray = lb at *
    obtain ⟨xs, hxs⟩ : ∃ xs, xs = ownL s l j l.n := ⟨_, rfl⟩
    rw [← hxs] at hseq hlen
    have HX := Go.Lib.hid hxs
    clear hxs
    have hRU : R < U.heap.size := lt_of_heap hRowU
    have hon := ok.n1
    clear hr hc hws2 r1 r2 r3 hsub hsub2 it hBox hRow hcV2 hcV
    gi_wp2_with fail
    refine wpIn_rangeFunc_ownG (α := {i : Int // 0 ≤ i ∧ i < s.nodes.n}) rfl (by omega) (gf := 169) (lb := lb) rfl trivial (enters_of Tryz.func169 (by kernel_rfl) rfl)
      hseq kpB_t (fun W l o o' hl ho hoc _ => kpB_b (by have := hl; omega) ho hoc) (Below.refl _ _) (fun _ => rfl)
      (fun pre W => (RowIs W R s.nodes.n (numL (valsR pre)) ∧ BoxIs W (R + 1) (.slice (some ⟨R, 0, none⟩) s.nodes.n s.nodes.n) 27) ∧ Below w.heap.size w W)
      (fun _ _ _ => False)
      (OwnFrom.and (OwnFrom.and (Own.from (row_own R s.nodes.n (fun pre => numL (valsR pre))) _) (Own.from (box_own _ _ _) _)) (ownFrom_below (Nat.le_refl _) hcU.size))
      (fun _ _ _ _ _ hs _ _ => hs)
      ⟨⟨hRowU, hBoxU⟩, hcU.below⟩
      (fun x => { tmps := #[.agg #[.slice na s.nodes.n nc, p, o], q, .int .i64 j, .pointer (some ⟨B, 0, none⟩), undef, undef, .slice none 0 0, .pointer (some ⟨R + 1, 0, none⟩), .int .i64 x.1, .agg #[.slice na s.nodes.n nc, p, o], q, .int .i64 j, .bool true, .bool false,
        .pointer (some ⟨B, 0, none⟩), .slice na s.nodes.n nc, .int .i64 s.nodes.n, .slice (some ⟨R, 0, none⟩) s.nodes.n s.nodes.n, .agg #[.slice na s.nodes.n nc, p, o], q, .int .i64 j, .func (.func 169) #[] lb, .int .i64 x.1, undef, undef, undef, undef, undef, undef, undef], defers := [] })
      ?assign ?body ?done ?stop
    case assign =>
      intro l x W K hK
      gi_wp2
      simpa [undef] using hK
    case body =>
      rintro lr pre ⟨x, hx0, hx1⟩ W ⟨⟨hR, hB⟩, hBl⟩ hlt
      obtain ⟨m, rfl⟩ : ∃ m : Nat, x = m := ⟨x.toNat, by omega⟩
      have hm : m < s.nodes.n := by omega
      have c0 := hR.cell hm
      have f0 := hR.free m
      have cb : W.cell? ⟨R + 1, 0, none⟩ = some (.slice (some ⟨R, 0, none⟩) s.nodes.n s.nodes.n) := cell_of_heap hB rfl
      have hw : wrap64 (numL (valsR pre) m + 1) = numL (valsR pre) m + 1 := by
        have := numL_range (valsR pre) m
        rw [valsR_len] at this
        exact IntWalk.wrap64_in _ (by omega)
      dsimp only
      gi_wp2
      rw [hw]
      have hR2 := hR.set hm (numL (valsR pre) m + 1)
      refine ⟨(KeepsOthers.setCell _ _ _).from _, kpB_s m, ⟨?_, hset_other hB (by omega) _⟩, ?_⟩
      · have e : (fun k => if k = m then numL (valsR pre) m + 1 else numL (valsR pre) k) = numL (valsR (pre ++ [⟨(m : Int), hx0, hx1⟩])) := by
          funext i
          rw [valsR_snoc, numL_snoc]
          by_cases h : i = m
          · subst h; simp
          · have h' : ¬ ((m : Int) = i) := by omega
            simp [h, h']
        rw [← e]
        exact hR2
      · exact hBl.trans (((Chg.refl (· = R) W).setCell (p := ⟨R, m, none⟩) (fun _ => rfl) _).belowB hBl.size (fun k hk => by omega))
    case done =>
      rintro E ys W hE hys ⟨⟨hR, hB⟩, hBl⟩ hK
      have cb : W.cell? ⟨R + 1, 0, none⟩ = some (.slice (some ⟨R, 0, none⟩) s.nodes.n s.nodes.n) := cell_of_heap hB rfl
      gi_wp2
      have hEs := lt_of_heap hK
      refine ⟨by simp, .inl ⟨_, _, rfl, run_takeDeferred hK, ?_⟩⟩
      have hRE : RowIs (W.putObj E (.deferred none)) R s.nodes.n (numL (valsR ys)) := (World.putObj_heap_other (by omega)).trans hR
      refine ⟨.slice (some ⟨R, 0, none⟩) s.nodes.n s.nodes.n, by simp [results, Tryz.results58, go_sem], _, rfl, ?_, ?_⟩
      · have e : valsR ys = ownL s l j s.pods.n := by
          rw [← hln]
          exact Eq.trans hys HX.out
        rw [← e]
        exact hRE.rep hon fun o h => absurd (hws R o h) (by omega)
      · exact Chg.of_below (hBl.trans (belowK_b (w := w) (Nat.le_refl _) W E _ _ (by have := hcU.size; omega) hK rfl rfl))
    case stop =>
      rintro D c pre W _ _ h _
      exact h.elim
  · rw [ha]
    gi_wp2_with fail
    all_goals exact ⟨.slice none 0 0, by simp [results, Tryz.results58, go_sem], _, rfl, rep_nil _ _, hcV⟩
/-- how many of an owner's pods are on each node -/
def countsL (s : SnapD) (l : Lst Int) (k : Int) : Lst Int := ⟨if askedB s l k then s.nodes.n else 0, numL (ownL s l k.toNat l.n)⟩
theorem counts_pure (s : SnapD) (ok : SnapOk s) (l : Lst Int) (hl : l.n ≤ 1048576) (k : Int) : Pure Tryz.prog 58 [snapF s, intsF l, I k] (intsF (countsL s l k)) :=
  ⟨goes_of Tryz.func58 rfl rfl, fun x vs hws hr => by
    obtain ⟨u, v, z, rfl, h1, h2, h3⟩ := repL3 hr
    obtain ⟨n, p, o, rfl⟩ := snapF_split h1
    unfold Rep at h3
    subst h3
    refine (counts_any s ok l hl k x.WS x.W hws h1 h2).mono fun e w' ⟨v, h1, h2, h3⟩ => ⟨v, h1, h2, h3⟩⟩
end Go.Proofs.YthpmgnbehahkfaaGreat
end
section
namespace Go.Proofs.YthpmgnbehahkfaaGreat
open Go.RowKit Go.Dk Go.Dn Go.Shelf Go.Maps Go.Sort Go.WideMaps

/-- a node's cells, out of a row of nodes -/
theorem node_row {x : X} {a : Option Addr} {n c : Nat} {l : Lst NodeD} (h : Rep x (.slice a n c) (nodesF l)) {j : Nat} (hj : j < l.n) : ∃ b o a6 c6 a7 c7, a = some ⟨b, o, none⟩ ∧
    (x.W.cell? ⟨b, o + j * 10, none⟩ = some (.string (l.el j).name) ∧ x.W.cell? ⟨b, o + j * 10 + 1, none⟩ = some (.int .i64 ((l.el j).cap 0)) ∧ x.W.cell? ⟨b, o + j * 10 + 2, none⟩ = some (.int .i64 ((l.el j).cap 1)) ∧ x.W.cell? ⟨b, o + j * 10 + 3, none⟩ = some (.int .i64 ((l.el j).cap 2)) ∧
      x.W.cell? ⟨b, o + j * 10 + 4, none⟩ = some (.int .i64 ((l.el j).cap 3)) ∧ x.W.cell? ⟨b, o + j * 10 + 5, none⟩ = some (.int .i64 ((l.el j).cap 4)) ∧ x.W.cell? ⟨b, o + j * 10 + 6, none⟩ = some (.slice a6 (l.el j).labels.n c6) ∧ x.W.cell? ⟨b, o + j * 10 + 7, none⟩ = some (.slice a7 (l.el j).taints.n c7) ∧
      x.W.cell? ⟨b, o + j * 10 + 8, none⟩ = some (.bool (l.el j).cordon) ∧ x.W.cell? ⟨b, o + j * 10 + 9, none⟩ = some (.bool (l.el j).lost)) ∧
    Rep x (.agg #[.string (l.el j).name, .int .i64 ((l.el j).cap 0), .int .i64 ((l.el j).cap 1), .int .i64 ((l.el j).cap 2), .int .i64 ((l.el j).cap 3), .int .i64 ((l.el j).cap 4), .slice a6 (l.el j).labels.n c6, .slice a7 (l.el j).taints.n c7, .bool (l.el j).cordon, .bool (l.el j).lost]) (.agg (nodeC (l.el j))) := by
  unfold nodesF Rep at h
  obtain ⟨a', c', e, -, -, h⟩ := h
  injection e with e1 e2 e3
  subst e1
  obtain ⟨b, o, rfl, hr⟩ := h (by
    intro h0
    have := congrArg List.length h0
    rw [encL_len] at this
    simp at this
    omega)
  have hA := (repR_get hr (encL_get? (fun k => nodeC (l.el k)) hj)).2
  unfold nodeC RepA at hA
  obtain ⟨⟨v0, c0, -, -, r0⟩, hA⟩ := hA
  unfold RepA at hA
  obtain ⟨⟨v1, c1, -, -, r1⟩, hA⟩ := hA
  unfold RepA at hA
  obtain ⟨⟨v2, c2, -, -, r2⟩, hA⟩ := hA
  unfold RepA at hA
  obtain ⟨⟨v3, c3, -, -, r3⟩, hA⟩ := hA
  unfold RepA at hA
  obtain ⟨⟨v4, c4, -, -, r4⟩, hA⟩ := hA
  unfold RepA at hA
  obtain ⟨⟨v5, c5, -, -, r5⟩, hA⟩ := hA
  unfold RepA at hA
  obtain ⟨⟨v6, c6, -, o6, r6⟩, hA⟩ := hA
  unfold RepA at hA
  obtain ⟨⟨v7, c7, -, o7, r7⟩, hA⟩ := hA
  unfold RepA at hA
  obtain ⟨⟨v8, c8, -, -, r8⟩, hA⟩ := hA
  unfold RepA at hA
  obtain ⟨⟨v9, c9, -, -, r9⟩, -⟩ := hA
  unfold Rep at r0 r1 r2 r3 r4 r5 r8 r9
  subst r0 r1 r2 r3 r4 r5 r8 r9
  have r6' := r6
  have r7' := r7
  unfold labsF Rep at r6' r7'
  obtain ⟨a6, q6, e6, -⟩ := r6'
  obtain ⟨a7, q7, e7, -⟩ := r7'
  rw [encL_len] at e6 e7
  subst e6 e7
  refine ⟨b, o, a6, q6, a7, q7, rfl, ⟨c0, c1, c2, c3, c4, c5, c6, c7, c8, c9⟩, ?_⟩
  unfold Rep
  refine ⟨_, rfl, ?_⟩
  unfold nodeC
  simp only [repC_V, repC_nil]
  refine ⟨_, rfl, rfl, _, rfl, rfl, _, rfl, rfl, _, rfl, rfl, _, rfl, rfl, _, rfl, rfl, ?_⟩
  unfold RepC
  refine ⟨_, _, rfl, o6, r6, ?_⟩
  unfold RepC
  refine ⟨_, _, rfl, o7, r7, ?_⟩
  simp only [repC_V, repC_nil]
  exact ⟨_, rfl, rfl, _, rfl, rfl, rfl⟩
theorem nodes_of_snap {x : X} {n p o : Value} {s : SnapD} (h1 : Rep x (.agg #[n, p, o]) (snapF s)) : ∃ a c, n = .slice a s.nodes.n c ∧ Rep x n (nodesF s.nodes) := by
  unfold snapF snapC Rep at h1
  obtain ⟨vs, e, h1⟩ := h1
  unfold RepC at h1
  obtain ⟨u, us, rfl, -, hu, -⟩ := h1
  injection e with e
  have e2 : n = u := by
    have := congrArg Array.toList e
    simp only at this
    exact (List.cons.inj this).1
  subst e2
  have hu2 := hu
  unfold nodesF Rep at hu
  obtain ⟨a, c, e3, -⟩ := hu
  rw [encL_len] at e3
  exact ⟨a, c, e3, hu2⟩
theorem repL_1 {x : X} {a : Value} {d : FD} (h1 : Rep x a d) : RepL x [a] [d] := by
  unfold RepL
  refine ⟨_, _, rfl, h1, ?_⟩
  unfold RepL
  rfl
theorem repL_2 {x : X} {a b : Value} {d e : FD} (h1 : Rep x a d) (h2 : Rep x b e) : RepL x [a, b] [d, e] := by
  unfold RepL
  exact ⟨_, _, rfl, h1, repL_1 h2⟩
theorem rep_S {x : X} (s : ByteArray) : Rep x (.string s) (S s) := by unfold Rep; rfl
theorem valS_size {x : NodeD} (h : NodeOk x) (key : ByteArray) : (valS x key).size ≤ 1048576 := by
  unfold valS
  split
  · rename_i hb
    have h0 : 0 ≤ keyI x key := by
      unfold valB at hb
      simp at hb
      exact hb.2
    obtain ⟨k, hk, e⟩ := keyI_range x key h0
    rw [e, Int.toNat_natCast]
    exact (h.2.1.2 k hk).2
  · decide
theorem rep_val {x : X} {v : Value} {y : NodeD} {key : ByteArray} (h : Rep x v (valF y key)) : v = .tuple #[.string (valS y key), .bool (valB y key)] := by
  unfold valF Rep at h
  obtain ⟨vs, rfl, h⟩ := h
  unfold RepL at h
  obtain ⟨u, us, rfl, h0, h⟩ := h
  unfold RepL at h
  obtain ⟨u', us', rfl, h1, h⟩ := h
  unfold RepL at h
  unfold Rep at h0 h1
  subst h h0 h1
  rfl
theorem encStr_bytes (c : ByteArray) : encStr c.data.toList = .string c := by
  unfold encStr
  rfl
theorem enc_bL (l : List ByteArray) : (bL l).map encStr = l.map Value.string := by
  unfold bL
  rw [List.map_map]
  exact List.map_congr_left fun c _ => encStr_bytes c
theorem repC_strs {x : X} : ∀ l : List ByteArray, RepC x (l.map Value.string) (strsR l).flatten
  | [] => by simp [RepC, strsR]
  | c :: l => by
    have ih := repC_strs (x := x) l
    simp only [strsR, List.map_cons, List.flatten_cons, List.singleton_append] at ih ⊢
    unfold RepC
    exact ⟨_, _, rfl, rfl, by unfold Rep; rfl, ih⟩
theorem own_size {w : World} {P : Program} {k b n : Nat} {R : Value → Option (DataW Unit × List MemPlace)} {D : DataW Unit} (h : w.ownsMap P k R b n D) : Maps.size D ≤ n := by
  obtain ⟨es, clock, -, -, hle, rfl⟩ := h
  rw [size_eq, length_sorted, List.length_map, Array.length_toList]
  exact hle
set_option maxRecDepth 100000 in
set_option maxHeartbeats 4000000 in
theorem domains_any (s : SnapD) (ok : SnapOk s) (key : ByteArray) (WS : Nat → Nat → Prop) (w : World) (hws : ∀ b o, WS b o → b < w.heap.size) {n p o : Value} (h1 : Rep ⟨WS, w⟩ (.agg #[n, p, o]) (snapF s)) :
    Calls Tryz.prog 47 #[.agg #[n, p, o], .string key] w fun e w' => ∃ v, e = .returned v ∧ Rep ⟨WS, w'⟩ v (domsF s key) ∧ Chg No w w' ∧ ∀ a m c, v = .slice (some a) m c → w.heap.size ≤ a.block := by
  have hb1 := heap_alloc_new w (.cells #[n, p, o] 26)
  have hcw := (Chg.refl No w).alloc (.cells #[n, p, o] 26)
  refine (callsIn_wide (n := 6)).1 ?_
  refine callsIn_of_wp Tryz.func47 rfl trivial ?_ rfl
  simp only [Tryz.ntmps47, List.size_toArray, List.length_cons, List.length_nil, Nat.reduceAdd, Nat.reduceSub, Array.replicate_succ, Array.replicate_zero, List.push_toArray, List.append_toArray, List.nil_append, List.cons_append]
  gi_wp2_with fail
  generalize hW : w.alloc _ = W at hb1 hcw ⊢
  generalize hBe : w.heap.size = B at hb1 ⊢
  have hws1 : ∀ b o, WS b o → b < W.heap.size := fun b o h => Nat.lt_of_lt_of_le (hws b o h) hcw.size
  have hsub : ∀ V, Chg No w V → Sub ⟨WS, w⟩ ⟨WS, V⟩ := fun V hc b o u hu hn => ⟨hc.cell hu id, hn⟩
  have r1 := fun V hc => Rep.mono (hsub V hc) h1
  refine ⟨trivial, (callsIn_wide.2 ((snapCheck_pure s ok).2 ⟨_, W⟩ _ hws1 (repL_1 (r1 _ hcw)))).mono ?_⟩
  rintro e V ⟨v, rfl, hv, hc⟩
  unfold Rep at hv
  subst hv
  have c0 := hc.cell (cell_of_heap (j := 0) hb1 rfl) id
  have c1 := hc.cell (cell_of_heap (j := 1) hb1 rfl) id
  have c2 := hc.cell (cell_of_heap (j := 2) hb1 rfl) id
  have hcV := hcw.trans hc
  clear hc hcw hb1 hws1
  by_cases hce : checkE s = 0
  · rw [hce]
    have hmm := @run_makeMap Tryz.prog
    obtain ⟨na, nc, rfl, hN⟩ := nodes_of_snap h1
    have d0 := ((Chg.refl No V).alloc (.map #[] 0)).cell c0 id
    gi_wp2_with fail
    gi_loopw [17] (fun i wr => ∃ j : Nat, i = .int .i64 j ∧ j ≤ s.nodes.n ∧ wr.ownsMap Tryz.prog 9 (plainElem Tryz.prog 3) V.heap.size j (dmD s key j) ∧ Below V.heap.size V wr) (fun i _ => s.nodes.n - (intOf i).toNat)
    case atStart => exact ⟨0, rfl, Nat.zero_le _, World.ownsMap_made _ _ _ _, (Below.refl _ _).alloc (Nat.le_refl _) _⟩
    case round =>
      obtain ⟨j, rfl, hj, hown, hBl⟩ := hrel
      have hcr := hcV.trans (Chg.of_below hBl)
      rcases Nat.lt_or_ge j s.nodes.n with hlt | hge
      · obtain ⟨b, o', a6, q6, a7, q7, rfl, ⟨e0, e1, e2, e3, e4, e5, e6, e7, e8, e9⟩, hrep⟩ := node_row (Rep.mono (hsub _ hcr) hN) hlt
        obtain ⟨Wr, hWr⟩ : ∃ Wr, Wr = wr.alloc (.cells #[.string (s.nodes.el j).name, .int .i64 ((s.nodes.el j).cap 0), .int .i64 ((s.nodes.el j).cap 1), .int .i64 ((s.nodes.el j).cap 2), .int .i64 ((s.nodes.el j).cap 3), .int .i64 ((s.nodes.el j).cap 4), .slice a6 (s.nodes.el j).labels.n q6, .slice a7 (s.nodes.el j).taints.n q7, .bool (s.nodes.el j).cordon, .bool (s.nodes.el j).lost] 75 (0, 0)) := ⟨_, rfl⟩
        have hnb := heap_alloc_new wr (.cells #[.string (s.nodes.el j).name, .int .i64 ((s.nodes.el j).cap 0), .int .i64 ((s.nodes.el j).cap 1), .int .i64 ((s.nodes.el j).cap 2), .int .i64 ((s.nodes.el j).cap 3), .int .i64 ((s.nodes.el j).cap 4), .slice a6 (s.nodes.el j).labels.n q6, .slice a7 (s.nodes.el j).taints.n q7, .bool (s.nodes.el j).cordon, .bool (s.nodes.el j).lost] 75 (0, 0))
        have n0 := cell_of_heap (j := 0) hnb rfl
        have n1 := cell_of_heap (j := 1) hnb rfl
        have n2 := cell_of_heap (j := 2) hnb rfl
        have n3 := cell_of_heap (j := 3) hnb rfl
        have n4 := cell_of_heap (j := 4) hnb rfl
        have n5 := cell_of_heap (j := 5) hnb rfl
        have n6 := cell_of_heap (j := 6) hnb rfl
        have n7 := cell_of_heap (j := 7) hnb rfl
        have n8 := cell_of_heap (j := 8) hnb rfl
        have n9 := cell_of_heap (j := 9) hnb rfl
        gi_wp2_with fail
        rw [← hWr]
        have hcW : Chg No wr Wr := by
          rw [hWr]
          exact (Chg.refl No wr).alloc _
        clear n0 n1 n2 n3 n4 n5 n6 n7 n8 n9 hnb hWr e0 e1 e2 e3 e4 e5 e6 e7 e8 e9
        have hwsr : ∀ b o, WS b o → b < Wr.heap.size := fun b o h => Nat.lt_of_lt_of_le (hws b o h) (hcr.trans hcW).size
        refine ⟨trivial, (callsIn_wide.2 ((value_pure (s.nodes.el j) (ok.n2 j hlt).2.1.1 key).2 ⟨WS, Wr⟩ _ hwsr (repL_2 (Rep.mono (x := ⟨WS, wr⟩) (y := ⟨WS, Wr⟩) (fun b o u hu hn => ⟨hcW.cell hu id, hn⟩) hrep) (rep_S key)))).mono ?_⟩
        rintro e U ⟨v, rfl, hv, hc⟩
        obtain rfl := rep_val hv
        have hownU := hown.kept (grown_of (hcW.trans hc)) (by simp)
        have hBU : Below V.heap.size V U := ((Chg.of_below hBl).trans (hcW.trans hc)).below
        have hsz := valS_size (ok.n2 j hlt) key
        have hst : dmD s key (j + 1) = if valB (s.nodes.el j) key = true then (dmD s key j).put (.string (valS (s.nodes.el j) key).data.toList) (.lit (.int .i64 1)) else dmD s key j := rfl
        have hon := ok.n1
        have hjm : j < maxLen := by unfold maxLen; omega
        clear hv hc hcW hwsr hrep hown hBl hcr
        rcases Bool.eq_false_or_eq_true (valB (s.nodes.el j) key) with hb | hb
        · rw [hb]
          rw [hb, if_pos rfl] at hst
          generalize valS (s.nodes.el j) key = vs at *
          have hvs : vs.size ≤ maxLen := by unfold maxLen; omega
          have hkey := keyOf_string_mk (P := Tryz.prog) Tryz.underlying9 hvs
          have hel := plainElem_int (H := Unit) (P := Tryz.prog) (a := 1) Tryz.underlying3 (by decide)
          gi_wp2_with (gi_at_mapUpdate; refine wpListIn_mapUpdate_own _ rfl _ _ _ 136 rfl 9 3 (string_keyed Tryz.underlying9) Tryz.underlying136 _ V.heap.size j _ rfl hownU hjm _ _ _ rfl rfl hkey _ [] hel ?_; intro w1 hown1 hgrow1)
          go_roundw
          case rel => exact ⟨j + 1, by go_num, by omega, hst ▸ hown1, hBU.grown hgrow1 hBU.size (fun j hj => by cases hj; exact Nat.le_refl _)⟩
          case measure => simp [intOf]; omega
        · rw [hb]
          rw [hb] at hst
          gi_wp2_with fail
          go_roundw
          case rel => exact ⟨j + 1, by go_num, by omega, hst ▸ hownU.mono (Nat.le_succ _), hBU⟩
          case measure => simp [intOf]; omega
      · obtain rfl : j = s.nodes.n := by omega
        gi_wp2_with fail
        refine ⟨trivial, (mapsKeysL _ _).mono ?_⟩
        rintro e W2 ⟨rfl, rfl⟩
        gi_wp2_with fail
        have hsz := own_size hown
        refine ⟨trivial, (sortedKeysL V.heap.size s.nodes.n _ _ wr hown (by have := ok.n1; unfold maxLen; omega) (by have := ok.n1; omega)).mono ?_⟩
        rintro e W3 ⟨v, ss, rfl, hS, hrow, -, hb⟩
        gi_wp2_with fail
        rw [dmD_sorted hown (string_keyed Tryz.underlying9) Tryz.underlying9 hS, enc_bL] at hrow
        have hlen : ss.length = (domL s key s.nodes.n).length := by
          have h1 := congrArg List.length (dmD_sorted hown (string_keyed Tryz.underlying9) Tryz.underlying9 hS)
          rw [List.length_mergeSort] at h1
          rw [h1, bL, List.length_map]
        have hc3 : Chg No w W3 := (hcr.alloc _).trans (Chg.of_below hb)
        refine bodyPost_ret (by simp [results, Tryz.results47, go_sem]; try rfl) rfl ⟨_, rfl, ?_, hc3, fun a m c e => ?new⟩
        case new =>
          subst e
          have h1 := ownsRow_from hrow a.block rfl
          have h3 := hcr.size
          rw [World.size_alloc] at h1
          omega
        unfold domsF
        rw [if_pos hce]
        refine rep_of_row (x := ⟨WS, W3⟩) (vs := (domL s key s.nodes.n).map Value.string) (by rw [strsR_len, ← hlen]; exact hrow) (repC_strs _) (fun ds hd => ?_) fun b o hb2 hw => ?_
        · obtain ⟨c, -, rfl⟩ := List.mem_map.1 hd
          rfl
        · have h1 := ownsRow_from hrow b hb2
          have h2 := hws b o hw
          have h3 := hcr.size
          rw [World.size_alloc] at h1
          omega
  · gi_wp2_with fail
    refine bodyPost_ret (by simp [results, Tryz.results47, go_sem]; try rfl) rfl ⟨_, rfl, ?_, hcV, fun a m c e => by cases e⟩
    unfold domsF
    rw [if_neg hce]
    exact rep_nil _ _
theorem domains_pure (s : SnapD) (ok : SnapOk s) (key : ByteArray) : Pure Tryz.prog 47 [snapF s, S key] (domsF s key) :=
  ⟨goes_of Tryz.func47 rfl rfl, fun x vs hws hr => by
    obtain ⟨u, v, rfl, h1, h2⟩ := repL2 hr
    obtain ⟨n, p, o, rfl⟩ := snapF_split h1
    unfold Rep at h2
    subst h2
    exact (domains_any s ok key x.WS x.W hws h1).mono fun e w' ⟨v, h1, h2, h3, _⟩ => ⟨v, h1, h2, h3⟩⟩
theorem strs_isV : ∀ l : List ByteArray, (strsR l).flatten.all isV = true
  | [] => rfl
  | c :: l => by
    have := strs_isV l
    simp only [strsR, List.map_cons, List.flatten_cons, List.singleton_append, List.all_cons] at this ⊢
    rw [this]
    rfl
theorem enc_isV (n : Nat) (f : Nat → Int) : (encL n fun i => [I (f i)]).flatten.all isV = true := by
  rw [List.all_eq_true]
  intro d hd
  obtain ⟨r, hr, hd⟩ := List.mem_flatten.1 hd
  unfold encL at hr
  obtain ⟨k, -, rfl⟩ := List.mem_map.1 hr
  rw [List.mem_singleton.1 hd]
  rfl
theorem domains_new (s : SnapD) (ok : SnapOk s) (key : ByteArray) : PureNew Tryz.prog 47 [snapF s, S key] 1 (strsR (if checkE s = 0 then domL s key s.nodes.n else [])) :=
  ⟨⟨goes_of Tryz.func47 rfl rfl, strs_isV _⟩, fun x vs hws hr => by
    obtain ⟨u, v, rfl, h1, h2⟩ := repL2 hr
    obtain ⟨n, p, o, rfl⟩ := snapF_split h1
    unfold Rep at h2
    subst h2
    exact (domains_any s ok key x.WS x.W hws h1).mono fun e w' ⟨v, h1, h2, h3, h4⟩ => ⟨v, h1, h2, h3, h4⟩⟩
end Go.Proofs.YthpmgnbehahkfaaGreat
end
section
namespace Go.Proofs.YthpmgnbehahkfaaGreat
open Go.RowKit Go.Dk Go.Dn

def posI (l : List ByteArray) (v : ByteArray) : Int := idxB (fun k => v.toList == (l.getD k ByteArray.empty).toList) l.length
set_option maxRecDepth 100000 in
theorem index_pure (l : List ByteArray) (hl : l.length ≤ 1048576) (v : ByteArray) : Pure Tryz.prog 111 [strsF l, S v] (I (posI l v)) := by
  refine Pure.of_run (lit := true) Tryz.func111 rfl rfl rfl rfl (Nat.le_of_ble_eq_true rfl) (run_of_runL ?_)
  unfold St.enter
  simp -dsimp -implicitDefEqProofs [go_sem, strsF, strsR_len]
  refine runL_loop [] 4 (by simp -dsimp -implicitDefEqProofs [go_sem]) (fun m st => ∃ j : Nat, st.n = 19 ∧ st.lit = true ∧ j ≤ l.length ∧ m = l.length - j ∧ (∀ i, i < j → (v.toList == (l.getD i ByteArray.empty).toList) = false) ∧ st.fr 0 = .f (strsF l) ∧ st.fr 1 = .f (S v) ∧ st.fr 7 = .f (I l.length) ∧ st.fr 8 = .f (I j)) l.length ⟨0, ?_⟩ ?_
  · simp -dsimp -implicitDefEqProofs [go_sem, strsF]
  rintro m ⟨N, fr, mem, nx, lt⟩ hnx ⟨j, hN, hlt, hj, rfl, hall, f0, f1, f7, f8⟩
  dsimp only at *
  subst hN hnx hlt
  rcases Nat.lt_or_ge j l.length with hlt | hge
  · have hg : l.getD j ByteArray.empty = l[j] := by simp [hlt]
    rcases Bool.eq_false_or_eq_true (v.toList == l[j].toList) with hp | hp
    · simp -dsimp -implicitDefEqProofs [go_sem, f0, f1, f7, f8, strsF, strsR_len, hlt, strsR_get hlt, strsR_at, hp]
      exact (idxB_hit (p := fun k => v.toList == (l.getD k ByteArray.empty).toList) hlt (by rw [hg]; exact hp) hall).symm
    · simp -dsimp -implicitDefEqProofs [go_sem, f0, f1, f7, f8, strsF, strsR_len, hlt, strsR_get hlt, strsR_at, hp]
      refine ⟨_, by omega, j + 1, by omega, rfl, fun i hi => ?_, w64 (by omega) (by omega)⟩
      rcases Nat.lt_or_ge i j with h | h
      · simpa using hall i h
      · obtain rfl : i = j := by omega
        simpa [hlt] using hp
  · obtain rfl : j = l.length := by omega
    simp -dsimp -implicitDefEqProofs [go_sem, f0, f1, f7, f8, strsF, strsR_len]
    exact (idxB_none hall).symm
theorem posI_mem {l : List ByteArray} {v : ByteArray} (h : v.data.toList ∈ bL l) : ∃ k, k < l.length ∧ posI l v = (k : Int) := by
  obtain ⟨c, hc, e⟩ := List.mem_map.1 h
  obtain ⟨k, hk, rfl⟩ := List.getElem_of_mem hc
  have h0 : 0 ≤ posI l v := idxB_ge.2 ⟨k, hk, by
    rw [beq_bytes]
    simp [hk, e]⟩
  have := idxB_range (fun k => v.toList == (l.getD k ByteArray.empty).toList) l.length
  unfold posI at h0 ⊢
  exact ⟨(idxB (fun k => v.toList == (l.getD k ByteArray.empty).toList) l.length).toNat, by omega, by omega⟩
theorem domL_mem (s : SnapD) (key : ByteArray) {i : Nat} (hv : valB (s.nodes.el i) key = true) : ∀ j, i < j → (valS (s.nodes.el i) key).data.toList ∈ bL (domL s key j)
  | j + 1, h => by
    unfold domL
    rcases Nat.lt_or_ge i j with hij | hij
    · have ih := domL_mem s key hv j hij
      split
      · exact (insB_mem _ _ _).2 (.inr ih)
      · exact ih
    · obtain rfl : i = j := by omega
      rw [if_pos hv]
      exact (insB_mem _ _ _).2 (.inl rfl)
/-- which domain a node is in, if any -/
def inD (s : SnapD) (key : ByteArray) (x : Int) : Int := if valB (s.nodes.el x.toNat) key = true then posI (domL s key s.nodes.n) (valS (s.nodes.el x.toNat) key) else -1
/-- how many of an owner's pods are in each domain -/
def spreadL (s : SnapD) (l : Lst Int) (k : Int) : Lst Int :=
  ⟨if askedB s l k then (domL s (s.owners.el k.toNat).topo s.nodes.n).length else 0, numL ((ownL s l k.toNat l.n).map (inD s (s.owners.el k.toNat).topo))⟩
end Go.Proofs.YthpmgnbehahkfaaGreat
end
