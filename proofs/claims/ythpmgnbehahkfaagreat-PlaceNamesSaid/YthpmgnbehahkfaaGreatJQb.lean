/- Regions that draw their order: run once, in the order of the text. -/
/- A function's text over data is the function. -/
/- Loops: a relation and a measure. -/
/- Rules by which a function's text is run over data. What goes on behind an operation is locked (Lk): the rules look at it only when they come to it. -/
import Derived.Test.YthpmgnbehahkfaaGreatJQa
import Derived.Orders
set_option linter.unusedSimpArgs false
set_option linter.unusedVariables false
section
namespace Go.Dn
open Go.RowKit Go.Dk

variable {P : Program}

theorem exW_mk {A : Nat → Option M} {x : Nat} {m : M} {Q : Nat → M → Prop} (h : Q x m) : exW A (upd A x (some m)) Q := ⟨x, m, rfl, h⟩
structure Inv (w0 : World) (WS0 : Nat → Nat → Prop) (c : Cx) (a : Act) (st : St) : Prop where
  F : InvF c a st
  M : InvM w0 WS0 c st.mem
  N : ∀ id, st.next ≤ id → Fresh c st.mem id

/-! ### A trace -/
structure Tr where
  d : Nat → D
  e : Nat → Option (Nat × M)
  g : Nat → Bool
def stepT (l : List Oper) (t : Tr) (s : St) (i : Nat) : St := (s.app (t.e i)).put (dstAt l i) (t.d i)
def stF (l : List Oper) (t : Tr) (S : Nat → Bool) : Nat → St → St
  | 0, st => st
  | i + 1, st => if S i then stepT l t (stF l t S i st) i else stF l t S i st
theorem app_fr (s : St) (e : Option (Nat × M)) : (s.app e).fr = s.fr ∧ (s.app e).n = s.n ∧ (s.app e).next = s.next := by
  cases e with
  | none => exact ⟨rfl, rfl, rfl⟩
  | some p => exact ⟨rfl, rfl, rfl⟩
theorem put_mem (s : St) (dst : Option Nat) (d : D) : (s.put dst d).mem = s.mem ∧ (s.put dst d).n = s.n ∧ (s.put dst d).next = s.next := by
  unfold St.put
  split
  · split <;> exact ⟨rfl, rfl, rfl⟩
  · exact ⟨rfl, rfl, rfl⟩
theorem app_lit (s : St) (e : Option (Nat × M)) : (s.app e).lit = s.lit := by cases e <;> rfl
theorem put_lit (s : St) (dst : Option Nat) (d : D) : (s.put dst d).lit = s.lit := by
  unfold St.put
  split
  · split <;> rfl
  · rfl
theorem stF_lit (l : List Oper) (t : Tr) (S : Nat → Bool) (st : St) : ∀ i, (stF l t S i st).lit = st.lit
  | 0 => rfl
  | i + 1 => by
    unfold stF
    split
    · unfold stepT; rw [put_lit, app_lit, stF_lit l t S st i]
    · exact stF_lit l t S st i
theorem put_fr_ne {s : St} {dst : Option Nat} {d : D} {t : Nat} (h : dst ≠ some t) : (s.put dst d).fr t = s.fr t := by
  unfold St.put
  cases dst with
  | none => rfl
  | some u =>
    dsimp only
    split
    · show upd s.fr u d t = s.fr t
      unfold upd
      rw [if_neg]
      rintro rfl
      exact h rfl
    · rfl
theorem app_mem_ne {s : St} {e : Option (Nat × M)} {id : Nat} (h : ∀ x m, e = some (x, m) → x ≠ id) : (s.app e).mem id = s.mem id := by
  cases e with
  | none => rfl
  | some p =>
    obtain ⟨x, m⟩ := p
    show upd s.mem x (some m) id = s.mem id
    unfold upd
    rw [if_neg]
    rintro rfl
    exact h _ _ rfl rfl
theorem stepT_same (l : List Oper) (t : Tr) (s : St) (i : Nat) : (stepT l t s i).n = s.n ∧ (stepT l t s i).next = s.next := by
  unfold stepT
  exact ⟨(put_mem _ _ _).2.1.trans (app_fr s _).2.1, (put_mem _ _ _).2.2.trans (app_fr s _).2.2⟩
theorem stF_same (l : List Oper) (t : Tr) (S : Nat → Bool) (st : St) : ∀ i, (stF l t S i st).n = st.n ∧ (stF l t S i st).next = st.next
  | 0 => ⟨rfl, rfl⟩
  | i + 1 => by
    have ih := stF_same l t S st i
    simp only [stF]
    split
    · have := stepT_same l t (stF l t S i st) i
      exact ⟨this.1.trans ih.1, this.2.trans ih.2⟩
    · exact ih
theorem put_fr_eq {s s' : St} (hn : s.n = s'.n) {u : Nat} (hf : s.fr u = s'.fr u) (dst : Option Nat) (d : D) : (s.put dst d).fr u = (s'.put dst d).fr u := by
  unfold St.put
  cases dst with
  | none => exact hf
  | some t =>
    dsimp only
    rw [hn]
    split
    · show upd s.fr t d u = upd s'.fr t d u
      unfold upd
      rw [hf]
    · exact hf
theorem stF_fr {l : List Oper} {t : Tr} {S S' : Nat → Bool} {st : St} {u : Nat} : ∀ m, (∀ j, j < m → S j ≠ S' j → dstAt l j ≠ some u) → (stF l t S m st).fr u = (stF l t S' m st).fr u
  | 0, _ => rfl
  | m + 1, h => by
    have ih := stF_fr (l := l) (t := t) (st := st) m fun j hj hne => h j (by omega) hne
    have hn : (stF l t S m st).n = (stF l t S' m st).n := (stF_same l t S st m).1.trans (stF_same l t S' st m).1.symm
    simp only [stF]
    have skip : ∀ s : St, dstAt l m ≠ some u → (stepT l t s m).fr u = s.fr u := fun s hd => by
      unfold stepT
      rw [put_fr_ne hd, (app_fr s _).1]
    cases hS : S m <;> cases hS' : S' m
    · simpa using ih
    · have hd := h m (by omega) (by rw [hS, hS']; simp)
      simp only [Bool.false_eq_true, if_false, if_true]
      rw [skip _ hd]; exact ih
    · have hd := h m (by omega) (by rw [hS, hS']; simp)
      simp only [Bool.false_eq_true, if_false, if_true]
      rw [skip _ hd]; exact ih
    · simp only [if_true]
      unfold stepT
      refine put_fr_eq ?_ ?_ _ _
      · rw [(app_fr _ _).2.1, (app_fr _ _).2.1]; exact hn
      · rw [(app_fr _ _).1, (app_fr _ _).1]; exact ih
theorem app_mem_eq {s s' : St} {id : Nat} (h : s.mem id = s'.mem id) (e : Option (Nat × M)) : (s.app e).mem id = (s'.app e).mem id := by
  cases e with
  | none => exact h
  | some p =>
    show upd s.mem p.1 (some p.2) id = upd s'.mem p.1 (some p.2) id
    unfold upd
    rw [h]
theorem stF_mem {l : List Oper} {t : Tr} {S S' : Nat → Bool} {st : St} {id : Nat} : ∀ m, (∀ j, j < m → S j ≠ S' j → ∀ x y, t.e j = some (x, y) → x ≠ id) → (stF l t S m st).mem id = (stF l t S' m st).mem id
  | 0, _ => rfl
  | m + 1, h => by
    have ih := stF_mem (l := l) (t := t) (st := st) m fun j hj hne => h j (by omega) hne
    simp only [stF]
    have skip : ∀ s : St, (∀ x y, t.e m = some (x, y) → x ≠ id) → (stepT l t s m).mem id = s.mem id := fun s hd => by
      unfold stepT
      rw [(put_mem _ _ _).1, app_mem_ne hd]
    cases hS : S m <;> cases hS' : S' m
    · simpa using ih
    · have hd := h m (by omega) (by rw [hS, hS']; simp)
      simp only [Bool.false_eq_true, if_false, if_true]
      rw [skip _ hd]; exact ih
    · have hd := h m (by omega) (by rw [hS, hS']; simp)
      simp only [Bool.false_eq_true, if_false, if_true]
      rw [skip _ hd]; exact ih
    · simp only [if_true]
      unfold stepT
      rw [(put_mem _ _ _).1, (put_mem _ _ _).1]
      exact app_mem_eq ih _
theorem St.ext' {s s' : St} (h1 : s.n = s'.n) (h2 : ∀ t, s.fr t = s'.fr t) (h3 : ∀ t, s.mem t = s'.mem t) (h4 : s.next = s'.next) (h5 : s.lit = s'.lit) : s = s' := by
  obtain ⟨n, fr, mem, nx, lt⟩ := s
  obtain ⟨n', fr', mem', nx', lt'⟩ := s'
  dsimp only at h1 h2 h3 h4 h5
  obtain rfl := h5
  obtain rfl := h1
  obtain rfl := h4
  obtain rfl : fr = fr' := funext h2
  obtain rfl : mem = mem' := funext h3
  rfl
theorem stF_cut {l : List Oper} {t : Tr} {st : St} (i : Nat) : ∀ m, i ≤ m → stF l t (fun j => decide (j < i)) m st = stF l t (fun _ => true) i st
  | 0, h => by
    obtain rfl : i = 0 := by omega
    rfl
  | m + 1, h => by
    by_cases e : i = m + 1
    · subst e
      have : ∀ k, k ≤ m + 1 → stF l t (fun j => decide (j < m + 1)) k st = stF l t (fun _ => true) k st := by
        intro k
        induction k with
        | zero => intro _; rfl
        | succ k ih => intro hk; simp only [stF, ih (by omega)]; rw [if_pos (by simp; omega), if_pos trivial]
      exact this _ (Nat.le_refl _)
    · simp only [stF]
      rw [if_neg (by simp; omega)]
      exact stF_cut i m (by omega)
/-- one operation more: it can as well be the last -/
theorem stF_insert {l : List Oper} {t : Tr} {st : St} {S : Nat → Bool} {i : Nat} (hS : S i = false) : ∀ m, i < m →
    (∀ j, i < j → j < m → S j = true → (∀ u, dstAt l i = some u → dstAt l j ≠ some u) ∧ (∀ x y x' y', t.e i = some (x, y) → t.e j = some (x', y') → x ≠ x')) →
    stF l t (fun j => S j || j == i) m st = stepT l t (stF l t S m st) i
  | 0, h, _ => by omega
  | m + 1, h, hc => by
    simp only [stF]
    by_cases e : m = i
    · subst e
      have same : ∀ k, k ≤ m → stF l t (fun j => S j || j == m) k st = stF l t S k st := by
        intro k
        induction k with
        | zero => intro _; rfl
        | succ k ih =>
          intro hk
          simp only [stF, ih (by omega)]
          have : (k == m) = false := by simp; omega
          rw [this, Bool.or_false]
      rw [same m (Nat.le_refl _)]
      simp [hS]
    · have ih := stF_insert (l := l) (t := t) (st := st) hS m (by omega) fun j h1 h2 => hc j h1 (by omega)
      have hmi : (m == i) = false := by simpa using e
      simp only [hmi, Bool.or_false, ih]
      cases hm : S m with
      | false => simp
      | true =>
        simp only [if_true]
        obtain ⟨c1, c2⟩ := hc m (by omega) (by omega) hm
        generalize stF l t S m st = s
        unfold stepT
        refine St.ext' ?_ (fun u => ?_) (fun id => ?_) ?_ (by simp only [put_lit, app_lit])
        · simp only [(put_mem _ _ _).2.1, (app_fr _ _).2.1]
        · by_cases hu : dstAt l i = some u
          · have hm2 := c1 u hu
            rw [put_fr_ne hm2, (app_fr _ _).1]
            refine put_fr_eq ?_ ?_ _ _
            · simp only [(put_mem _ _ _).2.1, (app_fr _ _).2.1]
            · rw [(app_fr _ _).1, (app_fr _ _).1, put_fr_ne hm2, (app_fr _ _).1]
          · rw [put_fr_ne hu (s := ((s.app (t.e m)).put (dstAt l m) (t.d m)).app (t.e i)), (app_fr _ _).1]
            refine put_fr_eq ?_ ?_ _ _
            · simp only [(put_mem _ _ _).2.1, (app_fr _ _).2.1]
            · rw [(app_fr _ _).1, put_fr_ne hu, (app_fr _ _).1, (app_fr _ _).1]
        · simp only [(put_mem _ _ _).1]
          by_cases hx : ∃ y, t.e i = some (id, y)
          · obtain ⟨y, hy⟩ := hx
            have hne : ∀ x' y', t.e m = some (x', y') → x' ≠ id := fun x' y' h' e => c2 _ _ _ _ hy h' e.symm
            rw [app_mem_ne hne, (put_mem _ _ _).1]
            exact app_mem_eq (by rw [(put_mem _ _ _).1, app_mem_ne hne]) _
          · have hne : ∀ x y, t.e i = some (x, y) → x ≠ id := fun x y h' e => hx ⟨y, by rw [← e]; exact h'⟩
            rw [app_mem_ne hne (s := (s.app (t.e m)).put (dstAt l m) (t.d m)), (put_mem _ _ _).1]
            exact app_mem_eq (by rw [(put_mem _ _ _).1, app_mem_ne hne]) _
        · simp only [(put_mem _ _ _).2.2, (app_fr _ _).2.2]

theorem silent_T {l : List Oper} {A : List (List Nat)} {base i id : Nat} (h : Tv l A base i id = true) : silentAt l i = false := by
  unfold Tv at h
  cases hs : silentAt l i with
  | false => rfl
  | true => rw [hs] at h; cases h
/-- what the run in the text's order says of operation i -/
structure Fact (P : Program) (l : List Oper) (A : List (List Nat)) (base : Nat) (t : Tr) (s : St) (i : Nat) : Prop where
  guard : ∀ o, l[i]? = some o → gval l.toArray s o.guard = some (t.g i)
  yes : t.g i = true → ∀ o, l[i]? = some o → ∀ (s' : St) (K' : D → St → Prop), Agree o { s with mem := visM (Tv l A base i) s.mem } s' → K' (t.d i) (s'.app (t.e i)) → opW P (base + i) o s' K'
  no : t.g i = false → t.d i = undefD ∧ t.e i = none
  may : ∀ x m, t.e i = some (x, m) → Cw l A base i x = true ∧ Tv l A base i x = true
theorem trace_of {l : List Oper} {A : List (List Nat)} {base : Nat} {st : St} {K : St → Prop} : ∀ (rest : List Oper) (i : Nat) (t : Tr), l.drop i = rest → (∀ j, j < i → Fact P l A base t (stF l t (fun _ => true) j st) j) →
    opsD P l A base i rest (stF l t (fun _ => true) i st) K → ∃ t', (∀ j, j < l.length → Fact P l A base t' (stF l t' (fun _ => true) j st) j) ∧ K (stF l t' (fun _ => true) l.length st)
  | [], i, t, hd, hf, h => by
    have hi : l.length ≤ i := by
      have := congrArg List.length hd
      simp at this
      omega
    by_cases e : i = l.length
    · subst e; exact ⟨t, fun j hj => hf j hj, h⟩
    · refine ⟨t, fun j hj => hf j (by omega), ?_⟩
      have : ∀ k, l.length ≤ k → (∀ j, j < k → l.length ≤ j → t.e j = none) → stF l t (fun _ => true) k st = stF l t (fun _ => true) l.length st := by
        intro k
        induction k with
        | zero => intro hk _; have h0 : l.length = 0 := by omega
                  rw [h0]
        | succ k ih =>
          intro hk he
          by_cases e2 : l.length = k + 1
          · rw [e2]
          · rw [← ih (by omega) fun j hj => he j (by omega)]
            simp only [stF, if_true, stepT]
            rw [he k (by omega) (by omega)]
            have : dstAt l k = none := by unfold dstAt; rw [List.getElem?_eq_none (by omega)]; rfl
            rw [this]
            rfl
      rw [← this i hi fun j hj hl => ?_]
      · exact h
      · cases he : t.e j with
        | none => rfl
        | some p =>
          have := (hf j hj).may p.1 p.2 he
          have hs : silentAt l j = true := by unfold silentAt; rw [List.getElem?_eq_none (by omega)]; rfl
          have h2 := silent_T this.2
          rw [hs] at h2
          cases h2
  | o :: r, i, t, hd, hf, h => by
    have ho : l[i]? = some o := by
      have h1 : (l.drop i)[0]? = some o := by rw [hd]; rfl
      rw [List.getElem?_drop] at h1
      simpa using h1
    have hr : l.drop (i + 1) = r := by rw [← List.drop_drop, hd]; rfl
    have same : ∀ (t' : Tr), (∀ j, j < i → t'.d j = t.d j ∧ t'.e j = t.e j) → ∀ k, k ≤ i → stF l t' (fun _ => true) k st = stF l t (fun _ => true) k st := by
      intro t' ht k
      induction k with
      | zero => intro _; rfl
      | succ k ih => intro hk; simp only [stF, if_true, ih (by omega), stepT, (ht k (by omega)).1, (ht k (by omega)).2]
    have keep : ∀ (t' : Tr), (∀ j, j < i → t'.d j = t.d j ∧ t'.e j = t.e j ∧ t'.g j = t.g j) → ∀ j, j < i → Fact P l A base t' (stF l t' (fun _ => true) j st) j := fun t' ht j hj => by
      rw [same t' (fun j hj => ⟨(ht j hj).1, (ht j hj).2.1⟩) j (by omega)]
      obtain ⟨f1, f2, f3, f4⟩ := hf j hj
      obtain ⟨e1, e2, e3⟩ := ht j hj
      exact ⟨by rw [e3]; exact f1, by rw [e3, e1, e2]; exact f2, by rw [e3, e1, e2]; exact f3, by rw [e2]; exact f4⟩
    unfold opsD at h
    obtain ⟨g, hg, h⟩ := h
    cases g with
    | true =>
      unfold gif at h
      rw [if_pos rfl] at h
      obtain ⟨d, e0, hw, hid, hup⟩ := opW_eff h
      -- what it writes
      have hex : ∃ e, (∀ s' : St, (∀ id m, visM (Tv l A base i) (stF l t (fun _ => true) i st).mem id = some m → s'.mem id = some m) → s'.app e0 = s'.app e) ∧ (∀ x m, e = some (x, m) → Cw l A base i x = true ∧ Tv l A base i x = true) ∧
          opsD P l A base (i + 1) r (((stF l t (fun _ => true) i st).app e).put o.dst d) K := by
        have nop : ∀ (s' : St) (x : Nat) (m : M), s'.mem x = some m → s'.new x m = s' := fun s' x m hm => by
          refine St.ext' rfl (fun _ => rfl) (fun y => ?_) rfl rfl
          show upd s'.mem x (some m) y = s'.mem y
          unfold upd
          split
          · rename_i hy; rw [hy, hm]
          · rfl
        cases hwo : writesOp (stF l t (fun _ => true) i st).lit o.op d with
        | false =>
          rw [hwo] at hw
          simp only [gif, Bool.false_eq_true, if_false] at hw
          obtain ⟨hm, hK⟩ := hw
          refine ⟨none, fun s' hs' => ?_, (fun x m h => by cases h), hK⟩
          cases e0 with
          | none => rfl
          | some p =>
            obtain ⟨x, m⟩ := p
            have hx : visM (Tv l A base i) (stF l t (fun _ => true) i st).mem x = some m := by
              rw [← hm]
              show upd _ x (some m) x = some m
              unfold upd
              rw [if_pos rfl]
            exact nop s' x m (hs' x m hx)
        | true =>
          rw [hwo] at hw
          simp only [gif, if_true] at hw
          obtain ⟨x, m, hm, hok, hK⟩ := hw
          refine ⟨some (x, m), fun s' hs' => ?_, (fun x' m' h => by cases h; exact hok), hK⟩
          cases e0 with
          | none =>
            have hx : visM (Tv l A base i) (stF l t (fun _ => true) i st).mem x = some m := by
              have := congrFun hm x
              simp only [upd, if_true] at this
              exact this
            exact (nop s' x m (hs' x m hx)).symm
          | some p =>
            obtain ⟨x0, m0⟩ := p
            have hm' : upd (visM (Tv l A base i) (stF l t (fun _ => true) i st).mem) x0 (some m0) = upd (visM (Tv l A base i) (stF l t (fun _ => true) i st).mem) x (some m) := hm
            by_cases hx : x0 = x
            · subst hx
              have := congrFun hm' x0
              simp only [upd, if_true, Option.some.injEq] at this
              rw [this]
            · have h1 := congrFun hm' x0
              have h2 := congrFun hm' x
              simp only [upd, if_true, if_neg hx, if_neg (Ne.symm hx)] at h1 h2
              have n1 := nop s' x0 m0 (hs' _ _ h1.symm)
              have n2 := nop s' x m (hs' _ _ h2)
              exact n1.trans n2.symm
      obtain ⟨e, happ, hmay, hK⟩ := hex
      let t' : Tr := ⟨fun j => if j = i then d else t.d j, fun j => if j = i then e else t.e j, fun j => if j = i then true else t.g j⟩
      have hlt : ∀ j, j < i → t'.d j = t.d j ∧ t'.e j = t.e j ∧ t'.g j = t.g j := fun j hj => by
        have : j ≠ i := by omega
        exact ⟨if_neg this, if_neg this, if_neg this⟩
      have s_i := same t' (fun j hj => ⟨(hlt j hj).1, (hlt j hj).2.1⟩) i (Nat.le_refl _)
      have e1 : t'.e i = e := if_pos rfl
      have e2 : t'.d i = d := if_pos rfl
      have e3 : t'.g i = true := if_pos rfl
      have hdst : dstAt l i = o.dst := by unfold dstAt; rw [ho]; rfl
      refine trace_of r (i + 1) t' hr (fun j hj => ?_) ?_
      · by_cases hji : j = i
        · subst hji
          rw [s_i]
          refine ⟨fun o' ho' => ?_, fun _ o' ho' s' K' ha hk => ?_, fun hh => (by rw [e3] at hh; cases hh), fun x m hh => ?_⟩
          · rw [ho] at ho'; cases ho'; rw [e3]; exact hg
          · rw [ho] at ho'; cases ho'
            rw [e2, e1] at hk
            refine hup s' K' ha ?_
            rw [happ s' ha.mem]
            exact hk
          · rw [e1] at hh
            exact hmay x m hh
        · exact keep t' hlt j (by omega)
      · show opsD P l A base (i + 1) r (if true = true then stepT l t' (stF l t' (fun _ => true) i st) i else _) K
        rw [if_pos rfl, s_i]
        unfold stepT
        rw [e1, e2, hdst]
        exact hK
    | false =>
      have h' : opsD P l A base (i + 1) r ((stF l t (fun _ => true) i st).put o.dst undefD) K := h
      let t' : Tr := ⟨fun j => if j = i then undefD else t.d j, fun j => if j = i then none else t.e j, fun j => if j = i then false else t.g j⟩
      have hlt : ∀ j, j < i → t'.d j = t.d j ∧ t'.e j = t.e j ∧ t'.g j = t.g j := fun j hj => by
        have : j ≠ i := by omega
        exact ⟨if_neg this, if_neg this, if_neg this⟩
      have s_i := same t' (fun j hj => ⟨(hlt j hj).1, (hlt j hj).2.1⟩) i (Nat.le_refl _)
      have e1 : t'.e i = none := if_pos rfl
      have e2 : t'.d i = undefD := if_pos rfl
      have e3 : t'.g i = false := if_pos rfl
      have hdst : dstAt l i = o.dst := by unfold dstAt; rw [ho]; rfl
      refine trace_of r (i + 1) t' hr (fun j hj => ?_) ?_
      · by_cases hji : j = i
        · subst hji
          rw [s_i]
          refine ⟨fun o' ho' => ?_, fun hh => (by rw [e3] at hh; cases hh), fun _ => ⟨e2, e1⟩, fun x m hh => by rw [e1] at hh; cases hh⟩
          rw [ho] at ho'; cases ho'; rw [e3]; exact hg
        · exact keep t' hlt j (by omega)
      · show opsD P l A base (i + 1) r (if true = true then stepT l t' (stF l t' (fun _ => true) i st) i else _) K
        rw [if_pos rfl, s_i]
        unfold stepT
        rw [e1, e2, hdst]
        exact h'

theorem unord_symm {A : List (List Nat)} {i j : Nat} (h : unord A i j = true) : unord A j i = true := by
  unfold unord at h ⊢
  simp only [Bool.and_eq_true, bne_iff_ne, Bool.not_eq_true'] at h ⊢
  exact ⟨⟨Ne.symm h.1.1, h.2⟩, h.1.2⟩
theorem Inv.drew {w0 : World} {WS0 : Nat → Nat → Prop} {c : Cx} {a : Act} {st : St} (h : Inv w0 WS0 c a st) : Inv w0 WS0 ⟨c.E, ⟨c.x.WS, c.x.W.drew⟩⟩ a st := by
  have hx : Ext c ⟨c.E, ⟨c.x.WS, c.x.W.drew⟩⟩ := ⟨fun b o u hc hn => ⟨hc, hn⟩, fun _ _ _ h => h⟩
  refine ⟨h.F.mono hx, ⟨fun i m hi => (h.M.mem i m hi).ext hx (fun _ _ => rfl) (fun _ _ _ h => h), fun i i' m1 m2 b hi hi' h1 h2 => h.M.inj i i' m1 m2 b hi hi' ?_ ?_, h.M.chg.drew, h.M.ws0, h.M.ws1, h.M.wsd, h.M.vers⟩, h.N⟩
  · cases m1 <;> exact h1
  · cases m2 <;> exact h2
/-- what may be written by j, i does not see, if neither is ahead of the other -/
theorem apart_of {l : List Oper} {A : List (List Nat)} {base i j x : Nat} (hi : i < l.length) (hu : unord A j i = true) (hc : Cw l A base j x = true) : Tv l A base i x = false := by
  cases hT : Tv l A base i x with
  | false => rfl
  | true =>
    exfalso
    have hsil := silent_T hT
    unfold Tv at hT
    rw [hsil] at hT
    simp only [Bool.not_false, Bool.true_and, Bool.or_eq_true, decide_eq_true_eq, beq_iff_eq, Bool.and_eq_true] at hT
    unfold Cw at hc
    simp only [Bool.or_eq_true, beq_iff_eq] at hc
    have hu' := hu
    unfold unord at hu'
    simp only [Bool.and_eq_true, bne_iff_ne, Bool.not_eq_true'] at hu'
    obtain ⟨⟨hne, h1⟩, h2⟩ := hu'
    rcases hc with rfl | hc
    · rcases hT with (hT | hT) | hT
      · omega
      · omega
      · have e : base + j - base = j := by omega
        rw [e, h2] at hT
        exact absurd hT.2 (by simp)
    · split at hc
      · rename_i hlt
        have := List.all_eq_true.1 hc i (List.mem_range.2 hi)
        rw [hu, hsil] at this
        simp at this
      · rename_i hge
        simp only [Bool.and_eq_true] at hc
        obtain ⟨hc1, hc2⟩ := hc
        have hk := List.all_eq_true.1 hc2 i (List.mem_range.2 hi)
        rw [hu, hsil] at hk
        simp only [Bool.not_true, Bool.or_self, Bool.false_or, Bool.not_eq_true'] at hk
        rcases hT with (hT | hT) | hT
        · omega
        · have e : x - base = i := by omega
          rw [e, h1] at hc1
          exact absurd hc1 (by simp)
        · rw [hk] at hT
          exact absurd hT.2 (by simp)

theorem countP_same {p q : Nat → Bool} : ∀ n, (∀ j, j < n → q j = p j) → (List.range n).countP p = (List.range n).countP q
  | 0, _ => rfl
  | n + 1, h => by
    rw [List.range_succ, List.countP_append, List.countP_append, countP_same n fun j hj => h j (by omega)]
    simp [List.countP_cons, h n (by omega)]
theorem countP_less {p q : Nat → Bool} {i : Nat} (h1 : p i = true) (h2 : q i = false) : ∀ n, i < n → (∀ j, j ≠ i → q j = p j) → (List.range n).countP p = (List.range n).countP q + 1
  | 0, h, _ => by omega
  | n + 1, h, hs => by
    rw [List.range_succ, List.countP_append, List.countP_append]
    by_cases e : n = i
    · subst e
      rw [countP_same n fun j hj => hs j (by omega)]
      simp [List.countP_cons, h1, h2]
    · have := countP_less h1 h2 n (by omega) hs
      rw [this]
      simp [List.countP_cons, hs n e]
      omega
theorem wanted_of {c : Cx} {a : Act} {st : St} (hF : InvF c a st) {ops : Array Oper} {o : Oper} {g : Bool} (hg : gval ops st o.guard = some g) : Region.wanted o (yielded ops a.tmps) = g := by
  unfold Region.wanted
  unfold gval at hg
  split at hg
  · rename_i hgd
    rw [hgd]
    simpa using hg
  · rename_i j want hgd
    rw [hgd]
    simp only
    split at hg
    · rename_i d hd
      split at hg
      · rename_i hlt
        have hr := hF.fr d
        have hlt' : d < a.tmps.size := by rw [hF.size]; exact hlt
        have hget : a.tmps[d]? = some (a.tmps.getD d undef) := by simp [Array.getD, hlt']
        split at hg
        · rename_i b hb
          rw [hb] at hr
          unfold RepD Rep at hr
          rw [hr] at hget
          simp only [Option.some.injEq] at hg
          simp [yielded, hd, hget, hg]
        · rename_i b hb
          rw [hb] at hr
          unfold RepD Rep at hr
          rw [hr] at hget
          simp only [Option.some.injEq] at hg
          simp [yielded, hd, hget, ← hg]
        · cases hg
      · cases hg
    · cases hg
theorem gval_congr {l : List Oper} {o : Oper} {s s' : St} (hn : s'.n = s.n) (h : ∀ u, guardSlot l o = some u → s'.fr u = s.fr u) : gval l.toArray s' o.guard = gval l.toArray s o.guard := by
  unfold gval
  cases hgd : o.guard with
  | none => rfl
  | some p =>
    obtain ⟨j, want⟩ := p
    simp only [List.getElem?_toArray]
    cases hd : (l[j]?).bind (·.dst) with
    | none => rfl
    | some d =>
      simp only [hn]
      rw [h d (by unfold guardSlot; rw [hgd]; exact hd)]
theorem stF_all {l : List Oper} {t : Tr} {st : St} {S : Nat → Bool} : ∀ n, (∀ j, j < n → S j = true) → stF l t S n st = stF l t (fun _ => true) n st
  | 0, _ => rfl
  | n + 1, h => by
    simp only [stF, stF_all n fun j hj => h j (by omega)]
    rw [if_pos (h n (by omega)), if_pos trivial]
theorem getD_of_size {listed : Array Bool} {j : Nat} (h : j < listed.size) : listed.getD j true = listed.getD j false := by
  simp [Array.getD, h]

set_option maxHeartbeats 1000000 in
/-- A REGION THAT DRAWS ITS ORDER, RUN IN THE TEXT'S ORDER. -/
theorem draw_any {w0 : World} {WS0 : Nat → Nat → Prop} {l : List Oper} {A : List (List Nat)} {c : Cx} {a : Act} {st : St} {K : St → Prop} {Q : Exit → Act → World → Prop} (hA : drawOk l A = true)
    (h : opsD P l A st.next 0 l st K) (hI : Inv w0 WS0 c a st)
    (hk : ∀ c' a' st', K st' → Ext c c' → InvF c' a' st' → InvM w0 WS0 c' st'.mem → st'.n = st.n → st'.next = st.next → (∀ id, st.next + l.length ≤ id → Fresh c' st'.mem id) → Q .normal a' c'.x.W) : wpAny P .any l.toArray Q l.toArray.size (Array.replicate l.toArray.size false) a c.x.W.drew := by
  unfold drawOk at hA
  simp only [Bool.and_eq_true] at hA
  obtain ⟨hanc, hpair⟩ := hA
  have anc1 : ∀ i, i < l.length → ∀ x, (A.getD i []).contains x = true → x < i ∧ ∃ e ∈ ((l[i]?).map edgesOf).getD [], x = e ∨ (A.getD e []).contains x = true := fun i hi x hx => by
    have h1 := List.all_eq_true.1 hanc i (List.mem_range.2 hi)
    simp only [Bool.and_eq_true] at h1
    have h2 := List.all_eq_true.1 h1.1 x (by simpa using hx)
    simp only [Bool.and_eq_true, decide_eq_true_eq, List.any_eq_true, Bool.or_eq_true, beq_iff_eq] at h2
    exact h2
  have edge1 : ∀ i, i < l.length → ∀ e ∈ ((l[i]?).map edgesOf).getD [], e < i := fun i hi e he => by
    have h1 := List.all_eq_true.1 hanc i (List.mem_range.2 hi)
    simp only [Bool.and_eq_true] at h1
    simpa using List.all_eq_true.1 h1.2 e he
  have pair1 : ∀ i j, i < l.length → j < l.length → unord A i j = true → ∀ u, dstAt l i = some u → u ∉ ((l[j]?).map (looksD l)).getD [] ∧ dstAt l j ≠ some u := fun i j hi hj hu u hd => by
    have h1 := List.all_eq_true.1 (List.all_eq_true.1 hpair i (List.mem_range.2 hi)) j (List.mem_range.2 hj)
    rw [hu, hd] at h1
    simp only [Bool.not_true, Bool.false_or, Option.toList_some, List.all_cons, List.all_nil, Bool.and_true, Bool.and_eq_true, Bool.not_eq_true', beq_eq_false_iff_ne, ne_eq] at h1
    exact ⟨by simpa using h1.1, h1.2⟩
  obtain ⟨t, hfact, hKn⟩ := trace_of l 0 ⟨fun _ => undefD, fun _ => none, fun _ => false⟩ rfl (fun j hj => by omega) h
  obtain ⟨c0, hc0⟩ : ∃ c0, c0 = c := ⟨_, rfl⟩
  rw [← hc0] at hk
  have main : ∀ (fuel : Nat) (listed : Array Bool) (c : Cx) (a : Act), Ext c0 c → listed.size = l.length →
      (List.range l.length).countP (fun j => !listed.getD j false) = fuel →
      (∀ i, i < l.length → listed.getD i false = true → ∀ x, (A.getD i []).contains x = true → listed.getD x false = true) →
      InvF c a (stF l t (fun j => listed.getD j false) l.length st) → InvM w0 WS0 c (stF l t (fun j => listed.getD j false) l.length st).mem →
      (∀ i, i < l.length → listed.getD i false = false → Fresh c (stF l t (fun j => listed.getD j false) l.length st).mem (st.next + i)) →
      (∀ id, st.next + l.length ≤ id → Fresh c (stF l t (fun j => listed.getD j false) l.length st).mem id) →
      wpAny P .any l.toArray Q fuel listed a c.x.W := by
    intro fuel
    induction fuel with
    | zero =>
      intro listed c a hx0 hsz hcnt hdc hF hM hfr hfr2
      have hall : ∀ j, j < l.length → listed.getD j false = true := fun j hj => by
        rw [List.countP_eq_zero] at hcnt
        simpa using hcnt j (List.mem_range.2 hj)
      rw [stF_all l.length hall] at hF hM hfr2
      refine ⟨?_, hk c a _ hKn hx0 hF hM (stF_same l t _ st _).1 (stF_same l t _ st _).2 hfr2⟩
      cases hr : Region.ready .any l.toArray listed with
      | nil => rfl
      | cons j rest =>
        exfalso
        have hj : j ∈ Region.ready .any l.toArray listed := by rw [hr]; exact List.mem_cons_self ..
        rw [mem_ready] at hj
        obtain ⟨h1, o, ho, -⟩ := hj
        have hlt : j < l.length := by simpa using (Array.getElem?_eq_some_iff.1 ho).1
        rw [getD_of_size (by omega), hall j hlt] at h1
        cases h1
    | succ fuel ih =>
      intro listed c a hx0 hsz hcnt hdc hF hM hfr hfr2
      refine ⟨fun hr => ?_, fun i hi => ?_⟩
      · exfalso
        have hex : ∃ j, j < l.length ∧ listed.getD j false = false := by
          have h1 : 0 < (List.range l.length).countP (fun j => !listed.getD j false) := by omega
          rw [List.countP_pos_iff] at h1
          obtain ⟨j, hj, h2⟩ := h1
          exact ⟨j, List.mem_range.1 hj, by simpa using h2⟩
        obtain ⟨j0, hj0⟩ := hex
        have least : ∀ n j, j < n → j < l.length ∧ listed.getD j false = false → ∃ k, k < l.length ∧ listed.getD k false = false ∧ ∀ m, m < k → listed.getD m false = true := by
          intro n
          induction n with
          | zero => intro j hj; omega
          | succ n ihn =>
            intro j hj hjj
            by_cases hm : ∃ m, m < j ∧ listed.getD m false = false
            · obtain ⟨m, hm1, hm2⟩ := hm
              exact ihn m (by omega) ⟨by omega, hm2⟩
            · refine ⟨j, hjj.1, hjj.2, fun m hm2 => ?_⟩
              cases hb : listed.getD m false with
              | true => rfl
              | false => exact (hm ⟨m, hm2, hb⟩).elim
        obtain ⟨k, hk1, hk2, hk3⟩ := least (j0 + 1) j0 (by omega) hj0
        have hmem : k ∈ Region.ready .any l.toArray listed := by
          rw [mem_ready]
          refine ⟨by rw [getD_of_size (by omega)]; exact hk2, l[k], by simp [hk1], fun e he hb => hk3 _ (edge1 k hk1 e.on ?_)⟩
          rw [List.getElem?_eq_getElem hk1]
          simp only [Option.map_some, Option.getD_some, edgesOf, List.mem_filterMap]
          exact ⟨e, by simpa using he, by rw [if_pos hb]⟩
        rw [hr] at hmem
        cases hmem
      · rw [mem_ready] at hi
        obtain ⟨h1, o, ho, hedge⟩ := hi
        have ho' : l[i]? = some o := by simpa using ho
        have hil : i < l.length := (List.getElem?_eq_some_iff.1 ho').1
        rw [getD_of_size (by omega)] at h1
        have hdst : dstAt l i = o.dst := by unfold dstAt; rw [ho']; rfl
        have hlooks : ((l[i]?).map (looksD l)).getD [] = looksD l o := by rw [ho']; rfl
        have hAi : ∀ x, (A.getD i []).contains x = true → listed.getD x false = true := fun x hx => by
          obtain ⟨hlt, e, he, hor⟩ := anc1 i hil x hx
          rw [ho'] at he
          simp only [Option.map_some, Option.getD_some, edgesOf, List.mem_filterMap] at he
          obtain ⟨ed, hed, hh⟩ := he
          split at hh
          · rename_i hb
            cases hh
            have hle := hedge ed (by simpa using hed) hb
            rcases hor with rfl | hor
            · exact hle
            · have hel : ed.on < l.length := by
                rcases Nat.lt_or_ge ed.on l.length with h | h
                · exact h
                · simp [Array.getD, show ¬ ed.on < listed.size by omega] at hle
              exact hdc ed.on hel hle x hor
          · cases hh
        have hun : ∀ j, j < l.length → listed.getD j false ≠ decide (j < i) → unord A j i = true := fun j hj hne => by
          unfold unord
          simp only [Bool.and_eq_true, bne_iff_ne, Bool.not_eq_true']
          cases hS : listed.getD j false with
          | true =>
            rw [hS] at hne
            have hji : ¬ j < i := by intro hh; simp [hh] at hne
            have hne2 : j ≠ i := by rintro rfl; rw [hS] at h1; cases h1
            refine ⟨⟨hne2, ?_⟩, ?_⟩
            · cases hc : (A.getD j []).contains i with
              | false => rfl
              | true => have := hdc j hj hS i hc; rw [h1] at this; cases this
            · cases hc : (A.getD i []).contains j with
              | false => rfl
              | true => have := (anc1 i hil j hc).1; omega
          | false =>
            rw [hS] at hne
            have hji : j < i := by
              apply Classical.byContradiction
              intro hh; simp [hh] at hne
            refine ⟨⟨by omega, ?_⟩, ?_⟩
            · cases hc : (A.getD j []).contains i with
              | false => rfl
              | true => have := (anc1 j hj i hc).1; omega
            · cases hc : (A.getD i []).contains j with
              | false => rfl
              | true => have := hAi j hc; rw [hS] at this; cases this
        have hcut := stF_cut (l := l) (t := t) (st := st) i l.length (by omega)
        have hfrl : ∀ u ∈ looksD l o, (stF l t (fun j => listed.getD j false) l.length st).fr u = (stF l t (fun _ => true) i st).fr u := fun u hu => by
          rw [← hcut]
          refine stF_fr _ fun j hj hne hd => ?_
          have := (pair1 j i hj hil (hun j hj hne) u hd).1
          rw [hlooks] at this
          exact this hu
        have hmml : ∀ x m, visM (Tv l A st.next i) (stF l t (fun _ => true) i st).mem x = some m → (stF l t (fun j => listed.getD j false) l.length st).mem x = some m := fun x m hx => by
          unfold visM at hx
          split at hx
          · rename_i hT
            rw [← hx, ← hcut]
            refine stF_mem _ fun j hj hne x' y he hxx => ?_
            have h3 := apart_of hil (hun j hj hne) ((hfact j hj).may x' y he).1
            rw [hxx, hT] at h3
            cases h3
          · cases hx
        have hnn : (stF l t (fun j => listed.getD j false) l.length st).n = (stF l t (fun _ => true) i st).n := (stF_same l t _ st _).1.trans (stF_same l t _ st _).1.symm
        have hgv : gval l.toArray (stF l t (fun j => listed.getD j false) l.length st) o.guard = some (t.g i) := by
          rw [gval_congr hnn fun u hu => hfrl u (by unfold looksD; rw [hu]; simp)]
          exact (hfact i hil).guard o ho'
        have hins : stF l t (fun j => (listed.setIfInBounds i true).getD j false) l.length st = stepT l t (stF l t (fun j => listed.getD j false) l.length st) i := by
          have e : (fun j => (listed.setIfInBounds i true).getD j false) = fun j => listed.getD j false || j == i := by
            funext j
            by_cases hj : j = i
            · subst hj
              simp [Array.getD, show j < listed.size by omega]
            · have := getD_set_ne (listed := listed) (i := i) (j := j) false (Ne.symm hj)
              rw [this]
              have : (j == i) = false := by simpa using hj
              rw [this, Bool.or_false]
          rw [e]
          refine stF_insert h1 l.length hil fun j hj1 hj2 hS => ?_
          have hu := hun j hj2 (by rw [hS]; simp; omega)
          refine ⟨fun u hd hd' => (pair1 j i hj2 hil hu u hd').2 hd, fun x y x' y' he he' hxx => ?_⟩
          subst hxx
          have h5 := apart_of hil hu ((hfact j hj2).may x y' he').1
          rw [((hfact i hil).may x y he).2] at h5
          cases h5
        have hsz' : (listed.setIfInBounds i true).size = l.length := by simpa using hsz
        have hcnt' : (List.range l.length).countP (fun j => !(listed.setIfInBounds i true).getD j false) = fuel := by
          have := countP_less (p := fun j => !listed.getD j false) (q := fun j => !(listed.setIfInBounds i true).getD j false) (i := i) (by simp only [h1]; rfl) (by simp [Array.getD, show i < listed.size by omega]) l.length hil (fun j hj => by rw [getD_set_ne false (Ne.symm hj)])
          omega
        have hdc' : ∀ k, k < l.length → (listed.setIfInBounds i true).getD k false = true → ∀ x, (A.getD k []).contains x = true → (listed.setIfInBounds i true).getD x false = true := fun k hk1 hk2 x hx => by
          refine getD_set_true ?_
          by_cases hki : k = i
          · subst hki; exact hAi x hx
          · rw [getD_set_ne false (Ne.symm hki)] at hk2
            exact hdc k hk1 hk2 x hx
        unfold wpOp
        rw [ho]
        dsimp only
        rw [wanted_of hF hgv]
        cases hg : t.g i with
        | true =>
          rw [if_pos rfl]
          refine .inl (op_sound (K := fun d s2 => d = t.d i ∧ s2 = (stF l t (fun j => listed.getD j false) l.length st).app (t.e i)) ((hfact i hil).yes hg o ho' _ _ ⟨fun x hx => ?_, hmml, by simp only [stF_lit]⟩ ⟨rfl, rfl⟩) hF hM (hfr i hil h1) ?_)
          · cases x with
            | tmp u => exact hfrl u (by unfold looksD; exact List.mem_append.2 (.inr (List.mem_filterMap.2 ⟨_, hx, rfl⟩)))
            | _ => rfl
          · rintro c' v d st' ⟨rfl, rfl⟩ e1 e2 e3 hx hM' hv hfresh
            have hst : stF l t (fun j => (listed.setIfInBounds i true).getD j false) l.length st = ((stF l t (fun j => listed.getD j false) l.length st).app (t.e i)).put o.dst (t.d i) := by
              rw [hins]; unfold stepT; rw [hdst]
            refine ih (listed.setIfInBounds i true) c' _ (hx0.trans hx) hsz' hcnt' hdc' ?_ ?_ ?_ ?_
            · rw [hst]; exact InvF.put (hF.mono hx) e1 e2 hv o.dst
            · rw [hst, (put_mem _ _ _).1]; exact hM'
            · intro j hj hl
              rw [hst, (put_mem _ _ _).1]
              by_cases hji : j = i
              · subst hji
                simp [Array.getD, show j < listed.size by omega] at hl
              · rw [getD_set_ne false (Ne.symm hji)] at hl
                exact hfresh _ (by omega) (hfr j hj hl)
            · intro id hid
              rw [hst, (put_mem _ _ _).1]
              exact hfresh _ (by omega) (hfr2 id hid)
        | false =>
          obtain ⟨hd0, he0⟩ := (hfact i hil).no hg
          rw [if_neg (by simp)]
          have hst : stF l t (fun j => (listed.setIfInBounds i true).getD j false) l.length st = (stF l t (fun j => listed.getD j false) l.length st).put o.dst undefD := by
            rw [hins]; unfold stepT; rw [hdst, hd0, he0]; rfl
          refine ih (listed.setIfInBounds i true) c _ hx0 hsz' hcnt' hdc' ?_ ?_ ?_ ?_
          · rw [hst]; exact InvF.put hF rfl rfl (by unfold undefD RepD Rep; rfl) o.dst
          · rw [hst, (put_mem _ _ _).1]; exact hM
          · intro j hj hl
            rw [hst, (put_mem _ _ _).1]
            by_cases hji : j = i
            · subst hji
              simp [Array.getD, show j < listed.size by omega] at hl
            · rw [getD_set_ne false (Ne.symm hji)] at hl
              exact hfr j hj hl
          · intro id hid
            rw [hst, (put_mem _ _ _).1]
            exact hfr2 id hid
  have hI' := hI.drew
  have h0 : ∀ k, stF l t (fun j => (Array.replicate l.toArray.size false).getD j false) k st = st := by
    intro k
    induction k with
    | zero => rfl
    | succ k ihk =>
      simp only [stF, ihk]
      rw [if_neg]
      simp [Array.getElem?_replicate]
      split <;> simp
  refine main l.toArray.size (Array.replicate l.toArray.size false) ⟨c.E, ⟨c.x.WS, c.x.W.drew⟩⟩ a (by rw [hc0]; exact ⟨fun b o u hc hn => ⟨hc, hn⟩, fun _ _ _ h => h⟩) (by simp) ?_ ?_ (by rw [h0]; exact hI'.F) (by rw [h0]; exact hI'.M) (fun i hi _ => by rw [h0]; exact hI'.N _ (by omega)) (fun id hid => by rw [h0]; exact hI'.N _ (by omega))
  · have : ∀ n, (List.range n).countP (fun j => !(Array.replicate l.toArray.size false).getD j false) = n := by
      intro n
      induction n with
      | zero => rfl
      | succ n ihn =>
        rw [List.range_succ, List.countP_append, ihn]
        have : (Array.replicate l.toArray.size false).getD n false = false := by
          simp [Array.getElem?_replicate]
          split <;> simp
        rw [List.countP_cons, List.countP_nil, this]
        rfl
    simpa using this l.length
  · intro i hi hh
    exfalso
    simp [Array.getElem?_replicate] at hh
    split at hh <;> simp at hh
theorem draw_sound {w0 : World} {WS0 : Nat → Nat → Prop} {l : List Oper} {A : List (List Nat)} {c : Cx} {a : Act} {st : St} {K : St → Prop} {id : Nat} {Q : Exit → Act → World → Prop} (hmix : P.follows .mixedOrders = true) (hA : drawOk l A = true)
    (h : opsD P l A st.next 0 l st K) (hI : Inv w0 WS0 c a st)
    (hk : ∀ c' a' st', K st' → Ext c c' → InvF c' a' st' → InvM w0 WS0 c' st'.mem → st'.n = st.n → st'.next = st.next → (∀ id, st.next + l.length ≤ id → Fresh c' st'.mem id) → Q .normal a' c'.x.W) : (Code.region id l.toArray true).wp P Q a c.x.W :=
  wp_region_any hmix (draw_any hA h hI hk)
end Go.Dn
end
section
namespace Go.Dn
open Go.RowKit Go.Dk

variable {P : Program}

theorem ops_sound {w0 : World} {WS0 : Nat → Nat → Prop} {ops : Array Oper} {base : Nat} {K : St → Prop} {Q : Exit → Act → World → Prop} : ∀ (l : List Nat) (c : Cx) (a : Act) (st : St), opsW P ops base l st K → InvF c a st → InvM w0 WS0 c st.mem →
    (∀ i ∈ l, Fresh c st.mem (base + i)) → l.Nodup →
    (∀ c' a' st', K st' → Ext c c' → InvF c' a' st' → InvM w0 WS0 c' st'.mem → st'.n = st.n → st'.next = st.next → (∀ id, (∀ i ∈ l, id ≠ base + i) → Fresh c st.mem id → Fresh c' st'.mem id) → Q .normal a' c'.x.W) → wpOps P ops Q l a c.x.W
  | [], c, a, st, h, hF, hM, _, _, hk => hk c a st h (Ext.refl c) hF hM rfl rfl fun _ _ h => h
  | i :: rest, c, a, st, h, hF, hM, hfr, hnd, hk => by
    simp only [opsW, stepW] at h
    obtain ⟨o, ho, g, hg, h⟩ := h
    simp only [wpOps, ho]
    have hnd' := List.nodup_cons.1 hnd
    have hwant : Region.wanted o (yielded ops a.tmps) = g := by
      unfold Region.wanted
      unfold gval at hg
      split at hg
      · rename_i hgd
        rw [hgd]
        simpa using hg
      · rename_i j want hgd
        rw [hgd]
        simp only
        split at hg
        · rename_i d hd
          split at hg
          · rename_i hlt
            have hr := hF.fr d
            have hlt' : d < a.tmps.size := by rw [hF.size]; exact hlt
            have hget : a.tmps[d]? = some (a.tmps.getD d undef) := by simp [Array.getD, hlt']
            split at hg
            · rename_i b hb
              rw [hb] at hr
              unfold RepD Rep at hr
              rw [hr] at hget
              simp only [Option.some.injEq] at hg
              simp [yielded, hd, hget, hg]
            · rename_i b hb
              rw [hb] at hr
              unfold RepD Rep at hr
              rw [hr] at hget
              simp only [Option.some.injEq] at hg
              simp [yielded, hd, hget, ← hg]
            · cases hg
          · cases hg
        · cases hg
    cases g with
    | true =>
      rw [hwant]
      simp only [if_true] at h ⊢
      refine .inl (op_sound h hF hM (hfr i (List.mem_cons_self ..)) ?_)
      intro c' v d st' hK e1 e2 e3 hx hM' hv hfresh
      refine ops_sound (w0 := w0) (WS0 := WS0) rest c' _ _ hK (InvF.put (hF.mono hx) e1 e2 hv o.dst) ?_ ?_ hnd'.2 ?_
      · have : (st'.put o.dst d).mem = st'.mem := by unfold St.put; split <;> (try split) <;> rfl
        rw [this]; exact hM'
      · intro j hj
        have : (st'.put o.dst d).mem = st'.mem := by unfold St.put; split <;> (try split) <;> rfl
        rw [this]
        refine hfresh _ ?_ (hfr j (List.mem_cons_of_mem _ hj))
        intro hh
        have : j = i := by omega
        subst this
        exact hnd'.1 hj
      · intro c2 a2 st2 k1 kx k2 k3 k4 k5 k6
        have p1 : (st'.put o.dst d).n = st'.n := by unfold St.put; split <;> (try split) <;> rfl
        have p2 : (st'.put o.dst d).next = st'.next := by unfold St.put; split <;> (try split) <;> rfl
        have p3 : (st'.put o.dst d).mem = st'.mem := by unfold St.put; split <;> (try split) <;> rfl
        refine hk c2 a2 st2 k1 (hx.trans kx) k2 k3 (by rw [k4, p1, e2]) (by rw [k5, p2, e3]) fun id hid hf => ?_
        refine k6 id (fun j hj => hid j (List.mem_cons_of_mem _ hj)) ?_
        rw [p3]
        exact hfresh id (hid i (List.mem_cons_self ..)) hf
    | false =>
      rw [hwant]
      simp only [Bool.false_eq_true, if_false]
      simp only [Bool.false_eq_true, if_false] at h
      have p1 : (st.put o.dst undefD).n = st.n := by unfold St.put; split <;> (try split) <;> rfl
      have p2 : (st.put o.dst undefD).next = st.next := by unfold St.put; split <;> (try split) <;> rfl
      have p3 : (st.put o.dst undefD).mem = st.mem := by unfold St.put; split <;> (try split) <;> rfl
      refine ops_sound (w0 := w0) (WS0 := WS0) rest c _ _ h (InvF.put hF rfl rfl (by unfold undefD RepD Rep; rfl) o.dst) (by rw [p3]; exact hM) (fun j hj => by rw [p3]; exact hfr j (List.mem_cons_of_mem _ hj)) hnd'.2 ?_
      intro c2 a2 st2 k1 kx k2 k3 k4 k5 k6
      exact hk c2 a2 st2 k1 kx k2 k3 (by rw [k4, p1]) (by rw [k5, p2]) fun id hid hf => k6 id (fun j hj => hid j (List.mem_cons_of_mem _ hj)) (by rw [p3]; exact hf)

theorem ob_some {α : Type} (a : α) (K : α → Prop) : ob (some a) K = K a := by
  unfold ob
  apply propext
  constructor
  · rintro ⟨b, h, k⟩; cases h; exact k
  · exact fun k => ⟨a, rfl, k⟩
theorem opsL_eq {ops : Array Oper} {base : Nat} {K : St → Prop} : ∀ (l : List Oper) (i : Nat), ops.toList.drop i = l → ∀ st, opsL P ops base i l st K = opsW P ops base (List.range' i l.length) st K
  | [], i, _, st => rfl
  | o :: r, i, hd, st => by
    have ho : ops[i]? = some o := by
      have h1 : (ops.toList.drop i)[0]? = some o := by rw [hd]; rfl
      rw [List.getElem?_drop] at h1
      simpa using h1
    have hr : ops.toList.drop (i + 1) = r := by rw [← List.drop_drop, hd]; rfl
    have ih := opsL_eq (base := base) (K := K) r (i + 1) hr
    simp only [opsL, gif, List.length_cons, List.range'_succ, opsW, stepW, ho, ob_some]
    simp only [ih]
theorem opsL_range {ops : Array Oper} {base : Nat} {K : St → Prop} {st : St} (h : opsL P ops base 0 ops.toList st K) : opsW P ops base (List.range ops.size) st K := by
  rw [opsL_eq ops.toList 0 rfl st] at h
  rw [List.range_eq_range']
  simpa using h
/-- what was made behind b is let go -/
def Cx.trim (c : Cx) (b : Nat) : Cx := ⟨fun id v => if id < b then c.E id v else none, c.x⟩
mutual
theorem RepD.trim {c : Cx} {b : Nat} {v : Value} : ∀ {d : D}, below b d = true → RepD c v d → RepD (c.trim b) v d
  | .top, _, _ => by unfold RepD; trivial
  | .f x, _, hr => by unfold RepD at hr ⊢; exact hr
  | .agg cs, hb, hr => by
    unfold RepD at hr ⊢
    obtain ⟨vs, e, hr⟩ := hr
    exact ⟨vs, e, RepDC.trim (by simpa [below] using hb) hr⟩
  | .loc id off, hb, hr => by
    unfold RepD at hr ⊢
    obtain ⟨k, e, hr⟩ := hr
    have : id < b := by simpa [below] using hb
    exact ⟨k, by show (if id < b then c.E id 0 else none) = _; rw [if_pos this]; exact e, hr⟩
  | .own g ver, hb, hr => by
    unfold RepD at hr ⊢
    have : g < b := by simpa [below] using hb
    exact ⟨by show (if g < b then c.E g ver else none) = _; rw [if_pos this]; exact hr.1, hr.2⟩
  | .rowp g ver sz i off, hb, hr => by
    unfold RepD at hr ⊢
    have : g < b := by simpa [below] using hb
    obtain ⟨k, n, cap, e, hr⟩ := hr
    exact ⟨k, n, cap, by show (if g < b then c.E g ver else none) = _; rw [if_pos this]; exact e, hr⟩
  | .fn f caps, hb, hr => by
    unfold RepD at hr ⊢
    obtain ⟨vs, e, hr⟩ := hr
    exact ⟨vs, e, RepDL.trim (by simpa [below] using hb) hr⟩
  | .tup caps, hb, hr => by
    unfold RepD at hr ⊢
    obtain ⟨vs, e, hr⟩ := hr
    exact ⟨vs, e, RepDL.trim (by simpa [below] using hb) hr⟩
theorem RepDL.trim {c : Cx} {b : Nat} {vs : List Value} : ∀ {ds : List D}, belowL b ds = true → RepDL c vs ds → RepDL (c.trim b) vs ds
  | [], _, hr => hr
  | d :: ds, hb, hr => by
    simp only [belowL, Bool.and_eq_true] at hb
    unfold RepDL at hr ⊢
    obtain ⟨u, us, e, h1, h2⟩ := hr
    exact ⟨u, us, e, RepD.trim hb.1 h1, RepDL.trim hb.2 h2⟩
theorem RepDC.trim {c : Cx} {b : Nat} {vs : List Value} : ∀ {ds : List D}, belowL b ds = true → RepDC c vs ds → RepDC (c.trim b) vs ds
  | [], _, hr => hr
  | d :: ds, hb, hr => by
    simp only [belowL, Bool.and_eq_true] at hb
    unfold RepDC at hr ⊢
    obtain ⟨u, us, e, h0, h1, h2⟩ := hr
    exact ⟨u, us, e, h0, RepD.trim hb.1 h1, RepDC.trim hb.2 h2⟩
end
theorem RepD.clean {c : Cx} {b : Nat} {v : Value} {d : D} (h : RepD c v d) : RepD (c.trim b) v (clean b d) := by
  unfold Dn.clean
  split
  · exact RepD.trim (by assumption) h
  · unfold RepD; trivial
theorem RepDC.clean {c : Cx} {b : Nat} : ∀ {ds : List D} {vs : List Value}, RepDC c vs ds → RepDC (c.trim b) vs (ds.map (Dn.clean b))
  | [], vs, h => by unfold RepDC at h; subst h; simp [RepDC]
  | d :: ds, vs, h => by
    unfold RepDC at h
    obtain ⟨u, us, rfl, h0, h1, h2⟩ := h
    simp only [List.map_cons]
    unfold RepDC
    exact ⟨u, us, rfl, h0, h1.clean, RepDC.clean h2⟩
theorem owns_trim {c : Cx} {b id : Nat} {m m' : M} {k : Nat} (hm : (∃ cs cs', m = .blk cs ∧ m' = .blk cs') ∨ m = m') (h : Owns (c.trim b) id m' k) : Owns c id m k := by
  have key : ∀ i v u, (c.trim b).E i v = some u → c.E i v = some u := fun i v u hh => by
    unfold Cx.trim at hh
    simp only at hh
    split at hh
    · exact hh
    · cases hh
  rcases hm with ⟨cs, cs', rfl, rfl⟩ | rfl
  · exact key _ _ _ h
  · cases m with
    | blk cs => exact key _ _ _ h
    | row e ver sz xs => obtain ⟨v, h1, h2⟩ := h; exact ⟨v, key _ _ _ h1, h2⟩
    | rows rs => obtain ⟨j, v, hj, h1, h2⟩ := h; exact ⟨j, v, hj, key _ _ _ h1, h2⟩
theorem Inv.trim {w0 : World} {WS0 : Nat → Nat → Prop} {c : Cx} {a : Act} {st : St} (h : Inv w0 WS0 c a st) (b : Nat) : Inv w0 WS0 (c.trim b) a (st.trim b) := by
  have hmem : ∀ id m, (st.trim b).mem id = some m → id < b ∧ ∃ m0, st.mem id = some m0 ∧ m = cleanM b m0 := fun id m hm => by
    simp only [St.trim] at hm
    split at hm
    · rename_i hlt
      simp only [Option.map_eq_some_iff] at hm
      obtain ⟨m0, h1, rfl⟩ := hm
      exact ⟨hlt, m0, h1, rfl⟩
    · cases hm
  have hsame : ∀ m0 : Dn.M, (∃ cs cs', m0 = .blk cs ∧ cleanM b m0 = .blk cs') ∨ m0 = cleanM b m0 := fun m0 => by
    cases m0 with
    | blk cs => exact .inl ⟨_, _, rfl, rfl⟩
    | row => exact .inr rfl
    | rows => exact .inr rfl
  refine ⟨⟨h.F.size, h.F.defers, fun t => (h.F.fr t).clean⟩, ⟨fun id m hm => ?_, fun i i' m1 m2 k hi hi' h1 h2 => ?_, h.M.chg, h.M.ws0, h.M.ws1, h.M.wsd, fun g e ver sz xs hg k hk => ?_⟩, fun id hid => ⟨?_, fun v => ?_⟩⟩
  · obtain ⟨hlt, m0, hm0, rfl⟩ := hmem id m hm
    have hok := h.M.mem id m0 hm0
    cases m0 with
    | blk cs =>
      obtain ⟨k, vs, T, h1, h2, h3, h4, h5⟩ := hok
      exact ⟨k, vs, T, by show (if id < b then c.E id 0 else none) = _; rw [if_pos hlt]; exact h1, h2, h3, h4.clean, h5⟩
    | row e ver sz xs =>
      obtain ⟨v, vs, h1, h2, h3, h4, h5, h6⟩ := hok
      exact ⟨v, vs, by show (if id < b then c.E id ver else none) = _; rw [if_pos hlt]; exact h1, h2, h3, h4, h5, h6⟩
    | rows rs =>
      have e : ∀ j, (c.trim b).E id j = c.E id j := fun j => by show (if id < b then c.E id j else none) = _; rw [if_pos hlt]
      refine ⟨fun j r hj => ?_, fun j j' v v' bb hj hj' h1 h2 => hok.2 j j' v v' bb hj hj' (by rw [← e]; exact h1) (by rw [← e]; exact h2)⟩
      obtain ⟨v, vs, h1, hr⟩ := hok.1 j r hj
      exact ⟨v, vs, by rw [e]; exact h1, hr⟩
  · obtain ⟨-, n1, hn1, rfl⟩ := hmem i m1 hi
    obtain ⟨-, n2, hn2, rfl⟩ := hmem i' m2 hi'
    exact h.M.inj i i' n1 n2 k hn1 hn2 (owns_trim (hsame n1) h1) (owns_trim (hsame n2) h2)
  · obtain ⟨hlt, m0, hm0, e0⟩ := hmem g _ hg
    cases m0 with
    | blk cs => cases e0
    | rows rs => cases e0
    | row e' ver' sz' xs' =>
      cases e0
      show (if g < b then c.E g k else none) = none
      rw [if_pos hlt]
      exact h.M.vers g _ _ _ _ hm0 k hk
  · have : b ≤ id := hid
    simp only [St.trim]
    rw [if_neg (by omega)]
  · have : b ≤ id := hid
    show (if id < b then c.E id v else none) = none
    rw [if_neg (by omega)]

def exOf : Ex → Exit
  | .normal => .normal
  | .exit id => .exit id
  | .ret => .ret

/-- a nil slice is a row with nothing in it -/
theorem InvM.nilrow {w0 : World} {WS0 : Nat → Nat → Prop} {c : Cx} {mem : Nat → Option M} (h : InvM w0 WS0 c mem) {id e sz : Nat} (hf : Fresh c mem id) (hsz : 0 < sz) :
    InvM w0 WS0 ⟨setE c.E id 0 (.slice none 0 0), c.x⟩ (upd mem id (some (.row e 0 sz []))) := by
  have hx : Ext c ⟨setE c.E id 0 (.slice none 0 0), c.x⟩ := ⟨Sub.refl _, fun i v u hu => setE_old (hf.2 0) hu⟩
  have hno : ∀ b, ¬ Owns ⟨setE c.E id 0 (.slice none 0 0), c.x⟩ id (.row e 0 sz []) b := by
    rintro b ⟨v, hv, hb⟩
    have := (setE_same c.E id 0 (.slice none 0 0)).symm.trans hv
    cases this
    simp [Value.ownBlock] at hb
  refine ⟨fun i m hi => ?_, fun i i' m1 m2 b hi hi' h1 h2 => ?_, h.chg, h.ws0, h.ws1, h.wsd, fun g e' ver sz' xs hg k hk => ?_⟩
  · unfold upd at hi
    by_cases ei : i = id
    · rw [if_pos ei] at hi; cases hi; subst ei
      refine ⟨.slice none 0 0, [], setE_same _ _ _ _, World.ownsRow_nil _ _ _ _, by simp [RepC], by simp, hsz, fun g hg => by simp [Value.ownBlock] at hg⟩
    · rw [if_neg ei] at hi
      exact (h.mem i m hi).ext hx (fun _ _ => rfl) (fun _ _ _ hw => hw)
  · unfold upd at hi hi'
    by_cases ei : i = id
    · rw [if_pos ei] at hi; cases hi; subst ei; exact absurd h1 (hno b)
    · by_cases ei' : i' = id
      · rw [if_pos ei'] at hi'; cases hi'; subst ei'; exact absurd h2 (hno b)
      · rw [if_neg ei] at hi; rw [if_neg ei'] at hi'
        exact h.inj i i' m1 m2 b hi hi' (Owns.ext (h.mem i m1 hi) hx h1) (Owns.ext (h.mem i' m2 hi') hx h2)
  · show setE c.E id 0 (.slice none 0 0) g k = none
    unfold setE
    unfold upd at hg
    by_cases eg : g = id
    · rw [if_pos eg] at hg; cases hg; subst eg
      rw [if_neg (by rintro ⟨-, rfl⟩; omega)]
      exact hf.2 k
    · rw [if_neg eg] at hg
      rw [if_neg (fun e => eg e.1)]
      exact h.vers g _ _ _ _ hg k hk
theorem InvM.blk_same {w0 : World} {WS0 : Nat → Nat → Prop} {c : Cx} {mem : Nat → Option M} (h : InvM w0 WS0 c mem) {id : Nat} {cs cs' : List D} (hm : mem id = some (.blk cs)) (hr : ∀ vs, RepDC c vs cs → RepDC c vs cs') :
    InvM w0 WS0 c (upd mem id (some (.blk cs'))) := by
  refine ⟨fun i m hi => ?_, fun i i' m1 m2 b hi hi' h1 h2 => ?_, h.chg, h.ws0, h.ws1, h.wsd, fun g e' ver sz' xs hg k hk => ?_⟩
  · unfold upd at hi
    by_cases ei : i = id
    · rw [if_pos ei] at hi; cases hi; subst ei
      obtain ⟨b, vs, T, k1, k2, k3, k4, k5⟩ := h.mem i _ hm
      exact ⟨b, vs, T, k1, k2, k3, hr vs k4, k5⟩
    · rw [if_neg ei] at hi; exact h.mem i m hi
  · have fix : ∀ i m, upd mem id (some (.blk cs')) i = some m → Owns c i m b → ∃ m', mem i = some m' ∧ Owns c i m' b := by
      intro i m hi ho
      unfold upd at hi
      by_cases ei : i = id
      · rw [if_pos ei] at hi; cases hi; subst ei; exact ⟨_, hm, ho⟩
      · rw [if_neg ei] at hi; exact ⟨m, hi, ho⟩
    obtain ⟨m1', k1, k2⟩ := fix i m1 hi h1
    obtain ⟨m2', k3, k4⟩ := fix i' m2 hi' h2
    exact h.inj i i' m1' m2' b k1 k3 k2 k4
  · unfold upd at hg
    by_cases eg : g = id
    · rw [if_pos eg] at hg; cases hg
    · rw [if_neg eg] at hg; exact h.vers g _ _ _ _ hg k hk
theorem isNil_eq {d : D} (h : isNil d = true) : d = .f (.v (.slice none 0 0)) := by
  unfold isNil at h
  split at h
  · rfl
  · cases h
/-- rows that a call has made at once, each by itself -/
def Cx.opn (c : Cx) (id nx n : Nat) : Cx := ⟨fun i k => if (nx ≤ i ∧ i < nx + n) ∧ k = 0 then c.E id (i - nx) else c.E i k, c.x⟩
theorem Cx.opn_old {c : Cx} {id nx n i k : Nat} (h : i < nx) : (c.opn id nx n).E i k = c.E i k := by
  show (if (nx ≤ i ∧ i < nx + n) ∧ k = 0 then _ else _) = _
  rw [if_neg (by omega)]
theorem Cx.opn_new {c : Cx} {id nx n j : Nat} (h : j < n) : (c.opn id nx n).E (nx + j) 0 = c.E id j := by
  show (if (nx ≤ nx + j ∧ nx + j < nx + n) ∧ 0 = 0 then _ else _) = _
  rw [if_pos ⟨by omega, rfl⟩]
  congr 1
  omega
theorem InvM.opn {w0 : World} {WS0 : Nat → Nat → Prop} {c : Cx} {mem : Nat → Option M} {id nx : Nat} {rs : List (TypeId × Nat × List (List FD))} (h : InvM w0 WS0 c mem) (hm : mem id = some (.rows rs)) (hf : ∀ i, nx ≤ i → Fresh c mem i) :
    InvM w0 WS0 (c.opn id nx rs.length) (openM mem id nx rs) ∧ Ext c (c.opn id nx rs.length) := by
  have hid : id < nx := by
    rcases Nat.lt_or_ge id nx with h1 | h1
    · exact h1
    · rw [(hf id h1).1] at hm; cases hm
  have hx : Ext c (c.opn id nx rs.length) := ⟨Sub.refl _, fun i v u hu => by
    have : i < nx := by
      rcases Nat.lt_or_ge i nx with h1 | h1
      · exact h1
      · rw [(hf i h1).2 v] at hu; cases hu
    rw [Cx.opn_old this]; exact hu⟩
  have hok := h.mem id _ hm
  have hcase : ∀ i m, openM mem id nx rs i = some m → (i < nx ∧ i ≠ id ∧ mem i = some m) ∨ ∃ j r, i = nx + j ∧ j < rs.length ∧ rs[j]? = some r ∧ m = .row r.1 0 r.2.1 r.2.2 := fun i m hi => by
    unfold openM at hi
    split at hi
    · cases hi
    · rename_i hne
      split at hi
      · rename_i hle
        simp only [Option.map_eq_some_iff] at hi
        obtain ⟨r, hr, rfl⟩ := hi
        exact .inr ⟨i - nx, r, by omega, (List.getElem?_eq_some_iff.1 hr).1, hr, rfl⟩
      · exact .inl ⟨by omega, hne, hi⟩
  have old : ∀ i m, i < nx → ∀ b, Owns (c.opn id nx rs.length) i m b → Owns c i m b := fun i m hi b ho => by
    cases m with
    | blk cs => show c.E i 0 = _; rw [← Cx.opn_old hi (n := rs.length) (id := id)]; exact ho
    | row e ver sz xs => obtain ⟨v, h1, h2⟩ := ho; exact ⟨v, by rw [← Cx.opn_old hi (n := rs.length) (id := id)]; exact h1, h2⟩
    | rows rs' => obtain ⟨j, v, hj, h1, h2⟩ := ho; exact ⟨j, v, hj, by rw [← Cx.opn_old hi (n := rs.length) (id := id)]; exact h1, h2⟩
  have new : ∀ (j : Nat) (r : TypeId × Nat × List (List FD)), j < rs.length → ∀ b, Owns (c.opn id nx rs.length) (nx + j) (.row r.1 0 r.2.1 r.2.2) b → ∃ v, c.E id j = some v ∧ v.ownBlock = some b := fun j r hj b ho => by
    obtain ⟨v, h1, h2⟩ := ho
    rw [Cx.opn_new hj] at h1
    exact ⟨v, h1, h2⟩
  refine ⟨⟨fun i m hi => ?_, fun i i' m1 m2 b hi hi' h1 h2 => ?_, h.chg, h.ws0, h.ws1, h.wsd, fun g e ver sz xs hg k hk => ?_⟩, hx⟩
  · rcases hcase i m hi with ⟨h1, h2, h3⟩ | ⟨j, r, rfl, hj, hr, rfl⟩
    · exact (h.mem i m h3).ext hx (fun _ _ => rfl) (fun _ _ _ h => h)
    · obtain ⟨v, vs, k1, k2⟩ := hok.1 j r hr
      exact ⟨v, vs, by rw [Cx.opn_new hj]; exact k1, k2⟩
  · rcases hcase i m1 hi with ⟨a1, a2, a3⟩ | ⟨j, r, rfl, hj, hr, rfl⟩ <;> rcases hcase i' m2 hi' with ⟨b1, b2, b3⟩ | ⟨j', r', rfl, hj', hr', rfl⟩
    · exact h.inj i i' m1 m2 b a3 b3 (old i m1 a1 b h1) (old i' m2 b1 b h2)
    · obtain ⟨v, k1, k2⟩ := new j' r' hj' b h2
      exact absurd (h.inj i id m1 _ b a3 hm (old i m1 a1 b h1) ⟨j', v, hj', k1, k2⟩) a2
    · obtain ⟨v, k1, k2⟩ := new j r hj b h1
      exact absurd (h.inj i' id m2 _ b b3 hm (old i' m2 b1 b h2) ⟨j, v, hj, k1, k2⟩) b2
    · obtain ⟨v, k1, k2⟩ := new j r hj b h1
      obtain ⟨v', k3, k4⟩ := new j' r' hj' b h2
      rw [hok.2 j j' v v' b hj hj' k1 k3 k2 k4]
  · rcases hcase g _ hg with ⟨a1, a2, a3⟩ | ⟨j, r, rfl, hj, hr, e2⟩
    · rw [Cx.opn_old a1]
      exact h.vers g e ver sz xs a3 k hk
    · cases e2
      show (if (nx ≤ nx + j ∧ nx + j < nx + rs.length) ∧ k = 0 then _ else _) = _
      rw [if_neg (by omega)]
      exact (hf (nx + j) (by omega)).2 k
theorem repD_redir {c : Cx} {id nx n : Nat} {v : Value} {d : D} (hid : id < nx) (h : RepD (c.opn id nx n) v d) : RepD (c.opn id nx n) v (redir id nx n d) := by
  unfold redir
  split
  · split
    · rename_i g ver hh
      obtain ⟨rfl, hv⟩ := hh
      unfold RepD at h ⊢
      rw [Cx.opn_old hid] at h
      rw [Cx.opn_new hv]
      exact h
    · exact h
  · exact h
theorem repDC_redir {c : Cx} {id nx n : Nat} (hid : id < nx) : ∀ {cs : List D} {vs : List Value}, RepDC (c.opn id nx n) vs cs → RepDC (c.opn id nx n) vs (cs.map (redir id nx n))
  | [], vs, h => by unfold RepDC at h; subst h; simp [RepDC]
  | d :: ds, vs, h => by
    unfold RepDC at h
    obtain ⟨u, us, rfl, h0, h1, h2⟩ := h
    simp only [List.map_cons]
    unfold RepDC
    exact ⟨u, us, rfl, h0, repD_redir hid h1, repDC_redir hid h2⟩
theorem adopt1_sound {w0 : World} {WS0 : Nat → Nat → Prop} (ad : Ad) (c : Cx) (a : Act) (st : St) (hI : Inv w0 WS0 c a st) : ∃ c', Inv w0 WS0 c' a (st.adopt1 ad) ∧ c'.x = c.x ∧ (∀ id v u, c.E id v = some u → c'.E id v = some u) ∧ st.next ≤ (st.adopt1 ad).next := by
  have hf := hI.N st.next (Nat.le_refl _)
  have hx : Ext c ⟨setE c.E st.next 0 (.slice none 0 0), c.x⟩ := ⟨Sub.refl _, fun i v u hu => setE_old (hf.2 0) hu⟩
  have hown : RepD ⟨setE c.E st.next 0 (.slice none 0 0), c.x⟩ (.slice none 0 0) (.own st.next 0) := by
    unfold RepD
    exact ⟨setE_same _ _ _ _, _, _, _, rfl⟩
  have hfresh : ∀ mem', (∀ i, st.next + 1 ≤ i → mem' i = st.mem i) → ∀ i, st.next + 1 ≤ i → Fresh ⟨setE c.E st.next 0 (.slice none 0 0), c.x⟩ mem' i := by
    intro mem' hm i hi
    obtain ⟨h1, h2⟩ := hI.N i (by omega)
    refine ⟨by rw [hm i hi]; exact h1, fun v => ?_⟩
    show setE c.E st.next 0 (.slice none 0 0) i v = none
    unfold setE
    rw [if_neg (by rintro ⟨e, -⟩; omega)]
    exact h2 v
  cases ad with
  | opn id t =>
    simp only [St.adopt1]
    split
    · rename_i rs cs hm ht
      obtain ⟨h1, h2⟩ := hI.M.opn hm hI.N
      have hid : id < st.next := by
        rcases Nat.lt_or_ge id st.next with h1 | h1
        · exact h1
        · rw [(hI.N id h1).1] at hm; cases hm
      have htn : t < st.next := by
        rcases Nat.lt_or_ge t st.next with h1 | h1
        · exact h1
        · rw [(hI.N t h1).1] at ht; cases ht
      have hne : t ≠ id := fun e => by rw [e, hm] at ht; cases ht
      have ht' : openM st.mem id st.next rs t = some (.blk cs) := by
        unfold openM
        rw [if_neg hne, if_neg (by omega)]
        exact ht
      refine ⟨c.opn id st.next rs.length, ⟨⟨hI.F.size, hI.F.defers, fun u => RepD.mono h2 (hI.F.fr u)⟩, h1.blk_same ht' (fun vs hr => repDC_redir hid hr), fun i hi => ?_⟩, rfl, h2.env, Nat.le_add_right _ _⟩
      have hi' : st.next + rs.length ≤ i := hi
      refine ⟨?_, fun v => ?_⟩
      · show upd (openM st.mem id st.next rs) t _ i = none
        unfold upd
        rw [if_neg (by omega)]
        unfold openM
        rw [if_neg (by omega), if_pos (by omega), List.getElem?_eq_none (by omega)]
        rfl
      · show (if (st.next ≤ i ∧ i < st.next + rs.length) ∧ v = 0 then _ else _) = _
        rw [if_neg (by omega)]
        exact (hI.N i (by omega)).2 v
    · exact ⟨c, hI, rfl, fun _ _ _ h => h, Nat.le_refl _⟩
  | slot t e sz =>
    simp only [St.adopt1]
    split
    · rename_i hc
      simp only [Bool.and_eq_true, decide_eq_true_eq] at hc
      obtain ⟨⟨hn, hsz⟩, ht⟩ := hc
      have hn := isNil_eq hn
      refine ⟨⟨setE c.E st.next 0 (.slice none 0 0), c.x⟩, ⟨⟨hI.F.size, hI.F.defers, fun u => ?_⟩, hI.M.nilrow hf hsz, hfresh _ fun i hi => by simp only [upd]; rw [if_neg (by omega)]⟩, rfl, fun _ _ _ h => hx.env _ _ _ h, Nat.le_succ _⟩
      show RepD _ _ (upd st.fr t (.own st.next 0) u)
      unfold upd
      split
      · rename_i hu
        subst hu
        have := hI.F.fr u
        rw [hn] at this
        unfold RepD Rep at this
        rw [this]
        exact hown
      · exact RepD.mono hx (hI.F.fr u)
    · exact ⟨c, hI, rfl, fun _ _ _ h => h, Nat.le_refl _⟩
  | cell id off e sz =>
    simp only [St.adopt1]
    split
    · rename_i cs hm
      split
      · rename_i hc
        simp only [Bool.and_eq_true, decide_eq_true_eq] at hc
        obtain ⟨hn, hsz⟩ := hc
        have hn := isNil_eq hn
        have hne : id ≠ st.next := fun e => by rw [e, hf.1] at hm; cases hm
        have hM := hI.M.nilrow (e := e) hf hsz
        have hm' : (upd st.mem st.next (some (.row e 0 sz []))) id = some (.blk cs) := by simp only [upd]; rw [if_neg hne]; exact hm
        refine ⟨⟨setE c.E st.next 0 (.slice none 0 0), c.x⟩, ⟨⟨hI.F.size, hI.F.defers, fun u => RepD.mono hx (hI.F.fr u)⟩, hM.blk_same hm' fun vs hr => ?_, hfresh _ fun i hi => ?_⟩, rfl, fun _ _ _ h => hx.env _ _ _ h, Nat.le_succ _⟩
        · have hget : cs[off]? = some (.f (.v (.slice none 0 0))) := by
            rw [List.getD] at hn
            cases hc : cs[off]? with
            | none => rw [hc] at hn; simp at hn
            | some d => rw [hc] at hn; simp at hn; rw [hn]
          obtain ⟨u, hu, h1, h2⟩ := repDC_get hr hget
          unfold RepD Rep at h2
          subst h2
          have := repDC_set (u := .slice none 0 0) rfl hown hr off
          rw [show vs.set off (.slice none 0 0) = vs from ?_] at this
          · exact this
          · apply List.ext_getElem?
            intro j
            rw [List.getElem?_set]
            split
            · rename_i hj
              subst hj
              have hlt : off < vs.length := (List.getElem?_eq_some_iff.1 hu).1
              rw [if_pos hlt]
              exact hu.symm
            · rfl
        · have hlt : st.next + 1 ≤ i := hi
          simp only [upd]
          have : i ≠ id := by
            rintro rfl
            have := (hI.N i (by omega)).1
            rw [this] at hm; cases hm
          rw [if_neg this, if_neg (by omega)]
      · exact ⟨c, hI, rfl, fun _ _ _ h => h, Nat.le_refl _⟩
    · exact ⟨c, hI, rfl, fun _ _ _ h => h, Nat.le_refl _⟩
theorem adopts_sound {w0 : World} {WS0 : Nat → Nat → Prop} : ∀ (as : List Ad) (c : Cx) (a : Act) (st : St), Inv w0 WS0 c a st → ∃ c', Inv w0 WS0 c' a (St.adopts as st) ∧ c'.x = c.x ∧ (∀ id v u, c.E id v = some u → c'.E id v = some u) ∧ st.next ≤ (St.adopts as st).next
  | [], c, a, st, hI => ⟨c, hI, rfl, fun _ _ _ h => h, Nat.le_refl _⟩
  | ad :: as, c, a, st, hI => by
    obtain ⟨c1, h1, e1, x1, n1⟩ := adopt1_sound ad c a st hI
    obtain ⟨c2, h2, e2, x2, n2⟩ := adopts_sound as c1 a _ h1
    exact ⟨c2, h2, e2.trans e1, fun id v u h => x2 _ _ _ (x1 _ _ _ h), Nat.le_trans n1 n2⟩

/-- what was there ahead of id b is there still -/
structure ExtN (b : Nat) (c c' : Cx) : Prop where
  sub : Sub c.x c'.x
  env : ∀ id, id < b → ∀ v u, c.E id v = some u → c'.E id v = some u
theorem ExtN.refl (b : Nat) (c : Cx) : ExtN b c c := ⟨Sub.refl _, fun _ _ _ _ h => h⟩
theorem ExtN.trans {b : Nat} {x y z : Cx} (h : ExtN b x y) (k : ExtN b y z) : ExtN b x z := ⟨h.sub.trans k.sub, fun id hb v u e => k.env id hb v u (h.env id hb v u e)⟩
theorem Ext.n {b : Nat} {x y : Cx} (h : Ext x y) : ExtN b x y := ⟨h.sub, fun id _ v u e => h.env id v u e⟩
theorem ExtN.trim {b m : Nat} (c : Cx) (h : b ≤ m) : ExtN b c (c.trim m) := ⟨Sub.refl _, fun id hb v u e => by show (if id < m then c.E id v else none) = _; rw [if_pos (by omega)]; exact e⟩

theorem run_sound2 {w0 : World} {WS0 : Nat → Nat → Prop} : ∀ (cd : Code) (st : St) (k : Ex → St → Prop), run P cd st k → ∀ (bn : Nat) (c : Cx) (a : Act), bn ≤ st.next → Inv w0 WS0 c a st → ∀ (Q : Exit → Act → World → Prop),
    (∀ e c' a' st', k e st' → Inv w0 WS0 c' a' st' → ExtN bn c c' → bn ≤ st'.next → Q (exOf e) a' c'.x.W) → cd.wp P Q a c.x.W := by
  intro cd
  induction cd with
  | skip => exact fun st k h bn c a hb hI Q hk => wp_skip (hk .normal c a st h hI (ExtN.refl _ _) hb)
  | region id ops draw =>
    intro st k h bn c a hbn hI Q hk
    unfold run regionW at h
    split at h
    · rename_i hd
      subst hd
      obtain ⟨A, hA, hmix, h⟩ := h
      have e : ops = ops.toList.toArray := by simp
      rw [e]
      refine draw_sound hmix hA h hI ?_
      intro c' a' st' h1 hx h2 h3 h4 h5 h6
      refine hk .normal c' a' _ h1 ⟨⟨h2.size, h2.defers, h2.fr⟩, h3, fun id hid => h6 id ?_⟩ hx.n (by show bn ≤ st.next + ops.size; omega)
      simpa using hid
    · rename_i hd
      have hd' : draw = false := by simpa using hd
      subst hd'
      refine wp_region (ops_sound _ c a st (opsL_range h) hI.F hI.M (fun i _ => hI.N _ (by omega)) List.nodup_range ?_)
      intro c' a' st' h1 hx h2 h3 h4 h5 h6
      refine hk .normal c' a' _ h1 ⟨⟨h2.size, h2.defers, h2.fr⟩, h3, fun id hid => ?_⟩ hx.n (by show bn ≤ st.next + ops.size; omega)
      simp only at hid
      exact h6 id (fun i hi => by have := List.mem_range.1 hi; omega) (hI.N id (by omega))
  | seq x y ihx ihy =>
    intro st k h bn c a hbn hI Q hk
    unfold run at h
    refine wp_seq (ihx st _ h bn c a hbn hI _ ?_)
    intro e c' a' st' he hI' hx hb'
    cases e with
    | normal => exact ihy st' k he bn c' a' hb' hI' Q (fun e c2 a2 st2 h1 h2 h3 h4 => hk e c2 a2 st2 h1 h2 (hx.trans h3) h4)
    | exit id => exact hk (.exit id) c' a' st' he hI' hx hb'
    | ret => exact hk .ret c' a' st' he hI' hx hb'
  | cond cc x y ihx ihy =>
    intro st k h bn c a hbn hI Q hk
    unfold run at h
    obtain ⟨t, ht, h⟩ := h
    have hc := truth_rep (hI.F.ev cc) ht
    refine wp_cond hc ?_
    cases t with
    | true => exact ihx st k h bn c a hbn hI Q hk
    | false => exact ihy st k h bn c a hbn hI Q hk
  | block id x ih =>
    intro st k h bn c a hbn hI Q hk
    unfold run at h
    refine wp_block (ih st _ h bn c a hbn hI _ ?_)
    intro e c' a' st' he hI' hx hb'
    cases e with
    | normal => exact hk .normal c' a' st' he hI' hx hb'
    | exit j =>
      simp only at he
      show (if j = id then Q .normal a' c'.x.W else Q (.exit j) a' c'.x.W)
      split at he
      · rename_i hj; rw [if_pos hj]; exact hk .normal c' a' st' he hI' hx hb'
      · rename_i hj; rw [if_neg hj]; exact hk (.exit j) c' a' st' he hI' hx hb'
    | ret => exact hk .ret c' a' st' he hI' hx hb'
  | loop x ih =>
    intro st0 k h bn c0 a hbn hI0 Q hk
    unfold run at h
    obtain ⟨as, n, h⟩ := h
    obtain ⟨c, hI, ec, xe, nx⟩ := adopts_sound as c0 a st0 hI0
    have hx0 : ExtN bn c0 c := ⟨by rw [ec]; exact Sub.refl _, fun id _ v u h => xe id v u h⟩
    rw [← ec]
    revert h hI nx
    generalize St.adopts as st0 = st
    intro h hI nx
    have hbb : bn ≤ st.next := Nat.le_trans hbn nx
    intro b kk cs
    generalize st.next = bb at h hbb
    have key : ∀ (n : Nat) (st : St), iterP (run P x) bb n st k → ∀ (c : Cx) (a : Act), ExtN bn c0 c → Inv w0 WS0 c a st →
        ∃ e a' w', Q e a' w' ∧ Arrives P (lone (b.at a (.code x :: .inLoop x :: kk)) cs c.x.W) b kk cs e a' w' := by
      intro n
      induction n with
      | zero => intro st h; exact h.elim
      | succ n ihn =>
        intro st h c a hxc hI
        unfold iterP at h
        have hw := ih (st.trim bb) _ h bn (c.trim bb) a hbb (hI.trim bb) (Exit.then (fun a' w' => ∃ e a'' w'', Q e a'' w'' ∧ Arrives P (lone (b.at a' (.code x :: .inLoop x :: kk)) cs w') b kk cs e a'' w'') Q) (by
          intro e c' a' st' he hI' hx hb'
          have hx2 := (hxc.trans (ExtN.trim c hbb)).trans hx
          cases e with
          | normal => exact ihn st' he c' a' hx2 hI'
          | exit id => exact hk (.exit id) c' a' st' he hI' hx2 hb'
          | ret => exact hk .ret c' a' st' he hI' hx2 hb')
        obtain ⟨e, a₁, w₁, hq, harr⟩ := hw b (.inLoop x :: kk) cs
        cases e with
        | normal =>
          obtain ⟨e₂, a₂, w₂, hq₂, harr₂⟩ := hq
          exact ⟨e₂, a₂, w₂, hq₂, .of_steps (Steps.trans harr (.one step_inLoop)) harr₂⟩
        | exit id => exact ⟨_, a₁, w₁, hq, .pass (x := .inLoop x) rfl (fun _ _ => .inl (by simp)) harr⟩
        | goto l => exact ⟨_, a₁, w₁, hq, .pass (x := .inLoop x) rfl (fun _ _ => .inl (by simp)) harr⟩
        | ret => exact ⟨_, a₁, w₁, hq, .pass (x := .inLoop x) rfl (fun _ _ => .inl (by simp)) harr⟩
        | panic ch => exact ⟨_, a₁, w₁, hq, .pass (x := .inLoop x) rfl (fun _ _ => .inl (by simp)) harr⟩
        | outgrown => exact ⟨_, a₁, w₁, hq, .pass (x := .inLoop x) rfl (fun _ _ => .inl (by simp)) harr⟩
    obtain ⟨e, a', w', hq, harr⟩ := key n st h c a hx0 hI
    exact ⟨e, a', w', hq, .of_steps (.one step_loop) harr⟩
  | exit id =>
    intro st k h bn c a hbn hI Q hk
    exact wp_exit (hk (.exit id) c a st h hI (ExtN.refl _ _) hbn)
  | ret =>
    intro st k h bn c a hbn hI Q hk
    exact wp_ret (hk .ret c a st h hI (ExtN.refl _ _) hbn)
  | rangeFunc => intro st k h; exact h.elim
  | scope => intro st k h; exact h.elim
  | label => intro st k h; exact h.elim
  | goto => intro st k h; exact h.elim
  | refuse => intro st k h; exact h.elim

theorem run_sound {w0 : World} {WS0 : Nat → Nat → Prop} (cd : Code) (st : St) (k : Ex → St → Prop) (h : run P cd st k) (c : Cx) (a : Act) (hI : Inv w0 WS0 c a st) (Q : Exit → Act → World → Prop)
    (hk : ∀ e c' a' st', k e st' → Inv w0 WS0 c' a' st' → Q (exOf e) a' c'.x.W) : cd.wp P Q a c.x.W :=
  run_sound2 cd st k h 0 c a (Nat.zero_le _) hI Q fun e c' a' st' h1 h2 _ _ => hk e c' a' st' h1 h2

def resS (tmps : Array Value) : ResultVar → Sem Value
  | .tmp t => pure (tmps.getD t undef)
  | .cell a t => do loadVar t (← asAddr (tmps.getD a undef))
theorem results_eq (fn : Func) (tmps : Array Value) : results fn tmps = (do
  let vs ← fn.results.mapM (resS tmps)
  pure (if h : vs.size = 1 then vs[0] else .tuple vs)) := by
  unfold results
  congr 1
/-! ### Nil slices are slices with nothing in them -/
mutual
def FLe : FD → FD → Prop
  | .v u, d => d = .v u ∨ (u = .slice none 0 0 ∧ ∃ sz, d = .sl sz [])
  | .agg cs, d => ∃ ds, d = .agg ds ∧ FLeL cs ds
  | .tup cs, d => ∃ ds, d = .tup ds ∧ FLeL cs ds
  | .sl sz xs, d => ∃ ys, d = .sl sz ys ∧ FLeLL xs ys
  | .ref cs, d => d = .ref cs
  | .fn f caps, d => d = .fn f caps
def FLeLL : List (List FD) → List (List FD) → Prop
  | [], ys => ys = []
  | c :: cs, ys => ∃ e es, ys = e :: es ∧ FLeL c e ∧ FLeLL cs es
def FLeL : List FD → List FD → Prop
  | [], ds => ds = []
  | c :: cs, ds => ∃ e es, ds = e :: es ∧ FLe c e ∧ FLeL cs es
end
mutual
theorem FLe.refl : ∀ d : FD, FLe d d
  | .v u => by unfold FLe; exact .inl rfl
  | .agg cs => by unfold FLe; exact ⟨cs, rfl, FLeL.refl cs⟩
  | .tup cs => by unfold FLe; exact ⟨cs, rfl, FLeL.refl cs⟩
  | .sl _ xs => by unfold FLe; exact ⟨xs, rfl, FLeLL.refl xs⟩
  | .ref _ => by unfold FLe; rfl
  | .fn _ _ => by unfold FLe; rfl
theorem FLeLL.refl : ∀ ds : List (List FD), FLeLL ds ds
  | [] => by unfold FLeLL; rfl
  | d :: ds => by unfold FLeLL; exact ⟨d, ds, rfl, FLeL.refl d, FLeLL.refl ds⟩
theorem FLeL.refl : ∀ ds : List FD, FLeL ds ds
  | [] => by unfold FLeL; rfl
  | d :: ds => by unfold FLeL; exact ⟨d, ds, rfl, FLe.refl d, FLeL.refl ds⟩
end
theorem FLe.nil (sz : Nat) : FLe (.v (.slice none 0 0)) (.sl sz []) := by unfold FLe; exact .inr ⟨rfl, sz, rfl⟩
theorem FLeL.cons {c d : FD} {cs ds : List FD} (h : FLe c d) (k : FLeL cs ds) : FLeL (c :: cs) (d :: ds) := by unfold FLeL; exact ⟨d, ds, rfl, h, k⟩
theorem FLe.agg {cs ds : List FD} (k : FLeL cs ds) : FLe (.agg cs) (.agg ds) := by unfold FLe; exact ⟨ds, rfl, k⟩
theorem FLe.tup {cs ds : List FD} (k : FLeL cs ds) : FLe (.tup cs) (.tup ds) := by unfold FLe; exact ⟨ds, rfl, k⟩
theorem FLeL.len : ∀ {cs ds : List FD}, FLeL cs ds → ds.length = cs.length
  | [], ds, k => by unfold FLeL at k; subst k; rfl
  | c :: cs, ds, k => by
    unfold FLeL at k
    obtain ⟨e, es, rfl, -, k2⟩ := k
    simp [FLeL.len k2]
theorem FLeLL.len : ∀ {cs ds : List (List FD)}, FLeLL cs ds → ds.length = cs.length
  | [], ds, k => by unfold FLeLL at k; subst k; rfl
  | c :: cs, ds, k => by
    unfold FLeLL at k
    obtain ⟨e, es, rfl, -, k2⟩ := k
    simp [FLeLL.len k2]
theorem FLeLL.cons {c d : List FD} {cs ds : List (List FD)} (h : FLeL c d) (k : FLeLL cs ds) : FLeLL (c :: cs) (d :: ds) := by unfold FLeLL; exact ⟨d, ds, rfl, h, k⟩
theorem FLe.sl {sz : Nat} {xs ys : List (List FD)} (k : FLeLL xs ys) : FLe (.sl sz xs) (.sl sz ys) := by unfold FLe; exact ⟨ys, rfl, k⟩
mutual
theorem FLe.rep {x : X} {v : Value} : ∀ {a d : FD}, Rep x v a → FLe a d → Rep x v d
  | .v u, d, h, k => by
    unfold FLe at k
    rcases k with rfl | ⟨rfl, sz, rfl⟩
    · exact h
    · unfold Rep at h ⊢
      subst h
      exact ⟨none, 0, rfl, ⟨Nat.le_refl _, Nat.zero_le _⟩, fun _ => rfl, fun hh => absurd rfl hh⟩
  | .agg cs, d, h, k => by
    unfold FLe at k
    obtain ⟨ds, rfl, k⟩ := k
    unfold Rep at h ⊢
    obtain ⟨vs, e, h⟩ := h
    exact ⟨vs, e, FLeL.repC h k⟩
  | .tup cs, d, h, k => by
    unfold FLe at k
    obtain ⟨ds, rfl, k⟩ := k
    unfold Rep at h ⊢
    obtain ⟨vs, e, h⟩ := h
    exact ⟨vs, e, FLeL.repL h k⟩
  | .sl sz xs, d, h, k => by
    unfold FLe at k
    obtain ⟨ys, rfl, k⟩ := k
    unfold Rep at h ⊢
    obtain ⟨a, cap, e, hl, hn, hr⟩ := h
    have hlen := FLeLL.len k
    refine ⟨a, cap, by rw [hlen]; exact e, by rw [hlen]; exact hl, hn, fun hne => ?_⟩
    have hx : xs ≠ [] := fun e => by subst e; unfold FLeLL at k; exact hne k
    obtain ⟨b, o, e2, hr⟩ := hr hx
    exact ⟨b, o, e2, FLeLL.repR hr k⟩
  | .ref _, d, h, k => by unfold FLe at k; subst k; exact h
  | .fn _ _, d, h, k => by unfold FLe at k; subst k; exact h
termination_by structural a => a
theorem FLeLL.repR {x : X} {b sz : Nat} : ∀ {cs ds : List (List FD)} {o : Nat}, RepR x b o sz cs → FLeLL cs ds → RepR x b o sz ds
  | [], ds, o, h, k => by unfold FLeLL at k; subst k; exact h
  | c :: cs, ds, o, h, k => by
    unfold FLeLL at k
    obtain ⟨e, es, rfl, k1, k2⟩ := k
    unfold RepR at h ⊢
    exact ⟨by rw [FLeL.len k1]; exact h.1, FLeL.repA h.2.1 k1, FLeLL.repR h.2.2 k2⟩
termination_by structural cs => cs
theorem FLeL.repA {x : X} {b : Nat} : ∀ {cs ds : List FD} {o : Nat}, RepA x b o cs → FLeL cs ds → RepA x b o ds
  | [], ds, o, h, k => by unfold FLeL at k; subst k; exact h
  | c :: cs, ds, o, h, k => by
    unfold FLeL at k
    obtain ⟨e, es, rfl, k1, k2⟩ := k
    unfold RepA at h ⊢
    obtain ⟨⟨u, h1, h2, h3, h4⟩, h5⟩ := h
    exact ⟨⟨u, h1, h2, h3, FLe.rep h4 k1⟩, FLeL.repA h5 k2⟩
termination_by structural cs => cs
theorem FLeL.repC {x : X} : ∀ {cs ds : List FD} {vs : List Value}, RepC x vs cs → FLeL cs ds → RepC x vs ds
  | [], ds, vs, h, k => by unfold FLeL at k; subst k; exact h
  | c :: cs, ds, vs, h, k => by
    unfold FLeL at k
    obtain ⟨e, es, rfl, k1, k2⟩ := k
    unfold RepC at h ⊢
    obtain ⟨u, us, e, h0, h1, h2⟩ := h
    exact ⟨u, us, e, h0, FLe.rep h1 k1, FLeL.repC h2 k2⟩
termination_by structural cs => cs
theorem FLeL.repL {x : X} : ∀ {cs ds : List FD} {vs : List Value}, RepL x vs cs → FLeL cs ds → RepL x vs ds
  | [], ds, vs, h, k => by unfold FLeL at k; subst k; exact h
  | c :: cs, ds, vs, h, k => by
    unfold FLeL at k
    obtain ⟨e, es, rfl, k1, k2⟩ := k
    unfold RepL at h ⊢
    obtain ⟨u, us, e, h1, h2⟩ := h
    exact ⟨u, us, e, FLe.rep h1 k1, FLeL.repL h2 k2⟩
termination_by structural cs => cs
end
theorem Pure.of_le {f : FuncId} {as ds : List FD} {d : FD} (h : Pure P f ds d) (k : FLeL as ds) : Pure P f as d :=
  ⟨h.1, fun x vs hw hr => h.2 x vs hw (FLeL.repL hr k)⟩
theorem Pure.le {f : FuncId} {ds : List FD} {a d : FD} (h : Pure P f ds a) (k : FLe a d) : Pure P f ds d :=
  ⟨h.1, fun x vs hw hr => (h.2 x vs hw hr).mono fun _ _ ⟨v, e, h1, h2⟩ => ⟨v, e, FLe.rep h1 k, h2⟩⟩
/-- A FUNCTION'S TEXT, RUN OVER DATA, IS ITS CONTRACT. -/
theorem Pure.of_sound {f : FuncId} {fn : Func} {cd : Code} {ds : List FD} {d : FD} {n : Nat} {rs : List ResultVar} {lit : Bool} (hf : P.funcs[f]? = some fn) (hb : fn.body = some cd) (hname : (fn.name == "runtime.NumGoroutine") = false) (hnt : fn.ntmps = n) (hrs : fn.results.toList = rs) (hn : ds.length ≤ n)
    (h : ∀ (w0 : World) (WS0 : Nat → Nat → Prop) (c : Cx) (a : Act), Inv w0 WS0 c a (St.enter n ds lit) → ∀ (Q : Exit → Act → World → Prop), (∀ e c' a' st', (e.fin = true ∧ ∃ d', resultD P rs st' = some d' ∧ FLe d' d) → Inv w0 WS0 c' a' st' → Q (exOf e) a' c'.x.W) → cd.wp P Q a c.x.W) : Pure P f ds d := by
  subst hnt hrs
  refine ⟨goes_of hf hname hb, fun x vs hws hr => ?_⟩
  have hl := repL_len hr
  refine calls_of_wp hf hb ?_
  have hF : InvF ⟨fun _ _ => none, x⟩ { tmps := vs.toArray ++ Array.replicate (fn.ntmps - vs.toArray.size) undef, defers := [] } (St.enter fn.ntmps ds lit) := by
    refine ⟨by simp [St.enter]; omega, rfl, fun t => ?_⟩
    simp only [St.enter, entF]
    split
    · rename_i d' hd'
      have ht : t < ds.length := (List.getElem?_eq_some_iff.1 hd').1
      obtain ⟨u, hu, hru⟩ := repL_get hr hd'
      have e : (vs.toArray ++ Array.replicate (fn.ntmps - vs.toArray.size) undef).getD t undef = u := by
        rw [Array.getD_eq_getD_getElem?, Array.getElem?_append_left (by simp; omega)]
        simp [hu]
      rw [e]
      unfold RepD
      exact hru
    · rename_i hd'
      have ht : ds.length ≤ t := List.getElem?_eq_none_iff.1 hd'
      have e : (vs.toArray ++ Array.replicate (fn.ntmps - vs.toArray.size) undef).getD t undef = undef := by
        rw [Array.getD_eq_getD_getElem?, Array.getElem?_append_right (by simp; omega)]
        simp only [Array.getElem?_replicate]
        split <;> rfl
      rw [e]
      unfold RepD Rep
      rfl
  have hI : Inv x.W x.WS ⟨fun _ _ => none, x⟩ { tmps := vs.toArray ++ Array.replicate (fn.ntmps - vs.toArray.size) undef, defers := [] } (St.enter fn.ntmps ds lit) :=
    ⟨hF, ⟨fun id m hm => by simp [St.enter, noM] at hm, fun id id' m m' b hm => by simp [St.enter, noM] at hm, Chg.refl _ _, fun b o h => h, hws, hws, fun g e ver sz xs hm => by simp [St.enter, noM] at hm⟩, fun id _ => ⟨rfl, fun v => rfl⟩⟩
  refine h x.W x.WS ⟨fun _ _ => none, x⟩ _ hI _ ?_
  rintro e c a st ⟨hfin, d', hres, hle⟩ hI'
  have main : ∃ v, (results fn a.tmps).run P c.x.W = .ok v c.x.W ∧ Rep ⟨x.WS, c.x.W⟩ v d := by
    suffices main : ∃ v, (results fn a.tmps).run P c.x.W = .ok v c.x.W ∧ Rep ⟨x.WS, c.x.W⟩ v d' by
      obtain ⟨v, h1, h2⟩ := main
      exact ⟨v, h1, FLe.rep h2 hle⟩
    clear hle
    unfold resultD at hres
    simp only [Option.map_eq_some_iff] at hres
    obtain ⟨ds', hds, hd⟩ := hres
    have hsub : Sub (c.hold x.W) ⟨x.WS, c.x.W⟩ := fun b o u hc hn => ⟨hc, fun hh => hn ⟨hI'.M.ws0 b o hh, hI'.M.ws1 b o hh⟩⟩
    have one : ∀ r y, resD P st.mem st.fr r = some y → ∃ u, (resS a.tmps r).run P c.x.W = .ok u c.x.W ∧ Rep (c.hold x.W) u y := by
      intro r y hr
      cases r with
      | tmp t => exact ⟨_, rfl, frz_rep hI'.M 4 _ _ _ hr (hI'.F.fr t)⟩
      | cell ad t =>
        simp only [resD, Option.bind_eq_some_iff] at hr
        obtain ⟨ti, ht, dd, hdd, hr⟩ := hr
        obtain ⟨b, o, u, e1, hrun, hv⟩ := loadD_rep hI'.M ht (hI'.F.fr ad) hdd
        refine ⟨u, ?_, frz_rep hI'.M 4 _ _ _ hr hv⟩
        simp only [resS, Sem.run_bind, e1, asAddr, Sem.run_pure, Result.andThen_ok, hrun]
    have all : ∀ (rs : List ResultVar) (ys : List FD), omap (resD P st.mem st.fr) rs = some ys → ∃ us : List Value, (rs.mapM (resS a.tmps)).run P c.x.W = .ok us c.x.W ∧ RepL (c.hold x.W) us ys := by
      intro rs
      induction rs with
      | nil => intro ys h; rw [omap_nil h]; exact ⟨[], by simp, by simp [RepL]⟩
      | cons r rs ih =>
        intro ys h
        obtain ⟨y, r', h1, h2, rfl⟩ := omap_cons h
        obtain ⟨u, k1, k2⟩ := one r y h1
        obtain ⟨us, k3, k4⟩ := ih r' h2
        refine ⟨u :: us, ?_, by unfold RepL; exact ⟨u, us, rfl, k2, k4⟩⟩
        rw [List.mapM_cons]
        simp only [Sem.run_bind, k1, Result.andThen_ok, k3]
        rfl
    obtain ⟨us, k1, k2⟩ := all _ _ hds
    refine ⟨if h : us.toArray.size = 1 then us.toArray[0] else .tuple us.toArray, ?_, ?_⟩
    · rw [results_eq, Array.mapM_eq_mapM_toList]
      simp only [map_eq_pure_bind, Sem.run_bind, k1, Result.andThen_ok, Sem.run_pure]
    · have hlen := repL_len k2
      refine Rep.mono hsub ?_
      match us, ds', hlen, k2, hd with
      | [], [], _, k2, hd =>
        simp only at hd
        subst hd
        simp only [List.size_toArray, List.length_nil]
        unfold Rep
        exact ⟨[], rfl, k2⟩
      | [u], [y], _, k2, hd =>
        simp only at hd
        subst hd
        unfold RepL at k2
        obtain ⟨u', us', e1, h1, -⟩ := k2
        cases e1
        simpa using h1
      | u :: u2 :: us, y :: y2 :: ys, _, k2, hd =>
        simp only at hd
        subst hd
        rw [dif_neg (by simp)]
        unfold Rep
        exact ⟨_, rfl, k2⟩
  obtain ⟨v, hrun, hrep⟩ := main
  cases e with
  | normal => exact ⟨hI'.F.defers, v, hrun, v, rfl, hrep, hI'.M.chg⟩
  | ret => exact ⟨hI'.F.defers, v, hrun, v, rfl, hrep, hI'.M.chg⟩
  | exit id => simp [Ex.fin] at hfin
theorem Pure.of_run' {f : FuncId} {fn : Func} {cd : Code} {ds : List FD} {d : FD} {n : Nat} {rs : List ResultVar} {lit : Bool} (hf : P.funcs[f]? = some fn) (hb : fn.body = some cd) (hname : (fn.name == "runtime.NumGoroutine") = false) (hnt : fn.ntmps = n) (hrs : fn.results.toList = rs) (hn : ds.length ≤ n)
    (h : run P cd (St.enter n ds lit) fun e s => e.fin = true ∧ ∃ d', resultD P rs s = some d' ∧ FLe d' d) : Pure P f ds d :=
  Pure.of_sound (lit := lit) hf hb hname hnt hrs hn fun _ _ c a hI Q hk => run_sound cd _ _ h c a hI Q hk
theorem PureRow.of_run {f : FuncId} {fn : Func} {cd : Code} {ds : List FD} {e sz : Nat} {xs : List (List FD)} {n : Nat} {r : Tmp} {lit : Bool} (hf : P.funcs[f]? = some fn) (hb : fn.body = some cd) (hname : (fn.name == "runtime.NumGoroutine") = false) (hnt : fn.ntmps = n) (hrs : fn.results = #[.tmp r]) (hn : ds.length ≤ n)
    (hx : (0 < sz ∧ ∀ ds ∈ xs, ds.length = sz) ∧ xs.flatten.all isV = true)
    (h : run P cd (St.enter n ds lit) fun en s => en.fin = true ∧ ∃ g ver, s.fr r = .own g ver ∧ s.mem g = some (.row e ver sz xs)) : PureRow P f ds e sz xs := by
  subst hnt
  refine ⟨⟨goes_of hf hname hb, hx.1.1, hx.1.2, hx.2⟩, fun x vs hws hr => ?_⟩
  have hl := repL_len hr
  refine calls_of_wp hf hb ?_
  have hF : InvF ⟨fun _ _ => none, x⟩ { tmps := vs.toArray ++ Array.replicate (fn.ntmps - vs.toArray.size) undef, defers := [] } (St.enter fn.ntmps ds lit) := by
    refine ⟨by simp [St.enter]; omega, rfl, fun t => ?_⟩
    simp only [St.enter, entF]
    split
    · rename_i d' hd'
      have ht : t < ds.length := (List.getElem?_eq_some_iff.1 hd').1
      obtain ⟨u, hu, hru⟩ := repL_get hr hd'
      have e : (vs.toArray ++ Array.replicate (fn.ntmps - vs.toArray.size) undef).getD t undef = u := by
        rw [Array.getD_eq_getD_getElem?, Array.getElem?_append_left (by simp; omega)]
        simp [hu]
      rw [e]
      unfold RepD
      exact hru
    · rename_i hd'
      have ht : ds.length ≤ t := List.getElem?_eq_none_iff.1 hd'
      have e : (vs.toArray ++ Array.replicate (fn.ntmps - vs.toArray.size) undef).getD t undef = undef := by
        rw [Array.getD_eq_getD_getElem?, Array.getElem?_append_right (by simp; omega)]
        simp only [Array.getElem?_replicate]
        split <;> rfl
      rw [e]
      unfold RepD Rep
      rfl
  have hI : Inv x.W x.WS ⟨fun _ _ => none, x⟩ { tmps := vs.toArray ++ Array.replicate (fn.ntmps - vs.toArray.size) undef, defers := [] } (St.enter fn.ntmps ds lit) :=
    ⟨hF, ⟨fun id m hm => by simp [St.enter, noM] at hm, fun id id' m m' b hm => by simp [St.enter, noM] at hm, Chg.refl _ _, fun b o h => h, hws, hws, fun g e ver sz xs hm => by simp [St.enter, noM] at hm⟩, fun id _ => ⟨rfl, fun v => rfl⟩⟩
  refine run_sound cd _ _ h ⟨fun _ _ => none, x⟩ _ hI _ ?_
  rintro en c a st ⟨hfin, g, ver, hg, hm⟩ hI'
  obtain ⟨v, cells, h1, h2, h3, -⟩ := hI'.M.mem _ _ hm
  have hv := hI'.F.fr r
  rw [hg] at hv
  unfold RepD at hv
  have hv1 := hv.1
  rw [h1] at hv1
  cases hv1
  have hrun : (results fn a.tmps).run P c.x.W = .ok (a.tmps.getD r undef) c.x.W := by simp [results, hrs]
  have fin := show ∃ v cells, Ending.returned (a.tmps.getD r undef) = .returned v ∧ c.x.W.ownsRow x.W.heap.size e sz v xs.length cells ∧ RepC ⟨x.WS, c.x.W⟩ cells xs.flatten ∧ Chg No x.W c.x.W from ⟨_, cells, rfl, h2, repC_isV _ _ hx.2 h3, hI'.M.chg⟩
  cases en with
  | normal => exact ⟨hI'.F.defers, _, hrun, fin⟩
  | ret => exact ⟨hI'.F.defers, _, hrun, fin⟩
  | exit id => simp [Ex.fin] at hfin
end Go.Dn
end
section
namespace Go.Dn
open Go.RowKit Go.Dk

variable {P : Program}

theorem ob_mono {α : Type} {x : Option α} {K K' : α → Prop} (h : ob x K) (hk : ∀ a, K a → K' a) : ob x K' := let ⟨a, e, k⟩ := h; ⟨a, e, hk a k⟩
theorem callW_mono {id : Nat} {st : St} {f : FuncId} {ds : List D} {K K' : D → St → Prop} (h : callW P id st f ds K) (hk : ∀ d s, K d s → K' d s) : callW P id st f ds K' := by
  rcases h with ⟨x, e, sz, xs, hd, hp, he, hn, h⟩ | ⟨fs, rs, hd, hp, h⟩ | ⟨fs, hfs, ⟨d, hp, hs, h⟩ | ⟨e, sz, xs, hp, hs, h⟩⟩
  · exact .inl ⟨x, e, sz, xs, hd, hp, he, hn, hk _ _ h⟩
  · exact .inr (.inl ⟨fs, rs, hd, hp, hk _ _ h⟩)
  · exact .inr (.inr ⟨fs, hfs, .inl ⟨d, hp, hs, hk _ _ h⟩⟩)
  · exact .inr (.inr ⟨fs, hfs, .inr ⟨e, sz, xs, hp, hs, hk _ _ h⟩⟩)
theorem ifF_mono {p : Prop} [Decidable p] {a b : Prop} (h : if p then a else False) (hk : a → b) : if p then b else False := by
  split at h
  · rename_i hp; rw [if_pos hp]; exact hk h
  · exact h.elim
theorem gif_mono {b : Bool} {x y x' y' : Prop} (h : gif b x y) (h1 : x → x') (h2 : y → y') : gif b x' y' := by
  cases b
  · exact h2 h
  · exact h1 h
theorem appendW_mono {id : Nat} {st : St} {e esz bytes : Nat} {s x : D} {K K' : D → St → Prop} (h : appendW id st e esz bytes s x K) (hk : ∀ d s, K d s → K' d s) : appendW id st e esz bytes s x K' := by
  refine ob_mono h fun ys h => ?_
  cases s with
  | own g ver =>
    simp only at h ⊢
    cases hm : st.mem g with
    | none => rw [hm] at h; exact h.elim
    | some m =>
      cases m with
      | blk cs => rw [hm] at h; exact h.elim
      | rows rs => rw [hm] at h; exact h.elim
      | row e' v sz xs =>
        rw [hm] at h
        simp only at h ⊢
        exact ifF_mono h (hk _ _)
  | f y =>
    cases y with
    | v u =>
      cases u with
      | slice a n c =>
        cases a with
        | none =>
          cases n with
          | zero => cases c with
            | zero => exact ifF_mono h (hk _ _)
            | succ c => exact h.elim
          | succ n => exact h.elim
        | some a => exact h.elim
      | _ => exact h.elim
    | _ => exact h.elim
  | _ => exact h.elim
theorem opW_mono {id : Nat} {o : Oper} {st : St} {K K' : D → St → Prop} (h : opW P id o st K) (hk : ∀ d s, K d s → K' d s) : opW P id o st K' := by
  obtain ⟨dst, op, type, pos, after, guard⟩ := o
  cases op with
  | move x => exact hk _ _ h
  | assign x => exact hk _ _ h
  | pick c x y => exact ob_mono h fun _ h => hk _ _ h
  | alloc t => exact ob_mono h fun _ h => hk _ _ h
  | box t x => exact ob_mono h fun _ h => ob_mono h fun _ h => gif_mono h (fun h => ob_mono h fun _ h => hk _ _ h) (hk _ _)
  | build t parts => exact ob_mono h fun _ h => ob_mono h fun _ h => ifF_mono h (hk _ _)
  | buildSlice t len parts =>
    refine ob_mono h fun ti h => ?_
    cases hki : ti.ki <;> rw [hki] at h <;> first | exact h.elim | exact ifF_mono h fun h => ob_mono h fun _ h => gif_mono h (hk _ _) (hk _ _)
  | load t x => exact ob_mono h fun _ h => ob_mono h fun _ h => hk _ _ h
  | store t x y => exact ob_mono h fun _ h => ob_mono h fun _ h => ifF_mono h fun h => ob_mono h fun _ h => hk _ _ h
  | binOp op t x y yt =>
    cases op <;> first | exact h.elim | exact ob_mono h fun _ h => ob_mono h fun _ h => hk _ _ h
  | unOp op t x => exact ob_mono h fun _ h => hk _ _ h
  | convert s t x => exact ob_mono h fun _ h => ob_mono h fun _ h => ob_mono h fun _ h => hk _ _ h
  | nilCheck x => exact ob_mono h fun _ h => hk _ _ h
  | fieldAddr t x i =>
    refine ob_mono h fun ti h => ?_
    cases hki : ti.ki <;> rw [hki] at h <;> first | exact h.elim | (refine ob_mono h fun f h => ?_; (try simp only at h ⊢); split at h; exact h.elim; rename_i hz; (try rw [if_neg hz]); exact ob_mono h fun _ h => hk _ _ h)
  | field t x i =>
    refine ob_mono h fun ti h => ?_
    cases hki : ti.ki <;> rw [hki] at h <;> first | exact h.elim | (refine ob_mono h fun f h => ?_; (try simp only at h ⊢); split at h; exact h.elim; rename_i hz; (try rw [if_neg hz]); exact ob_mono h fun _ h => ob_mono h fun _ h => hk _ _ h)
  | indexAddr t x ix =>
    refine ob_mono h fun ti h => ob_mono h fun k h => ?_
    cases hki : ti.ki <;> rw [hki] at h <;> first
      | exact h.elim
      | exact ifF_mono h fun h => ob_mono h fun _ h => hk _ _ h
      | (refine ob_mono h fun xs h => ifF_mono h fun h => ?_
         cases hx : st.ev x <;> rw [hx] at h <;> exact hk _ _ h)
  | index t x ix =>
    refine ob_mono h fun ti h => ob_mono h fun k h => ?_
    cases hki : ti.ki <;> rw [hki] at h <;> first
      | exact h.elim
      | exact ifF_mono h fun h => ob_mono h fun _ h => ob_mono h fun _ h => hk _ _ h
      | ((try simp only at h ⊢)
         split at h
         · rename_i s hx
           (try rw [hx])
           (try simp only)
           split at h
           · rename_i hb; (try rw [dif_pos hb]); exact hk _ _ h
           · exact h.elim
         · exact h.elim)
  | extract x i =>
    simp only [opW] at h ⊢
    split at h
    · rename_i cs hx
      (try rw [hx])
      exact ob_mono h fun _ h => hk _ _ h
    · rename_i cs hx
      (try rw [hx])
      exact ob_mono h fun _ h => hk _ _ h
    · exact h.elim
  | makeFunc fn first caps =>
    cases fn with
    | func f => exact ifF_mono h (hk _ _)
    | _ => exact h.elim
  | makeSlice t l c =>
    refine ob_mono h fun ti h => ob_mono h fun n h => ob_mono h fun m h => ?_
    cases hki : ti.ki <;> rw [hki] at h <;> first | exact h.elim | exact ifF_mono h (hk _ _)
  | slice t x lo hi mx =>
    refine ob_mono h fun ti h => ?_
    (try simp only at h ⊢)
    split at h
    · exact h.elim
    · rename_i hmx
      (try rw [if_neg hmx])
      cases hki : ti.ki <;> rw [hki] at h <;> first
        | exact h.elim
        | ((try simp only at h ⊢)
           split at h
           · rename_i hx
             (try rw [hx])
             first
               | exact ifF_mono h fun h => ob_mono h fun _ h => hk _ _ h
               | exact ob_mono h fun _ h => hk _ _ h
           · exact h.elim)
  | call c =>
    obtain ⟨callee, args, argTypes⟩ := c
    simp only [opW] at h ⊢
    split at h
    · rename_i x t ha ht0
      (try rw [ha, ht0])
      refine ob_mono h fun ti h => ?_
      cases hki : ti.ki <;> rw [hki] at h <;> first
        | exact h.elim
        | exact ob_mono h fun _ h => hk _ _ h
        | ((try simp only at h ⊢)
           split at h
           · rename_i s hx; (try rw [hx]); exact hk _ _ h
           · exact h.elim)
    · rename_i s x t t' ha ht0
      (try rw [ha, ht0])
      refine ifF_mono h fun h => ob_mono h fun ti h => ?_
      cases hki : ti.ki <;> rw [hki] at h <;> first | exact h.elim | exact ifF_mono h fun h => appendW_mono h hk
    · rename_i l1 l2 f
      split at h
      · rename_i g caps hx; (try rw [hx]); exact callW_mono h hk
      · rename_i g caps hx; (try rw [hx]); exact callW_mono h hk
      · exact h.elim
    · rename_i x y ha
      (try rw [ha])
      (try simp only)
      split at h
      · rename_i k n k' m hx hy; (try rw [hx, hy]); exact hk _ _ h
      · exact h.elim
    · rename_i x y ha
      (try rw [ha])
      (try simp only)
      split at h
      · rename_i k n k' m hx hy; (try rw [hx, hy]); exact hk _ _ h
      · exact h.elim
    · exact h.elim
  | _ => exact h.elim
theorem opsL_mono {ops : Array Oper} {base : Nat} {K K' : St → Prop} (hk : ∀ s, K s → K' s) : ∀ (l : List Oper) (i : Nat) (st : St), opsL P ops base i l st K → opsL P ops base i l st K'
  | [], _, st, h => hk st h
  | o :: r, i, st, h => ob_mono h fun _ h => gif_mono h (fun h => opW_mono h fun _ _ h => opsL_mono hk r (i + 1) _ h) (fun h => opsL_mono hk r (i + 1) _ h)
theorem opsD_mono {l : List Oper} {A : List (List Nat)} {base : Nat} {K K' : St → Prop} (hk : ∀ s, K s → K' s) : ∀ (r : List Oper) (i : Nat) (st : St), opsD P l A base i r st K → opsD P l A base i r st K'
  | [], _, st, h => hk st h
  | o :: r, i, st, h => ob_mono h fun _ h => gif_mono h (fun h => opW_mono h fun _ _ h => gif_mono h (fun ⟨x, m, h1, h2, h3⟩ => ⟨x, m, h1, h2, opsD_mono hk r (i + 1) _ h3⟩) (fun ⟨h1, h2⟩ => ⟨h1, opsD_mono hk r (i + 1) _ h2⟩)) (fun h => opsD_mono hk r (i + 1) _ h)
theorem iterP_mono {F : St → (Ex → St → Prop) → Prop} {b : Nat} (hF : ∀ st (k k' : Ex → St → Prop), (∀ e s, k e s → k' e s) → F st k → F st k') {k k' : Ex → St → Prop} (hk : ∀ e s, k e s → k' e s) : ∀ (n m : Nat) (st : St), n ≤ m → iterP F b n st k → iterP F b m st k'
  | 0, _, _, _, h => h.elim
  | n + 1, 0, _, hle, _ => by omega
  | n + 1, m + 1, st, hle, h => by
    unfold iterP at h ⊢
    refine hF _ _ _ (fun e s h => ?_) h
    cases e with
    | normal => exact iterP_mono hF hk n m s (by omega) h
    | exit id => exact hk _ _ h
    | ret => exact hk _ _ h
theorem run_mono : ∀ (c : Code) (st : St) (k k' : Ex → St → Prop), (∀ e s, k e s → k' e s) → run P c st k → run P c st k' := by
  intro c
  induction c with
  | skip => exact fun st k k' hk h => hk _ _ h
  | region id ops draw =>
    intro st k k' hk h
    unfold run regionW at h ⊢
    split at h
    · rename_i hd
      rw [if_pos hd]
      obtain ⟨A, h1, h2, h3⟩ := h
      exact ⟨A, h1, h2, opsD_mono (fun s h => hk _ _ h) _ _ _ h3⟩
    · rename_i hd
      rw [if_neg hd]
      exact opsL_mono (fun s h => hk _ _ h) _ _ _ h
  | seq x y ihx ihy =>
    intro st k k' hk h
    unfold run at h ⊢
    refine ihx _ _ _ (fun e s h => ?_) h
    cases e with
    | normal => exact ihy _ _ _ hk h
    | exit id => exact hk _ _ h
    | ret => exact hk _ _ h
  | cond c x y ihx ihy =>
    intro st k k' hk h
    unfold run at h ⊢
    exact ob_mono h fun _ h => gif_mono h (ihx _ _ _ hk) (ihy _ _ _ hk)
  | block id x ih =>
    intro st k k' hk h
    unfold run at h ⊢
    refine ih _ _ _ (fun e s h => ?_) h
    cases e with
    | normal => exact hk _ _ h
    | exit j =>
      simp only at h ⊢
      split at h
      · rename_i hj; rw [if_pos hj]; exact hk _ _ h
      · rename_i hj; rw [if_neg hj]; exact hk _ _ h
    | ret => exact hk _ _ h
  | loop x ih =>
    intro st k k' hk h
    unfold run at h ⊢
    obtain ⟨as, n, h⟩ := h
    exact ⟨as, n, iterP_mono (fun st k k' => ih st k k') hk n n _ (Nat.le_refl _) h⟩
  | exit id => exact fun st k k' hk h => hk _ _ h
  | ret => exact fun st k k' hk h => hk _ _ h
  | rangeFunc => exact fun _ _ _ _ h => h.elim
  | scope => exact fun _ _ _ _ h => h.elim
  | label => exact fun _ _ _ _ h => h.elim
  | goto => exact fun _ _ _ _ h => h.elim
  | refuse => exact fun _ _ _ _ h => h.elim

/-- A LOOP: a relation that holds at each round's head (all that was made behind b let go), and a measure. -/
theorem run_loop_inv {c : Code} {st : St} {k : Ex → St → Prop} (as : List Ad) (b : Nat) (hb : (St.adopts as st).next = b) (I : Nat → St → Prop) (n0 : Nat) (h0 : I n0 ((St.adopts as st).trim b))
    (step : ∀ n s, s.next = b → I n s → run P c s fun e s' => match e with
      | .normal => ∃ m, m < n ∧ I m (s'.trim b)
      | e => k e s') : run P (.loop c) st k := by
  subst hb
  have key : ∀ n (s : St), I n (s.trim (St.adopts as st).next) → iterP (run P c) (St.adopts as st).next (n + 1) s k := by
    intro n
    induction n using Nat.strongRecOn with
    | _ n ih =>
      intro s hI
      refine run_mono c _ _ _ (fun e s' h => ?_) (step n _ rfl hI)
      cases e with
      | normal =>
        obtain ⟨m, hm, h⟩ := h
        exact iterP_mono (fun st k k' => run_mono c st k k') (fun _ _ h => h) (m + 1) n s' hm (ih m hm s' h)
      | exit id => exact h
      | ret => exact h
  exact ⟨as, n0 + 1, key n0 _ h0⟩
theorem Pure.of_run {f : FuncId} {fn : Func} {cd : Code} {ds : List FD} {d : FD} {n : Nat} {rs : List ResultVar} {lit : Bool} (hf : P.funcs[f]? = some fn) (hb : fn.body = some cd) (hname : (fn.name == "runtime.NumGoroutine") = false) (hnt : fn.ntmps = n) (hrs : fn.results.toList = rs) (hn : ds.length ≤ n)
    (h : run P cd (St.enter n ds lit) fun e s => e.fin = true ∧ resultD P rs s = some d) : Pure P f ds d :=
  Pure.of_run' (lit := lit) hf hb hname hnt hrs hn (run_mono cd _ _ _ (fun _ _ ⟨h1, h2⟩ => ⟨h1, d, h2, FLe.refl d⟩) h)
end Go.Dn
end
section
namespace Go.Dn
open Go.RowKit Go.Dk

/-- a lock: its type names what it locks -/
structure Lk {α : Sort _} (a : α) : Type where
def obL {α : Type} (x : Option α) (K : α → Prop) (_ : Lk K) : Prop := ob x K
def gifL (b : Bool) (x y : Prop) (_ : Lk x) (_ : Lk y) : Prop := gif b x y
def andL (p K : Prop) (_ : Lk K) : Prop := p ∧ K
def opWL (P : Program) (id : Nat) (o : Oper) (st : St) (K : D → St → Prop) (_ : Lk K) : Prop := opW P id o st K
def opsLL (P : Program) (ops : Array Oper) (base i : Nat) (l : List Oper) (st : St) (K : St → Prop) (_ : Lk K) : Prop := opsL P ops base i l st K
def callWL (P : Program) (id : Nat) (st : St) (f : FuncId) (ds : List D) (K : D → St → Prop) (_ : Lk K) : Prop := callW P id st f ds K
def runL (P : Program) (c : Code) (st : St) (k : Ex → St → Prop) (_ : Lk k) : Prop := run P c st k

theorem ifF_and {p : Prop} [Decidable p] {K : Prop} : (if p then K else False) = (p ∧ K) := by
  by_cases h : p <;> simp [h]
theorem obL_some {α : Type} (a : α) (K : α → Prop) (u : Lk K) : obL (some a) K u = K a := ob_some a K
theorem gifL_true (x y : Prop) (u : Lk x) (v : Lk y) : gifL true x y u v = x := rfl
theorem gifL_false (x y : Prop) (u : Lk x) (v : Lk y) : gifL false x y u v = y := rfl
theorem gifL_not (b : Bool) (x y : Prop) (u : Lk x) (v : Lk y) : gifL (!b) x y u v = gifL b y x v u := by cases b <;> rfl
theorem gif_split {b : Bool} {x y : Prop} {u : Lk x} {v : Lk y} (h1 : b = true → x) (h2 : b = false → y) : gifL b x y u v := by
  cases b
  · exact h2 rfl
  · exact h1 rfl
theorem gif_dec {p : Prop} [Decidable p] {x y : Prop} {u : Lk x} {v : Lk y} (h1 : p → x) (h2 : ¬ p → y) : gifL (decide p) x y u v := gif_split (fun h => h1 (of_decide_eq_true h)) (fun h => h2 (of_decide_eq_false h))
theorem andL_true (K : Prop) (u : Lk K) : andL True K u = K := by unfold andL; simp
theorem obL_ite {α : Type} (p : Prop) [Decidable p] (a : α) (K : α → Prop) (u : Lk K) : obL (if p then some a else none) K u = andL p (K a) ⟨⟩ := by
  unfold obL ob andL
  by_cases h : p <;> simp [h]
theorem andL_mk {p K : Prop} {u : Lk K} (hp : p) (hk : K) : andL p K u := ⟨hp, hk⟩
theorem callW_f {P : Program} {id : Nat} {st : St} {f : FuncId} {fs : List FD} {d : FD} {K : D → St → Prop} {u : Lk K} (hp : Pure P f fs d) (hk : K (.f d) st) : callWL P id st f (fs.map .f) K u := by
  have h1 : ∀ fs : List FD, omap (frz st.mem 4) (fs.map .f) = some fs := fun fs => by
    induction fs with
    | nil => rfl
    | cons x l ih => simp only [List.map_cons, omap, ih]; rfl
  have h2 : ∀ fs : List FD, (fs.map D.f).all isF = true := fun fs => by
    induction fs with
    | nil => rfl
    | cons x l ih => simp [ih, isF]
  exact .inr (.inr ⟨fs, h1 fs, .inl ⟨d, hp, by rw [h2]; rfl, hk⟩⟩)
theorem callW_row {P : Program} {id : Nat} {st : St} {f : FuncId} {fs : List FD} {e sz : Nat} {xs : List (List FD)} {K : D → St → Prop} {u : Lk K} (hp : PureRow P f fs e sz xs) (hk : K (.own id 0) (st.new id (.row e 0 sz xs))) : callWL P id st f (fs.map .f) K u := by
  have h1 : ∀ fs : List FD, omap (frz st.mem 4) (fs.map .f) = some fs := fun fs => by
    induction fs with
    | nil => rfl
    | cons x l ih => simp only [List.map_cons, omap, ih]; rfl
  have h2 : ∀ fs : List FD, (fs.map D.f).all isF = true := fun fs => by
    induction fs with
    | nil => rfl
    | cons x l ih => simp [ih, isF]
  exact .inr (.inr ⟨fs, h1 fs, .inr ⟨e, sz, xs, hp, h2 fs, hk⟩⟩)
theorem callW_z {P : Program} {id : Nat} {st : St} {f : FuncId} {ds : List D} {fs : List FD} {d : FD} {K : D → St → Prop} {u : Lk K} (hf : omap (frz st.mem 4) ds = some fs) (hp : Pure P f fs d) (hs : scalar d = true) (hk : K (.f d) st) : callWL P id st f ds K u :=
  .inr (.inr ⟨fs, hf, .inl ⟨d, hp, by rw [hs]; simp, hk⟩⟩)
theorem callW_copy {P : Program} {id : Nat} {st : St} {f : FuncId} {x : D} {e sz : Nat} {xs : List (List FD)} {K : D → St → Prop} {u : Lk K} (hp : CopyRow P f e sz) (he : elems st.mem sz x = some xs) (hn : xs.length ≤ 1048576) (hk : K (.own id 0) (st.new id (.row e 0 sz xs))) : callWL P id st f [x] K u :=
  .inl ⟨x, e, sz, xs, rfl, hp, he, hn, hk⟩
theorem callW_rows {P : Program} {id : Nat} {st : St} {f : FuncId} {fs : List FD} {rs : List (TypeId × Nat × List (List FD))} {K : D → St → Prop} {u : Lk K} (hp : RowsCall P f fs rs) (hk : K (.agg (ownsD id rs.length)) (st.new id (.rows rs))) : callWL P id st f (fs.map .f) K u :=
  .inr (.inl ⟨fs, rs, rfl, hp, hk⟩)

/-! ### What operations give, as one word each -/
def fieldD : Ki → Nat → Option (Nat × Nat × Bool)
  | .struct fs, i => (fs[i]?).bind fun f => if f.2.1 = 0 then none else some f
  | _, _ => none
def tupD : D → Nat → Option D
  | .f (.tup cs), i => (cs[i]?).map .f
  | .tup cs, i => cs[i]?
  | _, _ => none
def rowOr (x : D) (esz k : Nat) (cs : List FD) : D :=
  match x with
  | .own g ver => .rowp g ver esz k 0
  | _ => .f (.ref cs)
def idxA (mem : Nat → Option M) (ki : Ki) (x : D) (k : Int) : Option D :=
  match ki with
  | .slice _ esz _ _ => (elems mem esz x).bind fun xs => if 0 ≤ k ∧ k < xs.length ∧ 0 < esz then some (rowOr x esz k.toNat (xs.getD k.toNat [])) else none
  | .arr n esz _ => if 0 ≤ k ∧ k < n ∧ 0 < esz then shiftD (k.toNat * esz) x else none
  | _ => none
def byteD (s : ByteArray) (k : Int) : Option D := if h : 0 ≤ k ∧ k.toNat < s.size then some (.f (.v (.int .u8 (s[k.toNat]'h.2).toNat))) else none
def idxV (ki : Ki) (x : D) (k : Int) : Option D :=
  match ki with
  | .arr n esz ea => if 0 ≤ k ∧ k < n ∧ 0 < esz then (aggD x).bind fun cs => partD cs (k.toNat * esz) esz ea else none
  | .string => match x with
    | .f (.v (.string s)) => byteD s k
    | _ => none
  | _ => none
def mkSl (ki : Ki) (n m : Int) : Option M :=
  match ki with
  | .slice e esz bytes ez => if (n = m ∨ n = 0) ∧ 0 ≤ n ∧ n ≤ m ∧ 0 < esz ∧ ez.length = esz ∧ m.toNat * bytes ≤ 140737488355328 ∧ m.toNat ≤ 4611686018427387904 then some (.row e 0 esz (List.replicate n.toNat (ez.map .v))) else none
  | _ => none
/-- a row, let alone from now on -/
def fzD : M → D
  | .row _ _ sz xs => .f (.sl sz xs)
  | _ => .top
def bldSl (ki : Ki) (len : Nat) (parts : List (Nat × D)) : Option M :=
  match ki with
  | .slice e esz _ ez => if parts.map Prod.fst = List.range len ∧ 0 < esz ∧ len * esz ≤ 16777216 ∧ ez.length = esz then
      (omap (fun p => ((cellsD p.2).bind (omap asF)).bind fun fs => if fs.length = esz then some fs else none) parts).map (.row e 0 esz) else none
  | _ => none
def slcD (ki : Ki) (x : D) (lo hi : Option D) : Option D :=
  match ki with
  | .slice _ esz _ _ => match x with
    | .f (.sl sz xs) => if sz = esz then (boundsD xs.length lo hi).map fun b => .f (.sl sz ((xs.take b.2).drop b.1)) else none
    | _ => none
  | .string => match x with
    | .f (.v (.string s)) => (boundsD s.size lo hi).map fun b => .f (.v (.string (s.extract b.1 b.2)))
    | _ => none
  | _ => none
def lenK (mem : Nat → Option M) (ki : Ki) (x : D) : Option D :=
  match ki with
  | .slice _ _ _ _ => (lenD mem x).map intD
  | .string => match x with
    | .f (.v (.string s)) => some (intD s.size)
    | _ => none
  | _ => none
def appS (id : Nat) (mem : Nat → Option M) (e esz bytes : Nat) (s : D) (ys : List (List FD)) : Option (D × Nat × M) :=
  match s with
  | .own g ver => match mem g with
    | some (.row e' v sz xs) => if v = ver ∧ e' = e ∧ sz = esz ∧ 0 < esz ∧ (xs.length + ys.length) * bytes ≤ 140737488355328 ∧ xs.length + ys.length ≤ 4611686018427387904 then some (.own g (ver + 1), g, .row e (ver + 1) esz (xs ++ ys)) else none
    | _ => none
  | .f (.v (.slice none 0 0)) => if 0 < esz ∧ ys.length * bytes ≤ 140737488355328 ∧ ys.length ≤ 4611686018427387904 then some (.own id 0, id, .row e 0 esz ys) else none
  | _ => none
def appD (id : Nat) (mem : Nat → Option M) (ki : Ki) (s x : D) : Option (D × Nat × M) :=
  match ki with
  | .slice e esz bytes ez => if ez.length = esz then (elems mem esz x).bind fun ys => appS id mem e esz bytes s ys else none
  | _ => none
def mxD : D → D → Option D
  | .f (.v (.int k a)), .f (.v (.int _ b)) => some (.f (.v (.int k (if b > a then b else a))))
  | _, _ => none
def mnD : D → D → Option D
  | .f (.v (.int k a)), .f (.v (.int _ b)) => some (.f (.v (.int k (if b < a then b else a))))
  | _, _ => none
theorem ob_bind {α β : Type} (x : Option α) (f : α → Option β) (K : β → Prop) : ob (x.bind f) K = ob x fun a => ob (f a) K := by
  cases x <;> simp [ob]
theorem ob_map {α β : Type} (x : Option α) (f : α → β) (K : β → Prop) : ob (x.map f) K = ob x fun a => K (f a) := by
  cases x <;> simp [ob]
theorem ob_if {α : Type} (p : Prop) [Decidable p] (x : Option α) (K : α → Prop) : ob (if p then x else none) K = if p then ob x K else False := by
  by_cases h : p <;> simp [h, ob]
theorem ob_dif {α : Type} (p : Prop) [Decidable p] (x : p → Option α) (K : α → Prop) : ob (if h : p then x h else none) K = if h : p then ob (x h) K else False := by
  by_cases h : p <;> simp [h, ob]
theorem ob_no {α : Type} (K : α → Prop) : ob none K = False := by simp [ob]

section
variable {P : Program} {id : Nat} {dst : Option Tmp} {ty : TypeId} {pos : String} {af : Array Edge} {gd : Option (Nat × Bool)} {st : St} {K : D → St → Prop} {u : Lk K}
theorem opWL_move (x : Operand) : opWL P id ⟨dst, .move x, ty, pos, af, gd⟩ st K u = K (st.ev x) st := rfl
theorem opWL_assign (x : Operand) : opWL P id ⟨dst, .assign x, ty, pos, af, gd⟩ st K u = K (st.ev x) st := rfl
theorem opWL_pick (c a b : Operand) : opWL P id ⟨dst, .pick c a b, ty, pos, af, gd⟩ st K u = obL (truth (st.ev c)) (fun t => K (bif t then st.ev a else st.ev b) st) ⟨⟩ := by unfold opWL opW obL; simp only [Bool.cond_eq_ite]
theorem opWL_alloc (t : TypeId) : opWL P id ⟨dst, .alloc t, ty, pos, af, gd⟩ st K u = obL (lay P t) (fun i => K (.loc id 0) (st.new id (.blk (i.zero.map fun v => .f (.v v))))) ⟨⟩ := rfl
theorem opWL_box (t : TypeId) (x : Operand) : opWL P id ⟨dst, .box t x, ty, pos, af, gd⟩ st K u = obL (lay P t) (fun _ => obL (cellsD (st.ev x)) (fun cs => gifL st.lit (obL (omap asF cs) (fun fs => K (.f (.ref fs)) st) ⟨⟩) (K (.loc id 0) (st.new id (.blk cs))) ⟨⟩ ⟨⟩) ⟨⟩) ⟨⟩ := rfl
theorem opWL_build (t : TypeId) (parts : Array (Nat × Operand)) : opWL P id ⟨dst, .build t parts, ty, pos, af, gd⟩ st K u = obL (lay P t) (fun i => obL (fillD (placesOf i.ki) (i.zero.map fun v => .f (.v v)) (parts.toList.map fun p => (p.1, st.ev p.2))) (fun cs => andL (i.agg = true) (K (mkAgg cs) st) ⟨⟩) ⟨⟩) ⟨⟩ := by unfold opWL opW obL andL; simp only [ifF_and]
theorem opWL_load (t : TypeId) (x : Operand) : opWL P id ⟨dst, .load t x, ty, pos, af, gd⟩ st K u = obL (lay P t) (fun i => obL (loadD st.mem i.size i.agg (st.ev x)) (fun d => K d st) ⟨⟩) ⟨⟩ := rfl
theorem opWL_store (t : TypeId) (x y : Operand) : opWL P id ⟨dst, .store t x y, ty, pos, af, gd⟩ st K u = obL (lay P t) (fun i => obL (cellsD (st.ev y)) (fun cs => andL (cs.length = i.size) (obL (storeD st cs (st.ev x)) (fun st2 => K undefD st2) ⟨⟩) ⟨⟩) ⟨⟩) ⟨⟩ := by unfold opWL opW obL andL; simp only [ifF_and]
theorem opWL_binOp (op : BinOp) (t yt : TypeId) (x y : Operand) (h : (op ≠ .shl ∧ op ≠ .shr) = True) : opWL P id ⟨dst, .binOp op t x y yt, ty, pos, af, gd⟩ st K u = obL (lay P t) (fun i => obL (dbinP P t i.agg i.ki op (st.ev x) (st.ev y)) (fun d => K (.f d) st) ⟨⟩) ⟨⟩ := by cases op <;> first | rfl | (exfalso; simp at h)
theorem opWL_unOp (op : UnOp) (t : TypeId) (x : Operand) : opWL P id ⟨dst, .unOp op t x, ty, pos, af, gd⟩ st K u = obL (dun op (st.ev x)) (fun d => K (.f d) st) ⟨⟩ := rfl
theorem opWL_convert (s t : TypeId) (x : Operand) : opWL P id ⟨dst, .convert s t x, ty, pos, af, gd⟩ st K u = obL (lay P s) (fun _ => obL (lay P t) (fun i => obL (dconv i.ki (st.ev x)) (fun d => K (.f d) st) ⟨⟩) ⟨⟩) ⟨⟩ := rfl
theorem opWL_nilCheck (x : Operand) : opWL P id ⟨dst, .nilCheck x, ty, pos, af, gd⟩ st K u = obL (shiftD 0 (st.ev x)) (fun _ => K (st.ev x) st) ⟨⟩ := rfl
theorem opWL_fieldAddr (t : TypeId) (x : Operand) (i : Nat) : opWL P id ⟨dst, .fieldAddr t x i, ty, pos, af, gd⟩ st K u = obL (lay P t) (fun ti => obL (fieldD ti.ki i) (fun f => obL (shiftD f.1 (st.ev x)) (fun d => K d st) ⟨⟩) ⟨⟩) ⟨⟩ := by
  unfold opWL opW obL
  simp only
  congr 1
  funext ti
  cases ti.ki <;> simp only [fieldD, ob_no]
  simp only [ob_bind]
  congr 1
  funext f
  by_cases h : f.2.1 = 0 <;> simp [h, ob_some, ob_no]
theorem opWL_field (t : TypeId) (x : Operand) (i : Nat) : opWL P id ⟨dst, .field t x i, ty, pos, af, gd⟩ st K u = obL (lay P t) (fun ti => obL (fieldD ti.ki i) (fun f => obL (aggD (st.ev x)) (fun cs => obL (partD cs f.1 f.2.1 f.2.2) (fun d => K d st) ⟨⟩) ⟨⟩) ⟨⟩) ⟨⟩ := by
  unfold opWL opW obL
  simp only
  congr 1
  funext ti
  cases ti.ki <;> simp only [fieldD, ob_no]
  simp only [ob_bind]
  congr 1
  funext f
  by_cases h : f.2.1 = 0 <;> simp [h, ob_some, ob_no]
theorem opWL_extract (x : Operand) (i : Nat) : opWL P id ⟨dst, .extract x i, ty, pos, af, gd⟩ st K u = obL (tupD (st.ev x) i) (fun d => K d st) ⟨⟩ := by
  unfold opWL opW obL
  simp only
  generalize st.ev x = y
  unfold tupD
  split <;> split <;> simp_all [ob_no, ob_map]
theorem opWL_makeFunc (f : FuncId) (caps : Array Operand) : opWL P id ⟨dst, .makeFunc (.func f) #[] caps, ty, pos, af, gd⟩ st K u = K (mkFn f (caps.toList.map st.ev)) st := rfl
theorem opWL_indexAddr (t : TypeId) (x ix : Operand) : opWL P id ⟨dst, .indexAddr t x ix, ty, pos, af, gd⟩ st K u = obL (lay P t) (fun ti => obL (asI (st.ev ix)) (fun k => obL (idxA st.mem ti.ki (st.ev x) k) (fun d => K d st) ⟨⟩) ⟨⟩) ⟨⟩ := by
  unfold opWL opW obL
  simp only
  congr 1
  funext ti
  congr 1
  funext k
  cases ti.ki <;> simp only [idxA, ob_no, ob_bind, ob_if, ob_some]
  congr 1
  funext xs
  split
  · cases st.ev x <;> rfl
  · rfl
theorem opWL_index (t : TypeId) (x ix : Operand) : opWL P id ⟨dst, .index t x ix, ty, pos, af, gd⟩ st K u = obL (lay P t) (fun ti => obL (asI (st.ev ix)) (fun k => obL (idxV ti.ki (st.ev x) k) (fun d => K d st) ⟨⟩) ⟨⟩) ⟨⟩ := by
  unfold opWL opW obL
  simp only
  congr 1
  funext ti
  congr 1
  funext k
  cases ti.ki <;> simp only [idxV, ob_no, ob_bind, ob_if, ob_some]
  generalize st.ev x = y
  split <;> split <;> simp_all [ob_no, byteD, ob_dif, ob_some]
  intro h
  omega
theorem opWL_call (f : FuncId) (args : Array Operand) (ats : Array TypeId) : opWL P id ⟨dst, .call ⟨.value (.func f), args, ats⟩, ty, pos, af, gd⟩ st K u = callWL P id st f (args.toList.map st.ev ++ []) K ⟨⟩ := rfl
def fnD (args : List D) : D → Option (FuncId × List D)
  | .f (.fn g caps) => some (g, args ++ caps.map .f)
  | .fn g caps => some (g, args ++ caps)
  | _ => none
theorem opWL_callval (t : Tmp) (args : Array Operand) (ats : Array TypeId) : opWL P id ⟨dst, .call ⟨.value (.tmp t), args, ats⟩, ty, pos, af, gd⟩ st K u = obL (fnD (args.toList.map st.ev) (st.ev (.tmp t))) (fun x => callWL P id st x.1 x.2 K ⟨⟩) ⟨⟩ := by
  unfold opWL opW obL callWL
  simp only
  generalize st.ev (.tmp t) = y
  unfold fnD
  split <;> split <;> simp_all [ob_no, ob_some]
theorem opWL_len (x : Operand) (t : TypeId) : opWL P id ⟨dst, .call ⟨.builtin .len, #[x], #[t]⟩, ty, pos, af, gd⟩ st K u = obL (lay P t) (fun ti => obL (lenK st.mem ti.ki (st.ev x)) (fun d => K d st) ⟨⟩) ⟨⟩ := by
  unfold opWL opW obL
  simp only
  congr 1
  funext ti
  cases ti.ki <;> simp only [lenK, ob_no, ob_map]
  generalize st.ev x = y
  split <;> split <;> simp_all [ob_no, ob_some]
theorem opWL_append (s x : Operand) (t : TypeId) : opWL P id ⟨dst, .call ⟨.builtin .append, #[s, x], #[t, t]⟩, ty, pos, af, gd⟩ st K u = obL (lay P t) (fun ti => obL (appD id st.mem ti.ki (st.ev s) (st.ev x)) (fun r => K r.1 (st.new r.2.1 r.2.2)) ⟨⟩) ⟨⟩ := by
  unfold opWL opW obL
  simp only [if_true]
  congr 1
  funext ti
  cases ti.ki <;> simp only [appD, ob_no, ob_if, ob_bind, appendW]
  rename_i e esz bytes ez
  split <;> try rfl
  congr 1
  funext ys
  generalize st.ev s = y
  unfold appS
  split <;> split <;> simp_all [ob_no, ob_some, ob_if]
theorem opWL_max (x y : Operand) (ats : Array TypeId) : opWL P id ⟨dst, .call ⟨.builtin .max, #[x, y], ats⟩, ty, pos, af, gd⟩ st K u = obL (mxD (st.ev x) (st.ev y)) (fun d => K d st) ⟨⟩ := by
  unfold opWL opW obL
  simp only
  generalize st.ev x = p
  generalize st.ev y = q
  unfold mxD
  split
  · simp only [ob_some]
  · rename_i hno
    split
    · exact (hno _ _ _ _ rfl rfl).elim
    · simp only [ob_no]
theorem opWL_min (x y : Operand) (ats : Array TypeId) : opWL P id ⟨dst, .call ⟨.builtin .min, #[x, y], ats⟩, ty, pos, af, gd⟩ st K u = obL (mnD (st.ev x) (st.ev y)) (fun d => K d st) ⟨⟩ := by
  unfold opWL opW obL
  simp only
  generalize st.ev x = p
  generalize st.ev y = q
  unfold mnD
  split
  · simp only [ob_some]
  · rename_i hno
    split
    · exact (hno _ _ _ _ rfl rfl).elim
    · simp only [ob_no]
theorem opWL_buildSlice (t : TypeId) (len : Nat) (parts : Array (Nat × Operand)) : opWL P id ⟨dst, .buildSlice t len parts, ty, pos, af, gd⟩ st K u = obL (lay P t) (fun ti => obL (bldSl ti.ki len (parts.toList.map fun p => (p.1, st.ev p.2))) (fun m => gifL st.lit (K (fzD m) st) (K (.own id 0) (st.new id m)) ⟨⟩ ⟨⟩) ⟨⟩) ⟨⟩ := by
  unfold opWL opW obL gifL
  simp only
  congr 1
  funext ti
  have e : ∀ (esz : Nat) (l : List (Nat × Operand)), omap (fun p => ((cellsD p.2).bind (omap asF)).bind fun fs => if fs.length = esz then some fs else none) (l.map fun p => (p.1, st.ev p.2)) = omap (fun p => ((cellsD (st.ev p.2)).bind (omap asF)).bind fun fs => if fs.length = esz then some fs else none) l := by
    intro esz l
    induction l with
    | nil => rfl
    | cons p l ih => simp only [List.map_cons, omap, ih]
  cases ti.ki <;> simp only [bldSl, ob_no, ob_if, ob_map, e, fzD]
  simp [Function.comp_def]
theorem opWL_makeSlice (t : TypeId) (l c : Operand) : opWL P id ⟨dst, .makeSlice t l c, ty, pos, af, gd⟩ st K u = obL (lay P t) (fun ti => obL (asI (st.ev l)) (fun n => obL (asI (st.ev c)) (fun m => obL (mkSl ti.ki n m) (fun r => K (.own id 0) (st.new id r)) ⟨⟩) ⟨⟩) ⟨⟩) ⟨⟩ := by
  unfold opWL opW obL
  simp only
  congr 1
  funext ti
  congr 1
  funext n
  congr 1
  funext m
  cases ti.ki <;> simp only [mkSl, ob_no, ob_if, ob_some]
theorem opWL_slice (t : TypeId) (x : Operand) (lo hi : Option Operand) : opWL P id ⟨dst, .slice t x lo hi none, ty, pos, af, gd⟩ st K u = obL (lay P t) (fun ti => obL (slcD ti.ki (st.ev x) (lo.map st.ev) (hi.map st.ev)) (fun d => K d st) ⟨⟩) ⟨⟩ := by
  unfold opWL opW obL
  simp only
  congr 1
  funext ti
  cases ti.ki <;> simp only [slcD, ob_no, Option.isSome_none, Bool.false_eq_true, if_false]
  · generalize st.ev x = y
    split <;> split <;> simp_all [ob_no, ob_some, ob_if, ob_map]
  · generalize st.ev x = y
    split <;> split <;> simp_all [ob_no, ob_some, ob_if, ob_map]
end

section
variable {P : Program} {st : St} {k : Ex → St → Prop} {u : Lk k}
theorem runL_region (id : Nat) (l : List Oper) : runL P (.region id l.toArray false) st k u = opsLL P l.toArray st.next 0 l st (fun s => k .normal { s with next := st.next + l.toArray.size }) ⟨⟩ := rfl
theorem runL_seq (a b : Code) : runL P (.seq a b) st k u = runL P a st (fun e s => match e with
    | .normal => runL P b s k ⟨⟩
    | e => k e s) ⟨⟩ := rfl
theorem runL_cond (c : Operand) (a b : Code) : runL P (.cond c a b) st k u = obL (truth (st.ev c)) (fun t => gifL t (runL P a st k ⟨⟩) (runL P b st k ⟨⟩) ⟨⟩ ⟨⟩) ⟨⟩ := rfl
theorem runL_block (id : Nat) (c : Code) : runL P (.block id c) st k u = runL P c st (fun e s => match e with
    | .exit j => if j = id then k .normal s else k (.exit j) s
    | e => k e s) ⟨⟩ := rfl
theorem runL_exit (id : Nat) : runL P (.exit id) st k u = k (.exit id) st := rfl
theorem runL_ret : runL P .ret st k u = k .ret st := rfl
theorem runL_skip : runL P .skip st k u = k .normal st := rfl
theorem opsLL_nil (ops : Array Oper) (base i : Nat) (K : St → Prop) (v : Lk K) : opsLL P ops base i [] st K v = K st := rfl
theorem opsLL_cons (ops : Array Oper) (base i : Nat) (o : Oper) (r : List Oper) (K : St → Prop) (v : Lk K) : opsLL P ops base i (o :: r) st K v = obL (gval ops st o.guard) (fun g => gifL g (opWL P (base + i) o st (fun d st' => opsLL P ops base (i + 1) r (st'.put o.dst d) K ⟨⟩) ⟨⟩) (opsLL P ops base (i + 1) r (st.put o.dst undefD) K ⟨⟩) ⟨⟩ ⟨⟩) ⟨⟩ := rfl
theorem opsLL_plain (ops : Array Oper) (base i : Nat) (dst : Option Tmp) (op : Op) (ty : TypeId) (pos : String) (af : Array Edge) (r : List Oper) (K : St → Prop) (v : Lk K) : opsLL P ops base i (⟨dst, op, ty, pos, af, none⟩ :: r) st K v = opWL P (base + i) ⟨dst, op, ty, pos, af, none⟩ st (fun d st' => opsLL P ops base (i + 1) r (st'.put dst d) K ⟨⟩) ⟨⟩ := by
  rw [opsLL_cons]
  exact obL_some _ _ _
end
def iterPL (P : Program) (c : Code) (b n : Nat) (st : St) (k : Ex → St → Prop) (_ : Lk k) : Prop := iterP (run P c) b n st k
/-- a loop, round by round: n rounds at most -/
theorem runL_unroll {P : Program} {c : Code} {st : St} {k : Ex → St → Prop} {u : Lk k} (n : Nat) (h : iterPL P c st.next n st k ⟨⟩) : runL P (.loop c) st k u := ⟨[], n, h⟩
theorem iter_step {P : Program} {c : Code} {b n : Nat} {st : St} {k : Ex → St → Prop} {u : Lk k} (h : runL P c (st.trim b) (fun e s => match e with
    | .normal => iterPL P c b n s k ⟨⟩
    | e => k e s) ⟨⟩) : iterPL P c b (n + 1) st k u := h
theorem run_of_runL {P : Program} {c : Code} {st : St} {k : Ex → St → Prop} (h : runL P c st k ⟨⟩) : run P c st k := h

section
variable {n : Nat} {fr : Nat → D} {mem : Nat → Option M} {next : Nat} {lit : Bool}
theorem put_some (t : Nat) (d : D) (h : (t < n) = True) : St.put ⟨n, fr, mem, next, lit⟩ (some t) d = ⟨n, upd fr t d, mem, next, lit⟩ := by
  unfold St.put; simp [h]
theorem put_none (d : D) : St.put ⟨n, fr, mem, next, lit⟩ none d = ⟨n, fr, mem, next, lit⟩ := rfl
theorem new_mk (id : Nat) (m : M) : St.new ⟨n, fr, mem, next, lit⟩ id m = ⟨n, fr, upd mem id (some m), next, lit⟩ := rfl
theorem ev_tmp (t : Nat) : St.ev ⟨n, fr, mem, next, lit⟩ (.tmp t) = fr t := rfl
theorem ev_const (v : Value) : St.ev ⟨n, fr, mem, next, lit⟩ (.const v) = .f (.v v) := rfl
theorem ev_func (f : FuncId) : St.ev ⟨n, fr, mem, next, lit⟩ (.func f) = .f (.fn f []) := rfl
theorem upd_same {α : Type} (f : Nat → α) (t : Nat) (d : α) : upd f t d t = d := by simp [upd]
theorem upd_ne {α : Type} (f : Nat → α) (t : Nat) (d : α) (u : Nat) (h : (u = t) = False) : upd f t d u = f u := by simp [upd, h]
theorem trim_mk (b : Nat) : St.trim ⟨n, fr, mem, next, lit⟩ b = ⟨n, fun t => clean b (fr t), fun id => if id < b then (mem id).map (cleanM b) else none, b, lit⟩ := rfl
end
theorem clean_f (b : Nat) (x : FD) : clean b (.f x) = .f x := by simp [clean, below]
theorem clean_loc (b id off : Nat) (h : (id < b) = True) : clean b (.loc id off) = .loc id off := by simp [clean, below, h]
theorem clean_own (b g v : Nat) (h : (g < b) = True) : clean b (.own g v) = .own g v := by simp [clean, below, h]
attribute [go_sem] clean_loc clean_own
theorem gval_none (ops : Array Oper) (st : St) : gval ops st none = some true := rfl
theorem gval_some (l : List Oper) (n : Nat) (fr : Nat → D) (mem : Nat → Option M) (next : Nat) (lit : Bool) (j : Nat) (want : Bool) : gval l.toArray ⟨n, fr, mem, next, lit⟩ (some (j, want)) = ((l[j]?).bind (·.dst)).bind fun d => if d < n then (match fr d with
      | .f (.v (.bool b)) => some (b == want)
      | .f (.v (.tuple _)) => some false
      | _ => none) else none := by
  unfold gval
  simp only [List.getElem?_toArray]
  cases (l[j]?).bind (·.dst) <;> rfl
theorem omap_nil' {α β : Type} (f : α → Option β) : omap f [] = some [] := rfl
theorem omap_cons' {α β : Type} (f : α → Option β) (a : α) (l : List α) : omap f (a :: l) = (f a).bind fun b => (omap f l).map (b :: ·) := rfl
theorem frz_own (mem : Nat → Option M) (n g ver : Nat) : frz mem (n + 1) (.own g ver) = (match mem g with | some (.row _ v sz xs) => if v = ver then some (.sl sz xs) else none | _ => none) := rfl
theorem frz_loc (mem : Nat → Option M) (n id off : Nat) : frz mem (n + 1) (.loc id off) = (match mem id with | some (.blk cs) => (omap (frz mem n) (cs.drop off)).map .ref | _ => none) := rfl
theorem frz_agg (mem : Nat → Option M) (n : Nat) (cs : List D) : frz mem (n + 1) (.agg cs) = (omap (frz mem n) cs).map .agg := rfl
theorem frz_fn (mem : Nat → Option M) (n : Nat) (f : FuncId) (cs : List D) : frz mem (n + 1) (.fn f cs) = (omap (frz mem n) cs).map (.fn f) := rfl
theorem frz_f (mem : Nat → Option M) (n : Nat) (x : FD) : frz mem (n + 1) (.f x) = some x := rfl
theorem loadD_loc (mem : Nat → Option M) (size : Nat) (agg : Bool) (id off : Nat) : loadD mem size agg (.loc id off) = (match mem id with | some (.blk cs) => partD cs off size agg | _ => none) := rfl
theorem loadD_ref (mem : Nat → Option M) (size : Nat) (agg : Bool) (cs : List FD) : loadD mem size agg (.f (.ref cs)) = (partF cs size agg).map .f := rfl
theorem runL_loop {P : Program} {c : Code} {st : St} {k : Ex → St → Prop} {u : Lk k} (as : List Ad) (b : Nat) (hb : (St.adopts as st).next = b) (I : Nat → St → Prop) (n0 : Nat) (h0 : I n0 ((St.adopts as st).trim b))
    (step : ∀ n s, s.next = b → I n s → runL P c s (fun e s' => match e with
      | .normal => ∃ m, m < n ∧ I m (s'.trim b)
      | e => k e s') ⟨⟩) : runL P (.loop c) st k u := run_loop_inv as b hb I n0 h0 step
theorem adopts_nil (st : St) : St.adopts [] st = st := rfl
theorem adopts_cons (a : Ad) (as : List Ad) (st : St) : St.adopts (a :: as) st = St.adopts as (st.adopt1 a) := rfl
theorem adopt_slot (t e sz : Nat) (n : Nat) (fr : Nat → D) (mem : Nat → Option M) (next : Nat) (lit : Bool) : St.adopt1 ⟨n, fr, mem, next, lit⟩ (.slot t e sz) = if isNil (fr t) && decide (0 < sz) && decide (t < n) then ⟨n, upd fr t (.own next 0), upd mem next (some (.row e 0 sz [])), next + 1, lit⟩ else ⟨n, fr, mem, next, lit⟩ := rfl
theorem adopt_cell (id off e sz : Nat) (n : Nat) (fr : Nat → D) (mem : Nat → Option M) (next : Nat) (lit : Bool) : St.adopt1 ⟨n, fr, mem, next, lit⟩ (.cell id off e sz) = match mem id with
    | some (.blk cs) => if isNil (cs.getD off .top) && decide (0 < sz) then ⟨n, fr, upd (upd mem next (some (.row e 0 sz []))) id (some (.blk (cs.set off (.own next 0)))), next + 1, lit⟩ else ⟨n, fr, mem, next, lit⟩
    | _ => ⟨n, fr, mem, next, lit⟩ := rfl
attribute [go_sem] adopts_nil adopts_cons adopt_slot adopt_cell isNil

/-! ### Regions that draw their order -/
def opsDL (P : Program) (l : List Oper) (A : List (List Nat)) (base i : Nat) (r : List Oper) (st : St) (K : St → Prop) (_ : Lk K) : Prop := opsD P l A base i r st K
def exWL (A mem : Nat → Option M) (Q : Nat → M → Prop) (_ : Lk Q) : Prop := exW A mem Q
theorem exWL_mk {A : Nat → Option M} {x : Nat} {m : M} {Q : Nat → M → Prop} {u : Lk Q} (h : Q x m) : exWL A (upd A x (some m)) Q u := ⟨x, m, rfl, h⟩
theorem runL_draw {P : Program} {id : Nat} {l : List Oper} {st : St} {k : Ex → St → Prop} {u : Lk k} (A : List (List Nat)) (hm : P.follows .mixedOrders = true) (hA : drawOk l A = true)
    (h : opsDL P l A st.next 0 l st (fun s => k .normal { s with next := st.next + l.toArray.size }) ⟨⟩) : runL P (.region id l.toArray true) st k u :=
  ⟨A, hA, hm, h⟩
section
variable {P : Program} {l : List Oper} {A : List (List Nat)} {base i : Nat} {K : St → Prop} {v : Lk K} {n : Nat} {fr : Nat → D} {mem : Nat → Option M} {next : Nat} {lit : Bool}
theorem opsDL_nil (st : St) : opsDL P l A base i [] st K v = K st := rfl
theorem opsDL_cons (dst : Option Tmp) (op : Op) (ty : TypeId) (pos : String) (af : Array Edge) (gd : Option (Nat × Bool)) (r : List Oper) : opsDL P l A base i (⟨dst, op, ty, pos, af, gd⟩ :: r) ⟨n, fr, mem, next, lit⟩ K v =
    obL (gval l.toArray ⟨n, fr, mem, next, lit⟩ gd) (fun g => gifL g
      (opWL P (base + i) ⟨dst, op, ty, pos, af, gd⟩ ⟨n, fr, visM (Tv l A base i) mem, next, lit⟩ (fun d s' => gifL (writesOp lit op d)
        (exWL (visM (Tv l A base i) mem) s'.mem (fun x m => andL (Cw l A base i x = true ∧ Tv l A base i x = true) (opsDL P l A base (i + 1) r (St.put ⟨n, fr, upd mem x (some m), next, lit⟩ dst d) K ⟨⟩) ⟨⟩) ⟨⟩)
        (andL (s'.mem = visM (Tv l A base i) mem) (opsDL P l A base (i + 1) r (St.put ⟨n, fr, mem, next, lit⟩ dst d) K ⟨⟩) ⟨⟩) ⟨⟩ ⟨⟩) ⟨⟩)
      (opsDL P l A base (i + 1) r (St.put ⟨n, fr, mem, next, lit⟩ dst undefD) K ⟨⟩) ⟨⟩ ⟨⟩) ⟨⟩ := rfl
theorem opsDL_plain (dst : Option Tmp) (op : Op) (ty : TypeId) (pos : String) (af : Array Edge) (r : List Oper) : opsDL P l A base i (⟨dst, op, ty, pos, af, none⟩ :: r) ⟨n, fr, mem, next, lit⟩ K v =
      opWL P (base + i) ⟨dst, op, ty, pos, af, none⟩ ⟨n, fr, visM (Tv l A base i) mem, next, lit⟩ (fun d s' => gifL (writesOp lit op d)
        (exWL (visM (Tv l A base i) mem) s'.mem (fun x m => andL (Cw l A base i x = true ∧ Tv l A base i x = true) (opsDL P l A base (i + 1) r (St.put ⟨n, fr, upd mem x (some m), next, lit⟩ dst d) K ⟨⟩) ⟨⟩) ⟨⟩)
        (andL (s'.mem = visM (Tv l A base i) mem) (opsDL P l A base (i + 1) r (St.put ⟨n, fr, mem, next, lit⟩ dst d) K ⟨⟩) ⟨⟩) ⟨⟩ ⟨⟩) ⟨⟩ := by
  rw [opsDL_cons]
  exact obL_some _ _ _
end
theorem visM_eq (T : Nat → Bool) (mem : Nat → Option M) (id : Nat) : visM T mem id = bif T id then mem id else none := by unfold visM; cases T id <;> rfl
attribute [go_sem] opsDL_nil opsDL_plain opsDL_cons visM_eq writesOp isNew
attribute [go_sem] obL_some obL_ite gifL_true gifL_false gifL_not andL_true runL_region runL_seq runL_cond runL_block runL_exit runL_ret runL_skip opsLL_nil opsLL_plain opsLL_cons
  opWL_move opWL_assign opWL_pick opWL_alloc opWL_box opWL_build opWL_load opWL_store opWL_binOp opWL_unOp opWL_convert opWL_nilCheck opWL_fieldAddr opWL_field opWL_extract opWL_makeFunc opWL_indexAddr opWL_index opWL_call opWL_callval opWL_len opWL_append opWL_max opWL_min opWL_buildSlice opWL_makeSlice opWL_slice
  put_some put_none new_mk ev_tmp ev_const ev_func upd_same upd_ne trim_mk clean_f gval_none gval_some omap_nil' omap_cons' frz_f frz_own frz_loc frz_agg frz_fn loadD_loc loadD_ref
theorem undef_eq : undef = .tuple #[] := rfl
attribute [go_sem] undef_eq
theorem bytes_self (s : ByteArray) : (s == s) = true := (MapKept.bytes_beq s s).2 rfl
attribute [go_sem] bytes_self
theorem one_int (k : IntKind) (n : Int) : (Value.int k n).oneCell' = true := rfl
theorem one_bool (b : Bool) : (Value.bool b).oneCell' = true := rfl
theorem one_string (s : ByteArray) : (Value.string s).oneCell' = true := rfl
theorem one_slice (a : Option Addr) (n c : Nat) : (Value.slice a n c).oneCell' = true := rfl
theorem one_pointer (a : Option Addr) : (Value.pointer a).oneCell' = true := rfl
attribute [go_sem] one_int one_bool one_string one_slice one_pointer
theorem cellsD_agg (cs : List FD) : cellsD (.f (.agg cs)) = some (cs.map .f) := rfl
theorem cellsD_aggD (cs : List D) : cellsD (.agg cs) = some cs := rfl
theorem cellsD_v (u : Value) : cellsD (.f (.v u)) = if u.oneCell' then some [.f (.v u)] else none := rfl
theorem cellsD_sl (sz : Nat) (xs : List (List FD)) : cellsD (.f (.sl sz xs)) = some [.f (.sl sz xs)] := rfl
theorem cellsD_ref (cs : List FD) : cellsD (.f (.ref cs)) = some [.f (.ref cs)] := rfl
theorem cellsD_fn (f : FuncId) (cs : List FD) : cellsD (.f (.fn f cs)) = some [.f (.fn f cs)] := rfl
theorem cellsD_loc (id off : Nat) : cellsD (.loc id off) = some [.loc id off] := rfl
theorem cellsD_own (g v : Nat) : cellsD (.own g v) = some [.own g v] := rfl
theorem cellsD_fnD (f : FuncId) (cs : List D) : cellsD (.fn f cs) = some [.fn f cs] := rfl
theorem elems_nil (mem : Nat → Option M) (sz : Nat) : elems mem sz (.f (.v (.slice none 0 0))) = some [] := rfl
theorem elems_sl (mem : Nat → Option M) (sz z : Nat) (xs : List (List FD)) : elems mem sz (.f (.sl z xs)) = if z = sz then some xs else none := rfl
theorem elems_own (mem : Nat → Option M) (sz g ver : Nat) : elems mem sz (.own g ver) = match mem g with | some (.row _ v z xs) => if v = ver ∧ z = sz then some xs else none | _ => none := rfl
theorem lenD_v (mem : Nat → Option M) (a : Option Addr) (n c : Nat) : lenD mem (.f (.v (.slice a n c))) = some n := rfl
theorem lenD_sl (mem : Nat → Option M) (sz : Nat) (xs : List (List FD)) : lenD mem (.f (.sl sz xs)) = some xs.length := rfl
theorem lenD_own (mem : Nat → Option M) (g ver : Nat) : lenD mem (.own g ver) = match mem g with | some (.row _ v _ xs) => if v = ver then some xs.length else none | _ => none := rfl
attribute [go_sem] cellsD_agg cellsD_aggD cellsD_v cellsD_sl cellsD_ref cellsD_fn cellsD_loc cellsD_own cellsD_fnD elems_nil elems_sl elems_own lenD_v lenD_sl lenD_own
attribute [go_sem] fieldD tupD rowOr idxA byteD idxV mkSl bldSl fzD slcD lenK appS appD mxD mnD fnD nilD ptrB ptrD entF noM dbinP eqA eqC eqC1 dbin ibin sbin dun dconv truth asI undefD resultD resD Ex.fin aggD asF mkAgg mkFn partD partF shiftD intD boundsD updCells storeD placesOf fillD isF isV scalar cleanM
end Go.Dn
end
