/- Iterators: a function's text that yields numbers, run over data. -/
/- Rules by which an iterator's text is run. -/
/- Calls of functions that change what is there: objects that stay. -/
/- Rules by which a function's text with such calls is run. -/
/- A call that makes a copy of a row; a call of a function that is data alone. -/
/- A region that draws its order, with one alloc that may come at any time: its head drawn, without and with the alloc; the rest as a tree. -/
/- A row that is written no more is frozen on the way. -/
/- A region that draws its order: its head drawn, its tail as a tree of orders. -/
/- Rows that are frozen at the beginning of each round of a loop. -/
import Derived.Test.YthpmgnbehahkfaaGreatJQb
import Derived.Test.YthpmgnbehahkfaaGreatJQc
import Derived.RangeFuncKeeps
import Derived.Laws.BytesArg
set_option linter.unusedSimpArgs false
set_option linter.unusedVariables false
section
namespace Go.Dn
open Go.RowKit Go.Dk

variable {P : Program}

/-- the numbers yielded; was there a 'no'? -/
structure Yd where
  ys : List Int
  stop : Bool
/-- what is the call's own is let go -/
def St.bare (st : St) : St := { st with fr := fun t => clean 0 (st.fr t), mem := noM }
def scD : D → D
  | .f d => if scalar d then .f d else .top
  | _ => .top
/-- all but scalars is let go -/
def St.only (st : St) : St := { st with fr := fun t => scD (st.fr t), mem := noM }

section
variable (P)
/-- a region up to its operation m -/
def headW (ops : Array Oper) (draw : Bool) (m : Nat) (st : St) (K : St → Prop) : Prop :=
  if draw then (∃ A, (drawOk (ops.toList.take m) A = true ∧ P.follows .mixedOrders = true) ∧ (headB .any (ops.toList.take m) = true ∧ sinksB .any (ops.toList.take m) (ops.toList.drop m) = true ∧ chainsB .any (ops.toList.take m) (ops.toList.drop m) = true) ∧ opsD P (ops.toList.take m) A st.next 0 (ops.toList.take m) st K)
  else opsL P ops st.next 0 (ops.toList.take m) st K
/-- a call of yield -/
def yieldW (l : Nat) (N : List Int → Int → Prop) (o : Oper) (st : St) (y : Yd) (K : St → Yd → Prop) : Prop :=
  match o.op with
  | .call c => match c.callee, c.args.toList with
    | .value f, [x] => (st.ev f = .f (.v (.func (.yield l) #[] #[])) ∧ y.stop = false) ∧ ∃ i : Int, (st.ev x = .f (.v (.int .i64 i)) ∧ N y.ys i) ∧ K (st.bare.put o.dst (.f (.v (.bool true)))) ⟨y.ys ++ [i], false⟩ ∧ K (st.only.put o.dst (.f (.v (.bool false)))) ⟨y.ys ++ [i], true⟩
    | _, _ => False
  | _ => False
/-- and from there -/
def tailW (l : Nat) (N : List Int → Int → Prop) (ops : Array Oper) (base m : Nat) (st : St) (y : Yd) (K : St → Yd → Prop) : Prop :=
  ob (ops[m]?) fun o => ob (gval ops st o.guard) fun g => gif g
    (yieldW l N o st y fun s y' => opsL P ops base (m + 1) (ops.toList.drop (m + 1)) s fun s => K { s with next := base + ops.size } y')
    (opsL P ops base (m + 1) (ops.toList.drop (m + 1)) (st.put o.dst undefD) fun s => K { s with next := base + ops.size } y)
def iterI (F : St → Yd → (Ex → St → Yd → Prop) → Prop) (b : Nat) : Nat → St → Yd → (Ex → St → Yd → Prop) → Prop
  | 0, _, _, _ => False
  | n + 1, st, y, k => F (st.trim b) y fun e s y => match e with
    | .normal => iterI F b n s y k
    | e => k e s y
def runI (l : Nat) (N : List Int → Int → Prop) : Code → St → Yd → (Ex → St → Yd → Prop) → Prop
  | .skip, st, y, k => k .normal st y
  | .region _ ops draw, st, y, k => regionW P ops draw st (fun s => k .normal s y) ∨ ∃ m, headW P ops draw m st fun s => tailW P l N ops st.next m s y fun s y => k .normal s y
  | .seq a b, st, y, k => runI l N a st y fun e s y => match e with
    | .normal => runI l N b s y k
    | e => k e s y
  | .cond c a b, st, y, k => ob (truth (st.ev c)) fun t => gif t (runI l N a st y k) (runI l N b st y k)
  | .block id c, st, y, k => runI l N c st y fun e s y => match e with
    | .exit j => if j = id then k .normal s y else k (.exit j) s y
    | e => k e s y
  | .loop c, st, y, k => ∃ as : List Ad, ∃ n, iterI (runI l N c) (st.adopts as).next n (st.adopts as) y k
  | .exit id, st, y, k => k (.exit id) st y
  | .ret, st, y, k => k .ret st y
  | _, _, _, _ => False
end

/-! ### Regions -/
theorem opsL_part {ops : Array Oper} {base : Nat} {K : St → Prop} : ∀ (l : List Oper) (i : Nat), (∀ j, j < l.length → ops[i + j]? = l[j]?) → ∀ st, opsL P ops base i l st K = opsW P ops base (List.range' i l.length) st K
  | [], i, _, st => rfl
  | o :: r, i, hd, st => by
    have ho : ops[i]? = some o := hd 0 (by simp)
    have ih := opsL_part (base := base) (K := K) r (i + 1) (fun j hj => by
      have := hd (j + 1) (by simpa using hj)
      rw [Nat.add_assoc, Nat.add_comm 1 j]
      simpa using this)
    simp only [opsL, gif, List.length_cons, List.range'_succ, opsW, stepW, ho, ob_some]
    simp only [ih]
theorem list_of_ops {n : Nat} {ops : Array Oper} {t : List Oper} {Q : Exit → Act → World → Prop} : ∀ (l : List Oper) (i : Nat), (∀ j, j < l.length → ops[i + j]? = l[j]?) → ∀ (a : Act) (w : World), wpOps P ops (TailQ n P ops Q t) (List.range' i l.length) a w → wpListIn Fence.wide n P ops Q (l ++ t) a w
  | [], i, _, a, w, h => h
  | o :: r, i, hd, a, w, h => by
    have ho : ops[i]? = some o := hd 0 (by simp)
    have ih := list_of_ops (n := n) (t := t) (Q := Q) r (i + 1) (fun j hj => by
      have := hd (j + 1) (by simpa using hj)
      rw [Nat.add_assoc, Nat.add_comm 1 j]
      simpa using this)
    simp only [List.length_cons, List.range'_succ, wpOps, ho] at h
    simp only [List.cons_append, wpListIn]
    split
    · rename_i hw
      rw [if_pos hw] at h
      rcases h with h | ⟨-, h⟩
      · exact Oper.wpIn_mono ih (wpIn_wide_of_wp tailQ_lets (fun _ _ _ h => h.elim) h)
      · exact absurd h tailQ_lets
    · rename_i hw
      rw [if_neg hw] at h
      exact ⟨fun _ _ => trivial, ih _ _ h⟩

theorem head_sound {w0 : World} {WS0 : Nat → Nat → Prop} {ops : Array Oper} {draw : Bool} {m n id : Nat} {c : Cx} {a : Act} {st : St} {K : St → Prop} {Q : Exit → Act → World → Prop} (h : headW P ops draw m st K) (hI : Inv w0 WS0 c a st)
    (hk : ∀ c' a' st', K st' → Ext c c' → InvF c' a' st' → InvM w0 WS0 c' st'.mem → st'.n = st.n → (∀ id, st.next + m ≤ id → Fresh c' st'.mem id) → wpListIn Fence.wide n P ops Q (ops.toList.drop m) a' c'.x.W) : (Code.region id ops draw).wpIn Fence.wide n P Q a c.x.W := by
  have hlen : (ops.toList.take m).length ≤ m := by simp; omega
  cases draw with
  | true =>
    unfold headW at h
    rw [if_pos rfl] at h
    obtain ⟨A, ⟨hA, hmix⟩, ⟨h1, h2, h3⟩, h⟩ := h
    have e : ops = (ops.toList.take m ++ ops.toList.drop m).toArray := by rw [List.take_append_drop]
    have key := draw_any (Q := TailQ n P (ops.toList.take m ++ ops.toList.drop m).toArray Q (ops.toList.drop m)) hA h hI (fun c' a' st' k1 kx k2 k3 k4 k5 k6 => by
      have := hk c' a' st' k1 kx k2 k3 k4 (fun id hid => k6 id (by omega))
      rw [← e]; exact this)
    have h2 := wpAny_tailP (n := n) (Q := Q) h1 h2 h3 _ _ a _ (by simp) (fun j oj hj hv => by
      exfalso
      have hlt := (List.getElem?_eq_some_iff.1 hj).1
      simp only [List.size_toArray, Array.getD_eq_getD_getElem?, Array.getElem?_replicate] at hv
      split at hv <;> simp at hv) key
    refine wpIn_region_any hmix ?_
    rw [← e] at h2
    have e2 : (ops.toList.take m).toArray.size + (ops.toList.drop m).length = ops.size := by simp; omega
    rw [e2] at h2
    have e3 : Array.replicate (ops.toList.take m).toArray.size false ++ Array.replicate (ops.toList.drop m).length false = Array.replicate ops.size false := by
      rw [Array.replicate_append_replicate, e2]
    rw [e3] at h2
    exact h2
  | false =>
    unfold headW at h
    rw [if_neg (by simp)] at h
    refine wpIn_region_list ?_
    have hp : ∀ j, j < (ops.toList.take m).length → ops[0 + j]? = (ops.toList.take m)[j]? := fun j hj => by
      rw [Nat.zero_add, List.getElem?_take, if_pos (by omega)]
      simp
    rw [opsL_part _ 0 hp] at h
    have key := ops_sound (Q := TailQ n P ops Q (ops.toList.drop m)) _ c a st h hI.F hI.M (fun i _ => hI.N _ (by omega)) List.nodup_range' (fun c' a' st' k1 kx k2 k3 k4 k5 k6 => hk c' a' st' k1 kx k2 k3 k4 fun id hid => k6 id (fun i hi => by
      have := List.mem_range'.1 hi
      obtain ⟨q, hq, rfl⟩ := this
      omega) (hI.N _ (by omega)))
    have := list_of_ops _ 0 hp a _ key
    rwa [List.take_append_drop] at this

/-! ### Who asks for the numbers -/
/-- what the other side promises of a round: what it may not write stays, and may not be written then -/
def KpO (own : World → Nat → Prop) (G : World → Prop) (A B : World) : Prop := G A → G B ∧ Sub ⟨fun b _ => own A b, A⟩ ⟨fun b _ => own B b, B⟩ ∧ A.heap.size ≤ B.heap.size
structure Own1 (own : World → Nat → Prop) (G : World → Prop) : Prop where
  bnd : ∀ W, G W → ∀ b, own W b → b < W.heap.size
  stab : ∀ W W', G W → Chg No W W' → G W' ∧ ∀ b, own W' b ↔ own W b
structure Amb (P : Program) (n l : Nat) (N : List Int → Int → Prop) (B : Nat) (J Jx : List Int → World → Prop) (own : World → Nat → Prop) (G : World → Prop) : Prop extends Own1 own G where
  aJ : AbidesFrom B J
  aJx : AbidesFrom B Jx
  yld : ∀ pre x W1, J pre W1 → N pre x → YieldAt Fence.wide (n - 1) P l #[.int .i64 x] W1 fun e W' =>
      (e = .returned (.bool true) ∧ J (pre ++ [x]) W' ∧ KpO own G W1 W') ∨ (e = .returned (.bool false) ∧ Jx (pre ++ [x]) W')
def YR (J Jx : List Int → World → Prop) (own : World → Nat → Prop) (G : World → Prop) (y : Yd) (w0 : World) (WS0 : Nat → Nat → Prop) : Prop :=
  if y.stop then Jx y.ys w0 else (J y.ys w0 ∧ G w0 ∧ ∀ b o, WS0 b o ↔ own w0 b)

theorem grown_of {W W' : World} (h : Chg No W W') : W.grownBy W' none := ⟨h.os, h.tape, h.output, h.size, fun k hk _ => h.block k hk id⟩
theorem abides_no {β : Type} {B : Nat} {J : β → World → Prop} (hJ : AbidesFrom B J) {s : β} {W W' : World} (h : J s W) (hc : Chg No W W') : J s W' :=
  hJ s W W' none h (grown_of hc) (fun r e => by cases e)

def bareC (own : World → Nat → Prop) (W : World) : Cx := ⟨fun _ _ => none, ⟨fun b _ => own W b, W⟩⟩
theorem noM_fresh (x : X) (id : Nat) : Fresh ⟨fun _ _ => none, x⟩ noM id := ⟨rfl, fun _ => rfl⟩
theorem noM_inv {W : World} {WS0 : Nat → Nat → Prop} (h : ∀ b o, WS0 b o → b < W.heap.size) : InvM W WS0 ⟨fun _ _ => none, ⟨WS0, W⟩⟩ noM :=
  ⟨fun id m hm => by simp [noM] at hm, fun id id' m m' b hm => by simp [noM] at hm, Chg.refl _ _, fun b o h => h, h, h, fun g e ver sz xs hm => by simp [noM] at hm⟩
theorem bare_rep {c c' : Cx} (hs : Sub c.x c'.x) {v : Value} {d : D} (h : RepD c v d) : RepD c' v (clean 0 d) := by
  have h1 := RepD.clean (b := 0) h
  refine RepD.mono (c := c.trim 0) ⟨hs, fun id k u hu => ?_⟩ h1
  simp [Cx.trim] at hu
theorem only_rep {c c' : Cx} {v : Value} {d : D} (h : RepD c v d) : RepD c' v (scD d) := by
  cases d with
  | f x =>
    simp only [scD]
    split
    · rename_i hs
      unfold RepD at h ⊢
      exact scalar_any hs h
    · unfold RepD; trivial
  | _ => simp only [scD]; unfold RepD; trivial

variable {n l B : Nat} {N : List Int → Int → Prop} {J Jx : List Int → World → Prop} {own : World → Nat → Prop} {G : World → Prop}

theorem yield_sound (hA : Amb P n l N B J Jx own G) {w0 : World} {WS0 : Nat → Nat → Prop} {o : Oper} {c : Cx} {a : Act} {st : St} {y : Yd} {K : St → Yd → Prop} {next : Act → World → Prop} {Q : Exit → Act → World → Prop}
    (h : yieldW l N o st y K) (hF : InvF c a st) (hM : InvM w0 WS0 c st.mem) (hy : YR J Jx own G y w0 WS0)
    (hk : ∀ w0' WS0' c' a' st' y', K st' y' → InvF c' a' st' → InvM w0' WS0' c' st'.mem → (∀ id, Fresh c' st'.mem id) → YR J Jx own G y' w0' WS0' → next a' c'.x.W) : o.wpIn Fence.wide n P a c.x.W next Q := by
  obtain ⟨dst, op, type, pos, after, guard⟩ := o
  cases op with
  | call cl =>
    obtain ⟨callee, args, argTypes⟩ := cl
    simp only [yieldW] at h
    split at h
    · rename_i f x hx
      obtain ⟨⟨hf, hst⟩, i, ⟨hxv, hlen⟩, k1, k2⟩ := h
      have hargs : args = #[x] := by apply Array.ext'; simpa using hx
      subst hargs
      have e1 := hF.ev f
      rw [hf] at e1
      have e2 := hF.ev x
      rw [hxv] at e2
      unfold RepD Rep at e1 e2
      unfold YR at hy
      rw [hst, if_neg (by simp)] at hy
      obtain ⟨hJ, hG, hWS⟩ := hy
      have hJ1 := abides_no hA.aJ hJ hM.chg
      obtain ⟨hG1, ho1⟩ := hA.stab _ _ hG hM.chg
      obtain ⟨fn, tmps, assign, body, hrun, hR⟩ := hA.yld y.ys i _ hJ1 hlen
      unfold Oper.wpIn
      refine ⟨fun _ _ => trivial, ?_⟩
      rw [show Fence.wide.round = none from rfl, Oper.semAt_none]
      have hex : (execOp a.eval ⟨dst, .call ⟨.value f, #[x], argTypes⟩, type, pos, after, guard⟩).run P c.x.W = .ok (.round l fn tmps assign body) c.x.W := by
        simp [execOp, resolve, e1, e2, Deferred.ofValue, invoke, hrun]
      rw [hex]
      refine ⟨(fun hx => by cases hx), hR.mono ?_⟩
      rintro e W' (⟨rfl, hJ', hK⟩ | ⟨rfl, hJx⟩)
      · obtain ⟨hG', hsub, hsz⟩ := hK hG1
        have hs : Sub c.x (bareC own W').x := fun b oo u hc hn => by
          refine hsub b oo u hc (fun hb => hn ?_)
          exact hM.ws0 _ _ ((hWS b oo).2 ((ho1 b).1 hb))
        refine hk W' (fun b _ => own W' b) (bareC own W') _ _ ⟨y.ys ++ [i], false⟩ k1 ?_ ?_ ?_ ?_
        · exact InvF.put (st := st.bare) ⟨hF.size, hF.defers, fun t => bare_rep hs (hF.fr t)⟩ rfl rfl (by unfold RepD Rep; rfl) dst
        · rw [(put_mem _ _ _).1]; exact noM_inv fun b _ hb => hA.bnd W' hG' b hb
        · intro id; rw [(put_mem _ _ _).1]; exact noM_fresh _ id
        · unfold YR
          rw [if_neg (by simp)]
          exact ⟨hJ', hG', fun _ _ => Iff.rfl⟩
      · refine hk W' (fun _ _ => False) ⟨fun _ _ => none, ⟨fun _ _ => False, W'⟩⟩ _ _ ⟨y.ys ++ [i], true⟩ k2 ?_ ?_ ?_ ?_
        · exact InvF.put (st := st.only) ⟨hF.size, hF.defers, fun t => only_rep (hF.fr t)⟩ rfl rfl (by unfold RepD Rep; rfl) dst
        · rw [(put_mem _ _ _).1]; exact noM_inv fun b _ hb => hb.elim
        · intro id; rw [(put_mem _ _ _).1]; exact noM_fresh _ id
        · unfold YR
          rw [if_pos rfl]
          exact hJx
    · exact h.elim
  | _ => exact h.elim

theorem region_sound (hA : Amb P n l N B J Jx own G) {w0 : World} {WS0 : Nat → Nat → Prop} {ops : Array Oper} {draw : Bool} {m id : Nat} {c : Cx} {a : Act} {st : St} {y : Yd} {K : St → Yd → Prop} {Q : Exit → Act → World → Prop}
    (h : headW P ops draw m st fun s => tailW P l N ops st.next m s y K) (hI : Inv w0 WS0 c a st) (hy : YR J Jx own G y w0 WS0)
    (hk : ∀ w0' WS0' c' a' st' y', K st' y' → Inv w0' WS0' c' a' st' → YR J Jx own G y' w0' WS0' → Q .normal a' c'.x.W) : (Code.region id ops draw).wpIn Fence.wide n P Q a c.x.W := by
  refine head_sound h hI ?_
  rintro c1 a1 s1 ht - hF hM hn hfr
  unfold tailW at ht
  obtain ⟨o, ho, g, hg, ht⟩ := ht
  have hlt : m < ops.size := (Array.getElem?_eq_some_iff.1 ho).1
  have hd : ops.toList.drop m = o :: ops.toList.drop (m + 1) := by
    rw [List.drop_eq_getElem_cons (by simpa using hlt)]
    congr 1
    have := (Array.getElem?_eq_some_iff.1 ho).2
    simpa using this
  have rest : ∀ (w0' : World) (WS0' : Nat → Nat → Prop) (c' : Cx) (a' : Act) (s' : St) (y' : Yd), opsL P ops st.next (m + 1) (ops.toList.drop (m + 1)) s' (fun s => K { s with next := st.next + ops.size } y') → InvF c' a' s' → InvM w0' WS0' c' s'.mem →
      (∀ id, st.next + m < id → Fresh c' s'.mem id) → YR J Jx own G y' w0' WS0' → wpListIn Fence.wide n P ops Q (ops.toList.drop (m + 1)) a' c'.x.W := by
    intro w0' WS0' c' a' s' y' h1 h2 h3 h4 h5
    have hp : ∀ j, j < (ops.toList.drop (m + 1)).length → ops[(m + 1) + j]? = (ops.toList.drop (m + 1))[j]? := fun j hj => by
      rw [List.getElem?_drop]
      simp
    rw [opsL_part _ (m + 1) hp] at h1
    have key := ops_sound (Q := TailQ n P ops Q []) _ c' a' s' h1 h2 h3 (fun i hi => h4 _ (by obtain ⟨q, hq, rfl⟩ := List.mem_range'.1 hi; omega)) List.nodup_range' (fun c'' a'' st'' k1 _ k2 k3 k4 k5 k6 => hk w0' WS0' c'' a'' _ y' k1 ⟨⟨k2.size, k2.defers, k2.fr⟩, k3, fun id hid => k6 id (fun i hi => by
      obtain ⟨q, hq, rfl⟩ := List.mem_range'.1 hi
      simp at hq hid
      omega) (h4 _ (by simp at hid; omega))⟩ h5)
    have := list_of_ops _ (m + 1) hp a' _ key
    simpa using this
  rw [hd]
  unfold wpListIn
  rw [wanted_of hF hg]
  cases g with
  | true =>
    rw [if_pos rfl]
    unfold gif at ht
    rw [if_pos rfl] at ht
    refine yield_sound hA ht hF hM hy ?_
    intro w0' WS0' c' a' st' y' k1 k2 k3 k4 k5
    exact rest w0' WS0' c' a' st' y' k1 k2 k3 (fun id _ => k4 id) k5
  | false =>
    rw [if_neg (by simp)]
    unfold gif at ht
    rw [if_neg (by simp)] at ht
    refine ⟨fun _ _ => trivial, rest w0 WS0 c1 _ _ y ht ?_ ?_ ?_ hy⟩
    · exact InvF.put (st := s1) hF rfl rfl (by unfold undefD RepD Rep; rfl) _
    · rw [(put_mem _ _ _).1]; exact hM
    · intro id hid; rw [(put_mem _ _ _).1]; exact hfr id (by omega)

theorem runI_sound (hA : Amb P n l N B J Jx own G) : ∀ (cd : Code) (st : St) (y : Yd) (k : Ex → St → Yd → Prop), runI P l N cd st y k → ∀ (w0 : World) (WS0 : Nat → Nat → Prop) (c : Cx) (a : Act), Inv w0 WS0 c a st → YR J Jx own G y w0 WS0 → ∀ (Q : Exit → Act → World → Prop),
    (∀ e w0' WS0' c' a' st' y', k e st' y' → Inv w0' WS0' c' a' st' → YR J Jx own G y' w0' WS0' → Q (exOf e) a' c'.x.W) → cd.wp P Q a c.x.W := by
  intro cd
  induction cd with
  | skip => exact fun st y k h w0 WS0 c a hI hy Q hk => wp_skip (hk .normal _ _ c a st y h hI hy)
  | region id ops draw =>
    intro st y k h w0 WS0 c a hI hy Q hk
    unfold runI at h
    rcases h with h | ⟨m, h⟩
    · refine run_sound (.region id ops draw) st (fun e s => match e with
        | .normal => k .normal s y
        | _ => False) h c a hI Q ?_
      intro e c' a' st' he hI'
      cases e with
      | normal => exact hk .normal _ _ c' a' st' y he hI' hy
      | exit id => exact he.elim
      | ret => exact he.elim
    · refine wpIn_wide.1 (region_sound hA (n := n) h hI hy ?_)
      intro w0' WS0' c' a' st' y' h1 h2 h3
      exact hk .normal _ _ c' a' st' y' h1 h2 h3
  | seq x z ihx ihz =>
    intro st y k h w0 WS0 c a hI hy Q hk
    unfold runI at h
    refine wp_seq (ihx st y _ h w0 WS0 c a hI hy _ ?_)
    intro e w0' WS0' c' a' st' y' he hI' hy'
    cases e with
    | normal => exact ihz st' y' k he w0' WS0' c' a' hI' hy' Q hk
    | exit id => exact hk (.exit id) _ _ c' a' st' y' he hI' hy'
    | ret => exact hk .ret _ _ c' a' st' y' he hI' hy'
  | cond cc x z ihx ihz =>
    intro st y k h w0 WS0 c a hI hy Q hk
    unfold runI at h
    obtain ⟨t, ht, h⟩ := h
    have hc := truth_rep (hI.F.ev cc) ht
    refine wp_cond hc ?_
    cases t with
    | true => exact ihx st y k h w0 WS0 c a hI hy Q hk
    | false => exact ihz st y k h w0 WS0 c a hI hy Q hk
  | block id x ih =>
    intro st y k h w0 WS0 c a hI hy Q hk
    unfold runI at h
    refine wp_block (ih st y _ h w0 WS0 c a hI hy _ ?_)
    intro e w0' WS0' c' a' st' y' he hI' hy'
    cases e with
    | normal => exact hk .normal _ _ c' a' st' y' he hI' hy'
    | exit j =>
      simp only at he
      show (if j = id then Q .normal a' c'.x.W else Q (.exit j) a' c'.x.W)
      split at he
      · rename_i hj; rw [if_pos hj]; exact hk .normal _ _ c' a' st' y' he hI' hy'
      · rename_i hj; rw [if_neg hj]; exact hk (.exit j) _ _ c' a' st' y' he hI' hy'
    | ret => exact hk .ret _ _ c' a' st' y' he hI' hy'
  | loop x ih =>
    intro st0 y0 k h w0 WS0 c0 a hI0 hy0 Q hk
    unfold runI at h
    obtain ⟨as, num, h⟩ := h
    obtain ⟨c, hI, ec, -, -⟩ := adopts_sound as c0 a st0 hI0
    rw [← ec]
    revert h hI
    generalize St.adopts as st0 = st
    intro h hI
    intro b kk cs
    generalize st.next = bb at h
    have key : ∀ (num : Nat) (st : St) (y : Yd), iterI (runI P l N x) bb num st y k → ∀ (w0 : World) (WS0 : Nat → Nat → Prop) (c : Cx) (a : Act), Inv w0 WS0 c a st → YR J Jx own G y w0 WS0 →
        ∃ e a' w', Q e a' w' ∧ Arrives P (lone (b.at a (.code x :: .inLoop x :: kk)) cs c.x.W) b kk cs e a' w' := by
      intro num
      induction num with
      | zero => intro st y h; exact h.elim
      | succ num ihn =>
        intro st y h w0 WS0 c a hI hy
        unfold iterI at h
        have hw := ih (st.trim bb) y _ h w0 WS0 (c.trim bb) a (hI.trim bb) hy (Exit.then (fun a' w' => ∃ e a'' w'', Q e a'' w'' ∧ Arrives P (lone (b.at a' (.code x :: .inLoop x :: kk)) cs w') b kk cs e a'' w'') Q) (by
          intro e w0' WS0' c' a' st' y' he hI' hy'
          cases e with
          | normal => exact ihn st' y' he w0' WS0' c' a' hI' hy'
          | exit id => exact hk (.exit id) _ _ c' a' st' y' he hI' hy'
          | ret => exact hk .ret _ _ c' a' st' y' he hI' hy')
        obtain ⟨e, a₁, w₁, hq, harr⟩ := hw b (.inLoop x :: kk) cs
        cases e with
        | normal =>
          obtain ⟨e₂, a₂, w₂, hq₂, harr₂⟩ := hq
          exact ⟨e₂, a₂, w₂, hq₂, .of_steps (Steps.trans harr (.one step_inLoop)) harr₂⟩
        | exit id => exact ⟨_, a₁, w₁, hq, .pass (x := .inLoop x) rfl (fun _ _ => .inl (by simp)) harr⟩
        | goto l => exact ⟨_, a₁, w₁, hq, .pass (x := .inLoop x) rfl (fun _ _ => .inl (by simp)) harr⟩
        | ret => exact ⟨_, a₁, w₁, hq, .pass (x := .inLoop x) rfl (fun _ _ => .inl (by simp)) harr⟩
        | panic ch => exact ⟨_, a₁, w₁, hq, .pass (x := .inLoop x) rfl (fun _ _ => .inl (by simp)) harr⟩
        | outgrown => exact ⟨_, a₁, w₁, hq, .pass (x := .inLoop x) rfl (fun _ _ => .inl (by simp)) harr⟩
    obtain ⟨e, a', w', hq, harr⟩ := key num st y0 h w0 WS0 c a hI hy0
    exact ⟨e, a', w', hq, .of_steps (.one step_loop) harr⟩
  | exit id =>
    intro st y k h w0 WS0 c a hI hy Q hk
    exact wp_exit (hk (.exit id) _ _ c a st y h hI hy)
  | ret =>
    intro st y k h w0 WS0 c a hI hy Q hk
    exact wp_ret (hk .ret _ _ c a st y h hI hy)
  | rangeFunc => intro st y k h; exact h.elim
  | scope => intro st y k h; exact h.elim
  | label => intro st y k h; exact h.elim
  | goto => intro st y k h; exact h.elim
  | refuse => intro st y k h; exact h.elim

/-- AN ITERATOR: whoever asks gets the numbers xs, one by one, as long as he says yes. -/
def IterI (P : Program) (f : FuncId) (caps : List FD) (xs : List Int) : Prop :=
  Goes' P f ∧ ∀ (own : World → Nat → Prop) (G : World → Prop) (n : Nat) (w : World) (vs : List Value), Own1 own G → G w → RepL ⟨fun b _ => own w b, w⟩ vs caps →
    SeqStopsK Fence.wide n P f vs.toArray (fun i : Int => #[.int .i64 i]) (KpO own G) (fun ys => ys = xs) (fun _ => True) xs.length w

/-- the same, and each number is one of which R holds -/
def IterR (R : Int → Prop) (P : Program) (f : FuncId) (caps : List FD) (xs : List Int) : Prop :=
  Goes' P f ∧ ∀ (own : World → Nat → Prop) (G : World → Prop) (n : Nat) (w : World) (vs : List Value), Own1 own G → G w → RepL ⟨fun b _ => own w b, w⟩ vs caps →
    SeqStopsK (α := {i : Int // R i}) Fence.wide n P f vs.toArray (fun i => #[.int .i64 i.1]) (KpO own G) (fun ys => ys.map (·.1) = xs) (fun _ => True) xs.length w
def upJ (R : Int → Prop) (J : List {i : Int // R i} → World → Prop) (l : List Int) (w : World) : Prop := ∃ l' : List {i : Int // R i}, l'.map (·.1) = l ∧ J l' w
theorem upJ_abides {R : Int → Prop} {B : Nat} {J : List {i : Int // R i} → World → Prop} (h : AbidesFrom B J) : AbidesFrom B (upJ R J) := fun s X Y row ⟨l', e, hs⟩ hg hr => ⟨l', e, h l' X Y row hs hg hr⟩
theorem yieldAt_mono {F : Fence} {n : Nat} {l : Nat} {xs : Array Value} {W : World} {Q Q' : Ending → World → Prop} (h : YieldAt F n P l xs W Q) (hk : ∀ e W', Q e W' → Q' e W') : YieldAt F n P l xs W Q' := by
  obtain ⟨fn, tmps, assign, body, hrun, hR⟩ := h
  exact ⟨fn, tmps, assign, body, hrun, hR.mono hk⟩
theorem enter_inv {x : X} (hws : ∀ b o, x.WS b o → b < x.W.heap.size) {vs : List Value} {ds : List FD} (hr : RepL x vs ds) {k : Nat} (hn : ds.length ≤ k) (lit : Bool) :
    Inv x.W x.WS ⟨fun _ _ => none, x⟩ { tmps := vs.toArray ++ Array.replicate (k - vs.toArray.size) undef, defers := [] } (St.enter k ds lit) := by
  have hl := repL_len hr
  have hF : InvF ⟨fun _ _ => none, x⟩ { tmps := vs.toArray ++ Array.replicate (k - vs.toArray.size) undef, defers := [] } (St.enter k ds lit) := by
    refine ⟨by simp [St.enter]; omega, rfl, fun t => ?_⟩
    simp only [St.enter, entF]
    split
    · rename_i d' hd'
      have ht : t < ds.length := (List.getElem?_eq_some_iff.1 hd').1
      obtain ⟨u, hu, hru⟩ := repL_get hr hd'
      have e : (vs.toArray ++ Array.replicate (k - vs.toArray.size) undef).getD t undef = u := by
        rw [Array.getD_eq_getD_getElem?, Array.getElem?_append_left (by simp; omega)]
        simp [hu]
      rw [e]
      unfold RepD
      exact hru
    · rename_i hd'
      have ht : ds.length ≤ t := List.getElem?_eq_none_iff.1 hd'
      have e : (vs.toArray ++ Array.replicate (k - vs.toArray.size) undef).getD t undef = undef := by
        rw [Array.getD_eq_getD_getElem?, Array.getElem?_append_right (by simp; omega)]
        simp only [Array.getElem?_replicate]
        split <;> rfl
      rw [e]
      unfold RepD Rep
      rfl
  exact ⟨hF, ⟨fun id m hm => by simp [St.enter, noM] at hm, fun id id' m m' b hm => by simp [St.enter, noM] at hm, Chg.refl _ _, fun b o h => h, hws, hws, fun g e ver sz xs hm => by simp [St.enter, noM] at hm⟩, fun id _ => ⟨rfl, fun v => rfl⟩⟩

theorem iterR_of_run {f : FuncId} {fn : Func} {cd : Code} {caps : List FD} {xs : List Int} {k : Nat} {lit : Bool} (R : Int → Prop) (hf : P.funcs[f]? = some fn) (hb : fn.body = some cd) (hname : (fn.name == "runtime.NumGoroutine") = false) (hnt : fn.ntmps = k) (hrs : fn.results.toList = []) (hn : caps.length + 1 ≤ k)
    (h : ∀ l, runI P l (fun ys i => ys.length < xs.length ∧ R i) cd (St.enter k (.v (.func (.yield l) #[] #[]) :: caps) lit) ⟨[], false⟩ fun e _ y => e.fin = true ∧ (y.stop = false → y.ys = xs)) : IterR R P f caps xs := by
  subst hnt
  refine ⟨goes_of hf hname hb, fun own G n w vs hO hG hr => ?_⟩
  intro l J Jx W hW hJ hJx hY h0
  have hcW : Chg No w W := Chg.of_below hW
  obtain ⟨hGW, hoW⟩ := hO.stab _ _ hG hcW
  have hA : Amb P n l (fun ys i => ys.length < xs.length ∧ R i) W.heap.size (upJ R J) (upJ R Jx) own G := ⟨hO, upJ_abides hJ, upJ_abides hJx, fun pre x W1 hj hN => by
    obtain ⟨pre', rfl, hj⟩ := hj
    refine yieldAt_mono (hY pre' ⟨x, hN.2⟩ W1 hj (by simpa using hN.1)) fun e W' h => ?_
    rcases h with ⟨h1, h2, h3⟩ | ⟨h1, h2⟩
    · exact .inl ⟨h1, ⟨_, by simp, h2⟩, h3⟩
    · exact .inr ⟨h1, ⟨_, by simp, h2⟩⟩⟩
  have hr' : RepL (bareC own W).x (.func (.yield l) #[] #[] :: vs) (.v (.func (.yield l) #[] #[]) :: caps) := by
    unfold RepL
    refine ⟨_, _, rfl, by unfold Rep; rfl, RepL.mono ?_ hr⟩
    intro b o u hc hno
    exact ⟨hcW.cell hc id, fun hb => hno ((hoW b).1 hb)⟩
  refine callsIn_wide.2 (calls_of_wp hf hb ?_)
  have e : #[Value.func (.yield l) #[] #[]] ++ vs.toArray = (Value.func (.yield l) #[] #[] :: vs).toArray := by apply Array.ext'; simp
  rw [e]
  have hI := enter_inv (x := (bareC own W).x) (fun b _ hb => hO.bnd W hGW b hb) hr' (k := fn.ntmps) (by simpa using hn) lit
  refine runI_sound hA cd _ _ _ (h l) W _ (bareC own W) _ hI ?_ _ ?_
  · unfold YR
    rw [if_neg (by simp)]
    exact ⟨⟨[], rfl, h0⟩, hGW, fun _ _ => Iff.rfl⟩
  · rintro e w0 WS0 c a st y ⟨hfin, hxs⟩ hI' hy
    have hrun : (results fn a.tmps).run P c.x.W = .ok (.tuple #[]) c.x.W := by
      have : fn.results = #[] := by apply Array.ext'; simpa using hrs
      simp [results, this]
    have main : (∃ ys : List {i : Int // R i}, ys.map (·.1) = xs ∧ J ys c.x.W) ∨ ∃ pre, True ∧ Jx pre c.x.W := by
      unfold YR at hy
      split at hy
      · obtain ⟨pre, -, h⟩ := abides_no (upJ_abides hJx) hy hI'.M.chg
        exact .inr ⟨pre, trivial, h⟩
      · rename_i hs
        obtain ⟨pre, e, h⟩ := abides_no (upJ_abides hJ) hy.1 hI'.M.chg
        exact .inl ⟨pre, e.trans (hxs (by simpa using hs)), h⟩
    cases e with
    | normal => exact ⟨hI'.F.defers, _, hrun, ⟨_, rfl⟩, main⟩
    | ret => exact ⟨hI'.F.defers, _, hrun, ⟨_, rfl⟩, main⟩
    | exit id => simp [Ex.fin] at hfin
theorem IterR.toI {R : Int → Prop} {f : FuncId} {caps : List FD} {xs : List Int} (h : IterR R P f caps xs) : IterI P f caps xs := by
  refine ⟨h.1, fun own G n w vs hO hG hr => ?_⟩
  intro l J Jx W hW hJ hJx hY h0
  refine (h.2 own G n w vs hO hG hr l (fun ys W => J (ys.map (·.1)) W) (fun ys W => Jx (ys.map (·.1)) W) W hW (fun s => hJ _) (fun s => hJx _) (fun pre x W1 h1 h2 => ?_) h0).mono ?_
  · have := hY _ x.1 W1 h1 (by simpa using h2)
    simpa using this
  · rintro e W' ⟨h1, ⟨ys, h2, h3⟩ | ⟨pre, -, h3⟩⟩
    · exact ⟨h1, .inl ⟨_, h2, h3⟩⟩
    · exact ⟨h1, .inr ⟨_, trivial, h3⟩⟩
theorem IterR.of_run {f : FuncId} {fn : Func} {cd : Code} {caps : List FD} {xs : List Int} {k : Nat} {lit : Bool} (R : Int → Prop) (hf : P.funcs[f]? = some fn) (hb : fn.body = some cd) (hname : (fn.name == "runtime.NumGoroutine") = false) (hnt : fn.ntmps = k) (hrs : fn.results.toList = []) (hn : caps.length + 1 ≤ k)
    (h : ∀ l, runI P l (fun ys i => ys.length < xs.length ∧ R i) cd (St.enter k (.v (.func (.yield l) #[] #[]) :: caps) lit) ⟨[], false⟩ fun e _ y => e.fin = true ∧ (y.stop = false → y.ys = xs)) : IterR R P f caps xs := iterR_of_run R hf hb hname hnt hrs hn h
theorem IterI.of_run {f : FuncId} {fn : Func} {cd : Code} {caps : List FD} {xs : List Int} {k : Nat} {lit : Bool} (hf : P.funcs[f]? = some fn) (hb : fn.body = some cd) (hname : (fn.name == "runtime.NumGoroutine") = false) (hnt : fn.ntmps = k) (hrs : fn.results.toList = []) (hn : caps.length + 1 ≤ k)
    (h : ∀ l, runI P l (fun ys _ => ys.length < xs.length) cd (St.enter k (.v (.func (.yield l) #[] #[]) :: caps) lit) ⟨[], false⟩ fun e _ y => e.fin = true ∧ (y.stop = false → y.ys = xs)) : IterI P f caps xs := by
  have e : (fun (ys : List Int) (_ : Int) => ys.length < xs.length) = fun ys i => ys.length < xs.length ∧ (fun _ : Int => True) i := by
    funext ys i
    simp
  rw [e] at h
  exact (iterR_of_run (fun _ => True) hf hb hname hnt hrs hn h).toI
end Go.Dn
end
section
namespace Go.Dn
open Go.RowKit Go.Dk

section
variable {P : Program} {l : Nat} {N : List Int → Int → Prop}
theorem yieldW_mono {o : Oper} {st : St} {y : Yd} {K K' : St → Yd → Prop} (h : yieldW l N o st y K) (hk : ∀ s y, K s y → K' s y) : yieldW l N o st y K' := by
  obtain ⟨dst, op, type, pos, after, guard⟩ := o
  cases op with
  | call cl =>
    obtain ⟨callee, args, argTypes⟩ := cl
    simp only [yieldW] at h ⊢
    split at h
    · rename_i f x hx
      obtain ⟨h1, i, h2, h3, h4⟩ := h
      exact ⟨h1, i, h2, hk _ _ h3, hk _ _ h4⟩
    · exact h.elim
  | _ => exact h.elim
theorem tailW_mono {ops : Array Oper} {base m : Nat} {st : St} {y : Yd} {K K' : St → Yd → Prop} (h : tailW P l N ops base m st y K) (hk : ∀ s y, K s y → K' s y) : tailW P l N ops base m st y K' :=
  ob_mono h fun _ h => ob_mono h fun _ h => gif_mono h (fun h => yieldW_mono h fun _ _ h => opsL_mono (fun _ h => hk _ _ h) _ _ _ h) (fun h => opsL_mono (fun _ h => hk _ _ h) _ _ _ h)
theorem headW_mono {ops : Array Oper} {draw : Bool} {m : Nat} {st : St} {K K' : St → Prop} (h : headW P ops draw m st K) (hk : ∀ s, K s → K' s) : headW P ops draw m st K' := by
  unfold headW at h ⊢
  split at h
  · rename_i hd
    rw [if_pos hd]
    obtain ⟨A, h1, h2, h3⟩ := h
    exact ⟨A, h1, h2, opsD_mono hk _ _ _ h3⟩
  · rename_i hd
    rw [if_neg hd]
    exact opsL_mono hk _ _ _ h
theorem regionW_mono {ops : Array Oper} {draw : Bool} {st : St} {K K' : St → Prop} (h : regionW P ops draw st K) (hk : ∀ s, K s → K' s) : regionW P ops draw st K' := by
  unfold regionW at h ⊢
  split at h
  · rename_i hd
    rw [if_pos hd]
    obtain ⟨A, h1, h2, h3⟩ := h
    exact ⟨A, h1, h2, opsD_mono (fun _ h => hk _ h) _ _ _ h3⟩
  · rename_i hd
    rw [if_neg hd]
    exact opsL_mono (fun _ h => hk _ h) _ _ _ h
theorem iterI_mono {F : St → Yd → (Ex → St → Yd → Prop) → Prop} {b : Nat} (hF : ∀ st y (k k' : Ex → St → Yd → Prop), (∀ e s y, k e s y → k' e s y) → F st y k → F st y k') {k k' : Ex → St → Yd → Prop} (hk : ∀ e s y, k e s y → k' e s y) : ∀ (n m : Nat) (st : St) (y : Yd), n ≤ m → iterI F b n st y k → iterI F b m st y k'
  | 0, _, _, _, _, h => h.elim
  | n + 1, 0, _, _, hle, _ => by omega
  | n + 1, m + 1, st, y, hle, h => by
    unfold iterI at h ⊢
    refine hF _ _ _ _ (fun e s y h => ?_) h
    cases e with
    | normal => exact iterI_mono hF hk n m s y (by omega) h
    | exit id => exact hk _ _ _ h
    | ret => exact hk _ _ _ h
theorem runI_mono : ∀ (c : Code) (st : St) (y : Yd) (k k' : Ex → St → Yd → Prop), (∀ e s y, k e s y → k' e s y) → runI P l N c st y k → runI P l N c st y k' := by
  intro c
  induction c with
  | skip => exact fun st y k k' hk h => hk _ _ _ h
  | region id ops draw =>
    intro st y k k' hk h
    unfold runI at h ⊢
    rcases h with h | ⟨m, h⟩
    · exact .inl (regionW_mono h fun _ h => hk _ _ _ h)
    · exact .inr ⟨m, headW_mono h fun _ h => tailW_mono h fun _ _ h => hk _ _ _ h⟩
  | seq x z ihx ihz =>
    intro st y k k' hk h
    unfold runI at h ⊢
    refine ihx _ _ _ _ (fun e s y h => ?_) h
    cases e with
    | normal => exact ihz _ _ _ _ hk h
    | exit id => exact hk _ _ _ h
    | ret => exact hk _ _ _ h
  | cond c x z ihx ihz =>
    intro st y k k' hk h
    unfold runI at h ⊢
    exact ob_mono h fun _ h => gif_mono h (ihx _ _ _ _ hk) (ihz _ _ _ _ hk)
  | block id x ih =>
    intro st y k k' hk h
    unfold runI at h ⊢
    refine ih _ _ _ _ (fun e s y h => ?_) h
    cases e with
    | normal => exact hk _ _ _ h
    | exit j =>
      simp only at h ⊢
      split at h
      · rename_i hj; rw [if_pos hj]; exact hk _ _ _ h
      · rename_i hj; rw [if_neg hj]; exact hk _ _ _ h
    | ret => exact hk _ _ _ h
  | loop x ih =>
    intro st y k k' hk h
    unfold runI at h ⊢
    obtain ⟨as, n, h⟩ := h
    exact ⟨as, n, iterI_mono (fun st y k k' => ih st y k k') hk n n _ _ (Nat.le_refl _) h⟩
  | exit id => exact fun st y k k' hk h => hk _ _ _ h
  | ret => exact fun st y k k' hk h => hk _ _ _ h
  | rangeFunc => exact fun _ _ _ _ _ h => h.elim
  | scope => exact fun _ _ _ _ _ h => h.elim
  | label => exact fun _ _ _ _ _ h => h.elim
  | goto => exact fun _ _ _ _ _ h => h.elim
  | refuse => exact fun _ _ _ _ _ h => h.elim
theorem runI_loop_inv {c : Code} {st : St} {y : Yd} {k : Ex → St → Yd → Prop} (as : List Ad) (b : Nat) (hb : (St.adopts as st).next = b) (I : Nat → St → Yd → Prop) (n0 : Nat) (h0 : I n0 ((St.adopts as st).trim b) y)
    (step : ∀ n s y, s.next = b → I n s y → runI P l N c s y fun e s' y' => match e with
      | .normal => ∃ m, m < n ∧ I m (s'.trim b) y'
      | e => k e s' y') : runI P l N (.loop c) st y k := by
  subst hb
  have key : ∀ n (s : St) (y : Yd), I n (s.trim (St.adopts as st).next) y → iterI (runI P l N c) (St.adopts as st).next (n + 1) s y k := by
    intro n
    induction n using Nat.strongRecOn with
    | _ n ih =>
      intro s y hI
      refine runI_mono c _ _ _ _ (fun e s' y' h => ?_) (step n _ _ rfl hI)
      cases e with
      | normal =>
        obtain ⟨m, hm, h⟩ := h
        exact iterI_mono (fun st y k k' => runI_mono c st y k k') (fun _ _ _ h => h) (m + 1) n s' y' hm (ih m hm s' y' h)
      | exit id => exact h
      | ret => exact h
  exact ⟨as, n0 + 1, key n0 _ _ h0⟩
end

def runIL (P : Program) (l : Nat) (N : List Int → Int → Prop) (c : Code) (st : St) (y : Yd) (k : Ex → St → Yd → Prop) (_ : Lk k) : Prop := runI P l N c st y k
def yieldWL (l : Nat) (N : List Int → Int → Prop) (o : Oper) (st : St) (y : Yd) (K : St → Yd → Prop) (_ : Lk K) : Prop := yieldW l N o st y K
section
variable {P : Program} {l : Nat} {N : List Int → Int → Prop} {st : St} {y : Yd} {k : Ex → St → Yd → Prop} {u : Lk k}
theorem runI_of_runIL {c : Code} (h : runIL P l N c st y k ⟨⟩) : runI P l N c st y k := h
theorem runIL_seq (a b : Code) : runIL P l N (.seq a b) st y k u = runIL P l N a st y (fun e s y => match e with
    | .normal => runIL P l N b s y k ⟨⟩
    | e => k e s y) ⟨⟩ := rfl
theorem runIL_cond (c : Operand) (a b : Code) : runIL P l N (.cond c a b) st y k u = obL (truth (st.ev c)) (fun t => gifL t (runIL P l N a st y k ⟨⟩) (runIL P l N b st y k ⟨⟩) ⟨⟩ ⟨⟩) ⟨⟩ := rfl
theorem runIL_block (id : Nat) (c : Code) : runIL P l N (.block id c) st y k u = runIL P l N c st y (fun e s y => match e with
    | .exit j => if j = id then k .normal s y else k (.exit j) s y
    | e => k e s y) ⟨⟩ := rfl
theorem runIL_exit (id : Nat) : runIL P l N (.exit id) st y k u = k (.exit id) st y := rfl
theorem runIL_ret : runIL P l N .ret st y k u = k .ret st y := rfl
theorem runIL_skip : runIL P l N .skip st y k u = k .normal st y := rfl
/-- a region without yield -/
theorem runIL_reg {id : Nat} {ops : List Oper} (h : opsLL P ops.toArray st.next 0 ops st (fun s => k .normal { s with next := st.next + ops.toArray.size } y) ⟨⟩) : runIL P l N (.region id ops.toArray false) st y k u := .inl h
theorem runIL_loop {c : Code} (as : List Ad) (b : Nat) (hb : (St.adopts as st).next = b) (I : Nat → St → Yd → Prop) (n0 : Nat) (h0 : I n0 ((St.adopts as st).trim b) y)
    (step : ∀ n s y, s.next = b → I n s y → runIL P l N c s y (fun e s' y' => match e with
      | .normal => ∃ m, m < n ∧ I m (s'.trim b) y'
      | e => k e s' y') ⟨⟩) : runIL P l N (.loop c) st y k u := runI_loop_inv as b hb I n0 h0 step
/-- what is behind operation m -/
def restL (P : Program) (l : Nat) (N : List Int → Int → Prop) (ops : Array Oper) (base m : Nat) (o : Oper) (tl : List Oper) (K : St → Yd → Prop) (y : Yd) (s : St) : Prop :=
  obL (gval ops s o.guard) (fun g => gifL g
    (yieldWL l N o s y (fun s y' => opsLL P ops base (m + 1) tl s (fun s => K { s with next := base + ops.size } y') ⟨⟩) ⟨⟩)
    (opsLL P ops base (m + 1) tl (s.put o.dst undefD) (fun s => K { s with next := base + ops.size } y) ⟨⟩) ⟨⟩ ⟨⟩) ⟨⟩
theorem drop_cons {α : Type} {ops : List α} {m : Nat} {o : α} {tl : List α} (h : ops.drop m = o :: tl) : ops[m]? = some o ∧ ops.drop (m + 1) = tl := by
  constructor
  · have h1 : (ops.drop m)[0]? = some o := by rw [h]; rfl
    rw [List.getElem?_drop] at h1
    simpa using h1
  · rw [← List.drop_drop, h]; rfl
theorem tail_of {ops : List Oper} {base m : Nat} {o : Oper} {tl : List Oper} (h2 : ops.drop m = o :: tl) {K : St → Yd → Prop} {s : St} (h : restL P l N ops.toArray base m o tl K y s) : tailW P l N ops.toArray base m s y K := by
  obtain ⟨e1, e2⟩ := drop_cons h2
  unfold tailW
  rw [List.getElem?_toArray, e1]
  simp only
  rw [e2]
  exact ⟨o, rfl, h⟩
/-- a region whose operation m is a yield -/
theorem runIL_yreg (m : Nat) {id : Nat} {ops hd tl : List Oper} {o : Oper} (h1 : ops.take m = hd) (h2 : ops.drop m = o :: tl) (h : opsLL P ops.toArray st.next 0 hd st (fun s => restL P l N ops.toArray st.next m o tl (fun s y => k .normal s y) y s) ⟨⟩) : runIL P l N (.region id ops.toArray false) st y k u := by
  refine .inr ⟨m, ?_⟩
  unfold headW
  rw [if_neg (by simp)]
  simp only
  rw [h1]
  exact opsL_mono (fun s hs => tail_of h2 hs) _ _ _ h
theorem runIL_ydraw (m : Nat) (A : List (List Nat)) {id : Nat} {ops hd tl : List Oper} {o : Oper} (h1 : ops.take m = hd) (h2 : ops.drop m = o :: tl) (hm : P.follows .mixedOrders = true) (hA : drawOk hd A = true) (b1 : headB .any hd = true) (b2 : sinksB .any hd (o :: tl) = true) (b3 : chainsB .any hd (o :: tl) = true)
    (h : opsDL P hd A st.next 0 hd st (fun s => restL P l N ops.toArray st.next m o tl (fun s y => k .normal s y) y s) ⟨⟩) : runIL P l N (.region id ops.toArray true) st y k u := by
  refine .inr ⟨m, ?_⟩
  unfold headW
  rw [if_pos rfl]
  simp only
  rw [h1, h2]
  exact ⟨A, ⟨hA, hm⟩, ⟨b1, b2, b3⟩, opsD_mono (fun s hs => tail_of h2 hs) _ _ _ h⟩
theorem runIL_draw (A : List (List Nat)) {id : Nat} {ops : List Oper} (hm : P.follows .mixedOrders = true) (hA : drawOk ops A = true)
    (h : opsDL P ops A st.next 0 ops st (fun s => k .normal { s with next := st.next + ops.toArray.size } y) ⟨⟩) : runIL P l N (.region id ops.toArray true) st y k u := .inl (by
  unfold regionW
  rw [if_pos rfl]
  exact ⟨A, hA, hm, h⟩)
theorem yieldL_mk {n : Nat} {fr : Nat → D} {mem : Nat → Option M} {next : Nat} {lit : Bool} {dst : Option Tmp} {f x : Operand} {ats : Array TypeId} {ty : TypeId} {pos : String} {af : Array Edge} {gd : Option (Nat × Bool)} {ys : List Int} {K : St → Yd → Prop} {v : Lk K} (i : Int)
    (hf : St.ev ⟨n, fr, mem, next, lit⟩ f = .f (.v (.func (.yield l) #[] #[]))) (hx : St.ev ⟨n, fr, mem, next, lit⟩ x = .f (.v (.int .i64 i))) (hn : N ys i)
    (h1 : K (St.put ⟨n, fun t => clean 0 (fr t), noM, next, lit⟩ dst (.f (.v (.bool true)))) ⟨ys ++ [i], false⟩) (h2 : K (St.put ⟨n, fun t => scD (fr t), noM, next, lit⟩ dst (.f (.v (.bool false)))) ⟨ys ++ [i], true⟩) :
    yieldWL l N ⟨dst, .call ⟨.value f, #[x], ats⟩, ty, pos, af, gd⟩ ⟨n, fr, mem, next, lit⟩ ⟨ys, false⟩ K v := ⟨⟨hf, rfl⟩, i, ⟨hx, hn⟩, h1, h2⟩
end
attribute [go_sem] runIL_seq runIL_cond runIL_block runIL_exit runIL_ret runIL_skip restL scD
end Go.Dn
end
section
namespace Go.Dn
open Go.RowKit Go.Dk

section
variable (P : Program)
/-- A CALL THAT MAY CHANGE WHAT IS THERE: from what is there, and the first free number. -/
def callS (f : FuncId) (ds : List D) (mem : Nat → Option M) (next : Nat) (K : D → (Nat → Option M) → Nat → Prop) : Prop :=
  Goes' P f ∧ ∀ (w0 : World) (WS0 : Nat → Nat → Prop) (c : Cx) (vs : List Value), RepDL c vs ds → InvM w0 WS0 c mem → (∀ id, next ≤ id → Fresh c mem id) →
    Calls P f vs.toArray c.x.W fun e w' => ∃ v c' d mem' next', e = .returned v ∧ c'.x.W = w' ∧ K d mem' next' ∧ next ≤ next' ∧ Ext c c' ∧ InvM w0 WS0 c' mem' ∧ RepD c' v d ∧ (∀ id, next' ≤ id → Fresh c' mem' id)
/-- a row of bytes -/
def bytesD (xs : List (List FD)) : Option (List Int) := omap (fun c => match c with | [.v (.int .u8 n)] => some n | _ => none) xs
/-- string(bytes) -/
def cvS (s t : TypeId) (mem : Nat → Option M) (d : D) (K : D → Prop) : Prop :=
  ob (lay P s) fun si => ob (lay P t) fun ti => match si.ki with
    | .slice e sz _ _ => (ti.ki = .string ∧ P.underlying e = some (.int .u8) ∧ sz = 1) ∧ ob (elems mem 1 d) fun xs => ob (bytesD xs) fun ns => xs ≠ [] ∧ K (.f (.v (.string (strOfNums ns))))
    | _ => False
/-- an operation that is such a call, or makes a string of bytes -/
def opS (o : Oper) (st : St) (nx : Nat) (K : D → (Nat → Option M) → Nat → Prop) : Prop :=
  match o.op with
  | .call c => match c.callee with
    | .value f => match st.ev f with
      | .f (.fn g caps) => callS P g (c.args.toList.map st.ev ++ caps.map .f) st.mem nx K
      | .fn g caps => callS P g (c.args.toList.map st.ev ++ caps) st.mem nx K
      | _ => False
    | _ => False
  | .convert s t x => cvS P s t st.mem (st.ev x) fun d => K d st.mem nx
  | _ => False
/-- what is behind the first such call, one by one; cs: which ones are such calls -/
def tailS (cs : List Nat) (ops : Array Oper) : Nat → List Oper → Nat → St → (St → Prop) → Prop
  | _, [], base, st, K => K { st with next := base + ops.size }
  | i, o :: r, base, st, K => ob (gval ops st o.guard) fun g => gif g
      (gif (cs.contains i) (opS P o st (base + ops.size) fun d mem' next' => tailS cs ops (i + 1) r next' ({ st with mem := mem' }.put o.dst d) K)
        (opW P (base + i) o st fun d st' => tailS cs ops (i + 1) r base (st'.put o.dst d) K))
      (tailS cs ops (i + 1) r base (st.put o.dst undefD) K)
/-- a loop, round by round; nothing is let go -/
def iterN (F : St → (Ex → St → Prop) → Prop) : Nat → St → (Ex → St → Prop) → Prop
  | 0, _, _ => False
  | n + 1, st, k => F st fun e s => match e with
    | .normal => iterN F n s k
    | e => k e s
/-- cs: which regions have such calls, and where -/
def runC (B : Nat → List Nat) : Code → St → (Ex → St → Prop) → Prop
  | .skip, st, k => k .normal st
  | .region id ops draw, st, k => match draw, B id with
    | d, [] => regionW P ops d st (fun s => k .normal s)
    | false, m :: cs => tailS P (m :: cs) ops 0 ops.toList st.next st fun s => k .normal s
    | true, m :: cs => m ≤ ops.size ∧ headW P ops true m st fun s => tailS P (m :: cs) ops m (ops.toList.drop m) st.next s fun s => k .normal s
  | .seq a b, st, k => runC B a st fun e s => match e with
    | .normal => runC B b s k
    | e => k e s
  | .cond c a b, st, k => ob (truth (st.ev c)) fun t => gif t (runC B a st k) (runC B b st k)
  | .block id c, st, k => runC B c st fun e s => match e with
    | .exit j => if j = id then k .normal s else k (.exit j) s
    | e => k e s
  | .loop c, st, k => ∃ as : List Ad, ∃ n, iterN (runC B c) n (st.adopts as) k
  | .exit id, st, k => k (.exit id) st
  | .ret, st, k => k .ret st
  | _, _, _ => False
def entD (ds : List D) (t : Nat) : D := match ds[t]? with | some d => d | none => .f (.v undef)
def resS1 (mem : Nat → Option M) (fr : Nat → D) : ResultVar → Option D
  | .tmp t => some (fr t)
  | .cell a t => (lay P t).bind fun i => loadD mem i.size i.agg (fr a)
def resultS (rs : List ResultVar) (st : St) : Option D :=
  (omap (resS1 P st.mem st.fr) rs).map fun ds => match ds with
    | [d] => d
    | ds => .tup ds
end

variable {P : Program}
theorem callS_mono {f : FuncId} {ds : List D} {mem : Nat → Option M} {next : Nat} {K K' : D → (Nat → Option M) → Nat → Prop} (h : callS P f ds mem next K) (hk : ∀ d m n, K d m n → K' d m n) : callS P f ds mem next K' := by
  refine ⟨h.1, fun w0 WS0 c vs h1 h2 h3 => (h.2 w0 WS0 c vs h1 h2 h3).mono ?_⟩
  rintro e w' ⟨v, c', d, mem', next', rfl, rfl, hK, h4⟩
  exact ⟨v, c', d, mem', next', rfl, rfl, hk _ _ _ hK, h4⟩
theorem cvS_mono {s t : TypeId} {mem : Nat → Option M} {d : D} {K K' : D → Prop} (h : cvS P s t mem d K) (hk : ∀ d, K d → K' d) : cvS P s t mem d K' := by
  obtain ⟨si, hs, ti, ht, h⟩ := h
  refine ⟨si, hs, ti, ht, ?_⟩
  split at h
  · obtain ⟨h0, xs, h1, ns, h2, h3, h4⟩ := h
    exact ⟨h0, xs, h1, ns, h2, h3, hk _ h4⟩
  · exact h.elim
theorem opS_mono {o : Oper} {st : St} {nx : Nat} {K K' : D → (Nat → Option M) → Nat → Prop} (h : opS P o st nx K) (hk : ∀ d m n, K d m n → K' d m n) : opS P o st nx K' := by
  unfold opS at h ⊢
  split at h
  · split at h
    · split at h
      · exact callS_mono h hk
      · exact callS_mono h hk
      · exact h.elim
    · exact h.elim
  · exact cvS_mono h fun d hd => hk _ _ _ hd
  · exact h.elim
theorem tailS_mono {cs : List Nat} {ops : Array Oper} {K K' : St → Prop} (hk : ∀ s, K s → K' s) : ∀ (l : List Oper) (i base : Nat) (st : St), tailS P cs ops i l base st K → tailS P cs ops i l base st K'
  | [], _, _, _, h => hk _ h
  | o :: r, i, base, st, h => by
    unfold tailS at h ⊢
    exact ob_mono h fun _ h => gif_mono h (fun h => gif_mono h (fun h => opS_mono h fun _ _ _ h => tailS_mono hk r _ _ _ h) (fun h => opW_mono h fun _ _ h => tailS_mono hk r _ _ _ h)) (fun h => tailS_mono hk r _ _ _ h)
theorem iterN_mono {F : St → (Ex → St → Prop) → Prop} (hF : ∀ st (k k' : Ex → St → Prop), (∀ e s, k e s → k' e s) → F st k → F st k') {k k' : Ex → St → Prop} (hk : ∀ e s, k e s → k' e s) : ∀ (n m : Nat) (st : St), n ≤ m → iterN F n st k → iterN F m st k'
  | 0, _, _, _, h => h.elim
  | n + 1, 0, _, hle, _ => by omega
  | n + 1, m + 1, st, hle, h => by
    unfold iterN at h ⊢
    refine hF _ _ _ (fun e s h => ?_) h
    cases e with
    | normal => exact iterN_mono hF hk n m s (by omega) h
    | exit id => exact hk _ _ h
    | ret => exact hk _ _ h
theorem runC_mono {B : Nat → List Nat} : ∀ (c : Code) (st : St) (k k' : Ex → St → Prop), (∀ e s, k e s → k' e s) → runC P B c st k → runC P B c st k' := by
  intro c
  induction c with
  | skip => exact fun st k k' hk h => hk _ _ h
  | region id ops draw =>
    intro st k k' hk h
    unfold runC at h ⊢
    split at h
    · exact regionW_mono h fun _ h => hk _ _ h
    · exact tailS_mono (fun _ h => hk _ _ h) _ _ _ _ h
    · exact ⟨h.1, headW_mono h.2 fun _ h => tailS_mono (fun _ h => hk _ _ h) _ _ _ _ h⟩
  | seq x z ihx ihz =>
    intro st k k' hk h
    unfold runC at h ⊢
    refine ihx _ _ _ (fun e s h => ?_) h
    cases e with
    | normal => exact ihz _ _ _ hk h
    | exit id => exact hk _ _ h
    | ret => exact hk _ _ h
  | cond c x z ihx ihz =>
    intro st k k' hk h
    unfold runC at h ⊢
    exact ob_mono h fun _ h => gif_mono h (ihx _ _ _ hk) (ihz _ _ _ hk)
  | block id x ih =>
    intro st k k' hk h
    unfold runC at h ⊢
    refine ih _ _ _ (fun e s h => ?_) h
    cases e with
    | normal => exact hk _ _ h
    | exit j =>
      simp only at h ⊢
      split at h
      · rename_i hj; rw [if_pos hj]; exact hk _ _ h
      · rename_i hj; rw [if_neg hj]; exact hk _ _ h
    | ret => exact hk _ _ h
  | loop x ih =>
    intro st k k' hk h
    unfold runC at h ⊢
    obtain ⟨as, n, h⟩ := h
    exact ⟨as, n, iterN_mono (fun st k k' => ih st k k') hk n n _ (Nat.le_refl _) h⟩
  | exit id => exact fun st k k' hk h => hk _ _ h
  | ret => exact fun st k k' hk h => hk _ _ h
  | rangeFunc => exact fun _ _ _ _ h => h.elim
  | scope => exact fun _ _ _ _ h => h.elim
  | label => exact fun _ _ _ _ h => h.elim
  | goto => exact fun _ _ _ _ h => h.elim
  | refuse => exact fun _ _ _ _ h => h.elim
theorem runC_loop_inv {B : Nat → List Nat} {c : Code} {st : St} {k : Ex → St → Prop} (as : List Ad) (I : Nat → St → Prop) (n0 : Nat) (h0 : I n0 (St.adopts as st))
    (step : ∀ n s, I n s → runC P B c s fun e s' => match e with
      | .normal => ∃ m, m < n ∧ I m s'
      | e => k e s') : runC P B (.loop c) st k := by
  have key : ∀ n (s : St), I n s → iterN (runC P B c) (n + 1) s k := by
    intro n
    induction n using Nat.strongRecOn with
    | _ n ih =>
      intro s hI
      refine runC_mono c _ _ _ (fun e s' h => ?_) (step n _ hI)
      cases e with
      | normal =>
        obtain ⟨m, hm, h⟩ := h
        exact iterN_mono (fun st k k' => runC_mono c st k k') (fun _ _ h => h) (m + 1) n s' hm (ih m hm s' h)
      | exit id => exact h
      | ret => exact h
  exact ⟨as, n0 + 1, key n0 _ h0⟩

/-! ### Soundness -/
theorem ext_of_fresh {c c' : Cx} {mem : Nat → Option M} {nx : Nat} (hf : ∀ id, nx ≤ id → Fresh c mem id) (h : ExtN nx c c') : Ext c c' :=
  ⟨h.sub, fun id v u e => by
    by_cases hid : id < nx
    · exact h.env id hid v u e
    · exact absurd e (by rw [(hf id (by omega)).2 v]; simp)⟩
theorem bytesD_cells {x : X} : ∀ {xs : List (List FD)} {ns : List Int} {vs : List Value}, bytesD xs = some ns → RepC x vs xs.flatten → vs = ns.map (Value.int .u8) ∧ ns.length = xs.length
  | [], ns, vs, h, k => by
    rw [omap_nil h]
    simp only [List.flatten_nil] at k
    unfold RepC at k
    subst k
    exact ⟨rfl, rfl⟩
  | c :: cs, ns, vs, h, k => by
    obtain ⟨y, r, h1, h2, rfl⟩ := omap_cons h
    split at h1
    · cases h1
      simp only [List.flatten_cons, List.singleton_append] at k
      unfold RepC at k
      obtain ⟨u, us, rfl, -, k1, k2⟩ := k
      unfold Rep at k1
      subst k1
      obtain ⟨e1, e2⟩ := bytesD_cells h2 k2
      exact ⟨by rw [e1]; rfl, by simp [e2]⟩
    · cases h1
theorem cvS_run {w0 : World} {WS0 : Nat → Nat → Prop} {c : Cx} {mem : Nat → Option M} (hM : InvM w0 WS0 c mem) {s t : TypeId} {d : D} {v : Value} (hv : RepD c v d) {K : D → Prop} (h : cvS P s t mem d K) : ∃ u, (convert s t v).run P c.x.W = .ok u c.x.W ∧ ∃ d', RepD c u d' ∧ K d' := by
  obtain ⟨si, hs, ti, ht, h⟩ := h
  obtain ⟨i, dd, z, k, h1, h2, h3, h4, h5, h6, rfl⟩ := lay_spec ht
  obtain ⟨i', dd', z', k', h1', h2', h3', h4', h5', h6', rfl⟩ := lay_spec hs
  simp only at h
  split at h
  · rename_i e sz b ez
    obtain ⟨⟨hk, he, rfl⟩, xs, hx, ns, hn, hne, hK⟩ := h
    subst hk
    have hu := kiOf_string h4
    subst hu
    obtain ⟨rfl, -⟩ := kiOf_slice h4'
    obtain ⟨news, hrd, hrc, -⟩ := elems_rd hM hv hx
    obtain ⟨e1, e2⟩ := bytesD_cells hn hrc
    obtain ⟨a, cap, rfl, hl, hc, hz, hcell⟩ := hrd
    have hpos : 0 < xs.length := List.length_pos_iff.2 hne
    cases a with
    | none => have := hz rfl; omega
    | some ad =>
      obtain ⟨b, o, vw⟩ := ad
      have hcell' := hcell _ rfl
      have hvw : vw = none := by
        have h0 : (news[0]?).isSome := by
          rw [List.getElem?_eq_getElem (by rw [hl]; omega)]
          rfl
        obtain ⟨u, hu⟩ := Option.isSome_iff_exists.1 h0
        have := hcell' 0 u hu
        exact World.cell?_spot this
      subst hvw
      refine ⟨_, run_convert_bytes_arg c.x.W s e h2' he b o xs.length cap ns e2 (fun j hj => ?_) t h2, _, ?_, hK⟩
      · have hj2 : news[j]? = some (.int .u8 (ns.getD j 0)) := by
          rw [e1, List.getElem?_map, List.getD_eq_getElem?_getD]
          rw [List.getElem?_eq_getElem (show j < ns.length by omega)]
          rfl
        have := hcell' j _ hj2
        rw [Addr.add_mid] at this
        exact this
      · unfold RepD Rep; rfl
  · exact h.elim
theorem opS_sound {w0 : World} {WS0 : Nat → Nat → Prop} {c : Cx} {a : Act} {st : St} {nx : Nat} {o : Oper} {K : D → (Nat → Option M) → Nat → Prop} {next : Act → World → Prop} {Q : Exit → Act → World → Prop}
    (h : opS P o st nx K) (hF : InvF c a st) (hM : InvM w0 WS0 c st.mem) (hf : ∀ id, nx ≤ id → Fresh c st.mem id)
    (hg : ∀ c' v d mem' next', K d mem' next' → nx ≤ next' → Ext c c' → InvM w0 WS0 c' mem' → RepD c' v d → (∀ id, next' ≤ id → Fresh c' mem' id) → next (a.put o.dst v) c'.x.W) : o.wp P a c.x.W next Q := by
  obtain ⟨dst, op, type, pos, after, guard⟩ := o
  cases op with
  | call cl =>
    obtain ⟨callee, args, argTypes⟩ := cl
    cases callee with
    | value f =>
      have fin : ∀ (g : FuncId) (vs : List Value) (ds : List D), a.eval f = .func (.func g) #[] vs.toArray → RepDL c vs ds → callS P g (args.toList.map st.ev ++ ds) st.mem nx K → Oper.wp P ⟨dst, .call ⟨.value f, args, argTypes⟩, type, pos, after, guard⟩ a c.x.W next Q := by
        intro g vs ds e1 hds h
        obtain ⟨hgo, hc⟩ := h
        have hc := hc w0 WS0 c _ (repDL_append (repDL_ev hF args.toList) hds) hM hf
        refine wp_enter (f := g) (args := (args.toList.map a.eval ++ vs).toArray) (w' := c.x.W) ?_ (R := fun v w'' => next (a.put dst v) w'') (hc.mono ?_) (fun v w'' hk => hk)
        · have := hgo (args.toList.map a.eval ++ vs).toArray c.x.W
          have e2 : (args.toList.map a.eval ++ vs).toArray = args.map a.eval ++ vs.toArray := by apply Array.ext'; simp
          rw [e2] at this ⊢
          simpa [execOp, resolve, e1, Deferred.ofValue, invoke] using this
        · rintro e w' ⟨v, c', d, mem', next', rfl, rfl, hK, h1, h2, h3, h4, h5⟩
          exact ⟨v, rfl, hg c' v d mem' next' hK h1 h2 h3 h4 h5⟩
      have hv := hF.ev f
      simp only [opS] at h
      split at h
      · rename_i g caps hx
        rw [hx] at hv
        unfold RepD Rep at hv
        obtain ⟨vs, e, hr⟩ := hv
        exact fin g vs _ e (repDL_f hr) h
      · rename_i g caps hx
        rw [hx] at hv
        unfold RepD at hv
        obtain ⟨vs, e, hr⟩ := hv
        exact fin g vs _ e hr h
      · exact h.elim
    | _ => exact h.elim
  | convert s t x =>
    have h : cvS P s t st.mem (st.ev x) (fun d => K d st.mem nx) := h
    obtain ⟨u, hr, d, hd, hK⟩ := cvS_run hM (hF.ev x) h
    exact wp_value (v := u) (w' := c.x.W) (by simp [execOp, hr]) (hg c u d st.mem nx hK (Nat.le_refl _) (Ext.refl c) hM hd hf)
  | _ => exact h.elim
theorem not_letsOut_false : ¬ LetsOut (fun (_ : Exit) (_ : Act) (_ : World) => False) := fun ⟨_, _, h⟩ => h
theorem tailS_sound {w0 : World} {WS0 : Nat → Nat → Prop} {cs : List Nat} {ops : Array Oper} {n : Nat} {K : St → Prop} {Q : Exit → Act → World → Prop} : ∀ (l : List Oper) (i base : Nat) (c : Cx) (a : Act) (st : St), tailS P cs ops i l base st K → i + l.length = ops.size →
    InvF c a st → InvM w0 WS0 c st.mem → (∀ id, base + i ≤ id → Fresh c st.mem id) →
    (∀ c' a' st', K st' → Ext c c' → Inv w0 WS0 c' a' st' → base + ops.size ≤ st'.next → Q .normal a' c'.x.W) → wpListIn Fence.wide n P ops Q l a c.x.W
  | [], i, base, c, a, st, h, hl, hF, hM, hfr, hk => by
    unfold tailS at h
    unfold wpListIn
    simp only [List.length_nil] at hl
    exact hk c a _ h (Ext.refl c) ⟨⟨hF.size, hF.defers, hF.fr⟩, hM, fun id hid => hfr id (by simp at hid; omega)⟩ (Nat.le_refl _)
  | o :: r, i, base, c, a, st, h, hl, hF, hM, hfr, hk => by
    simp only [List.length_cons] at hl
    unfold tailS at h
    obtain ⟨g, hg, h⟩ := h
    unfold wpListIn
    rw [wanted_of hF hg]
    cases g with
    | false =>
      rw [if_neg (by simp)]
      unfold gif at h
      rw [if_neg (by simp)] at h
      refine ⟨fun _ _ => trivial, tailS_sound (w0 := w0) (WS0 := WS0) r (i + 1) base c _ _ h (by omega) ?_ ?_ ?_ hk⟩
      · exact InvF.put (st := st) hF rfl rfl (by unfold undefD RepD Rep; rfl) _
      · rw [(put_mem _ _ _).1]; exact hM
      · intro id hid; rw [(put_mem _ _ _).1]; exact hfr id (by omega)
    | true =>
      rw [if_pos rfl]
      unfold gif at h
      rw [if_pos rfl] at h
      split at h
      · refine wpIn_wide_of_wp (Q' := fun _ _ _ => False) not_letsOut_false (fun _ _ _ h => h.elim) (opS_sound h hF hM (fun id hid => hfr id (by omega)) ?_)
        intro c' v d mem' next' hK h1 h2 h3 h4 h5
        refine tailS_sound (w0 := w0) (WS0 := WS0) r (i + 1) next' c' _ _ hK (by omega) ?_ ?_ ?_ ?_
        · exact InvF.put (st := { st with mem := mem' }) ⟨hF.size, hF.defers, fun t => (hF.fr t).mono h2⟩ rfl rfl h4 _
        · rw [(put_mem _ _ _).1]; exact h3
        · intro id hid; rw [(put_mem _ _ _).1]; exact h5 id (by omega)
        · intro c2 a2 s2 k1 k2 k3 k4
          exact hk c2 a2 s2 k1 (h2.trans k2) k3 (by omega)
      · refine wpIn_wide_of_wp (Q' := fun _ _ _ => False) not_letsOut_false (fun _ _ _ h => h.elim) (op_sound h hF hM (hfr _ (by omega)) ?_)
        intro c' v d st' hK e1 e2 e3 hx hM' hv hfresh
        refine tailS_sound (w0 := w0) (WS0 := WS0) r (i + 1) base c' _ _ hK (by omega) ?_ ?_ ?_ ?_
        · exact InvF.put (hF.mono hx) e1 e2 hv _
        · rw [(put_mem _ _ _).1]; exact hM'
        · intro id hid; rw [(put_mem _ _ _).1]; exact hfresh id (by omega) (hfr id (by omega))
        · intro c2 a2 s2 k1 k2 k3 k4
          exact hk c2 a2 s2 k1 (hx.trans k2) k3 k4
theorem runC_sound {w0 : World} {WS0 : Nat → Nat → Prop} {B : Nat → List Nat} : ∀ (cd : Code) (st : St) (k : Ex → St → Prop), runC P B cd st k → ∀ (bn : Nat) (c : Cx) (a : Act), bn ≤ st.next → Inv w0 WS0 c a st → ∀ (Q : Exit → Act → World → Prop),
    (∀ e c' a' st', k e st' → Inv w0 WS0 c' a' st' → ExtN bn c c' → bn ≤ st'.next → Q (exOf e) a' c'.x.W) → cd.wp P Q a c.x.W := by
  intro cd
  induction cd with
  | skip => exact fun st k h bn c a hb hI Q hk => wp_skip (hk .normal c a st h hI (ExtN.refl _ _) hb)
  | region id ops draw =>
    intro st k h bn c a hbn hI Q hk
    unfold runC at h
    split at h
    · refine run_sound2 (.region id ops _) st (fun e s => match e with
        | .normal => k .normal s
        | _ => False) h bn c a hbn hI Q ?_
      intro e c' a' st' he hI' hx hb'
      cases e with
      | normal => exact hk .normal c' a' st' he hI' hx hb'
      | exit id => exact he.elim
      | ret => exact he.elim
    · rename_i m cs _
      refine (wpIn_wide (n := 0)).1 (wpIn_region_list ?_)
      refine tailS_sound (w0 := w0) (WS0 := WS0) _ 0 st.next c a st h (by simp) hI.F hI.M (fun id hid => hI.N id (by omega)) ?_
      intro c2 a2 s2 k1 k2 k3 k4
      exact hk .normal c2 a2 s2 k1 k3 k2.n (by omega)
    · rename_i m cs _
      obtain ⟨hm, h⟩ := h
      refine (wpIn_wide (n := 0)).1 (head_sound h hI ?_)
      intro c1 a1 s1 ht hx hF hM hn hfr
      refine tailS_sound (w0 := w0) (WS0 := WS0) _ m st.next c1 a1 s1 ht (by simp; omega) hF hM hfr ?_
      intro c2 a2 s2 k1 k2 k3 k4
      exact hk .normal c2 a2 s2 k1 k3 (hx.trans k2).n (by omega)
  | seq x y ihx ihy =>
    intro st k h bn c a hbn hI Q hk
    unfold runC at h
    refine wp_seq (ihx st _ h bn c a hbn hI _ ?_)
    intro e c' a' st' he hI' hx hb'
    cases e with
    | normal => exact ihy st' k he bn c' a' hb' hI' Q (fun e c2 a2 st2 h1 h2 h3 h4 => hk e c2 a2 st2 h1 h2 (hx.trans h3) h4)
    | exit id => exact hk (.exit id) c' a' st' he hI' hx hb'
    | ret => exact hk .ret c' a' st' he hI' hx hb'
  | cond cc x y ihx ihy =>
    intro st k h bn c a hbn hI Q hk
    unfold runC at h
    obtain ⟨t, ht, h⟩ := h
    have hc := truth_rep (hI.F.ev cc) ht
    refine wp_cond hc ?_
    cases t with
    | true => exact ihx st k h bn c a hbn hI Q hk
    | false => exact ihy st k h bn c a hbn hI Q hk
  | block id x ih =>
    intro st k h bn c a hbn hI Q hk
    unfold runC at h
    refine wp_block (ih st _ h bn c a hbn hI _ ?_)
    intro e c' a' st' he hI' hx hb'
    cases e with
    | normal => exact hk .normal c' a' st' he hI' hx hb'
    | exit j =>
      simp only at he
      show (if j = id then Q .normal a' c'.x.W else Q (.exit j) a' c'.x.W)
      split at he
      · rename_i hj; rw [if_pos hj]; exact hk .normal c' a' st' he hI' hx hb'
      · rename_i hj; rw [if_neg hj]; exact hk (.exit j) c' a' st' he hI' hx hb'
    | ret => exact hk .ret c' a' st' he hI' hx hb'
  | loop x ih =>
    intro st0 k h bn c0 a hbn hI0 Q hk
    unfold runC at h
    obtain ⟨as, n, h⟩ := h
    obtain ⟨c, hI, ec, xe, nx⟩ := adopts_sound as c0 a st0 hI0
    have hx0 : ExtN bn c0 c := ⟨by rw [ec]; exact Sub.refl _, fun id _ v u h => xe id v u h⟩
    rw [← ec]
    revert h hI nx
    generalize St.adopts as st0 = st
    intro h hI nx
    have hbb : bn ≤ st.next := Nat.le_trans hbn nx
    intro b kk cs
    have key : ∀ (n : Nat) (st : St), iterN (runC P B x) n st k → ∀ (c : Cx) (a : Act), bn ≤ st.next → ExtN bn c0 c → Inv w0 WS0 c a st →
        ∃ e a' w', Q e a' w' ∧ Arrives P (lone (b.at a (.code x :: .inLoop x :: kk)) cs c.x.W) b kk cs e a' w' := by
      intro n
      induction n with
      | zero => intro st h; exact h.elim
      | succ n ihn =>
        intro st h c a hbb hxc hI
        unfold iterN at h
        have hw := ih st _ h bn c a hbb hI (Exit.then (fun a' w' => ∃ e a'' w'', Q e a'' w'' ∧ Arrives P (lone (b.at a' (.code x :: .inLoop x :: kk)) cs w') b kk cs e a'' w'') Q) (by
          intro e c' a' st' he hI' hx hb'
          have hx2 := hxc.trans hx
          cases e with
          | normal => exact ihn st' he c' a' hb' hx2 hI'
          | exit id => exact hk (.exit id) c' a' st' he hI' hx2 hb'
          | ret => exact hk .ret c' a' st' he hI' hx2 hb')
        obtain ⟨e, a₁, w₁, hq, harr⟩ := hw b (.inLoop x :: kk) cs
        cases e with
        | normal =>
          obtain ⟨e₂, a₂, w₂, hq₂, harr₂⟩ := hq
          exact ⟨e₂, a₂, w₂, hq₂, .of_steps (Steps.trans harr (.one step_inLoop)) harr₂⟩
        | exit id => exact ⟨_, a₁, w₁, hq, .pass (x := .inLoop x) rfl (fun _ _ => .inl (by simp)) harr⟩
        | goto l => exact ⟨_, a₁, w₁, hq, .pass (x := .inLoop x) rfl (fun _ _ => .inl (by simp)) harr⟩
        | ret => exact ⟨_, a₁, w₁, hq, .pass (x := .inLoop x) rfl (fun _ _ => .inl (by simp)) harr⟩
        | panic ch => exact ⟨_, a₁, w₁, hq, .pass (x := .inLoop x) rfl (fun _ _ => .inl (by simp)) harr⟩
        | outgrown => exact ⟨_, a₁, w₁, hq, .pass (x := .inLoop x) rfl (fun _ _ => .inl (by simp)) harr⟩
    obtain ⟨e, a', w', hq, harr⟩ := key n st h c a hbb hx0 hI
    exact ⟨e, a', w', hq, .of_steps (.one step_loop) harr⟩
  | exit id =>
    intro st k h bn c a hb hI Q hk
    exact wp_exit (hk (.exit id) c a st h hI (ExtN.refl _ _) hb)
  | ret =>
    intro st k h bn c a hb hI Q hk
    exact wp_ret (hk .ret c a st h hI (ExtN.refl _ _) hb)
  | rangeFunc => intro st k h; exact h.elim
  | scope => intro st k h; exact h.elim
  | label => intro st k h; exact h.elim
  | goto => intro st k h; exact h.elim
  | refuse => intro st k h; exact h.elim

theorem resultS_run {w0 : World} {WS0 : Nat → Nat → Prop} {c : Cx} {a : Act} {st : St} {fn : Func} {d : D} (hF : InvF c a st) (hM : InvM w0 WS0 c st.mem) (h : resultS P fn.results.toList st = some d) : ∃ v, (results fn a.tmps).run P c.x.W = .ok v c.x.W ∧ RepD c v d := by
  unfold resultS at h
  simp only [Option.map_eq_some_iff] at h
  obtain ⟨ds', hds, hd⟩ := h
  have one : ∀ r y, resS1 P st.mem st.fr r = some y → ∃ u, (resS a.tmps r).run P c.x.W = .ok u c.x.W ∧ RepD c u y := by
    intro r y hr
    cases r with
    | tmp t => simp only [resS1, Option.some.injEq] at hr; subst hr; exact ⟨_, rfl, hF.fr t⟩
    | cell ad t =>
      simp only [resS1, Option.bind_eq_some_iff] at hr
      obtain ⟨ti, ht, hr⟩ := hr
      obtain ⟨b, o, u, e1, hrun, hv⟩ := loadD_rep hM ht (hF.fr ad) hr
      exact ⟨u, by simp only [resS, Sem.run_bind, e1, asAddr, Sem.run_pure, Result.andThen_ok, hrun], hv⟩
  have all : ∀ (rs : List ResultVar) (ys : List D), omap (resS1 P st.mem st.fr) rs = some ys → ∃ us : List Value, (rs.mapM (resS a.tmps)).run P c.x.W = .ok us c.x.W ∧ RepDL c us ys := by
    intro rs
    induction rs with
    | nil => intro ys h; rw [omap_nil h]; exact ⟨[], by simp, by simp [RepDL]⟩
    | cons r rs ih =>
      intro ys h
      obtain ⟨y, r', h1, h2, rfl⟩ := omap_cons h
      obtain ⟨u, k1, k2⟩ := one r y h1
      obtain ⟨us, k3, k4⟩ := ih r' h2
      refine ⟨u :: us, ?_, by unfold RepDL; exact ⟨u, us, rfl, k2, k4⟩⟩
      rw [List.mapM_cons]
      simp only [Sem.run_bind, k1, Result.andThen_ok, k3]
      rfl
  obtain ⟨us, k1, k2⟩ := all _ _ hds
  refine ⟨if h : us.toArray.size = 1 then us.toArray[0] else .tuple us.toArray, ?_, ?_⟩
  · rw [results_eq, Array.mapM_eq_mapM_toList]
    simp only [map_eq_pure_bind, Sem.run_bind, k1, Result.andThen_ok, Sem.run_pure]
  · have hlen := repDL_len k2
    match us, ds', hlen, k2, hd with
    | [], [], _, k2, hd =>
      simp only at hd
      subst hd
      simp only [List.size_toArray, List.length_nil]
      unfold RepD
      exact ⟨[], rfl, k2⟩
    | [u], [y], _, k2, hd =>
      simp only at hd
      subst hd
      unfold RepDL at k2
      obtain ⟨u', us', e1, h1, -⟩ := k2
      cases e1
      simpa using h1
    | u :: u2 :: us, y :: y2 :: ys, _, k2, hd =>
      simp only at hd
      subst hd
      rw [dif_neg (by simp)]
      unfold RepD
      exact ⟨_, rfl, k2⟩
theorem callS.of_sound {f : FuncId} {fn : Func} {cd : Code} {ds : List D} {mem : Nat → Option M} {next : Nat} {K : D → (Nat → Option M) → Nat → Prop} {n : Nat} {rs : List ResultVar} {lit : Bool} (hf : P.funcs[f]? = some fn) (hb : fn.body = some cd) (hname : (fn.name == "runtime.NumGoroutine") = false) (hnt : fn.ntmps = n) (hrs : fn.results.toList = rs) (hn : ds.length ≤ n)
    (h : ∀ (w0 : World) (WS0 : Nat → Nat → Prop) (c : Cx) (a : Act), Inv w0 WS0 c a ⟨n, entD ds, mem, next, lit⟩ → ∀ (Q : Exit → Act → World → Prop), (∀ e c' a' st', (e.fin = true ∧ ∃ d, resultS P rs st' = some d ∧ K d st'.mem st'.next) → Inv w0 WS0 c' a' st' → ExtN next c c' → next ≤ st'.next → Q (exOf e) a' c'.x.W) → cd.wp P Q a c.x.W) : callS P f ds mem next K := by
  subst hnt hrs
  refine ⟨goes_of hf hname hb, fun w0 WS0 c vs hr hM hfr => ?_⟩
  have hl := repDL_len hr
  refine calls_of_wp hf hb ?_
  have hF : InvF c { tmps := vs.toArray ++ Array.replicate (fn.ntmps - vs.toArray.size) undef, defers := [] } ⟨fn.ntmps, entD ds, mem, next, lit⟩ := by
    refine ⟨by simp; omega, rfl, fun t => ?_⟩
    simp only [entD]
    split
    · rename_i d' hd'
      have ht : t < ds.length := (List.getElem?_eq_some_iff.1 hd').1
      obtain ⟨u, hu, hru⟩ := repDL_get hr hd'
      have e : (vs.toArray ++ Array.replicate (fn.ntmps - vs.toArray.size) undef).getD t undef = u := by
        rw [Array.getD_eq_getD_getElem?, Array.getElem?_append_left (by simp; omega)]
        simp [hu]
      rw [e]
      exact hru
    · rename_i hd'
      have ht : ds.length ≤ t := List.getElem?_eq_none_iff.1 hd'
      have e : (vs.toArray ++ Array.replicate (fn.ntmps - vs.toArray.size) undef).getD t undef = undef := by
        rw [Array.getD_eq_getD_getElem?, Array.getElem?_append_right (by simp; omega)]
        simp only [Array.getElem?_replicate]
        split <;> rfl
      rw [e]
      unfold RepD Rep
      rfl
  refine h w0 WS0 c _ ⟨hF, hM, hfr⟩ _ ?_
  rintro e c' a st' ⟨hfin, d, hres, hK⟩ hI' hx hb'
  obtain ⟨v, hrun, hrep⟩ := resultS_run hI'.F hI'.M hres
  have fin : ∃ v_1 c'_1 d mem' next', Ending.returned v = Ending.returned v_1 ∧ c'_1.x.W = c'.x.W ∧ K d mem' next' ∧ next ≤ next' ∧ Ext c c'_1 ∧ InvM w0 WS0 c'_1 mem' ∧ RepD c'_1 v_1 d ∧ ∀ id, next' ≤ id → Fresh c'_1 mem' id :=
    ⟨v, c', d, st'.mem, st'.next, rfl, rfl, hK, hb', ext_of_fresh hfr hx, hI'.M, hrep, hI'.N⟩
  cases e with
  | normal => exact ⟨hI'.F.defers, v, hrun, fin⟩
  | ret => exact ⟨hI'.F.defers, v, hrun, fin⟩
  | exit id => simp [Ex.fin] at hfin
/-- A FUNCTION'S TEXT, RUN FROM WHAT IS THERE, IS ITS CONTRACT. -/
theorem callS.of_run {f : FuncId} {fn : Func} {cd : Code} {ds : List D} {mem : Nat → Option M} {next : Nat} {K : D → (Nat → Option M) → Nat → Prop} {n : Nat} {rs : List ResultVar} {lit : Bool} {B : Nat → List Nat} (hf : P.funcs[f]? = some fn) (hb : fn.body = some cd) (hname : (fn.name == "runtime.NumGoroutine") = false) (hnt : fn.ntmps = n) (hrs : fn.results.toList = rs) (hn : ds.length ≤ n)
    (h : runC P B cd ⟨n, entD ds, mem, next, lit⟩ fun e s => e.fin = true ∧ ∃ d, resultS P rs s = some d ∧ K d s.mem s.next) : callS P f ds mem next K :=
  callS.of_sound (lit := lit) hf hb hname hnt hrs hn fun _ _ c a hI Q hk => runC_sound cd _ _ h next c a (Nat.le_refl _) hI Q hk
end Go.Dn
end
section
namespace Go.Dn
open Go.RowKit Go.Dk

def runCL (P : Program) (B : Nat → List Nat) (c : Code) (st : St) (k : Ex → St → Prop) (_ : Lk k) : Prop := runC P B c st k
def tailSL (P : Program) (cs : List Nat) (ops : Array Oper) (i : Nat) (l : List Oper) (base : Nat) (st : St) (K : St → Prop) (_ : Lk K) : Prop := tailS P cs ops i l base st K
def callSL (P : Program) (f : FuncId) (ds : List D) (mem : Nat → Option M) (next : Nat) (K : D → (Nat → Option M) → Nat → Prop) (_ : Lk K) : Prop := callS P f ds mem next K
def opSL (P : Program) (o : Oper) (st : St) (nx : Nat) (K : D → (Nat → Option M) → Nat → Prop) (_ : Lk K) : Prop := opS P o st nx K
/-- a region, by which of its operations are such calls -/
def regL (P : Program) (bs : List Nat) (l : List Oper) (st : St) (K : St → Prop) (_ : Lk K) : Prop :=
  match bs with
  | [] => regionW P l.toArray false st K
  | m :: cs => tailS P (m :: cs) l.toArray 0 l st.next st K
def fnSL (P : Program) (x : D) (args : List D) (mem : Nat → Option M) (nx : Nat) (K : D → (Nat → Option M) → Nat → Prop) (_ : Lk K) : Prop :=
  match x with
  | .f (.fn g caps) => callS P g (args ++ caps.map .f) mem nx K
  | .fn g caps => callS P g (args ++ caps) mem nx K
  | _ => False

section
variable {P : Program} {B : Nat → List Nat} {st : St} {k : Ex → St → Prop} {u : Lk k}
theorem runC_of_runCL {c : Code} (h : runCL P B c st k ⟨⟩) : runC P B c st k := h
theorem runCL_region (id : Nat) (l : List Oper) : runCL P B (.region id l.toArray false) st k u = regL P (B id) l st (fun s => k .normal s) ⟨⟩ := by
  unfold runCL runC regL
  cases B id <;> rfl
theorem runCL_seq (a b : Code) : runCL P B (.seq a b) st k u = runCL P B a st (fun e s => match e with
    | .normal => runCL P B b s k ⟨⟩
    | e => k e s) ⟨⟩ := rfl
theorem runCL_cond (c : Operand) (a b : Code) : runCL P B (.cond c a b) st k u = obL (truth (st.ev c)) (fun t => gifL t (runCL P B a st k ⟨⟩) (runCL P B b st k ⟨⟩) ⟨⟩ ⟨⟩) ⟨⟩ := rfl
theorem runCL_block (id : Nat) (c : Code) : runCL P B (.block id c) st k u = runCL P B c st (fun e s => match e with
    | .exit j => if j = id then k .normal s else k (.exit j) s
    | e => k e s) ⟨⟩ := rfl
theorem runCL_exit (id : Nat) : runCL P B (.exit id) st k u = k (.exit id) st := rfl
theorem runCL_ret : runCL P B .ret st k u = k .ret st := rfl
theorem runCL_skip : runCL P B .skip st k u = k .normal st := rfl
theorem regL_nil (l : List Oper) (n : Nat) (fr : Nat → D) (mem : Nat → Option M) (next : Nat) (lit : Bool) (K : St → Prop) (v : Lk K) : regL P [] l ⟨n, fr, mem, next, lit⟩ K v = opsLL P l.toArray next 0 l ⟨n, fr, mem, next, lit⟩ (fun s => K { s with next := next + l.toArray.size }) ⟨⟩ := rfl
theorem regL_cons (m : Nat) (cs : List Nat) (l : List Oper) (n : Nat) (fr : Nat → D) (mem : Nat → Option M) (next : Nat) (lit : Bool) (K : St → Prop) (v : Lk K) : regL P (m :: cs) l ⟨n, fr, mem, next, lit⟩ K v = tailSL P (m :: cs) l.toArray 0 l next ⟨n, fr, mem, next, lit⟩ K ⟨⟩ := rfl
theorem runCL_loop {c : Code} (as : List Ad) (I : Nat → St → Prop) (n0 : Nat) (h0 : I n0 (St.adopts as st))
    (step : ∀ n s, I n s → runCL P B c s (fun e s' => match e with
      | .normal => ∃ m, m < n ∧ I m s'
      | e => k e s') ⟨⟩) : runCL P B (.loop c) st k u := runC_loop_inv as I n0 h0 step
def iterCL (P : Program) (B : Nat → List Nat) (c : Code) (n : Nat) (st : St) (k : Ex → St → Prop) (_ : Lk k) : Prop := iterN (runC P B c) n st k
/-- a loop, round by round: n rounds at most -/
theorem runCL_unroll {c : Code} (n : Nat) (h : iterCL P B c n st k ⟨⟩) : runCL P B (.loop c) st k u := ⟨[], n, h⟩
theorem runCL_unrollA {c : Code} (as : List Ad) (n : Nat) (h : iterCL P B c n (St.adopts as st) k ⟨⟩) : runCL P B (.loop c) st k u := ⟨as, n, h⟩
theorem iterC_step {c : Code} {n : Nat} (h : runCL P B c st (fun e s => match e with
    | .normal => iterCL P B c n s k ⟨⟩
    | e => k e s) ⟨⟩) : iterCL P B c (n + 1) st k u := h
theorem runCL_draw (A : List (List Nat)) {id : Nat} {l : List Oper} (hB : B id = []) (hm : P.follows .mixedOrders = true) (hA : drawOk l A = true)
    (h : opsDL P l A st.next 0 l st (fun s => k .normal { s with next := st.next + l.toArray.size }) ⟨⟩) : runCL P B (.region id l.toArray true) st k u := by
  unfold runCL runC
  rw [hB]
  exact ⟨A, hA, hm, h⟩
theorem runCL_cdraw (m : Nat) (cs : List Nat) (A : List (List Nat)) {id : Nat} {ops hd tl : List Oper} (hB : B id = m :: cs) (h1 : ops.take m = hd) (h2 : ops.drop m = tl) (hlen : m ≤ ops.length) (hm : P.follows .mixedOrders = true) (hA : drawOk hd A = true) (b1 : headB .any hd = true) (b2 : sinksB .any hd tl = true) (b3 : chainsB .any hd tl = true)
    (h : opsDL P hd A st.next 0 hd st (fun s => tailSL P (m :: cs) ops.toArray m tl st.next s (fun s => k .normal s) ⟨⟩) ⟨⟩) : runCL P B (.region id ops.toArray true) st k u := by
  unfold runCL runC
  rw [hB]
  refine ⟨by simpa using hlen, ?_⟩
  unfold headW
  rw [if_pos rfl]
  simp only
  rw [h1, h2]
  exact ⟨A, ⟨hA, hm⟩, ⟨b1, b2, b3⟩, h⟩
end
section
variable {P : Program} {cs : List Nat} {ops : Array Oper} {i base : Nat} {K : St → Prop} {v : Lk K} {n : Nat} {fr : Nat → D} {mem : Nat → Option M} {next : Nat} {lit : Bool}
theorem tailSL_nil : tailSL P cs ops i [] base ⟨n, fr, mem, next, lit⟩ K v = K ⟨n, fr, mem, base + ops.size, lit⟩ := rfl
theorem tailSL_cons (dst : Option Tmp) (op : Op) (ty : TypeId) (pos : String) (af : Array Edge) (gd : Option (Nat × Bool)) (r : List Oper) : tailSL P cs ops i (⟨dst, op, ty, pos, af, gd⟩ :: r) base ⟨n, fr, mem, next, lit⟩ K v =
    obL (gval ops ⟨n, fr, mem, next, lit⟩ gd) (fun g => gifL g
      (gifL (cs.contains i) (opSL P ⟨dst, op, ty, pos, af, gd⟩ ⟨n, fr, mem, next, lit⟩ (base + ops.size) (fun d mem' next' => tailSL P cs ops (i + 1) r next' (St.put ⟨n, fr, mem', next, lit⟩ dst d) K ⟨⟩) ⟨⟩)
        (opWL P (base + i) ⟨dst, op, ty, pos, af, gd⟩ ⟨n, fr, mem, next, lit⟩ (fun d st' => tailSL P cs ops (i + 1) r base (st'.put dst d) K ⟨⟩) ⟨⟩) ⟨⟩ ⟨⟩)
      (tailSL P cs ops (i + 1) r base (St.put ⟨n, fr, mem, next, lit⟩ dst undefD) K ⟨⟩) ⟨⟩ ⟨⟩) ⟨⟩ := rfl
theorem tailSL_plain (dst : Option Tmp) (op : Op) (ty : TypeId) (pos : String) (af : Array Edge) (r : List Oper) : tailSL P cs ops i (⟨dst, op, ty, pos, af, none⟩ :: r) base ⟨n, fr, mem, next, lit⟩ K v =
      gifL (cs.contains i) (opSL P ⟨dst, op, ty, pos, af, none⟩ ⟨n, fr, mem, next, lit⟩ (base + ops.size) (fun d mem' next' => tailSL P cs ops (i + 1) r next' (St.put ⟨n, fr, mem', next, lit⟩ dst d) K ⟨⟩) ⟨⟩)
        (opWL P (base + i) ⟨dst, op, ty, pos, af, none⟩ ⟨n, fr, mem, next, lit⟩ (fun d st' => tailSL P cs ops (i + 1) r base (st'.put dst d) K ⟨⟩) ⟨⟩) ⟨⟩ ⟨⟩ := by
  rw [tailSL_cons]
  exact obL_some _ _ _
end
section
variable {P : Program} {st : St} {nx : Nat} {K : D → (Nat → Option M) → Nat → Prop} {u : Lk K} {dst : Option Tmp} {args : Array Operand} {ats : Array TypeId} {ty : TypeId} {pos : String} {af : Array Edge} {gd : Option (Nat × Bool)}
theorem opSL_call (g : FuncId) : opSL P ⟨dst, .call ⟨.value (.func g), args, ats⟩, ty, pos, af, gd⟩ st nx K u = callSL P g (args.toList.map st.ev) st.mem nx K ⟨⟩ := by
  show callS P g (args.toList.map st.ev ++ []) st.mem nx K = _
  rw [List.append_nil]
  rfl
theorem opSL_callval (t : Tmp) : opSL P ⟨dst, .call ⟨.value (.tmp t), args, ats⟩, ty, pos, af, gd⟩ st nx K u = fnSL P (st.fr t) (args.toList.map st.ev) st.mem nx K ⟨⟩ := rfl
/-- string(bytes) -/
theorem convSL_mk {s t : TypeId} {x : Operand} {si ti : TI} {e b : Nat} {z : List Value} {xs : List (List FD)} {ns : List Int} (hs : lay P s = some si) (ht : lay P t = some ti) (hk : si.ki = .slice e 1 b z) (hk2 : ti.ki = .string) (he : P.underlying e = some (.int .u8))
    (hel : elems st.mem 1 (st.ev x) = some xs) (hb : bytesD xs = some ns) (hne : xs ≠ []) (h : K (.f (.v (.string (strOfNums ns)))) st.mem nx) : opSL P ⟨dst, .convert s t x, ty, pos, af, gd⟩ st nx K u := by
  refine ⟨si, hs, ti, ht, ?_⟩
  simp only [hk]
  exact ⟨⟨hk2, he, trivial⟩, xs, hel, ns, hb, hne, h⟩
theorem fnSL_f (g : FuncId) (caps : List FD) (ds : List D) (mem : Nat → Option M) : fnSL P (.f (.fn g caps)) ds mem nx K u = callSL P g (ds ++ caps.map .f) mem nx K ⟨⟩ := rfl
theorem fnSL_fn (g : FuncId) (caps : List D) (ds : List D) (mem : Nat → Option M) : fnSL P (.fn g caps) ds mem nx K u = callSL P g (ds ++ caps) mem nx K ⟨⟩ := rfl
end
attribute [go_sem] runCL_region runCL_seq runCL_cond runCL_block runCL_exit runCL_ret runCL_skip regL_nil regL_cons tailSL_nil tailSL_cons tailSL_plain opSL_call opSL_callval fnSL_f fnSL_fn resultS resS1 entD
variable {P : Program}
theorem Pure.of_runC' {f : FuncId} {fn : Func} {cd : Code} {ds : List FD} {d : FD} {n : Nat} {rs : List ResultVar} {lit : Bool} (B : Nat → List Nat) (hf : P.funcs[f]? = some fn) (hb : fn.body = some cd) (hname : (fn.name == "runtime.NumGoroutine") = false) (hnt : fn.ntmps = n) (hrs : fn.results.toList = rs) (hn : ds.length ≤ n)
    (h : runC P B cd (St.enter n ds lit) fun e s => e.fin = true ∧ ∃ d', resultD P rs s = some d' ∧ FLe d' d) : Pure P f ds d :=
  Pure.of_sound (lit := lit) hf hb hname hnt hrs hn fun _ _ c a hI Q hk => runC_sound cd _ _ h 0 c a (Nat.zero_le _) hI Q fun e c' a' st' h1 h2 _ _ => hk e c' a' st' h1 h2
theorem Pure.of_runC {f : FuncId} {fn : Func} {cd : Code} {ds : List FD} {d : FD} {n : Nat} {rs : List ResultVar} {lit : Bool} (B : Nat → List Nat) (hf : P.funcs[f]? = some fn) (hb : fn.body = some cd) (hname : (fn.name == "runtime.NumGoroutine") = false) (hnt : fn.ntmps = n) (hrs : fn.results.toList = rs) (hn : ds.length ≤ n)
    (h : runC P B cd (St.enter n ds lit) fun e s => e.fin = true ∧ resultD P rs s = some d) : Pure P f ds d :=
  Pure.of_runC' (lit := lit) B hf hb hname hnt hrs hn (runC_mono cd _ _ _ (fun _ _ ⟨h1, h2⟩ => ⟨h1, d, h2, FLe.refl d⟩) h)
end Go.Dn
end
section
namespace Go.Dn
open Go.RowKit Go.Dk

variable {P : Program}

theorem loadD_rowp (mem : Nat → Option M) (size : Nat) (agg : Bool) (g ver z k off : Nat) : loadD mem size agg (.rowp g ver z k off) = (match mem g with | some (.row _ v sz xs) => if v = ver ∧ sz = z then (xs[k]?).bind fun cs => (partF (cs.drop off) size agg).map .f else none | _ => none) := rfl
attribute [go_sem] loadD_rowp
theorem Cw_lt {l : List Oper} {A : List (List Nat)} {base i x : Nat} (h : x < base) (hk : ((List.range l.length).all fun k => !unord A i k || silentAt l k) = true) : Cw l A base i x = true := by
  unfold Cw
  rw [if_pos h, hk]
  simp
theorem Cw_new {l : List Oper} {A : List (List Nat)} {base i : Nat} : Cw l A base i (base + i) = true := by
  unfold Cw
  simp
theorem Tv_new {l : List Oper} {A : List (List Nat)} {base i : Nat} (hs : silentAt l i = false) : Tv l A base i (base + i) = true := by
  unfold Tv
  simp [hs]
theorem Tv_lt {l : List Oper} {A : List (List Nat)} {base i x : Nat} (h : x < base) (hs : silentAt l i = false) : Tv l A base i x = true := by
  unfold Tv
  simp [h, hs]
theorem adopt_opn (id t : Nat) (n : Nat) (fr : Nat → D) (mem : Nat → Option M) (next : Nat) (lit : Bool) : St.adopt1 ⟨n, fr, mem, next, lit⟩ (.opn id t) = match mem id, mem t with
    | some (.rows rs), some (.blk cs) => ⟨n, fr, upd (openM mem id next rs) t (some (.blk (cs.map (redir id next rs.length)))), next + rs.length, lit⟩
    | _, _ => ⟨n, fr, mem, next, lit⟩ := rfl
attribute [go_sem] adopt_opn
/-- from what an operation goes on with to what a call gives -/
def nextS (w0 : World) (WS0 : Nat → Nat → Prop) (c : Cx) (nx nx' : Nat) (K : D → (Nat → Option M) → Nat → Prop) : Act → World → Prop := fun a W =>
  ∃ c' d mem', c'.x.W = W ∧ K d mem' nx' ∧ nx ≤ nx' ∧ Ext c c' ∧ InvM w0 WS0 c' mem' ∧ RepD c' (a.tmps.getD 0 undef) d ∧ (∀ id, nx' ≤ id → Fresh c' mem' id)
def actS : Act := { tmps := #[undef], defers := [] }
theorem actS_put (v : Value) : (actS.put (some 0) v).tmps.getD 0 undef = v := rfl
theorem goes_nextS {w0 : World} {WS0 : Nat → Nat → Prop} {c : Cx} {mem : Nat → Option M} {nx : Nat} {K : D → (Nat → Option M) → Nat → Prop} (hfr : ∀ id, nx ≤ id → Fresh c mem id) :
    Goes w0 WS0 c actS ⟨0, fun _ => .top, mem, nx, false⟩ nx (some 0) (fun d s => K d s.mem (nx + 1)) (nextS w0 WS0 c nx (nx + 1) K) := by
  intro c' v d st' hK e1 e2 e3 hx hM hv hf
  exact ⟨c', d, st'.mem, rfl, hK, by omega, hx, hM, by rw [actS_put]; exact hv, fun id hid => hf id (by omega) (hfr id (by omega))⟩
theorem callS_of {f : FuncId} {ds : List D} {mem : Nat → Option M} {nx nx' : Nat} {K : D → (Nat → Option M) → Nat → Prop}
    (h : Goes' P f ∧ ∀ (w0 : World) (WS0 : Nat → Nat → Prop) (c : Cx) (vs : List Value), RepDL c vs ds → InvM w0 WS0 c mem → (∀ id, nx ≤ id → Fresh c mem id) →
      Calls P f vs.toArray c.x.W fun e w' => ∃ v, e = .returned v ∧ nextS w0 WS0 c nx nx' K (actS.put (some 0) v) w') : callS P f ds mem nx K := by
  refine ⟨h.1, fun w0 WS0 c vs h1 h2 h3 => (h.2 w0 WS0 c vs h1 h2 h3).mono ?_⟩
  rintro e w' ⟨v, rfl, c', d, mem', rfl, hK, h4, h5, h6, h7, h8⟩
  rw [actS_put] at h7
  exact ⟨v, c', d, mem', nx', rfl, rfl, hK, h4, h5, h6, h7, h8⟩
/-- a call of a function that is data alone, or makes a row -/
theorem callS_callW {f : FuncId} {ds : List D} {mem : Nat → Option M} {nx : Nat} {K : D → (Nat → Option M) → Nat → Prop}
    (h : callW P nx ⟨0, fun _ => .top, mem, nx, false⟩ f ds (fun d s => K d s.mem (nx + 1))) : callS P f ds mem nx K := by
  refine callS_of (nx' := nx + 1) ⟨?_, fun w0 WS0 c vs h1 h2 h3 => ?_⟩
  · rcases h with ⟨x, e, sz, xs, -, hp, -⟩ | ⟨fs, rs, -, hp, -⟩ | ⟨fs, -, ⟨d, hp, -⟩ | ⟨e, sz, xs, hp, -⟩⟩
    · exact hp.1.1
    · exact hp.1.1
    · exact hp.1
    · exact hp.1.1
  · exact (callW_goes (goes_nextS h3) h2 h1 (h3 nx (Nat.le_refl _)) h).2
/-- a call that makes a copy of a row -/
theorem callS_row {f : FuncId} {x : D} {e sz : Nat} {xs : List (List FD)} {mem : Nat → Option M} {nx : Nat} {K : D → (Nat → Option M) → Nat → Prop} (hgo : Goes' P f) (hsz : 0 < sz) (hel : elems mem sz x = some xs)
    (h : ∀ (w : World) (v : Value) (L : List Value), Rd w v sz xs.length L → (∀ u ∈ L, u.oneCell' = true) → Calls P f #[v] w fun en w' => ∃ v', en = .returned v' ∧ w'.ownsRow w.heap.size e sz v' xs.length L ∧ Chg No w w')
    (hk : K (.own nx 0) (upd mem nx (some (.row e 0 sz xs))) (nx + 1)) : callS P f [x] mem nx K := by
  refine callS_of (nx' := nx + 1) ⟨hgo, fun w0 WS0 c vs h1 hM hfr => ?_⟩
  unfold RepDL at h1
  obtain ⟨v, us, rfl, hv, h1⟩ := h1
  unfold RepDL at h1
  subst h1
  obtain ⟨L, hrd, hrc, hlen⟩ := elems_rd hM hv hel
  refine (h c.x.W v L hrd (repC_one hrc)).mono ?_
  rintro en w' ⟨v', rfl, hown, hch⟩
  refine ⟨v', rfl, (goes_nextS hfr).grow hM (g := nx) (ver := 0) (e := e) (sz := sz) (v := .slice none 0 0) (zs := xs) (vs := L) ((hfr nx (Nat.le_refl _)).2 0) (fun k _ => (hfr nx (Nat.le_refl _)).2 k) (.inr ⟨(hfr nx (Nat.le_refl _)).1, rfl, rfl⟩) (ownsRow_less hown hM.chg.size) (Chg.grown_none hch) (fun k hk => .inr (ownsRow_from hown k hk)) hrc hlen hsz ?_⟩
  exact hk
theorem rep_of_row {x : X} {B e sz : Nat} {v : Value} {xs : List (List FD)} {vs : List Value} (h2 : x.W.ownsRow B e sz v xs.length vs) (h3 : RepC x vs xs.flatten) (h4 : ∀ ds ∈ xs, ds.length = sz) (hf : ∀ b o, v.ownBlock = some b → ¬ x.WS b o) : Rep x v (.sl sz xs) := by
  unfold Rep
  rcases h2.2 with ⟨rfl, hn⟩ | ⟨b, cap, cur, rfl, hb1, hg, hnc, hmx, rest⟩
  · exact ⟨none, 0, by rw [hn], ⟨by omega, by omega⟩, fun _ => rfl, fun hne => (hne (List.eq_nil_of_length_eq_zero hn)).elim⟩
  · refine ⟨_, cap, rfl, ⟨hnc, hmx⟩, (fun hh => by cases hh), fun _ => ⟨b, 0, rfl, repR_of h4 (repA_of h3 fun j u hu => ⟨?_, hf b _ rfl⟩)⟩⟩
    have := h2.cells (g := b) rfl j u hu
    rw [Addr.add_mid] at this
    exact this
/-- a copy of a row, that nobody will write -/
theorem Pure.of_copy {f : FuncId} {e sz : Nat} (h : CopyRow P f e sz) {xs : List (List FD)} (hn : xs.length ≤ 1048576) : Pure P f [.sl sz xs] (.sl sz xs) := by
  refine ⟨h.1.1, fun x vs hws hr => ?_⟩
  unfold RepL at hr
  obtain ⟨v, us, rfl, hv, h1⟩ := hr
  unfold RepL at h1
  subst h1
  have hM : InvM x.W x.WS ⟨fun _ _ => none, x⟩ noM := ⟨fun id m hm => by simp [noM] at hm, fun id id' m m' b hm => by simp [noM] at hm, Chg.refl _ _, fun b o h => h, hws, hws, fun g e ver sz xs hm => by simp [noM] at hm⟩
  obtain ⟨L, hrd, hrc, hlen⟩ := elems_rd hM (v := v) (x := .f (.sl sz xs)) (sz := sz) (ys := xs) (by unfold RepD; exact hv) (by simp [elems])
  refine (h.2 x.W v _ L hn hrd (repC_one hrc)).mono ?_
  rintro en w' ⟨v', rfl, hown, hch⟩
  have hsub : Sub x ⟨x.WS, w'⟩ := fun b o u hc hno => ⟨hch.cell hc (fun x => x), hno⟩
  refine ⟨v', rfl, rep_of_row (x := ⟨x.WS, w'⟩) hown (RepC.mono hsub hrc) hlen (fun b o hb hw => ?_), hch⟩
  have h1 := ownsRow_from hown b hb
  have h2 := hws b o hw
  omega
/-- rows made at once: from what a call gives -/
theorem RowsCall.of_callS {f : FuncId} {fs : List FD} {rs : List (TypeId × Nat × List (List FD))} (hrs : ∀ r ∈ rs, 0 < r.2.1 ∧ ∀ ds ∈ r.2.2, ds.length = r.2.1)
    (h : callS P f (fs.map .f) noM 0 fun d mem _ => ∃ gs : List (Nat × Nat), d = .agg (gs.map fun p => .own p.1 p.2) ∧ gs.length = rs.length ∧ (gs.map Prod.fst).Nodup ∧ ∀ (j : Nat) (p : Nat × Nat) (r : TypeId × Nat × List (List FD)), gs[j]? = some p → rs[j]? = some r → mem p.1 = some (.row r.1 p.2 r.2.1 r.2.2)) : RowsCall P f fs rs := by
  refine ⟨⟨h.1, hrs⟩, fun x vs hws hr => ?_⟩
  have hM : InvM x.W x.WS ⟨fun _ _ => none, x⟩ noM := ⟨fun id m hm => by simp [noM] at hm, fun id id' m m' b hm => by simp [noM] at hm, Chg.refl _ _, fun b o h => h, hws, hws, fun g e ver sz xs hm => by simp [noM] at hm⟩
  refine (h.2 x.W x.WS ⟨fun _ _ => none, x⟩ vs (repDL_f hr) hM (fun id _ => ⟨rfl, fun _ => rfl⟩)).mono ?_
  rintro en w' ⟨v, c', d, mem', next', rfl, rfl, ⟨gs, rfl, hlen, hnd, hrow⟩, -, -, hM', hv, -⟩
  unfold RepD at hv
  obtain ⟨us, rfl, hus⟩ := hv
  have hul := repDC_len hus
  rw [List.length_map] at hul
  have hE : ∀ (j : Nat) (u : Value) (p : Nat × Nat), us[j]? = some u → gs[j]? = some p → c'.E p.1 p.2 = some u := fun j u p hu hp => by
    have : (gs.map fun p => D.own p.1 p.2)[j]? = some (.own p.1 p.2) := by rw [List.getElem?_map, hp]; rfl
    obtain ⟨u', h1, -, h2⟩ := repDC_get hus this
    rw [hu] at h1
    cases h1
    unfold RepD at h2
    exact h2.1
  have hR : ∀ (j : Nat) (u : Value) (p : Nat × Nat) (r : TypeId × Nat × List (List FD)), us[j]? = some u → gs[j]? = some p → rs[j]? = some r → ∃ cells, c'.x.W.ownsRow x.W.heap.size r.1 r.2.1 u r.2.2.length cells ∧ RepC c'.x cells r.2.2.flatten ∧ ∀ b, u.ownBlock = some b → ∀ o, c'.x.WS b o := fun j u p r hu hp hr => by
    obtain ⟨v0, cells, h1, h2, h3, h4, h5, h6⟩ := hM'.mem _ _ (hrow j p r hp hr)
    rw [hE j u p hu hp] at h1
    cases h1
    exact ⟨cells, h2, h3, h6⟩
  have hget : ∀ (j : Nat) (u : Value), us[j]? = some u → ∃ p r, gs[j]? = some p ∧ rs[j]? = some r := fun j u hu => by
    have hj := (List.getElem?_eq_some_iff.1 hu).1
    exact ⟨_, _, List.getElem?_eq_getElem (by omega), List.getElem?_eq_getElem (by omega)⟩
  refine ⟨us, rfl, by omega, hM'.chg, fun j u r hu hr => ?_, fun j j' u u' b hu hu' hb hb' => ?_⟩
  · obtain ⟨p, r', hp, hr'⟩ := hget j u hu
    obtain ⟨cells, k1, k2, -⟩ := hR j u p r hu hp hr
    have hsub : Sub c'.x ⟨fun b o => (∃ u ∈ us, u.ownBlock = some b) ∨ x.WS b o, c'.x.W⟩ := fun b o w hc hno => ⟨hc, ?_⟩
    exact ⟨cells, k1, RepC.mono hsub k2⟩
    rintro (⟨u2, hu2, hb2⟩ | hw)
    · obtain ⟨j2, hj2⟩ := List.getElem?_of_mem hu2
      obtain ⟨p2, r2, hp2, hr2⟩ := hget j2 u2 hj2
      obtain ⟨-, -, -, k3⟩ := hR j2 u2 p2 r2 hj2 hp2 hr2
      exact hno (k3 b hb2 o)
    · exact hno (hM'.ws0 b o hw)
  · obtain ⟨p, r, hp, hr⟩ := hget j u hu
    obtain ⟨p', r', hp', hr'⟩ := hget j' u' hu'
    have e := hM'.inj p.1 p'.1 _ _ b (hrow j p r hp hr) (hrow j' p' r' hp' hr') ⟨u, hE j u p hu hp, hb⟩ ⟨u', hE j' u' p' hu' hp', hb'⟩
    have h1 : (gs.map Prod.fst)[j]? = some p.1 := by rw [List.getElem?_map, hp]; rfl
    have h2 : (gs.map Prod.fst)[j']? = some p'.1 := by rw [List.getElem?_map, hp']; rfl
    have hl : j < (gs.map Prod.fst).length := (List.getElem?_eq_some_iff.1 h1).1
    exact (List.getElem?_inj hl hnd).1 (by rw [h1, h2, e])
end Go.Dn
end
section
namespace Go.Dk
open Go.RowKit

def plainOp : Op → Bool
  | .move _ | .assign _ | .nilCheck _ | .fieldAddr .. | .load .. => true
  | _ => false
def NoEnter : Result Next → Prop
  | .ok (.value _) _ => True
  | .halt _ _ => True
  | _ => False
theorem noEnter_v {P : Program} {s : Sem Value} {w : World} : NoEnter ((do pure (Next.value (← s)) : Sem Next).run P w) := by
  rw [Sem.run_bind]
  generalize s.run P w = r
  cases r with
  | ok x w' => simp [Result.andThen, NoEnter]
  | halt x w' => simp [Result.andThen, NoEnter]
theorem noEnter_plain {P : Program} {o : Oper} (h : plainOp o.op = true) (ρ : Operand → Value) (w : World) : NoEnter ((execOp ρ o).run P w) := by
  obtain ⟨dst, op, ty, pos, af, gd⟩ := o
  cases op with
  | move x => simp [execOp, NoEnter]
  | assign x => simp [execOp, NoEnter]
  | load t a => exact noEnter_v
  | fieldAddr s x f => exact noEnter_v
  | nilCheck x =>
    simp only [execOp]
    split
    all_goals try (simp [NoEnter, runtimePanic]; done)
    split
    all_goals try (simp [NoEnter, runtimePanic]; done)
    rw [Sem.run_bind]
    generalize (program).run P w = r0
    cases r0 with
    | halt x w' => simp [Result.andThen, NoEnter]
    | ok pr w' =>
      simp only [Result.andThen_ok]
      rw [Sem.run_bind]
      generalize (nilAhead _ _ _ _).run P w' = r
      cases r with
      | halt x w'' => simp [Result.andThen, NoEnter]
      | ok b w'' =>
        simp only [Result.andThen_ok]
        split
        · simp [NoEnter, unsupported, Result.andThen]
        · simp [NoEnter]
  | _ => simp [plainOp] at h
theorem wp_both {P : Program} {o : Oper} {a : Act} {w : World} {K K' : Act → World → Prop} {Q Q' : Exit → Act → World → Prop} (h : plainOp o.op = true) (hq : ∀ c a w, ¬ Q (.panic c) a w) (h1 : o.wp P a w K Q) (h2 : o.wp P a w K' Q') : o.wp P a w (fun a w => K a w ∧ K' a w) (fun _ _ _ => False) := by
  unfold Oper.wp at h1 h2 ⊢
  have hn := noEnter_plain (P := P) h a.eval w
  generalize (execOp a.eval o).run P w = r at *
  cases r with
  | halt x w' =>
    cases x <;> simp only [Oper.upon] at h1 ⊢
    exact hq _ _ _ h1
  | ok x w' =>
    cases x <;> simp only [Oper.upon] at h1 h2 ⊢
    case value u => exact ⟨h1, h2⟩
    all_goals exact hn.elim
section
variable {n : Nat} {P : Program} {l t : List Oper} {f : Nat} {of : Oper} {Q QA QB : Exit → Act → World → Prop}
/-- what is asked: the alloc waits for nothing and asks nothing; the head is plain; all else of the tail waits for one of the tail that is not the alloc -/
def floatB (l t : List Oper) (f : Nat) : Bool :=
  decide (l.length < f) && (match (l ++ t)[f]? with | some of => of.guard.isNone && of.after.all (fun e => !Region.binds .any e) | none => false) && l.all (fun o => plainOp o.op) &&
  (List.range t.length).all fun k => decide (k = 0) || decide (l.length + k = f) || ((t[k]?).map fun o => o.after.any fun e => Region.binds .any e && decide (l.length ≤ e.on) && decide (e.on ≠ f)).getD true
structure FloatOk (l t : List Oper) (f : Nat) (of : Oper) : Prop where
  hd : headB .any l = true
  sk : sinksB .any l t = true
  lt : l.length < f
  at_ : (l ++ t)[f]? = some of
  guard : of.guard = none
  after : ∀ e ∈ of.after, Region.binds .any e = false
  plain : ∀ o ∈ l, plainOp o.op = true
  rest : ∀ k o, t[k]? = some o → k ≠ 0 → l.length + k ≠ f → ∃ e ∈ o.after, Region.binds .any e = true ∧ l.length ≤ e.on ∧ e.on ≠ f
theorem floatB_ok (hd : headB .any l = true) (sk : sinksB .any l t = true) (h : floatB l t f = true) : ∃ of, FloatOk l t f of := by
  unfold floatB at h
  simp only [Bool.and_eq_true, decide_eq_true_eq] at h
  obtain ⟨⟨⟨h1, h2⟩, h3⟩, h4⟩ := h
  split at h2
  · rename_i of ho
    simp only [Bool.and_eq_true] at h2
    refine ⟨of, hd, sk, h1, ho, by simpa using h2.1, fun e he => ?_, fun o ho => List.all_eq_true.1 h3 o ho, fun k o hk h0 hf => ?_⟩
    · have := Array.all_eq_true'.1 h2.2 e he
      simpa using this
    · have := List.all_eq_true.1 h4 k (by simpa using (List.getElem?_eq_some_iff.1 hk).1)
      rw [hk] at this
      simp only [Bool.or_eq_true, decide_eq_true_eq, Option.map_some, Option.getD_some] at this
      rcases this with (h | h) | h
      · exact absurd h h0
      · exact absurd h hf
      · obtain ⟨i, hi, h⟩ := Array.any_eq_true.1 h
        simp only [Bool.and_eq_true, decide_eq_true_eq] at h
        exact ⟨_, Array.getElem_mem hi, h.1.1, h.1.2, h.2⟩
  · cases h2
/-- the listed ones: of the head, and the alloc or not -/
def lst (D : Array Bool) (r f : Nat) (x : Bool) : Array Bool := if x then (D ++ Array.replicate r false).setIfInBounds f true else D ++ Array.replicate r false
theorem lst_head {D : Array Bool} {r f : Nat} {x d : Bool} {j : Nat} (hf : D.size < f) (hj : j < D.size) : (lst D r f x).getD j d = D.getD j d := by
  unfold lst
  cases x with
  | true =>
    rw [if_pos rfl, getD_set_ne d (by omega)]
    simp [Array.getD, hj, show j < D.size + r by omega, Array.getElem_append]
  | false =>
    rw [if_neg (by simp)]
    simp [Array.getD, hj, show j < D.size + r by omega, Array.getElem_append]
theorem lst_tail {D : Array Bool} {r f : Nat} {x : Bool} {j : Nat} (h1 : D.size ≤ j) (h2 : j < D.size + r) (hne : j ≠ f) (d : Bool) : (lst D r f x).getD j d = false := by
  unfold lst
  cases x with
  | true =>
    rw [if_pos rfl, getD_set_ne d (Ne.symm hne)]
    simp [Array.getD, h2, show ¬ j < D.size by omega, Array.getElem_append]
  | false =>
    rw [if_neg (by simp)]
    simp [Array.getD, h2, show ¬ j < D.size by omega, Array.getElem_append]
theorem lst_set {D : Array Bool} {r f j : Nat} {x : Bool} (hf : D.size < f) (hj : j < D.size) : (lst D r f x).setIfInBounds j true = lst (D.setIfInBounds j true) r f x := by
  unfold lst
  cases x with
  | true =>
    rw [if_pos rfl, if_pos rfl, Array.setIfInBounds_comm _ _ (by omega), Array.setIfInBounds_append_left (by omega)]
  | false =>
    rw [if_neg (by simp), if_neg (by simp), Array.setIfInBounds_append_left (by omega)]
theorem ready_lst (ho : FloatOk l t f of) {D : Array Bool} (hs : D.size = l.length) {x : Bool} {j : Nat} (hj : j < l.length) : j ∈ Region.ready .any (l ++ t).toArray (lst D t.length f x) ↔ j ∈ Region.ready .any l.toArray D := by
  have hf := ho.lt
  rw [mem_ready, mem_ready, lst_head (by omega) (by omega), at_lt j hj]
  constructor
  · rintro ⟨h1, o, h2, h3⟩
    have hl : l[j]? = some o := by simpa using h2
    exact ⟨h1, o, h2, fun e he hb => by
      have := h3 e he hb
      rwa [lst_head (by omega) (by have := (headB_spec ho.hd hl).1 e he hb; omega)] at this⟩
  · rintro ⟨h1, o, h2, h3⟩
    have hl : l[j]? = some o := by simpa using h2
    exact ⟨h1, o, h2, fun e he hb => by
      rw [lst_head (by omega) (by have := (headB_spec ho.hd hl).1 e he hb; omega)]
      exact h3 e he hb⟩
theorem push_getD (D : Array Bool) (x d : Bool) {j : Nat} (hj : j < D.size) : (D.push x).getD j d = D.getD j d := by
  simp [Array.getD, hj, show j < D.size + 1 by omega, Array.getElem_push]
theorem ready_push (ho : FloatOk l t f of) {D : Array Bool} (hs : D.size = l.length) {x : Bool} {j : Nat} (hj : j < l.length) : j ∈ Region.ready .any (l ++ [of]).toArray (D.push x) ↔ j ∈ Region.ready .any l.toArray D := by
  rw [mem_ready, mem_ready, push_getD _ _ _ (by omega), at_lt j hj]
  constructor
  · rintro ⟨h1, o, h2, h3⟩
    have hl : l[j]? = some o := by simpa using h2
    exact ⟨h1, o, h2, fun e he hb => by
      have := h3 e he hb
      rwa [push_getD _ _ _ (by have := (headB_spec ho.hd hl).1 e he hb; omega)] at this⟩
  · rintro ⟨h1, o, h2, h3⟩
    have hl : l[j]? = some o := by simpa using h2
    exact ⟨h1, o, h2, fun e he hb => by
      rw [push_getD _ _ _ (by have := (headB_spec ho.hd hl).1 e he hb; omega)]
      exact h3 e he hb⟩
/-- nothing of the tail but the alloc comes up before the head is done -/
theorem rest_ready (ho : FloatOk l t f of) {D : Array Bool} (hs : D.size = l.length) (hcl : ClosedB .any l D) {x : Bool} {j : Nat} (hj : l.length ≤ j) (hjf : j ≠ f) (h : j ∈ Region.ready .any (l ++ t).toArray (lst D t.length f x)) : ∀ d i, l.length - i = d → i < l.length → D.getD i false = true := by
  have hf := ho.lt
  obtain ⟨g1, oj, g2, g3⟩ := mem_ready.1 h
  have hlt : j < l.length + t.length := by simpa using (Array.getElem?_eq_some_iff.1 g2).1
  have hj0 : j = l.length := by
    rcases Nat.lt_or_ge l.length j with hx | hx
    · obtain ⟨i, rfl⟩ : ∃ i, j = l.length + i := ⟨j - l.length, by omega⟩
      rw [at_ge] at g2
      obtain ⟨e, he, hb, hon, hne⟩ := ho.rest i oj g2 (by omega) hjf
      have hy := g3 e he hb
      by_cases hin : e.on < l.length + t.length
      · rw [lst_tail (by omega) (by omega) hne] at hy
        cases hy
      · unfold lst at hy
        split at hy
        · rw [getD_set_ne false (Ne.symm hne)] at hy
          simp [Array.getD, show ¬ e.on < D.size + t.length by omega] at hy
        · simp [Array.getD, show ¬ e.on < D.size + t.length by omega] at hy
    · omega
  subst hj0
  intro d
  induction d using Nat.strongRecOn with
  | ind d ih =>
    intro i hd hi
    obtain ⟨j', oj', hij, hj', ho', e, he, hb, hon⟩ := sinksB_spec ho.sk hi
    rcases Nat.lt_or_ge j' l.length with hx | hx
    · have h1 := ih (l.length - j') (by omega) j' rfl hx
      rw [List.getElem?_append_left hx] at ho'
      have := hcl j' oj' ho' h1 e he hb
      rwa [hon] at this
    · obtain rfl : j' = l.length := by omega
      rw [List.getElem?_toArray, ho'] at g2
      injection g2 with g2
      subst g2
      have := g3 e he hb
      rwa [hon, lst_head (by omega) (by omega)] at this
theorem full_eq {D : Array Bool} (hs : D.size = l.length) (h : ∀ i, i < l.length → D.getD i false = true) : D = Array.replicate l.length true := by
  apply Array.ext
  · simp [hs]
  · intro i h1 h2
    have := h i (by omega)
    simpa [Array.getD, h1] using this
theorem closed_set {D : Array Bool} (hs : D.size = l.length) (hcl : ClosedB .any l D) {j : Nat} (hjr : j ∈ Region.ready .any l.toArray D) : ClosedB .any l (D.setIfInBounds j true) := fun i oi hi hv e he hb => by
  obtain ⟨_, oj, hoj, hall⟩ := mem_ready.1 hjr
  by_cases hij : j = i
  · subst hij
    rw [List.getElem?_toArray, hi] at hoj
    injection hoj with hoj
    subst hoj
    exact getD_set_true (hall e he hb)
  · rw [getD_set_ne false hij] at hv
    exact getD_set_true (hcl i oi hi hv e he hb)
/-- the alloc has come -/
theorem float_two (ho : FloatOk l t f of) (hl : ¬ LetsOut QB) (hp : ∀ c a w, ¬ QB (.panic c) a w)
    (hQ : ∀ a w, QB .normal a w → ∀ F, t.length - 1 ≤ F → wpAnyIn Fence.wide n P .any (l ++ t).toArray Q F (lst (Array.replicate l.length true) t.length f true) a w) :
    ∀ (fuel : Nat) (D : Array Bool) (a : Act) (w : World), D.size = l.length → ClosedB .any l D → wpAny P .any (l ++ [of]).toArray QB fuel (D.push true) a w →
    wpAnyIn Fence.wide n P .any (l ++ t).toArray Q (fuel + (t.length - 1)) (lst D t.length f true) a w := by
  intro fuel
  have hf := ho.lt
  have noneReady : ∀ D : Array Bool, D.size = l.length → Region.ready .any l.toArray D = [] → Region.ready .any (l ++ [of]).toArray (D.push true) = [] := fun D hs hr => by
    rw [List.eq_nil_iff_forall_not_mem]
    intro j hj
    have hlt : j < l.length + 1 := by
      obtain ⟨-, o, h2, -⟩ := mem_ready.1 hj
      simpa using (Array.getElem?_eq_some_iff.1 h2).1
    by_cases hjl : j < l.length
    · have := (ready_push ho hs hjl).1 hj
      rw [hr] at this
      cases this
    · have : j = D.size := by omega
      subst this
      have := (mem_ready.1 hj).1
      simp [Array.getD, Array.getElem_push] at this
  have done : ∀ (D : Array Bool) (a : Act) (w : World) (F : Nat), D.size = l.length → Region.ready .any l.toArray D = [] → QB .normal a w → t.length - 1 ≤ F → wpAnyIn Fence.wide n P .any (l ++ t).toArray Q F (lst D t.length f true) a w := fun D a w F hs hr hq hF => by
    have := hQ a w hq F hF
    rwa [← full_eq hs (head_full ho.hd hs hr)] at this
  induction fuel with
  | zero =>
    intro D a w hs hcl h
    have hr : Region.ready .any l.toArray D = [] := by
      rw [List.eq_nil_iff_forall_not_mem]
      intro j hj
      have hlt : j < l.length := by
        obtain ⟨-, o, h2, -⟩ := mem_ready.1 hj
        simpa using (Array.getElem?_eq_some_iff.1 h2).1
      have := (ready_push (x := true) ho hs hlt).2 hj
      rw [h.1] at this
      cases this
    exact done D a w _ hs hr h.2 (by omega)
  | succ fuel ih =>
    intro D a w hs hcl h
    cases hr : Region.ready .any l.toArray D with
    | nil => exact done D a w _ hs hr (h.1 (noneReady D hs hr)) (by omega)
    | cons k r =>
      have hk1 : k ∈ Region.ready .any l.toArray D := by rw [hr]; exact List.mem_cons_self
      obtain ⟨hkf, ok, h2, _⟩ := mem_ready.1 hk1
      have hlt : k < l.length := by simpa using (Array.getElem?_eq_some_iff.1 h2).1
      rw [show fuel + 1 + (t.length - 1) = (fuel + (t.length - 1)) + 1 by omega]
      refine ⟨fun h0 => ?_, fun j hj => ?_⟩
      · have := (ready_lst (x := true) ho hs hlt).2 hk1
        rw [h0] at this
        cases this
      · by_cases hjm : j < l.length
        · have hjr := (ready_lst ho hs hjm).1 hj
          have hq := h.2 j ((ready_push ho hs hjm).2 hjr)
          have hlj : l[j]? = some l[j] := List.getElem?_eq_getElem hjm
          have hnext : ∀ a' w', wpAny P .any (l ++ [of]).toArray QB fuel ((D.push true).setIfInBounds j true) a' w' → wpAnyIn Fence.wide n P .any (l ++ t).toArray Q (fuel + (t.length - 1)) ((lst D t.length f true).setIfInBounds j true) a' w' := fun a' w' K => by
            rw [lst_set (by omega) (by omega)]
            refine ih (D.setIfInBounds j true) a' w' (by simpa using hs) (closed_set hs hcl hjr) ?_
            rwa [show (D.setIfInBounds j true).push true = (D.push true).setIfInBounds j true by
              rw [Array.push_eq_append, Array.push_eq_append, Array.setIfInBounds_append_left (by omega)]]
          unfold wpOp at hq
          rw [at_lt j hjm, show (l.toArray)[j]? = some l[j] by simp] at hq
          unfold wpOpIn
          rw [at_lt j hjm, show (l.toArray)[j]? = some l[j] by simp]
          dsimp only at hq ⊢
          rw [wanted_head ho.hd hlj] at hq ⊢
          split
          · rename_i hwd
            rw [if_pos hwd] at hq
            rcases hq with hq | ⟨-, hq⟩
            · exact Oper.wpIn_mono hnext (wpIn_wide_of_wp hl (fun c a w h => (hp c a w h).elim) hq)
            · exact absurd hq hl
          · rename_i hwd
            rw [if_neg hwd] at hq
            exact ⟨fun _ _ => trivial, hnext _ _ hq⟩
        · by_cases hjf : j = f
          · subst hjf
            have hlf : j < l.length + t.length := by simpa using (List.getElem?_eq_some_iff.1 ho.at_).1
            have := (mem_ready.1 hj).1
            unfold lst at this
            rw [if_pos rfl] at this
            simp [Array.getD, show j < D.size + t.length by omega] at this
          · have hfull := rest_ready ho hs hcl (by omega) hjf hj
            exfalso
            rw [tf _ _ (by omega), hfull _ k rfl hlt] at hkf
            cases hkf
/-- it may come yet -/
theorem float_one (ho : FloatOk l t f of) (hlA : ¬ LetsOut QA) (hpA : ∀ c a w, ¬ QA (.panic c) a w) (hl : ¬ LetsOut QB) (hp : ∀ c a w, ¬ QB (.panic c) a w)
    (hA : ∀ a w, QA .normal a w → ∀ F, t.length ≤ F → wpAnyIn Fence.wide n P .any (l ++ t).toArray Q F (lst (Array.replicate l.length true) t.length f false) a w)
    (hB : ∀ a w, QB .normal a w → ∀ F, t.length - 1 ≤ F → wpAnyIn Fence.wide n P .any (l ++ t).toArray Q F (lst (Array.replicate l.length true) t.length f true) a w) :
    ∀ (fuel : Nat) (D : Array Bool) (a : Act) (w : World), D.size = l.length → ClosedB .any l D → wpAny P .any l.toArray QA fuel D a w → wpAny P .any (l ++ [of]).toArray QB (fuel + 1) (D.push false) a w →
    wpAnyIn Fence.wide n P .any (l ++ t).toArray Q (fuel + t.length) (lst D t.length f false) a w := by
  intro fuel
  have hf := ho.lt
  have done : ∀ (D : Array Bool) (a : Act) (w : World) (F : Nat), D.size = l.length → Region.ready .any l.toArray D = [] → QA .normal a w → t.length ≤ F → wpAnyIn Fence.wide n P .any (l ++ t).toArray Q F (lst D t.length f false) a w := fun D a w F hs hr hq hF => by
    have := hA a w hq F hF
    rwa [← full_eq hs (head_full ho.hd hs hr)] at this
  induction fuel with
  | zero =>
    intro D a w hs hcl h1 h2
    exact done D a w _ hs h1.1 h1.2 (by omega)
  | succ fuel ih =>
    intro D a w hs hcl h1 h2
    cases hr : Region.ready .any l.toArray D with
    | nil => exact done D a w _ hs hr (h1.1 hr) (by omega)
    | cons k r =>
      have hk1 : k ∈ Region.ready .any l.toArray D := by rw [hr]; exact List.mem_cons_self
      obtain ⟨hkf, ok, hk2, _⟩ := mem_ready.1 hk1
      have hlt : k < l.length := by simpa using (Array.getElem?_eq_some_iff.1 hk2).1
      rw [show fuel + 1 + t.length = (fuel + t.length) + 1 by omega]
      refine ⟨fun h0 => ?_, fun j hj => ?_⟩
      · have := (ready_lst (x := false) ho hs hlt).2 hk1
        rw [h0] at this
        cases this
      · by_cases hjm : j < l.length
        · have hjr := (ready_lst ho hs hjm).1 hj
          have hqA := h1.2 j hjr
          have hqB := h2.2 j ((ready_push ho hs hjm).2 hjr)
          have hlj : l[j]? = some l[j] := List.getElem?_eq_getElem hjm
          have hnext : ∀ a' w', wpAny P .any l.toArray QA fuel (D.setIfInBounds j true) a' w' ∧ wpAny P .any (l ++ [of]).toArray QB (fuel + 1) ((D.push false).setIfInBounds j true) a' w' → wpAnyIn Fence.wide n P .any (l ++ t).toArray Q (fuel + t.length) ((lst D t.length f false).setIfInBounds j true) a' w' := fun a' w' ⟨K1, K2⟩ => by
            rw [lst_set (by omega) (by omega)]
            refine ih (D.setIfInBounds j true) a' w' (by simpa using hs) (closed_set hs hcl hjr) K1 ?_
            rwa [show (D.setIfInBounds j true).push false = (D.push false).setIfInBounds j true by
              rw [Array.push_eq_append, Array.push_eq_append, Array.setIfInBounds_append_left (by omega)]]
          unfold wpOp at hqA hqB
          rw [show (l.toArray)[j]? = some l[j] by simp] at hqA
          rw [at_lt j hjm, show (l.toArray)[j]? = some l[j] by simp] at hqB
          unfold wpOpIn
          rw [at_lt j hjm, show (l.toArray)[j]? = some l[j] by simp]
          dsimp only at hqA hqB ⊢
          rw [wanted_head ho.hd hlj] at hqB ⊢
          split
          · rename_i hwd
            rw [if_pos hwd] at hqA hqB
            rcases hqA with hqA | ⟨-, hqA⟩
            · rcases hqB with hqB | ⟨-, hqB⟩
              · exact Oper.wpIn_mono hnext (wpIn_wide_of_wp (Q' := fun _ _ _ => False) (fun ⟨_, _, h⟩ => h) (fun _ _ _ h => h.elim) (wp_both (ho.plain _ (List.getElem_mem hjm)) hpA hqA hqB))
              · exact absurd hqB hl
            · exact absurd hqA hlA
          · rename_i hwd
            rw [if_neg hwd] at hqA hqB
            exact ⟨fun _ _ => trivial, hnext _ _ ⟨hqA, hqB⟩⟩
        · by_cases hjf : j = f
          · subst hjf
            have hlf : j < l.length + t.length := by simpa using (List.getElem?_eq_some_iff.1 ho.at_).1
            have hmr : l.length ∈ Region.ready .any (l ++ [of]).toArray (D.push false) := by
              rw [mem_ready]
              refine ⟨by simp [Array.getD, ← hs, Array.getElem_push], of, by simp, fun e he hb => ?_⟩
              rw [ho.after e he] at hb
              cases hb
            have hq := h2.2 _ hmr
            have hnext : ∀ a' w', wpAny P .any (l ++ [of]).toArray QB (fuel + 1) ((D.push false).setIfInBounds l.length true) a' w' → wpAnyIn Fence.wide n P .any (l ++ t).toArray Q (fuel + t.length) ((lst D t.length j false).setIfInBounds j true) a' w' := fun a' w' K => by
              have e1 : (lst D t.length j false).setIfInBounds j true = lst D t.length j true := rfl
              have e2 : (D.push false).setIfInBounds l.length true = D.push true := by
                rw [← hs, Array.push_eq_append, Array.push_eq_append, Array.setIfInBounds_append_right (Nat.le_refl _)]
                simp
              rw [e1]
              rw [e2] at K
              have hpos : 0 < t.length := by omega
              have := float_two ho hl hp hB (fuel + 1) D a' w' hs hcl K
              rwa [show fuel + 1 + (t.length - 1) = fuel + t.length by omega] at this
            unfold wpOp at hq
            rw [show ((l ++ [of]).toArray)[l.length]? = some of by simp] at hq
            unfold wpOpIn
            rw [show ((l ++ t).toArray)[j]? = some of by rw [List.getElem?_toArray]; exact ho.at_]
            dsimp only at hq ⊢
            have hw1 : ∀ g, Region.wanted of g = true := fun g => by unfold Region.wanted; rw [ho.guard]
            rw [if_pos (hw1 _)] at hq ⊢
            rcases hq with hq | ⟨-, hq⟩
            · exact Oper.wpIn_mono hnext (wpIn_wide_of_wp hl (fun c a w h => (hp c a w h).elim) hq)
            · exact absurd hq hl
          · have hfull := rest_ready ho hs hcl (by omega) hjf hj
            exfalso
            rw [tf _ _ (by omega), hfull _ k rfl hlt] at hkf
            cases hkf
end
end Go.Dk
end
section
namespace Go.Dn
open Go.RowKit Go.Dk

variable {P : Program}
theorem Cw_at {l : List Oper} {A : List (List Nat)} {base i j : Nat} (hk : ((A.getD i []).contains j && (List.range l.length).all fun k => !unord A i k || silentAt l k || !(A.getD k []).contains j) = true) : Cw l A base i (base + j) = true := by
  unfold Cw
  rw [if_neg (by omega), Nat.add_sub_cancel_left, hk]
  simp
theorem Tv_at {l : List Oper} {A : List (List Nat)} {base i j : Nat} (h : (A.getD i []).contains j = true) (hs : silentAt l i = false) : Tv l A base i (base + j) = true := by
  unfold Tv
  rw [Nat.add_sub_cancel_left, h, hs]
  simp
/-- the row g is frozen -/
def frzC (g : Nat) (mem : Nat → Option M) : D → D
  | .own i ver => if i = g then (match mem g with
    | some (.row _ v sz xs) => if v = ver then .f (.sl sz xs) else .top
    | _ => .top) else .own i ver
  | d => d
def frzA (g : Nat) (mem : Nat → Option M) : D → D
  | .agg cs => mkAgg (cs.map (frzC g mem))
  | d => frzC g mem d
def frzB (g : Nat) (mem : Nat → Option M) : M → M
  | .blk cs => .blk (cs.map (frzC g mem))
  | m => m
/-- in the frame, and in what lies at lo and behind -/
def St.frzs (lo g : Nat) (st : St) : St := { st with fr := fun t => frzA g st.mem (st.fr t), mem := fun id => if id = g then none else if lo ≤ id then (st.mem id).map (frzB g st.mem) else st.mem id }
def Cx.less (c : Cx) (g : Nat) (m : Option M) : Cx := ⟨c.E, ⟨fun b o => c.x.WS b o ∧ ¬ ∃ m', m = some m' ∧ Owns c g m' b, c.x.W⟩⟩
theorem Cx.less_ext (c : Cx) (g : Nat) (m : Option M) : Ext c (c.less g m) := ⟨fun _ _ _ hc hn => ⟨hc, fun h => hn h.1⟩, fun _ _ _ h => h⟩
theorem frzC_rep {w0 : World} {WS0 : Nat → Nat → Prop} {c : Cx} {mem : Nat → Option M} (hM : InvM w0 WS0 c mem) (g : Nat) {v : Value} {d : D} (h : RepD c v d) : RepD (c.less g (mem g)) v (frzC g mem d) := by
  have hx := c.less_ext g (mem g)
  cases d with
  | own i ver =>
    show RepD _ v (if i = g then (match mem g with
      | some (.row _ w sz xs) => if w = ver then .f (.sl sz xs) else .top
      | _ => .top) else .own i ver)
    split
    · rename_i hi
      subst hi
      split
      · rename_i e w sz xs hm
        split
        · rename_i hw
          subst hw
          obtain ⟨v0, vs, h1, h2, h3, h4, h5, h6⟩ := hM.mem _ _ hm
          unfold RepD at h
          have := h.1
          rw [h1] at this
          cases this
          unfold RepD
          refine rep_of_row (x := (c.less i (mem i)).x) h2 (RepC.mono hx.sub h3) h4 fun b o hb hw => hw.2 ⟨_, hm, v, h1, hb⟩
        · unfold RepD; trivial
      · unfold RepD; trivial
    · exact RepD.mono hx h
  | _ => exact RepD.mono hx h
theorem repDC_map {c c' : Cx} {f : D → D} (hf : ∀ v d, RepD c v d → RepD c' v (f d)) : ∀ {ds : List D} {vs : List Value}, RepDC c vs ds → RepDC c' vs (ds.map f)
  | [], vs, h => by unfold RepDC at h; subst h; simp [RepDC]
  | d :: ds, vs, h => by
    unfold RepDC at h
    obtain ⟨u, us, rfl, h0, h1, h2⟩ := h
    simp only [List.map_cons]
    unfold RepDC
    exact ⟨u, us, rfl, h0, hf _ _ h1, repDC_map hf h2⟩
theorem frzA_rep {w0 : World} {WS0 : Nat → Nat → Prop} {c : Cx} {mem : Nat → Option M} (hM : InvM w0 WS0 c mem) (g : Nat) {v : Value} {d : D} (h : RepD c v d) : RepD (c.less g (mem g)) v (frzA g mem d) := by
  cases d with
  | agg cs =>
    unfold RepD at h
    obtain ⟨vs, rfl, h⟩ := h
    exact repD_mkAgg (repDC_map (fun _ _ k => frzC_rep hM g k) h)
  | _ => exact frzC_rep hM g h
theorem frzB_owns (c : Cx) (g g' : Nat) (mem : Nat → Option M) (mm : Option M) (id : Nat) (m : M) (b : Nat) : Owns (c.less g' mm) id (frzB g mem m) b ↔ Owns c id m b := by
  cases m <;> exact Iff.rfl
theorem Inv.frzs {w0 : World} {WS0 : Nat → Nat → Prop} {c : Cx} {a : Act} {st : St} (h : Inv w0 WS0 c a st) (lo g : Nat) : Inv w0 WS0 (c.less g (st.mem g)) a (st.frzs lo g) := by
  have hx := c.less_ext g (st.mem g)
  have get : ∀ id m', (st.frzs lo g).mem id = some m' → id ≠ g ∧ ∃ m, st.mem id = some m ∧ (m' = m ∨ m' = frzB g st.mem m) := fun id m' hm => by
    simp only [St.frzs] at hm
    split at hm
    · cases hm
    · rename_i hne
      split at hm
      · rw [Option.map_eq_some_iff] at hm
        obtain ⟨m, h1, h2⟩ := hm
        exact ⟨hne, m, h1, .inr h2.symm⟩
      · exact ⟨hne, m', hm, .inl rfl⟩
  have own : ∀ id m' m b, (m' = m ∨ m' = frzB g st.mem m) → Owns (c.less g (st.mem g)) id m' b → Owns c id m b := fun id m' m b hm ho => by
    rcases hm with rfl | rfl
    · cases m' <;> exact ho
    · exact (frzB_owns ..).1 ho
  refine ⟨⟨h.F.size, h.F.defers, fun t => frzA_rep h.M g (h.F.fr t)⟩, ⟨fun id m' hm => ?_, fun id id' m m' b hm hm' ho ho' => ?_, h.M.chg, fun b o hb => ⟨h.M.ws0 b o hb, ?_⟩, h.M.ws1, fun b o hb => h.M.wsd b o hb.1, fun i e ver sz xs hm => ?_⟩, fun id hid => ⟨?_, (h.N id hid).2⟩⟩
  · obtain ⟨hne, m, h1, hm'⟩ := get id m' hm
    have hok : MemOk (c.less g (st.mem g)) w0.heap.size id m := (h.M.mem id m h1).ext hx (fun _ _ => rfl) fun b ho o hw => ⟨hw, fun ⟨m2, h2, h3⟩ => hne (h.M.inj id g _ _ b h1 h2 ho h3)⟩
    rcases hm' with rfl | rfl
    · exact hok
    cases m with
    | blk cs =>
      obtain ⟨b, vs, T, k1, k2, k3, k4, k5⟩ := hok
      obtain ⟨b', vs', T', j1, -, j3, j4, -⟩ := h.M.mem id _ h1
      have : b' = b := by
        have e : c.E id 0 = some (.pointer (some ⟨b, 0, none⟩)) := k1
        rw [j1] at e
        cases e
        rfl
      subst this
      have e : vs' = vs := by
        have k3' : c.x.W.heap[b']? = some (.cells (List.toArray vs) T (0, 0)) := k3
        rw [j3] at k3'
        cases k3'
        rfl
      subst e
      exact ⟨b', vs', T, k1, k2, k3, repDC_map (fun _ _ k => frzC_rep h.M g k) j4, k5⟩
    | row e ver sz xs => exact hok
    | rows rs => exact hok
  · obtain ⟨-, m1, h1, e1⟩ := get id m hm
    obtain ⟨-, m2, h2, e2⟩ := get id' m' hm'
    exact h.M.inj id id' m1 m2 b h1 h2 (own _ _ _ _ e1 ho) (own _ _ _ _ e2 ho')
  · rintro ⟨m2, h2, h3⟩
    have := (owns_lt (h.M.mem g m2 h2) h3).1
    have := h.M.ws1 b o hb
    omega
  · obtain ⟨-, m, h1, h2⟩ := get i _ hm
    rcases h2 with rfl | h2
    · exact h.M.vers i _ _ _ _ h1
    cases m with
    | row e2 ver2 sz2 xs2 => cases h2; exact h.M.vers i _ _ _ _ h1
    | blk _ => cases h2
    | rows _ => cases h2
  · simp only [St.frzs]
    split
    · rfl
    · split
      · rw [(h.N id hid).1]; rfl
      · exact (h.N id hid).1
def St.frzl (lo : Nat) : List Nat → St → St
  | [], st => st
  | g :: gs, st => St.frzl lo gs (st.frzs lo g)
theorem frzl_next (lo : Nat) : ∀ (gs : List Nat) (st : St), (St.frzl lo gs st).next = st.next
  | [], _ => rfl
  | g :: gs, st => frzl_next lo gs (st.frzs lo g)
theorem frzl_sound {w0 : World} {WS0 : Nat → Nat → Prop} {a : Act} (lo : Nat) : ∀ (gs : List Nat) (c : Cx) (st : St), Inv w0 WS0 c a st → ∃ c', Inv w0 WS0 c' a (St.frzl lo gs st) ∧ Ext c c' ∧ c'.x.W = c.x.W
  | [], c, st, h => ⟨c, h, Ext.refl c, rfl⟩
  | g :: gs, c, st, h => by
    obtain ⟨c', h1, h2, h3⟩ := frzl_sound lo gs (c.less g (st.mem g)) (st.frzs lo g) (h.frzs lo g)
    exact ⟨c', h1, (c.less_ext g (st.mem g)).trans h2, h3⟩
/-! ### A region that draws its order and has such calls: all its orders, as a tree -/
inductive OT where
  | done
  | one (j : Nat) (t : OT)
  | two (j : Nat) (t : OT) (j' : Nat) (t' : OT)
  | three (j : Nat) (t : OT) (j' : Nat) (t' : OT) (j2 : Nat) (t2 : OT)
def okT (ops : Array Oper) : OT → Nat → Array Bool → Bool
  | .done, _, l => Region.ready .any ops l == []
  | .one j t, n, l => decide (0 < n) && Region.ready .any ops l == [j] && okT ops t (n - 1) (l.setIfInBounds j true)
  | .two j t j' t', n, l => decide (0 < n) && Region.ready .any ops l == [j, j'] && okT ops t (n - 1) (l.setIfInBounds j true) && okT ops t' (n - 1) (l.setIfInBounds j' true)
  | .three j t j' t' j2 t2, n, l => decide (0 < n) && Region.ready .any ops l == [j, j', j2] && okT ops t (n - 1) (l.setIfInBounds j true) && okT ops t' (n - 1) (l.setIfInBounds j' true) && okT ops t2 (n - 1) (l.setIfInBounds j2 true)
theorem okT_mono {ops : Array Oper} : ∀ (T : OT) (n n' : Nat) (l : Array Bool), n ≤ n' → okT ops T n l = true → okT ops T n' l = true
  | .done, _, _, _, _, h => h
  | .one j t, n, n', l, hn, h => by
    unfold okT at h ⊢
    simp only [Bool.and_eq_true, decide_eq_true_eq] at h ⊢
    exact ⟨⟨by omega, h.1.2⟩, okT_mono t _ _ _ (by omega) h.2⟩
  | .two j t j' t', n, n', l, hn, h => by
    unfold okT at h ⊢
    simp only [Bool.and_eq_true, decide_eq_true_eq] at h ⊢
    exact ⟨⟨⟨by omega, h.1.1.2⟩, okT_mono t _ _ _ (by omega) h.1.2⟩, okT_mono t' _ _ _ (by omega) h.2⟩
  | .three j t j' t' j2 t2, n, n', l, hn, h => by
    unfold okT at h ⊢
    simp only [Bool.and_eq_true, decide_eq_true_eq] at h ⊢
    exact ⟨⟨⟨⟨by omega, h.1.1.1.2⟩, okT_mono t _ _ _ (by omega) h.1.1.2⟩, okT_mono t' _ _ _ (by omega) h.1.2⟩, okT_mono t2 _ _ _ (by omega) h.2⟩
def stepO (P : Program) (cs : List Nat) (ops : Array Oper) (j : Nat) (st : St) (K : St → Prop) : Prop :=
  ob (ops[j]?) fun o => ob (gval ops st o.guard) fun g => gif g
    (gif (cs.contains j) (opS P o st st.next fun d mem' next' => K (({ st with mem := mem', next := next' } : St).put o.dst d))
      (opW P st.next o st fun d st' => K (({ st' with next := st.next + 1 } : St).put o.dst d)))
    (K (st.put o.dst undefD))
def tailT (P : Program) (cs : List Nat) (ops : Array Oper) : OT → St → (St → Prop) → Prop
  | .done, st, K => K st
  | .one j t, st, K => stepO P cs ops j st fun s => tailT P cs ops t s K
  | .two j t j' t', st, K => (stepO P cs ops j st fun s => tailT P cs ops t s K) ∧ stepO P cs ops j' st fun s => tailT P cs ops t' s K
  | .three j t j' t' j2 t2, st, K => (stepO P cs ops j st fun s => tailT P cs ops t s K) ∧ (stepO P cs ops j' st fun s => tailT P cs ops t' s K) ∧ stepO P cs ops j2 st fun s => tailT P cs ops t2 s K
theorem stepO_mono {cs : List Nat} {ops : Array Oper} {j : Nat} {st : St} {K K' : St → Prop} (h : stepO P cs ops j st K) (hk : ∀ s, K s → K' s) : stepO P cs ops j st K' := by
  obtain ⟨o, ho, g, hg, h⟩ := h
  exact ⟨o, ho, g, hg, gif_mono h (fun h => gif_mono h (fun h => opS_mono h fun _ _ _ h => hk _ h) fun h => opW_mono h fun _ _ h => hk _ h) fun h => hk _ h⟩
theorem tailT_mono {cs : List Nat} {ops : Array Oper} {K K' : St → Prop} (hk : ∀ s, K s → K' s) : ∀ (T : OT) (st : St), tailT P cs ops T st K → tailT P cs ops T st K'
  | .done, _, h => hk _ h
  | .one j t, st, h => by
    unfold tailT at h ⊢
    exact stepO_mono h fun s h => tailT_mono hk t s h
  | .two j t j' t', st, h => by
    unfold tailT at h ⊢
    exact ⟨stepO_mono h.1 fun s h => tailT_mono hk t s h, stepO_mono h.2 fun s h => tailT_mono hk t' s h⟩
  | .three j t j' t' j2 t2, st, h => by
    unfold tailT at h ⊢
    exact ⟨stepO_mono h.1 fun s h => tailT_mono hk t s h, stepO_mono h.2.1 fun s h => tailT_mono hk t' s h, stepO_mono h.2.2 fun s h => tailT_mono hk t2 s h⟩
theorem stepO_sound {w0 : World} {WS0 : Nat → Nat → Prop} {cs : List Nat} {ops : Array Oper} {n j : Nat} {c : Cx} {a : Act} {st : St} {K : St → Prop} {next : Act → World → Prop} {Q : Exit → Act → World → Prop} (h : stepO P cs ops j st K) (hI : Inv w0 WS0 c a st)
    (hk : ∀ c' a' st', K st' → Ext c c' → Inv w0 WS0 c' a' st' → st.next ≤ st'.next → next a' c'.x.W) : wpOpIn Fence.wide n P ops Q j next a c.x.W := by
  obtain ⟨o, ho, g, hg, h⟩ := h
  unfold wpOpIn
  rw [ho]
  dsimp only
  rw [wanted_of hI.F hg]
  cases g with
  | false =>
    rw [if_neg (by simp)]
    unfold gif at h
    rw [if_neg (by simp)] at h
    refine ⟨fun _ _ => trivial, hk c _ _ h (Ext.refl c) ⟨InvF.put (st := st) hI.F rfl rfl (by unfold undefD RepD Rep; rfl) _, ?_, ?_⟩ ?_⟩
    · rw [(put_mem _ _ _).1]; exact hI.M
    · intro id hid; rw [(put_mem _ _ _).1]; exact hI.N id (by rw [(put_mem _ _ _).2.2] at hid; exact hid)
    · rw [(put_mem _ _ _).2.2]; exact Nat.le_refl _
  | true =>
    rw [if_pos rfl]
    unfold gif at h
    rw [if_pos rfl] at h
    split at h
    · refine wpIn_wide_of_wp (Q' := fun _ _ _ => False) not_letsOut_false (fun _ _ _ h => h.elim) (opS_sound h hI.F hI.M hI.N ?_)
      intro c' v d mem' next' hK h1 h2 h3 h4 h5
      refine hk c' _ _ hK h2 ⟨InvF.put (st := st) (st' := { st with mem := mem', next := next' }) (hI.F.mono h2) rfl rfl h4 _, ?_, ?_⟩ ?_
      · rw [(put_mem _ _ _).1]; exact h3
      · intro id hid; rw [(put_mem _ _ _).1]; exact h5 id (by rw [(put_mem _ _ _).2.2] at hid; exact hid)
      · rw [(put_mem _ _ _).2.2]; exact h1
    · refine wpIn_wide_of_wp (Q' := fun _ _ _ => False) not_letsOut_false (fun _ _ _ h => h.elim) (op_sound h hI.F hI.M (hI.N _ (Nat.le_refl _)) ?_)
      intro c' v d st' hK e1 e2 e3 hx hM' hv hfresh
      refine hk c' _ _ hK hx ⟨InvF.put (st := st) (st' := { st' with next := st.next + 1 }) (hI.F.mono hx) e1 e2 hv _, ?_, ?_⟩ ?_
      · rw [(put_mem _ _ _).1]; exact hM'
      · intro id hid
        rw [(put_mem _ _ _).1]
        rw [(put_mem _ _ _).2.2] at hid
        have hid : st.next + 1 ≤ id := hid
        exact hfresh id (by omega) (hI.N id (by omega))
      · rw [(put_mem _ _ _).2.2]; exact Nat.le_succ _
theorem tailT_sound {w0 : World} {WS0 : Nat → Nat → Prop} {cs : List Nat} {ops : Array Oper} {n : Nat} {K : St → Prop} {Q : Exit → Act → World → Prop} : ∀ (T : OT) (fuel : Nat) (listed : Array Bool) (c : Cx) (a : Act) (st : St), okT ops T fuel listed = true → tailT P cs ops T st K → Inv w0 WS0 c a st →
    (∀ c' a' st', K st' → Ext c c' → Inv w0 WS0 c' a' st' → st.next ≤ st'.next → Q .normal a' c'.x.W) → wpAnyIn Fence.wide n P .any ops Q fuel listed a c.x.W
  | .done, fuel, listed, c, a, st, ho, h, hI, hk => by
    unfold okT at ho
    have hr : Region.ready .any ops listed = [] := by simpa using ho
    unfold tailT at h
    have hq := hk c a st h (Ext.refl c) hI (Nat.le_refl _)
    cases fuel with
    | zero => exact ⟨hr, hq⟩
    | succ f => exact ⟨fun _ => hq, by rw [hr]; intro i hi; cases hi⟩
  | .one j t, fuel, listed, c, a, st, ho, h, hI, hk => by
    unfold okT at ho
    simp only [Bool.and_eq_true, decide_eq_true_eq, beq_iff_eq] at ho
    obtain ⟨⟨h0, hr⟩, ho⟩ := ho
    obtain ⟨f, rfl⟩ : ∃ f, fuel = f + 1 := ⟨fuel - 1, by omega⟩
    unfold tailT at h
    refine ⟨fun e => (by rw [hr] at e; cases e), fun i hi => ?_⟩
    rw [hr] at hi
    obtain rfl : i = j := by simpa using hi
    exact stepO_sound h hI fun c1 a1 s1 k1 k2 k3 k4 => tailT_sound t f _ c1 a1 s1 ho k1 k3 fun c2 a2 s2 m1 m2 m3 m4 => hk c2 a2 s2 m1 (k2.trans m2) m3 (Nat.le_trans k4 m4)
  | .two j t j' t', fuel, listed, c, a, st, ho, h, hI, hk => by
    unfold okT at ho
    simp only [Bool.and_eq_true, decide_eq_true_eq, beq_iff_eq] at ho
    obtain ⟨⟨⟨h0, hr⟩, ho⟩, ho'⟩ := ho
    obtain ⟨f, rfl⟩ : ∃ f, fuel = f + 1 := ⟨fuel - 1, by omega⟩
    unfold tailT at h
    refine ⟨fun e => (by rw [hr] at e; cases e), fun i hi => ?_⟩
    rw [hr] at hi
    have hi : i = j ∨ i = j' := by simpa using hi
    rcases hi with rfl | rfl
    · exact stepO_sound h.1 hI fun c1 a1 s1 k1 k2 k3 k4 => tailT_sound t f _ c1 a1 s1 ho k1 k3 fun c2 a2 s2 m1 m2 m3 m4 => hk c2 a2 s2 m1 (k2.trans m2) m3 (Nat.le_trans k4 m4)
    · exact stepO_sound h.2 hI fun c1 a1 s1 k1 k2 k3 k4 => tailT_sound t' f _ c1 a1 s1 ho' k1 k3 fun c2 a2 s2 m1 m2 m3 m4 => hk c2 a2 s2 m1 (k2.trans m2) m3 (Nat.le_trans k4 m4)
  | .three j t j' t' j2 t2, fuel, listed, c, a, st, ho, h, hI, hk => by
    unfold okT at ho
    simp only [Bool.and_eq_true, decide_eq_true_eq, beq_iff_eq] at ho
    obtain ⟨⟨⟨⟨h0, hr⟩, ho⟩, ho'⟩, ho2⟩ := ho
    obtain ⟨f, rfl⟩ : ∃ f, fuel = f + 1 := ⟨fuel - 1, by omega⟩
    unfold tailT at h
    refine ⟨fun e => (by rw [hr] at e; cases e), fun i hi => ?_⟩
    rw [hr] at hi
    have hi : i = j ∨ i = j' ∨ i = j2 := by simpa using hi
    rcases hi with rfl | rfl | rfl
    · exact stepO_sound h.1 hI fun c1 a1 s1 k1 k2 k3 k4 => tailT_sound t f _ c1 a1 s1 ho k1 k3 fun c2 a2 s2 m1 m2 m3 m4 => hk c2 a2 s2 m1 (k2.trans m2) m3 (Nat.le_trans k4 m4)
    · exact stepO_sound h.2.1 hI fun c1 a1 s1 k1 k2 k3 k4 => tailT_sound t' f _ c1 a1 s1 ho' k1 k3 fun c2 a2 s2 m1 m2 m3 m4 => hk c2 a2 s2 m1 (k2.trans m2) m3 (Nat.le_trans k4 m4)
    · exact stepO_sound h.2.2 hI fun c1 a1 s1 k1 k2 k3 k4 => tailT_sound t2 f _ c1 a1 s1 ho2 k1 k3 fun c2 a2 s2 m1 m2 m3 m4 => hk c2 a2 s2 m1 (k2.trans m2) m3 (Nat.le_trans k4 m4)
/-- the head drawn, one alloc that may come at any time -/
structure FlT (ops : Array Oper) (m f : Nat) (of : Oper) (A A' : List (List Nat)) (T T' : OT) : Prop where
  hm : m ≤ ops.toList.length
  hd : headB .any (ops.toList.take m) = true
  sk : sinksB .any (ops.toList.take m) (ops.toList.drop m) = true
  fl : floatB (ops.toList.take m) (ops.toList.drop m) f = true
  hof : ops.toList[f]? = some of
  dA : drawOk (ops.toList.take m) A = true
  dB : drawOk (ops.toList.take m ++ [of]) A' = true
  oA : okT ops T (ops.toList.drop m).length (lst (Array.replicate (ops.toList.take m).length true) (ops.toList.drop m).length f false) = true
  oB : okT ops T' ((ops.toList.drop m).length - 1) (lst (Array.replicate (ops.toList.take m).length true) (ops.toList.drop m).length f true) = true
def regF (P : Program) (ops : Array Oper) (st : St) (K : St → Prop) : Prop :=
  ∃ m f of A A' T T' cs, FlT ops m f of A A' T T' ∧ (opsD P (ops.toList.take m) A st.next 0 (ops.toList.take m) st fun s => tailT P cs ops T { s with next := st.next + m } K) ∧
    opsD P (ops.toList.take m ++ [of]) A' st.next 0 (ops.toList.take m ++ [of]) st fun s => tailT P cs ops T' { s with next := st.next + (m + 1) } K
def EndQ (P : Program) (w0 : World) (WS0 : Nat → Nat → Prop) (c : Cx) (cs : List Nat) (ops : Array Oper) (T : OT) (nx nx' : Nat) (K : St → Prop) : Exit → Act → World → Prop
  | .normal, a, w => ∃ c' st', tailT P cs ops T st' K ∧ Ext c c' ∧ Inv w0 WS0 c' a st' ∧ c'.x.W = w ∧ st'.next = nx' ∧ nx ≤ nx'
  | _, _, _ => False
theorem regF_sound {w0 : World} {WS0 : Nat → Nat → Prop} {ops : Array Oper} {st : St} {K : St → Prop} (h : regF P ops st K) {n : Nat} {c : Cx} {a : Act} (hI : Inv w0 WS0 c a st) {Q : Exit → Act → World → Prop}
    (hk : ∀ c' a' st', K st' → Ext c c' → Inv w0 WS0 c' a' st' → st.next ≤ st'.next → Q .normal a' c'.x.W) : wpAnyIn Fence.wide n P .any ops Q ops.size (Array.replicate ops.size false) a c.x.W.drew := by
  obtain ⟨m, f, of, A, A', T, T', cs, ho, h1, h2⟩ := h
  obtain ⟨of', fo⟩ := floatB_ok ho.hd ho.sk ho.fl
  have e0 : ops.toList.take m ++ ops.toList.drop m = ops.toList := List.take_append_drop ..
  have eof : of' = of := by
    have := fo.at_
    rw [e0, ho.hof] at this
    cases this
    rfl
  subst eof
  have hlen : (ops.toList.take m).length = m := by have := ho.hm; rw [List.length_take]; omega
  have kA := draw_any (Q := EndQ P w0 WS0 c cs ops T st.next (st.next + m) K) ho.dA h1 hI fun c' a' st' k1 kx k2 k3 k4 k5 k6 => ⟨c', { st' with next := st.next + m }, k1, kx, ⟨⟨k2.size, k2.defers, k2.fr⟩, k3, fun id hid => k6 id (by have : st.next + m ≤ id := hid; omega)⟩, rfl, rfl, Nat.le_add_right _ _⟩
  have kB := draw_any (Q := EndQ P w0 WS0 c cs ops T' st.next (st.next + (m + 1)) K) ho.dB h2 hI fun c' a' st' k1 kx k2 k3 k4 k5 k6 => ⟨c', { st' with next := st.next + (m + 1) }, k1, kx, ⟨⟨k2.size, k2.defers, k2.fr⟩, k3, fun id hid => k6 id (by have : st.next + (m + 1) ≤ id := hid; simp only [List.length_append, List.length_cons, List.length_nil]; omega)⟩, rfl, rfl, Nat.le_add_right _ _⟩
  have nol : ∀ {T : OT} {x y : Nat}, ¬ LetsOut (EndQ P w0 WS0 c cs ops T x y K) := fun ⟨_, _, h⟩ => h
  have fin : ∀ (T : OT) (nx' : Nat) (x : Bool) (F0 : Nat), okT ops T F0 (lst (Array.replicate (ops.toList.take m).length true) (ops.toList.drop m).length f x) = true → ∀ a w, EndQ P w0 WS0 c cs ops T st.next nx' K .normal a w → ∀ F, F0 ≤ F → wpAnyIn Fence.wide n P .any (ops.toList.take m ++ ops.toList.drop m).toArray Q F (lst (Array.replicate (ops.toList.take m).length true) (ops.toList.drop m).length f x) a w := by
    rintro T nx' x F0 hok a w ⟨c', st', k1, k2, k3, rfl, k4, k5⟩ F hF
    rw [e0]
    exact tailT_sound T F _ c' a st' (okT_mono T _ _ _ hF hok) k1 k3 fun c2 a2 s2 m1 m2 m3 m4 => hk c2 a2 s2 m1 (k2.trans m2) m3 (by omega)
  have key := float_one (n := n) (Q := Q) fo nol (fun _ _ _ h => h) nol (fun _ _ _ h => h) (fin T _ false _ ho.oA) (fin T' _ true _ ho.oB) (ops.toList.take m).length (Array.replicate (ops.toList.take m).length false) a c.x.W.drew (by simp) (fun j oj hj hv => by
    exfalso
    have hlt := (List.getElem?_eq_some_iff.1 hj).1
    simp only [Array.getD_eq_getD_getElem?, Array.getElem?_replicate] at hv
    split at hv <;> simp at hv) (by simpa using kA) (by
      have e : (Array.replicate (ops.toList.take m).length false).push false = Array.replicate ((ops.toList.take m).length + 1) false := by simp [Array.replicate_succ]
      rw [e]
      simpa using kB)
  have e1 : (ops.toList.take m).length + (ops.toList.drop m).length = ops.size := by
    rw [← List.length_append, e0, Array.length_toList]
  rw [e0, e1] at key
  have e2 : lst (Array.replicate (ops.toList.take m).length false) (ops.toList.drop m).length f false = Array.replicate ops.size false := by
    unfold lst
    rw [if_neg (by simp), Array.replicate_append_replicate, e1]
  rwa [e2] at key
def regT (P : Program) (ops : Array Oper) (draw : Bool) (st : St) (K : St → Prop) : Prop :=
  draw = true ∧ P.follows .mixedOrders = true ∧ ((∃ T cs, okT ops T ops.size (Array.replicate ops.size false) = true ∧ tailT P cs ops T st K) ∨ regF P ops st K)
theorem regT_mono {ops : Array Oper} {draw : Bool} {st : St} {K K' : St → Prop} (h : regT P ops draw st K) (hk : ∀ s, K s → K' s) : regT P ops draw st K' := by
  obtain ⟨h1, h2, h⟩ := h
  refine ⟨h1, h2, ?_⟩
  rcases h with ⟨T, cs, h3, h4⟩ | ⟨m, f, of, A, A', T, T', cs, h3, h4, h5⟩
  · exact .inl ⟨T, cs, h3, tailT_mono hk T st h4⟩
  · exact .inr ⟨m, f, of, A, A', T, T', cs, h3, opsD_mono (fun s h => tailT_mono hk _ _ h) _ _ _ h4, opsD_mono (fun s h => tailT_mono hk _ _ h) _ _ _ h5⟩
theorem regT_sound {w0 : World} {WS0 : Nat → Nat → Prop} {ops : Array Oper} {draw : Bool} {st : St} {K : St → Prop} (h : regT P ops draw st K) {id : Nat} {c : Cx} {a : Act} (hI : Inv w0 WS0 c a st) {Q : Exit → Act → World → Prop}
    (hk : ∀ c' a' st', K st' → Ext c c' → Inv w0 WS0 c' a' st' → st.next ≤ st'.next → Q .normal a' c'.x.W) : (Code.region id ops draw).wp P Q a c.x.W := by
  obtain ⟨rfl, hm, h⟩ := h
  refine (wpIn_wide (n := 0)).1 (wpIn_region_any hm ?_)
  rcases h with ⟨T, cs, ho, h⟩ | h
  · have hx : Ext c ⟨c.E, ⟨c.x.WS, c.x.W.drew⟩⟩ := ⟨fun b o u hc hn => ⟨hc, hn⟩, fun _ _ _ h => h⟩
    exact tailT_sound T _ _ ⟨c.E, ⟨c.x.WS, c.x.W.drew⟩⟩ a st ho h hI.drew fun c' a' st' k1 k2 k3 k4 => hk c' a' st' k1 (hx.trans k2) k3 k4
  · exact regF_sound h hI hk
/-- runC, freezing where it is said -/
def runG (P : Program) (B : Nat → List Nat) : Code → St → (Ex → St → Prop) → Prop
  | .seq a b, st, k => runG P B a st fun e s => match e with
    | .normal => ∃ lo gs, runG P B b (St.frzl lo gs s) k
    | e => k e s
  | .cond c a b, st, k => ob (truth (st.ev c)) fun t => gif t (runG P B a st k) (runG P B b st k)
  | .block id c, st, k => runG P B c st fun e s => match e with
    | .exit j => if j = id then k .normal s else k (.exit j) s
    | e => k e s
  | .region id ops draw, st, k => runC P B (.region id ops draw) st k ∨ regT P ops draw st fun s => k .normal s
  | c, st, k => runC P B c st k
theorem runG_mono {B : Nat → List Nat} : ∀ (c : Code) (st : St) (k k' : Ex → St → Prop), (∀ e s, k e s → k' e s) → runG P B c st k → runG P B c st k' := by
  intro c
  induction c with
  | seq x z ihx ihz =>
    intro st k k' hk h
    unfold runG at h ⊢
    refine ihx _ _ _ (fun e s h => ?_) h
    cases e with
    | normal =>
      obtain ⟨lo, gs, h⟩ := h
      exact ⟨lo, gs, ihz _ _ _ hk h⟩
    | exit id => exact hk _ _ h
    | ret => exact hk _ _ h
  | cond c x z ihx ihz =>
    intro st k k' hk h
    unfold runG at h ⊢
    exact ob_mono h fun _ h => gif_mono h (ihx _ _ _ hk) (ihz _ _ _ hk)
  | block id x ih =>
    intro st k k' hk h
    unfold runG at h ⊢
    refine ih _ _ _ (fun e s h => ?_) h
    cases e with
    | normal => exact hk _ _ h
    | exit j =>
      simp only at h ⊢
      split at h
      · rename_i hj; rw [if_pos hj]; exact hk _ _ h
      · rename_i hj; rw [if_neg hj]; exact hk _ _ h
    | ret => exact hk _ _ h
  | region id ops draw =>
    intro st k k' hk h
    unfold runG at h ⊢
    rcases h with h | h
    · exact .inl (runC_mono _ _ _ _ hk h)
    · exact .inr (regT_mono h fun s h => hk _ _ h)
  | _ => exact fun st k k' hk h => runC_mono _ _ _ _ hk h
theorem runG_of_runC {B : Nat → List Nat} : ∀ (c : Code) (st : St) (k : Ex → St → Prop), runC P B c st k → runG P B c st k := by
  intro c
  induction c with
  | seq x z ihx ihz =>
    intro st k h
    unfold runC at h
    unfold runG
    refine runG_mono x _ _ _ (fun e s h => ?_) (ihx _ _ h)
    cases e with
    | normal => exact ⟨0, [], ihz _ _ h⟩
    | exit id => exact h
    | ret => exact h
  | cond c x z ihx ihz =>
    intro st k h
    unfold runC at h
    unfold runG
    exact ob_mono h fun _ h => gif_mono h (ihx _ _) (ihz _ _)
  | block id x ih =>
    intro st k h
    unfold runC at h
    unfold runG
    exact ih _ _ h
  | region id ops draw => exact fun st k h => .inl h
  | _ => exact fun st k h => h
theorem runG_sound {w0 : World} {WS0 : Nat → Nat → Prop} {B : Nat → List Nat} : ∀ (cd : Code) (st : St) (k : Ex → St → Prop), runG P B cd st k → ∀ (bn : Nat) (c : Cx) (a : Act), bn ≤ st.next → Inv w0 WS0 c a st → ∀ (Q : Exit → Act → World → Prop),
    (∀ e c' a' st', k e st' → Inv w0 WS0 c' a' st' → ExtN bn c c' → bn ≤ st'.next → Q (exOf e) a' c'.x.W) → cd.wp P Q a c.x.W := by
  intro cd
  induction cd with
  | seq x y ihx ihy =>
    intro st k h bn c a hbn hI Q hk
    unfold runG at h
    refine wp_seq (ihx st _ h bn c a hbn hI _ ?_)
    intro e c' a' st' he hI' hx hb'
    cases e with
    | normal =>
      obtain ⟨lo, gs, he⟩ := he
      obtain ⟨c1, h1, h2, h3⟩ := frzl_sound lo gs c' st' hI'
      rw [← h3]
      exact ihy _ k he bn c1 a' (by rw [frzl_next]; exact hb') h1 Q (fun e c2 a2 st2 k1 k2 k3 k4 => hk e c2 a2 st2 k1 k2 ((hx.trans h2.n).trans k3) k4)
    | exit id => exact hk (.exit id) c' a' st' he hI' hx hb'
    | ret => exact hk .ret c' a' st' he hI' hx hb'
  | cond cc x y ihx ihy =>
    intro st k h bn c a hbn hI Q hk
    unfold runG at h
    obtain ⟨t, ht, h⟩ := h
    have hc := truth_rep (hI.F.ev cc) ht
    refine wp_cond hc ?_
    cases t with
    | true => exact ihx st k h bn c a hbn hI Q hk
    | false => exact ihy st k h bn c a hbn hI Q hk
  | block id x ih =>
    intro st k h bn c a hbn hI Q hk
    unfold runG at h
    refine wp_block (ih st _ h bn c a hbn hI _ ?_)
    intro e c' a' st' he hI' hx hb'
    cases e with
    | normal => exact hk .normal c' a' st' he hI' hx hb'
    | exit j =>
      simp only at he
      show (if j = id then Q .normal a' c'.x.W else Q (.exit j) a' c'.x.W)
      split at he
      · rename_i hj; rw [if_pos hj]; exact hk .normal c' a' st' he hI' hx hb'
      · rename_i hj; rw [if_neg hj]; exact hk (.exit j) c' a' st' he hI' hx hb'
    | ret => exact hk .ret c' a' st' he hI' hx hb'
  | region id ops draw =>
    intro st k h bn c a hbn hI Q hk
    unfold runG at h
    rcases h with h | h
    · exact runC_sound _ _ _ h bn c a hbn hI Q hk
    · exact regT_sound h hI fun c' a' st' k1 k2 k3 k4 => hk .normal c' a' st' k1 k3 k2.n (Nat.le_trans hbn k4)
  | _ => exact fun st k h bn c a hbn hI Q hk => runC_sound _ _ _ h bn c a hbn hI Q hk
theorem callS.of_runG {f : FuncId} {fn : Func} {cd : Code} {ds : List D} {mem : Nat → Option M} {next : Nat} {K : D → (Nat → Option M) → Nat → Prop} {n : Nat} {rs : List ResultVar} {lit : Bool} {B : Nat → List Nat} (hf : P.funcs[f]? = some fn) (hb : fn.body = some cd) (hname : (fn.name == "runtime.NumGoroutine") = false) (hnt : fn.ntmps = n) (hrs : fn.results.toList = rs) (hn : ds.length ≤ n)
    (h : runG P B cd ⟨n, entD ds, mem, next, lit⟩ fun e s => e.fin = true ∧ ∃ d, resultS P rs s = some d ∧ K d s.mem s.next) : callS P f ds mem next K :=
  callS.of_sound (lit := lit) hf hb hname hnt hrs hn fun w0 WS0 c a hI Q hk => runG_sound cd _ _ h next c a (Nat.le_refl _) hI Q hk
theorem Pure.of_runG {f : FuncId} {fn : Func} {cd : Code} {ds : List FD} {d : FD} {n : Nat} {rs : List ResultVar} {lit : Bool} (B : Nat → List Nat) (hf : P.funcs[f]? = some fn) (hb : fn.body = some cd) (hname : (fn.name == "runtime.NumGoroutine") = false) (hnt : fn.ntmps = n) (hrs : fn.results.toList = rs) (hn : ds.length ≤ n)
    (h : runG P B cd (St.enter n ds lit) fun e s => e.fin = true ∧ resultD P rs s = some d) : Pure P f ds d :=
  Pure.of_sound (lit := lit) hf hb hname hnt hrs hn fun _ _ c a hI Q hk => runG_sound cd _ _ h 0 c a (Nat.zero_le _) hI Q fun e c' a' st' ⟨h1, h1'⟩ h2 _ _ => hk e c' a' st' ⟨h1, d, h1', FLe.refl d⟩ h2
def runGL (P : Program) (B : Nat → List Nat) (c : Code) (st : St) (k : Ex → St → Prop) (_ : Lk k) : Prop := runG P B c st k
section
variable {B : Nat → List Nat} {st : St} {k : Ex → St → Prop} {u : Lk k}
theorem runG_of_runGL {c : Code} (h : runGL P B c st k ⟨⟩) : runG P B c st k := h
theorem runGL_block (id : Nat) (c : Code) : runGL P B (.block id c) st k u = runGL P B c st (fun e s => match e with
    | .exit j => if j = id then k .normal s else k (.exit j) s
    | e => k e s) ⟨⟩ := rfl
theorem runGL_cond (c : Operand) (a b : Code) : runGL P B (.cond c a b) st k u = obL (truth (st.ev c)) (fun t => gifL t (runGL P B a st k ⟨⟩) (runGL P B b st k ⟨⟩) ⟨⟩ ⟨⟩) ⟨⟩ := rfl
theorem runGL_skip : runGL P B .skip st k u = k .normal st := rfl
theorem runGL_ret : runGL P B .ret st k u = k .ret st := rfl
theorem runGL_end {c : Code} (h : runCL P B c st k ⟨⟩) : runGL P B c st k u := runG_of_runC c st k h
/-- the first part, plainly; then on -/
theorem runGL_on {a b : Code} (h : runCL P B a st (fun e s => match e with
    | .normal => runGL P B b s k ⟨⟩
    | e => k e s) ⟨⟩) : runGL P B (.seq a b) st k u := runG_mono a _ _ _ (fun e s h => by cases e <;> first | exact ⟨0, [], h⟩ | exact h) (runG_of_runC a _ _ h)
theorem runGL_sub {a b : Code} (h : runGL P B a st (fun e s => match e with
    | .normal => runGL P B b s k ⟨⟩
    | e => k e s) ⟨⟩) : runGL P B (.seq a b) st k u := runG_mono a _ _ _ (fun e s h => by cases e <;> first | exact ⟨0, [], h⟩ | exact h) h
/-- many ways meet -/
theorem runGL_cut {a b : Code} (Mid : St → Prop) (h : runCL P B a st (fun e s => match e with
    | .normal => Mid s
    | e => k e s) ⟨⟩) (h2 : ∀ s, Mid s → runGL P B b s k ⟨⟩) : runGL P B (.seq a b) st k u := runG_mono a _ _ _ (fun e s h => by cases e <;> first | exact ⟨0, [], h2 s h⟩ | exact h) (runG_of_runC a _ _ h)
theorem runGL_gcut {a b : Code} (Mid : St → Prop) (h : runGL P B a st (fun e s => match e with
    | .normal => Mid s
    | e => k e s) ⟨⟩) (h2 : ∀ s, Mid s → runGL P B b s k ⟨⟩) : runGL P B (.seq a b) st k u := runG_mono a _ _ _ (fun e s h => by cases e <;> first | exact ⟨0, [], h2 s h⟩ | exact h) h
theorem runGL_frz (lo : Nat) (gs : List Nat) {a b : Code} (h : runCL P B a st (fun e s => match e with
    | .normal => runGL P B b (St.frzl lo gs s) k ⟨⟩
    | e => k e s) ⟨⟩) : runGL P B (.seq a b) st k u := runG_mono a _ _ _ (fun e s h => by cases e <;> first | exact ⟨lo, gs, h⟩ | exact h) (runG_of_runC a _ _ h)
end
def tailTL (P : Program) (cs : List Nat) (ops : Array Oper) (T : OT) (st : St) (K : St → Prop) (_ : Lk K) : Prop := tailT P cs ops T st K
def stepOL (P : Program) (cs : List Nat) (ops : Array Oper) (j : Nat) (st : St) (K : St → Prop) (_ : Lk K) : Prop := stepO P cs ops j st K
section
variable {B : Nat → List Nat} {k : Ex → St → Prop} {u : Lk k} {cs : List Nat} {ops : Array Oper} {j : Nat} {t : OT} {K : St → Prop} {v : Lk K} {n : Nat} {fr : Nat → D} {mem : Nat → Option M} {next : Nat} {lit : Bool}
theorem runGL_tree (T : OT) (cs : List Nat) {id : Nat} {l : List Oper} {st : St} (hm : P.follows .mixedOrders = true) (ho : okT l.toArray T l.toArray.size (Array.replicate l.toArray.size false) = true) (h : tailTL P cs l.toArray T st (fun s => k .normal s) ⟨⟩) : runGL P B (.region id l.toArray true) st k u :=
  .inr ⟨rfl, hm, .inl ⟨T, cs, ho, h⟩⟩
/-- the head drawn without and with the alloc f; the rest as trees -/
theorem runGL_float (m f : Nat) (of : Oper) (A A' : List (List Nat)) (T T' : OT) (cs : List Nat) {id : Nat} {l hd : List Oper} {st : St} (hm : P.follows .mixedOrders = true) (hhd : l.take m = hd) (ho : FlT l.toArray m f of A A' T T')
    (h1 : opsDL P hd A st.next 0 hd st (fun s => tailTL P cs l.toArray T { s with next := st.next + m } (fun s => k .normal s) ⟨⟩) ⟨⟩)
    (h2 : opsDL P (hd ++ [of]) A' st.next 0 (hd ++ [of]) st (fun s => tailTL P cs l.toArray T' { s with next := st.next + (m + 1) } (fun s => k .normal s) ⟨⟩) ⟨⟩) : runGL P B (.region id l.toArray true) st k u := by
  subst hhd
  exact .inr ⟨rfl, hm, .inr ⟨m, f, of, A, A', T, T', cs, ho, h1, h2⟩⟩
theorem tailTL_done (st : St) : tailTL P cs ops .done st K v = K st := rfl
theorem tailTL_one (st : St) : tailTL P cs ops (.one j t) st K v = stepOL P cs ops j st (fun s => tailTL P cs ops t s K ⟨⟩) ⟨⟩ := rfl
theorem tailTL_two {st : St} {j' : Nat} {t' : OT} (h1 : stepOL P cs ops j st (fun s => tailTL P cs ops t s K ⟨⟩) ⟨⟩) (h2 : stepOL P cs ops j' st (fun s => tailTL P cs ops t' s K ⟨⟩) ⟨⟩) : tailTL P cs ops (.two j t j' t') st K v := ⟨h1, h2⟩
theorem tailTL_three {st : St} {j' : Nat} {t' : OT} {j2 : Nat} {t2 : OT} (h1 : stepOL P cs ops j st (fun s => tailTL P cs ops t s K ⟨⟩) ⟨⟩) (h2 : stepOL P cs ops j' st (fun s => tailTL P cs ops t' s K ⟨⟩) ⟨⟩) (h3 : stepOL P cs ops j2 st (fun s => tailTL P cs ops t2 s K ⟨⟩) ⟨⟩) : tailTL P cs ops (.three j t j' t' j2 t2) st K v := ⟨h1, h2, h3⟩
theorem stepOL_at {l : List Oper} : stepOL P cs l.toArray j ⟨n, fr, mem, next, lit⟩ K v = obL (l[j]?) (fun o => obL (gval l.toArray ⟨n, fr, mem, next, lit⟩ o.guard) (fun g => gifL g
      (gifL (cs.contains j) (opSL P o ⟨n, fr, mem, next, lit⟩ next (fun d mem' next' => K (St.put ⟨n, fr, mem', next', lit⟩ o.dst d)) ⟨⟩)
        (opWL P next o ⟨n, fr, mem, next, lit⟩ (fun d st' => K (({ st' with next := next + 1 } : St).put o.dst d)) ⟨⟩) ⟨⟩ ⟨⟩)
      (K (St.put ⟨n, fr, mem, next, lit⟩ o.dst undefD)) ⟨⟩ ⟨⟩) ⟨⟩) ⟨⟩ := by
  unfold stepOL stepO obL
  rw [List.getElem?_toArray]
  rfl
end
attribute [go_sem] tailTL_done tailTL_one stepOL_at
theorem frzs_mk (lo g : Nat) (n : Nat) (fr : Nat → D) (mem : Nat → Option M) (next : Nat) (lit : Bool) : St.frzs lo g ⟨n, fr, mem, next, lit⟩ = ⟨n, fun t => frzA g mem (fr t), fun id => if id = g then none else if lo ≤ id then (mem id).map (frzB g mem) else mem id, next, lit⟩ := rfl
theorem frzl_nil (lo : Nat) (st : St) : St.frzl lo [] st = st := rfl
theorem frzl_cons (lo g : Nat) (gs : List Nat) (st : St) : St.frzl lo (g :: gs) st = St.frzl lo gs (st.frzs lo g) := rfl
attribute [go_sem] frzl_nil frzl_cons frzs_mk frzA frzC frzB runGL_block runGL_cond runGL_skip runGL_ret
/-- up to nil slices -/
def DLe : D → D → Prop
  | .f a, .f b => FLe a b
  | a, b => a = b
def DLeL : List D → List D → Prop
  | [], ds => ds = []
  | a :: as, ds => ∃ b bs, ds = b :: bs ∧ DLe a b ∧ DLeL as bs
theorem DLe.refl (d : D) : DLe d d := by
  cases d <;> first | exact FLe.refl _ | rfl
theorem DLe.rep {c : Cx} {v : Value} {a b : D} (h : RepD c v a) (k : DLe a b) : RepD c v b := by
  cases a with
  | f a =>
    cases b with
    | f b =>
      unfold RepD at h ⊢
      exact FLe.rep h k
    | _ => exact absurd k (by simp [DLe])
  | _ =>
    unfold DLe at k
    subst k
    exact h
theorem DLeL.rep {c : Cx} : ∀ {as bs : List D} {vs : List Value}, RepDL c vs as → DLeL as bs → RepDL c vs bs
  | [], bs, vs, h, k => by unfold DLeL at k; subst k; exact h
  | a :: as, bs, vs, h, k => by
    unfold DLeL at k
    obtain ⟨b, bs, rfl, k1, k2⟩ := k
    unfold RepDL at h ⊢
    obtain ⟨u, us, rfl, h1, h2⟩ := h
    exact ⟨u, us, rfl, DLe.rep h1 k1, DLeL.rep h2 k2⟩
theorem DLeL.refl : ∀ ds : List D, DLeL ds ds
  | [] => by unfold DLeL; rfl
  | d :: ds => by unfold DLeL; exact ⟨d, ds, rfl, DLe.refl d, DLeL.refl ds⟩
theorem DLeL.cons {a b : D} {as bs : List D} (h : DLe a b) (k : DLeL as bs) : DLeL (a :: as) (b :: bs) := by unfold DLeL; exact ⟨b, bs, rfl, h, k⟩
/-- arguments that say more -/
theorem callS_le {f : FuncId} {ds ds' : List D} {mem : Nat → Option M} {nx : Nat} {K : D → (Nat → Option M) → Nat → Prop} (hd : DLeL ds ds') (h : callS P f ds' mem nx K) : callS P f ds mem nx K :=
  ⟨h.1, fun w0 WS0 c vs h1 h2 h3 => h.2 w0 WS0 c vs (DLeL.rep h1 hd) h2 h3⟩
/-- a tuple's parts that say more -/
theorem callS_up {f : FuncId} {ds : List D} {mem : Nat → Option M} {nx : Nat} {K : D → (Nat → Option M) → Nat → Prop} (h : callS P f ds mem nx fun d m n => ∃ as bs, d = .tup as ∧ DLeL as bs ∧ K (.tup bs) m n) : callS P f ds mem nx K := by
  refine ⟨h.1, fun w0 WS0 c vs h1 h2 h3 => (h.2 w0 WS0 c vs h1 h2 h3).mono ?_⟩
  rintro e w' ⟨v, c', d, mem', next', rfl, rfl, ⟨as, bs, rfl, hl, hK⟩, h4, h5, h6, h7, h8⟩
  refine ⟨v, c', .tup bs, mem', next', rfl, rfl, hK, h4, h5, h6, ?_, h8⟩
  unfold RepD at h7 ⊢
  obtain ⟨vs, rfl, h7⟩ := h7
  exact ⟨vs, rfl, DLeL.rep h7 hl⟩
end Go.Dn
end
section
namespace Go.Dk
open Go.RowKit

section
variable {n : Nat} {P : Program} {md : Region.Mode} {l t : List Oper} {Q : Exit → Act → World → Prop}
/-- each operation of the tail but the first waits for one of the tail -/
def waysB (md : Region.Mode) (l t : List Oper) : Bool := (List.range t.length).all fun k => ((t[k]?).map fun o => decide (k = 0) || (List.range k).any fun k' => waitsB md o (l.length + k')).getD true
theorem waysB_spec (hd : waysB md l t = true) {k : Nat} {o : Oper} (hk : t[k]? = some o) (h0 : k ≠ 0) : ∃ e ∈ o.after, Region.binds md e = true ∧ l.length ≤ e.on := by
  have hlt := (List.getElem?_eq_some_iff.1 hk).1
  have := List.all_eq_true.1 hd k (by simpa using hlt)
  rw [hk] at this
  simp only [Option.map_some, Option.getD_some, Bool.or_eq_true, decide_eq_true_eq] at this
  rcases this with h | h
  · exact absurd h h0
  · obtain ⟨k', -, h⟩ := List.any_eq_true.1 h
    obtain ⟨e, he, hb, hon⟩ := waitsB_spec h
    exact ⟨e, he, hb, by omega⟩
theorem tail_ready2 (hk : sinksB md l t = true) (hc : waysB md l t = true) {listed : Array Bool} (hs : listed.size = l.length) (hcl : ClosedB md l listed) {j : Nat} (hj : l.length ≤ j) (h : j ∈ Region.ready md (l ++ t).toArray (listed ++ Array.replicate t.length false)) :
    ∀ d i, l.length - i = d → i < l.length → listed.getD i false = true := by
  obtain ⟨g1, oj, g2, g3⟩ := mem_ready.1 h
  have hlt : j < l.length + t.length := by simpa using (Array.getElem?_eq_some_iff.1 g2).1
  have hj0 : j = l.length := by
    rcases Nat.lt_or_ge l.length j with hx | hx
    · obtain ⟨i, rfl⟩ : ∃ i, j = l.length + i := ⟨j - l.length, by omega⟩
      rw [at_ge] at g2
      obtain ⟨e, he, hb, hon⟩ := waysB_spec hc g2 (by omega)
      have hy := g3 e he hb
      rw [ext_false] at hy
      simp [Array.getD, show ¬ e.on < listed.size by omega] at hy
    · omega
  subst hj0
  intro d
  induction d using Nat.strongRecOn with
  | ind d ih =>
    intro i hd hi
    obtain ⟨j', oj', hij, hj', ho', e, he, hb, hon⟩ := sinksB_spec hk hi
    rcases Nat.lt_or_ge j' l.length with hx | hx
    · have h1 := ih (l.length - j') (by omega) j' rfl hx
      rw [List.getElem?_append_left hx] at ho'
      have := hcl j' oj' ho' h1 e he hb
      rwa [hon] at this
    · obtain rfl : j' = l.length := by omega
      rw [List.getElem?_toArray, ho'] at g2
      injection g2 with g2
      subst g2
      have := g3 e he hb
      rwa [ext_false, hon] at this

theorem wpAny_tailG {Q0 : Exit → Act → World → Prop} (nol : ¬ LetsOut Q0) (nop : ∀ c a w, Q0 (.panic c) a w → False) (hd : headB md l = true) (hk : sinksB md l t = true) (hc : waysB md l t = true)
    (fin : ∀ (listed : Array Bool) (a : Act) (w : World) (F : Nat), listed.size = l.length → (∀ i, i < l.length → listed.getD i false = true) → t.length ≤ F → Q0 .normal a w → wpAnyIn Fence.wide n P md (l ++ t).toArray Q F (listed ++ Array.replicate t.length false) a w) : ∀ (fuel : Nat) (listed : Array Bool) (a : Act) (w : World), listed.size = l.length → ClosedB md l listed →
    wpAny P md l.toArray Q0 fuel listed a w →
    wpAnyIn Fence.wide n P md (l ++ t).toArray Q (fuel + t.length) (listed ++ Array.replicate t.length false) a w := by
  intro fuel
  induction fuel with
  | zero =>
    intro listed a w hs hcl h
    exact fin _ _ _ _ hs (head_full hd hs h.1) (by omega) h.2
  | succ fuel ih =>
    intro listed a w hs hcl h
    cases hr : Region.ready md l.toArray listed with
    | nil => exact fin _ _ _ _ hs (head_full hd hs hr) (by omega) (h.1 hr)
    | cons k r =>
      have hk1 : k ∈ Region.ready md l.toArray listed := by rw [hr]; exact List.mem_cons_self
      obtain ⟨hkf, ok, h2, _⟩ := mem_ready.1 hk1
      have hlt : k < l.length := by simpa using (Array.getElem?_eq_some_iff.1 h2).1
      rw [show fuel + 1 + t.length = (fuel + t.length) + 1 by omega]
      refine ⟨fun h0 => ?_, fun j hj => ?_⟩
      · have := (ready_head (t := t) hd hs hlt).2 hk1
        rw [h0] at this
        cases this
      · by_cases hjm : j < l.length
        · have hjr := (ready_head hd hs hjm).1 hj
          have hq := h.2 j hjr
          have hl : l[j]? = some l[j] := List.getElem?_eq_getElem hjm
          have hla : (l.toArray)[j]? = some l[j] := by simp
          have hcl2 : ClosedB md l (listed.setIfInBounds j true) := fun i oi hi hv e he hb => by
            obtain ⟨_, oj, hoj, hall⟩ := mem_ready.1 hjr
            by_cases hij : j = i
            · subst hij
              rw [List.getElem?_toArray, hi] at hoj
              injection hoj with hoj
              subst hoj
              exact getD_set_true (hall e he hb)
            · rw [getD_set_ne false hij] at hv
              exact getD_set_true (hcl i oi hi hv e he hb)
          have hnext : ∀ a' w', wpAny P md l.toArray Q0 fuel (listed.setIfInBounds j true) a' w' →
              wpAnyIn Fence.wide n P md (l ++ t).toArray Q (fuel + t.length) ((listed ++ Array.replicate t.length false).setIfInBounds j true) a' w' := fun a' w' K => by
            have := ih (listed.setIfInBounds j true) a' w' (by simpa using hs) hcl2 K
            rwa [show (listed.setIfInBounds j true) ++ Array.replicate t.length false = (listed ++ Array.replicate t.length false).setIfInBounds j true by
              rw [Array.setIfInBounds_append_left (by omega)]] at this
          unfold wpOp at hq
          rw [hla] at hq
          unfold wpOpIn
          rw [at_lt j hjm, hla]
          dsimp only at hq ⊢
          rw [wanted_head hd hl]
          split
          · rename_i hwd
            rw [if_pos hwd] at hq
            rcases hq with hq | ⟨-, hq⟩
            · exact Oper.wpIn_mono hnext (wpIn_wide_of_wp nol (fun c a w h => (nop c a w h).elim) hq)
            · exact absurd hq nol
          · rename_i hwd
            rw [if_neg hwd] at hq
            exact ⟨fun _ _ => trivial, hnext _ _ hq⟩
        · have hfull := tail_ready2 hk hc hs hcl (by omega) hj
          exfalso
          rw [tf _ _ (by omega), hfull _ k rfl hlt] at hkf
          cases hkf
end
end Go.Dk
namespace Go.Dn
open Go.RowKit Go.Dk
variable {P : Program}
structure NtT (ops : Array Oper) (m : Nat) (A : List (List Nat)) (T : OT) : Prop where
  hm : m ≤ ops.toList.length
  hd : headB .any (ops.toList.take m) = true
  sk : sinksB .any (ops.toList.take m) (ops.toList.drop m) = true
  wy : waysB .any (ops.toList.take m) (ops.toList.drop m) = true
  dA : drawOk (ops.toList.take m) A = true
  oA : okT ops T (ops.toList.drop m).length (Array.replicate (ops.toList.take m).length true ++ Array.replicate (ops.toList.drop m).length false) = true
def regN (P : Program) (ops : Array Oper) (draw : Bool) (st : St) (K : St → Prop) : Prop :=
  draw = true ∧ P.follows .mixedOrders = true ∧ ∃ m A T cs, NtT ops m A T ∧ opsD P (ops.toList.take m) A st.next 0 (ops.toList.take m) st fun s => tailT P cs ops T { s with next := st.next + m } K
theorem regN_mono {ops : Array Oper} {draw : Bool} {st : St} {K K' : St → Prop} (h : regN P ops draw st K) (hk : ∀ s, K s → K' s) : regN P ops draw st K' := by
  obtain ⟨h1, h2, m, A, T, cs, h3, h4⟩ := h
  exact ⟨h1, h2, m, A, T, cs, h3, opsD_mono (fun s h => tailT_mono hk _ _ h) _ _ _ h4⟩
theorem regN_sound {w0 : World} {WS0 : Nat → Nat → Prop} {ops : Array Oper} {draw : Bool} {st : St} {K : St → Prop} (h : regN P ops draw st K) {id : Nat} {c : Cx} {a : Act} (hI : Inv w0 WS0 c a st) {Q : Exit → Act → World → Prop}
    (hk : ∀ c' a' st', K st' → Ext c c' → Inv w0 WS0 c' a' st' → st.next ≤ st'.next → Q .normal a' c'.x.W) : (Code.region id ops draw).wp P Q a c.x.W := by
  obtain ⟨rfl, hm, m, A, T, cs, ho, h1⟩ := h
  refine (wpIn_wide (n := 0)).1 (wpIn_region_any hm ?_)
  have e0 : ops.toList.take m ++ ops.toList.drop m = ops.toList := List.take_append_drop ..
  have hlen : (ops.toList.take m).length = m := by have := ho.hm; rw [List.length_take]; omega
  have kA := draw_any (Q := EndQ P w0 WS0 c cs ops T st.next (st.next + m) K) ho.dA h1 hI fun c' a' st' k1 kx k2 k3 k4 k5 k6 => ⟨c', { st' with next := st.next + m }, k1, kx, ⟨⟨k2.size, k2.defers, k2.fr⟩, k3, fun id hid => k6 id (by have : st.next + m ≤ id := hid; omega)⟩, rfl, rfl, Nat.le_add_right _ _⟩
  have nol : ¬ LetsOut (EndQ P w0 WS0 c cs ops T st.next (st.next + m) K) := fun ⟨_, _, h⟩ => h
  have key := wpAny_tailG (n := 0) (Q := Q) nol (fun _ _ _ h => h) ho.hd ho.sk ho.wy (fun listed a w F hs hfull hF hq => by
    obtain ⟨c', st', k1, k2, k3, rfl, k4, k5⟩ := hq
    have el : listed = Array.replicate (ops.toList.take m).length true := by
      refine Array.ext (by simpa using hs) fun i hi hi2 => ?_
      have := hfull i (by omega)
      rw [Array.getD_eq_getD_getElem?, Array.getElem?_eq_getElem hi] at this
      simpa using this
    rw [e0, el]
    exact tailT_sound T F _ c' a st' (okT_mono T _ _ _ hF ho.oA) k1 k3 fun c2 a2 s2 m1 m2 m3 m4 => hk c2 a2 s2 m1 (k2.trans m2) m3 (by omega)) (ops.toList.take m).length (Array.replicate (ops.toList.take m).length false) a c.x.W.drew (by simp) (fun j oj hj hv => by
    exfalso
    have hlt := (List.getElem?_eq_some_iff.1 hj).1
    simp only [Array.getD_eq_getD_getElem?, Array.getElem?_replicate] at hv
    split at hv <;> simp at hv) (by simpa using kA)
  have e1 : (ops.toList.take m).length + (ops.toList.drop m).length = ops.size := by
    rw [← List.length_append, e0, Array.length_toList]
  rw [e0, e1] at key
  have e2 : Array.replicate (ops.toList.take m).length false ++ Array.replicate (ops.toList.drop m).length false = Array.replicate ops.size false := by
    rw [Array.replicate_append_replicate, e1]
  rwa [e2] at key
end Go.Dn
end
section
namespace Go.Dn
open Go.RowKit Go.Dk

variable {P : Program}
/-- runG, freezing also ahead of each round of a loop -/
def runH (P : Program) (B : Nat → List Nat) : Code → St → (Ex → St → Prop) → Prop
  | .seq a b, st, k => runH P B a st fun e s => match e with
    | .normal => ∃ lo gs, runH P B b (St.frzl lo gs s) k
    | e => k e s
  | .cond c a b, st, k => ob (truth (st.ev c)) fun t => gif t (runH P B a st k) (runH P B b st k)
  | .block id c, st, k => runH P B c st fun e s => match e with
    | .exit j => if j = id then k .normal s else k (.exit j) s
    | e => k e s
  | .loop c, st, k => ∃ as : List Ad, ∃ n, iterN (fun s k => ∃ lo gs, runH P B c (St.frzl lo gs s) k) n (st.adopts as) k
  | .region id ops draw, st, k => runC P B (.region id ops draw) st k ∨ (regT P ops draw st fun s => k .normal s) ∨ regN P ops draw st fun s => k .normal s
  | c, st, k => runC P B c st k
theorem runH_mono {B : Nat → List Nat} : ∀ (c : Code) (st : St) (k k' : Ex → St → Prop), (∀ e s, k e s → k' e s) → runH P B c st k → runH P B c st k' := by
  intro c
  induction c with
  | seq x z ihx ihz =>
    intro st k k' hk h
    unfold runH at h ⊢
    refine ihx _ _ _ (fun e s h => ?_) h
    cases e with
    | normal =>
      obtain ⟨lo, gs, h⟩ := h
      exact ⟨lo, gs, ihz _ _ _ hk h⟩
    | exit id => exact hk _ _ h
    | ret => exact hk _ _ h
  | cond c x z ihx ihz =>
    intro st k k' hk h
    unfold runH at h ⊢
    exact ob_mono h fun _ h => gif_mono h (ihx _ _ _ hk) (ihz _ _ _ hk)
  | block id x ih =>
    intro st k k' hk h
    unfold runH at h ⊢
    refine ih _ _ _ (fun e s h => ?_) h
    cases e with
    | normal => exact hk _ _ h
    | exit j =>
      simp only at h ⊢
      split at h
      · rename_i hj; rw [if_pos hj]; exact hk _ _ h
      · rename_i hj; rw [if_neg hj]; exact hk _ _ h
    | ret => exact hk _ _ h
  | loop x ih =>
    intro st k k' hk h
    unfold runH at h ⊢
    obtain ⟨as, n, h⟩ := h
    exact ⟨as, n, iterN_mono (fun st k k' hk h => let ⟨lo, gs, h⟩ := h; ⟨lo, gs, ih _ k k' hk h⟩) hk n n _ (Nat.le_refl _) h⟩
  | region id ops draw =>
    intro st k k' hk h
    unfold runH at h ⊢
    rcases h with h | h | h
    · exact .inl (runC_mono _ _ _ _ hk h)
    · exact .inr (.inl (regT_mono h fun s h => hk _ _ h))
    · exact .inr (.inr (regN_mono h fun s h => hk _ _ h))
  | _ => exact fun st k k' hk h => runC_mono _ _ _ _ hk h
theorem runH_of_runC {B : Nat → List Nat} : ∀ (c : Code) (st : St) (k : Ex → St → Prop), runC P B c st k → runH P B c st k := by
  intro c
  induction c with
  | seq x z ihx ihz =>
    intro st k h
    unfold runC at h
    unfold runH
    refine runH_mono x _ _ _ (fun e s h => ?_) (ihx _ _ h)
    cases e with
    | normal => exact ⟨0, [], ihz _ _ h⟩
    | exit id => exact h
    | ret => exact h
  | cond c x z ihx ihz =>
    intro st k h
    unfold runC at h
    unfold runH
    exact ob_mono h fun _ h => gif_mono h (ihx _ _) (ihz _ _)
  | block id x ih =>
    intro st k h
    unfold runC at h
    unfold runH
    exact ih _ _ h
  | loop x ih =>
    intro st k h
    unfold runC at h
    unfold runH
    obtain ⟨as, n, h⟩ := h
    refine ⟨as, n, ?_⟩
    revert h
    generalize St.adopts as st = st0
    induction n generalizing st0 with
    | zero => exact fun h => h
    | succ n ihn =>
      intro h
      unfold iterN at h ⊢
      refine ⟨0, [], runH_mono x _ _ _ (fun e s h => ?_) (ih _ _ h)⟩
      cases e with
      | normal => exact ihn _ h
      | exit id => exact h
      | ret => exact h
  | region id ops draw => exact fun st k h => .inl h
  | _ => exact fun st k h => h
theorem runH_sound {w0 : World} {WS0 : Nat → Nat → Prop} {B : Nat → List Nat} : ∀ (cd : Code) (st : St) (k : Ex → St → Prop), runH P B cd st k → ∀ (bn : Nat) (c : Cx) (a : Act), bn ≤ st.next → Inv w0 WS0 c a st → ∀ (Q : Exit → Act → World → Prop),
    (∀ e c' a' st', k e st' → Inv w0 WS0 c' a' st' → ExtN bn c c' → bn ≤ st'.next → Q (exOf e) a' c'.x.W) → cd.wp P Q a c.x.W := by
  intro cd
  induction cd with
  | seq x y ihx ihy =>
    intro st k h bn c a hbn hI Q hk
    unfold runH at h
    refine wp_seq (ihx st _ h bn c a hbn hI _ ?_)
    intro e c' a' st' he hI' hx hb'
    cases e with
    | normal =>
      obtain ⟨lo, gs, he⟩ := he
      obtain ⟨c1, h1, h2, h3⟩ := frzl_sound lo gs c' st' hI'
      rw [← h3]
      exact ihy _ k he bn c1 a' (by rw [frzl_next]; exact hb') h1 Q (fun e c2 a2 st2 k1 k2 k3 k4 => hk e c2 a2 st2 k1 k2 ((hx.trans h2.n).trans k3) k4)
    | exit id => exact hk (.exit id) c' a' st' he hI' hx hb'
    | ret => exact hk .ret c' a' st' he hI' hx hb'
  | cond cc x y ihx ihy =>
    intro st k h bn c a hbn hI Q hk
    unfold runH at h
    obtain ⟨t, ht, h⟩ := h
    have hc := truth_rep (hI.F.ev cc) ht
    refine wp_cond hc ?_
    cases t with
    | true => exact ihx st k h bn c a hbn hI Q hk
    | false => exact ihy st k h bn c a hbn hI Q hk
  | block id x ih =>
    intro st k h bn c a hbn hI Q hk
    unfold runH at h
    refine wp_block (ih st _ h bn c a hbn hI _ ?_)
    intro e c' a' st' he hI' hx hb'
    cases e with
    | normal => exact hk .normal c' a' st' he hI' hx hb'
    | exit j =>
      simp only at he
      show (if j = id then Q .normal a' c'.x.W else Q (.exit j) a' c'.x.W)
      split at he
      · rename_i hj; rw [if_pos hj]; exact hk .normal c' a' st' he hI' hx hb'
      · rename_i hj; rw [if_neg hj]; exact hk (.exit j) c' a' st' he hI' hx hb'
    | ret => exact hk .ret c' a' st' he hI' hx hb'
  | loop x ih =>
    intro st0 k h bn c0 a hbn hI0 Q hk
    unfold runH at h
    obtain ⟨as, n, h⟩ := h
    obtain ⟨c, hI, ec, xe, nx⟩ := adopts_sound as c0 a st0 hI0
    have hx0 : ExtN bn c0 c := ⟨by rw [ec]; exact Sub.refl _, fun id _ v u h => xe id v u h⟩
    rw [← ec]
    revert h hI nx
    generalize St.adopts as st0 = st
    intro h hI nx
    have hbb : bn ≤ st.next := Nat.le_trans hbn nx
    intro b kk cs
    have key : ∀ (n : Nat) (st : St), iterN (fun s k => ∃ lo gs, runH P B x (St.frzl lo gs s) k) n st k → ∀ (c : Cx) (a : Act), bn ≤ st.next → ExtN bn c0 c → Inv w0 WS0 c a st →
        ∃ e a' w', Q e a' w' ∧ Arrives P (lone (b.at a (.code x :: .inLoop x :: kk)) cs c.x.W) b kk cs e a' w' := by
      intro n
      induction n with
      | zero => intro st h; exact h.elim
      | succ n ihn =>
        intro st h c a hbb hxc hI
        unfold iterN at h
        obtain ⟨lo, gs, h⟩ := h
        obtain ⟨c1, h1, h2, h3⟩ := frzl_sound lo gs c st hI
        have hx1 := hxc.trans h2.n
        have hw := ih _ _ h bn c1 a (by rw [frzl_next]; exact hbb) h1 (Exit.then (fun a' w' => ∃ e a'' w'', Q e a'' w'' ∧ Arrives P (lone (b.at a' (.code x :: .inLoop x :: kk)) cs w') b kk cs e a'' w'') Q) (by
          intro e c' a' st' he hI' hx hb'
          have hx2 := hx1.trans hx
          cases e with
          | normal => exact ihn st' he c' a' hb' hx2 hI'
          | exit id => exact hk (.exit id) c' a' st' he hI' hx2 hb'
          | ret => exact hk .ret c' a' st' he hI' hx2 hb')
        rw [h3] at hw
        obtain ⟨e, a₁, w₁, hq, harr⟩ := hw b (.inLoop x :: kk) cs
        cases e with
        | normal =>
          obtain ⟨e₂, a₂, w₂, hq₂, harr₂⟩ := hq
          exact ⟨e₂, a₂, w₂, hq₂, .of_steps (Steps.trans harr (.one step_inLoop)) harr₂⟩
        | exit id => exact ⟨_, a₁, w₁, hq, .pass (x := .inLoop x) rfl (fun _ _ => .inl (by simp)) harr⟩
        | goto l => exact ⟨_, a₁, w₁, hq, .pass (x := .inLoop x) rfl (fun _ _ => .inl (by simp)) harr⟩
        | ret => exact ⟨_, a₁, w₁, hq, .pass (x := .inLoop x) rfl (fun _ _ => .inl (by simp)) harr⟩
        | panic ch => exact ⟨_, a₁, w₁, hq, .pass (x := .inLoop x) rfl (fun _ _ => .inl (by simp)) harr⟩
        | outgrown => exact ⟨_, a₁, w₁, hq, .pass (x := .inLoop x) rfl (fun _ _ => .inl (by simp)) harr⟩
    obtain ⟨e, a', w', hq, harr⟩ := key n st h c a hbb hx0 hI
    exact ⟨e, a', w', hq, .of_steps (.one step_loop) harr⟩
  | region id ops draw =>
    intro st k h bn c a hbn hI Q hk
    unfold runH at h
    rcases h with h | h | h
    · exact runC_sound _ _ _ h bn c a hbn hI Q hk
    · exact regT_sound h hI fun c' a' st' k1 k2 k3 k4 => hk .normal c' a' st' k1 k3 k2.n (Nat.le_trans hbn k4)
    · exact regN_sound h hI fun c' a' st' k1 k2 k3 k4 => hk .normal c' a' st' k1 k3 k2.n (Nat.le_trans hbn k4)
  | _ => exact fun st k h bn c a hbn hI Q hk => runC_sound _ _ _ h bn c a hbn hI Q hk
theorem Pure.of_runH {f : FuncId} {fn : Func} {cd : Code} {ds : List FD} {d : FD} {n : Nat} {rs : List ResultVar} {lit : Bool} (B : Nat → List Nat) (hf : P.funcs[f]? = some fn) (hb : fn.body = some cd) (hname : (fn.name == "runtime.NumGoroutine") = false) (hnt : fn.ntmps = n) (hrs : fn.results.toList = rs) (hn : ds.length ≤ n)
    (h : runH P B cd (St.enter n ds lit) fun e s => e.fin = true ∧ ∃ d', resultD P rs s = some d' ∧ FLe d' d) : Pure P f ds d :=
  Pure.of_sound (lit := lit) hf hb hname hnt hrs hn fun _ _ c a hI Q hk => runH_sound cd _ _ h 0 c a (Nat.zero_le _) hI Q fun e c' a' st' ⟨h1, d', h1', h1''⟩ h2 _ _ => hk e c' a' st' ⟨h1, d', h1', h1''⟩ h2
def runHL (P : Program) (B : Nat → List Nat) (c : Code) (st : St) (k : Ex → St → Prop) (_ : Lk k) : Prop := runH P B c st k
section
variable {B : Nat → List Nat} {st : St} {k : Ex → St → Prop} {u : Lk k}
theorem runH_of_runHL {c : Code} (h : runHL P B c st k ⟨⟩) : runH P B c st k := h
theorem runHL_block (id : Nat) (c : Code) : runHL P B (.block id c) st k u = runHL P B c st (fun e s => match e with
    | .exit j => if j = id then k .normal s else k (.exit j) s
    | e => k e s) ⟨⟩ := rfl
theorem runHL_cond (c : Operand) (a b : Code) : runHL P B (.cond c a b) st k u = obL (truth (st.ev c)) (fun t => gifL t (runHL P B a st k ⟨⟩) (runHL P B b st k ⟨⟩) ⟨⟩ ⟨⟩) ⟨⟩ := rfl
theorem runHL_skip : runHL P B .skip st k u = k .normal st := rfl
theorem runHL_ret : runHL P B .ret st k u = k .ret st := rfl
theorem runHL_exit (id : Nat) : runHL P B (.exit id) st k u = k (.exit id) st := rfl
theorem runHL_end {c : Code} (h : runCL P B c st k ⟨⟩) : runHL P B c st k u := runH_of_runC c st k h
/-- the first part, plainly; then on -/
theorem runHL_on {a b : Code} (h : runCL P B a st (fun e s => match e with
    | .normal => runHL P B b s k ⟨⟩
    | e => k e s) ⟨⟩) : runHL P B (.seq a b) st k u := runH_mono a _ _ _ (fun e s h => by cases e <;> first | exact ⟨0, [], h⟩ | exact h) (runH_of_runC a _ _ h)
theorem runHL_sub {a b : Code} (h : runHL P B a st (fun e s => match e with
    | .normal => runHL P B b s k ⟨⟩
    | e => k e s) ⟨⟩) : runHL P B (.seq a b) st k u := runH_mono a _ _ _ (fun e s h => by cases e <;> first | exact ⟨0, [], h⟩ | exact h) h
theorem runHL_frz (lo : Nat) (gs : List Nat) {a b : Code} (h : runCL P B a st (fun e s => match e with
    | .normal => runHL P B b (St.frzl lo gs s) k ⟨⟩
    | e => k e s) ⟨⟩) : runHL P B (.seq a b) st k u := runH_mono a _ _ _ (fun e s h => by cases e <;> first | exact ⟨lo, gs, h⟩ | exact h) (runH_of_runC a _ _ h)
/-- a region: its first m operations drawn, the rest as a tree -/
theorem runHL_ntree (m : Nat) (A : List (List Nat)) (T : OT) (cs : List Nat) {id : Nat} {l hd : List Oper} (hm : P.follows .mixedOrders = true) (hhd : l.take m = hd) (ho : NtT l.toArray m A T)
    (h : opsDL P hd A st.next 0 hd st (fun s => tailTL P cs l.toArray T { s with next := st.next + m } (fun s => k .normal s) ⟨⟩) ⟨⟩) : runHL P B (.region id l.toArray true) st k u := by
  subst hhd
  exact .inr (.inr ⟨rfl, hm, m, A, T, cs, ho, h⟩)
/-- a loop: which rows are frozen ahead of a round is told by the relation -/
theorem runHL_loop {c : Code} (as : List Ad) (I : Nat → St → Prop) (n0 : Nat) (h0 : I n0 (St.adopts as st))
    (step : ∀ n s, I n s → ∃ lo gs, runHL P B c (St.frzl lo gs s) (fun e s' => match e with
      | .normal => ∃ m, m < n ∧ I m s'
      | e => k e s') ⟨⟩) : runHL P B (.loop c) st k u := by
  have key : ∀ n (s : St), I n s → iterN (fun s k => ∃ lo gs, runH P B c (St.frzl lo gs s) k) (n + 1) s k := by
    intro n
    induction n using Nat.strongRecOn with
    | _ n ih =>
      intro s hI
      obtain ⟨lo, gs, h⟩ := step n _ hI
      refine ⟨lo, gs, runH_mono c _ _ _ (fun e s' h => ?_) h⟩
      cases e with
      | normal =>
        obtain ⟨m, hm, h⟩ := h
        exact iterN_mono (fun st k k' hk h => let ⟨lo, gs, h⟩ := h; ⟨lo, gs, runH_mono c _ k k' hk h⟩) (fun _ _ h => h) (m + 1) n s' hm (ih m hm s' h)
      | exit id => exact h
      | ret => exact h
  exact ⟨as, n0 + 1, key n0 _ h0⟩
end
attribute [go_sem] runHL_block runHL_cond runHL_skip runHL_ret runHL_exit
end Go.Dn
end
