/- Iterators: a function's text that yields numbers, run over data. -/
/- Rules by which an iterator's text is run. -/
/- What the call has made and writes no more: frozen from now on. -/
import Derived.Test.YtipacbaapkdnaaaGreatJDl
import Derived.Test.YtipacbaapkdnaaaGreatJDk
import Derived.RangeFuncKeeps
set_option linter.unusedSimpArgs false
set_option linter.unusedVariables false
section
namespace Go.Dn
open Go.RowKit Go.Dk

variable {P : Program}

/-- the numbers yielded; was there a 'no'? -/
structure Yd where
  ys : List Int
  stop : Bool
/-- what is the call's own is let go -/
def St.bare (st : St) : St := { st with fr := fun t => clean 0 (st.fr t), mem := noM }
def scD : D → D
  | .f d => if scalar d then .f d else .top
  | _ => .top
/-- all but scalars is let go -/
def St.only (st : St) : St := { st with fr := fun t => scD (st.fr t), mem := noM }

section
variable (P)
/-- a region up to its operation m -/
def headW (ops : Array Oper) (draw : Bool) (m : Nat) (st : St) (K : St → Prop) : Prop :=
  if draw then (∃ A, (drawOk (ops.toList.take m) A = true ∧ P.follows .mixedOrders = true) ∧ (headB .any (ops.toList.take m) = true ∧ sinksB .any (ops.toList.take m) (ops.toList.drop m) = true ∧ chainsB .any (ops.toList.take m) (ops.toList.drop m) = true) ∧ opsD P (ops.toList.take m) A st.next 0 (ops.toList.take m) st K)
  else opsL P ops st.next 0 (ops.toList.take m) st K
/-- a call of yield -/
def yieldW (l N : Nat) (o : Oper) (st : St) (y : Yd) (K : St → Yd → Prop) : Prop :=
  match o.op with
  | .call c => match c.callee, c.args.toList with
    | .value f, [x] => (st.ev f = .f (.v (.func (.yield l) #[] #[])) ∧ y.stop = false ∧ y.ys.length < N) ∧ ∃ i : Int, st.ev x = .f (.v (.int .i64 i)) ∧ K (st.bare.put o.dst (.f (.v (.bool true)))) ⟨y.ys ++ [i], false⟩ ∧ K (st.only.put o.dst (.f (.v (.bool false)))) ⟨y.ys ++ [i], true⟩
    | _, _ => False
  | _ => False
/-- and from there -/
def tailW (l N : Nat) (ops : Array Oper) (base m : Nat) (st : St) (y : Yd) (K : St → Yd → Prop) : Prop :=
  ob (ops[m]?) fun o => ob (gval ops st o.guard) fun g => gif g
    (yieldW l N o st y fun s y' => opsL P ops base (m + 1) (ops.toList.drop (m + 1)) s fun s => K { s with next := base + ops.size } y')
    (opsL P ops base (m + 1) (ops.toList.drop (m + 1)) (st.put o.dst undefD) fun s => K { s with next := base + ops.size } y)
def iterI (F : St → Yd → (Ex → St → Yd → Prop) → Prop) (b : Nat) : Nat → St → Yd → (Ex → St → Yd → Prop) → Prop
  | 0, _, _, _ => False
  | n + 1, st, y, k => F (st.trim b) y fun e s y => match e with
    | .normal => iterI F b n s y k
    | e => k e s y
def runI (l N : Nat) : Code → St → Yd → (Ex → St → Yd → Prop) → Prop
  | .skip, st, y, k => k .normal st y
  | .region _ ops draw, st, y, k => regionW P ops draw st (fun s => k .normal s y) ∨ ∃ m, headW P ops draw m st fun s => tailW P l N ops st.next m s y fun s y => k .normal s y
  | .seq a b, st, y, k => runI l N a st y fun e s y => match e with
    | .normal => runI l N b s y k
    | e => k e s y
  | .cond c a b, st, y, k => ob (truth (st.ev c)) fun t => gif t (runI l N a st y k) (runI l N b st y k)
  | .block id c, st, y, k => runI l N c st y fun e s y => match e with
    | .exit j => if j = id then k .normal s y else k (.exit j) s y
    | e => k e s y
  | .loop c, st, y, k => ∃ as : List Ad, ∃ n, iterI (runI l N c) (st.adopts as).next n (st.adopts as) y k
  | .exit id, st, y, k => k (.exit id) st y
  | .ret, st, y, k => k .ret st y
  | _, _, _, _ => False
end

/-! ### Regions -/
theorem opsL_part {ops : Array Oper} {base : Nat} {K : St → Prop} : ∀ (l : List Oper) (i : Nat), (∀ j, j < l.length → ops[i + j]? = l[j]?) → ∀ st, opsL P ops base i l st K = opsW P ops base (List.range' i l.length) st K
  | [], i, _, st => rfl
  | o :: r, i, hd, st => by
    have ho : ops[i]? = some o := hd 0 (by simp)
    have ih := opsL_part (base := base) (K := K) r (i + 1) (fun j hj => by
      have := hd (j + 1) (by simpa using hj)
      rw [Nat.add_assoc, Nat.add_comm 1 j]
      simpa using this)
    simp only [opsL, gif, List.length_cons, List.range'_succ, opsW, stepW, ho, ob_some]
    simp only [ih]
theorem list_of_ops {n : Nat} {ops : Array Oper} {t : List Oper} {Q : Exit → Act → World → Prop} : ∀ (l : List Oper) (i : Nat), (∀ j, j < l.length → ops[i + j]? = l[j]?) → ∀ (a : Act) (w : World), wpOps P ops (TailQ n P ops Q t) (List.range' i l.length) a w → wpListIn Fence.wide n P ops Q (l ++ t) a w
  | [], i, _, a, w, h => h
  | o :: r, i, hd, a, w, h => by
    have ho : ops[i]? = some o := hd 0 (by simp)
    have ih := list_of_ops (n := n) (t := t) (Q := Q) r (i + 1) (fun j hj => by
      have := hd (j + 1) (by simpa using hj)
      rw [Nat.add_assoc, Nat.add_comm 1 j]
      simpa using this)
    simp only [List.length_cons, List.range'_succ, wpOps, ho] at h
    simp only [List.cons_append, wpListIn]
    split
    · rename_i hw
      rw [if_pos hw] at h
      rcases h with h | ⟨-, h⟩
      · exact Oper.wpIn_mono ih (wpIn_wide_of_wp tailQ_lets (fun _ _ _ h => h.elim) h)
      · exact absurd h tailQ_lets
    · rename_i hw
      rw [if_neg hw] at h
      exact ⟨fun _ _ => trivial, ih _ _ h⟩

theorem head_sound {w0 : World} {WS0 : Nat → Nat → Prop} {ops : Array Oper} {draw : Bool} {m n id : Nat} {c : Cx} {a : Act} {st : St} {K : St → Prop} {Q : Exit → Act → World → Prop} (h : headW P ops draw m st K) (hI : Inv w0 WS0 c a st)
    (hk : ∀ c' a' st', K st' → InvF c' a' st' → InvM w0 WS0 c' st'.mem → st'.n = st.n → (∀ id, st.next + m ≤ id → Fresh c' st'.mem id) → wpListIn Fence.wide n P ops Q (ops.toList.drop m) a' c'.x.W) : (Code.region id ops draw).wpIn Fence.wide n P Q a c.x.W := by
  have hlen : (ops.toList.take m).length ≤ m := by simp; omega
  cases draw with
  | true =>
    unfold headW at h
    rw [if_pos rfl] at h
    obtain ⟨A, ⟨hA, hmix⟩, ⟨h1, h2, h3⟩, h⟩ := h
    have e : ops = (ops.toList.take m ++ ops.toList.drop m).toArray := by rw [List.take_append_drop]
    have key := draw_any (Q := TailQ n P (ops.toList.take m ++ ops.toList.drop m).toArray Q (ops.toList.drop m)) hA h hI (fun c' a' st' k1 k2 k3 k4 k5 k6 => by
      have := hk c' a' st' k1 k2 k3 k4 (fun id hid => k6 id (by omega))
      rw [← e]; exact this)
    have h2 := wpAny_tailP (n := n) (Q := Q) h1 h2 h3 _ _ a _ (by simp) (fun j oj hj hv => by
      exfalso
      have hlt := (List.getElem?_eq_some_iff.1 hj).1
      simp only [List.size_toArray, Array.getD_eq_getD_getElem?, Array.getElem?_replicate] at hv
      split at hv <;> simp at hv) key
    refine wpIn_region_any hmix ?_
    rw [← e] at h2
    have e2 : (ops.toList.take m).toArray.size + (ops.toList.drop m).length = ops.size := by simp; omega
    rw [e2] at h2
    have e3 : Array.replicate (ops.toList.take m).toArray.size false ++ Array.replicate (ops.toList.drop m).length false = Array.replicate ops.size false := by
      rw [Array.replicate_append_replicate, e2]
    rw [e3] at h2
    exact h2
  | false =>
    unfold headW at h
    rw [if_neg (by simp)] at h
    refine wpIn_region_list ?_
    have hp : ∀ j, j < (ops.toList.take m).length → ops[0 + j]? = (ops.toList.take m)[j]? := fun j hj => by
      rw [Nat.zero_add, List.getElem?_take, if_pos (by omega)]
      simp
    rw [opsL_part _ 0 hp] at h
    have key := ops_sound (Q := TailQ n P ops Q (ops.toList.drop m)) _ c a st h hI.F hI.M (fun i _ => hI.N _ (by omega)) List.nodup_range' (fun c' a' st' k1 k2 k3 k4 k5 k6 => hk c' a' st' k1 k2 k3 k4 fun id hid => k6 id (fun i hi => by
      have := List.mem_range'.1 hi
      obtain ⟨q, hq, rfl⟩ := this
      omega) (hI.N _ (by omega)))
    have := list_of_ops _ 0 hp a _ key
    rwa [List.take_append_drop] at this

/-! ### Who asks for the numbers -/
/-- what the other side promises of a round: what it may not write stays, and may not be written then -/
def KpO (own : World → Nat → Prop) (G : World → Prop) (A B : World) : Prop := G A → G B ∧ Sub ⟨fun b _ => own A b, A⟩ ⟨fun b _ => own B b, B⟩ ∧ A.heap.size ≤ B.heap.size
structure Own1 (own : World → Nat → Prop) (G : World → Prop) : Prop where
  bnd : ∀ W, G W → ∀ b, own W b → b < W.heap.size
  stab : ∀ W W', G W → Chg No W W' → G W' ∧ ∀ b, own W' b ↔ own W b
structure Amb (P : Program) (n l N B : Nat) (J Jx : List Int → World → Prop) (own : World → Nat → Prop) (G : World → Prop) : Prop extends Own1 own G where
  aJ : AbidesFrom B J
  aJx : AbidesFrom B Jx
  yld : ∀ pre x W1, J pre W1 → pre.length < N → YieldAt Fence.wide (n - 1) P l #[.int .i64 x] W1 fun e W' =>
      (e = .returned (.bool true) ∧ J (pre ++ [x]) W' ∧ KpO own G W1 W') ∨ (e = .returned (.bool false) ∧ Jx (pre ++ [x]) W')
def YR (J Jx : List Int → World → Prop) (own : World → Nat → Prop) (G : World → Prop) (y : Yd) (w0 : World) (WS0 : Nat → Nat → Prop) : Prop :=
  if y.stop then Jx y.ys w0 else (J y.ys w0 ∧ G w0 ∧ ∀ b o, WS0 b o ↔ own w0 b)

theorem grown_of {W W' : World} (h : Chg No W W') : W.grownBy W' none := ⟨h.os, h.tape, h.output, h.size, fun k hk _ => h.block k hk id⟩
theorem abides_no {β : Type} {B : Nat} {J : β → World → Prop} (hJ : AbidesFrom B J) {s : β} {W W' : World} (h : J s W) (hc : Chg No W W') : J s W' :=
  hJ s W W' none h (grown_of hc) (fun r e => by cases e)

def bareC (own : World → Nat → Prop) (W : World) : Cx := ⟨fun _ _ => none, ⟨fun b _ => own W b, W⟩⟩
theorem noM_fresh (x : X) (id : Nat) : Fresh ⟨fun _ _ => none, x⟩ noM id := ⟨rfl, fun _ => rfl⟩
theorem noM_inv {W : World} {WS0 : Nat → Nat → Prop} (h : ∀ b o, WS0 b o → b < W.heap.size) : InvM W WS0 ⟨fun _ _ => none, ⟨WS0, W⟩⟩ noM :=
  ⟨fun id m hm => by simp [noM] at hm, fun id id' m m' b hm => by simp [noM] at hm, Chg.refl _ _, fun b o h => h, h, h, fun g e ver sz xs hm => by simp [noM] at hm⟩
theorem bare_rep {c c' : Cx} (hs : Sub c.x c'.x) {v : Value} {d : D} (h : RepD c v d) : RepD c' v (clean 0 d) := by
  have h1 := RepD.clean (b := 0) h
  refine RepD.mono (c := c.trim 0) ⟨hs, fun id k u hu => ?_⟩ h1
  simp [Cx.trim] at hu
theorem only_rep {c c' : Cx} {v : Value} {d : D} (h : RepD c v d) : RepD c' v (scD d) := by
  cases d with
  | f x =>
    simp only [scD]
    split
    · rename_i hs
      unfold RepD at h ⊢
      exact scalar_any hs h
    · unfold RepD; trivial
  | _ => simp only [scD]; unfold RepD; trivial

variable {n l N B : Nat} {J Jx : List Int → World → Prop} {own : World → Nat → Prop} {G : World → Prop}

theorem yield_sound (hA : Amb P n l N B J Jx own G) {w0 : World} {WS0 : Nat → Nat → Prop} {o : Oper} {c : Cx} {a : Act} {st : St} {y : Yd} {K : St → Yd → Prop} {next : Act → World → Prop} {Q : Exit → Act → World → Prop}
    (h : yieldW l N o st y K) (hF : InvF c a st) (hM : InvM w0 WS0 c st.mem) (hy : YR J Jx own G y w0 WS0)
    (hk : ∀ w0' WS0' c' a' st' y', K st' y' → InvF c' a' st' → InvM w0' WS0' c' st'.mem → (∀ id, Fresh c' st'.mem id) → YR J Jx own G y' w0' WS0' → next a' c'.x.W) : o.wpIn Fence.wide n P a c.x.W next Q := by
  obtain ⟨dst, op, type, pos, after, guard⟩ := o
  cases op with
  | call cl =>
    obtain ⟨callee, args, argTypes⟩ := cl
    simp only [yieldW] at h
    split at h
    · rename_i f x hx
      obtain ⟨⟨hf, hst, hlen⟩, i, hxv, k1, k2⟩ := h
      have hargs : args = #[x] := by apply Array.ext'; simpa using hx
      subst hargs
      have e1 := hF.ev f
      rw [hf] at e1
      have e2 := hF.ev x
      rw [hxv] at e2
      unfold RepD Rep at e1 e2
      unfold YR at hy
      rw [hst, if_neg (by simp)] at hy
      obtain ⟨hJ, hG, hWS⟩ := hy
      have hJ1 := abides_no hA.aJ hJ hM.chg
      obtain ⟨hG1, ho1⟩ := hA.stab _ _ hG hM.chg
      obtain ⟨fn, tmps, assign, body, hrun, hR⟩ := hA.yld y.ys i _ hJ1 hlen
      unfold Oper.wpIn
      refine ⟨fun _ _ => trivial, ?_⟩
      rw [show Fence.wide.round = none from rfl, Oper.semAt_none]
      have hex : (execOp a.eval ⟨dst, .call ⟨.value f, #[x], argTypes⟩, type, pos, after, guard⟩).run P c.x.W = .ok (.round l fn tmps assign body) c.x.W := by
        simp [execOp, resolve, e1, e2, Deferred.ofValue, invoke, hrun]
      rw [hex]
      refine ⟨(fun hx => by cases hx), hR.mono ?_⟩
      rintro e W' (⟨rfl, hJ', hK⟩ | ⟨rfl, hJx⟩)
      · obtain ⟨hG', hsub, hsz⟩ := hK hG1
        have hs : Sub c.x (bareC own W').x := fun b oo u hc hn => by
          refine hsub b oo u hc (fun hb => hn ?_)
          exact hM.ws0 _ _ ((hWS b oo).2 ((ho1 b).1 hb))
        refine hk W' (fun b _ => own W' b) (bareC own W') _ _ ⟨y.ys ++ [i], false⟩ k1 ?_ ?_ ?_ ?_
        · exact InvF.put (st := st.bare) ⟨hF.size, hF.defers, fun t => bare_rep hs (hF.fr t)⟩ rfl rfl (by unfold RepD Rep; rfl) dst
        · rw [(put_mem _ _ _).1]; exact noM_inv fun b _ hb => hA.bnd W' hG' b hb
        · intro id; rw [(put_mem _ _ _).1]; exact noM_fresh _ id
        · unfold YR
          rw [if_neg (by simp)]
          exact ⟨hJ', hG', fun _ _ => Iff.rfl⟩
      · refine hk W' (fun _ _ => False) ⟨fun _ _ => none, ⟨fun _ _ => False, W'⟩⟩ _ _ ⟨y.ys ++ [i], true⟩ k2 ?_ ?_ ?_ ?_
        · exact InvF.put (st := st.only) ⟨hF.size, hF.defers, fun t => only_rep (hF.fr t)⟩ rfl rfl (by unfold RepD Rep; rfl) dst
        · rw [(put_mem _ _ _).1]; exact noM_inv fun b _ hb => hb.elim
        · intro id; rw [(put_mem _ _ _).1]; exact noM_fresh _ id
        · unfold YR
          rw [if_pos rfl]
          exact hJx
    · exact h.elim
  | _ => exact h.elim

theorem region_sound (hA : Amb P n l N B J Jx own G) {w0 : World} {WS0 : Nat → Nat → Prop} {ops : Array Oper} {draw : Bool} {m id : Nat} {c : Cx} {a : Act} {st : St} {y : Yd} {K : St → Yd → Prop} {Q : Exit → Act → World → Prop}
    (h : headW P ops draw m st fun s => tailW P l N ops st.next m s y K) (hI : Inv w0 WS0 c a st) (hy : YR J Jx own G y w0 WS0)
    (hk : ∀ w0' WS0' c' a' st' y', K st' y' → Inv w0' WS0' c' a' st' → YR J Jx own G y' w0' WS0' → Q .normal a' c'.x.W) : (Code.region id ops draw).wpIn Fence.wide n P Q a c.x.W := by
  refine head_sound h hI ?_
  rintro c1 a1 s1 ht hF hM hn hfr
  unfold tailW at ht
  obtain ⟨o, ho, g, hg, ht⟩ := ht
  have hlt : m < ops.size := (Array.getElem?_eq_some_iff.1 ho).1
  have hd : ops.toList.drop m = o :: ops.toList.drop (m + 1) := by
    rw [List.drop_eq_getElem_cons (by simpa using hlt)]
    congr 1
    have := (Array.getElem?_eq_some_iff.1 ho).2
    simpa using this
  have rest : ∀ (w0' : World) (WS0' : Nat → Nat → Prop) (c' : Cx) (a' : Act) (s' : St) (y' : Yd), opsL P ops st.next (m + 1) (ops.toList.drop (m + 1)) s' (fun s => K { s with next := st.next + ops.size } y') → InvF c' a' s' → InvM w0' WS0' c' s'.mem →
      (∀ id, st.next + m < id → Fresh c' s'.mem id) → YR J Jx own G y' w0' WS0' → wpListIn Fence.wide n P ops Q (ops.toList.drop (m + 1)) a' c'.x.W := by
    intro w0' WS0' c' a' s' y' h1 h2 h3 h4 h5
    have hp : ∀ j, j < (ops.toList.drop (m + 1)).length → ops[(m + 1) + j]? = (ops.toList.drop (m + 1))[j]? := fun j hj => by
      rw [List.getElem?_drop]
      simp
    rw [opsL_part _ (m + 1) hp] at h1
    have key := ops_sound (Q := TailQ n P ops Q []) _ c' a' s' h1 h2 h3 (fun i hi => h4 _ (by obtain ⟨q, hq, rfl⟩ := List.mem_range'.1 hi; omega)) List.nodup_range' (fun c'' a'' st'' k1 k2 k3 k4 k5 k6 => hk w0' WS0' c'' a'' _ y' k1 ⟨⟨k2.size, k2.defers, k2.fr⟩, k3, fun id hid => k6 id (fun i hi => by
      obtain ⟨q, hq, rfl⟩ := List.mem_range'.1 hi
      simp at hq hid
      omega) (h4 _ (by simp at hid; omega))⟩ h5)
    have := list_of_ops _ (m + 1) hp a' _ key
    simpa using this
  rw [hd]
  unfold wpListIn
  rw [wanted_of hF hg]
  cases g with
  | true =>
    rw [if_pos rfl]
    unfold gif at ht
    rw [if_pos rfl] at ht
    refine yield_sound hA ht hF hM hy ?_
    intro w0' WS0' c' a' st' y' k1 k2 k3 k4 k5
    exact rest w0' WS0' c' a' st' y' k1 k2 k3 (fun id _ => k4 id) k5
  | false =>
    rw [if_neg (by simp)]
    unfold gif at ht
    rw [if_neg (by simp)] at ht
    refine ⟨fun _ _ => trivial, rest w0 WS0 c1 _ _ y ht ?_ ?_ ?_ hy⟩
    · exact InvF.put (st := s1) hF rfl rfl (by unfold undefD RepD Rep; rfl) _
    · rw [(put_mem _ _ _).1]; exact hM
    · intro id hid; rw [(put_mem _ _ _).1]; exact hfr id (by omega)

theorem runI_sound (hA : Amb P n l N B J Jx own G) : ∀ (cd : Code) (st : St) (y : Yd) (k : Ex → St → Yd → Prop), runI P l N cd st y k → ∀ (w0 : World) (WS0 : Nat → Nat → Prop) (c : Cx) (a : Act), Inv w0 WS0 c a st → YR J Jx own G y w0 WS0 → ∀ (Q : Exit → Act → World → Prop),
    (∀ e w0' WS0' c' a' st' y', k e st' y' → Inv w0' WS0' c' a' st' → YR J Jx own G y' w0' WS0' → Q (exOf e) a' c'.x.W) → cd.wp P Q a c.x.W := by
  intro cd
  induction cd with
  | skip => exact fun st y k h w0 WS0 c a hI hy Q hk => wp_skip (hk .normal _ _ c a st y h hI hy)
  | region id ops draw =>
    intro st y k h w0 WS0 c a hI hy Q hk
    unfold runI at h
    rcases h with h | ⟨m, h⟩
    · refine run_sound (.region id ops draw) st (fun e s => match e with
        | .normal => k .normal s y
        | _ => False) h c a hI Q ?_
      intro e c' a' st' he hI'
      cases e with
      | normal => exact hk .normal _ _ c' a' st' y he hI' hy
      | exit id => exact he.elim
      | ret => exact he.elim
    · refine wpIn_wide.1 (region_sound hA (n := n) h hI hy ?_)
      intro w0' WS0' c' a' st' y' h1 h2 h3
      exact hk .normal _ _ c' a' st' y' h1 h2 h3
  | seq x z ihx ihz =>
    intro st y k h w0 WS0 c a hI hy Q hk
    unfold runI at h
    refine wp_seq (ihx st y _ h w0 WS0 c a hI hy _ ?_)
    intro e w0' WS0' c' a' st' y' he hI' hy'
    cases e with
    | normal => exact ihz st' y' k he w0' WS0' c' a' hI' hy' Q hk
    | exit id => exact hk (.exit id) _ _ c' a' st' y' he hI' hy'
    | ret => exact hk .ret _ _ c' a' st' y' he hI' hy'
  | cond cc x z ihx ihz =>
    intro st y k h w0 WS0 c a hI hy Q hk
    unfold runI at h
    obtain ⟨t, ht, h⟩ := h
    have hc := truth_rep (hI.F.ev cc) ht
    refine wp_cond hc ?_
    cases t with
    | true => exact ihx st y k h w0 WS0 c a hI hy Q hk
    | false => exact ihz st y k h w0 WS0 c a hI hy Q hk
  | block id x ih =>
    intro st y k h w0 WS0 c a hI hy Q hk
    unfold runI at h
    refine wp_block (ih st y _ h w0 WS0 c a hI hy _ ?_)
    intro e w0' WS0' c' a' st' y' he hI' hy'
    cases e with
    | normal => exact hk .normal _ _ c' a' st' y' he hI' hy'
    | exit j =>
      simp only at he
      show (if j = id then Q .normal a' c'.x.W else Q (.exit j) a' c'.x.W)
      split at he
      · rename_i hj; rw [if_pos hj]; exact hk .normal _ _ c' a' st' y' he hI' hy'
      · rename_i hj; rw [if_neg hj]; exact hk (.exit j) _ _ c' a' st' y' he hI' hy'
    | ret => exact hk .ret _ _ c' a' st' y' he hI' hy'
  | loop x ih =>
    intro st0 y0 k h w0 WS0 c0 a hI0 hy0 Q hk
    unfold runI at h
    obtain ⟨as, num, h⟩ := h
    obtain ⟨c, hI, ec⟩ := adopts_sound as c0 a st0 hI0
    rw [← ec]
    revert h hI
    generalize St.adopts as st0 = st
    intro h hI
    intro b kk cs
    generalize st.next = bb at h
    have key : ∀ (num : Nat) (st : St) (y : Yd), iterI (runI P l N x) bb num st y k → ∀ (w0 : World) (WS0 : Nat → Nat → Prop) (c : Cx) (a : Act), Inv w0 WS0 c a st → YR J Jx own G y w0 WS0 →
        ∃ e a' w', Q e a' w' ∧ Arrives P (lone (b.at a (.code x :: .inLoop x :: kk)) cs c.x.W) b kk cs e a' w' := by
      intro num
      induction num with
      | zero => intro st y h; exact h.elim
      | succ num ihn =>
        intro st y h w0 WS0 c a hI hy
        unfold iterI at h
        have hw := ih (st.trim bb) y _ h w0 WS0 (c.trim bb) a (hI.trim bb) hy (Exit.then (fun a' w' => ∃ e a'' w'', Q e a'' w'' ∧ Arrives P (lone (b.at a' (.code x :: .inLoop x :: kk)) cs w') b kk cs e a'' w'') Q) (by
          intro e w0' WS0' c' a' st' y' he hI' hy'
          cases e with
          | normal => exact ihn st' y' he w0' WS0' c' a' hI' hy'
          | exit id => exact hk (.exit id) _ _ c' a' st' y' he hI' hy'
          | ret => exact hk .ret _ _ c' a' st' y' he hI' hy')
        obtain ⟨e, a₁, w₁, hq, harr⟩ := hw b (.inLoop x :: kk) cs
        cases e with
        | normal =>
          obtain ⟨e₂, a₂, w₂, hq₂, harr₂⟩ := hq
          exact ⟨e₂, a₂, w₂, hq₂, .of_steps (Steps.trans harr (.one step_inLoop)) harr₂⟩
        | exit id => exact ⟨_, a₁, w₁, hq, .pass (x := .inLoop x) rfl (fun _ _ => .inl (by simp)) harr⟩
        | goto l => exact ⟨_, a₁, w₁, hq, .pass (x := .inLoop x) rfl (fun _ _ => .inl (by simp)) harr⟩
        | ret => exact ⟨_, a₁, w₁, hq, .pass (x := .inLoop x) rfl (fun _ _ => .inl (by simp)) harr⟩
        | panic ch => exact ⟨_, a₁, w₁, hq, .pass (x := .inLoop x) rfl (fun _ _ => .inl (by simp)) harr⟩
        | outgrown => exact ⟨_, a₁, w₁, hq, .pass (x := .inLoop x) rfl (fun _ _ => .inl (by simp)) harr⟩
    obtain ⟨e, a', w', hq, harr⟩ := key num st y0 h w0 WS0 c a hI hy0
    exact ⟨e, a', w', hq, .of_steps (.one step_loop) harr⟩
  | exit id =>
    intro st y k h w0 WS0 c a hI hy Q hk
    exact wp_exit (hk (.exit id) _ _ c a st y h hI hy)
  | ret =>
    intro st y k h w0 WS0 c a hI hy Q hk
    exact wp_ret (hk .ret _ _ c a st y h hI hy)
  | rangeFunc => intro st y k h; exact h.elim
  | scope => intro st y k h; exact h.elim
  | label => intro st y k h; exact h.elim
  | goto => intro st y k h; exact h.elim
  | refuse => intro st y k h; exact h.elim

/-- AN ITERATOR: whoever asks gets the numbers xs, one by one, as long as he says yes. -/
def IterI (P : Program) (f : FuncId) (caps : List FD) (xs : List Int) : Prop :=
  Goes' P f ∧ ∀ (own : World → Nat → Prop) (G : World → Prop) (n : Nat) (w : World) (vs : List Value), Own1 own G → G w → RepL ⟨fun b _ => own w b, w⟩ vs caps →
    SeqStopsK Fence.wide n P f vs.toArray (fun i : Int => #[.int .i64 i]) (KpO own G) (fun ys => ys = xs) (fun _ => True) xs.length w

theorem enter_inv {x : X} (hws : ∀ b o, x.WS b o → b < x.W.heap.size) {vs : List Value} {ds : List FD} (hr : RepL x vs ds) {k : Nat} (hn : ds.length ≤ k) (lit : Bool) :
    Inv x.W x.WS ⟨fun _ _ => none, x⟩ { tmps := vs.toArray ++ Array.replicate (k - vs.toArray.size) undef, defers := [] } (St.enter k ds lit) := by
  have hl := repL_len hr
  have hF : InvF ⟨fun _ _ => none, x⟩ { tmps := vs.toArray ++ Array.replicate (k - vs.toArray.size) undef, defers := [] } (St.enter k ds lit) := by
    refine ⟨by simp [St.enter]; omega, rfl, fun t => ?_⟩
    simp only [St.enter, entF]
    split
    · rename_i d' hd'
      have ht : t < ds.length := (List.getElem?_eq_some_iff.1 hd').1
      obtain ⟨u, hu, hru⟩ := repL_get hr hd'
      have e : (vs.toArray ++ Array.replicate (k - vs.toArray.size) undef).getD t undef = u := by
        rw [Array.getD_eq_getD_getElem?, Array.getElem?_append_left (by simp; omega)]
        simp [hu]
      rw [e]
      unfold RepD
      exact hru
    · rename_i hd'
      have ht : ds.length ≤ t := List.getElem?_eq_none_iff.1 hd'
      have e : (vs.toArray ++ Array.replicate (k - vs.toArray.size) undef).getD t undef = undef := by
        rw [Array.getD_eq_getD_getElem?, Array.getElem?_append_right (by simp; omega)]
        simp only [Array.getElem?_replicate]
        split <;> rfl
      rw [e]
      unfold RepD Rep
      rfl
  exact ⟨hF, ⟨fun id m hm => by simp [St.enter, noM] at hm, fun id id' m m' b hm => by simp [St.enter, noM] at hm, Chg.refl _ _, fun b o h => h, hws, hws, fun g e ver sz xs hm => by simp [St.enter, noM] at hm⟩, fun id _ => ⟨rfl, fun v => rfl⟩⟩

theorem IterI.of_run {f : FuncId} {fn : Func} {cd : Code} {caps : List FD} {xs : List Int} {k : Nat} {lit : Bool} (hf : P.funcs[f]? = some fn) (hb : fn.body = some cd) (hname : (fn.name == "runtime.NumGoroutine") = false) (hnt : fn.ntmps = k) (hrs : fn.results.toList = []) (hn : caps.length + 1 ≤ k)
    (h : ∀ l, runI P l xs.length cd (St.enter k (.v (.func (.yield l) #[] #[]) :: caps) lit) ⟨[], false⟩ fun e _ y => e.fin = true ∧ (y.stop = false → y.ys = xs)) : IterI P f caps xs := by
  subst hnt
  refine ⟨goes_of hf hname hb, fun own G n w vs hO hG hr => ?_⟩
  intro l J Jx W hW hJ hJx hY h0
  have hcW : Chg No w W := Chg.of_below hW
  obtain ⟨hGW, hoW⟩ := hO.stab _ _ hG hcW
  have hA : Amb P n l xs.length W.heap.size J Jx own G := ⟨hO, hJ, hJx, hY⟩
  have hr' : RepL (bareC own W).x (.func (.yield l) #[] #[] :: vs) (.v (.func (.yield l) #[] #[]) :: caps) := by
    unfold RepL
    refine ⟨_, _, rfl, by unfold Rep; rfl, RepL.mono ?_ hr⟩
    intro b o u hc hno
    exact ⟨hcW.cell hc id, fun hb => hno ((hoW b).1 hb)⟩
  refine callsIn_wide.2 (calls_of_wp hf hb ?_)
  have e : #[Value.func (.yield l) #[] #[]] ++ vs.toArray = (Value.func (.yield l) #[] #[] :: vs).toArray := by apply Array.ext'; simp
  rw [e]
  have hI := enter_inv (x := (bareC own W).x) (fun b _ hb => hO.bnd W hGW b hb) hr' (k := fn.ntmps) (by simpa using hn) lit
  refine runI_sound hA cd _ _ _ (h l) W _ (bareC own W) _ hI ?_ _ ?_
  · unfold YR
    rw [if_neg (by simp)]
    exact ⟨h0, hGW, fun _ _ => Iff.rfl⟩
  · rintro e w0 WS0 c a st y ⟨hfin, hxs⟩ hI' hy
    have hrun : (results fn a.tmps).run P c.x.W = .ok (.tuple #[]) c.x.W := by
      have : fn.results = #[] := by apply Array.ext'; simpa using hrs
      simp [results, this]
    have main : (∃ ys, ys = xs ∧ J ys c.x.W) ∨ ∃ pre, True ∧ Jx pre c.x.W := by
      unfold YR at hy
      split at hy
      · exact .inr ⟨y.ys, trivial, abides_no hJx hy hI'.M.chg⟩
      · rename_i hs
        exact .inl ⟨y.ys, hxs (by simpa using hs), abides_no hJ hy.1 hI'.M.chg⟩
    cases e with
    | normal => exact ⟨hI'.F.defers, _, hrun, ⟨_, rfl⟩, main⟩
    | ret => exact ⟨hI'.F.defers, _, hrun, ⟨_, rfl⟩, main⟩
    | exit id => simp [Ex.fin] at hfin
end Go.Dn
end
section
namespace Go.Dn
open Go.RowKit Go.Dk

section
variable {P : Program} {l N : Nat}
theorem yieldW_mono {o : Oper} {st : St} {y : Yd} {K K' : St → Yd → Prop} (h : yieldW l N o st y K) (hk : ∀ s y, K s y → K' s y) : yieldW l N o st y K' := by
  obtain ⟨dst, op, type, pos, after, guard⟩ := o
  cases op with
  | call cl =>
    obtain ⟨callee, args, argTypes⟩ := cl
    simp only [yieldW] at h ⊢
    split at h
    · rename_i f x hx
      obtain ⟨h1, i, h2, h3, h4⟩ := h
      exact ⟨h1, i, h2, hk _ _ h3, hk _ _ h4⟩
    · exact h.elim
  | _ => exact h.elim
theorem tailW_mono {ops : Array Oper} {base m : Nat} {st : St} {y : Yd} {K K' : St → Yd → Prop} (h : tailW P l N ops base m st y K) (hk : ∀ s y, K s y → K' s y) : tailW P l N ops base m st y K' :=
  ob_mono h fun _ h => ob_mono h fun _ h => gif_mono h (fun h => yieldW_mono h fun _ _ h => opsL_mono (fun _ h => hk _ _ h) _ _ _ h) (fun h => opsL_mono (fun _ h => hk _ _ h) _ _ _ h)
theorem headW_mono {ops : Array Oper} {draw : Bool} {m : Nat} {st : St} {K K' : St → Prop} (h : headW P ops draw m st K) (hk : ∀ s, K s → K' s) : headW P ops draw m st K' := by
  unfold headW at h ⊢
  split at h
  · rename_i hd
    rw [if_pos hd]
    obtain ⟨A, h1, h2, h3⟩ := h
    exact ⟨A, h1, h2, opsD_mono hk _ _ _ h3⟩
  · rename_i hd
    rw [if_neg hd]
    exact opsL_mono hk _ _ _ h
theorem regionW_mono {ops : Array Oper} {draw : Bool} {st : St} {K K' : St → Prop} (h : regionW P ops draw st K) (hk : ∀ s, K s → K' s) : regionW P ops draw st K' := by
  unfold regionW at h ⊢
  split at h
  · rename_i hd
    rw [if_pos hd]
    obtain ⟨A, h1, h2, h3⟩ := h
    exact ⟨A, h1, h2, opsD_mono (fun _ h => hk _ h) _ _ _ h3⟩
  · rename_i hd
    rw [if_neg hd]
    exact opsL_mono (fun _ h => hk _ h) _ _ _ h
theorem iterI_mono {F : St → Yd → (Ex → St → Yd → Prop) → Prop} {b : Nat} (hF : ∀ st y (k k' : Ex → St → Yd → Prop), (∀ e s y, k e s y → k' e s y) → F st y k → F st y k') {k k' : Ex → St → Yd → Prop} (hk : ∀ e s y, k e s y → k' e s y) : ∀ (n m : Nat) (st : St) (y : Yd), n ≤ m → iterI F b n st y k → iterI F b m st y k'
  | 0, _, _, _, _, h => h.elim
  | n + 1, 0, _, _, hle, _ => by omega
  | n + 1, m + 1, st, y, hle, h => by
    unfold iterI at h ⊢
    refine hF _ _ _ _ (fun e s y h => ?_) h
    cases e with
    | normal => exact iterI_mono hF hk n m s y (by omega) h
    | exit id => exact hk _ _ _ h
    | ret => exact hk _ _ _ h
theorem runI_mono : ∀ (c : Code) (st : St) (y : Yd) (k k' : Ex → St → Yd → Prop), (∀ e s y, k e s y → k' e s y) → runI P l N c st y k → runI P l N c st y k' := by
  intro c
  induction c with
  | skip => exact fun st y k k' hk h => hk _ _ _ h
  | region id ops draw =>
    intro st y k k' hk h
    unfold runI at h ⊢
    rcases h with h | ⟨m, h⟩
    · exact .inl (regionW_mono h fun _ h => hk _ _ _ h)
    · exact .inr ⟨m, headW_mono h fun _ h => tailW_mono h fun _ _ h => hk _ _ _ h⟩
  | seq x z ihx ihz =>
    intro st y k k' hk h
    unfold runI at h ⊢
    refine ihx _ _ _ _ (fun e s y h => ?_) h
    cases e with
    | normal => exact ihz _ _ _ _ hk h
    | exit id => exact hk _ _ _ h
    | ret => exact hk _ _ _ h
  | cond c x z ihx ihz =>
    intro st y k k' hk h
    unfold runI at h ⊢
    exact ob_mono h fun _ h => gif_mono h (ihx _ _ _ _ hk) (ihz _ _ _ _ hk)
  | block id x ih =>
    intro st y k k' hk h
    unfold runI at h ⊢
    refine ih _ _ _ _ (fun e s y h => ?_) h
    cases e with
    | normal => exact hk _ _ _ h
    | exit j =>
      simp only at h ⊢
      split at h
      · rename_i hj; rw [if_pos hj]; exact hk _ _ _ h
      · rename_i hj; rw [if_neg hj]; exact hk _ _ _ h
    | ret => exact hk _ _ _ h
  | loop x ih =>
    intro st y k k' hk h
    unfold runI at h ⊢
    obtain ⟨as, n, h⟩ := h
    exact ⟨as, n, iterI_mono (fun st y k k' => ih st y k k') hk n n _ _ (Nat.le_refl _) h⟩
  | exit id => exact fun st y k k' hk h => hk _ _ _ h
  | ret => exact fun st y k k' hk h => hk _ _ _ h
  | rangeFunc => exact fun _ _ _ _ _ h => h.elim
  | scope => exact fun _ _ _ _ _ h => h.elim
  | label => exact fun _ _ _ _ _ h => h.elim
  | goto => exact fun _ _ _ _ _ h => h.elim
  | refuse => exact fun _ _ _ _ _ h => h.elim
theorem runI_loop_inv {c : Code} {st : St} {y : Yd} {k : Ex → St → Yd → Prop} (as : List Ad) (b : Nat) (hb : (St.adopts as st).next = b) (I : Nat → St → Yd → Prop) (n0 : Nat) (h0 : I n0 ((St.adopts as st).trim b) y)
    (step : ∀ n s y, s.next = b → I n s y → runI P l N c s y fun e s' y' => match e with
      | .normal => ∃ m, m < n ∧ I m (s'.trim b) y'
      | e => k e s' y') : runI P l N (.loop c) st y k := by
  subst hb
  have key : ∀ n (s : St) (y : Yd), I n (s.trim (St.adopts as st).next) y → iterI (runI P l N c) (St.adopts as st).next (n + 1) s y k := by
    intro n
    induction n using Nat.strongRecOn with
    | _ n ih =>
      intro s y hI
      refine runI_mono c _ _ _ _ (fun e s' y' h => ?_) (step n _ _ rfl hI)
      cases e with
      | normal =>
        obtain ⟨m, hm, h⟩ := h
        exact iterI_mono (fun st y k k' => runI_mono c st y k k') (fun _ _ _ h => h) (m + 1) n s' y' hm (ih m hm s' y' h)
      | exit id => exact h
      | ret => exact h
  exact ⟨as, n0 + 1, key n0 _ _ h0⟩
end

def runIL (P : Program) (l N : Nat) (c : Code) (st : St) (y : Yd) (k : Ex → St → Yd → Prop) (_ : Lk k) : Prop := runI P l N c st y k
def yieldWL (l N : Nat) (o : Oper) (st : St) (y : Yd) (K : St → Yd → Prop) (_ : Lk K) : Prop := yieldW l N o st y K
section
variable {P : Program} {l N : Nat} {st : St} {y : Yd} {k : Ex → St → Yd → Prop} {u : Lk k}
theorem runI_of_runIL {c : Code} (h : runIL P l N c st y k ⟨⟩) : runI P l N c st y k := h
theorem runIL_seq (a b : Code) : runIL P l N (.seq a b) st y k u = runIL P l N a st y (fun e s y => match e with
    | .normal => runIL P l N b s y k ⟨⟩
    | e => k e s y) ⟨⟩ := rfl
theorem runIL_cond (c : Operand) (a b : Code) : runIL P l N (.cond c a b) st y k u = obL (truth (st.ev c)) (fun t => gifL t (runIL P l N a st y k ⟨⟩) (runIL P l N b st y k ⟨⟩) ⟨⟩ ⟨⟩) ⟨⟩ := rfl
theorem runIL_block (id : Nat) (c : Code) : runIL P l N (.block id c) st y k u = runIL P l N c st y (fun e s y => match e with
    | .exit j => if j = id then k .normal s y else k (.exit j) s y
    | e => k e s y) ⟨⟩ := rfl
theorem runIL_exit (id : Nat) : runIL P l N (.exit id) st y k u = k (.exit id) st y := rfl
theorem runIL_ret : runIL P l N .ret st y k u = k .ret st y := rfl
theorem runIL_skip : runIL P l N .skip st y k u = k .normal st y := rfl
/-- a region without yield -/
theorem runIL_reg {id : Nat} {ops : List Oper} (h : opsLL P ops.toArray st.next 0 ops st (fun s => k .normal { s with next := st.next + ops.toArray.size } y) ⟨⟩) : runIL P l N (.region id ops.toArray false) st y k u := .inl h
theorem runIL_loop {c : Code} (as : List Ad) (b : Nat) (hb : (St.adopts as st).next = b) (I : Nat → St → Yd → Prop) (n0 : Nat) (h0 : I n0 ((St.adopts as st).trim b) y)
    (step : ∀ n s y, s.next = b → I n s y → runIL P l N c s y (fun e s' y' => match e with
      | .normal => ∃ m, m < n ∧ I m (s'.trim b) y'
      | e => k e s' y') ⟨⟩) : runIL P l N (.loop c) st y k u := runI_loop_inv as b hb I n0 h0 step
/-- what is behind operation m -/
def restL (P : Program) (l N : Nat) (ops : Array Oper) (base m : Nat) (o : Oper) (tl : List Oper) (K : St → Yd → Prop) (y : Yd) (s : St) : Prop :=
  obL (gval ops s o.guard) (fun g => gifL g
    (yieldWL l N o s y (fun s y' => opsLL P ops base (m + 1) tl s (fun s => K { s with next := base + ops.size } y') ⟨⟩) ⟨⟩)
    (opsLL P ops base (m + 1) tl (s.put o.dst undefD) (fun s => K { s with next := base + ops.size } y) ⟨⟩) ⟨⟩ ⟨⟩) ⟨⟩
theorem drop_cons {α : Type} {ops : List α} {m : Nat} {o : α} {tl : List α} (h : ops.drop m = o :: tl) : ops[m]? = some o ∧ ops.drop (m + 1) = tl := by
  constructor
  · have h1 : (ops.drop m)[0]? = some o := by rw [h]; rfl
    rw [List.getElem?_drop] at h1
    simpa using h1
  · rw [← List.drop_drop, h]; rfl
theorem tail_of {ops : List Oper} {base m : Nat} {o : Oper} {tl : List Oper} (h2 : ops.drop m = o :: tl) {K : St → Yd → Prop} {s : St} (h : restL P l N ops.toArray base m o tl K y s) : tailW P l N ops.toArray base m s y K := by
  obtain ⟨e1, e2⟩ := drop_cons h2
  unfold tailW
  rw [List.getElem?_toArray, e1]
  simp only
  rw [e2]
  exact ⟨o, rfl, h⟩
/-- a region whose operation m is a yield -/
theorem runIL_yreg (m : Nat) {id : Nat} {ops hd tl : List Oper} {o : Oper} (h1 : ops.take m = hd) (h2 : ops.drop m = o :: tl) (h : opsLL P ops.toArray st.next 0 hd st (fun s => restL P l N ops.toArray st.next m o tl (fun s y => k .normal s y) y s) ⟨⟩) : runIL P l N (.region id ops.toArray false) st y k u := by
  refine .inr ⟨m, ?_⟩
  unfold headW
  rw [if_neg (by simp)]
  simp only
  rw [h1]
  exact opsL_mono (fun s hs => tail_of h2 hs) _ _ _ h
theorem runIL_ydraw (m : Nat) (A : List (List Nat)) {id : Nat} {ops hd tl : List Oper} {o : Oper} (h1 : ops.take m = hd) (h2 : ops.drop m = o :: tl) (hm : P.follows .mixedOrders = true) (hA : drawOk hd A = true) (b1 : headB .any hd = true) (b2 : sinksB .any hd (o :: tl) = true) (b3 : chainsB .any hd (o :: tl) = true)
    (h : opsDL P hd A st.next 0 hd st (fun s => restL P l N ops.toArray st.next m o tl (fun s y => k .normal s y) y s) ⟨⟩) : runIL P l N (.region id ops.toArray true) st y k u := by
  refine .inr ⟨m, ?_⟩
  unfold headW
  rw [if_pos rfl]
  simp only
  rw [h1, h2]
  exact ⟨A, ⟨hA, hm⟩, ⟨b1, b2, b3⟩, opsD_mono (fun s hs => tail_of h2 hs) _ _ _ h⟩
theorem runIL_draw (A : List (List Nat)) {id : Nat} {ops : List Oper} (hm : P.follows .mixedOrders = true) (hA : drawOk ops A = true)
    (h : opsDL P ops A st.next 0 ops st (fun s => k .normal { s with next := st.next + ops.toArray.size } y) ⟨⟩) : runIL P l N (.region id ops.toArray true) st y k u := .inl (by
  unfold regionW
  rw [if_pos rfl]
  exact ⟨A, hA, hm, h⟩)
theorem yieldL_mk {n : Nat} {fr : Nat → D} {mem : Nat → Option M} {next : Nat} {lit : Bool} {dst : Option Tmp} {f x : Operand} {ats : Array TypeId} {ty : TypeId} {pos : String} {af : Array Edge} {gd : Option (Nat × Bool)} {ys : List Int} {K : St → Yd → Prop} {v : Lk K} (i : Int)
    (hf : St.ev ⟨n, fr, mem, next, lit⟩ f = .f (.v (.func (.yield l) #[] #[]))) (hx : St.ev ⟨n, fr, mem, next, lit⟩ x = .f (.v (.int .i64 i))) (hn : ys.length < N)
    (h1 : K (St.put ⟨n, fun t => clean 0 (fr t), noM, next, lit⟩ dst (.f (.v (.bool true)))) ⟨ys ++ [i], false⟩) (h2 : K (St.put ⟨n, fun t => scD (fr t), noM, next, lit⟩ dst (.f (.v (.bool false)))) ⟨ys ++ [i], true⟩) :
    yieldWL l N ⟨dst, .call ⟨.value f, #[x], ats⟩, ty, pos, af, gd⟩ ⟨n, fr, mem, next, lit⟩ ⟨ys, false⟩ K v := ⟨⟨hf, rfl, hn⟩, i, hx, h1, h2⟩
end
attribute [go_sem] runIL_seq runIL_cond runIL_block runIL_exit runIL_ret runIL_skip restL scD
end Go.Dn
end
section
namespace Go.Dn
open Go.RowKit Go.Dk

variable {P : Program}
def frzD (mem : Nat → Option M) (d : D) : D := match frz mem 4 d with | some x => .f x | none => .top
/-- all that is the call's own is frozen -/
def St.freeze (st : St) : St := { st with fr := fun t => frzD st.mem (st.fr t), mem := noM }
theorem Inv.freeze {w0 : World} {WS0 : Nat → Nat → Prop} {c : Cx} {a : Act} {st : St} (h : Inv w0 WS0 c a st) : Inv w0 WS0 ⟨fun _ _ => none, c.hold w0⟩ a st.freeze := by
  refine ⟨⟨h.F.size, h.F.defers, fun t => ?_⟩, ⟨fun id m hm => by simp [St.freeze, noM] at hm, fun id id' m m' b hm => by simp [St.freeze, noM] at hm, h.M.chg, fun b o hb => ⟨h.M.ws0 b o hb, h.M.ws1 b o hb⟩, h.M.ws1, fun b o hb => h.M.wsd b o hb.1, fun g e ver sz xs hm => by simp [St.freeze, noM] at hm⟩, fun id _ => noM_fresh _ id⟩
  show RepD _ _ (frzD st.mem (st.fr t))
  unfold frzD
  split
  · rename_i x hx
    have := frz_rep h.M 4 _ _ _ hx (h.F.fr t)
    unfold RepD
    exact this
  · unfold RepD; trivial
/-- run, freezing where it is said -/
def runF (P : Program) : Code → St → (Ex → St → Prop) → Prop
  | .seq a b, st, k => run P a st fun e s => match e with
    | .normal => runF P b s k ∨ runF P b s.freeze k
    | e => k e s
  | c, st, k => run P c st k
theorem runF_sound {w0 : World} {WS0 : Nat → Nat → Prop} : ∀ (cd : Code) (st : St) (k : Ex → St → Prop), runF P cd st k → ∀ (c : Cx) (a : Act), Inv w0 WS0 c a st → ∀ (Q : Exit → Act → World → Prop),
    (∀ e c' a' st', k e st' → Inv w0 WS0 c' a' st' → Q (exOf e) a' c'.x.W) → cd.wp P Q a c.x.W := by
  intro cd
  induction cd with
  | seq x z ihx ihz =>
    intro st k h c a hI Q hk
    unfold runF at h
    refine wp_seq (run_sound x st _ h c a hI _ ?_)
    intro e c' a' st' he hI'
    cases e with
    | normal =>
      rcases he with he | he
      · exact ihz st' k he c' a' hI' Q hk
      · exact ihz st'.freeze k he ⟨fun _ _ => none, c'.hold w0⟩ a' hI'.freeze Q hk
    | exit id => exact hk (.exit id) c' a' st' he hI'
    | ret => exact hk .ret c' a' st' he hI'
  | _ => exact fun st k h c a hI Q hk => run_sound _ st k h c a hI Q hk
theorem Pure.of_runF {f : FuncId} {fn : Func} {cd : Code} {ds : List FD} {d : FD} {n : Nat} {rs : List ResultVar} {lit : Bool} (hf : P.funcs[f]? = some fn) (hb : fn.body = some cd) (hname : (fn.name == "runtime.NumGoroutine") = false) (hnt : fn.ntmps = n) (hrs : fn.results.toList = rs) (hn : ds.length ≤ n)
    (h : runF P cd (St.enter n ds lit) fun e s => e.fin = true ∧ ∃ d', resultD P rs s = some d' ∧ FLe d' d) : Pure P f ds d :=
  Pure.of_sound (lit := lit) hf hb hname hnt hrs hn fun _ _ c a hI Q hk => runF_sound cd _ _ h c a hI Q hk
def runFL (P : Program) (c : Code) (st : St) (k : Ex → St → Prop) (_ : Lk k) : Prop := runF P c st k
theorem runF_of_runFL {c : Code} {st : St} {k : Ex → St → Prop} (h : runFL P c st k ⟨⟩) : runF P c st k := h
/-- on without freezing; with it; the last part -/
theorem runFL_on {a b : Code} {st : St} {k : Ex → St → Prop} {u : Lk k} (h : runL P a st (fun e s => match e with
    | .normal => runFL P b s k ⟨⟩
    | e => k e s) ⟨⟩) : runFL P (.seq a b) st k u := run_mono a _ _ _ (fun e s h => by cases e <;> first | exact .inl h | exact h) h
theorem runFL_frz {a b : Code} {st : St} {k : Ex → St → Prop} {u : Lk k} (h : runL P a st (fun e s => match e with
    | .normal => runFL P b s.freeze k ⟨⟩
    | e => k e s) ⟨⟩) : runFL P (.seq a b) st k u := run_mono a _ _ _ (fun e s h => by cases e <;> first | exact .inr h | exact h) h
theorem runF_of_run : ∀ (c : Code) (st : St) (k : Ex → St → Prop), run P c st k → runF P c st k := by
  intro c
  induction c with
  | seq x z ihx ihz =>
    intro st k h
    unfold run at h
    unfold runF
    refine run_mono x _ _ _ (fun e s h => ?_) h
    cases e with
    | normal => exact .inl (ihz _ _ h)
    | exit id => exact h
    | ret => exact h
  | _ => exact fun st k h => h
theorem runFL_end {c : Code} {st : St} {k : Ex → St → Prop} {u : Lk k} (h : runL P c st k ⟨⟩) : runFL P c st k u := runF_of_run c st k h
theorem freeze_mk (n : Nat) (fr : Nat → D) (mem : Nat → Option M) (next : Nat) (lit : Bool) : St.freeze ⟨n, fr, mem, next, lit⟩ = ⟨n, fun t => frzD mem (fr t), noM, next, lit⟩ := rfl
attribute [go_sem] freeze_mk frzD
end Go.Dn
end
