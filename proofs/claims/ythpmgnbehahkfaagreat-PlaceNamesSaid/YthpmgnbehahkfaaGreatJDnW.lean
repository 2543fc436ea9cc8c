/- Literals that are frozen in the first part of a function, and its own in the second; answers whose row is new. -/
import Derived.Test.YthpmgnbehahkfaaGreatJQd
set_option linter.unusedSimpArgs false
set_option linter.unusedVariables false
namespace Go.Dn
open Go.RowKit Go.Dk

variable {P : Program}
/-- a region (no orders): its first m operations as the state says; literals are the function's own behind that -/
theorem region_switch {w0 : World} {WS0 : Nat → Nat → Prop} {ops : Array Oper} {m id bn : Nat} {c : Cx} {a : Act} {st : St} {K : St → Prop} {Q : Exit → Act → World → Prop} (hm : m ≤ ops.size)
    (h : opsL P ops st.next 0 (ops.toList.take m) st fun s => opsL P ops st.next m (ops.toList.drop m) { s with lit := false } fun s => K { s with next := st.next + ops.size }) (hbn : bn ≤ st.next) (hI : Inv w0 WS0 c a st)
    (hk : ∀ c' a' s, K s → Inv w0 WS0 c' a' s → ExtN bn c c' → bn ≤ s.next → Q .normal a' c'.x.W) : (Code.region id ops false).wp P Q a c.x.W := by
  refine (wpIn_wide (n := 6)).1 (head_sound (draw := false) (by unfold headW; exact h) hI ?_)
  intro c1 a1 s1 h1 hx1 hF hM hn hfr
  have hp : ∀ j, j < (ops.toList.drop m).length → ops[m + j]? = (ops.toList.drop m)[j]? := fun j hj => by
    rw [List.getElem?_drop]
    simp
  rw [opsL_part _ m hp] at h1
  have key := ops_sound (Q := TailQ 6 P ops Q []) _ c1 a1 _ h1 ⟨hF.size, hF.defers, hF.fr⟩ hM (fun i hi => hfr _ (by obtain ⟨q, hq, rfl⟩ := List.mem_range'.1 hi; omega)) List.nodup_range'
    (fun c2 a2 s2 k1 kx k2 k3 k4 k5 k6 => hk c2 a2 _ k1 ⟨⟨k2.size, k2.defers, k2.fr⟩, k3, fun id hid => k6 id (fun i hi => by
      obtain ⟨q, hq, rfl⟩ := List.mem_range'.1 hi
      simp at hq hid
      omega) (hfr _ (by simp at hid; omega))⟩ (hx1.trans kx).n (by show bn ≤ st.next + ops.size; omega))
  have := list_of_ops _ m hp a1 _ key
  simpa using this
theorem callS.of_switch {f : FuncId} {fn : Func} {x y : Code} {id : Nat} {ops : Array Oper} {ds : List D} {mem : Nat → Option M} {next : Nat} {K : D → (Nat → Option M) → Nat → Prop} {n : Nat} {rs : List ResultVar} {B : Nat → List Nat} (m : Nat) (hm : m ≤ ops.size)
    (hf : P.funcs[f]? = some fn) (hb : fn.body = some (.seq x (.seq (.region id ops false) y))) (hname : (fn.name == "runtime.NumGoroutine") = false) (hnt : fn.ntmps = n) (hrs : fn.results.toList = rs) (hn : ds.length ≤ n)
    (h : runC P B x ⟨n, entD ds, mem, next, true⟩ fun e s => match e with
      | .normal => opsL P ops s.next 0 (ops.toList.take m) s fun s1 => opsL P ops s.next m (ops.toList.drop m) { s1 with lit := false } fun s2 => runC P B y { s2 with next := s.next + ops.size } fun e s => e.fin = true ∧ ∃ d, resultS P rs s = some d ∧ K d s.mem s.next
      | _ => False) : callS P f ds mem next K :=
  callS.of_sound (lit := true) hf hb hname hnt hrs hn fun _ _ c a hI Q hk => by
    refine wp_seq (runC_sound x _ _ h next c a (Nat.le_refl _) hI _ ?_)
    intro e c1 a1 s1 h1 hI1 hx1 hb1
    cases e with
    | normal =>
      refine wp_seq (region_switch (m := m) (K := fun s2 => runC P B y s2 fun e s => e.fin = true ∧ ∃ d, resultS P rs s = some d ∧ K d s.mem s.next) hm h1 hb1 hI1 ?_)
      intro c2 a2 s2 h2 hI2 hx2 hb2
      exact runC_sound y _ _ h2 next c2 a2 hb2 hI2 Q fun e c' a' st' he hI' hx hb' => hk e c' a' st' he hI' ((hx1.trans hx2).trans hx) hb'
    | exit => exact h1.elim
    | ret => exact h1.elim
theorem callS.of_switchL {f : FuncId} {fn : Func} {x y : Code} {id : Nat} {ops : Array Oper} {ds : List D} {mem : Nat → Option M} {next : Nat} {K : D → (Nat → Option M) → Nat → Prop} {n : Nat} {rs : List ResultVar} {B : Nat → List Nat} (m : Nat) {hd tl : List Oper}
    (hf : P.funcs[f]? = some fn) (hb : fn.body = some (.seq x (.seq (.region id ops false) y))) (hm : Nat.ble m ops.size = true) (h1 : ops.toList.take m = hd) (h2 : ops.toList.drop m = tl) (hname : (fn.name == "runtime.NumGoroutine") = false) (hnt : fn.ntmps = n) (hrs : fn.results.toList = rs) (hn : ds.length ≤ n)
    (h : runCL P B x ⟨n, entD ds, mem, next, true⟩ (fun e s => match e with
      | .normal => opsLL P ops s.next 0 hd s (fun s1 => opsLL P ops s.next m tl { s1 with lit := false } (fun s2 => runCL P B y { s2 with next := s.next + ops.size } (fun e s => e.fin = true ∧ ∃ d, resultS P rs s = some d ∧ K d s.mem s.next) ⟨⟩) ⟨⟩) ⟨⟩
      | _ => False) ⟨⟩) : callS P f ds mem next K := by
  subst h1 h2
  exact callS.of_switch m (Nat.le_of_ble_eq_true hm) hf hb hname hnt hrs hn h
/-- an answer that is two scalars: a contract of data -/
theorem Pure.of_callS {f : FuncId} {fs : List FD} {u v : Value} (h : callS P f (fs.map .f) noM 0 fun d _ _ => d = .tup [.f (.v u), .f (.v v)]) : Pure P f fs (.tup [.v u, .v v]) := by
  refine ⟨h.1, fun x vs hws hr => ?_⟩
  have hM : InvM x.W x.WS ⟨fun _ _ => none, x⟩ noM := ⟨fun id m hm => by simp [noM] at hm, fun id id' m m' b hm => by simp [noM] at hm, Chg.refl _ _, fun b o h => h, hws, hws, fun g e ver sz xs hm => by simp [noM] at hm⟩
  refine (h.2 x.W x.WS ⟨fun _ _ => none, x⟩ vs (repDL_f hr) hM (fun id _ => ⟨rfl, fun _ => rfl⟩)).mono ?_
  rintro en w' ⟨y, c', d, mem', next', rfl, rfl, rfl, -, -, hM', hv, -⟩
  refine ⟨y, rfl, ?_, hM'.chg⟩
  unfold RepD at hv
  obtain ⟨us, rfl, hv⟩ := hv
  unfold RepDL at hv
  obtain ⟨p, ps, rfl, hp, hv⟩ := hv
  unfold RepDL at hv
  obtain ⟨q, qs, rfl, hq, hv⟩ := hv
  unfold RepDL at hv
  subst hv
  unfold RepD at hp hq
  unfold Rep
  refine ⟨_, rfl, ?_⟩
  unfold RepL
  refine ⟨_, _, rfl, hp, ?_⟩
  unfold RepL
  refine ⟨_, _, rfl, hq, ?_⟩
  unfold RepL
  rfl
/-- A CONTRACT OF A FUNCTION WHOSE ANSWER IS A NEW ROW OF SCALARS, which nobody writes. -/
def PureNew (P : Program) (f : FuncId) (ds : List FD) (sz : Nat) (xs : List (List FD)) : Prop :=
  (Goes' P f ∧ xs.flatten.all isV = true) ∧ ∀ (x : X) (vs : List Value), (∀ b o, x.WS b o → b < x.W.heap.size) → RepL x vs ds →
    Calls P f vs.toArray x.W fun e w' => ∃ v, e = .returned v ∧ Rep ⟨x.WS, w'⟩ v (.sl sz xs) ∧ Chg No x.W w' ∧ ∀ a n c, v = .slice (some a) n c → x.W.heap.size ≤ a.block
theorem repA_new {W : World} {S T : Nat → Nat → Prop} {b : Nat} (hb : ∀ o, ¬ T b o) : ∀ {ds : List FD} {o : Nat}, ds.all isV = true → RepA ⟨S, W⟩ b o ds → RepA ⟨T, W⟩ b o ds
  | [], _, _, _ => by unfold RepA; trivial
  | d :: ds, o, ha, h => by
    rw [List.all_cons, Bool.and_eq_true] at ha
    unfold RepA at h ⊢
    obtain ⟨⟨u, h1, -, h2, h3⟩, h⟩ := h
    refine ⟨⟨u, h1, hb o, h2, ?_⟩, repA_new hb ha.2 h⟩
    cases d with
    | v x => unfold Rep at h3 ⊢; exact h3
    | _ => cases ha.1
theorem rep_new {W : World} {S T : Nat → Nat → Prop} {sz : Nat} {xs : List (List FD)} {v : Value} (ha : xs.flatten.all isV = true) (hb : ∀ a n c, v = .slice (some a) n c → ∀ o, ¬ T a.block o) (h : Rep ⟨S, W⟩ v (.sl sz xs)) : Rep ⟨T, W⟩ v (.sl sz xs) := by
  unfold Rep at h ⊢
  obtain ⟨a, cap, rfl, h1, h2, h3⟩ := h
  refine ⟨a, cap, rfl, h1, h2, fun hne => ?_⟩
  obtain ⟨b, o, rfl, h4⟩ := h3 hne
  exact ⟨b, o, rfl, repR_of (repR_len h4) (repA_new (hb ⟨b, o, none⟩ _ _ rfl) ha (repR_flat h4))⟩
theorem PureNew.pure {f : FuncId} {ds : List FD} {sz : Nat} {xs : List (List FD)} (h : PureNew P f ds sz xs) : Pure P f ds (.sl sz xs) :=
  ⟨h.1.1, fun x vs hw hr => (h.2 x vs hw hr).mono fun _ _ ⟨v, h1, h2, h3, _⟩ => ⟨v, h1, h2, h3⟩⟩
theorem PureNew.of_le {f : FuncId} {as ds : List FD} {sz : Nat} {xs : List (List FD)} (h : PureNew P f ds sz xs) (k : FLeL as ds) : PureNew P f as sz xs :=
  ⟨h.1, fun x vs hw hr => h.2 x vs hw (FLeL.repL hr k)⟩
/-- such a call, of arguments that are one's own -/
theorem callS_new {f : FuncId} {ds : List D} {fs : List FD} {sz : Nat} {xs : List (List FD)} {mem : Nat → Option M} {nx : Nat} {K : D → (Nat → Option M) → Nat → Prop} (hfs : omap (frz mem 4) ds = some fs) (hp : PureNew P f fs sz xs)
    (hk : K (.f (.sl sz xs)) mem nx) : callS P f ds mem nx K := by
  obtain ⟨⟨hgo, hsv⟩, hp⟩ := hp
  refine ⟨hgo, fun w0 WS0 c vs hv hM hfr => ?_⟩
  refine (hp (c.hold w0) vs (fun b o hb => hM.wsd b o hb.1) (omap_repL (fun d y v h1 h2 => frz_rep hM 4 d y v h1 h2) hfs hv)).mono ?_
  rintro en w' ⟨v, rfl, hr, hch, hnew⟩
  have hx : Ext c ⟨c.E, ⟨c.x.WS, w'⟩⟩ := ⟨fun b o u hcc hn => ⟨hch.cell hcc (fun x => x), hn⟩, fun _ _ _ h => h⟩
  refine ⟨v, ⟨c.E, ⟨c.x.WS, w'⟩⟩, .f (.sl sz xs), mem, nx, rfl, rfl, hk, Nat.le_refl _, hx, ?_, ?_, fun id hid => hfr id hid⟩
  · refine ⟨fun i m hi => (hM.mem i m hi).ext hx (fun b hb => hch.block b (owns_lt (hM.mem i m hi) hb).2.1 (fun x => x)) (fun _ _ _ h => h), fun i i' m1 m2 b hi hi' h1 h2 => hM.inj i i' m1 m2 b hi hi' ?_ ?_, hM.chg.trans hch, hM.ws0, hM.ws1, fun b o hb => Nat.lt_of_lt_of_le (hM.wsd b o hb) hch.size, hM.vers⟩
    · cases m1 <;> exact h1
    · cases m2 <;> exact h2
  · unfold RepD
    exact rep_new hsv (fun a n cp e o hw => by
      have h1 := hnew a n cp e
      have h2 := hM.wsd _ _ hw
      have h3 : c.x.W.heap.size ≤ a.block := h1
      omega) hr
end Go.Dn
