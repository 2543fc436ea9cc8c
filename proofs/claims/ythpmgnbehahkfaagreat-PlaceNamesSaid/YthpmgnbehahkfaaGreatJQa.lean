/- What a call may change: words for worlds that part from each other in some blocks alone. -/
/- Data without addresses: what a value says in a world, as long as the cells that it leads to are let alone. -/
/- A function's text, run over data: no addresses, no order, no room. -/
/- What a state of data says of a frame and a world. -/
/- Operations: what they do to data is what they do. -/
/- Rows that grow, and calls. -/
/- One operation. -/
/- Structs and arrays that are alike. -/
/- One operation of data is one operation. -/
/- What an operation looks at, and what it leaves. -/
import Derived.Below
import Derived.Laws.OwnMore
import Derived.Deep.Draws
import Derived.Deep.AppendSrc
import Derived.Tactics2
import Derived.OwnWalk
import Derived.Laws.CopyOwn
import Derived.Deep.QuietTactic
import Derived.Great.BuildSlice
import Derived.Maps.AppendAt
import Derived.Laws.CopyRow
import Derived.Deep.MidRow
import Derived.DeepKeys
import Derived.MapKept
import Derived.Laws.Pointers
set_option linter.unusedSimpArgs false
set_option linter.unusedVariables false
section
namespace Go.Dk
open Go.RowKit

/-- w' is w, but for blocks of S and new ones. -/
structure Chg (S : Nat → Prop) (w w' : World) : Prop where
  os : w'.os = w.os
  tape : w'.tape = w.tape
  output : w'.output = w.output
  size : w.heap.size ≤ w'.heap.size
  block : ∀ k, k < w.heap.size → ¬ S k → w'.heap[k]? = w.heap[k]?

abbrev No : Nat → Prop := fun _ => False

section
variable {S S' : Nat → Prop} {w w' w'' : World}
theorem Chg.refl (S : Nat → Prop) (w : World) : Chg S w w := ⟨rfl, rfl, rfl, Nat.le_refl _, fun _ _ _ => rfl⟩
theorem Chg.trans (h : Chg S w w') (k : Chg S w' w'') : Chg S w w'' :=
  ⟨k.os.trans h.os, k.tape.trans h.tape, k.output.trans h.output, Nat.le_trans h.size k.size, fun i hi hs => (k.block i (Nat.lt_of_lt_of_le hi h.size) hs).trans (h.block i hi hs)⟩
theorem Chg.mono (h : Chg S w w') (hs : ∀ k, k < w.heap.size → S k → S' k) : Chg S' w w' := ⟨h.os, h.tape, h.output, h.size, fun i hi hn => h.block i hi (fun x => hn (hs i hi x))⟩
/-- the second step may change new blocks too -/
theorem Chg.trans' (h : Chg S w w') (k : Chg S' w' w'') (hs : ∀ i, S' i → i < w.heap.size → S i) : Chg S w w'' :=
  ⟨k.os.trans h.os, k.tape.trans h.tape, k.output.trans h.output, Nat.le_trans h.size k.size, fun i hi hn => (k.block i (Nat.lt_of_lt_of_le hi h.size) (fun x => hn (hs i x hi))).trans (h.block i hi hn)⟩
theorem Chg.drew (h : Chg S w w') : Chg S w w'.drew := ⟨h.os, h.tape, h.output, h.size, h.block⟩
theorem Chg.drewN (h : Chg S w w') (n : Nat) : Chg S w (w'.drewN n) := ⟨h.os, h.tape, h.output, h.size, h.block⟩
theorem Chg.alloc (h : Chg S w w') (o : Obj) : Chg S w (w'.alloc o) :=
  h.trans ⟨rfl, rfl, rfl, by simp, fun k hk _ => Below.heap_alloc _ _ _ hk⟩
theorem Chg.setCell (h : Chg S w w') {p : Addr} (hp : p.block < w.heap.size → S p.block) (u : Value) : Chg S w (w'.setCell p u) :=
  ⟨h.os, h.tape, h.output, by simpa [World.setCell] using h.size, fun k hk hn => (Below.heap_setCell _ _ _ _ (fun e => by rw [e] at hk hn; exact hn (hp hk))).trans (h.block k hk hn)⟩
theorem Chg.grown (h : Chg S w w') {row : Option Nat} (hg : w'.grownBy w'' row) (hr : ∀ k, row = some k → k < w.heap.size → S k) : Chg S w w'' :=
  ⟨hg.os.trans h.os, hg.tape.trans h.tape, hg.output.trans h.output, Nat.le_trans h.size hg.size,
    fun k hk hn => (hg.block k (Nat.lt_of_lt_of_le hk h.size) (fun e => hn (hr k e.symm hk))).trans (h.block k hk hn)⟩
theorem Chg.of_below (h : Below w.heap.size w w') : Chg No w w' := ⟨h.os, h.tape, h.output, h.size, fun k hk _ => h.block k hk⟩
theorem Chg.below (h : Chg No w w') : Below w.heap.size w w' := ⟨h.os, h.tape, h.output, h.size, fun k hk => h.block k hk (fun x => x)⟩
/-- nothing below B changes -/
theorem Chg.belowB (h : Chg S w w') {B : Nat} (hB : B ≤ w.heap.size) (hs : ∀ k, S k → B ≤ k) : Below B w w' :=
  ⟨h.os, h.tape, h.output, h.size, fun k hk => h.block k (by omega) (fun x => by have := hs k x; omega)⟩
theorem Chg.heap (h : Chg S w w') {k : Nat} {o : Obj} (hk : w.heap[k]? = some o) (hs : ¬ S k) : w'.heap[k]? = some o :=
  (h.block k (Array.getElem?_eq_some_iff.1 hk).1 hs).trans hk
theorem Chg.cell (h : Chg S w w') {p : Addr} {v : Value} (hc : w.cell? p = some v) (hs : ¬ S p.block) : w'.cell? p = some v :=
  (World.cell?_of_block (h.block p.block (World.block_lt_of_cell? w p hc) hs)).trans hc
theorem Chg.own (h : Chg S w w') {B : Nat} {e : TypeId} {size : Nat} {v : Value} {n : Nat} {xs : List Value} (ho : w.ownsRow B e size v n xs) (hs : ∀ k, v.ownBlock = some k → ¬ S k) : w'.ownsRow B e size v n xs := by
  refine ⟨ho.1, ?_⟩
  rcases ho.2 with hn | ⟨g, cap, cur, rfl, hb, hgg, rest⟩
  · exact .inl hn
  · exact .inr ⟨g, cap, cur, rfl, hb, h.heap hgg (hs g rfl), rest⟩
end
theorem lt_of_heap {w : World} {k : Nat} {o : Obj} (h : w.heap[k]? = some o) : k < w.heap.size := (Array.getElem?_eq_some_iff.1 h).1
theorem cell_of_heap {w : World} {k j : Nat} {cs : Array Value} {t : TypeId} {f : Nat × Nat} {v : Value} (h : w.heap[k]? = some (.cells cs t f)) (hv : cs[j]? = some v) : w.cell? ⟨k, j, none⟩ = some v := by simp [World.cell?, h, hv]
theorem free_of_heap {w : World} {k j : Nat} {cs : Array Value} {t : TypeId} (h : w.heap[k]? = some (.cells cs t (0, 0))) : w.frozen? ⟨k, j, none⟩ = false := by simp [World.frozen?, h]
theorem hset_same {w : World} {k j : Nat} {cs : Array Value} {t : TypeId} {f : Nat × Nat} (h : w.heap[k]? = some (.cells cs t f)) (v : Value) :
    (w.setCell ⟨k, j, none⟩ v).heap[k]? = some (.cells (cs.setIfInBounds j v) t f) := by
  simp [World.setCell, Array.getElem?_modify, h]
theorem hset_other {w : World} {k j g : Nat} {o : Obj} (h : w.heap[k]? = some o) (hne : k ≠ g) (v : Value) : (w.setCell ⟨g, j, none⟩ v).heap[k]? = some o := by
  rw [Below.heap_setCell _ _ _ _ hne]; exact h
theorem heap_alloc_old' {w : World} {k : Nat} {o o' : Obj} (h : w.heap[k]? = some o) : (w.alloc o').heap[k]? = some o := by
  rw [Below.heap_alloc _ _ _ (lt_of_heap h)]; exact h

/-- a slice value that holds the cells xs (size each an element): nil let in. -/
def Rd (w : World) (v : Value) (size n : Nat) (xs : List Value) : Prop :=
  ∃ a c, v = .slice a n c ∧ xs.length = n * size ∧ n ≤ c ∧ (a = none → c = 0) ∧ ∀ ad, a = some ad → ∀ j u, xs[j]? = some u → w.cell? (ad.add j) = some u

theorem ownBlock_some {v : Value} {k : Nat} (h : v.ownBlock = some k) : ∃ a n c, v = .slice (some a) n c ∧ a.block = k := by
  cases v with
  | slice a n c => cases a with
    | none => simp [Value.ownBlock] at h
    | some a => exact ⟨a, n, c, rfl, by simpa [Value.ownBlock] using h⟩
  | _ => simp [Value.ownBlock] at h

section
variable {P : Program} (w : World)
theorem run_append_own_rd (base : Nat) (t ty e : TypeId) (i : TypeInfo) (z : Value) (size bytes : Nat) (ht : P.underlying t = some (.slice e)) (hi : P.info? e = some i) (hz : i.zero = some z)
    (hsize : i.size = size) (hby : i.bytes = bytes) (hzs : z.cells.size = size) (hsz : 0 < size)
    (v : Value) (n : Nat) (xs : List Value) (hown : w.ownsRow base e size v n xs)
    (x : Value) (m : Nat) (news : List Value) (hx : Rd w x size m news) (h1 : ∀ u ∈ news, u.oneCell' = true)
    (h63 : n + m ≤ maxLen) (hbytes : (n + m) * bytes ≤ 140737488355328) (hbase : base ≤ w.heap.size) :
    ∃ v' w', (Builtin.append_ #[t, t] ty #[v, x]).run P w = .ok v' w' ∧ w'.ownsRow base e size v' (n + m) (xs ++ news) ∧ w.grownBy w' v.ownBlock ∧
      (v' = .slice none 0 0 ↔ v = .slice none 0 0 ∧ m = 0) ∧ (∀ k, v'.ownBlock = some k → v.ownBlock = some k ∨ w.heap.size ≤ k) := by
  obtain ⟨a, c, rfl, hl, hc, hn, hcell⟩ := hx
  cases a with
  | none =>
    have hm : m = 0 := by have := hn rfl; omega
    subst hm
    obtain rfl : news = [] := List.eq_nil_of_length_eq_zero (by simpa using hl)
    subst hsize
    rcases hown.2 with ⟨rfl, rfl⟩ | ⟨g, cap, cur, rfl, hbg, hg, hnc, hcm, hcs, htake⟩
    · obtain rfl : xs = [] := List.eq_nil_of_length_eq_zero (by simpa using hown.1)
      refine ⟨.slice none 0 0, w, ?_, World.ownsRow_nil w base e i.size, ⟨rfl, rfl, rfl, Nat.le_refl _, fun _ _ _ => rfl⟩, by simp, fun k hk => .inl hk⟩
      simp [Builtin.append_, run_underlying ht, sizeOf, typeInfo, hi, Builtin.lenOf, Builtin.firstCells]
    · refine ⟨.slice (some ⟨g, 0, none⟩) n cap, w, ?_, by simpa using hown, ⟨rfl, rfl, rfl, Nat.le_refl _, fun _ _ _ => rfl⟩, by simp, fun k hk => .inl hk⟩
      simp [Builtin.append_, run_underlying ht, sizeOf, typeInfo, hi, Builtin.lenOf, Builtin.firstCells, hnc, storeCells]
  | some ad =>
    obtain ⟨v', w', hr, h2, h3, h4⟩ := run_append_own (P := P) w base t ty e i z size bytes ht hi hz hsize hby hzs hsz v n xs hown ad m c news hl (hcell ad rfl) h1 h63 hbytes hbase
    refine ⟨v', w', hr, h2, h3, h4, ?_⟩
    subst hsize; subst hby
    have h63' : ((n + m : Nat) : Int) ≤ 9223372036854775807 := by simp only [maxLen] at h63; omega
    rcases hown.2 with ⟨rfl, rfl⟩ | ⟨g, cap, cur, rfl, hbg, hg, hnc, hcm, hcs, htake⟩
    · by_cases hm : m = 0
      · rw [(h4.2 ⟨rfl, hm⟩)]; intro k hk; simp [Value.ownBlock] at hk
      · simp only [Nat.zero_add] at hbytes h63'
        have e := hr.symm.trans (run_append_nil (P := P) w t ty e i z ht hi hz ad m c news hl (hcell ad rfl) (by omega) h63' (by omega))
        injection e with e1 _
        subst e1
        intro k hk; simp [Value.ownBlock] at hk; omega
    · by_cases hroom : n + m ≤ cap
      · have hfit : n * i.size + news.length ≤ cur.size := by rw [hl, hcs, ← Nat.add_mul]; exact Nat.mul_le_mul_right _ hroom
        have e := hr.symm.trans (run_append_room (P := P) w t ty e i ht hi g n cap cur hg ad m c news hl (hcell ad rfl) h1 hroom hfit)
        injection e with e1 _
        subst e1
        intro k hk; exact .inl hk
      · have holds : ∀ j u, xs[j]? = some u → w.cell? ((⟨g, 0, none⟩ : Addr).add j) = some u := hown.cells (g := g) rfl
        have e := hr.symm.trans (run_append_grow (P := P) w t ty e i z ht hi hz ⟨g, 0, none⟩ n cap xs hown.1 holds ad m c news hl (hcell ad rfl) (by omega) h63' (growslice_fits (by omega) hbytes))
        injection e with e1 _
        subst e1
        intro k hk; simp [Value.ownBlock] at hk; omega

theorem wp_append_rd {o : Oper} {a : Act} {K : Act → World → Prop} {Q : Exit → Act → World → Prop} (s x : Operand) (t : TypeId)
    (ho : o.op = .call { callee := .builtin .append, args := #[s, x], argTypes := #[t, t] })
    (base : Nat) (e : TypeId) (i : TypeInfo) (z : Value) (size bytes : Nat) (ht : P.underlying t = some (.slice e)) (hi : P.info? e = some i) (hz : i.zero = some z)
    (hsize : i.size = size) (hby : i.bytes = bytes) (hzs : z.cells.size = size) (hsz : 0 < size)
    (v : Value) (n : Nat) (xs : List Value) (hs : a.eval s = v) (hown : w.ownsRow base e size v n xs)
    (xv : Value) (m : Nat) (news : List Value) (hxe : a.eval x = xv) (hx : Rd w xv size m news) (h1 : ∀ u ∈ news, u.oneCell' = true)
    (h63 : n + m ≤ maxLen) (hbytes : (n + m) * bytes ≤ 140737488355328) (hbase : base ≤ w.heap.size)
    (h : ∀ v' w', w'.ownsRow base e size v' (n + m) (xs ++ news) → w.grownBy w' v.ownBlock → (v' = .slice none 0 0 ↔ v = .slice none 0 0 ∧ m = 0) → (∀ k, v'.ownBlock = some k → v.ownBlock = some k ∨ w.heap.size ≤ k) → K (a.put o.dst v') w') : o.wp P a w K Q := by
  obtain ⟨v', w', hr, h2, h3, h4, h5⟩ := run_append_own_rd (P := P) w base t o.type e i z size bytes ht hi hz hsize hby hzs hsz v n xs hown xv m news hx h1 h63 hbytes hbase
  unfold Oper.wp execOp
  simp only [ho, resolve, invoke, builtin, Sem.run_bind, Sem.run_pure, Result.andThen_ok, List.map_toArray, List.map_cons, List.map_nil, hs, hxe, hr]
  exact h v' w' h2 h3 h4 h5
theorem wpList_append_rd {ops : Array Oper} {rest : List Oper} {o : Oper} {a : Act} {Q : Exit → Act → World → Prop} (hgd : o.guard = none) (s x : Operand) (t : TypeId)
    (ho : o.op = .call { callee := .builtin .append, args := #[s, x], argTypes := #[t, t] })
    (base : Nat) (e : TypeId) (i : TypeInfo) (z : Value) (size bytes : Nat) (ht : P.underlying t = some (.slice e)) (hi : P.info? e = some i) (hz : i.zero = some z)
    (hsize : i.size = size) (hby : i.bytes = bytes) (hzs : z.cells.size = size) (hsz : 0 < size)
    (v : Value) (n : Nat) (xs : List Value) (hs : a.eval s = v) (hown : w.ownsRow base e size v n xs)
    (xv : Value) (m : Nat) (news : List Value) (hxe : a.eval x = xv) (hx : Rd w xv size m news) (h1 : ∀ u ∈ news, u.oneCell' = true)
    (h63 : n + m ≤ maxLen) (hbytes : (n + m) * bytes ≤ 140737488355328) (hbase : base ≤ w.heap.size)
    (h : ∀ v' w', w'.ownsRow base e size v' (n + m) (xs ++ news) → w.grownBy w' v.ownBlock → (v' = .slice none 0 0 ↔ v = .slice none 0 0 ∧ m = 0) → (∀ k, v'.ownBlock = some k → v.ownBlock = some k ∨ w.heap.size ≤ k) → wpList P ops Q rest (a.put o.dst v') w') : wpList P ops Q (o :: rest) a w :=
  wpList_plain hgd fun _ hK => wp_append_rd w s x t ho base e i z size bytes ht hi hz hsize hby hzs hsz v n xs hs hown xv m news hxe hx h1 h63 hbytes hbase fun v' w' h2 h3 h4 h5 => hK _ _ (h v' w' h2 h3 h4 h5)
end
/-- the same as one step of a region that draws its order -/
theorem step_append_rd {P : Program} {ops : Array Oper} {o : Oper} {a : Act} {w : World} {K : Act → World → Prop} {Q : Exit → Act → World → Prop} {E : Prop} (hgd : o.guard = none) (s x : Operand) (t : TypeId)
    (ho : o.op = .call { callee := .builtin .append, args := #[s, x], argTypes := #[t, t] })
    (base : Nat) (e : TypeId) (i : TypeInfo) (z : Value) (size bytes : Nat) (ht : P.underlying t = some (.slice e)) (hi : P.info? e = some i) (hz : i.zero = some z)
    (hsize : i.size = size) (hby : i.bytes = bytes) (hzs : z.cells.size = size) (hsz : 0 < size)
    (v : Value) (n : Nat) (xs : List Value) (hs : a.eval s = v) (hown : w.ownsRow base e size v n xs)
    (xv : Value) (m : Nat) (news : List Value) (hxe : a.eval x = xv) (hx : Rd w xv size m news) (h1 : ∀ u ∈ news, u.oneCell' = true)
    (h63 : n + m ≤ maxLen) (hbytes : (n + m) * bytes ≤ 140737488355328) (hbase : base ≤ w.heap.size)
    (h : ∀ v' w', w'.ownsRow base e size v' (n + m) (xs ++ news) → w.grownBy w' v.ownBlock → (v' = .slice none 0 0 ↔ v = .slice none 0 0 ∧ m = 0) → (∀ k, v'.ownBlock = some k → v.ownBlock = some k ∨ w.heap.size ≤ k) → K (a.put o.dst v') w') :
    if Region.wanted o (yielded ops a.tmps) = true then Oper.wp P o a w K Q else E := by
  rw [if_pos (by simp [Region.wanted, hgd])]
  exact wp_append_rd w s x t ho base e i z size bytes ht hi hz hsize hby hzs hsz v n xs hs hown xv m news hxe hx h1 h63 hbytes hbase h
theorem Rd.of_own {w : World} {B e : Nat} {size n : Nat} {v : Value} {xs : List Value} (h : w.ownsRow B e size v n xs) : Rd w v size n xs := by
  rcases h.2 with ⟨rfl, rfl⟩ | ⟨g, cap, cur, rfl, hb, hg, hnc, rest⟩
  · exact ⟨none, 0, rfl, h.1, Nat.le_refl _, fun _ => rfl, (fun ad hh => by cases hh)⟩
  · exact ⟨some ⟨g, 0, none⟩, cap, rfl, h.1, hnc, (fun hh => by cases hh), (fun ad hh => by cases hh; exact h.cells (g := g) rfl)⟩
theorem Rd.keep {w w' : World} {v : Value} {size n : Nat} {xs : List Value} (h : Rd w v size n xs) (hk : ∀ p : Addr, v.ownBlock = some p.block → w'.cell? p = w.cell? p) : Rd w' v size n xs := by
  obtain ⟨a, c, rfl, h1, h2, h3, h4⟩ := h
  refine ⟨a, c, rfl, h1, h2, h3, fun ad e j u hu => ?_⟩
  subst e
  rw [hk _ (by simp [Value.ownBlock, Addr.add]; split <;> rfl)]
  exact h4 ad rfl j u hu
theorem Rd.chg {S : Nat → Prop} {w w' : World} {v : Value} {size n : Nat} {xs : List Value} (h : Rd w v size n xs) (hc : Chg S w w') (hs : ∀ k, v.ownBlock = some k → 0 < n → ¬ S k) : Rd w' v size n xs := by
  obtain ⟨a, c, rfl, h1, h2, h3, h4⟩ := h
  refine ⟨a, c, rfl, h1, h2, h3, fun ad e j u hu => ?_⟩
  subst e
  have hn : 0 < n := by
    rcases Nat.eq_zero_or_pos n with h0 | h0
    · subst h0
      rw [List.eq_nil_of_length_eq_zero (show xs.length = 0 by omega)] at hu
      simp at hu
    · exact h0
  exact hc.cell (h4 ad rfl j u hu) (hs _ (by simp [Value.ownBlock, Addr.add]; split <;> rfl) hn)
theorem Rd.lt {w : World} {v : Value} {size n : Nat} {xs : List Value} (h : Rd w v size n xs) (hsz : 0 < size) : ∀ k, v.ownBlock = some k → 0 < n → k < w.heap.size := by
  obtain ⟨a, c, rfl, h1, h2, h3, h4⟩ := h
  intro k hk hn
  cases a with
  | none => simp [Value.ownBlock] at hk
  | some ad =>
    simp [Value.ownBlock] at hk
    subst hk
    have hl : 0 < xs.length := by rw [h1]; exact Nat.mul_pos hn hsz
    have := World.block_lt_of_cell? w _ (h4 ad rfl 0 xs[0] (List.getElem?_eq_getElem hl))
    simpa [Addr.add] using this
/-- what came in stays, whatever is done to new blocks -/
theorem Rd.fr {w w' : World} {v : Value} {size n : Nat} {xs : List Value} (h : Rd w v size n xs) (hsz : 0 < size) (hc : Chg (w.heap.size ≤ ·) w w') : Rd w' v size n xs :=
  h.chg hc fun k hk hn hle => by have := h.lt hsz k hk hn; omega
/-- s[:k] -/
theorem Rd.take {w : World} {a : Option Addr} {size n c k : Nat} {xs : List Value} (h : Rd w (.slice a n c) size n xs) (hk : k ≤ n) : Rd w (.slice a k c) size k (xs.take (k * size)) := by
  obtain ⟨a, c, e, h1, h2, h3, h4⟩ := h
  cases e
  refine ⟨a, c, rfl, ?_, by omega, h3, fun ad e j u hu => h4 ad e j u ?_⟩
  · rw [List.length_take, h1, Nat.min_eq_left (Nat.mul_le_mul_right _ hk)]
  · rw [List.getElem?_take] at hu; split at hu
    · exact hu
    · cases hu

theorem setRow_chg (w : World) (g : Nat) (cs : Array Value) : Chg (· = g) w (w.setRow g cs) :=
  ⟨rfl, rfl, rfl, by simp [World.setRow], fun k _ hk => setRow_other w g k cs hk⟩
/-- copy(dst, src): dst lies in row g from off on -/
theorem wpList_copy_rd {P : Program} {w : World} {ops : Array Oper} {rest : List Oper} {o : Oper} {a : Act} {Q : Exit → Act → World → Prop} (hgd : o.guard = none) (d s : Operand) (dT sT : TypeId)
    (ho : o.op = .call { callee := .builtin .copy, args := #[d, s], argTypes := #[dT, sT] }) (elem : TypeId) (hu : P.underlying dT = some (.slice elem)) (hsz : (P.info? elem).map (·.size) = some 1)
    (dp : Option Addr) (dLen dCap : Nat) (hd : a.eval d = .slice dp dLen dCap) (sv : Value) (hs : a.eval s = sv) (m : Nat) (cs : List Value) (hx : Rd w sv 1 m cs)
    (g off : Nat) (cur : List Value) (t : TypeId) (k : Nat) (hk : k = min m dLen) (hg : 0 < k → w.heap[g]? = some (.cells cur.toArray t (0, 0)))
    (hpos : 0 < k → dp = some ⟨g, off, none⟩) (hfit : 0 < k → off + k ≤ cur.length) (h1 : ∀ v ∈ cs, v.oneCell' = true)
    (h : ∀ w', (0 < k → w'.heap[g]? = some (.cells (splice cur off (cs.take k)).toArray t (0, 0))) → Chg (fun j => 0 < k ∧ j = g) w w' → (k = 0 → w' = w) → wpList P ops Q rest (a.put o.dst (goInt k)) w') :
    wpList P ops Q (o :: rest) a w := by
  obtain ⟨sp, c, rfl, hl, hc, hn, hcell⟩ := hx
  simp only [Nat.mul_one] at hl
  have hlen : (cs.take k).length = k := by rw [List.length_take, hl]; omega
  by_cases h0 : k = 0
  · subst h0
    refine wpList_copy_nothing hgd d s dT sT ho elem hu hsz dp sp dLen dCap m c hd hs (show min m dLen = 0 by omega) ?_
    exact h w (fun h => absurd h (by omega)) (Chg.refl _ _) (fun _ => rfl)
  · obtain rfl := hpos (by omega)
    cases sp with
    | none => have := hn rfl; omega
    | some ad =>
      have hcell' : ∀ j v, (cs.take k)[j]? = some v → w.cell? (ad.add j) = some v := fun j v hj => hcell ad rfl j v (by
        rw [List.getElem?_take] at hj
        split at hj
        · exact hj
        · cases hj)
      have := h (w.setRow g (splice cur off (cs.take k)).toArray) (fun _ => setRow_heap w g _ _ t _ (hg (by omega))) ((setRow_chg _ _ _).mono fun _ _ e => ⟨by omega, e⟩) (fun e => absurd e h0)
      refine wpList_copy_own hgd d s dT sT ho elem hu hsz g off dLen dCap ad m c hd hs cur.toArray t (hg (by omega)) (cs.take k) (show _ = min m dLen by omega) hcell' (by have := hfit (by omega); simp [hlen]; omega) (fun v hv => h1 v (List.mem_of_mem_take hv)) ?_
      rw [hlen]
      simpa [splice, hlen] using this
theorem Rd.mk' {w : World} {a : Option Addr} {size n c : Nat} {xs : List Value} (h1 : xs.length = n * size) (h2 : n ≤ c) (h3 : a = none → c = 0) (h4 : ∀ ad, a = some ad → ∀ j u, xs[j]? = some u → w.cell? (ad.add j) = some u) : Rd w (.slice a n c) size n xs := ⟨a, c, rfl, h1, h2, h3, h4⟩
theorem add0 (g k : Nat) : (⟨g, 0, none⟩ : Addr).add k = ⟨g, k, none⟩ := by unfold Addr.add; split <;> simp_all
theorem add_block (a : Addr) (n : Nat) : (a.add n).block = a.block := by unfold Addr.add; split <;> rfl
/-- blocks of two element types are two blocks -/
theorem ne_of_heap {w : World} {g h : Nat} {c d : Array Value} {s t : TypeId} {f k : Nat × Nat} (hg : w.heap[g]? = some (.cells c s f)) (hh : w.heap[h]? = some (.cells d t k)) (hne : s ≠ t) : g ≠ h := by
  intro e; subst e
  have := hg.symm.trans hh
  injection this with this
  injection this with _ e _
  exact hne e
theorem ownsRow_take {w : World} {B e n c k : Nat} {a : Option Addr} {xs : List Value} (h : w.ownsRow B e 1 (.slice a n c) n xs) (hk : k ≤ n) : w.ownsRow B e 1 (.slice a k c) k (xs.take k) := by
  have hl := h.1
  refine ⟨by rw [List.length_take]; omega, ?_⟩
  rcases h.2 with ⟨h1, h2⟩ | ⟨g, cap, cur, h1, hb, hg, hnc, hcm, hcs, htk⟩
  · injection h1 with ha hn hc
    subst ha; subst hc
    obtain rfl : k = 0 := by omega
    exact .inl ⟨rfl, rfl⟩
  · injection h1 with ha _ hc
    subst ha; subst hc
    refine .inr ⟨g, c, cur, rfl, hb, hg, by omega, hcm, hcs, ?_⟩
    rw [← htk, List.take_take]
    congr 1
    omega
/-- a row stays where another block of another element type is written -/
theorem ownsRow_set {w : World} {B e size n p j : Nat} {v u : Value} {xs : List Value} {cs : Array Value} {t : TypeId} (h : w.ownsRow B e size v n xs) (hp : w.heap[p]? = some (.cells cs t (0, 0))) (hne : t ≠ e) : (w.setCell ⟨p, j, none⟩ u).ownsRow B e size v n xs := by
  refine ((Chg.refl (· = p) w).setCell (p := ⟨p, j, none⟩) (fun _ => rfl) u).own h fun k hk he => ?_
  subst he
  rcases h.2 with ⟨h1, _⟩ | ⟨g, cap, cur, h1, hb, hg, _⟩
  · rw [h1] at hk; simp [Value.ownBlock] at hk
  · rw [h1] at hk; simp [Value.ownBlock] at hk; subst hk
    exact ne_of_heap hp hg hne rfl
theorem ownsRow_cur {w : World} {B e size g n cap : Nat} {xs : List Value} (h : w.ownsRow B e size (.slice (some ⟨g, 0, none⟩) n cap) n xs) :
    ∃ cur : List Value, w.heap[g]? = some (.cells cur.toArray e (0, 0)) ∧ cur.length = cap * size ∧ cur.take (n * size) = xs ∧ B ≤ g ∧ n ≤ cap := by
  rcases h.2 with ⟨h, _⟩ | ⟨g', cap', cur, h, hb, hg, hnc, hcm, hcs, htk⟩
  · cases h
  · injection h with h1 _ h3
    injection h1 with h1; injection h1 with h1; subst h1; subst h3
    exact ⟨cur.toList, by simpa using hg, by simpa using hcs, htk, hb, hnc⟩
/-- back: a row that is known whole -/
theorem ownsRow_mk {w : World} {B e size g n cap : Nat} {cur xs : List Value} (hg : w.heap[g]? = some (.cells cur.toArray e (0, 0))) (hb : B ≤ g) (hn : n ≤ cap) (hm : cap ≤ maxLen) (hc : cur.length = cap * size) (hx : cur.take (n * size) = xs) :
    w.ownsRow B e size (.slice (some ⟨g, 0, none⟩) n cap) n xs :=
  ⟨by rw [← hx, List.length_take, hc, Nat.min_eq_left (Nat.mul_le_mul_right _ hn)], .inr ⟨g, cap, cur.toArray, rfl, hb, hg, hn, hm, by simpa using hc, by simpa using hx⟩⟩
theorem quiet_eq {P : Program} {f : FuncId} {args : Array Value} {w : World} {n : Nat} {v : Value}
    (h : Calls P f args (w.drewN n) fun e w' => e = .returned v ∧ w.drewN n = w') : Calls P f args (w.drewN n) fun e w'' => e = .returned v ∧ ∃ m, w'' = w.drewN m :=
  h.mono fun _ _ ⟨he, hm⟩ => ⟨he, n, hm.symm⟩
theorem Rd.drewN {w : World} {v : Value} {size n : Nat} {xs : List Value} (h : Rd w v size n xs) (k : Nat) : Rd (w.drewN k) v size n xs := h
/-- s[k:] -/
theorem Rd.drop {w : World} {a : Option Addr} {n c k : Nat} {xs : List Value} (h : Rd w (.slice a n c) 1 n xs) (hk : k ≤ n) : Rd w (.slice (if c = k then a else a.map (·.add k)) (n - k) (c - k)) 1 (n - k) (xs.drop k) := by
  obtain ⟨a, c, e, h1, h2, h3, h4⟩ := h
  cases e
  refine ⟨_, _, rfl, by rw [List.length_drop, h1]; omega, by omega, fun e => ?_, fun ad e j u hu => ?_⟩
  · split at e
    · omega
    · cases a with
      | none => have := h3 rfl; omega
      | some a => cases e
  · have hj : k + j < xs.length := by
      rcases Nat.lt_or_ge j (xs.drop k).length with h | h
      · rw [List.length_drop] at h; omega
      · rw [List.getElem?_eq_none h] at hu; cases hu
    rw [if_neg (by omega)] at e
    cases a with
    | none => cases e
    | some a =>
      cases e
      have h5 := h4 a rfl (k + j) u (by rw [← hu, List.getElem?_drop])
      have h6 : (a.add k).add j = a.add (k + j) := by
        unfold Addr.add
        by_cases hi : k = 0 <;> by_cases hj : j = 0 <;> simp [hi, hj, Nat.add_assoc]
      rw [h6]; exact h5
end Go.Dk
end
section
namespace Go.Dn
open Go.RowKit Go.Dk

/-- frozen data -/
inductive FD where
  | v (x : Value)
  | agg (cs : List FD)
  | tup (cs : List FD)
  | sl (sz : Nat) (xs : List (List FD))
  | ref (cs : List FD)
  | fn (f : FuncId) (caps : List FD)

/-- a world, and what may be written in it -/
structure X where
  WS : Nat → Nat → Prop
  W : World

mutual
def Rep (x : X) (val : Value) : FD → Prop
  | .v u => val = u
  | .agg cs => ∃ vs : List Value, val = .agg vs.toArray ∧ RepC x vs cs
  | .tup cs => ∃ vs : List Value, val = .tuple vs.toArray ∧ RepL x vs cs
  | .sl sz xs => ∃ a cap, val = .slice a xs.length cap ∧ (xs.length ≤ cap ∧ cap ≤ maxLen) ∧ (a = none → cap = 0) ∧ (xs ≠ [] → ∃ b o, a = some ⟨b, o, none⟩ ∧ RepR x b o sz xs)
  | .ref cs => ∃ b o, val = .pointer (some ⟨b, o, none⟩) ∧ RepA x b o cs
  | .fn f caps => ∃ vs : List Value, val = .func (.func f) #[] vs.toArray ∧ RepL x vs caps
/-- values, one by one -/
def RepL (x : X) (vs : List Value) : List FD → Prop
  | [] => vs = []
  | d :: ds => ∃ u us, vs = u :: us ∧ Rep x u d ∧ RepL x us ds
/-- cells, one by one -/
def RepC (x : X) (vs : List Value) : List FD → Prop
  | [] => vs = []
  | d :: ds => ∃ u us, vs = u :: us ∧ u.oneCell' = true ∧ Rep x u d ∧ RepC x us ds
/-- cells at an address -/
def RepA (x : X) (b o : Nat) : List FD → Prop
  | [] => True
  | d :: ds => (∃ u, x.W.cell? ⟨b, o, none⟩ = some u ∧ ¬ x.WS b o ∧ u.oneCell' = true ∧ Rep x u d) ∧ RepA x b (o + 1) ds
/-- rows of cells at an address -/
def RepR (x : X) (b o sz : Nat) : List (List FD) → Prop
  | [] => True
  | ds :: r => ds.length = sz ∧ RepA x b o ds ∧ RepR x b (o + sz) sz r
end

/-- all that may not be written in x lies in y as it lay, and may not be written there -/
def Sub (x y : X) : Prop := ∀ b o u, x.W.cell? ⟨b, o, none⟩ = some u → ¬ x.WS b o → y.W.cell? ⟨b, o, none⟩ = some u ∧ ¬ y.WS b o
theorem Sub.refl (x : X) : Sub x x := fun _ _ _ h n => ⟨h, n⟩
theorem Sub.trans {x y z : X} (h : Sub x y) (k : Sub y z) : Sub x z := fun b o u hc hn => let ⟨h1, h2⟩ := h b o u hc hn; k b o u h1 h2

mutual
theorem Rep.mono {x y : X} (h : Sub x y) {val : Value} : ∀ {d : FD}, Rep x val d → Rep y val d
  | .v _, hr => hr
  | .agg cs, hr => by
    unfold Rep at hr ⊢
    obtain ⟨vs, e, hr⟩ := hr
    exact ⟨vs, e, RepC.mono h hr⟩
  | .tup cs, hr => by
    unfold Rep at hr ⊢
    obtain ⟨vs, e, hr⟩ := hr
    exact ⟨vs, e, RepL.mono h hr⟩
  | .sl sz xs, hr => by
    unfold Rep at hr ⊢
    obtain ⟨a, cap, e, hl, hn, hr⟩ := hr
    exact ⟨a, cap, e, hl, hn, fun hx => let ⟨b, o, e2, hr⟩ := hr hx; ⟨b, o, e2, RepR.mono h hr⟩⟩
  | .ref cs, hr => by
    unfold Rep at hr ⊢
    obtain ⟨b, o, e, hr⟩ := hr
    exact ⟨b, o, e, RepA.mono h hr⟩
  | .fn f caps, hr => by
    unfold Rep at hr ⊢
    obtain ⟨vs, e, hr⟩ := hr
    exact ⟨vs, e, RepL.mono h hr⟩
theorem RepL.mono {x y : X} (h : Sub x y) {vs : List Value} : ∀ {ds : List FD}, RepL x vs ds → RepL y vs ds
  | [], hr => hr
  | d :: ds, hr => by
    unfold RepL at hr ⊢
    obtain ⟨u, us, e, h1, h2⟩ := hr
    exact ⟨u, us, e, Rep.mono h h1, RepL.mono h h2⟩
theorem RepC.mono {x y : X} (h : Sub x y) {vs : List Value} : ∀ {ds : List FD}, RepC x vs ds → RepC y vs ds
  | [], hr => hr
  | d :: ds, hr => by
    unfold RepC at hr ⊢
    obtain ⟨u, us, e, h0, h1, h2⟩ := hr
    exact ⟨u, us, e, h0, Rep.mono h h1, RepC.mono h h2⟩
theorem RepA.mono {x y : X} (h : Sub x y) {b o : Nat} : ∀ {ds : List FD}, RepA x b o ds → RepA y b o ds
  | [], _ => by unfold RepA; trivial
  | d :: ds, hr => by
    unfold RepA at hr ⊢
    obtain ⟨⟨u, hc, hn, h0, h1⟩, h2⟩ := hr
    obtain ⟨k1, k2⟩ := h _ _ _ hc hn
    exact ⟨⟨u, k1, k2, h0, Rep.mono h h1⟩, RepA.mono h h2⟩
theorem RepR.mono {x y : X} (h : Sub x y) {b o sz : Nat} : ∀ {xs : List (List FD)}, RepR x b o sz xs → RepR y b o sz xs
  | [], _ => by unfold RepR; trivial
  | ds :: r, hr => by
    unfold RepR at hr ⊢
    obtain ⟨h0, h1, h2⟩ := hr
    exact ⟨h0, RepA.mono h h1, RepR.mono h h2⟩
end

theorem repC_len {x : X} : ∀ {ds : List FD} {vs : List Value}, RepC x vs ds → vs.length = ds.length
  | [], vs, h => by unfold RepC at h; subst h; rfl
  | d :: ds, vs, h => by
    unfold RepC at h
    obtain ⟨u, us, rfl, -, -, h2⟩ := h
    simp [repC_len h2]
theorem repL_len {x : X} : ∀ {ds : List FD} {vs : List Value}, RepL x vs ds → vs.length = ds.length
  | [], vs, h => by unfold RepL at h; subst h; rfl
  | d :: ds, vs, h => by
    unfold RepL at h
    obtain ⟨u, us, rfl, -, h2⟩ := h
    simp [repL_len h2]
theorem repC_one {x : X} : ∀ {ds : List FD} {vs : List Value}, RepC x vs ds → ∀ u ∈ vs, u.oneCell' = true
  | [], vs, h => by unfold RepC at h; subst h; simp
  | d :: ds, vs, h => by
    unfold RepC at h
    obtain ⟨u, us, rfl, h0, -, h2⟩ := h
    intro z hz
    rcases List.mem_cons.1 hz with rfl | hz
    · exact h0
    · exact repC_one h2 z hz
theorem repC_get {x : X} : ∀ {ds : List FD} {vs : List Value}, RepC x vs ds → ∀ {j : Nat} {d : FD}, ds[j]? = some d → ∃ u, vs[j]? = some u ∧ u.oneCell' = true ∧ Rep x u d
  | [], vs, _, j, d, hj => by simp at hj
  | d :: ds, vs, h, j, d', hj => by
    unfold RepC at h
    obtain ⟨u, us, rfl, h0, h1, h2⟩ := h
    cases j with
    | zero => simp at hj; subst hj; exact ⟨u, rfl, h0, h1⟩
    | succ j => simpa using repC_get h2 (by simpa using hj)
theorem repC_drop {x : X} : ∀ {ds : List FD} {vs : List Value}, RepC x vs ds → ∀ n, RepC x (vs.drop n) (ds.drop n)
  | _, _, h, 0 => h
  | [], vs, h, n + 1 => by unfold RepC at h; subst h; simp [RepC]
  | d :: ds, vs, h, n + 1 => by
    unfold RepC at h
    obtain ⟨u, us, rfl, -, -, h2⟩ := h
    simpa using repC_drop h2 n
theorem repC_take {x : X} : ∀ {ds : List FD} {vs : List Value}, RepC x vs ds → ∀ n, RepC x (vs.take n) (ds.take n)
  | _, _, h, 0 => by simp [RepC]
  | [], vs, h, n + 1 => by unfold RepC at h; subst h; simp [RepC]
  | d :: ds, vs, h, n + 1 => by
    unfold RepC at h
    obtain ⟨u, us, rfl, h0, h1, h2⟩ := h
    simp only [List.take_succ_cons]
    unfold RepC
    exact ⟨u, _, rfl, h0, h1, repC_take h2 n⟩
theorem repC_append {x : X} : ∀ {ds : List FD} {vs : List Value} {es : List FD} {us : List Value}, RepC x vs ds → RepC x us es → RepC x (vs ++ us) (ds ++ es)
  | [], vs, es, us, h, k => by unfold RepC at h; subst h; simpa using k
  | d :: ds, vs, es, us, h, k => by
    unfold RepC at h
    obtain ⟨u, us', rfl, h0, h1, h2⟩ := h
    simp only [List.cons_append]
    unfold RepC
    exact ⟨u, _, rfl, h0, h1, repC_append h2 k⟩
theorem repA_drop {x : X} {b : Nat} : ∀ {ds : List FD} {o : Nat}, RepA x b o ds → ∀ n, RepA x b (o + n) (ds.drop n)
  | _, _, h, 0 => h
  | [], o, h, n + 1 => by simp [RepA]
  | d :: ds, o, h, n + 1 => by
    unfold RepA at h
    have := repA_drop h.2 n
    rw [Nat.add_assoc, Nat.add_comm 1 n] at this
    simpa using this
theorem repA_take {x : X} {b : Nat} : ∀ {ds : List FD} {o : Nat}, RepA x b o ds → ∀ n, RepA x b o (ds.take n)
  | _, _, h, 0 => by simp [RepA]
  | [], o, h, n + 1 => by simp [RepA]
  | d :: ds, o, h, n + 1 => by
    unfold RepA at h
    simp only [List.take_succ_cons]
    unfold RepA
    exact ⟨h.1, repA_take h.2 n⟩
/-- the cells that lie at an address -/
theorem repA_cells {x : X} {b : Nat} : ∀ {ds : List FD} {o : Nat}, RepA x b o ds → ∃ vs : List Value, RepC x vs ds ∧ ∀ j u, vs[j]? = some u → x.W.cell? ⟨b, o + j, none⟩ = some u
  | [], o, _ => ⟨[], by simp [RepC], fun j u h => by simp at h⟩
  | d :: ds, o, h => by
    unfold RepA at h
    obtain ⟨⟨u, hc, hn, h0, h1⟩, h2⟩ := h
    obtain ⟨vs, k1, k2⟩ := repA_cells h2
    refine ⟨u :: vs, by unfold RepC; exact ⟨u, vs, rfl, h0, h1, k1⟩, fun j z hz => ?_⟩
    cases j with
    | zero => simp at hz; subst hz; exact hc
    | succ j =>
      have := k2 j z (by simpa using hz)
      rw [Nat.add_assoc, Nat.add_comm 1 j] at this
      exact this
/-- and back: cells that lie there and may not be written -/
theorem repA_of {x : X} {b : Nat} : ∀ {ds : List FD} {vs : List Value} {o : Nat}, RepC x vs ds → (∀ j u, vs[j]? = some u → x.W.cell? ⟨b, o + j, none⟩ = some u ∧ ¬ x.WS b (o + j)) → RepA x b o ds
  | [], vs, o, _, _ => by unfold RepA; trivial
  | d :: ds, vs, o, h, hc => by
    unfold RepC at h
    obtain ⟨u, us, rfl, h0, h1, h2⟩ := h
    unfold RepA
    obtain ⟨c1, c2⟩ := hc 0 u rfl
    exact ⟨⟨u, c1, c2, h0, h1⟩, repA_of h2 fun j z hz => by
      have := hc (j + 1) z (by simpa using hz)
      rw [← Nat.add_assoc, Nat.add_right_comm] at this
      exact this⟩
theorem repR_get {x : X} {b sz : Nat} : ∀ {xs : List (List FD)} {o : Nat}, RepR x b o sz xs → ∀ {i : Nat} {ds : List FD}, xs[i]? = some ds → ds.length = sz ∧ RepA x b (o + i * sz) ds
  | [], o, _, i, ds, hi => by simp at hi
  | d :: r, o, h, i, ds, hi => by
    unfold RepR at h
    obtain ⟨h0, h1, h2⟩ := h
    cases i with
    | zero => simp at hi; subst hi; simpa using ⟨h0, h1⟩
    | succ i =>
      have := repR_get h2 (by simpa using hi)
      rw [Nat.add_assoc, Nat.add_comm sz, ← Nat.succ_mul] at this
      exact this
theorem repR_len {x : X} {b sz : Nat} : ∀ {xs : List (List FD)} {o : Nat}, RepR x b o sz xs → ∀ ds ∈ xs, ds.length = sz
  | [], o, _ => by simp
  | d :: r, o, h => by
    unfold RepR at h
    intro ds hd
    rcases List.mem_cons.1 hd with rfl | hd
    · exact h.1
    · exact repR_len h.2.2 ds hd
theorem repA_append {x : X} {b : Nat} : ∀ {ds : List FD} {o : Nat} {es : List FD}, RepA x b o ds → RepA x b (o + ds.length) es → RepA x b o (ds ++ es)
  | [], o, es, _, k => by simpa using k
  | d :: ds, o, es, h, k => by
    unfold RepA at h
    simp only [List.cons_append]
    unfold RepA
    refine ⟨h.1, repA_append h.2 ?_⟩
    rw [List.length_cons] at k
    rw [Nat.add_assoc, Nat.add_comm 1]
    exact k
theorem repR_flat {x : X} {b sz : Nat} : ∀ {xs : List (List FD)} {o : Nat}, RepR x b o sz xs → RepA x b o xs.flatten
  | [], o, _ => by simp [RepA]
  | d :: r, o, h => by
    unfold RepR at h
    obtain ⟨h0, h1, h2⟩ := h
    simp only [List.flatten_cons]
    exact repA_append h1 (by rw [h0]; exact repR_flat h2)
theorem repR_of {x : X} {b sz : Nat} : ∀ {xs : List (List FD)} {o : Nat}, (∀ ds ∈ xs, ds.length = sz) → RepA x b o xs.flatten → RepR x b o sz xs
  | [], o, _, _ => by unfold RepR; trivial
  | d :: r, o, hl, h => by
    have h0 := hl d (List.mem_cons_self ..)
    have h1 := repA_take h d.length
    have h2 := repA_drop h d.length
    simp only [List.flatten_cons, List.take_left', List.drop_left', List.take_left, List.drop_left] at h1 h2
    unfold RepR
    rw [h0] at h2
    exact ⟨h0, h1, repR_of (fun ds hd => hl ds (List.mem_cons_of_mem _ hd)) h2⟩
theorem repR_drop {x : X} {b sz : Nat} : ∀ {xs : List (List FD)} {o : Nat}, RepR x b o sz xs → ∀ n, RepR x b (o + n * sz) sz (xs.drop n)
  | _, _, h, 0 => by simpa using h
  | [], o, h, n + 1 => by simp [RepR]
  | d :: ds, o, h, n + 1 => by
    unfold RepR at h
    have := repR_drop h.2.2 n
    rw [Nat.add_assoc, Nat.add_comm sz, ← Nat.succ_mul] at this
    simpa using this
theorem repR_take {x : X} {b sz : Nat} : ∀ {xs : List (List FD)} {o : Nat}, RepR x b o sz xs → ∀ n, RepR x b o sz (xs.take n)
  | _, _, h, 0 => by simp [RepR]
  | [], o, h, n + 1 => by simp [RepR]
  | d :: ds, o, h, n + 1 => by
    unfold RepR at h
    simp only [List.take_succ_cons]
    unfold RepR
    exact ⟨h.1, h.2.1, repR_take h.2.2 n⟩
theorem repL_get {x : X} : ∀ {ds : List FD} {vs : List Value}, RepL x vs ds → ∀ {j : Nat} {d : FD}, ds[j]? = some d → ∃ u, vs[j]? = some u ∧ Rep x u d
  | [], vs, _, j, d, hj => by simp at hj
  | d :: ds, vs, h, j, d', hj => by
    unfold RepL at h
    obtain ⟨u, us, rfl, h1, h2⟩ := h
    cases j with
    | zero => simp at hj; subst hj; exact ⟨u, rfl, h1⟩
    | succ j => simpa using repL_get h2 (by simpa using hj)
theorem repL_append {x : X} : ∀ {ds : List FD} {vs : List Value} {es : List FD} {us : List Value}, RepL x vs ds → RepL x us es → RepL x (vs ++ us) (ds ++ es)
  | [], vs, es, us, h, k => by unfold RepL at h; subst h; simpa using k
  | d :: ds, vs, es, us, h, k => by
    unfold RepL at h
    obtain ⟨u, us', rfl, h1, h2⟩ := h
    simp only [List.cons_append]
    unfold RepL
    exact ⟨u, _, rfl, h1, repL_append h2 k⟩

/-- a function with a body -/
def Goes' (P : Program) (f : FuncId) : Prop := ∀ (args : Array Value) (w : World), (callFunc f args).run P w = .ok (.enter f args) w
theorem goes_of {P : Program} {f : FuncId} {fn : Func} {c : Code} (hf : P.funcs[f]? = some fn) (hname : (fn.name == "runtime.NumGoroutine") = false) (hb : fn.body = some c) : Goes' P f := by
  intro args w
  have h1 : fn.name ≠ "runtime.NumGoroutine" := by simpa using hname
  simp [callFunc, hf, h1, hb, mark]
/-- A CONTRACT OF A FUNCTION OF DATA: called with values that say ds, in whatever world, it returns a value that says d, and changes nothing that was there. -/
def Pure (P : Program) (f : FuncId) (ds : List FD) (d : FD) : Prop :=
  Goes' P f ∧ ∀ (x : X) (vs : List Value), (∀ b o, x.WS b o → b < x.W.heap.size) → RepL x vs ds →
    Calls P f vs.toArray x.W fun e w' => ∃ v, e = .returned v ∧ Rep ⟨x.WS, w'⟩ v d ∧ Chg No x.W w'
end Go.Dn
end
section
namespace Go.Dn
open Go.RowKit Go.Dk

/-- what a slot says: frozen data; or what the call itself has made -/
inductive D where
  | top
  | f (x : FD)
  | agg (cs : List D)
  | loc (id off : Nat)
  | own (g ver : Nat)
  | rowp (g ver sz i off : Nat)
  | fn (f : FuncId) (caps : List D)
  | tup (cs : List D)

/-- what the call itself has made: a variable; a row that grows -/
inductive M where
  | blk (cs : List D)
  | row (e : TypeId) (ver sz : Nat) (xs : List (List FD))
  | rows (rs : List (TypeId × Nat × List (List FD)))

structure St where
  n : Nat
  fr : Nat → D
  mem : Nat → Option M
  next : Nat
  /-- are the literals and the boxes of this call never written? -/
  lit : Bool

def upd {α : Type} (f : Nat → α) (t : Nat) (d : α) : Nat → α := fun u => if u = t then d else f u
def undefD : D := .f (.v undef)
def St.put (st : St) (dst : Option Nat) (d : D) : St :=
  match dst with
  | some t => if t < st.n then { st with fr := upd st.fr t d } else st
  | none => st
def St.new (st : St) (id : Nat) (m : M) : St := { st with mem := upd st.mem id (some m) }
def St.ev (st : St) : Operand → D
  | .tmp t => st.fr t
  | .const v => .f (.v v)
  | .global g => .f (.v (.pointer (some ⟨g, 0, none⟩)))
  | .func f => .f (.fn f [])

/-- how a type lies in memory -/
inductive Ki where
  | struct (fs : List (Nat × Nat × Bool))
  | arr (n esz : Nat) (eagg : Bool)
  | slice (e esz bytes : Nat) (ez : List Value)
  | bool
  | int (k : IntKind)
  | string
  | ptr
  | other
structure TI where
  size : Nat
  agg : Bool
  zero : List Value
  ki : Ki
def aggB (P : Program) (t : TypeId) : Bool := match P.underlying t with | some (.struct _) | some (.array _ _) => true | _ => false
def kiOf (P : Program) : TypeDesc → Option Ki
  | .struct fs => (fs.toList.mapM fun f => (P.info? f.type).bind fun i => (P.underlying f.type).map fun _ => (f.offset, i.size, aggB P f.type)).map .struct
  | .array n e => (P.info? e).bind fun i => (P.underlying e).map fun _ => .arr n i.size (aggB P e)
  | .slice e => (P.info? e).bind fun i => i.zero.bind fun z => if z.cells.toList.all Value.oneCell' then some (.slice e i.size i.bytes z.cells.toList) else none
  | .bool => some .bool
  | .int k => some (.int k)
  | .string => some .string
  | .pointer _ => some .ptr
  | _ => some .other
def lay (P : Program) (t : TypeId) : Option TI :=
  (P.info? t).bind fun i => (P.underlying t).bind fun d => i.zero.bind fun z => (kiOf P d).bind fun k =>
    if z.cells.toList.all Value.oneCell' && z.cells.size == i.size then some ⟨i.size, aggB P t, z.cells.toList, k⟩ else none

/-- one of two ways: what lies behind is not looked at until it is known which -/
def gif (b : Bool) (x y : Prop) : Prop := if b then x else y
def ob {α : Type} (x : Option α) (K : α → Prop) : Prop := ∃ a, x = some a ∧ K a
def omap {α β : Type} (f : α → Option β) : List α → Option (List β)
  | [] => some []
  | a :: l => (f a).bind fun b => (omap f l).map (b :: ·)
def asF : D → Option FD
  | .f x => some x
  | _ => none
def mkAgg (cs : List D) : D := match omap asF cs with | some fs => .f (.agg fs) | none => .agg cs
def mkFn (f : FuncId) (cs : List D) : D := match omap asF cs with | some fs => .f (.fn f fs) | none => .fn f cs
def truth : D → Option Bool
  | .f (.v (.bool b)) => some b
  | _ => none
def asI : D → Option Int
  | .f (.v (.int _ n)) => some n
  | _ => none
/-- the cells of a value -/
def cellsD : D → Option (List D)
  | .f (.agg cs) => some (cs.map .f)
  | .agg cs => some cs
  | .f (.v u) => if u.oneCell' then some [.f (.v u)] else none
  | .f (.tup _) | .tup _ | .top => none
  | d => some [d]
def aggD : D → Option (List D)
  | .f (.agg cs) => some (cs.map .f)
  | .agg cs => some cs
  | _ => none
def partD (cs : List D) (off size : Nat) (agg : Bool) : Option D :=
  if agg then (if off + size ≤ cs.length then some (mkAgg ((cs.drop off).take size)) else none) else cs[off]?
def partF (cs : List FD) (size : Nat) (agg : Bool) : Option FD :=
  if agg then (if size ≤ cs.length then some (.agg (cs.take size)) else none) else cs[0]?
/-- frozen, for a while -/
def frz (mem : Nat → Option M) : Nat → D → Option FD
  | 0, _ => none
  | n + 1, d => match d with
    | .f x => some x
    | .agg cs => (omap (frz mem n) cs).map .agg
    | .own g ver => match mem g with
      | some (.row _ v sz xs) => if v = ver then some (.sl sz xs) else none
      | _ => none
    | .loc id off => match mem id with
      | some (.blk cs) => (omap (frz mem n) (cs.drop off)).map .ref
      | _ => none
    | .fn f caps => (omap (frz mem n) caps).map (.fn f)
    | .tup cs => (omap (frz mem n) cs).map .tup
    | _ => none
def isF : D → Bool
  | .f _ => true
  | _ => false
def isV : FD → Bool
  | .v _ => true
  | _ => false
def scalar : FD → Bool
  | .v _ => true
  | .agg cs => cs.all isV
  | .tup cs => cs.all isV
  | _ => false
def loadD (mem : Nat → Option M) (size : Nat) (agg : Bool) : D → Option D
  | .loc id off => match mem id with
    | some (.blk cs) => partD cs off size agg
    | _ => none
  | .f (.ref cs) => (partF cs size agg).map .f
  | .rowp g ver z k off => match mem g with
    | some (.row _ v sz xs) => if v = ver ∧ sz = z then (xs[k]?).bind fun cs => (partF (cs.drop off) size agg).map .f else none
    | _ => none
  | _ => none
def updCells {α : Type} (cs : List α) (off : Nat) (vs : List α) : List α :=
  match vs with
  | [v] => cs.set off v
  | vs => cs.take off ++ (vs ++ cs.drop (off + vs.length))
def storeD (st : St) (vs : List D) : D → Option St
  | .loc id off => match st.mem id with
    | some (.blk cs) => if off + vs.length ≤ cs.length then some (st.new id (.blk (updCells cs off vs))) else none
    | _ => none
  | .rowp g ver z k off => match st.mem g with
    | some (.row e v sz xs) => if v = ver ∧ sz = z then (xs[k]?).bind fun cs => (omap asF vs).bind fun fs => if off + fs.length ≤ cs.length then some (st.new g (.row e v sz (xs.set k (updCells cs off fs)))) else none else none
    | _ => none
  | _ => none
def shiftD (off : Nat) : D → Option D
  | .loc id o => some (.loc id (o + off))
  | .f (.ref cs) => some (.f (.ref (cs.drop off)))
  | .rowp g v z k o => some (.rowp g v z k (o + off))
  | _ => none

def ibin (op : BinOp) (k : IntKind) (a b : Int) : Option FD :=
  match op with
  | .add => some (.v (.int k (k.wrap (a + b))))
  | .sub => some (.v (.int k (k.wrap (a - b))))
  | .mul => some (.v (.int k (k.wrap (a * b))))
  | .quo => if b = 0 then none else some (.v (.int k (k.wrap (a.tdiv b))))
  | .rem => if b = 0 then none else some (.v (.int k (a.tmod b)))
  | .eql => some (.v (.bool (a == b)))
  | .neq => some (.v (.bool (a != b)))
  | .lss => some (.v (.bool (a < b)))
  | .leq => some (.v (.bool (a ≤ b)))
  | .gtr => some (.v (.bool (a > b)))
  | .geq => some (.v (.bool (a ≥ b)))
  | _ => none
def sbin (op : BinOp) (x y : ByteArray) : Option FD :=
  match op with
  | .add => if x.size + y.size ≤ 9223372036854775807 then some (.v (.string (x ++ y))) else none
  | .eql => some (.v (.bool (x.toList == y.toList)))
  | .neq => some (.v (.bool !(x.toList == y.toList)))
  | .lss => some (.v (.bool (Op.bytesLess x.toList y.toList)))
  | .leq => some (.v (.bool (Op.bytesLess x.toList y.toList || x.toList == y.toList)))
  | .gtr => some (.v (.bool !(Op.bytesLess x.toList y.toList || x.toList == y.toList)))
  | .geq => some (.v (.bool !(Op.bytesLess x.toList y.toList)))
  | _ => none
def dbin (ki : Ki) (op : BinOp) : D → D → Option FD
  | .f (.v (.int k a)), .f (.v (.int k' b)) => if k = k' then ibin op k a b else none
  | .f (.v (.string a)), .f (.v (.string b)) => sbin op a b
  | .f (.v (.bool a)), .f (.v (.bool b)) => match ki, op with
    | .bool, .eql => some (.v (.bool (a == b)))
    | .bool, .neq => some (.v (.bool !(a == b)))
    | _, _ => none
  | _, _ => none
/-- what a type of plain cells is made of -/
inductive LK where
  | b
  | i (k : IntKind)
  | s
  | sl (l : List LK)
def flatFs (F : TypeId → Option (List LK)) (c : TypeId → Nat) : Nat → List Field → Option (List LK)
  | _, [] => some []
  | off, f :: fs => (F f.type).bind fun l => if f.offset = off ∧ f.name ≠ "_" ∧ l.length = c f.type then (flatFs F c (off + l.length) fs).map (l ++ ·) else none
def flat (P : Program) : Nat → TypeId → Option (List LK)
  | 0, _ => none
  | m + 1, t => match P.underlying t with
    | some .bool => some [.b]
    | some (.int k) => some [.i k]
    | some .string => some [.s]
    | some (.slice e) => (flat P m e).bind fun l => if l.length = P.cellsOf e ∧ 0 < l.length then some [.sl l] else none
    | some (.array n e) => (flat P m e).bind fun l => if l.length = P.cellsOf e then some (List.replicate n l).flatten else none
    | some (.struct fs) => (flatFs (flat P m) P.cellsOf 0 fs.toList).bind fun l => if !P.stoodInHeld t then some l else none
    | _ => none
/-- are they alike, cell by cell? -/
def eqC1 : LK → FD → FD → Option Bool
  | .b, .v (.bool x), .v (.bool y) => some (x == y)
  | .i k, .v (.int k1 x), .v (.int k2 y) => if k1 = k ∧ k2 = k then some (x == y) else none
  | .s, .v (.string x), .v (.string y) => some (x == y)
  | _, _, _ => none
def eqC : List LK → List FD → List FD → Option Bool
  | [], [], [] => some true
  | k :: l, x :: xs, y :: ys => (eqC1 k x y).bind fun b => (eqC l xs ys).map (b && ·)
  | _, _, _ => none
def eqT (P : Program) (t : TypeId) : Option (List LK) := if P.eqGuardType P.depth t then none else (flat P 6 t).bind fun l => if l.length = P.cellsOf t then some l else none
def eqA (P : Program) (t : TypeId) (op : BinOp) : D → D → Option FD
  | .f (.agg xs), .f (.agg ys) => (eqT P t).bind fun l => (eqC l xs ys).bind fun r => match op with | .eql => some (.v (.bool r)) | .neq => some (.v (.bool !r)) | _ => none
  | _, _ => none
/-- is a pointer nil? -/
def nilD : D → Option Bool
  | .f (.v (.pointer none)) => some true
  | .f (.v (.pointer (some _))) => some false
  | .f (.ref _) => some false
  | .loc _ _ => some false
  | .rowp .. => some false
  | _ => none
def ptrB (op : BinOp) (b : Bool) : Option FD := match op with | .eql => some (.v (.bool b)) | .neq => some (.v (.bool !b)) | _ => none
def ptrD (op : BinOp) (a b : D) : Option FD := match b with
  | .f (.v (.pointer none)) => (nilD a).bind (ptrB op)
  | _ => none
def dbinP (P : Program) (t : TypeId) (agg : Bool) (ki : Ki) (op : BinOp) (a b : D) : Option FD := if agg then eqA P t op a b else match ki with
  | .ptr => ptrD op a b
  | ki => dbin ki op a b
def dun (op : UnOp) : D → Option FD
  | .f (.v (.bool b)) => match op with | .not => some (.v (.bool !b)) | _ => none
  | .f (.v (.int k n)) => match op with | .neg => some (.v (.int k (k.wrap (0 - n)))) | _ => none
  | _ => none
def dconv (dst : Ki) : D → Option FD
  | .f (.v (.int _ n)) => match dst with | .int k => some (.v (.int k (k.wrap n))) | _ => none
  | .f (.v (.string s)) => match dst with | .string => some (.v (.string s)) | _ => none
  | _ => none
/-- the elements of a slice -/
def elems (mem : Nat → Option M) (sz : Nat) : D → Option (List (List FD))
  | .f (.v (.slice none 0 0)) => some []
  | .f (.sl z xs) => if z = sz then some xs else none
  | .own g ver => match mem g with
    | some (.row _ v z xs) => if v = ver ∧ z = sz then some xs else none
    | _ => none
  | _ => none
def lenD (mem : Nat → Option M) : D → Option Nat
  | .f (.v (.slice _ n _)) => some n
  | .f (.sl _ xs) => some xs.length
  | .own g ver => match mem g with
    | some (.row _ v _ xs) => if v = ver then some xs.length else none
    | _ => none
  | _ => none
def placesOf : Ki → Nat → Option (Nat × Nat)
  | .struct fs => fun i => (fs[i]?).map fun f => (f.1, f.2.1)
  | .arr _ esz _ => fun i => some (i * esz, esz)
  | _ => fun _ => none
def fillD (place : Nat → Option (Nat × Nat)) (cells : List D) : List (Nat × D) → Option (List D)
  | [] => some cells
  | (i, d) :: rest => (place i).bind fun p => (cellsD d).bind fun cs => if cs.length = p.2 ∧ p.1 + p.2 ≤ cells.length then fillD place (updCells cells p.1 cs) rest else none
def intD (n : Nat) : D := .f (.v (.int .i64 n))
/-- [lo:hi] of a slice -/
def boundsD (n : Nat) (lo hi : Option D) : Option (Nat × Nat) :=
  (match hi with | none => some (n : Int) | some d => asI d).bind fun h => (match lo with | none => some 0 | some d => asI d).bind fun l =>
    if 0 ≤ l ∧ l ≤ h ∧ h ≤ n then some (l.toNat, h.toNat) else none

section
variable (P : Program)
/-- A CONTRACT OF A FUNCTION THAT MAKES A ROW: as Pure, and the row is nobody else's. -/
def PureRow (f : FuncId) (ds : List FD) (e sz : Nat) (xs : List (List FD)) : Prop :=
  (Goes' P f ∧ 0 < sz ∧ (∀ ds ∈ xs, ds.length = sz) ∧ xs.flatten.all isV = true) ∧ ∀ (x : X) (vs : List Value), (∀ b o, x.WS b o → b < x.W.heap.size) → RepL x vs ds →
    Calls P f vs.toArray x.W fun en w' => ∃ v cells, en = .returned v ∧ w'.ownsRow x.W.heap.size e sz v xs.length cells ∧ RepC ⟨x.WS, w'⟩ cells xs.flatten ∧ Chg No x.W w'
/-- A FUNCTION THAT COPIES A ROW -/
def CopyRow (f : FuncId) (e sz : Nat) : Prop :=
  (Goes' P f ∧ 0 < sz) ∧ ∀ (w : World) (v : Value) (n : Nat) (L : List Value), n ≤ 1048576 → Rd w v sz n L → (∀ u ∈ L, u.oneCell' = true) →
    Calls P f #[v] w fun en w' => ∃ v', en = .returned v' ∧ w'.ownsRow w.heap.size e sz v' n L ∧ Chg No w w'
/-- A FUNCTION THAT MAKES A STRUCT OF ROWS, which are nobody else's -/
def RowsCall (f : FuncId) (fs : List FD) (rs : List (TypeId × Nat × List (List FD))) : Prop :=
  (Goes' P f ∧ ∀ r ∈ rs, 0 < r.2.1 ∧ ∀ ds ∈ r.2.2, ds.length = r.2.1) ∧ ∀ (x : X) (vs : List Value), (∀ b o, x.WS b o → b < x.W.heap.size) → RepL x vs fs →
    Calls P f vs.toArray x.W fun en w' => ∃ us : List Value, en = .returned (.agg us.toArray) ∧ us.length = rs.length ∧ Chg No x.W w' ∧
      (∀ (j : Nat) (u : Value) (r : TypeId × Nat × List (List FD)), us[j]? = some u → rs[j]? = some r → ∃ cells, w'.ownsRow x.W.heap.size r.1 r.2.1 u r.2.2.length cells ∧ RepC ⟨fun b o => (∃ u ∈ us, u.ownBlock = some b) ∨ x.WS b o, w'⟩ cells r.2.2.flatten) ∧
      ∀ (j j' : Nat) (u u' : Value) (b : Nat), us[j]? = some u → us[j']? = some u' → u.ownBlock = some b → u'.ownBlock = some b → j = j'
def ownsD (id n : Nat) : List D := (List.range n).map fun j => .own id j
def callW (id : Nat) (st : St) (f : FuncId) (ds : List D) (K : D → St → Prop) : Prop :=
  (∃ x e sz xs, ds = [x] ∧ CopyRow P f e sz ∧ elems st.mem sz x = some xs ∧ xs.length ≤ 1048576 ∧ K (.own id 0) (st.new id (.row e 0 sz xs))) ∨
  (∃ fs rs, ds = fs.map .f ∧ RowsCall P f fs rs ∧ K (.agg (ownsD id rs.length)) (st.new id (.rows rs))) ∨
  ob (omap (frz st.mem 4) ds) fun fs => (∃ d, Pure P f fs d ∧ (ds.all isF || scalar d) = true ∧ K (.f d) st) ∨ (∃ e sz xs, PureRow P f fs e sz xs ∧ ds.all isF = true ∧ K (.own id 0) (st.new id (.row e 0 sz xs)))
def appendW (id : Nat) (st : St) (e esz bytes : Nat) (s x : D) (K : D → St → Prop) : Prop :=
  ob (elems st.mem esz x) fun ys => match s with
  | .own g ver => match st.mem g with
    | some (.row e' v sz xs) => if v = ver ∧ e' = e ∧ sz = esz ∧ 0 < esz ∧ (xs.length + ys.length) * bytes ≤ 140737488355328 ∧ xs.length + ys.length ≤ 4611686018427387904 then K (.own g (ver + 1)) (st.new g (.row e (ver + 1) esz (xs ++ ys))) else False
    | _ => False
  | .f (.v (.slice none 0 0)) => if 0 < esz ∧ ys.length * bytes ≤ 140737488355328 ∧ ys.length ≤ 4611686018427387904 then K (.own id 0) (st.new id (.row e 0 esz ys)) else False
  | _ => False
/-- one operation -/
def opW (id : Nat) (o : Oper) (st : St) (K : D → St → Prop) : Prop :=
  match o.op with
  | .move x | .assign x => K (st.ev x) st
  | .pick c a b => ob (truth (st.ev c)) fun t => K (if t then st.ev a else st.ev b) st
  | .alloc t => ob (lay P t) fun i => K (.loc id 0) (st.new id (.blk (i.zero.map fun v => .f (.v v))))
  | .box t x => ob (lay P t) fun i => ob (cellsD (st.ev x)) fun cs => gif st.lit (ob (omap asF cs) fun fs => K (.f (.ref fs)) st) (K (.loc id 0) (st.new id (.blk cs)))
  | .build t parts => ob (lay P t) fun i => ob (fillD (placesOf i.ki) (i.zero.map fun v => .f (.v v)) (parts.toList.map fun p => (p.1, st.ev p.2))) fun cs => if i.agg then K (mkAgg cs) st else False
  | .buildSlice t len parts => ob (lay P t) fun i => match i.ki with
    | .slice e esz _ ez => if parts.toList.map Prod.fst = List.range len ∧ 0 < esz ∧ len * esz ≤ 16777216 ∧ ez.length = esz then
        ob (omap (fun p => ((cellsD (st.ev p.2)).bind (omap asF)).bind fun fs => if fs.length = esz then some fs else none) parts.toList) fun xs => gif st.lit (K (.f (.sl esz xs)) st) (K (.own id 0) (st.new id (.row e 0 esz xs))) else False
    | _ => False
  | .load t x => ob (lay P t) fun i => ob (loadD st.mem i.size i.agg (st.ev x)) fun d => K d st
  | .store t x y => ob (lay P t) fun i => ob (cellsD (st.ev y)) fun cs => if cs.length = i.size then ob (storeD st cs (st.ev x)) fun st' => K undefD st' else False
  | .binOp op t x y _ => match op with
    | .shl | .shr => False
    | _ => ob (lay P t) fun i => ob (dbinP P t i.agg i.ki op (st.ev x) (st.ev y)) fun d => K (.f d) st
  | .unOp op _ x => ob (dun op (st.ev x)) fun d => K (.f d) st
  | .convert s t x => ob (lay P s) fun _ => ob (lay P t) fun i => ob (dconv i.ki (st.ev x)) fun d => K (.f d) st
  | .nilCheck x => ob (shiftD 0 (st.ev x)) fun _ => K (st.ev x) st
  | .fieldAddr t x i => ob (lay P t) fun ti => match ti.ki with
    | .struct fs => ob (fs[i]?) fun f => if f.2.1 = 0 then False else ob (shiftD f.1 (st.ev x)) fun d => K d st
    | _ => False
  | .field t x i => ob (lay P t) fun ti => match ti.ki with
    | .struct fs => ob (fs[i]?) fun f => if f.2.1 = 0 then False else ob (aggD (st.ev x)) fun cs => ob (partD cs f.1 f.2.1 f.2.2) fun d => K d st
    | _ => False
  | .indexAddr t x ix => ob (lay P t) fun ti => ob (asI (st.ev ix)) fun k => match ti.ki with
    | .slice _ esz _ _ => ob (elems st.mem esz (st.ev x)) fun xs => if 0 ≤ k ∧ k < xs.length ∧ 0 < esz then (match st.ev x with
        | .own g ver => K (.rowp g ver esz k.toNat 0) st
        | _ => K (.f (.ref (xs.getD k.toNat []))) st) else False
    | .arr n esz _ => if 0 ≤ k ∧ k < n ∧ 0 < esz then ob (shiftD (k.toNat * esz) (st.ev x)) fun d => K d st else False
    | _ => False
  | .index t x ix => ob (lay P t) fun ti => ob (asI (st.ev ix)) fun k => match ti.ki with
    | .arr n esz ea => if 0 ≤ k ∧ k < n ∧ 0 < esz then ob (aggD (st.ev x)) fun cs => ob (partD cs (k.toNat * esz) esz ea) fun d => K d st else False
    | .string => match st.ev x with
      | .f (.v (.string s)) => if h : 0 ≤ k ∧ k.toNat < s.size then K (.f (.v (.int .u8 (s[k.toNat]'h.2).toNat))) st else False
      | _ => False
    | _ => False
  | .extract x i => match st.ev x with
    | .f (.tup cs) => ob (cs[i]?) fun d => K (.f d) st
    | .tup cs => ob (cs[i]?) fun d => K d st
    | _ => False
  | .makeFunc (.func f) first caps => if first.isEmpty then K (mkFn f (caps.toList.map st.ev)) st else False
  | .makeSlice t l c => ob (lay P t) fun ti => ob (asI (st.ev l)) fun n => ob (asI (st.ev c)) fun m => match ti.ki with
    | .slice e esz bytes ez => if (n = m ∨ n = 0) ∧ 0 ≤ n ∧ n ≤ m ∧ 0 < esz ∧ ez.length = esz ∧ m.toNat * bytes ≤ 140737488355328 ∧ m.toNat ≤ 4611686018427387904 then K (.own id 0) (st.new id (.row e 0 esz (List.replicate n.toNat (ez.map .v)))) else False
    | _ => False
  | .slice t x lo hi mx => ob (lay P t) fun ti => if mx.isSome then False else match ti.ki with
    | .slice _ esz _ _ => match st.ev x with
      | .f (.sl sz xs) => if sz = esz then ob (boundsD xs.length (lo.map st.ev) (hi.map st.ev)) fun b => K (.f (.sl sz ((xs.take b.2).drop b.1))) st else False
      | _ => False
    | .string => match st.ev x with
      | .f (.v (.string s)) => ob (boundsD s.size (lo.map st.ev) (hi.map st.ev)) fun b => K (.f (.v (.string (s.extract b.1 b.2)))) st
      | _ => False
    | _ => False
  | .call c => match c.callee, c.args.toList, c.argTypes.toList with
    | .builtin .len, [x], [t] => ob (lay P t) fun ti => match ti.ki with
      | .slice _ _ _ _ => ob (lenD st.mem (st.ev x)) fun n => K (intD n) st
      | .string => match st.ev x with
        | .f (.v (.string s)) => K (intD s.size) st
        | _ => False
      | _ => False
    | .builtin .append, [s, x], [t, t'] => if t = t' then ob (lay P t) fun ti => match ti.ki with
      | .slice e esz bytes ez => if ez.length = esz then appendW id st e esz bytes (st.ev s) (st.ev x) K else False
      | _ => False else False
    | .value f, args, _ => match st.ev f with
      | .f (.fn g caps) => callW P id st g (args.map st.ev ++ caps.map .f) K
      | .fn g caps => callW P id st g (args.map st.ev ++ caps) K
      | _ => False
    | .builtin .max, [x, y], _ => match st.ev x, st.ev y with
      | .f (.v (.int k a)), .f (.v (.int _ b)) => K (.f (.v (.int k (if b > a then b else a)))) st
      | _, _ => False
    | .builtin .min, [x, y], _ => match st.ev x, st.ev y with
      | .f (.v (.int k a)), .f (.v (.int _ b)) => K (.f (.v (.int k (if b < a then b else a)))) st
      | _, _ => False
    | _, _, _ => False
  | _ => False

/-- is an operation wanted? -/
def gval (ops : Array Oper) (st : St) : Option (Nat × Bool) → Option Bool
  | none => some true
  | some (j, want) => match (ops[j]?).bind (·.dst) with
    | some d => if d < st.n then (match st.fr d with
      | .f (.v (.bool b)) => some (b == want)
      | .f (.v (.tuple _)) => some false
      | _ => none) else none
    | none => none
def stepW (ops : Array Oper) (base i : Nat) (st : St) (K : St → Prop) : Prop :=
  ob (ops[i]?) fun o => ob (gval ops st o.guard) fun g => if g then opW P (base + i) o st fun d st' => K (st'.put o.dst d) else K (st.put o.dst undefD)
def opsW (ops : Array Oper) (base : Nat) : List Nat → St → (St → Prop) → Prop
  | [], st, K => K st
  | i :: r, st, K => stepW P ops base i st fun s => opsW ops base r s K
/-- the same, along the list of operations -/
def opsL (ops : Array Oper) (base : Nat) : Nat → List Oper → St → (St → Prop) → Prop
  | _, [], st, K => K st
  | i, o :: r, st, K => ob (gval ops st o.guard) fun g => gif g (opW P (base + i) o st fun d st' => opsL ops base (i + 1) r (st'.put o.dst d) K) (opsL ops base (i + 1) r (st.put o.dst undefD) K)
/-! ### Regions that draw: who is ahead of whom -/
def edgesOf (o : Oper) : List Nat := o.after.toList.filterMap fun e => if Region.binds .any e then some e.on else none
def tmpOf : Operand → Option Nat
  | .tmp t => some t
  | _ => none
def guardSlot (l : List Oper) (o : Oper) : Option Nat := o.guard.bind fun g => (l[g.1]?).bind (·.dst)
def looksD (l : List Oper) (o : Oper) : List Nat := (guardSlot l o).toList ++ o.op.operands.toList.filterMap tmpOf
def silentOp : Op → Bool
  | .move _ | .assign _ | .pick .. | .binOp .. | .unOp .. | .convert .. | .nilCheck _ | .fieldAddr .. | .field .. | .extract .. | .makeFunc .. | .build .. => true
  | _ => false
def silentAt (l : List Oper) (i : Nat) : Bool := ((l[i]?).map fun o => silentOp o.op).getD true
def dstAt (l : List Oper) (i : Nat) : Option Nat := (l[i]?).bind (·.dst)
def unord (A : List (List Nat)) (i j : Nat) : Bool := i != j && !(A.getD i []).contains j && !(A.getD j []).contains i
/-- what operation i sees -/
def Tv (l : List Oper) (A : List (List Nat)) (base i id : Nat) : Bool := !silentAt l i && (decide (id < base) || id == base + i || (decide (base ≤ id) && (A.getD i []).contains (id - base)))
/-- what it may write -/
def Cw (l : List Oper) (A : List (List Nat)) (base i x : Nat) : Bool :=
  x == base + i || (if x < base then (List.range l.length).all fun k => !unord A i k || silentAt l k
    else (A.getD i []).contains (x - base) && (List.range l.length).all fun k => !unord A i k || silentAt l k || !(A.getD k []).contains (x - base))
def okAnc (l : List Oper) (A : List (List Nat)) : Bool := (List.range l.length).all fun i =>
  ((A.getD i []).all fun a => decide (a < i) && (((l[i]?).map edgesOf).getD []).any fun e => a == e || (A.getD e []).contains a) && (((l[i]?).map edgesOf).getD []).all fun e => decide (e < i)
def okPair (l : List Oper) (A : List (List Nat)) : Bool := (List.range l.length).all fun i => (List.range l.length).all fun j =>
  !unord A i j || ((dstAt l i).toList.all fun t => !(((l[j]?).map (looksD l)).getD []).contains t && !(dstAt l j == some t))
def drawOk (l : List Oper) (A : List (List Nat)) : Bool := okAnc l A && okPair l A

def visM (T : Nat → Bool) (mem : Nat → Option M) : Nat → Option M := fun id => if T id then mem id else none
def isNew : D → Bool
  | .own _ _ => true
  | .agg _ => true
  | _ => false
def writesOp (lit : Bool) (op : Op) (d : D) : Bool := match op with
  | .buildSlice .. | .box .. => !lit
  | .alloc _ | .makeSlice .. | .store .. => true
  | .call c => match c.callee with | .builtin .append => true | .value _ => isNew d | _ => false
  | _ => false
/-- one object is written -/
def exW (A mem : Nat → Option M) (Q : Nat → M → Prop) : Prop := ∃ x m, mem = upd A x (some m) ∧ Q x m
def opsD (l : List Oper) (A : List (List Nat)) (base : Nat) : Nat → List Oper → St → (St → Prop) → Prop
  | _, [], st, K => K st
  | i, o :: r, st, K => ob (gval l.toArray st o.guard) fun g => gif g
      (opW P (base + i) o { st with mem := visM (Tv l A base i) st.mem } fun d s' => gif (writesOp st.lit o.op d)
        (exW (visM (Tv l A base i) st.mem) s'.mem fun x m => (Cw l A base i x = true ∧ Tv l A base i x = true) ∧ opsD l A base (i + 1) r ((st.new x m).put o.dst d) K)
        (s'.mem = visM (Tv l A base i) st.mem ∧ opsD l A base (i + 1) r (st.put o.dst d) K))
      (opsD l A base (i + 1) r (st.put o.dst undefD) K)

def regionW (ops : Array Oper) (draw : Bool) (st : St) (K : St → Prop) : Prop :=
  if draw then (∃ A, drawOk ops.toList A = true ∧ P.follows .mixedOrders = true ∧ opsD P ops.toList A st.next 0 ops.toList st fun s => K { s with next := st.next + ops.size }) else opsL P ops st.next 0 ops.toList st fun s => K { s with next := st.next + ops.size }

inductive Ex where
  | normal
  | exit (id : Nat)
  | ret

mutual
def below (b : Nat) : D → Bool
  | .top => true
  | .f _ => true
  | .agg cs => belowL b cs
  | .loc id _ => id < b
  | .own g _ => g < b
  | .rowp g _ _ _ _ => g < b
  | .fn _ caps => belowL b caps
  | .tup cs => belowL b cs
def belowL (b : Nat) : List D → Bool
  | [] => true
  | d :: ds => below b d && belowL b ds
end
def clean (b : Nat) (d : D) : D := if below b d then d else .top
def cleanM (b : Nat) : M → M
  | .blk cs => .blk (cs.map (clean b))
  | m => m
/-- what was made behind b is let go -/
def St.trim (st : St) (b : Nat) : St :=
  { st with fr := fun t => clean b (st.fr t), mem := fun id => if id < b then (st.mem id).map (cleanM b) else none, next := b }
/-- a nil slice, taken for a row that will grow -/
inductive Ad where
  | slot (t e sz : Nat)
  | cell (id off e sz : Nat)
  | opn (id t : Nat)
def isNil : D → Bool
  | .f (.v (.slice none 0 0)) => true
  | _ => false
/-- rows that a call has made at once, each by itself -/
def openM (mem : Nat → Option M) (id nx : Nat) (rs : List (TypeId × Nat × List (List FD))) : Nat → Option M := fun i =>
  if i = id then none else if nx ≤ i then (rs[i - nx]?).map fun r => .row r.1 0 r.2.1 r.2.2 else mem i
def redir (id nx n : Nat) : D → D
  | .own g v => if g = id ∧ v < n then .own (nx + v) 0 else .own g v
  | d => d
def St.adopt1 (st : St) : Ad → St
  | .opn id t => match st.mem id, st.mem t with
    | some (.rows rs), some (.blk cs) => { st with mem := upd (openM st.mem id st.next rs) t (some (.blk (cs.map (redir id st.next rs.length)))), next := st.next + rs.length }
    | _, _ => st
  | .slot t e sz => if isNil (st.fr t) && decide (0 < sz) && decide (t < st.n) then { st with fr := upd st.fr t (.own st.next 0), mem := upd st.mem st.next (some (.row e 0 sz [])), next := st.next + 1 } else st
  | .cell id off e sz => match st.mem id with
    | some (.blk cs) => if isNil (cs.getD off .top) && decide (0 < sz) then { st with mem := upd (upd st.mem st.next (some (.row e 0 sz []))) id (some (.blk (cs.set off (.own st.next 0)))), next := st.next + 1 } else st
    | _ => st
def St.adopts : List Ad → St → St
  | [], st => st
  | a :: as, st => St.adopts as (st.adopt1 a)
def iterP (F : St → (Ex → St → Prop) → Prop) (b : Nat) : Nat → St → (Ex → St → Prop) → Prop
  | 0, _, _ => False
  | n + 1, st, k => F (st.trim b) fun e s => match e with
    | .normal => iterP F b n s k
    | e => k e s
def run : Code → St → (Ex → St → Prop) → Prop
  | .skip, st, k => k .normal st
  | .region _ ops draw, st, k => regionW P ops draw st fun s => k .normal s
  | .seq a b, st, k => run a st fun e s => match e with
    | .normal => run b s k
    | e => k e s
  | .cond c a b, st, k => ob (truth (st.ev c)) fun t => gif t (run a st k) (run b st k)
  | .block id c, st, k => run c st fun e s => match e with
    | .exit j => if j = id then k .normal s else k (.exit j) s
    | e => k e s
  | .loop c, st, k => ∃ as : List Ad, ∃ n, iterP (run c) (st.adopts as).next n (st.adopts as) k
  | .exit id, st, k => k (.exit id) st
  | .ret, st, k => k .ret st
  | _, _, _ => False
def entF (ds : List FD) (t : Nat) : D := match ds[t]? with | some d => .f d | none => .f (.v undef)
def noM : Nat → Option M := fun _ => none
def St.enter (n : Nat) (ds : List FD) (lit : Bool) : St := { n := n, fr := entF ds, mem := noM, next := 0, lit := lit }
def resD (mem : Nat → Option M) (fr : Nat → D) : ResultVar → Option FD
  | .tmp t => frz mem 4 (fr t)
  | .cell a t => (lay P t).bind fun i => (loadD mem i.size i.agg (fr a)).bind (frz mem 4)
def resultD (rs : List ResultVar) (st : St) : Option FD :=
  (omap (resD P st.mem st.fr) rs).map fun ds => match ds with
    | [d] => d
    | ds => .tup ds
def Ex.fin : Ex → Bool
  | .exit _ => false
  | _ => true
end
end Go.Dn
end
section
namespace Go.Dn
open Go.RowKit Go.Dk

/-- a world, and where what the call has made lies -/
structure Cx where
  E : Nat → Nat → Option Value
  x : X

mutual
def RepD (c : Cx) (val : Value) : D → Prop
  | .top => True
  | .f d => Rep c.x val d
  | .agg cs => ∃ vs : List Value, val = .agg vs.toArray ∧ RepDC c vs cs
  | .loc id off => ∃ b, c.E id 0 = some (.pointer (some ⟨b, 0, none⟩)) ∧ val = .pointer (some ⟨b, off, none⟩)
  | .own g ver => c.E g ver = some val ∧ ∃ a n cap, val = .slice a n cap
  | .rowp g ver sz i off => ∃ b n cap, c.E g ver = some (.slice (some ⟨b, 0, none⟩) n cap) ∧ val = .pointer (some ⟨b, i * sz + off, none⟩)
  | .fn f caps => ∃ vs : List Value, val = .func (.func f) #[] vs.toArray ∧ RepDL c vs caps
  | .tup cs => ∃ vs : List Value, val = .tuple vs.toArray ∧ RepDL c vs cs
def RepDL (c : Cx) (vs : List Value) : List D → Prop
  | [] => vs = []
  | d :: ds => ∃ u us, vs = u :: us ∧ RepD c u d ∧ RepDL c us ds
def RepDC (c : Cx) (vs : List Value) : List D → Prop
  | [] => vs = []
  | d :: ds => ∃ u us, vs = u :: us ∧ u.oneCell' = true ∧ RepD c u d ∧ RepDC c us ds
end

structure Ext (c c' : Cx) : Prop where
  sub : Sub c.x c'.x
  env : ∀ id v u, c.E id v = some u → c'.E id v = some u
theorem Ext.refl (c : Cx) : Ext c c := ⟨Sub.refl _, fun _ _ _ h => h⟩
theorem Ext.trans {a b c : Cx} (h : Ext a b) (k : Ext b c) : Ext a c := ⟨h.sub.trans k.sub, fun id v u e => k.env id v u (h.env id v u e)⟩

mutual
theorem RepD.mono {c c' : Cx} (h : Ext c c') {val : Value} : ∀ {d : D}, RepD c val d → RepD c' val d
  | .top, _ => by unfold RepD; trivial
  | .f x, hr => by unfold RepD at hr ⊢; exact Rep.mono h.sub hr
  | .agg cs, hr => by
    unfold RepD at hr ⊢
    obtain ⟨vs, e, hr⟩ := hr
    exact ⟨vs, e, RepDC.mono h hr⟩
  | .loc id off, hr => by
    unfold RepD at hr ⊢
    obtain ⟨b, e, hr⟩ := hr
    exact ⟨b, h.env _ _ _ e, hr⟩
  | .own g ver, hr => by unfold RepD at hr ⊢; exact ⟨h.env _ _ _ hr.1, hr.2⟩
  | .rowp g ver sz i off, hr => by
    unfold RepD at hr ⊢
    obtain ⟨b, n, cap, e, hr⟩ := hr
    exact ⟨b, n, cap, h.env _ _ _ e, hr⟩
  | .fn f caps, hr => by
    unfold RepD at hr ⊢
    obtain ⟨vs, e, hr⟩ := hr
    exact ⟨vs, e, RepDL.mono h hr⟩
  | .tup caps, hr => by
    unfold RepD at hr ⊢
    obtain ⟨vs, e, hr⟩ := hr
    exact ⟨vs, e, RepDL.mono h hr⟩
theorem RepDL.mono {c c' : Cx} (h : Ext c c') {vs : List Value} : ∀ {ds : List D}, RepDL c vs ds → RepDL c' vs ds
  | [], hr => hr
  | d :: ds, hr => by
    unfold RepDL at hr ⊢
    obtain ⟨u, us, e, h1, h2⟩ := hr
    exact ⟨u, us, e, RepD.mono h h1, RepDL.mono h h2⟩
theorem RepDC.mono {c c' : Cx} (h : Ext c c') {vs : List Value} : ∀ {ds : List D}, RepDC c vs ds → RepDC c' vs ds
  | [], hr => hr
  | d :: ds, hr => by
    unfold RepDC at hr ⊢
    obtain ⟨u, us, e, h0, h1, h2⟩ := hr
    exact ⟨u, us, e, h0, RepD.mono h h1, RepDC.mono h h2⟩
end

theorem repDC_len {c : Cx} : ∀ {ds : List D} {vs : List Value}, RepDC c vs ds → vs.length = ds.length
  | [], vs, h => by unfold RepDC at h; subst h; rfl
  | d :: ds, vs, h => by
    unfold RepDC at h
    obtain ⟨u, us, rfl, -, -, h2⟩ := h
    simp [repDC_len h2]
theorem repDL_len {c : Cx} : ∀ {ds : List D} {vs : List Value}, RepDL c vs ds → vs.length = ds.length
  | [], vs, h => by unfold RepDL at h; subst h; rfl
  | d :: ds, vs, h => by
    unfold RepDL at h
    obtain ⟨u, us, rfl, -, h2⟩ := h
    simp [repDL_len h2]
theorem repDC_one {c : Cx} : ∀ {ds : List D} {vs : List Value}, RepDC c vs ds → ∀ u ∈ vs, u.oneCell' = true
  | [], vs, h => by unfold RepDC at h; subst h; simp
  | d :: ds, vs, h => by
    unfold RepDC at h
    obtain ⟨u, us, rfl, h0, -, h2⟩ := h
    intro z hz
    rcases List.mem_cons.1 hz with rfl | hz
    · exact h0
    · exact repDC_one h2 z hz
theorem repDC_get {c : Cx} : ∀ {ds : List D} {vs : List Value}, RepDC c vs ds → ∀ {j : Nat} {d : D}, ds[j]? = some d → ∃ u, vs[j]? = some u ∧ u.oneCell' = true ∧ RepD c u d
  | [], vs, _, j, d, hj => by simp at hj
  | d :: ds, vs, h, j, d', hj => by
    unfold RepDC at h
    obtain ⟨u, us, rfl, h0, h1, h2⟩ := h
    cases j with
    | zero => simp at hj; subst hj; exact ⟨u, rfl, h0, h1⟩
    | succ j => simpa using repDC_get h2 (by simpa using hj)
theorem repDC_drop {c : Cx} : ∀ {ds : List D} {vs : List Value}, RepDC c vs ds → ∀ n, RepDC c (vs.drop n) (ds.drop n)
  | _, _, h, 0 => h
  | [], vs, h, n + 1 => by unfold RepDC at h; subst h; simp [RepDC]
  | d :: ds, vs, h, n + 1 => by
    unfold RepDC at h
    obtain ⟨u, us, rfl, -, -, h2⟩ := h
    simpa using repDC_drop h2 n
theorem repDC_take {c : Cx} : ∀ {ds : List D} {vs : List Value}, RepDC c vs ds → ∀ n, RepDC c (vs.take n) (ds.take n)
  | _, _, h, 0 => by simp [RepDC]
  | [], vs, h, n + 1 => by unfold RepDC at h; subst h; simp [RepDC]
  | d :: ds, vs, h, n + 1 => by
    unfold RepDC at h
    obtain ⟨u, us, rfl, h0, h1, h2⟩ := h
    simp only [List.take_succ_cons]
    unfold RepDC
    exact ⟨u, _, rfl, h0, h1, repDC_take h2 n⟩
theorem repDC_append {c : Cx} : ∀ {ds : List D} {vs : List Value} {es : List D} {us : List Value}, RepDC c vs ds → RepDC c us es → RepDC c (vs ++ us) (ds ++ es)
  | [], vs, es, us, h, k => by unfold RepDC at h; subst h; simpa using k
  | d :: ds, vs, es, us, h, k => by
    unfold RepDC at h
    obtain ⟨u, us', rfl, h0, h1, h2⟩ := h
    simp only [List.cons_append]
    unfold RepDC
    exact ⟨u, _, rfl, h0, h1, repDC_append h2 k⟩
theorem repDC_set {c : Cx} {u : Value} {d : D} (h0 : u.oneCell' = true) (h1 : RepD c u d) : ∀ {ds : List D} {vs : List Value}, RepDC c vs ds → ∀ j, RepDC c (vs.set j u) (ds.set j d)
  | [], vs, h, j => by unfold RepDC at h; subst h; simp [RepDC]
  | d' :: ds, vs, h, j => by
    unfold RepDC at h
    obtain ⟨u', us', rfl, k0, k1, k2⟩ := h
    cases j with
    | zero => simp only [List.set_cons_zero]; unfold RepDC; exact ⟨u, _, rfl, h0, h1, k2⟩
    | succ j => simp only [List.set_cons_succ]; unfold RepDC; exact ⟨u', _, rfl, k0, k1, repDC_set h0 h1 k2 j⟩
theorem repC_set {x : X} {u : Value} {d : FD} (h0 : u.oneCell' = true) (h1 : Rep x u d) : ∀ {ds : List FD} {vs : List Value}, RepC x vs ds → ∀ j, RepC x (vs.set j u) (ds.set j d)
  | [], vs, h, j => by unfold RepC at h; subst h; simp [RepC]
  | d' :: ds, vs, h, j => by
    unfold RepC at h
    obtain ⟨u', us', rfl, k0, k1, k2⟩ := h
    cases j with
    | zero => simp only [List.set_cons_zero]; unfold RepC; exact ⟨u, _, rfl, h0, h1, k2⟩
    | succ j => simp only [List.set_cons_succ]; unfold RepC; exact ⟨u', _, rfl, k0, k1, repC_set h0 h1 k2 j⟩
/-- frozen cells as cells -/
theorem repDC_f {c : Cx} : ∀ {ds : List FD} {vs : List Value}, RepC c.x vs ds → RepDC c vs (ds.map .f)
  | [], vs, h => by unfold RepC at h; subst h; simp [RepDC]
  | d :: ds, vs, h => by
    unfold RepC at h
    obtain ⟨u, us, rfl, h0, h1, h2⟩ := h
    simp only [List.map_cons]
    unfold RepDC
    exact ⟨u, us, rfl, h0, by unfold RepD; exact h1, repDC_f h2⟩
theorem repDL_f {c : Cx} : ∀ {ds : List FD} {vs : List Value}, RepL c.x vs ds → RepDL c vs (ds.map .f)
  | [], vs, h => by unfold RepL at h; subst h; simp [RepDL]
  | d :: ds, vs, h => by
    unfold RepL at h
    obtain ⟨u, us, rfl, h1, h2⟩ := h
    simp only [List.map_cons]
    unfold RepDL
    exact ⟨u, us, rfl, by unfold RepD; exact h1, repDL_f h2⟩
theorem repDL_get {c : Cx} : ∀ {ds : List D} {vs : List Value}, RepDL c vs ds → ∀ {j : Nat} {d : D}, ds[j]? = some d → ∃ u, vs[j]? = some u ∧ RepD c u d
  | [], vs, _, j, d, hj => by simp at hj
  | d :: ds, vs, h, j, d', hj => by
    unfold RepDL at h
    obtain ⟨u, us, rfl, h1, h2⟩ := h
    cases j with
    | zero => simp at hj; subst hj; exact ⟨u, rfl, h1⟩
    | succ j => simpa using repDL_get h2 (by simpa using hj)
theorem repDL_append {c : Cx} : ∀ {ds : List D} {vs : List Value} {es : List D} {us : List Value}, RepDL c vs ds → RepDL c us es → RepDL c (vs ++ us) (ds ++ es)
  | [], vs, es, us, h, k => by unfold RepDL at h; subst h; simpa using k
  | d :: ds, vs, es, us, h, k => by
    unfold RepDL at h
    obtain ⟨u, us', rfl, h1, h2⟩ := h
    simp only [List.cons_append]
    unfold RepDL
    exact ⟨u, _, rfl, h1, repDL_append h2 k⟩
theorem omap_cons {α β : Type} {f : α → Option β} {a : α} {l : List α} {r : List β} (h : omap f (a :: l) = some r) : ∃ b r', f a = some b ∧ omap f l = some r' ∧ r = b :: r' := by
  simp only [omap, Option.bind_eq_some_iff, Option.map_eq_some_iff] at h
  obtain ⟨b, h1, r', h2, rfl⟩ := h
  exact ⟨b, r', h1, h2, rfl⟩
theorem omap_nil {α β : Type} {f : α → Option β} {r : List β} (h : omap f [] = some r) : r = [] := by simpa [omap] using h.symm
theorem repC_asF {c : Cx} : ∀ {ds : List D} {fs : List FD} {vs : List Value}, omap asF ds = some fs → RepDC c vs ds → RepC c.x vs fs
  | [], fs, vs, h, k => by
    rw [omap_nil h]; unfold RepDC at k; subst k; simp [RepC]
  | d :: ds, fs, vs, h, k => by
    obtain ⟨b, r, h1, h2, rfl⟩ := omap_cons h
    unfold RepDC at k
    obtain ⟨u, us, rfl, k0, k1, k2⟩ := k
    unfold RepC
    refine ⟨u, us, rfl, k0, ?_, repC_asF h2 k2⟩
    cases d <;> simp [asF] at h1
    subst h1
    unfold RepD at k1
    exact k1
theorem repL_asF {c : Cx} : ∀ {ds : List D} {fs : List FD} {vs : List Value}, omap asF ds = some fs → RepDL c vs ds → RepL c.x vs fs
  | [], fs, vs, h, k => by
    rw [omap_nil h]; unfold RepDL at k; subst k; simp [RepL]
  | d :: ds, fs, vs, h, k => by
    obtain ⟨b, r, h1, h2, rfl⟩ := omap_cons h
    unfold RepDL at k
    obtain ⟨u, us, rfl, k1, k2⟩ := k
    unfold RepL
    refine ⟨u, us, rfl, ?_, repL_asF h2 k2⟩
    cases d <;> simp [asF] at h1
    subst h1
    unfold RepD at k1
    exact k1
theorem repD_mkAgg {c : Cx} {cs : List D} {vs : List Value} (h : RepDC c vs cs) : RepD c (.agg vs.toArray) (mkAgg cs) := by
  unfold mkAgg
  split
  · rename_i fs hf
    unfold RepD Rep
    exact ⟨vs, rfl, repC_asF hf h⟩
  · unfold RepD
    exact ⟨vs, rfl, h⟩
theorem repD_mkFn {c : Cx} {f : FuncId} {cs : List D} {vs : List Value} (h : RepDL c vs cs) : RepD c (.func (.func f) #[] vs.toArray) (mkFn f cs) := by
  unfold mkFn
  split
  · rename_i fs hf
    unfold RepD Rep
    exact ⟨vs, rfl, repL_asF hf h⟩
  · unfold RepD
    exact ⟨vs, rfl, h⟩

/-- a row of the call's own -/
def RowOk (c : Cx) (B id : Nat) (e ver sz : Nat) (xs : List (List FD)) : Prop :=
  ∃ v vs, c.E id ver = some v ∧ c.x.W.ownsRow B e sz v xs.length vs ∧ RepC c.x vs xs.flatten ∧ (∀ ds ∈ xs, ds.length = sz) ∧ 0 < sz ∧ ∀ g, v.ownBlock = some g → ∀ o, c.x.WS g o
/-- what lies behind an object of the call's own -/
def MemOk (c : Cx) (B id : Nat) : M → Prop
  | .blk cs => ∃ b vs T, c.E id 0 = some (.pointer (some ⟨b, 0, none⟩)) ∧ B ≤ b ∧ c.x.W.heap[b]? = some (.cells (List.toArray vs) T (0, 0)) ∧ RepDC c vs cs ∧ ∀ o, c.x.WS b o
  | .row e ver sz xs => RowOk c B id e ver sz xs
  | .rows rs => (∀ j r, rs[j]? = some r → RowOk c B id r.1 j r.2.1 r.2.2) ∧ ∀ j j' v v' b, j < rs.length → j' < rs.length → c.E id j = some v → c.E id j' = some v' → v.ownBlock = some b → v'.ownBlock = some b → j = j'
def Owns (c : Cx) (id : Nat) : M → Nat → Prop
  | .blk _, b => c.E id 0 = some (.pointer (some ⟨b, 0, none⟩))
  | .row _ ver _ _, b => ∃ v, c.E id ver = some v ∧ v.ownBlock = some b
  | .rows rs, b => ∃ j v, j < rs.length ∧ c.E id j = some v ∧ v.ownBlock = some b
theorem RowOk.ext {c c' : Cx} {B id e ver sz : Nat} {xs : List (List FD)} (h : RowOk c B id e ver sz xs) (hx : Ext c c') (hb : ∀ b v, c.E id ver = some v → v.ownBlock = some b → c'.x.W.heap[b]? = c.x.W.heap[b]?) (hw : ∀ b v, c.E id ver = some v → v.ownBlock = some b → ∀ o, c.x.WS b o → c'.x.WS b o) : RowOk c' B id e ver sz xs := by
  obtain ⟨v, vs, h1, h2, h3, h4, h5, h6⟩ := h
  refine ⟨v, vs, hx.env _ _ _ h1, ⟨h2.1, ?_⟩, RepC.mono hx.sub h3, h4, h5, fun g hg o => hw g v h1 hg o (h6 g hg o)⟩
  rcases h2.2 with hn | ⟨g, cap, cur, rfl, hb1, hg, rest⟩
  · exact .inl hn
  · exact .inr ⟨g, cap, cur, rfl, hb1, (hb g _ h1 rfl).trans hg, rest⟩

/-- an object that a step lets alone -/
theorem MemOk.ext {c c' : Cx} {B id : Nat} {m : M} (h : MemOk c B id m) (hx : Ext c c') (hb : ∀ b, Owns c id m b → c'.x.W.heap[b]? = c.x.W.heap[b]?) (hw : ∀ b, Owns c id m b → ∀ o, c.x.WS b o → c'.x.WS b o) : MemOk c' B id m := by
  cases m with
  | blk cs =>
    obtain ⟨b, vs, T, h1, h2, h3, h4, h5⟩ := h
    exact ⟨b, vs, T, hx.env _ _ _ h1, h2, (hb b h1).trans h3, RepDC.mono hx h4, fun o => hw b h1 o (h5 o)⟩
  | row e ver sz xs => exact RowOk.ext h hx (fun b v h1 h2 => hb b ⟨v, h1, h2⟩) (fun b v h1 h2 => hw b ⟨v, h1, h2⟩)
  | rows rs =>
    have lt : ∀ j r, rs[j]? = some r → j < rs.length := fun j r hj => (List.getElem?_eq_some_iff.1 hj).1
    have same : ∀ j v, j < rs.length → c'.E id j = some v → c.E id j = some v := fun j v hj hv => by
      obtain ⟨v0, vs, h1, -⟩ := h.1 j _ (List.getElem?_eq_getElem hj)
      rw [hx.env _ _ _ h1] at hv
      cases hv
      exact h1
    exact ⟨fun j r hj => (h.1 j r hj).ext hx (fun b v h1 h2 => hb b ⟨j, v, lt j r hj, h1, h2⟩) (fun b v h1 h2 => hw b ⟨j, v, lt j r hj, h1, h2⟩),
      fun j j' v v' b hj hj' hv hv' hb1 hb2 => h.2 j j' v v' b hj hj' (same j v hj hv) (same j' v' hj' hv') hb1 hb2⟩
theorem Owns.ext {c c' : Cx} {B id : Nat} {m : M} (hm : MemOk c B id m) (hx : Ext c c') {b : Nat} (h : Owns c' id m b) : Owns c id m b := by
  cases m with
  | blk cs =>
    obtain ⟨b', vs, T, h1, -⟩ := hm
    have := hx.env _ _ _ h1
    unfold Owns at h ⊢
    rw [this] at h
    rw [h1]; exact h
  | row e ver sz xs =>
    obtain ⟨v', vs, h1, -⟩ := hm
    obtain ⟨v, h2, h3⟩ := h
    have := hx.env _ _ _ h1
    rw [this] at h2
    cases h2
    exact ⟨v', h1, h3⟩
  | rows rs =>
    obtain ⟨j, v, hj, h2, h3⟩ := h
    obtain ⟨v', vs, h1, -⟩ := hm.1 j _ (List.getElem?_eq_getElem hj)
    have := hx.env _ _ _ h1
    rw [this] at h2
    cases h2
    exact ⟨j, _, hj, h1, h3⟩

/-- the part of memory -/
structure InvM (w0 : World) (WS0 : Nat → Nat → Prop) (c : Cx) (mm : Nat → Option M) : Prop where
  mem : ∀ id m, mm id = some m → MemOk c w0.heap.size id m
  inj : ∀ id id' m m' b, mm id = some m → mm id' = some m' → Owns c id m b → Owns c id' m' b → id = id'
  chg : Chg No w0 c.x.W
  ws0 : ∀ b o, WS0 b o → c.x.WS b o
  ws1 : ∀ b o, WS0 b o → b < w0.heap.size
  wsd : ∀ b o, c.x.WS b o → b < c.x.W.heap.size
  vers : ∀ g e ver sz xs, mm g = some (.row e ver sz xs) → ∀ k, ver < k → c.E g k = none
/-- the part of the frame -/
structure InvF (c : Cx) (a : Act) (st : St) : Prop where
  size : a.tmps.size = st.n
  defers : a.defers = []
  fr : ∀ t, RepD c (a.tmps.getD t undef) (st.fr t)
theorem InvF.ev {c : Cx} {a : Act} {st : St} (h : InvF c a st) (x : Operand) : RepD c (a.eval x) (st.ev x) := by
  cases x with
  | tmp t => exact h.fr t
  | const v => show RepD c v (.f (.v v)); unfold RepD Rep; rfl
  | global g => show RepD c _ (.f (.v _)); unfold RepD Rep; rfl
  | func f => show RepD c _ (.f (.fn f [])); unfold RepD Rep; exact ⟨[], rfl, by simp [RepL]⟩
theorem InvF.mono {c c' : Cx} {a : Act} {st : St} (h : InvF c a st) (hx : Ext c c') : InvF c' a st := ⟨h.size, h.defers, fun t => RepD.mono hx (h.fr t)⟩
theorem InvF.put {c : Cx} {a : Act} {st st' : St} (h : InvF c a st) (e1 : st'.fr = st.fr) (e2 : st'.n = st.n) {v : Value} {d : D} (hv : RepD c v d) (dst : Option Nat) : InvF c (a.put dst v) (st'.put dst d) := by
  obtain ⟨hs, hd, hf⟩ := h
  cases dst with
  | none => exact ⟨by show a.tmps.size = _; rw [hs]; exact e2.symm, hd, fun t => by show RepD c _ (st'.fr t); rw [e1]; exact hf t⟩
  | some t =>
    have hn : (st'.put (some t) d).n = st'.n := by unfold St.put; dsimp only; split <;> rfl
    by_cases ht : t < st'.n
    · refine ⟨by rw [hn, e2, ← hs]; simp [Act.put], hd, fun u => ?_⟩
      simp only [Act.put, St.put, if_pos ht, upd]
      by_cases hu : u = t
      · subst hu
        rw [if_pos rfl]
        have : u < a.tmps.size := by rw [hs, ← e2]; exact ht
        simpa [Array.getD, this] using hv
      · rw [if_neg hu, e1]
        have := hf u
        have e : (a.tmps.setIfInBounds t v).getD u undef = a.tmps.getD u undef := by
          simp [Array.getD_eq_getD_getElem?, Array.getElem?_setIfInBounds, Ne.symm hu]
        rw [e]; exact this
    · refine ⟨by rw [hn, e2, ← hs]; simp [Act.put], hd, fun u => ?_⟩
      simp only [Act.put, St.put, if_neg ht, e1]
      have e : a.tmps.setIfInBounds t v = a.tmps := by
        apply Array.setIfInBounds_eq_of_size_le
        rw [hs, ← e2]; omega
      rw [e]; exact hf u

/-- the chosen id is new -/
def Fresh (c : Cx) (mem : Nat → Option M) (id : Nat) : Prop := mem id = none ∧ ∀ v, c.E id v = none

def setE (E : Nat → Nat → Option Value) (id ver : Nat) (v : Value) : Nat → Nat → Option Value := fun i k => if i = id ∧ k = ver then some v else E i k
theorem setE_same (E : Nat → Nat → Option Value) (id ver : Nat) (v : Value) : setE E id ver v id ver = some v := by simp [setE]
theorem setE_old {E : Nat → Nat → Option Value} {id ver : Nat} {v : Value} (h : E id ver = none) {i k : Nat} {u : Value} (hu : E i k = some u) : setE E id ver v i k = some u := by
  unfold setE
  rw [if_neg]
  · exact hu
  · rintro ⟨rfl, rfl⟩; rw [h] at hu; cases hu
/-- a block is made -/
def Cx.alloc (c : Cx) (id : Nat) (v : Value) (o : Obj) : Cx := ⟨setE c.E id 0 v, ⟨fun b k => b = c.x.W.heap.size ∨ c.x.WS b k, c.x.W.alloc o⟩⟩
theorem Cx.alloc_ext {c : Cx} {id : Nat} {v : Value} {o : Obj} (h : c.E id 0 = none) : Ext c (c.alloc id v o) :=
  ⟨fun b k u hc hn => by
    have hb := World.block_lt_of_cell? _ _ hc
    exact ⟨(World.cell?_of_block (a := ⟨b, k, none⟩) (Below.heap_alloc _ _ _ hb)).trans hc, fun h => h.elim (fun e => by simp at hb; omega) hn⟩,
   fun i k u hu => setE_old h hu⟩
theorem rowOk_lt {c : Cx} {B id e ver sz : Nat} {xs : List (List FD)} (h : RowOk c B id e ver sz xs) {b : Nat} {v : Value} (k2 : c.E id ver = some v) (k3 : v.ownBlock = some b) : B ≤ b ∧ b < c.x.W.heap.size ∧ ∀ o, c.x.WS b o := by
  obtain ⟨v', vs, h1, h2, h3, h4, h5, h6⟩ := h
  rw [h1] at k2
  cases k2
  rcases h2.2 with ⟨rfl, -⟩ | ⟨g, cap, cur, rfl, hb1, hg, rest⟩
  · simp [Value.ownBlock] at k3
  · simp [Value.ownBlock] at k3
    subst k3
    exact ⟨hb1, lt_of_heap hg, h6 _ rfl⟩
theorem owns_lt {c : Cx} {B id : Nat} {m : M} (h : MemOk c B id m) {b : Nat} (ho : Owns c id m b) : B ≤ b ∧ b < c.x.W.heap.size ∧ ∀ o, c.x.WS b o := by
  cases m with
  | blk cs =>
    obtain ⟨b', vs, T, h1, h2, h3, h4, h5⟩ := h
    unfold Owns at ho
    rw [h1] at ho
    cases ho
    exact ⟨h2, lt_of_heap h3, h5⟩
  | row e ver sz xs =>
    obtain ⟨v, k2, k3⟩ := ho
    exact rowOk_lt h k2 k3
  | rows rs =>
    obtain ⟨j, v, hj, k2, k3⟩ := ho
    exact rowOk_lt (h.1 j _ (List.getElem?_eq_getElem hj)) k2 k3
/-- memory, with one object more -/
theorem InvM.add {w0 : World} {WS0 : Nat → Nat → Prop} {c : Cx} {mem : Nat → Option M} (h : InvM w0 WS0 c mem) {id : Nat} (hf : Fresh c mem id) {v : Value} {o : Obj} {m : M}
    (hm : MemOk (c.alloc id v o) w0.heap.size id m) (ho : ∀ b, Owns (c.alloc id v o) id m b → b = c.x.W.heap.size) (hv0 : ∀ e ver sz xs, m = .row e ver sz xs → ver = 0) : InvM w0 WS0 (c.alloc id v o) (upd mem id (some m)) := by
  have hx := Cx.alloc_ext (v := v) (o := o) (hf.2 0)
  have hold : ∀ i m', mem i = some m' → ∀ b, Owns (c.alloc id v o) i m' b → b < c.x.W.heap.size := fun i m' hi b hb => (owns_lt (h.mem i m' hi) (Owns.ext (h.mem i m' hi) hx hb)).2.1
  refine ⟨fun i m' hi => ?_, fun i i' m1 m2 b hi hi' h1 h2 => ?_, h.chg.alloc o, fun b k hb => .inr (h.ws0 b k hb), h.ws1, fun b k hb => ?_, fun g e ver sz xs hg k hk => ?_⟩
  · unfold upd at hi
    by_cases e : i = id
    · rw [if_pos e] at hi; cases hi; subst e; exact hm
    · rw [if_neg e] at hi
      exact (h.mem i m' hi).ext hx (fun b hb => Below.heap_alloc _ _ _ (owns_lt (h.mem i m' hi) hb).2.1) (fun b _ k hw => .inr hw)
  · unfold upd at hi hi'
    by_cases e : i = id <;> by_cases e' : i' = id
    · rw [e, e']
    · rw [if_pos e] at hi; rw [if_neg e'] at hi'; cases hi; subst e
      have := ho b h1; have := hold i' m2 hi' b h2; omega
    · rw [if_neg e] at hi; rw [if_pos e'] at hi'; cases hi'; subst e'
      have := ho b h2; have := hold i m1 hi b h1; omega
    · rw [if_neg e] at hi; rw [if_neg e'] at hi'
      exact h.inj i i' m1 m2 b hi hi' (Owns.ext (h.mem i m1 hi) hx h1) (Owns.ext (h.mem i' m2 hi') hx h2)
  · show b < (c.x.W.alloc o).heap.size
    simp only [World.size_alloc]
    rcases hb with e | hb
    · omega
    · have := h.wsd b k hb; omega
  · show setE c.E id 0 v g k = none
    unfold upd at hg
    unfold setE
    by_cases e2 : g = id
    · rw [if_pos e2] at hg; cases hg
      have := hv0 _ _ _ _ rfl
      rw [if_neg (by rintro ⟨-, rfl⟩; omega), e2]
      exact hf.2 k
    · rw [if_neg e2] at hg
      rw [if_neg (fun x => e2 x.1)]
      exact h.vers g e ver sz xs hg k hk
end Go.Dn
end
section
namespace Go.Dn
open Go.RowKit Go.Dk

variable {P : Program}

theorem lay_spec {t : TypeId} {ti : TI} (h : lay P t = some ti) : ∃ i d z k, P.info? t = some i ∧ P.underlying t = some d ∧ i.zero = some z ∧ kiOf P d = some k ∧ z.cells.toList.all Value.oneCell' = true ∧ z.cells.size = i.size ∧ ti = ⟨i.size, aggB P t, z.cells.toList, k⟩ := by
  simp only [lay, Option.bind_eq_some_iff] at h
  obtain ⟨i, h1, d, h2, z, h3, k, h4, h5⟩ := h
  split at h5
  · rename_i hc
    simp only [Bool.and_eq_true, beq_iff_eq] at hc
    cases h5
    exact ⟨i, d, z, k, h1, h2, h3, h4, hc.1, hc.2, rfl⟩
  · cases h5
theorem lay_size {t : TypeId} {ti : TI} (h : lay P t = some ti) (w : World) : (sizeOf t).run P w = .ok ti.size w := by
  obtain ⟨i, d, z, k, h1, h2, h3, h4, h5, h6, rfl⟩ := lay_spec h
  simp [sizeOf, typeInfo, h1]
theorem lay_isAgg {t : TypeId} {ti : TI} (h : lay P t = some ti) (w : World) : (isAgg t).run P w = .ok ti.agg w := by
  obtain ⟨i, d, z, k, h1, h2, h3, h4, h5, h6, rfl⟩ := lay_spec h
  simp only [aggB, h2]
  cases d <;> simp [isAgg, run_underlying h2]
theorem run_isAggB {t : TypeId} {i : TypeInfo} (h : P.info? t = some i) (w : World) : (∃ d, P.underlying t = some d) → (isAgg t).run P w = .ok (aggB P t) w := by
  rintro ⟨d, hd⟩
  simp only [aggB, hd]
  cases d <;> simp [isAgg, run_underlying hd]

theorem wp_value {o : Oper} {a : Act} {w w' : World} {v : Value} {next : Act → World → Prop} {Q : Exit → Act → World → Prop}
    (h : (execOp a.eval o).run P w = .ok (.value v) w') (hk : next (a.put o.dst v) w') : o.wp P a w next Q := by
  unfold Oper.wp
  rw [h]
  exact hk
theorem wp_skip' {o : Oper} {a : Act} {w w' : World} {next : Act → World → Prop} {Q : Exit → Act → World → Prop}
    (h : (execOp a.eval o).run P w = .ok .skip w') (hk : next (a.put o.dst undef) w') : o.wp P a w next Q := by
  unfold Oper.wp
  rw [h]
  exact hk
theorem wp_enter {o : Oper} {a : Act} {w w' : World} {f : FuncId} {args : Array Value} {next : Act → World → Prop} {Q : Exit → Act → World → Prop}
    (h : (execOp a.eval o).run P w = .ok (.enter f args) w') {R : Value → World → Prop} (hc : Calls P f args w' fun e w'' => ∃ v, e = .returned v ∧ R v w'') (hk : ∀ v w'', R v w'' → next (a.put o.dst v) w'') : o.wp P a w next Q := by
  unfold Oper.wp
  rw [h]
  exact hc.mono fun e w'' ⟨v, he, hr⟩ => by subst he; exact hk v w'' hr

/-- what an operation goes on with -/
def Goes (w0 : World) (WS0 : Nat → Nat → Prop) (c : Cx) (a : Act) (st : St) (id : Nat) (dst : Option Nat) (K : D → St → Prop) (next : Act → World → Prop) : Prop :=
  ∀ c' v d st', K d st' → st'.fr = st.fr → st'.n = st.n → st'.next = st.next → Ext c c' → InvM w0 WS0 c' st'.mem → RepD c' v d → (∀ i, i ≠ id → Fresh c st.mem i → Fresh c' st'.mem i) → next (a.put dst v) c'.x.W
theorem Goes.val {w0 : World} {WS0 : Nat → Nat → Prop} {c : Cx} {a : Act} {st : St} {id : Nat} {dst : Option Nat} {K : D → St → Prop} {next : Act → World → Prop} (h : Goes w0 WS0 c a st id dst K next) (hM : InvM w0 WS0 c st.mem)
    {d : D} (hK : K d st) {v : Value} (hv : RepD c v d) : next (a.put dst v) c.x.W := h c v d st hK rfl rfl rfl (Ext.refl c) hM hv fun _ _ hf => hf
/-- an object more -/
theorem Goes.add {w0 : World} {WS0 : Nat → Nat → Prop} {c : Cx} {a : Act} {st : St} {id : Nat} {dst : Option Nat} {K : D → St → Prop} {next : Act → World → Prop} (h : Goes w0 WS0 c a st id dst K next) (hM : InvM w0 WS0 c st.mem) (hf : Fresh c st.mem id)
    {d : D} {m : M} (hK : K d (st.new id m)) {v u : Value} {o : Obj} (hm : MemOk (c.alloc id u o) w0.heap.size id m) (ho : ∀ b, Owns (c.alloc id u o) id m b → b = c.x.W.heap.size) (hv0 : ∀ e ver sz xs, m = .row e ver sz xs → ver = 0) (hv : RepD (c.alloc id u o) v d) : next (a.put dst v) (c.x.W.alloc o) :=
  h (c.alloc id u o) v d (st.new id m) hK rfl rfl rfl (Cx.alloc_ext (hf.2 0)) (hM.add hf hm ho hv0) hv fun i hi hfi => ⟨by simp only [St.new, upd, if_neg hi]; exact hfi.1, fun k => by
    show setE c.E id 0 u i k = none
    unfold setE
    rw [if_neg (fun e => hi e.1)]; exact hfi.2 k⟩
theorem repDC_v {c : Cx} : ∀ {vs : List Value}, vs.all Value.oneCell' = true → RepDC c vs (vs.map fun v => .f (.v v))
  | [], _ => by simp [RepDC]
  | v :: vs, h => by
    simp only [List.all_cons, Bool.and_eq_true] at h
    simp only [List.map_cons]
    unfold RepDC
    exact ⟨v, vs, rfl, h.1, by unfold RepD Rep; rfl, repDC_v h.2⟩
theorem repC_v {x : X} : ∀ {vs : List Value}, vs.all Value.oneCell' = true → RepC x vs (vs.map .v)
  | [], _ => by simp [RepC]
  | v :: vs, h => by
    simp only [List.all_cons, Bool.and_eq_true] at h
    simp only [List.map_cons]
    unfold RepC
    exact ⟨v, vs, rfl, h.1, by unfold Rep; rfl, repC_v h.2⟩
/-- a variable is made -/
theorem Goes.blk {w0 : World} {WS0 : Nat → Nat → Prop} {c : Cx} {a : Act} {st : St} {id : Nat} {dst : Option Nat} {K : D → St → Prop} {next : Act → World → Prop} (h : Goes w0 WS0 c a st id dst K next) (hM : InvM w0 WS0 c st.mem) (hf : Fresh c st.mem id)
    {cs : List D} {vs : List Value} {T : TypeId} (hr : RepDC c vs cs) (hK : K (.loc id 0) (st.new id (.blk cs))) : next (a.put dst (.pointer (some ⟨c.x.W.heap.size, 0, none⟩))) (c.x.W.alloc (.cells vs.toArray T)) := by
  have hx := Cx.alloc_ext (v := .pointer (some ⟨c.x.W.heap.size, 0, none⟩)) (o := .cells vs.toArray T) (hf.2 0)
  refine h.add hM hf hK (u := .pointer (some ⟨c.x.W.heap.size, 0, none⟩)) ⟨c.x.W.heap.size, vs, T, setE_same _ _ _ _, hM.chg.size, heap_alloc_new _ _, RepDC.mono hx hr, fun o => .inl rfl⟩ ?_ (fun _ _ _ _ hh => by cases hh) ?_
  · intro b hb
    unfold Owns at hb
    have := (setE_same c.E id 0 (.pointer (some ⟨c.x.W.heap.size, 0, none⟩))).symm.trans hb
    simpa using this.symm
  · unfold RepD
    exact ⟨_, setE_same _ _ _ _, rfl⟩
/-- the cells of a value -/
theorem cellsD_rep {c : Cx} {v : Value} {d : D} {cs : List D} (h : RepD c v d) (hc : cellsD d = some cs) : RepDC c v.cells.toList cs := by
  have single : ∀ {u : Value} {d : D}, RepD c u d → u.oneCell' = true → RepDC c u.cells.toList [d] := fun {u d} h h1 => by
    have : u.cells.toList = [u] := by cases u <;> simp_all [Value.cells, Value.oneCell']
    rw [this]
    unfold RepDC
    exact ⟨u, [], rfl, h1, h, by simp [RepDC]⟩
  cases d with
  | top => simp [cellsD] at hc
  | f x =>
    cases x with
    | v u =>
      simp only [cellsD] at hc
      split at hc
      · rename_i h1
        cases hc
        have e := h
        unfold RepD Rep at e
        subst e
        exact single h h1
      · cases hc
    | agg cs' =>
      simp only [cellsD, Option.some.injEq] at hc
      subst hc
      unfold RepD Rep at h
      obtain ⟨vs, rfl, hr⟩ := h
      simpa [Value.cells] using repDC_f hr
    | tup cs' => simp [cellsD] at hc
    | sl sz xs =>
      simp only [cellsD, Option.some.injEq] at hc
      subst hc
      have h' := h
      unfold RepD Rep at h'
      obtain ⟨a, cap, rfl, -⟩ := h'
      exact single h rfl
    | ref cs' =>
      simp only [cellsD, Option.some.injEq] at hc
      subst hc
      have h' := h
      unfold RepD Rep at h'
      obtain ⟨a, cap, rfl, -⟩ := h'
      exact single h rfl
    | fn f caps =>
      simp only [cellsD, Option.some.injEq] at hc
      subst hc
      have h' := h
      unfold RepD Rep at h'
      obtain ⟨vs, rfl, -⟩ := h'
      exact single h rfl
  | agg cs' =>
    simp only [cellsD, Option.some.injEq] at hc
    subst hc
    unfold RepD at h
    obtain ⟨vs, rfl, hr⟩ := h
    simpa [Value.cells] using hr
  | loc id off =>
    simp only [cellsD, Option.some.injEq] at hc
    subst hc
    have h' := h
    unfold RepD at h'
    obtain ⟨b, -, rfl⟩ := h'
    exact single h rfl
  | own g ver =>
    simp only [cellsD, Option.some.injEq] at hc
    subst hc
    have h' := h
    unfold RepD at h'
    obtain ⟨-, a, n, cap, rfl⟩ := h'
    exact single h rfl
  | rowp g ver sz i off =>
    simp only [cellsD, Option.some.injEq] at hc
    subst hc
    have h' := h
    unfold RepD at h'
    obtain ⟨b, n, cap, -, rfl⟩ := h'
    exact single h rfl
  | fn f caps =>
    simp only [cellsD, Option.some.injEq] at hc
    subst hc
    have h' := h
    unfold RepD at h'
    obtain ⟨vs, rfl, -⟩ := h'
    exact single h rfl
  | tup cs' => simp [cellsD] at hc

/-! ### Parts and cells -/
theorem updCells_len {α : Type} (cs : List α) (off : Nat) (vs : List α) (h : off + vs.length ≤ cs.length) : (updCells cs off vs).length = cs.length := by
  unfold updCells
  split
  · simp
  · simp; omega
theorem updCells_eq {α : Type} (cs : List α) (off : Nat) (vs : List α) (h : off + vs.length ≤ cs.length) : updCells cs off vs = cs.take off ++ (vs ++ cs.drop (off + vs.length)) := by
  unfold updCells
  split
  · rename_i v
    simp only [List.length_singleton] at h ⊢
    rw [List.set_eq_take_append_cons_drop, if_pos (by omega)]
    rfl
  · rfl
theorem repDC_upd {c : Cx} {vs us : List Value} {cs ds : List D} (h : RepDC c vs cs) (k : RepDC c us ds) (off : Nat) (hl : off + ds.length ≤ cs.length) : RepDC c (updCells vs off us) (updCells cs off ds) := by
  have e1 := repDC_len h
  have e2 := repDC_len k
  rw [updCells_eq _ _ _ hl, updCells_eq _ _ _ (by omega)]
  rw [e2]
  exact repDC_append (repDC_take h _) (repDC_append k (repDC_drop h _))
theorem repC_upd {x : X} {vs us : List Value} {cs ds : List FD} (h : RepC x vs cs) (k : RepC x us ds) (off : Nat) (hl : off + ds.length ≤ cs.length) : RepC x (updCells vs off us) (updCells cs off ds) := by
  have e1 := repC_len h
  have e2 := repC_len k
  rw [updCells_eq _ _ _ hl, updCells_eq _ _ _ (by omega)]
  rw [e2]
  exact repC_append (repC_take h _) (repC_append k (repC_drop h _))
theorem partD_rep {c : Cx} {vs : List Value} {cs : List D} (h : RepDC c vs cs) {off size : Nat} {agg : Bool} {d : D} (hp : partD cs off size agg = some d) :
    (agg = true ∧ off + size ≤ vs.length ∧ RepD c (.agg ((vs.drop off).take size).toArray) d) ∨ (agg = false ∧ ∃ u, vs[off]? = some u ∧ RepD c u d) := by
  unfold partD at hp
  split at hp
  · rename_i ha
    split at hp
    · rename_i hl
      cases hp
      exact .inl ⟨ha, by rw [repDC_len h]; exact hl, repD_mkAgg (repDC_take (repDC_drop h _) _)⟩
    · cases hp
  · rename_i ha
    obtain ⟨u, h1, -, h2⟩ := repDC_get h hp
    exact .inr ⟨by simpa using ha, u, h1, h2⟩
theorem partF_rep {x : X} {vs : List Value} {cs : List FD} (h : RepC x vs cs) {size : Nat} {agg : Bool} {d : FD} (hp : partF cs size agg = some d) :
    (agg = true ∧ size ≤ vs.length ∧ Rep x (.agg (vs.take size).toArray) d) ∨ (agg = false ∧ ∃ u, vs[0]? = some u ∧ Rep x u d) := by
  unfold partF at hp
  split at hp
  · rename_i ha
    split at hp
    · rename_i hl
      cases hp
      refine .inl ⟨ha, by rw [repC_len h]; exact hl, ?_⟩
      unfold Rep
      exact ⟨_, rfl, repC_take h _⟩
    · cases hp
  · rename_i ha
    obtain ⟨u, h1, -, h2⟩ := repC_get h hp
    exact .inr ⟨by simpa using ha, u, h1, h2⟩
/-- a variable's value is read -/
theorem run_loadVarB {t : TypeId} {ti : TI} (ht : lay P t = some ti) {w : World} {b o : Nat} {vs : List Value} (hc : ∀ j u, vs[j]? = some u → w.cell? ⟨b, o + j, none⟩ = some u) {v : Value}
    (h : (ti.agg = true ∧ ti.size ≤ vs.length ∧ v = .agg (vs.take ti.size).toArray) ∨ (ti.agg = false ∧ vs[0]? = some v)) : (loadVar t ⟨b, o, none⟩).run P w = .ok v w := by
  unfold loadVar
  simp only [Sem.run_bind, lay_isAgg ht, Result.andThen_ok]
  rcases h with ⟨h1, h2, rfl⟩ | ⟨h1, h2⟩
  · rw [h1]
    simp only [if_true, Sem.run_bind, lay_size ht, Result.andThen_ok]
    have := run_loadCells_list (P := P) w ⟨b, o, none⟩ (vs.take ti.size) (fun j u hu => by
      rw [Addr.add_mid]
      rw [List.getElem?_take] at hu
      split at hu
      · exact hc j u hu
      · cases hu)
    rw [List.length_take, Nat.min_eq_left h2] at this
    rw [this]
    rfl
  · rw [h1]
    have := hc 0 v h2
    simp only [Nat.add_zero] at this
    simp [load, Sem.run, this]
/-- cells at an address of frozen data, or of the call's own -/
theorem loadD_rep {w0 : World} {WS0 : Nat → Nat → Prop} {c : Cx} {mem : Nat → Option M} (hM : InvM w0 WS0 c mem) {t : TypeId} {ti : TI} (ht : lay P t = some ti) {v : Value} {x d : D} (hx : RepD c v x) (h : loadD mem ti.size ti.agg x = some d) :
    ∃ b o u, v = .pointer (some ⟨b, o, none⟩) ∧ (loadVar t ⟨b, o, none⟩).run P c.x.W = .ok u c.x.W ∧ RepD c u d := by
  cases x with
  | loc id off =>
    simp only [loadD] at h
    split at h
    · rename_i cs hm
      obtain ⟨b, vs, T, h1, h2, h3, h4, h5⟩ := hM.mem _ _ hm
      unfold RepD at hx
      obtain ⟨b', e1, rfl⟩ := hx
      rw [h1] at e1
      cases e1
      have hc : ∀ j u, (vs.drop off)[j]? = some u → c.x.W.cell? ⟨b, off + j, none⟩ = some u := fun j u hu => cell_of_heap h3 (by rw [List.getElem?_drop] at hu; simpa using hu)
      rcases partD_rep h4 h with ⟨k1, k2, k3⟩ | ⟨k1, u, k2, k3⟩
      · exact ⟨b, off, _, rfl, run_loadVarB ht hc (.inl ⟨k1, by simp; omega, rfl⟩), k3⟩
      · exact ⟨b, off, u, rfl, run_loadVarB ht hc (.inr ⟨k1, by simpa using k2⟩), k3⟩
    · cases h
  | f y =>
    cases y with
    | ref cs =>
      simp only [loadD, Option.map_eq_some_iff] at h
      obtain ⟨d', h, rfl⟩ := h
      unfold RepD Rep at hx
      obtain ⟨b, o, rfl, hr⟩ := hx
      obtain ⟨vs, h1, hc⟩ := repA_cells hr
      rcases partF_rep h1 h with ⟨k1, k2, k3⟩ | ⟨k1, u, k2, k3⟩
      · exact ⟨b, o, _, rfl, run_loadVarB ht hc (.inl ⟨k1, k2, rfl⟩), by unfold RepD; exact k3⟩
      · exact ⟨b, o, u, rfl, run_loadVarB ht hc (.inr ⟨k1, k2⟩), by unfold RepD; exact k3⟩
    | _ => simp [loadD] at h
  | rowp g ver z i off =>
    simp only [loadD] at h
    split at h
    · rename_i e v' sz xs hm
      split at h
      · rename_i hv
        obtain ⟨rfl, rfl⟩ := hv
        simp only [Option.bind_eq_some_iff, Option.map_eq_some_iff] at h
        obtain ⟨cs, h0, d', h, rfl⟩ := h
        obtain ⟨v0, vs, h1, h2, h3, h4, h5, h6⟩ := hM.mem _ _ hm
        unfold RepD at hx
        obtain ⟨b, n, cap, e1, rfl⟩ := hx
        rw [h1] at e1
        cases e1
        have hcells := h2.cells (g := b) rfl
        have hil : i < xs.length := (List.getElem?_eq_some_iff.1 h0).1
        have hlen : cs.length = sz := h4 cs (List.mem_of_getElem? h0)
        have hdrop : xs.flatten.drop (i * sz) = cs ++ (xs.drop (i + 1)).flatten := by
          clear h h3 h6 hM hm h1 h2 hcells ht
          induction xs generalizing i with
          | nil => simp at hil
          | cons y ys ih =>
            have hy : y.length = sz := h4 y (List.mem_cons_self ..)
            cases i with
            | zero => simp at h0; subst h0; simp
            | succ i =>
              simp only [List.flatten_cons, Nat.succ_mul, List.drop_succ_cons]
              rw [Nat.add_comm, List.drop_append, hy, List.drop_eq_nil_of_le (by omega)]
              simp only [List.nil_append]
              rw [show sz + i * sz - sz = i * sz by omega]
              exact ih i (by simpa using h0) (fun ds hd => h4 ds (List.mem_cons_of_mem _ hd)) (by simpa using hil)
        have hr := repC_take (repC_drop h3 (i * sz)) sz
        rw [hdrop] at hr
        have ht' : (cs ++ (xs.drop (i + 1)).flatten).take sz = cs := by rw [← hlen]; simp
        rw [ht'] at hr
        have hr2 := repC_drop hr off
        have hc : ∀ j u, (((vs.drop (i * sz)).take sz).drop off)[j]? = some u → c.x.W.cell? ⟨b, i * sz + off + j, none⟩ = some u := fun j u hu => by
          rw [List.getElem?_drop, List.getElem?_take] at hu
          split at hu
          · rw [List.getElem?_drop] at hu
            have := hcells _ _ hu
            rw [Addr.add_mid] at this
            simpa [Nat.add_assoc] using this
          · cases hu
        rcases partF_rep hr2 h with ⟨k1, k2, k3⟩ | ⟨k1, u, k2, k3⟩
        · exact ⟨b, _, _, rfl, run_loadVarB ht hc (.inl ⟨k1, k2, rfl⟩), by unfold RepD; exact k3⟩
        · exact ⟨b, _, u, rfl, run_loadVarB ht hc (.inr ⟨k1, k2⟩), by unfold RepD; exact k3⟩
      · cases h
    · cases h
  | _ => simp [loadD] at h

/-! ### A store -/
/-- one object's cells are written -/
def Cx.row (c : Cx) (b : Nat) (vs : List Value) : Cx := ⟨c.E, ⟨c.x.WS, c.x.W.setRow b vs.toArray⟩⟩
theorem setRow_other {w : World} {g : Nat} {cs : Array Value} {k : Nat} (h : k ≠ g) : (w.setRow g cs).heap[k]? = w.heap[k]? := by
  simp [World.setRow, Array.getElem?_modify, Ne.symm h]
theorem Cx.row_ext {c : Cx} {b : Nat} {vs : List Value} (h : ∀ o, c.x.WS b o) : Ext c (c.row b vs) :=
  ⟨fun b' k u hc hn => ⟨(World.cell?_of_block (a := ⟨b', k, none⟩) (setRow_other (fun e => by dsimp only at e; subst e; exact hn (h k)))).trans hc, hn⟩, fun _ _ _ h => h⟩
theorem Chg.setRow {S : Nat → Prop} {w w' : World} (h : Chg S w w') {g : Nat} {cs : Array Value} (hg : w.heap.size ≤ g) : Chg S w (w'.setRow g cs) :=
  ⟨h.os, h.tape, h.output, by simpa [World.setRow] using h.size, fun k hk hn => (setRow_other (by omega)).trans (h.block k hk hn)⟩
theorem InvM.row {w0 : World} {WS0 : Nat → Nat → Prop} {c : Cx} {mem : Nat → Option M} (h : InvM w0 WS0 c mem) {id b : Nat} {m m' : M} (hm : mem id = some m) (ho : Owns c id m b) {vs : List Value}
    (hm' : MemOk (c.row b vs) w0.heap.size id m') (hs : ∀ b', Owns c id m' b' → b' = b) (hv : ∀ e ver sz xs, m' = .row e ver sz xs → ∀ k, ver < k → c.E id k = none) : InvM w0 WS0 (c.row b vs) (upd mem id (some m')) := by
  obtain ⟨hb1, hb2, hb3⟩ := owns_lt (h.mem _ _ hm) ho
  have hx := Cx.row_ext (vs := vs) hb3
  refine ⟨fun i m1 hi => ?_, fun i i' m1 m2 b' hi hi' h1 h2 => ?_, Chg.setRow h.chg hb1, h.ws0, h.ws1, fun b' k hb => by simpa [Cx.row, World.setRow] using h.wsd b' k hb, fun g e ver sz xs hg k hk => ?_⟩
  · unfold upd at hi
    by_cases e : i = id
    · rw [if_pos e] at hi; cases hi; subst e; exact hm'
    · rw [if_neg e] at hi
      refine (h.mem i m1 hi).ext hx (fun b' hb' => setRow_other fun e2 => ?_) (fun _ _ _ hw => hw)
      subst e2
      exact e (h.inj i id m1 m _ hi hm hb' ho)
  · unfold upd at hi hi'
    have back : ∀ i m1, Owns (c.row b vs) i m1 b' → Owns c i m1 b' := fun i m1 h => by cases m1 <;> exact h
    by_cases e : i = id <;> by_cases e' : i' = id
    · rw [e, e']
    · rw [if_pos e] at hi; rw [if_neg e'] at hi'; cases hi; subst e
      have e2 := hs b' (back _ _ h1)
      subst e2
      exact h.inj _ _ m m2 _ hm hi' ho (back _ _ h2)
    · rw [if_neg e] at hi; rw [if_pos e'] at hi'; cases hi'; subst e'
      have e2 := hs b' (back _ _ h2)
      subst e2
      exact h.inj _ _ m1 m _ hi hm (back _ _ h1) ho
    · rw [if_neg e] at hi; rw [if_neg e'] at hi'
      exact h.inj i i' m1 m2 b' hi hi' (back _ _ h1) (back _ _ h2)
  · show c.E g k = none
    unfold upd at hg
    by_cases e2 : g = id
    · rw [if_pos e2] at hg; cases hg; subst e2; exact hv _ _ _ _ rfl k hk
    · rw [if_neg e2] at hg; exact h.vers g e ver sz xs hg k hk
theorem run_storeVarB {t : TypeId} {ti : TI} (ht : lay P t = some ti) {w : World} {b o : Nat} {vs : List Value} {T : TypeId} (hb : w.heap[b]? = some (.cells vs.toArray T (0, 0))) {v : Value} (hv : v.cells.size = ti.size) (hl : o + v.cells.size ≤ vs.length) (h1 : ∀ u ∈ v.cells.toList, u.oneCell' = true) :
    (storeVar t ⟨b, o, none⟩ v).run P w = .ok () (w.setRow b (updCells vs o v.cells.toList).toArray) := by
  unfold storeVar
  simp only [Sem.run_bind, lay_size ht, Result.andThen_ok]
  have hst := run_storeCells_at P b o T v.cells.toList 0 vs.toArray w hb (by simpa using hl) h1
  have e : (updCells vs o v.cells.toList) = vs.take (o + 0) ++ v.cells.toList ++ vs.drop (o + 0 + v.cells.toList.length) := by
    rw [updCells_eq _ _ _ (by simpa using hl)]; simp
  rw [e]
  simp only [List.toList_toArray] at hst
  simp [hv, hst]
theorem take_flat {sz : Nat} : ∀ {xs : List (List FD)} (_ : ∀ ds ∈ xs, ds.length = sz) (i : Nat), xs.flatten.take (i * sz) = (xs.take i).flatten
  | [], _, i => by simp
  | y :: ys, h, 0 => by simp
  | y :: ys, h, i + 1 => by
    have hy : y.length = sz := h y (List.mem_cons_self ..)
    simp only [List.flatten_cons, Nat.succ_mul, List.take_succ_cons]
    rw [Nat.add_comm, List.take_append, hy, List.take_of_length_le (by omega), show sz + i * sz - sz = i * sz by omega, take_flat (fun ds hd => h ds (List.mem_cons_of_mem _ hd)) i]
theorem drop_flat {sz : Nat} : ∀ {xs : List (List FD)} (_ : ∀ ds ∈ xs, ds.length = sz) (i : Nat), xs.flatten.drop (i * sz) = (xs.drop i).flatten
  | [], _, i => by simp
  | y :: ys, h, 0 => by simp
  | y :: ys, h, i + 1 => by
    have hy : y.length = sz := h y (List.mem_cons_self ..)
    simp only [List.flatten_cons, Nat.succ_mul, List.drop_succ_cons]
    rw [Nat.add_comm, List.drop_append, hy, List.drop_eq_nil_of_le (by omega), show sz + i * sz - sz = i * sz by omega, drop_flat (fun ds hd => h ds (List.mem_cons_of_mem _ hd)) i]
    simp
theorem len_flat {sz : Nat} : ∀ {xs : List (List FD)} (_ : ∀ ds ∈ xs, ds.length = sz), xs.flatten.length = xs.length * sz
  | [], _ => by simp
  | y :: ys, h => by
    have hy : y.length = sz := h y (List.mem_cons_self ..)
    simp only [List.flatten_cons, List.length_append, List.length_cons, Nat.succ_mul, len_flat (fun ds hd => h ds (List.mem_cons_of_mem _ hd)), hy]
    omega
/-- an element's cells are written -/
theorem set_flat {sz : Nat} {xs : List (List FD)} (h : ∀ ds ∈ xs, ds.length = sz) {i : Nat} {cs : List FD} (hi : xs[i]? = some cs) {off : Nat} {fs : List FD} (hl : off + fs.length ≤ cs.length) :
    (xs.set i (updCells cs off fs)).flatten = updCells xs.flatten (i * sz + off) fs := by
  have hil : i < xs.length := (List.getElem?_eq_some_iff.1 hi).1
  have hcs : cs.length = sz := h cs (List.mem_of_getElem? hi)
  have hfl := len_flat h
  have hmul : i * sz + sz ≤ xs.length * sz := by rw [← Nat.succ_mul]; exact Nat.mul_le_mul_right _ hil
  rw [updCells_eq xs.flatten _ _ (by omega), List.set_eq_take_append_cons_drop, if_pos hil]
  simp only [List.flatten_append, List.flatten_cons]
  rw [← take_flat h i, ← drop_flat h (i + 1), updCells_eq _ _ _ hl]
  have e0 : xs.flatten.drop (i * sz) = cs ++ xs.flatten.drop ((i + 1) * sz) := by
    rw [drop_flat h, drop_flat h]
    rw [List.drop_eq_getElem_cons hil]
    have : xs[i] = cs := by
      have := List.getElem?_eq_getElem hil
      rw [hi] at this
      exact (Option.some.inj this).symm
    simp [this]
  have e1 : xs.flatten.take (i * sz + off) = xs.flatten.take (i * sz) ++ cs.take off := by
    rw [List.take_add, e0, List.take_append_of_le_length (by omega)]
  have e2 : xs.flatten.drop (i * sz + off + fs.length) = cs.drop (off + fs.length) ++ xs.flatten.drop ((i + 1) * sz) := by
    rw [Nat.add_assoc, ← List.drop_drop, e0, List.drop_append_of_le_length (by omega)]
  rw [e1, e2]
  simp [List.append_assoc]
theorem asF_map {c : Cx} : ∀ {ds : List D} {fs : List FD}, omap asF ds = some fs → ds.length = fs.length
  | [], fs, h => by rw [omap_nil h]; rfl
  | d :: ds, fs, h => by
    obtain ⟨b, r, h1, h2, rfl⟩ := omap_cons h
    simp [asF_map (c := c) h2]
theorem storeD_goes {w0 : World} {WS0 : Nat → Nat → Prop} {c : Cx} {a : Act} {st : St} {id : Nat} {dst : Option Nat} {K : D → St → Prop} {next : Act → World → Prop} (h : Goes w0 WS0 c a st id dst K next) (hM : InvM w0 WS0 c st.mem)
    {t : TypeId} {ti : TI} (ht : lay P t = some ti) {x : D} {p v : Value} (hp : RepD c p x) {cs : List D} (hcs : RepDC c v.cells.toList cs) (hn : cs.length = ti.size) {st' : St} (hs : storeD st cs x = some st') (hK : K undefD st') :
    ∃ w' b o, p = .pointer (some ⟨b, o, none⟩) ∧ (storeVar t ⟨b, o, none⟩ v).run P c.x.W = .ok () w' ∧ next (a.put dst undef) w' := by
  have hvs : v.cells.size = ti.size := by rw [← hn, ← repDC_len hcs]; simp
  have h1v := repDC_one hcs
  cases x with
  | loc id' off =>
    simp only [storeD] at hs
    split at hs
    · rename_i olds hm
      split at hs
      · rename_i hl
        cases hs
        obtain ⟨b, vs, T, h1, h2, h3, h4, h5⟩ := hM.mem _ _ hm
        unfold RepD at hp
        obtain ⟨b', e1, rfl⟩ := hp
        rw [h1] at e1
        cases e1
        have ho : Owns c id' (.blk olds) b := h1
        have hlv : off + v.cells.size ≤ vs.length := by rw [hvs, ← hn, repDC_len h4]; exact hl
        refine ⟨_, b, off, rfl, run_storeVarB ht h3 hvs hlv h1v, ?_⟩
        have hx := Cx.row_ext (vs := updCells vs off v.cells.toList) h5
        refine h (c.row b (updCells vs off v.cells.toList)) undef undefD _ hK rfl rfl rfl hx ?_ (by unfold undefD RepD Rep; rfl) (fun i hi hf => ?_)
        · refine hM.row (m' := .blk (updCells olds off cs)) (vs := updCells vs off v.cells.toList) hm ho ⟨b, _, T, h1, h2, ?_, RepDC.mono hx (repDC_upd h4 hcs off hl), h5⟩ (fun b' hb' => ?_) ?_
          · show (c.x.W.setRow b _).heap[b]? = _
            exact setRow_heap _ b _ _ T _ h3
          · unfold Owns at hb'; rw [h1] at hb'; simpa using hb'.symm
          · intro e ver sz xs hh; cases hh
        · refine ⟨?_, hf.2⟩
          simp only [St.new, upd]
          by_cases e : i = id'
          · subst e; rw [hf.1] at hm; cases hm
          · rw [if_neg e]; exact hf.1
      · cases hs
    · cases hs
  | rowp g ver z i off =>
    simp only [storeD] at hs
    split at hs
    · rename_i e v' sz xs hm
      split at hs
      · rename_i hv
        obtain ⟨rfl, rfl⟩ := hv
        simp only [Option.bind_eq_some_iff] at hs
        obtain ⟨es, h0, fs, hfs, hs⟩ := hs
        split at hs
        · rename_i hl
          cases hs
          obtain ⟨v0, vs, h1, h2, h3, h4, h5, h6⟩ := hM.mem _ _ hm
          unfold RepD at hp
          obtain ⟨b, n, cap, e1, rfl⟩ := hp
          rw [h1] at e1
          cases e1
          have ho : Owns c g (.row e v' sz xs) b := ⟨_, h1, rfl⟩
          rcases h2.2 with ⟨hh, -⟩ | ⟨g', cap', cur, hgv, hb1, hg, hnc, hcm, hcsz, htk⟩
          · cases hh
          cases hgv
          have hil : i < xs.length := (List.getElem?_eq_some_iff.1 h0).1
          have hes : es.length = sz := h4 es (List.mem_of_getElem? h0)
          have hmul : i * sz + sz ≤ xs.length * sz := by rw [← Nat.succ_mul]; exact Nat.mul_le_mul_right _ hil
          have hmul2 : xs.length * sz ≤ cap * sz := Nat.mul_le_mul_right _ hnc
          have hfsl := asF_map (c := c) hfs
          have hvl : v.cells.size = fs.length := by rw [← hfsl, ← repDC_len hcs]; simp
          have hlv : i * sz + off + v.cells.size ≤ cur.toList.length := by simp; omega
          refine ⟨_, b, i * sz + off, rfl, run_storeVarB ht (by simpa using hg) hvs hlv h1v, ?_⟩
          have hWS : ∀ o, c.x.WS b o := h6 b rfl
          have hx := Cx.row_ext (vs := updCells cur.toList (i * sz + off) v.cells.toList) hWS
          have hvsl : vs.length = xs.length * sz := h2.1
          refine h (c.row b (updCells cur.toList (i * sz + off) v.cells.toList)) undef undefD _ hK rfl rfl rfl hx ?_ (by unfold undefD RepD Rep; rfl) (fun i' hi hf => ?_)
          · refine hM.row (m' := .row e v' sz (xs.set i (updCells es off fs))) (vs := updCells cur.toList (i * sz + off) v.cells.toList) hm ho ⟨_, updCells vs (i * sz + off) v.cells.toList, h1, ⟨?_, .inr ⟨b, cap, (updCells cur.toList (i * sz + off) v.cells.toList).toArray, by rw [List.length_set], hb1, ?_, by simpa using hnc, hcm, ?_, ?_⟩⟩, ?_, ?_, h5, fun g' hg' => ?_⟩ (fun b' hb' => ?_) ?_
            · rw [List.length_set, updCells_len _ _ _ (by simp; omega), hvsl]
            · show (c.x.W.setRow b _).heap[b]? = _
              exact setRow_heap _ b _ _ e _ hg
            · rw [List.size_toArray, updCells_len _ _ _ (by simpa using hlv)]; simpa using hcsz
            · rw [List.length_set]
              rw [← htk, updCells_eq _ _ _ (by simpa using hlv), updCells_eq _ _ _ (by simp; omega)]
              simp only [Array.length_toList] at *
              have a1 : i * sz + off ≤ xs.length * sz := by omega
              rw [List.take_append, List.length_take, Nat.min_eq_left (by simp; omega), List.take_take, Nat.min_eq_right a1]
              rw [List.take_take, Nat.min_eq_left a1]
              congr 1
              rw [List.take_append, List.take_of_length_le (by simp; omega)]
              congr 1
              rw [List.take_drop]
              congr 2
              simp; omega
            · rw [set_flat h4 h0 (by omega)]
              exact RepC.mono hx.sub (repC_upd h3 (repC_asF hfs hcs) _ (by rw [len_flat h4]; omega))
            · intro ds hd
              rcases List.mem_or_eq_of_mem_set hd with hd | rfl
              · exact h4 ds hd
              · rw [updCells_len _ _ _ (by omega)]; exact hes
            · simp [Value.ownBlock] at hg'; subst hg'; exact hWS
            · obtain ⟨v2, k1, k2⟩ := hb'
              rw [h1] at k1
              cases k1
              simpa [Value.ownBlock] using k2.symm
            · intro e2 ver2 sz2 xs2 hh
              cases hh
              exact hM.vers _ _ _ _ _ hm
          · refine ⟨?_, hf.2⟩
            simp only [St.new, upd]
            by_cases e2 : i' = g
            · subst e2; rw [hf.1] at hm; cases hm
            · rw [if_neg e2]; exact hf.1
        · cases hs
      · cases hs
    · cases hs
  | _ => simp [storeD] at hs
end Go.Dn
end
section
namespace Go.Dn
open Go.RowKit Go.Dk

variable {P : Program}

/-- the elements of a slice, where they lie -/
theorem elems_rd {w0 : World} {WS0 : Nat → Nat → Prop} {c : Cx} {mem : Nat → Option M} (hM : InvM w0 WS0 c mem) {v : Value} {x : D} (hx : RepD c v x) {sz : Nat} {ys : List (List FD)} (h : elems mem sz x = some ys) :
    ∃ news, Rd c.x.W v sz ys.length news ∧ RepC c.x news ys.flatten ∧ ∀ ds ∈ ys, ds.length = sz := by
  cases x with
  | f y =>
    cases y with
    | v u =>
      unfold elems at h
      split at h
      · rename_i heq
        cases h
        cases heq
        unfold RepD Rep at hx
        subst hx
        exact ⟨[], ⟨none, 0, rfl, by simp, by simp, fun _ => rfl, fun ad h => by cases h⟩, by simp [RepC], by simp⟩
      all_goals (try (rename_i heq; cases heq))
      all_goals cases h
    | sl z xs =>
      simp only [elems] at h
      split at h
      · rename_i hz
        cases h
        subst hz
        unfold RepD Rep at hx
        obtain ⟨a, cap, rfl, hl, hn, hr⟩ := hx
        by_cases he : ys = []
        · subst he
          exact ⟨[], ⟨a, cap, rfl, by simp, hl.1, hn, fun ad e j u hu => by simp at hu⟩, by simp [RepC], by simp⟩
        · obtain ⟨b, o, rfl, hr2⟩ := hr he
          obtain ⟨vs, h1, hc⟩ := repA_cells (repR_flat hr2)
          have hlen := repR_len hr2
          refine ⟨vs, ⟨_, cap, rfl, by rw [repC_len h1, len_flat hlen], hl.1, hn, fun ad e j u hu => ?_⟩, h1, hlen⟩
          cases e
          rw [Addr.add_mid]
          exact hc j u hu
      · cases h
    | _ => simp [elems] at h
  | own g ver =>
    simp only [elems] at h
    split at h
    · rename_i e v' z xs hm
      split at h
      · rename_i hv
        obtain ⟨rfl, rfl⟩ := hv
        cases h
        obtain ⟨v0, vs, h1, h2, h3, h4, h5, h6⟩ := hM.mem _ _ hm
        unfold RepD at hx
        have := hx.1
        rw [h1] at this
        cases this
        exact ⟨vs, Rd.of_own h2, h3, h4⟩
      · cases h
    · cases h
  | _ => simp [elems] at h
theorem lenD_rep {w0 : World} {WS0 : Nat → Nat → Prop} {c : Cx} {mem : Nat → Option M} (hM : InvM w0 WS0 c mem) {v : Value} {x : D} (hx : RepD c v x) {n : Nat} (h : lenD mem x = some n) :
    ∃ a cap, v = .slice a n cap := by
  unfold lenD at h
  split at h
  · cases h; unfold RepD Rep at hx; subst hx; exact ⟨_, _, rfl⟩
  · cases h; unfold RepD Rep at hx; obtain ⟨a, cap, rfl, -⟩ := hx; exact ⟨_, _, rfl⟩
  · split at h
    · rename_i e v' z xs hm
      split at h
      · rename_i hv
        subst hv
        cases h
        obtain ⟨v0, vs, h1, h2, -⟩ := hM.mem _ _ hm
        unfold RepD at hx
        have := hx.1
        rw [h1] at this
        cases this
        rcases h2.2 with ⟨rfl, hn⟩ | ⟨g, cap, cur, rfl, -⟩
        · exact ⟨none, 0, by rw [hn]⟩
        · exact ⟨_, _, rfl⟩
      · cases h
    · cases h
  · cases h

/-- a row is made -/
theorem Goes.newrow {w0 : World} {WS0 : Nat → Nat → Prop} {c : Cx} {a : Act} {st : St} {id : Nat} {dst : Option Nat} {K : D → St → Prop} {next : Act → World → Prop} (h : Goes w0 WS0 c a st id dst K next) (hM : InvM w0 WS0 c st.mem) (hf : Fresh c st.mem id)
    {e sz n : Nat} {xs : List (List FD)} {vs : List Value} {cells : Array Value} (hn : xs.length = n) (hcap : n ≤ maxLen) (hl : ∀ ds ∈ xs, ds.length = sz) (hsz : 0 < sz) (hvs : cells.toList = vs) (hr : RepC c.x vs xs.flatten) (hK : K (.own id 0) (st.new id (.row e 0 sz xs))) :
    next (a.put dst (.slice (some ⟨c.x.W.heap.size, 0, none⟩) n n)) (c.x.W.alloc (.cells cells e)) := by
  have hx := Cx.alloc_ext (v := .slice (some ⟨c.x.W.heap.size, 0, none⟩) n n) (o := .cells cells e) (hf.2 0)
  have hlen : vs.length = n * sz := by rw [repC_len hr, len_flat hl, hn]
  subst hn
  refine h.add hM hf hK (u := .slice (some ⟨c.x.W.heap.size, 0, none⟩) xs.length xs.length) ?_ ?_ (fun _ _ _ _ hh => by cases hh; rfl) ?_
  · refine ⟨_, vs, setE_same _ _ _ _, ⟨hlen, .inr ⟨c.x.W.heap.size, xs.length, cells, rfl, hM.chg.size, heap_alloc_new _ _, Nat.le_refl _, hcap, ?_, ?_⟩⟩, RepC.mono hx.sub hr, hl, hsz, fun g hg o => ?_⟩
    · rw [← Array.length_toList, hvs, hlen]
    · rw [hvs, ← hlen]; simp
    · simp [Value.ownBlock] at hg; exact .inl hg.symm
  · rintro b ⟨v, hv, hb⟩
    have := (setE_same c.E id 0 (.slice (some ⟨c.x.W.heap.size, 0, none⟩) xs.length xs.length)).symm.trans hv
    cases this
    simpa [Value.ownBlock] using hb.symm
  · unfold RepD
    exact ⟨setE_same _ _ _ _, _, _, _, rfl⟩

/-- a variable is made that nobody writes -/
theorem Goes.fblk {w0 : World} {WS0 : Nat → Nat → Prop} {c : Cx} {a : Act} {st : St} {id : Nat} {dst : Option Nat} {K : D → St → Prop} {next : Act → World → Prop} (h : Goes w0 WS0 c a st id dst K next) (hM : InvM w0 WS0 c st.mem)
    {fs : List FD} {vs : List Value} {T : TypeId} (hr : RepC c.x vs fs) (hK : K (.f (.ref fs)) st) : next (a.put dst (.pointer (some ⟨c.x.W.heap.size, 0, none⟩))) (c.x.W.alloc (.cells vs.toArray T)) := by
  have hch : Chg No c.x.W (c.x.W.alloc (.cells vs.toArray T)) := (Chg.refl No c.x.W).alloc _
  have hx : Ext c ⟨c.E, ⟨c.x.WS, c.x.W.alloc (.cells vs.toArray T)⟩⟩ := ⟨fun b o u hcc hn => ⟨hch.cell hcc (fun x => x), hn⟩, fun _ _ _ h => h⟩
  refine h ⟨c.E, ⟨c.x.WS, c.x.W.alloc (.cells vs.toArray T)⟩⟩ _ (.f (.ref fs)) st hK rfl rfl rfl hx ?_ ?_ (fun _ _ hf => hf)
  · refine ⟨fun i m hi => (hM.mem i m hi).ext hx (fun b hb => hch.block b (owns_lt (hM.mem i m hi) hb).2.1 (fun x => x)) (fun _ _ _ h => h), fun i i' m1 m2 b hi hi' h1 h2 => hM.inj i i' m1 m2 b hi hi' ?_ ?_, hM.chg.trans hch, hM.ws0, hM.ws1, fun b o hb => Nat.lt_of_lt_of_le (hM.wsd b o hb) hch.size, hM.vers⟩
    · cases m1 <;> exact h1
    · cases m2 <;> exact h2
  · unfold RepD Rep
    refine ⟨_, _, rfl, repA_of (RepC.mono hx.sub hr) fun j u hj => ⟨?_, fun hw => ?_⟩⟩
    · exact cell_of_heap (heap_alloc_new _ _) (by simpa using hj)
    · exact absurd (hM.wsd _ _ hw) (by simp)
/-- a row is made that nobody writes -/
theorem Goes.frow {w0 : World} {WS0 : Nat → Nat → Prop} {c : Cx} {a : Act} {st : St} {id : Nat} {dst : Option Nat} {K : D → St → Prop} {next : Act → World → Prop} (h : Goes w0 WS0 c a st id dst K next) (hM : InvM w0 WS0 c st.mem)
    {e sz n : Nat} {xs : List (List FD)} {vs : List Value} {cells : Array Value} (hn : xs.length = n) (hcap : n ≤ maxLen) (hl : ∀ ds ∈ xs, ds.length = sz) (hvs : cells.toList = vs) (hr : RepC c.x vs xs.flatten) (hK : K (.f (.sl sz xs)) st) :
    next (a.put dst (.slice (some ⟨c.x.W.heap.size, 0, none⟩) n n)) (c.x.W.alloc (.cells cells e)) := by
  have hch : Chg No c.x.W (c.x.W.alloc (.cells cells e)) := (Chg.refl No c.x.W).alloc _
  have hx : Ext c ⟨c.E, ⟨c.x.WS, c.x.W.alloc (.cells cells e)⟩⟩ := ⟨fun b o u hcc hn => ⟨hch.cell hcc (fun x => x), hn⟩, fun _ _ _ h => h⟩
  refine h ⟨c.E, ⟨c.x.WS, c.x.W.alloc (.cells cells e)⟩⟩ _ (.f (.sl sz xs)) st hK rfl rfl rfl hx ?_ ?_ (fun _ _ hf => hf)
  · refine ⟨fun i m hi => (hM.mem i m hi).ext hx (fun b hb => hch.block b (owns_lt (hM.mem i m hi) hb).2.1 (fun x => x)) (fun _ _ _ h => h), fun i i' m1 m2 b hi hi' h1 h2 => hM.inj i i' m1 m2 b hi hi' ?_ ?_, hM.chg.trans hch, hM.ws0, hM.ws1, fun b o hb => Nat.lt_of_lt_of_le (hM.wsd b o hb) hch.size, hM.vers⟩
    · cases m1 <;> exact h1
    · cases m2 <;> exact h2
  · unfold RepD Rep
    refine ⟨_, _, by rw [hn], ⟨by omega, hcap⟩, (fun e => by cases e), fun _ => ⟨_, _, rfl, repR_of hl (repA_of (RepC.mono hx.sub hr) fun j u hj => ⟨?_, fun hw => ?_⟩)⟩⟩
    · exact cell_of_heap (heap_alloc_new _ _) (by rw [← hvs] at hj; simpa using hj)
    · exact absurd (hM.wsd _ _ hw) (by simp)

theorem owns_row {c : Cx} {g e ver sz : Nat} {xs : List (List FD)} {v : Value} (h : c.E g ver = some v) {b : Nat} : Owns c g (.row e ver sz xs) b ↔ v.ownBlock = some b := by
  unfold Owns
  constructor
  · rintro ⟨u, h1, h2⟩; rw [h] at h1; cases h1; exact h2
  · exact fun h2 => ⟨v, h, h2⟩
/-- a row grows: what was row 'old' (nobody else's) is row 'new' -/
theorem Goes.grow {w0 : World} {WS0 : Nat → Nat → Prop} {c : Cx} {a : Act} {st : St} {id : Nat} {dst : Option Nat} {K : D → St → Prop} {next : Act → World → Prop} (h : Goes w0 WS0 c a st id dst K next) (hM : InvM w0 WS0 c st.mem)
    {g ver e sz : Nat} {v v' : Value} {w' : World} {zs : List (List FD)} {vs : List Value}
    (hE : c.E g ver = none) (hver : ∀ k, ver < k → c.E g k = none)
    (hold : (∃ ver0 xs, st.mem g = some (.row e ver0 sz xs) ∧ c.E g ver0 = some v) ∨ (st.mem g = none ∧ v.ownBlock = none ∧ g = id))
    (hown : w'.ownsRow w0.heap.size e sz v' zs.length vs) (hg : c.x.W.grownBy w' v.ownBlock) (hb : ∀ k, v'.ownBlock = some k → v.ownBlock = some k ∨ c.x.W.heap.size ≤ k)
    (hr : RepC c.x vs zs.flatten) (hl : ∀ ds ∈ zs, ds.length = sz) (hsz : 0 < sz) (hK : K (.own g ver) (st.new g (.row e ver sz zs))) : next (a.put dst v') w' := by
  have hbl : ∀ b, v.ownBlock = some b → w0.heap.size ≤ b ∧ ∀ o, c.x.WS b o := fun b hb => by
    rcases hold with ⟨ver0, xs, hm, hv⟩ | ⟨-, hn, -⟩
    · have := owns_lt (hM.mem _ _ hm) ((owns_row hv).2 hb); exact ⟨this.1, this.2.2⟩
    · rw [hn] at hb; cases hb
  have hlt' : ∀ b, v'.ownBlock = some b → b < w'.heap.size := fun b hb' => by
    rcases hown.2 with ⟨rfl, -⟩ | ⟨g', cap, cur, rfl, -, hg', -⟩
    · simp [Value.ownBlock] at hb'
    · simp [Value.ownBlock] at hb'; subst hb'; exact lt_of_heap hg'
  let c' : Cx := ⟨setE c.E g ver v', ⟨fun b o => v'.ownBlock = some b ∨ c.x.WS b o, w'⟩⟩
  have hx : Ext c c' := ⟨fun b o u hc hn => by
    have hbs := World.block_lt_of_cell? _ _ hc
    dsimp only at hbs
    have hne : v.ownBlock ≠ some b := fun e => hn ((hbl b e).2 o)
    refine ⟨(World.cell?_of_block (a := ⟨b, o, none⟩) (hg.block b hbs (fun e => hne e.symm))).trans hc, ?_⟩
    rintro (e | e)
    · rcases hb b e with e | e
      · exact hne e
      · omega
    · exact hn e, fun i k u hu => setE_old hE hu⟩
  refine h c' v' (.own g ver) _ hK rfl rfl rfl hx ?_ ?_ ?_
  · have hbase : w0.heap.size ≤ c.x.W.heap.size := hM.chg.size
    refine ⟨fun i m hi => ?_, fun i i' m1 m2 b hi hi' h1 h2 => ?_, ?_, fun b o hb => .inr (hM.ws0 b o hb), hM.ws1, fun b o hb' => ?_, fun i e2 ver2 sz2 xs2 hi k hk => ?_⟩
    · simp only [St.new, upd] at hi
      by_cases e2 : i = g
      · rw [if_pos e2] at hi; cases hi; subst e2
        exact ⟨v', vs, setE_same _ _ _ _, hown, RepC.mono hx.sub hr, hl, hsz, fun b hb o => .inl hb⟩
      · rw [if_neg e2] at hi
        refine (hM.mem i m hi).ext hx (fun b hb' => hg.block b (owns_lt (hM.mem i m hi) hb').2.1 (fun e3 => ?_)) (fun b _ o hw => .inr hw)
        rcases hold with ⟨ver0, xs, hm, hv⟩ | ⟨-, hn, -⟩
        · exact e2 (hM.inj i g m _ b hi hm hb' ((owns_row hv).2 e3.symm))
        · rw [hn] at e3; cases e3
    · simp only [St.new, upd] at hi hi'
      have key : ∀ i m, i ≠ g → st.mem i = some m → Owns c' i m b → v'.ownBlock = some b → False := fun i m hne hi h1 hbv => by
        have h1' := Owns.ext (hM.mem i m hi) hx h1
        rcases hb b hbv with e3 | e3
        · rcases hold with ⟨ver0, xs, hm, hv⟩ | ⟨-, hn, -⟩
          · exact hne (hM.inj i g m _ b hi hm h1' ((owns_row hv).2 e3))
          · rw [hn] at e3; cases e3
        · have := (owns_lt (hM.mem i m hi) h1').2.1; omega
      by_cases e2 : i = g <;> by_cases e3 : i' = g
      · rw [e2, e3]
      · rw [if_pos e2] at hi; rw [if_neg e3] at hi'; cases hi; subst e2
        exact (key i' m2 e3 hi' h2 ((owns_row (c := c') (setE_same _ _ _ _)).1 h1)).elim
      · rw [if_neg e2] at hi; rw [if_pos e3] at hi'; cases hi'; subst e3
        exact (key i m1 e2 hi h1 ((owns_row (c := c') (setE_same _ _ _ _)).1 h2)).elim
      · rw [if_neg e2] at hi; rw [if_neg e3] at hi'
        exact hM.inj i i' m1 m2 b hi hi' (Owns.ext (hM.mem i m1 hi) hx h1) (Owns.ext (hM.mem i' m2 hi') hx h2)
    · exact hM.chg.grown hg fun k hk hlt => by have := (hbl k hk).1; omega
    · rcases hb' with e | e
      · exact hlt' b e
      · exact Nat.lt_of_lt_of_le (hM.wsd b o e) hg.size
    · show setE c.E g ver v' i k = none
      simp only [St.new, upd] at hi
      unfold setE
      by_cases e3 : i = g
      · rw [if_pos e3] at hi; cases hi
        rw [if_neg (by rintro ⟨-, rfl⟩; omega), e3]
        exact hver k hk
      · rw [if_neg e3] at hi
        rw [if_neg (fun x => e3 x.1)]
        exact hM.vers i e2 ver2 sz2 xs2 hi k hk
  · unfold RepD
    refine ⟨setE_same _ _ _ _, ?_⟩
    rcases hown.2 with ⟨rfl, -⟩ | ⟨g', cap, cur, rfl, -⟩
    · exact ⟨_, _, _, rfl⟩
    · exact ⟨_, _, _, rfl⟩
  · intro i hi hfi
    have hne : i ≠ g := by
      rcases hold with ⟨ver0, xs, hm, hv⟩ | ⟨-, -, e⟩
      · rintro rfl; rw [hfi.1] at hm; cases hm
      · rw [e]; exact hi
    refine ⟨by simp only [St.new, upd, if_neg hne]; exact hfi.1, fun k => ?_⟩
    show setE c.E g ver v' i k = none
    unfold setE
    rw [if_neg (fun x => hne x.1)]
    exact hfi.2 k

/-- frozen, for a while: the cells of all that the call has made may not be written meanwhile -/
def Cx.hold (c : Cx) (w0 : World) : X := ⟨fun b o => c.x.WS b o ∧ b < w0.heap.size, c.x.W⟩
theorem Cx.hold_sub (c : Cx) (w0 : World) : Sub c.x (c.hold w0) := fun _ _ _ hc hn => ⟨hc, fun h => hn h.1⟩
theorem omap_repC {c : Cx} {x : X} {f : D → Option FD} (hf : ∀ d y v, f d = some y → RepD c v d → Rep x v y) : ∀ {ds : List D} {ys : List FD} {vs : List Value}, omap f ds = some ys → RepDC c vs ds → RepC x vs ys
  | [], ys, vs, h, k => by rw [omap_nil h]; unfold RepDC at k; subst k; simp [RepC]
  | d :: ds, ys, vs, h, k => by
    obtain ⟨y, r, h1, h2, rfl⟩ := omap_cons h
    unfold RepDC at k
    obtain ⟨u, us, rfl, k0, k1, k2⟩ := k
    unfold RepC
    exact ⟨u, us, rfl, k0, hf d y u h1 k1, omap_repC hf h2 k2⟩
theorem omap_repL {c : Cx} {x : X} {f : D → Option FD} (hf : ∀ d y v, f d = some y → RepD c v d → Rep x v y) : ∀ {ds : List D} {ys : List FD} {vs : List Value}, omap f ds = some ys → RepDL c vs ds → RepL x vs ys
  | [], ys, vs, h, k => by rw [omap_nil h]; unfold RepDL at k; subst k; simp [RepL]
  | d :: ds, ys, vs, h, k => by
    obtain ⟨y, r, h1, h2, rfl⟩ := omap_cons h
    unfold RepDL at k
    obtain ⟨u, us, rfl, k1, k2⟩ := k
    unfold RepL
    exact ⟨u, us, rfl, hf d y u h1 k1, omap_repL hf h2 k2⟩
theorem frz_rep {w0 : World} {WS0 : Nat → Nat → Prop} {c : Cx} {mem : Nat → Option M} (hM : InvM w0 WS0 c mem) : ∀ (n : Nat) (d : D) (y : FD) (v : Value), frz mem n d = some y → RepD c v d → Rep (c.hold w0) v y
  | 0, d, y, v, h, _ => by simp [frz] at h
  | n + 1, d, y, v, h, hv => by
    have ih := frz_rep hM n
    cases d with
    | top => simp [frz] at h
    | f x =>
      simp only [frz, Option.some.injEq] at h
      subst h
      unfold RepD at hv
      exact Rep.mono (c.hold_sub w0) hv
    | agg cs =>
      simp only [frz, Option.map_eq_some_iff] at h
      obtain ⟨ys, h, rfl⟩ := h
      unfold RepD at hv
      obtain ⟨vs, rfl, hv⟩ := hv
      unfold Rep
      exact ⟨vs, rfl, omap_repC ih h hv⟩
    | fn f caps =>
      simp only [frz, Option.map_eq_some_iff] at h
      obtain ⟨ys, h, rfl⟩ := h
      unfold RepD at hv
      obtain ⟨vs, rfl, hv⟩ := hv
      unfold Rep
      exact ⟨vs, rfl, omap_repL ih h hv⟩
    | tup caps =>
      simp only [frz, Option.map_eq_some_iff] at h
      obtain ⟨ys, h, rfl⟩ := h
      unfold RepD at hv
      obtain ⟨vs, rfl, hv⟩ := hv
      unfold Rep
      exact ⟨vs, rfl, omap_repL ih h hv⟩
    | loc id off =>
      simp only [frz] at h
      split at h
      · rename_i cs hm
        simp only [Option.map_eq_some_iff] at h
        obtain ⟨ys, h, rfl⟩ := h
        obtain ⟨b, vs, T, h1, h2, h3, h4, h5⟩ := hM.mem _ _ hm
        unfold RepD at hv
        obtain ⟨b', e1, rfl⟩ := hv
        rw [h1] at e1
        cases e1
        unfold Rep
        refine ⟨b, off, rfl, repA_of (omap_repC ih h (repDC_drop h4 off)) fun j u hu => ⟨?_, fun hw => ?_⟩⟩
        · rw [List.getElem?_drop] at hu
          exact cell_of_heap h3 (by simpa using hu)
        · have := hw.2; omega
      · cases h
    | own g ver =>
      simp only [frz] at h
      split at h
      · rename_i e v' sz xs hm
        split at h
        · rename_i hver
          subst hver
          cases h
          obtain ⟨v0, vs, h1, h2, h3, h4, h5, h6⟩ := hM.mem _ _ hm
          unfold RepD at hv
          have := hv.1
          rw [h1] at this
          cases this
          unfold Rep
          rcases h2.2 with ⟨rfl, hn⟩ | ⟨b, cap, cur, rfl, hb1, hg, hnc, hmx, rest⟩
          · exact ⟨none, 0, by rw [hn], ⟨by omega, by omega⟩, fun _ => rfl, fun hne => (hne (List.eq_nil_of_length_eq_zero hn)).elim⟩
          · refine ⟨_, cap, rfl, ⟨hnc, hmx⟩, (fun hh => by cases hh), fun _ => ⟨b, 0, rfl, repR_of h4 (repA_of (RepC.mono (c.hold_sub w0) h3) fun j u hu => ⟨?_, fun hw => ?_⟩)⟩⟩
            · have := h2.cells (g := b) rfl j u hu
              rw [Addr.add_mid] at this
              exact this
            · have := hw.2; omega
        · cases h
      · cases h
    | rowp g ver z i off => simp [frz] at h

/-- a scalar says the same in all worlds -/
theorem scalar_any {x y : X} {v : Value} {d : FD} (hs : scalar d = true) (h : Rep x v d) : Rep y v d := by
  have key : ∀ (cs : List FD) (vs : List Value), cs.all isV = true → RepC x vs cs → RepC y vs cs := by
    intro cs
    induction cs with
    | nil => intro vs _ h; exact h
    | cons d ds ih =>
      intro vs hs h
      simp only [List.all_cons, Bool.and_eq_true] at hs
      unfold RepC at h ⊢
      obtain ⟨u, us, rfl, h0, h1, h2⟩ := h
      refine ⟨u, us, rfl, h0, ?_, ih us hs.2 h2⟩
      cases d <;> simp [isV] at hs
      unfold Rep at h1 ⊢; exact h1
  have key2 : ∀ (cs : List FD) (vs : List Value), cs.all isV = true → RepL x vs cs → RepL y vs cs := by
    intro cs
    induction cs with
    | nil => intro vs _ h; exact h
    | cons d ds ih =>
      intro vs hs h
      simp only [List.all_cons, Bool.and_eq_true] at hs
      unfold RepL at h ⊢
      obtain ⟨u, us, rfl, h1, h2⟩ := h
      refine ⟨u, us, rfl, ?_, ih us hs.2 h2⟩
      cases d <;> simp [isV] at hs
      unfold Rep at h1 ⊢; exact h1
  cases d with
  | v u => unfold Rep at h ⊢; exact h
  | agg cs => unfold Rep at h ⊢; obtain ⟨vs, e, h⟩ := h; exact ⟨vs, e, key cs vs hs h⟩
  | tup cs => unfold Rep at h ⊢; obtain ⟨vs, e, h⟩ := h; exact ⟨vs, e, key2 cs vs hs h⟩
  | _ => simp [scalar] at hs
theorem omap_isF {mem : Nat → Option M} {n : Nat} : ∀ {ds : List D} {fs : List FD}, omap (frz mem (n + 1)) ds = some fs → ds.all isF = true → ds = fs.map .f
  | [], fs, h, _ => by rw [omap_nil h]; rfl
  | d :: ds, fs, h, ha => by
    obtain ⟨y, r, h1, h2, rfl⟩ := omap_cons h
    simp only [List.all_cons, Bool.and_eq_true] at ha
    cases d with
    | f x =>
      simp only [frz, Option.some.injEq] at h1
      subst h1
      simp [← omap_isF h2 ha.2]
    | _ => simp [isF] at ha
theorem repL_of_f {c : Cx} : ∀ {fs : List FD} {vs : List Value}, RepDL c vs (fs.map .f) → RepL c.x vs fs
  | [], vs, h => by unfold RepDL at h; simp at h; subst h; simp [RepL]
  | d :: ds, vs, h => by
    simp only [List.map_cons] at h
    unfold RepDL at h
    obtain ⟨u, us, rfl, h1, h2⟩ := h
    unfold RepL
    exact ⟨u, us, rfl, by unfold RepD at h1; exact h1, repL_of_f h2⟩
theorem Chg.grown_none {W W' : World} (h : Chg No W W') : W.grownBy W' none := ⟨h.os, h.tape, h.output, h.size, fun k hk _ => h.block k hk id⟩
theorem ownsRow_less {w : World} {B B' e sz n : Nat} {v : Value} {xs : List Value} (h : w.ownsRow B' e sz v n xs) (hle : B ≤ B') : w.ownsRow B e sz v n xs := by
  refine ⟨h.1, h.2.imp id ?_⟩
  rintro ⟨g, cap, cur, e1, hb, r⟩
  exact ⟨g, cap, cur, e1, Nat.le_trans hle hb, r⟩
theorem ownsRow_from {w : World} {B e sz n : Nat} {v : Value} {xs : List Value} (h : w.ownsRow B e sz v n xs) : ∀ k, v.ownBlock = some k → B ≤ k := by
  intro k hk
  rcases h.2 with ⟨rfl, -⟩ | ⟨g, cap, cur, rfl, hb, -⟩
  · simp [Value.ownBlock] at hk
  · simp [Value.ownBlock] at hk; omega
theorem repC_isV {x y : X} : ∀ (cs : List FD) (vs : List Value), cs.all isV = true → RepC x vs cs → RepC y vs cs
  | [], vs, _, h => by unfold RepC at h ⊢; exact h
  | d :: ds, vs, hs, h => by
    simp only [List.all_cons, Bool.and_eq_true] at hs
    unfold RepC at h ⊢
    obtain ⟨u, us, rfl, h0, h1, h2⟩ := h
    refine ⟨u, us, rfl, h0, ?_, repC_isV ds us hs.2 h2⟩
    cases d <;> simp [isV] at hs
    unfold Rep at h1 ⊢; exact h1
/-- a call of a function that is data alone -/
theorem callW_goes {w0 : World} {WS0 : Nat → Nat → Prop} {c : Cx} {a : Act} {st : St} {id : Nat} {dst : Option Nat} {K : D → St → Prop} {next : Act → World → Prop} (h : Goes w0 WS0 c a st id dst K next) (hM : InvM w0 WS0 c st.mem)
    {f : FuncId} {ds : List D} {vs : List Value} (hv : RepDL c vs ds) (hf : Fresh c st.mem id) (hc : callW P id st f ds K) :
    Goes' P f ∧ Calls P f vs.toArray c.x.W fun e w'' => ∃ v, e = .returned v ∧ next (a.put dst v) w'' := by
  rcases hc with ⟨x, e, sz, xs, rfl, ⟨⟨hgo, hsz⟩, hp⟩, hel, hn, hK⟩ | ⟨fs, rs, rfl, ⟨⟨hgo, hrs⟩, hp⟩, hK⟩ | ⟨fs, hfs, hc⟩
  · refine ⟨hgo, ?_⟩
    unfold RepDL at hv
    obtain ⟨v, us, rfl, hv, h1⟩ := hv
    unfold RepDL at h1
    subst h1
    obtain ⟨L, hrd, hrc, hlen⟩ := elems_rd hM hv hel
    refine (hp c.x.W v _ L hn hrd (repC_one hrc)).mono ?_
    rintro en w' ⟨v', rfl, hown, hch⟩
    exact ⟨v', rfl, h.grow hM (g := id) (ver := 0) (e := e) (sz := sz) (v := .slice none 0 0) (zs := xs) (vs := L) (hf.2 0) (fun k _ => hf.2 k) (.inr ⟨hf.1, rfl, rfl⟩) (ownsRow_less hown hM.chg.size) (Chg.grown_none hch) (fun k hk => .inr (ownsRow_from hown k hk)) hrc hlen hsz hK⟩
  · refine ⟨hgo, (hp c.x vs hM.wsd (repL_of_f hv)).mono ?_⟩
    rintro en w' ⟨us, rfl, hul, hch, hrow, hinj⟩
    refine ⟨_, rfl, ?_⟩
    have hfrom : ∀ u ∈ us, ∀ b, u.ownBlock = some b → c.x.W.heap.size ≤ b ∧ b < w'.heap.size := fun u hu b hb => by
      obtain ⟨j, hj⟩ := List.getElem?_of_mem hu
      have hjl : j < rs.length := by rw [← hul]; exact (List.getElem?_eq_some_iff.1 hj).1
      obtain ⟨cells, ho, -⟩ := hrow j u _ hj (List.getElem?_eq_getElem hjl)
      refine ⟨ownsRow_from ho b hb, ?_⟩
      rcases ho.2 with ⟨rfl, -⟩ | ⟨g, cap, cur, rfl, -, hg, -⟩
      · simp [Value.ownBlock] at hb
      · simp [Value.ownBlock] at hb; subst hb; exact lt_of_heap hg
    obtain ⟨c', hc'⟩ : ∃ c' : Cx, c' = ⟨fun i k => if i = id then us[k]? else c.E i k, ⟨fun b o => (∃ u ∈ us, u.ownBlock = some b) ∨ c.x.WS b o, w'⟩⟩ := ⟨_, rfl⟩
    have eE : ∀ k, c'.E id k = us[k]? := fun k => by rw [hc']; exact if_pos rfl
    have eE2 : ∀ i k, i ≠ id → c'.E i k = c.E i k := fun i k hi => by rw [hc']; exact if_neg hi
    have eW : c'.x.W = w' := by rw [hc']
    have hx : Ext c c' := by
      refine ⟨fun b o u hcc hnn => ?_, fun i k u hu => ?_⟩
      · rw [hc']
        have hbs := World.block_lt_of_cell? _ _ hcc
        dsimp only at hbs
        refine ⟨hch.cell hcc (fun x => x), ?_⟩
        rintro (⟨u, hu, e⟩ | e)
        · have := (hfrom u hu b e).1; omega
        · exact hnn e
      · rw [eE2 i k (fun e => by rw [e, hf.2 k] at hu; cases hu)]; exact hu
    have old : ∀ i m b, i ≠ id → Owns c' i m b → Owns c i m b := fun i m b hi ho => by
      cases m with
      | blk cs => show c.E i 0 = _; rw [← eE2 i 0 hi]; exact ho
      | row e ver sz xs => obtain ⟨v, h1, h2⟩ := ho; exact ⟨v, by rw [← eE2 i _ hi]; exact h1, h2⟩
      | rows rs' => obtain ⟨j, v, hj, h1, h2⟩ := ho; exact ⟨j, v, hj, by rw [← eE2 i _ hi]; exact h1, h2⟩
    have hM' : InvM w0 WS0 c' (upd st.mem id (some (.rows rs))) := by
      have hcase : ∀ i m, upd st.mem id (some (.rows rs)) i = some m → (i ≠ id ∧ st.mem i = some m) ∨ (i = id ∧ m = .rows rs) := fun i m hi => by
        unfold upd at hi
        split at hi
        · rename_i e; cases hi; exact .inr ⟨e, rfl⟩
        · rename_i e; exact .inl ⟨e, hi⟩
      have hnew : ∀ b, Owns c' id (.rows rs) b → ∃ u ∈ us, u.ownBlock = some b := fun b ho => by
        obtain ⟨j, v, hj, h1, h2⟩ := ho
        rw [eE] at h1
        exact ⟨v, List.mem_of_getElem? h1, h2⟩
      refine ⟨fun i m hi => ?_, fun i i' m1 m2 b hi hi' h1 h2 => ?_, by rw [eW]; exact hM.chg.trans hch, fun b o hb => by rw [hc']; exact .inr (hM.ws0 b o hb), hM.ws1, fun b o hb => ?_, fun g e ver sz xs hg k hk => ?_⟩
      · rcases hcase i m hi with ⟨e, h1⟩ | ⟨rfl, rfl⟩
        · exact (hM.mem i m h1).ext hx (fun b hb => by rw [eW]; exact hch.block b (owns_lt (hM.mem i m h1) hb).2.1 (fun x => x)) (fun b _ o hw => by rw [hc']; exact .inr hw)
        · refine ⟨fun j r hj => ?_, fun j j' v v' b hj hj' h1 h2 k1 k2 => ?_⟩
          · have hjl : j < us.length := by rw [hul]; exact (List.getElem?_eq_some_iff.1 hj).1
            have hu := List.getElem?_eq_getElem hjl
            obtain ⟨cells, ho, hr⟩ := hrow j _ r hu hj
            refine ⟨us[j], cells, by rw [eE]; exact hu, by rw [eW]; exact ownsRow_less ho hM.chg.size, by rw [hc']; exact hr, (hrs r (List.mem_of_getElem? hj)).2, (hrs r (List.mem_of_getElem? hj)).1, fun g hg o => by rw [hc']; exact .inl ⟨_, List.getElem_mem hjl, hg⟩⟩
          · rw [eE] at h1 h2
            exact hinj j j' v v' b h1 h2 k1 k2
      · rcases hcase i m1 hi with ⟨e, a1⟩ | ⟨rfl, rfl⟩ <;> rcases hcase i' m2 hi' with ⟨e', a2⟩ | ⟨rfl, rfl⟩
        · exact hM.inj i i' m1 m2 b a1 a2 (old i m1 b e h1) (old i' m2 b e' h2)
        · obtain ⟨u, hu, hb⟩ := hnew b h2
          have := (hfrom u hu b hb).1
          have := (owns_lt (hM.mem i m1 a1) (old i m1 b e h1)).2.1
          omega
        · obtain ⟨u, hu, hb⟩ := hnew b h1
          have := (hfrom u hu b hb).1
          have := (owns_lt (hM.mem i' m2 a2) (old i' m2 b e' h2)).2.1
          omega
        · rfl
      · rw [eW]
        rw [hc'] at hb
        rcases hb with ⟨u, hu, e⟩ | hb
        · exact (hfrom u hu b e).2
        · exact Nat.lt_of_lt_of_le (hM.wsd b o hb) hch.size
      · rcases hcase g _ hg with ⟨e2, a1⟩ | ⟨-, e2⟩
        · rw [eE2 g k e2]; exact hM.vers g e ver sz xs a1 k hk
        · cases e2
    have hrep : RepD c' (.agg us.toArray) (.agg (ownsD id rs.length)) := by
      unfold RepD
      refine ⟨us, rfl, ?_⟩
      have key : ∀ (l : List Value) (o : Nat), us.drop o = l → RepDC c' l ((List.range' o l.length).map fun j => .own id j) := by
        intro l
        induction l with
        | nil => intro o _; simp [RepDC]
        | cons u l ih =>
          intro o ho
          have hu : us[o]? = some u := by
            have h1 : (us.drop o)[0]? = some u := by rw [ho]; rfl
            rw [List.getElem?_drop] at h1
            simpa using h1
          have hr : us.drop (o + 1) = l := by rw [← List.drop_drop, ho]; rfl
          simp only [List.length_cons, List.range'_succ, List.map_cons]
          unfold RepDC
          have hol : o < rs.length := by rw [← hul]; exact (List.getElem?_eq_some_iff.1 hu).1
          obtain ⟨cells, hown, -⟩ := hrow o u _ hu (List.getElem?_eq_getElem hol)
          have hsl : ∃ a n cap, u = .slice a n cap := by
            rcases hown.2 with ⟨rfl, -⟩ | ⟨g, cap, cur, rfl, -⟩
            · exact ⟨_, _, _, rfl⟩
            · exact ⟨_, _, _, rfl⟩
          refine ⟨u, l, rfl, ?_, ?_, ih (o + 1) hr⟩
          · obtain ⟨a, n, cap, rfl⟩ := hsl; rfl
          · unfold RepD
            exact ⟨by rw [eE]; exact hu, hsl⟩
      have := key us 0 rfl
      rw [hul] at this
      unfold ownsD
      rw [List.range_eq_range']
      exact this
    have := h c' (.agg us.toArray) (.agg (ownsD id rs.length)) (st.new id (.rows rs)) hK rfl rfl rfl hx hM' hrep (fun i hi hfi => ⟨by show upd st.mem id _ i = none; unfold upd; rw [if_neg hi]; exact hfi.1, fun k => by rw [eE2 i k hi]; exact hfi.2 k⟩)
    rw [eW] at this
    exact this
  rcases hc with hc | ⟨e, sz, xs, ⟨⟨hgo, hsz, hl, hsv⟩, hp⟩, ha, hK⟩
  case inr =>
    refine ⟨hgo, ?_⟩
    have e0 := omap_isF hfs ha
    subst e0
    refine (hp c.x vs hM.wsd (repL_of_f hv)).mono ?_
    rintro en w' ⟨v, cells, rfl, hown, hr, hch⟩
    refine ⟨v, rfl, h.grow hM (g := id) (ver := 0) (e := e) (sz := sz) (v := .slice none 0 0) (zs := xs) (vs := cells) (hf.2 0) (fun k _ => hf.2 k) (.inr ⟨hf.1, rfl, rfl⟩) (ownsRow_less hown hM.chg.size) (Chg.grown_none hch) (fun k hk => .inr (ownsRow_from hown k hk)) (repC_isV _ _ hsv hr) hl hsz hK⟩
  obtain ⟨d, ⟨hgo, hp⟩, hs, hK⟩ := hc
  refine ⟨hgo, ?_⟩
  have step : ∀ (v : Value) (w' : World), Chg No c.x.W w' → Rep ⟨c.x.WS, w'⟩ v d → next (a.put dst v) w' := fun v w' hch hr => by
    have hx : Ext c ⟨c.E, ⟨c.x.WS, w'⟩⟩ := ⟨fun b o u hcc hn => ⟨hch.cell hcc (fun x => x), hn⟩, fun _ _ _ h => h⟩
    refine h ⟨c.E, ⟨c.x.WS, w'⟩⟩ v (.f d) st hK rfl rfl rfl hx ?_ (by unfold RepD; exact hr) (fun _ _ hf => hf)
    refine ⟨fun i m hi => (hM.mem i m hi).ext hx (fun b hb => hch.block b (owns_lt (hM.mem i m hi) hb).2.1 (fun x => x)) (fun _ _ _ h => h), fun i i' m1 m2 b hi hi' h1 h2 => hM.inj i i' m1 m2 b hi hi' ?_ ?_, hM.chg.trans hch, hM.ws0, hM.ws1, fun b o hb => Nat.lt_of_lt_of_le (hM.wsd b o hb) hch.size, hM.vers⟩
    · cases m1 <;> exact h1
    · cases m2 <;> exact h2
  by_cases ha : ds.all isF = true
  · have e := omap_isF hfs ha
    subst e
    refine (hp c.x vs hM.wsd (repL_of_f hv)).mono ?_
    rintro e w' ⟨v, rfl, hr, hch⟩
    exact ⟨v, rfl, step v w' hch hr⟩
  · have hs' : scalar d = true := by simpa [ha] using hs
    refine (hp (c.hold w0) vs (fun b o hb => hM.wsd b o hb.1) (omap_repL (fun d y v h1 h2 => frz_rep hM 4 d y v h1 h2) hfs hv)).mono ?_
    rintro e w' ⟨v, rfl, hr, hch⟩
    exact ⟨v, rfl, step v w' hch (scalar_any hs' hr)⟩
end Go.Dn
end
section
namespace Go.Dn
open Go.RowKit Go.Dk

variable {P : Program}

theorem truth_rep {c : Cx} {v : Value} {d : D} {t : Bool} (h : RepD c v d) (ht : truth d = some t) : v = .bool t := by
  unfold truth at ht
  split at ht
  · cases ht; unfold RepD Rep at h; exact h
  · cases ht
theorem asI_rep {c : Cx} {v : Value} {d : D} {n : Int} (h : RepD c v d) (ht : asI d = some n) : ∃ k, v = .int k n := by
  unfold asI at ht
  split at ht
  · cases ht; unfold RepD Rep at h; exact ⟨_, h⟩
  · cases ht
theorem fold_set (off : Nat) : ∀ (l : List Value) (k : Nat) (arr : Array Value), off + k + l.length ≤ arr.size →
    ((l.zipIdx k).foldl (fun cs (x : Value × Nat) => cs.setIfInBounds (off + x.2) x.1) arr).toList = arr.toList.take (off + k) ++ l ++ arr.toList.drop (off + k + l.length)
  | [], k, arr, h => by simp
  | v :: l, k, arr, h => by
    simp only [List.length_cons] at h
    simp only [List.zipIdx_cons, List.foldl_cons]
    rw [fold_set off l (k + 1) _ (by simp; omega)]
    have := list_seg_step arr.toList (off + k) v l (by simp; omega)
    simpa [Array.toList_setIfInBounds, Nat.add_assoc] using this
theorem fill_one (place : Nat → Option (Nat × Nat)) (arr : Array Value) (i : Nat) (v : Value) (rest : List (Nat × Value)) (p : Nat × Nat) (hp : place i = some p) (hs : v.cells.size = p.2) (hl : p.1 + p.2 ≤ arr.size) :
    Instr.fill place arr ((i, v) :: rest) = Instr.fill place (updCells arr.toList p.1 v.cells.toList).toArray rest := by
  have e : v.cells.zipIdx.foldl (fun cs (x : Value × Nat) => cs.setIfInBounds (p.1 + x.2) x.1) arr = (updCells arr.toList p.1 v.cells.toList).toArray := by
    apply Array.ext'
    rw [← Array.foldl_toList, Array.toList_zipIdx, fold_set p.1 v.cells.toList 0 arr (by simp; omega), updCells_eq _ _ _ (by simp; omega)]
    simp
  have h1 : ¬ (v.cells.size ≠ p.2 ∨ p.1 + v.cells.size > arr.size) := by omega
  obtain ⟨off, size⟩ := p
  simp only at hs hl e h1
  simp only [Instr.fill, hp]
  rw [if_neg (by simpa using h1)]
  exact congrArg (fun z => Instr.fill place z rest) e
/-- parts laid into a value -/
theorem fillD_rep {c : Cx} (place : Nat → Option (Nat × Nat)) : ∀ (ps : List (Nat × Value)) (ds : List (Nat × D)) (arr : Array Value) (cells r : List D),
    ps.length = ds.length → (∀ (j : Nat) (p : Nat × Value) (d : Nat × D), ps[j]? = some p → ds[j]? = some d → p.1 = d.1 ∧ RepD c p.2 d.2) → RepDC c arr.toList cells → fillD place cells ds = some r → ∃ arr', Instr.fill place arr ps = some arr' ∧ RepDC c arr'.toList r
  | [], [], arr, cells, r, _, _, hr, h => by
    simp only [fillD, Option.some.injEq] at h
    subst h
    exact ⟨arr, rfl, hr⟩
  | (i, v) :: ps, (i', d) :: ds, arr, cells, r, hl, hall, hr, h => by
    obtain ⟨e, hv⟩ := hall 0 _ _ rfl rfl
    simp only at e hv
    subst e
    simp only [fillD, Option.bind_eq_some_iff] at h
    obtain ⟨p, hp, cs, hc, h⟩ := h
    split at h
    · rename_i hh
      have hcr := cellsD_rep hv hc
      have hsz : v.cells.size = p.2 := by rw [← hh.1, ← repDC_len hcr]; simp
      have hal : p.1 + p.2 ≤ arr.size := by have := repDC_len hr; simp at this; omega
      rw [fill_one place arr i v ps p hp hsz hal]
      exact fillD_rep place ps ds _ _ r (by simpa using hl) (fun j q d h1 h2 => hall (j + 1) q d (by simpa using h1) (by simpa using h2)) (by simpa using repDC_upd hr hcr p.1 (by omega)) h
    · cases h
  | [], _ :: _, _, _, _, hl, _, _, _ => by simp at hl
  | _ :: _, [], _, _, _, hl, _, _, _ => by simp at hl
/-- all elements of a new slice, in their order -/
theorem fill_rows {c : Cx} {sz : Nat} (hsz : 0 < sz) : ∀ (vs : List Value) (ds : List D) (xs : List (List FD)) (k : Nat) (arr : Array Value) (done : List FD), vs.length = ds.length →
    (∀ (j : Nat) (v : Value) (d : D), vs[j]? = some v → ds[j]? = some d → RepD c v d) → omap (fun d => ((cellsD d).bind (omap asF)).bind fun fs => if fs.length = sz then some fs else none) ds = some xs →
    arr.size = (k + vs.length) * sz → done.length = k * sz → RepC c.x (arr.toList.take (k * sz)) done →
    ∃ arr', Instr.fill (fun i => some (i * sz, sz)) arr ((List.range' k vs.length).zip vs) = some arr' ∧ RepC c.x arr'.toList (done ++ xs.flatten) ∧ (∀ e ∈ xs, e.length = sz) ∧ xs.length = vs.length
  | [], [], xs, k, arr, done, _, _, h, hs, hd, hr => by
    rw [omap_nil h]
    refine ⟨arr, rfl, ?_, by simp, rfl⟩
    rw [List.take_of_length_le (by simp at hs ⊢; omega)] at hr
    simpa using hr
  | v :: vs, d :: ds, xs, k, arr, done, hl, hall, h, hs, hd, hr => by
    obtain ⟨e, r, h1, h2, rfl⟩ := omap_cons h
    simp only [Option.bind_eq_some_iff] at h1
    obtain ⟨fs, ⟨cs, hc, hf⟩, h1⟩ := h1
    split at h1
    · rename_i hfs
      cases h1
      have hv := hall 0 v d rfl rfl
      have hcr := cellsD_rep hv hc
      have hcr2 := repC_asF hf hcr
      have hvs : v.cells.size = sz := by rw [← hfs, ← repC_len hcr2]; simp
      have hmul : (k + 1 + vs.length) * sz = k * sz + sz + vs.length * sz := by rw [Nat.add_mul, Nat.succ_mul]
      have hs' : arr.size = (k + 1 + vs.length) * sz := by rw [hs]; simp only [List.length_cons]; congr 1; omega
      have hz : (List.range' k (v :: vs).length).zip (v :: vs) = (k, v) :: (List.range' (k + 1) vs.length).zip vs := by simp [List.range'_succ]
      rw [hz, fill_one (fun i => some (i * sz, sz)) arr k v _ (k * sz, sz) rfl hvs (by simp only; omega)]
      have hlu : k * sz + v.cells.toList.length ≤ arr.toList.length := by simp; omega
      have hlen' : (updCells arr.toList (k * sz) v.cells.toList).length = arr.toList.length := updCells_len _ _ _ hlu
      obtain ⟨arr', k1, k2, k3, k4⟩ := fill_rows hsz vs ds r (k + 1) (updCells arr.toList (k * sz) v.cells.toList).toArray (done ++ e) (by simpa using hl) (fun j q d h1 h2 => hall (j + 1) q d (by simpa using h1) (by simpa using h2)) h2
        (by rw [List.size_toArray, hlen']; simpa using hs') (by rw [List.length_append, hd, hfs, Nat.succ_mul]) (by
          rw [updCells_eq _ _ _ hlu, Nat.succ_mul]
          simp only [List.toList_toArray]
          have e1 : (arr.toList.take (k * sz) ++ (v.cells.toList ++ arr.toList.drop (k * sz + v.cells.toList.length))).take (k * sz + sz) = arr.toList.take (k * sz) ++ v.cells.toList := by
            rw [← List.append_assoc, List.take_append_of_le_length (by simp; omega), List.take_of_length_le (by simp; omega)]
          rw [e1]
          exact repC_append hr hcr2)
      refine ⟨arr', k1, ?_, ?_, by simp [k4]⟩
      · simpa [List.append_assoc] using k2
      · intro z hz
        rcases List.mem_cons.1 hz with rfl | hz
        · exact hfs
        · exact k3 z hz
    · cases h1
  | [], _ :: _, _, _, _, _, hl, _, _, _, _, _ => by simp at hl
  | _ :: _, [], _, _, _, _, hl, _, _, _, _, _ => by simp at hl
theorem repDL_ev {c : Cx} {a : Act} {st : St} (hF : InvF c a st) : ∀ xs : List Operand, RepDL c (xs.map a.eval) (xs.map st.ev)
  | [] => by simp [RepDL]
  | x :: xs => by
    simp only [List.map_cons]
    unfold RepDL
    exact ⟨_, _, rfl, hF.ev x, repDL_ev hF xs⟩
theorem ibin_run {op : BinOp} {k : IntKind} {x y : Int} {d : FD} (h : ibin op k x y = some d) (t : TypeId) (w : World) : ∃ v, (binOp op t (.int k x) (.int k y)).run P w = .ok v w ∧ d = .v v := by
  cases op <;> simp only [ibin] at h
  all_goals first
    | (cases h; done)
    | (cases h; exact ⟨_, by simp [binOp, Op.intArith, Op.intDiv, Op.intCmp], rfl⟩)
    | (split at h
       · cases h
       · rename_i h0
         cases h
         exact ⟨_, by simp [binOp, Op.intArith, Op.intDiv, Op.intCmp, h0], rfl⟩)
theorem sbin_run {op : BinOp} {x y : ByteArray} {d : FD} (h : sbin op x y = some d) (t : TypeId) (w : World) : ∃ v, (binOp op t (.string x) (.string y)).run P w = .ok v w ∧ d = .v v := by
  have hm : IntKind.i64.max = 9223372036854775807 := rfl
  cases op <;> simp only [sbin] at h
  all_goals first
    | (cases h; done)
    | (cases h; exact ⟨_, by simp [binOp, Op.stringOp], rfl⟩)
    | (split at h
       · rename_i h0
         cases h
         refine ⟨_, ?_, rfl⟩
         have h2 : (x.size : Int) + (y.size : Int) ≤ 9223372036854775807 := by omega
         have h1 : ¬ ((9223372036854775807 : Int) < (x.size : Int) + (y.size : Int)) := by omega
         simp [binOp, Op.stringOp, hm, h1, h2]
       · cases h)

theorem kiOf_bool {d : TypeDesc} (h : kiOf P d = some .bool) : d = .bool := by
  cases d <;> simp [kiOf, Option.bind_eq_some_iff, Option.map_eq_some_iff] at h ⊢
theorem kiOf_string {d : TypeDesc} (h : kiOf P d = some .string) : d = .string := by
  cases d <;> simp [kiOf, Option.bind_eq_some_iff, Option.map_eq_some_iff] at h ⊢
theorem kiOf_int {d : TypeDesc} {k : IntKind} (h : kiOf P d = some (.int k)) : d = .int k := by
  cases d <;> simp [kiOf, Option.bind_eq_some_iff, Option.map_eq_some_iff] at h ⊢
  exact h
theorem kiOf_slice {d : TypeDesc} {e esz bytes : Nat} {ez : List Value} (h : kiOf P d = some (.slice e esz bytes ez)) : d = .slice e ∧ ∃ i z, P.info? e = some i ∧ i.zero = some z ∧ esz = i.size ∧ bytes = i.bytes ∧ ez = z.cells.toList ∧ z.cells.toList.all Value.oneCell' = true := by
  cases d <;> simp [kiOf, Option.bind_eq_some_iff, Option.map_eq_some_iff] at h
  obtain ⟨i, h1, z, h2, h3, rfl, rfl, rfl, rfl⟩ := h
  exact ⟨rfl, i, z, h1, h2, rfl, rfl, rfl, by simpa using h3⟩
theorem kiOf_arr {d : TypeDesc} {n esz : Nat} {ea : Bool} (h : kiOf P d = some (.arr n esz ea)) : ∃ e, d = .array n e ∧ ∃ i, P.info? e = some i ∧ (∃ dd, P.underlying e = some dd) ∧ esz = i.size ∧ ea = aggB P e := by
  cases d <;> simp [kiOf, Option.bind_eq_some_iff, Option.map_eq_some_iff] at h
  obtain ⟨i, h1, ⟨dd, h2⟩, rfl, rfl, rfl⟩ := h
  exact ⟨_, rfl, i, h1, ⟨dd, h2⟩, rfl, rfl⟩
theorem mapM_get {α β : Type} {f : α → Option β} : ∀ {l : List α} {r : List β}, l.mapM f = some r → ∀ j : Nat, r[j]? = (l[j]?).bind f
  | [], r, h, j => by simp at h; subst h; simp
  | a :: l, r, h, j => by
    simp only [List.mapM_cons, Option.bind_eq_bind, Option.bind_eq_some_iff, Option.pure_def, Option.some.injEq] at h
    obtain ⟨b, h1, r', h2, rfl⟩ := h
    cases j with
    | zero => simp [h1]
    | succ j => simpa using mapM_get h2 j
theorem kiOf_struct {d : TypeDesc} {fs : List (Nat × Nat × Bool)} (h : kiOf P d = some (.struct fs)) : ∃ fields, d = .struct fields ∧ fields.toList.mapM (fun f => (P.info? f.type).bind fun i => (P.underlying f.type).map fun _ => (f.offset, i.size, aggB P f.type)) = some fs := by
  cases d <;> simp [kiOf, Option.bind_eq_some_iff, Option.map_eq_some_iff] at h
  exact ⟨_, rfl, by simpa using h⟩
theorem run_equal_bool {t : TypeId} (ht : P.underlying t = some .bool) (a b : Bool) (w : World) : (Op.equal t (.bool a) (.bool b)).run P w = .ok (a == b) w := by
  have key : ∀ d, (Op.equalIn (d + 1) t (.bool a) (.bool b)).run P w = .ok (a == b) w := fun d => by
    unfold Op.equalIn
    simp only [Sem.run_bind, run_underlying ht, Result.andThen_ok]
    rfl
  exact key 9999
theorem binOp_eql_bool (t : TypeId) (a b : Bool) : binOp .eql t (.bool a) (.bool b) = (do pure (.bool (← Op.equal t (.bool a) (.bool b)))) := rfl
theorem binOp_neq_bool (t : TypeId) (a b : Bool) : binOp .neq t (.bool a) (.bool b) = (do pure (.bool (!(← Op.equal t (.bool a) (.bool b))))) := rfl
theorem dbin_run {op : BinOp} {t : TypeId} {ti : TI} (ht : lay P t = some ti) {c : Cx} {x y : Value} {a b : D} (hx : RepD c x a) (hy : RepD c y b) {d : FD} (h : dbin ti.ki op a b = some d) (hs : op ≠ .shl ∧ op ≠ .shr) (w : World) (X Y : Operand) :
    ∃ v, (do eqGuard op t X Y x y; binOp op t x y : Sem Value).run P w = .ok v w ∧ d = .v v := by
  unfold dbin at h
  split at h
  · rename_i k n k' m
    unfold RepD Rep at hx hy
    subst hx hy
    split at h
    · rename_i hk
      subst hk
      obtain ⟨v, h1, h2⟩ := ibin_run (P := P) h t w
      refine ⟨v, ?_, h2⟩
      have : (eqGuard op t X Y (.int k n) (.int k m)).run P w = .ok () w := by unfold eqGuard; split <;> simp
      simp [this, h1]
    · cases h
  · rename_i n m
    unfold RepD Rep at hx hy
    subst hx hy
    obtain ⟨v, h1, h2⟩ := sbin_run (P := P) h t w
    refine ⟨v, ?_, h2⟩
    have : (eqGuard op t X Y (.string n) (.string m)).run P w = .ok () w := by unfold eqGuard; split <;> simp
    simp [this, h1]
  · rename_i n m
    unfold RepD Rep at hx hy
    subst hx hy
    obtain ⟨i, dd, z, k, h1, h2, h3, h4, h5, h6, rfl⟩ := lay_spec ht
    have hg : ∀ op, (eqGuard op t X Y (.bool n) (.bool m)).run P w = .ok () w := fun op => by unfold eqGuard; split <;> simp
    split at h
    · rename_i hki
      simp only at hki
      subst hki
      have hu := kiOf_bool h4
      subst hu
      cases h
      exact ⟨_, by rw [binOp_eql_bool]; simp [hg, run_equal_bool h2], rfl⟩
    · rename_i hki
      simp only at hki
      subst hki
      have hu := kiOf_bool h4
      subst hu
      cases h
      exact ⟨_, by rw [binOp_neq_bool]; simp [hg, run_equal_bool h2], rfl⟩
    · cases h
  · cases h
theorem dun_run {op : UnOp} {c : Cx} {x : Value} {a : D} (hx : RepD c x a) {d : FD} (h : dun op a = some d) (w : World) : ∃ v, (Op.unary op x).run P w = .ok v w ∧ d = .v v := by
  unfold dun at h
  split at h
  · unfold RepD Rep at hx
    subst hx
    split at h
    · cases h; exact ⟨_, by simp [Op.unary], rfl⟩
    · cases h
  · unfold RepD Rep at hx
    subst hx
    split at h
    · cases h; exact ⟨_, by simp [Op.unary, Op.intArith], rfl⟩
    · cases h
  · cases h
theorem dconv_run {s t : TypeId} {si ti : TI} (hs : lay P s = some si) (ht : lay P t = some ti) {c : Cx} {x : Value} {a : D} (hx : RepD c x a) {d : FD} (h : dconv ti.ki a = some d) (w : World) : ∃ v, (convert s t x).run P w = .ok v w ∧ d = .v v := by
  obtain ⟨i, dd, z, k, h1, h2, h3, h4, h5, h6, rfl⟩ := lay_spec ht
  obtain ⟨i', dd', z', k', h1', h2', -⟩ := lay_spec hs
  unfold dconv at h
  split at h
  · unfold RepD Rep at hx
    subst hx
    split at h
    · rename_i kk hki
      simp only at hki
      subst hki
      have hu := kiOf_int h4
      subst hu
      cases h
      exact ⟨_, by simp [convert, run_underlying h2, run_underlying h2', Conv.intToInt], rfl⟩
    · cases h
  · unfold RepD Rep at hx
    subst hx
    split at h
    · rename_i hki
      simp only at hki
      subst hki
      have hu := kiOf_string h4
      subst hu
      cases h
      exact ⟨_, by simp [convert, run_underlying h2, run_underlying h2'], rfl⟩
    · cases h
  · cases h
theorem shiftD_rep {c : Cx} {v : Value} {x d : D} (hx : RepD c v x) {off : Nat} (h : shiftD off x = some d) : ∃ b o, v = .pointer (some ⟨b, o, none⟩) ∧ RepD c (.pointer (some ⟨b, o + off, none⟩)) d := by
  cases x with
  | loc id o =>
    simp only [shiftD, Option.some.injEq] at h
    subst h
    unfold RepD at hx ⊢
    obtain ⟨b, h1, rfl⟩ := hx
    exact ⟨b, o, rfl, b, h1, rfl⟩
  | f y =>
    cases y with
    | ref cs =>
      simp only [shiftD, Option.some.injEq] at h
      subst h
      unfold RepD Rep at hx
      obtain ⟨b, o, rfl, hr⟩ := hx
      exact ⟨b, o, rfl, by unfold RepD Rep; exact ⟨b, o + off, rfl, repA_drop hr off⟩⟩
    | _ => simp [shiftD] at h
  | rowp g ver z i o =>
    simp only [shiftD, Option.some.injEq] at h
    subst h
    unfold RepD at hx
    obtain ⟨b, n, cap, h1, rfl⟩ := hx
    exact ⟨b, _, rfl, by unfold RepD; exact ⟨b, n, cap, h1, by rw [Nat.add_assoc]⟩⟩
  | _ => simp [shiftD] at h
theorem aggD_rep {c : Cx} {v : Value} {x : D} (hx : RepD c v x) {cs : List D} (h : aggD x = some cs) : ∃ vs : List Value, v = .agg vs.toArray ∧ RepDC c vs cs := by
  cases x with
  | f y =>
    cases y with
    | agg ds =>
      simp only [aggD, Option.some.injEq] at h
      subst h
      unfold RepD Rep at hx
      obtain ⟨vs, rfl, hr⟩ := hx
      exact ⟨vs, rfl, repDC_f hr⟩
    | _ => simp [aggD] at h
  | agg ds =>
    simp only [aggD, Option.some.injEq] at h
    subst h
    unfold RepD at hx
    exact hx
  | _ => simp [aggD] at h
/-- a part of a value -/
theorem run_partB {t : TypeId} {i : TypeInfo} (hi : P.info? t = some i) (hu : ∃ d, P.underlying t = some d) {vs : List Value} {off : Nat} {v : Value} (w : World)
    (h : (aggB P t = true ∧ v = .agg ((vs.drop off).take i.size).toArray) ∨ (aggB P t = false ∧ vs[off]? = some v)) : (part t vs.toArray off).run P w = .ok v w := by
  unfold part
  simp only [Sem.run_bind, run_isAggB hi w hu, Result.andThen_ok]
  rcases h with ⟨h1, rfl⟩ | ⟨h1, h2⟩
  · rw [h1]
    have e : (vs.toArray.extract off (off + i.size)) = ((vs.drop off).take i.size).toArray := by
      apply Array.ext'
      simp [List.extract_eq_take_drop]
    simp [sizeOf, typeInfo, hi, e]
  · rw [h1]
    simp [h2]
theorem aggB_some {t : TypeId} (h : aggB P t = true) : ∃ d, P.underlying t = some d := by
  unfold aggB at h
  split at h
  · exact ⟨_, ‹_›⟩
  · exact ⟨_, ‹_›⟩
  · cases h
end Go.Dn
end
section
namespace Go.Dn
open Go.RowKit Go.Dk Go.MapKept

variable {P : Program}

def eqV1 : LK → Value → Value → Option Bool
  | .b, .bool x, .bool y => some (x == y)
  | .i k, .int k1 x, .int k2 y => if k1 = k ∧ k2 = k then some (x == y) else none
  | .s, .string x, .string y => some (x == y)
  | _, _, _ => none
def eqV : List LK → List Value → List Value → Option Bool
  | [], [], [] => some true
  | k :: l, x :: xs, y :: ys => (eqV1 k x y).bind fun b => (eqV l xs ys).map (b && ·)
  | _, _, _ => none
theorem eqV_rep {x : X} : ∀ {l : List LK} {fs gs : List FD} {vs us : List Value} {r : Bool}, RepC x vs fs → RepC x us gs → eqC l fs gs = some r → eqV l vs us = some r
  | [], [], [], vs, us, r, h1, h2, h => by unfold RepC at h1 h2; subst h1 h2; simpa [eqC, eqV] using h
  | k :: l, f :: fs, g :: gs, vs, us, r, h1, h2, h => by
    unfold RepC at h1 h2
    obtain ⟨v, vs, rfl, -, a1, b1⟩ := h1
    obtain ⟨u, us, rfl, -, a2, b2⟩ := h2
    simp only [eqC, Option.bind_eq_some_iff, Option.map_eq_some_iff] at h
    obtain ⟨b, hb, r', hr, rfl⟩ := h
    simp only [eqV, Option.bind_eq_some_iff, Option.map_eq_some_iff]
    refine ⟨b, ?_, r', eqV_rep b1 b2 hr, rfl⟩
    unfold eqC1 at hb
    split at hb <;> first | (cases hb; done) | (unfold Rep at a1 a2; subst a1 a2; exact hb)
  | [], [], _ :: _, _, _, _, _, _, h => by simp [eqC] at h
  | [], _ :: _, _, _, _, _, _, _, h => by simp [eqC] at h
  | _ :: _, [], _, _, _, _, _, _, h => by simp [eqC] at h
  | _ :: _, _ :: _, [], _, _, _, _, _, h => by simp [eqC] at h
theorem eqV_app : ∀ {l1 l2 : List LK} {xs ys : List Value} {r : Bool}, eqV (l1 ++ l2) xs ys = some r → ∃ r1 r2, eqV l1 (xs.take l1.length) (ys.take l1.length) = some r1 ∧ eqV l2 (xs.drop l1.length) (ys.drop l1.length) = some r2 ∧ r = (r1 && r2)
  | [], l2, xs, ys, r, h => ⟨true, r, by simp [eqV], by simpa using h, by simp⟩
  | k :: l1, l2, [], ys, r, h => by simp [eqV] at h
  | k :: l1, l2, x :: xs, [], r, h => by simp [eqV] at h
  | k :: l1, l2, x :: xs, y :: ys, r, h => by
    simp only [List.cons_append, eqV, Option.bind_eq_some_iff, Option.map_eq_some_iff] at h
    obtain ⟨b, hb, r', hr, rfl⟩ := h
    obtain ⟨r1, r2, h1, h2, rfl⟩ := eqV_app hr
    exact ⟨b && r1, r2, by simp [eqV, hb, h1], by simpa using h2, by cases b <;> simp⟩
theorem eqV_swap1 {k : LK} {x y : Value} {r : Bool} (h : eqV1 k x y = some r) : eqV1 k x x = some true ∧ eqV1 k y y = some true := by
  unfold eqV1 at h
  split at h
  · simp [eqV1]
  · split at h
    · rename_i hk; simp [eqV1, hk]
    · cases h
  · have hb : ∀ s : ByteArray, (s == s) = true := fun s => (bytes_beq s s).2 rfl
    simp [eqV1, hb]
  · cases h
theorem eqV_self : ∀ {l : List LK} {xs ys : List Value} {r : Bool}, eqV l xs ys = some r → eqV l xs xs = some true ∧ eqV l ys ys = some true
  | [], [], [], _, _ => ⟨rfl, rfl⟩
  | k :: l, x :: xs, y :: ys, r, h => by
    simp only [eqV, Option.bind_eq_some_iff, Option.map_eq_some_iff] at h
    obtain ⟨b, hb, r', hr, rfl⟩ := h
    obtain ⟨a1, a2⟩ := eqV_swap1 hb
    obtain ⟨b1, b2⟩ := eqV_self hr
    simp [eqV, a1, a2, b1, b2]
  | [], [], _ :: _, _, h => by simp [eqV] at h
  | [], _ :: _, _, _, h => by simp [eqV] at h
  | _ :: _, [], _, _, h => by simp [eqV] at h
  | _ :: _, _ :: _, [], _, h => by simp [eqV] at h
theorem eqV_one {k : LK} {xs ys : List Value} {r : Bool} (h : eqV [k] xs ys = some r) : ∃ x y, xs = [x] ∧ ys = [y] ∧ eqV1 k x y = some r := by
  cases xs with
  | nil => simp [eqV] at h
  | cons x xs =>
    cases ys with
    | nil => simp [eqV] at h
    | cons y ys =>
      simp only [eqV, Option.bind_eq_some_iff, Option.map_eq_some_iff] at h
      obtain ⟨b, hb, r', hr, rfl⟩ := h
      cases xs <;> cases ys <;> simp [eqV] at hr
      subst hr
      exact ⟨x, y, rfl, rfl, by simpa using hb⟩
theorem eqV_len : ∀ {l : List LK} {xs ys : List Value} {r : Bool}, eqV l xs ys = some r → xs.length = l.length
  | [], [], [], _, _ => rfl
  | k :: l, x :: xs, y :: ys, r, h => by
    simp only [eqV, Option.bind_eq_some_iff, Option.map_eq_some_iff] at h
    obtain ⟨b, hb, r', hr, rfl⟩ := h
    simp [eqV_len hr]
  | [], [], _ :: _, _, h => by simp [eqV] at h
  | [], _ :: _, _, _, h => by simp [eqV] at h
  | _ :: _, [], _, _, h => by simp [eqV] at h
  | _ :: _, _ :: _, [], _, h => by simp [eqV] at h

/-- what flat says of a type -/
inductive FlatWay (P : Program) (m : Nat) (t : TypeId) (l : List LK) : Prop
  | b (hu : P.underlying t = some .bool) (hl : l = [.b])
  | i (k : IntKind) (hu : P.underlying t = some (.int k)) (hl : l = [.i k])
  | s (hu : P.underlying t = some .string) (hl : l = [.s])
  | sl (e : TypeId) (l' : List LK) (hu : P.underlying t = some (.slice e)) (hf : flat P m e = some l') (hc : l'.length = P.cellsOf e ∧ 0 < l'.length) (hl : l = [.sl l'])
  | arr (n : Nat) (e : TypeId) (l' : List LK) (hu : P.underlying t = some (.array n e)) (hf : flat P m e = some l') (hc : l'.length = P.cellsOf e) (hl : l = (List.replicate n l').flatten)
  | struct (fs : Array Field) (hu : P.underlying t = some (.struct fs)) (hf : flatFs (flat P m) P.cellsOf 0 fs.toList = some l) (hs : P.stoodInHeld t = false)
theorem flat_way {m : Nat} {t : TypeId} {l : List LK} (h : flat P (m + 1) t = some l) : FlatWay P m t l := by
  unfold flat at h
  split at h
  · cases h; exact .b ‹_› rfl
  · cases h; exact .i _ ‹_› rfl
  · cases h; exact .s ‹_› rfl
  · simp only [Option.bind_eq_some_iff] at h
    obtain ⟨l', h1, h2⟩ := h
    split at h2
    · cases h2; exact .sl _ l' ‹_› h1 ‹_› rfl
    · cases h2
  · simp only [Option.bind_eq_some_iff] at h
    obtain ⟨l', h1, h2⟩ := h
    split at h2
    · cases h2; exact .arr _ _ l' ‹_› h1 ‹_› rfl
    · cases h2
  · simp only [Option.bind_eq_some_iff] at h
    obtain ⟨l', h1, h2⟩ := h
    split at h2
    · rename_i hs
      cases h2
      exact .struct _ ‹_› h1 (by simpa using hs)
    · cases h2
  · cases h
theorem part_flat (w : World) {m : Nat} {e : TypeId} {l : List LK} {off : Nat} {xs : Array Value} {ys : List Value} {r : Bool} (hf : flat P m e = some l) (hc : l.length = P.cellsOf e) (hk : eqV l ((xs.toList.drop off).take l.length) ys = some r) :
    ∃ a, (part e xs off).run P w = .ok a w ∧ a.formed P e = true ∧ a.cells.toList = (xs.toList.drop off).take l.length := by
  cases m with
  | zero => simp [flat] at hf
  | succ m =>
    have agg : ∀ d, P.underlying e = some d → ((∃ n e', d = .array n e') ∨ (∃ fs, d = .struct fs)) → ∃ a, (part e xs off).run P w = .ok a w ∧ a.formed P e = true ∧ a.cells.toList = (xs.toList.drop off).take l.length := by
      intro d hu hd
      obtain ⟨i, hi⟩ := info_of_underlying hu
      have hlen := eqV_len hk
      have hl : (xs.extract off (off + P.cellsOf e)).toList = (xs.toList.drop off).take (P.cellsOf e) := by
        rw [Array.toList_extract]
        simp [List.extract]
      refine ⟨.agg (xs.extract off (off + P.cellsOf e)), ?_, ?_, by rw [hc]; exact hl⟩
      · rcases hd with ⟨n, e', rfl⟩ | ⟨fs, rfl⟩ <;> simp [part, isAgg, run_underlying hu, run_sizeOf w hi]
      · have hs : (xs.extract off (off + P.cellsOf e)).size = P.cellsOf e := by rw [← Array.length_toList, hl, ← hc, hlen]
        rcases hd with ⟨n, e', rfl⟩ | ⟨fs, rfl⟩ <;> simp [Value.formed, hu, hs]
    have plain : P.plainKey e = true → ∀ k, l = [k] → ∃ a, (part e xs off).run P w = .ok a w ∧ a.formed P e = true ∧ a.cells.toList = (xs.toList.drop off).take l.length := by
      rintro hp k rfl
      obtain ⟨x, y, ex, ey, hxy⟩ := eqV_one hk
      refine ⟨x, run_part_plain w hp (getElem?_of_chunk ex), ?_, ?_⟩
      · unfold Program.plainKey at hp
        unfold eqV1 at hxy
        split at hxy <;> first | (cases hxy; done) | (simp only [Value.formed]; revert hp; cases P.underlying e with | none => simp | some d => cases d <;> simp)
      · rw [ex]
        unfold eqV1 at hxy
        split at hxy <;> first | (cases hxy; done) | rfl
    cases flat_way hf with
    | b hu hl => exact plain (by simp [Program.plainKey, hu]) _ hl
    | i k hu hl => exact plain (by simp [Program.plainKey, hu]) _ hl
    | s hu hl => exact plain (by simp [Program.plainKey, hu]) _ hl
    | sl e' l' hu _ _ hl =>
      subst hl
      obtain ⟨x, y, ex, ey, hxy⟩ := eqV_one hk
      simp [eqV1] at hxy
    | arr n e' l' hu _ _ hl => exact agg _ hu (.inl ⟨_, _, rfl⟩)
    | struct fs hu _ _ => exact agg _ hu (.inr ⟨_, rfl⟩)
def EqFlat (P : Program) (dd : Nat) (e : TypeId) (l : List LK) : Prop :=
  ∀ (w : World) (a b : Value) (r : Bool), a.formed P e = true → b.formed P e = true → eqV l a.cells.toList b.cells.toList = some r → (Op.equalIn dd e a b).run P w = .ok r w
theorem step_flat (w : World) {m dd : Nat} {e : TypeId} {l : List LK} (IH : EqFlat P dd e l) {off : Nat} {xs ys : Array Value} {r : Bool} (hf : flat P m e = some l) (hc : l.length = P.cellsOf e)
    (hk : eqV l ((xs.toList.drop off).take l.length) ((ys.toList.drop off).take l.length) = some r) : ∃ a b, (part e xs off).run P w = .ok a w ∧ (part e ys off).run P w = .ok b w ∧ (Op.equalIn dd e a b).run P w = .ok r w := by
  obtain ⟨h1, h2⟩ := eqV_self hk
  obtain ⟨a, p1, f1, c1⟩ := part_flat w hf hc h1
  obtain ⟨b, p2, f2, c2⟩ := part_flat w hf hc h2
  exact ⟨a, b, p1, p2, IH w a b r f1 f2 (by rw [c1, c2]; exact hk)⟩
theorem items_flat (w : World) {m dd : Nat} {e : TypeId} {l : List LK} (IH : EqFlat P dd e l) {xs ys : Array Value} (hf : flat P m e = some l) (hc : l.length = P.cellsOf e) :
    ∀ (n s : Nat) (r : Bool), eqV (List.replicate n l).flatten (xs.toList.drop (s * P.cellsOf e)) (ys.toList.drop (s * P.cellsOf e)) = some r → (Op.eqItems dd e (P.cellsOf e) xs ys (List.range' s n)).run P w = .ok r w
  | 0, s, r, h => by
    have hx := eqV_len h
    generalize xs.toList.drop (s * P.cellsOf e) = X at h hx
    generalize ys.toList.drop (s * P.cellsOf e) = Y at h
    cases X <;> cases Y <;> simp [eqV] at h hx
    subst h
    simp [Op.eqItems]
  | n + 1, s, r, h => by
    rw [List.replicate_succ, List.flatten_cons] at h
    obtain ⟨r1, r2, h1, h2, rfl⟩ := eqV_app h
    rw [List.drop_drop, List.drop_drop, hc, ← Nat.succ_mul] at h2
    obtain ⟨a, b, p1, p2, p3⟩ := step_flat w IH hf hc h1
    have ih := items_flat w IH hf hc n (s + 1) r2 h2
    rw [List.range'_succ]
    simp only [Op.eqItems, Sem.run_bind, p1, p2, p3, Result.andThen_ok]
    cases r1
    · simp
    · simpa using ih
theorem fields_flat (w : World) {m dd : Nat} {xs ys : Array Value} (IH : ∀ e l, flat P m e = some l → EqFlat P dd e l) :
    ∀ (fs : List Field) (off : Nat) (l : List LK) (r : Bool), flatFs (flat P m) P.cellsOf off fs = some l → eqV l (xs.toList.drop off) (ys.toList.drop off) = some r → (Op.eqFields dd xs ys fs).run P w = .ok r w
  | [], off, l, r, hf, h => by
    cases hf
    have hx := eqV_len h
    generalize xs.toList.drop off = X at h hx
    generalize ys.toList.drop off = Y at h
    cases X <;> cases Y <;> simp [eqV] at h hx
    subst h
    simp [Op.eqFields]
  | f :: fs, off, l, r, hf, h => by
    simp only [flatFs, Option.bind_eq_some_iff] at hf
    obtain ⟨l1, h1, h2⟩ := hf
    split at h2
    · rename_i hh
      obtain ⟨rfl, hn, hc⟩ := hh
      simp only [Option.map_eq_some_iff] at h2
      obtain ⟨l2, h2, rfl⟩ := h2
      obtain ⟨r1, r2, k1, k2, rfl⟩ := eqV_app h
      rw [List.drop_drop, List.drop_drop] at k2
      obtain ⟨a, b, p1, p2, p3⟩ := step_flat w (IH _ _ h1) h1 hc k1
      have ih := fields_flat w IH fs (f.offset + l1.length) l2 r2 h2 k2
      simp only [Op.eqFields, hn, ne_eq, not_false_eq_true, if_true, Sem.run_bind, p1, p2, p3, Result.andThen_ok]
      cases r1
      · simp
      · simpa using ih
    · cases h2
theorem equalIn_flat (d : Nat) : ∀ (m : Nat) (t : TypeId) (l : List LK), flat P m t = some l → EqFlat P (d + m) t l
  | 0, _, _, h => by simp [flat] at h
  | m + 1, t, l, hf => by
    intro w x y r fx fy h
    have e1 : d + (m + 1) = (d + m) + 1 := rfl
    cases flat_way hf with
    | b hu hl =>
      subst hl
      obtain ⟨a, b, ea, eb, hab⟩ := eqV_one h
      unfold eqV1 at hab
      split at hab <;> simp_all
      all_goals (cases x <;> simp_all [Value.cells, Value.formed]; cases y <;> simp_all [Value.cells, Value.formed])
      all_goals simp [Op.equalIn, run_underlying hu]
      all_goals simp_all
    | i k hu hl =>
      subst hl
      obtain ⟨a, b, ea, eb, hab⟩ := eqV_one h
      unfold eqV1 at hab
      split at hab <;> simp_all
      all_goals (cases x <;> simp_all [Value.cells, Value.formed]; cases y <;> simp_all [Value.cells, Value.formed])
      all_goals simp [Op.equalIn, run_underlying hu]
      all_goals simp_all
    | s hu hl =>
      subst hl
      obtain ⟨a, b, ea, eb, hab⟩ := eqV_one h
      unfold eqV1 at hab
      split at hab <;> simp_all
      all_goals (cases x <;> simp_all [Value.cells, Value.formed]; cases y <;> simp_all [Value.cells, Value.formed])
      all_goals simp [Op.equalIn, run_underlying hu]
      all_goals simp_all
    | sl e' l' hu _ _ hl =>
      subst hl
      obtain ⟨a, b, ea, eb, hab⟩ := eqV_one h
      simp [eqV1] at hab
    | arr n e l' hu hf' hc hl =>
      subst hl
      cases x <;> simp only [Value.formed, hu, Bool.false_eq_true] at fx
      cases y <;> simp only [Value.formed, hu, Bool.false_eq_true] at fy
      rename_i xs ys
      have hpe : ∃ i, P.info? e = some i := by
        cases m with
        | zero => simp [flat] at hf'
        | succ m' =>
          cases flat_way hf' <;> exact info_of_underlying ‹_›
      obtain ⟨i, hi⟩ := hpe
      rw [e1, run_equalIn_array w (d + m) xs ys hu hi, List.range_eq_range']
      exact items_flat w (equalIn_flat d m e l' hf') hf' hc n 0 r (by simpa [Value.cells] using h)
    | struct fs hu hf' hs =>
      cases x <;> simp only [Value.formed, hu, Bool.false_eq_true] at fx
      cases y <;> simp only [Value.formed, hu, Bool.false_eq_true] at fy
      rename_i xs ys
      have hfs : P.fieldsOf t = fs := by simp [Program.fieldsOf, hu]
      rw [e1, run_equalIn_struct w (d + m) t xs ys (by rw [hfs]; exact hu) hs, hfs]
      exact fields_flat w (fun e l h => equalIn_flat d m e l h) fs.toList 0 l r hf' (by simpa [Value.cells] using h)
theorem dbinP_run {op : BinOp} {t : TypeId} {ti : TI} (ht : lay P t = some ti) {c : Cx} {x y : Value} {a b : D} (hx : RepD c x a) (hy : RepD c y b) {d : FD} (h : dbinP P t ti.agg ti.ki op a b = some d) (hs : op ≠ .shl ∧ op ≠ .shr) (w : World) (X Y : Operand) :
    ∃ v, (do eqGuard op t X Y x y; binOp op t x y : Sem Value).run P w = .ok v w ∧ d = .v v := by
  unfold dbinP at h
  split at h
  · rename_i hagg
    unfold eqA at h
    split at h
    · rename_i xs ys
      simp only [Option.bind_eq_some_iff] at h
      obtain ⟨l, h1, r, h2, h3⟩ := h
      unfold eqT at h1
      split at h1
      · cases h1
      · rename_i hg
        simp only [Option.bind_eq_some_iff] at h1
        obtain ⟨l0, h1, hlc⟩ := h1
        split at hlc
        case isFalse => cases hlc
        rename_i hlc'
        cases hlc
        have hlc := hlc'
        unfold RepD Rep at hx hy
        obtain ⟨vs, rfl, hv⟩ := hx
        obtain ⟨us, rfl, hu⟩ := hy
        have hev := eqV_rep hv hu h2
        have hform : ∀ zs : List Value, zs.length = l.length → (Value.agg zs.toArray).formed P t = true := by
          intro zs hz
          obtain ⟨i, d0, z, k, i1, i2, i3, i4, i5, i6, rfl⟩ := lay_spec ht
          have hagg' : aggB P t = true := hagg
          unfold aggB at hagg'
          rw [i2] at hagg'
          simp only [Value.formed, i2]
          cases d0 <;> simp at hagg' <;> simp [hz, hlc]
        have heq : (Op.equal t (.agg vs.toArray) (.agg us.toArray)).run P w = .ok r w := by
          have := equalIn_flat (P := P) 9994 6 t l h1 w (.agg vs.toArray) (.agg us.toArray) r (hform _ (eqV_len hev)) (hform _ (eqV_len (eqV_self hev).2)) (by simpa [Value.cells] using hev)
          exact this
        have hgd : (eqGuard op t X Y (.agg vs.toArray) (.agg us.toArray)).run P w = .ok () w := by
          unfold eqGuard
          cases op <;> simp [hg]
        split at h3
        · cases h3
          exact ⟨_, by simp [hgd, binOp, heq], rfl⟩
        · cases h3
          exact ⟨_, by simp [hgd, binOp, heq], rfl⟩
        · cases h3
    · cases h
  · split at h
    · rename_i hki
      obtain ⟨i, dd, z, k, h1, h2, h3, h4, h5, h6, rfl⟩ := lay_spec ht
      simp only at hki
      subst hki
      obtain ⟨e, rfl⟩ : ∃ e, dd = .pointer e := by
        cases dd <;> simp [kiOf, Option.bind_eq_some_iff, Option.map_eq_some_iff] at h4 ⊢
      have hpt : P.underlying t = some (.pointer (P.pointee t)) := by simp [Program.pointee, h2]
      unfold ptrD at h
      split at h
      · simp only [Option.bind_eq_some_iff] at h
        obtain ⟨r, hr, h⟩ := h
        unfold RepD Rep at hy
        subst hy
        obtain ⟨p, rfl, rfl⟩ : ∃ p, x = .pointer p ∧ r = p.isNone := by
          unfold nilD at hr
          split at hr
          · cases hr
            unfold RepD Rep at hx
            exact ⟨none, hx, rfl⟩
          · cases hr
            unfold RepD Rep at hx
            exact ⟨some _, hx, rfl⟩
          · cases hr
            unfold RepD Rep at hx
            obtain ⟨a, o, rfl, -⟩ := hx
            exact ⟨some _, rfl, rfl⟩
          · cases hr
            unfold RepD at hx
            obtain ⟨b, -, rfl⟩ := hx
            exact ⟨some _, rfl, rfl⟩
          · cases hr
            unfold RepD at hx
            obtain ⟨b, n, cap, -, rfl⟩ := hx
            exact ⟨some _, rfl, rfl⟩
          · cases hr
        have hg : (eqGuard op t X Y (.pointer p) (.pointer none)).run P w = .ok () w := by unfold eqGuard; split <;> simp
        unfold ptrB at h
        split at h
        · cases h
          exact ⟨_, by simp [hg, run_eql_pointer_nil w t p hpt], rfl⟩
        · cases h
          exact ⟨_, by simp [hg, run_neq_pointer_nil w t p hpt], rfl⟩
        · cases h
      · cases h
    · exact dbin_run ht hx hy h hs w X Y
end Go.Dn
end
section
namespace Go.Dn
open Go.RowKit Go.Dk

variable {P : Program}

theorem cellsOf_eq {t : TypeId} {i : TypeInfo} (h : P.info? t = some i) : P.cellsOf t = i.size := by simp [Program.cellsOf, h]
theorem madeCells_toList (z : Array Value) (hz : 0 < z.size) : ∀ n, (madeCells z (n * z.size)).toList = (List.replicate n z.toList).flatten := by
  intro n
  apply List.ext_getElem?
  intro j
  have hfl : ∀ n j, ((List.replicate n z.toList).flatten)[j]? = if j < n * z.size then z[j % z.size]? else none := by
    intro n
    induction n with
    | zero => intro j; simp
    | succ n ih =>
      intro j
      simp only [List.replicate_succ, List.flatten_cons, Nat.succ_mul]
      rw [List.getElem?_append]
      simp only [Array.length_toList]
      by_cases h1 : j < z.size
      · rw [if_pos h1, if_pos (by omega), Nat.mod_eq_of_lt h1]; simp
      · rw [if_neg h1, ih]
        have : j % z.size = (j - z.size) % z.size := by rw [Nat.mod_eq_sub_mod (by omega)]
        rw [this]
        by_cases h2 : j - z.size < n * z.size
        · rw [if_pos h2, if_pos (by omega)]
        · rw [if_neg h2, if_neg (by omega)]
  rw [hfl]
  simp only [madeCells, Array.getElem?_toList, Array.getElem?_map, Array.getElem?_range]
  by_cases h : j < n * z.size
  · have hm := Nat.mod_lt j hz
    simp [h, hm]
  · simp [h]
theorem repC_replicate {x : X} {zs : List Value} (hz : zs.all Value.oneCell' = true) : ∀ n, RepC x (List.replicate n zs).flatten (List.replicate n (zs.map FD.v)).flatten
  | 0 => by simp [RepC]
  | n + 1 => by
    simp only [List.replicate_succ, List.flatten_cons]
    exact repC_append (repC_v hz) (repC_replicate hz n)

theorem op_sound {w0 : World} {WS0 : Nat → Nat → Prop} {c : Cx} {a : Act} {st : St} {id : Nat} {o : Oper} {K : D → St → Prop} {next : Act → World → Prop} {Q : Exit → Act → World → Prop}
    (h : opW P id o st K) (hF : InvF c a st) (hM : InvM w0 WS0 c st.mem) (hf : Fresh c st.mem id) (hg : Goes w0 WS0 c a st id o.dst K next) : o.wp P a c.x.W next Q := by
  obtain ⟨dst, op, type, pos, after, guard⟩ := o
  cases op with
  | move x => exact wp_value (v := a.eval x) rfl (hg.val hM h (hF.ev x))
  | assign x => exact wp_value (v := a.eval x) rfl (hg.val hM h (hF.ev x))
  | pick cc x y =>
    obtain ⟨t, ht, h⟩ := h
    have hc := truth_rep (hF.ev cc) ht
    refine wp_value (v := if t then a.eval x else a.eval y) (w' := c.x.W) ?_ (hg.val hM h ?_)
    · simp only [execOp, hc]; cases t <;> rfl
    · cases t
      · exact hF.ev y
      · exact hF.ev x
  | alloc t =>
    obtain ⟨ti, ht, h⟩ := h
    obtain ⟨i, d, z, k, h1, h2, h3, h4, h5, h6, rfl⟩ := lay_spec ht
    refine wp_value (v := .pointer (some ⟨c.x.W.heap.size, 0, none⟩)) (w' := c.x.W.alloc (.cells z.cells t)) ?_ ?_
    · simp [execOp, Instr.alloc, zeroValue, typeInfo, h1, h3, newVar, newRow, run_newObj_alloc]
    · exact hg.blk hM hf (vs := z.cells.toList) (T := t) (repDC_v h5) h
  | box t x =>
    obtain ⟨ti, ht, cs, hc, h⟩ := h
    have hr := cellsD_rep (hF.ev x) hc
    refine wp_value (v := .pointer (some ⟨c.x.W.heap.size, 0, none⟩)) (w' := c.x.W.alloc (.cells (a.eval x).cells t)) ?_ ?_
    · simp [execOp, Instr.box, newVar, newRow, run_newObj_alloc]
    · unfold gif at h
      split at h
      · obtain ⟨fs, hfs, h⟩ := h
        exact hg.fblk hM (vs := (a.eval x).cells.toList) (T := t) (repC_asF hfs hr) h
      · exact hg.blk hM hf (vs := (a.eval x).cells.toList) (T := t) hr h
  | build t parts =>
    obtain ⟨ti, ht, cs, hc, h⟩ := h
    split at h
    · rename_i hagg
      obtain ⟨i, d, z, k, h1, h2, h3, h4, h5, h6, rfl⟩ := lay_spec ht
      have hall : ∀ (j : Nat) (p : Nat × Value) (q : Nat × D), (parts.toList.map fun p => (p.1, a.eval p.2))[j]? = some p → (parts.toList.map fun p => (p.1, st.ev p.2))[j]? = some q → p.1 = q.1 ∧ RepD c p.2 q.2 := fun j p q hp hq => by
        simp only [List.getElem?_map, Option.map_eq_some_iff] at hp hq
        obtain ⟨x, hx, rfl⟩ := hp
        obtain ⟨y, hy, rfl⟩ := hq
        rw [hx] at hy
        cases hy
        exact ⟨rfl, hF.ev _⟩
      obtain ⟨arr, ha, hr⟩ := fillD_rep _ _ _ z.cells _ _ (by simp) hall (repDC_v h5) hc
      have hb : P.built t (parts.toList.map fun p => (p.1, a.eval p.2)) = some arr := by
        unfold Program.built
        rw [h1, h2]
        cases d with
        | array n e =>
          simp only [kiOf, Option.bind_eq_some_iff, Option.map_eq_some_iff] at h4
          obtain ⟨ie, h7, _, _, rfl⟩ := h4
          simp only [h3, h7]
          exact ha
        | struct fields =>
          simp only [kiOf, Option.map_eq_some_iff] at h4
          obtain ⟨fs, h7, rfl⟩ := h4
          have h8 : fields.toList.mapM (fun f => (P.info? f.type).map fun i => (f.offset, i.size)) = some (fs.map fun f => (f.1, f.2.1)) := by
            clear ha hr hc h hagg ht h2
            generalize fields.toList = l at h7
            induction l generalizing fs with
            | nil => simp at h7; subst h7; simp
            | cons f l ih =>
              simp only [List.mapM_cons, Option.bind_eq_bind, Option.bind_eq_some_iff, Option.pure_def, Option.some.injEq, Option.map_eq_some_iff] at h7
              obtain ⟨b, ⟨i', k1, _, _, rfl⟩, r', k2, rfl⟩ := h7
              simp [k1, ih r' k2]
          simp only [h3, h8]
          have e : (fun x : Nat => ((fs.map fun f => (f.1, f.2.1)).toArray)[x]?) = placesOf (.struct fs) := by
            funext x
            simp [placesOf]
          rw [e]
          exact ha
        | _ => simp [aggB, h2] at hagg
      refine wp_value (v := .agg arr) (w' := c.x.W) ?_ (hg.val hM h (by have := repD_mkAgg hr; simpa using this))
      have := run_build (P := P) c.x.W t (parts.map fun p => (p.1, a.eval p.2)) arr (by simpa using hb)
      simp [execOp, this]
    · exact h.elim
  | buildSlice t len parts =>
    obtain ⟨ti, ht, h⟩ := h
    split at h
    · rename_i e esz bytes ez hki
      split at h
      · rename_i hcond
        obtain ⟨hp, hpos, hsmall, hez⟩ := hcond
        obtain ⟨xs, hxs, h⟩ := h
        obtain ⟨i, d, z, k, h1, h2, h3, h4, h5, h6, rfl⟩ := lay_spec ht
        simp only at hki
        subst hki
        obtain ⟨rfl, ie, ze, h7, h8, rfl, rfl, rfl, hz5⟩ := kiOf_slice h4
        simp only [Array.length_toList] at hez
        have hpl : parts.toList.length = len := by have := congrArg List.length hp; simpa using this
        have e1 : parts.toList.map (fun p => (p.1, a.eval p.2)) = (List.range' 0 (parts.toList.map fun p => a.eval p.2).length).zip (parts.toList.map fun p => a.eval p.2) := by
          rw [List.length_map, hpl, ← List.range_eq_range', ← hp]
          clear hp hpl hxs
          generalize parts.toList = l
          induction l with
          | nil => rfl
          | cons p l ih => simp [ih]
        have hxs' : omap (fun d => ((cellsD d).bind (omap asF)).bind fun fs => if fs.length = ie.size then some fs else none) (parts.toList.map fun p => st.ev p.2) = some xs := by
          clear hp hpl e1 h
          generalize parts.toList = l at hxs
          induction l generalizing xs with
          | nil => simpa [omap] using hxs
          | cons p l ih =>
            obtain ⟨b, r, k1, k2, rfl⟩ := omap_cons hxs
            simp only [List.map_cons, omap, k1, ih r k2]
            rfl
        have hmade : (madeCells ze.cells (len * ze.cells.size)).size = len * ze.cells.size := size_madeCells _ _
        obtain ⟨arr, ha, hr, hl, hxl⟩ := fill_rows (c := c) hpos (parts.toList.map fun p => a.eval p.2) (parts.toList.map fun p => st.ev p.2) xs 0 (madeCells ze.cells (len * ze.cells.size)) [] (by simp)
          (fun j v d hv hd => by
            simp only [List.getElem?_map, Option.map_eq_some_iff] at hv hd
            obtain ⟨x, hx, rfl⟩ := hv
            obtain ⟨y, hy, rfl⟩ := hd
            rw [hx] at hy
            cases hy
            exact hF.ev _) hxs' (by rw [hmade, hez, List.length_map, hpl, Nat.zero_add]) (by simp) (by simp [RepC])
        simp only [List.nil_append] at hr
        rw [← e1] at ha
        have hxlen : xs.length = len := by rw [hxl, List.length_map, hpl]
        refine wp_value (v := .slice (some ⟨c.x.W.heap.size, 0, none⟩) len len) (w' := c.x.W.alloc (.cells arr e)) ?_ ?_
        · have hs2 : ¬ len * ie.size > 16777216 := by omega
          by_cases hl0 : len = 0
          · subst hl0
            have hp0 : parts = #[] := by simpa using hpl
            subst hp0
            have hr0 : Array.range 0 = #[] := rfl
            have ha' : arr = #[] := by simpa [Instr.fill, madeCells, hr0] using ha.symm
            subst ha'
            simp [hr0, execOp, Instr.buildSlice, run_underlying h2, sizeOf, typeInfo, h7, Instr.fill, newRow, run_newObj_alloc]
          · have hm0 : ¬ len * ie.size = 0 := by
              intro hh
              rcases Nat.mul_eq_zero.1 hh with hh | hh <;> omega
            have := run_buildSlice (P := P) c.x.W t e len (parts.map fun p => (p.1, a.eval p.2)) arr ie ze h2 h7 h8 (by omega) hm0 (by rw [← hez]; simpa [madeCells, hez] using ha)
            simp [execOp, this]
        · have hlm : len ≤ maxLen := by
            have : len ≤ len * ie.size := Nat.le_mul_of_pos_right _ hpos
            unfold maxLen; omega
          unfold gif at h
          split at h
          · exact hg.frow hM (n := len) hxlen hlm hl rfl hr h
          exact hg.newrow hM hf (n := len) hxlen (by
            have : len ≤ len * ie.size := Nat.le_mul_of_pos_right _ hpos
            unfold maxLen; omega) hl hpos rfl hr h
      · exact h.elim
    · exact h.elim
  | load t x =>
    obtain ⟨ti, ht, d, hd, h⟩ := h
    obtain ⟨b, o, u, e, hr, hv⟩ := loadD_rep hM ht (hF.ev x) hd
    refine wp_value (v := u) (w' := c.x.W) ?_ (hg.val hM h hv)
    simp [execOp, Instr.loadAt, Instr.sureAddr, e, hr]
  | store t x y =>
    obtain ⟨ti, ht, cs, hcs, h⟩ := h
    split at h
    · rename_i hn
      obtain ⟨st', hs, h⟩ := h
      obtain ⟨w', b, o, e, hr, hk⟩ := storeD_goes hg hM ht (hF.ev x) (cellsD_rep (hF.ev y) hcs) hn hs h
      refine wp_skip' (w' := w') ?_ hk
      simp [execOp, Instr.storeAt, Instr.sureAddr, e, hr]
    · exact h.elim
  | binOp op t x y yt =>
    have key : ∀ (hs : op ≠ .shl ∧ op ≠ .shr), ob (lay P t) (fun i => ob (dbinP P t i.agg i.ki op (st.ev x) (st.ev y)) fun d => K (.f d) st) → Oper.wp P ⟨dst, .binOp op t x y yt, type, pos, after, guard⟩ a c.x.W next Q := by
      rintro hs ⟨ti, ht, d, hd, h⟩
      obtain ⟨v, hr, rfl⟩ := dbinP_run ht (hF.ev x) (hF.ev y) hd hs c.x.W x y
      refine wp_value (v := v) (w' := c.x.W) ?_ (hg.val hM h (by unfold RepD Rep; rfl))
      simp only [execOp, Sem.run_bind] at hr ⊢
      simp [hr]
    cases op
    case shl => exact h.elim
    case shr => exact h.elim
    all_goals exact key ⟨by simp, by simp⟩ h
  | unOp op t x =>
    obtain ⟨d, hd, h⟩ := h
    obtain ⟨v, hr, rfl⟩ := dun_run (P := P) (hF.ev x) hd c.x.W
    refine wp_value (v := v) (w' := c.x.W) ?_ (hg.val hM h (by unfold RepD Rep; rfl))
    simp [execOp, hr]
  | convert s t x =>
    obtain ⟨si, hs, ti, ht, d, hd, h⟩ := h
    obtain ⟨v, hr, rfl⟩ := dconv_run hs ht (hF.ev x) hd c.x.W
    refine wp_value (v := v) (w' := c.x.W) ?_ (hg.val hM h (by unfold RepD Rep; rfl))
    simp [execOp, hr]
  | nilCheck x =>
    obtain ⟨d, hd, h⟩ := h
    obtain ⟨b, o, e, -⟩ := shiftD_rep (hF.ev x) hd
    refine wp_value (v := a.eval x) (w' := c.x.W) ?_ (hg.val hM h (hF.ev x))
    simp [execOp, e]
  | fieldAddr t x i =>
    obtain ⟨ti, ht, h⟩ := h
    split at h
    · rename_i fs hki
      obtain ⟨f, hfi, h⟩ := h
      split at h
      · exact h.elim
      · rename_i hnz
        obtain ⟨d, hd, h⟩ := h
        obtain ⟨i0, dd, z, k, h1, h2, h3, h4, h5, h6, rfl⟩ := lay_spec ht
        simp only at hki
        subst hki
        obtain ⟨fields, rfl, hm⟩ := kiOf_struct h4
        have hget := mapM_get hm i
        rw [hfi] at hget
        obtain ⟨fl, hfl, hget⟩ := Option.bind_eq_some_iff.1 hget.symm
        simp only [Option.bind_eq_some_iff, Option.map_eq_some_iff] at hget
        obtain ⟨fi, hfi2, fu, hfu, rfl⟩ := hget
        obtain ⟨b, o, e, hv⟩ := shiftD_rep (hF.ev x) hd
        refine wp_value (v := .pointer (some ⟨b, o + fl.offset, none⟩)) (w' := c.x.W) ?_ (hg.val hM h hv)
        have hfa : fields[i]? = some fl := by simpa using hfl
        simp [execOp, Instr.fieldAt, run_underlying h2, hfa, Instr.sureAddr, e, fieldPlace, sizeOf, typeInfo, hfi2, hnz, Addr.add_mid]
    · exact h.elim
  | field t x i =>
    obtain ⟨ti, ht, h⟩ := h
    split at h
    · rename_i fs hki
      obtain ⟨f, hfi, h⟩ := h
      split at h
      · exact h.elim
      · obtain ⟨cs, hcs, d, hd, h⟩ := h
        obtain ⟨i0, dd, z, k, h1, h2, h3, h4, h5, h6, rfl⟩ := lay_spec ht
        simp only at hki
        subst hki
        obtain ⟨fields, rfl, hm⟩ := kiOf_struct h4
        have hget := mapM_get hm i
        rw [hfi] at hget
        obtain ⟨fl, hfl, hget⟩ := Option.bind_eq_some_iff.1 hget.symm
        simp only [Option.bind_eq_some_iff, Option.map_eq_some_iff] at hget
        obtain ⟨fi, hfi2, fu, hfu, rfl⟩ := hget
        obtain ⟨vs, e, hr⟩ := aggD_rep (hF.ev x) hcs
        have hfa : fields[i]? = some fl := by simpa using hfl
        rcases partD_rep hr hd with ⟨k1, k2, k3⟩ | ⟨k1, u, k2, k3⟩
        · refine wp_value (v := _) (w' := c.x.W) ?_ (hg.val hM h k3)
          have := run_partB (P := P) hfi2 (aggB_some k1) (vs := vs) (off := fl.offset) c.x.W (.inl ⟨k1, rfl⟩)
          simp [execOp, Instr.field, run_underlying h2, hfa, asAgg, e, this]
        · refine wp_value (v := u) (w' := c.x.W) ?_ (hg.val hM h k3)
          have := run_partB (P := P) hfi2 ⟨fu, hfu⟩ (vs := vs) (off := fl.offset) c.x.W (.inr ⟨k1, k2⟩)
          simp [execOp, Instr.field, run_underlying h2, hfa, asAgg, e, this]
    · exact h.elim
  | extract x i =>
    simp only [opW] at h
    split at h
    · rename_i cs hx
      obtain ⟨d, hd, h⟩ := h
      have hv := hF.ev x
      rw [hx] at hv
      unfold RepD Rep at hv
      obtain ⟨vs, e, hr⟩ := hv
      obtain ⟨u, hu, hr⟩ := repL_get hr hd
      refine wp_value (v := u) (w' := c.x.W) ?_ (hg.val hM h (by unfold RepD; exact hr))
      simp [execOp, Instr.extract, e, hu]
    · rename_i cs hx
      obtain ⟨d, hd, h⟩ := h
      have hv := hF.ev x
      rw [hx] at hv
      unfold RepD at hv
      obtain ⟨vs, e, hr⟩ := hv
      obtain ⟨u, hu, hr⟩ := repDL_get hr hd
      refine wp_value (v := u) (w' := c.x.W) ?_ (hg.val hM h hr)
      simp [execOp, Instr.extract, e, hu]
    · exact h.elim
  | indexAddr t x ix =>
    obtain ⟨ti, ht, k, hk, h⟩ := h
    obtain ⟨kk, hix⟩ := asI_rep (hF.ev ix) hk
    obtain ⟨i0, dd, z, ki, h1, h2, h3, h4, h5, h6, rfl⟩ := lay_spec ht
    simp only at h
    split at h
    · rename_i e esz bytes ez
      obtain ⟨rfl, ie, ze, h7, h8, rfl, rfl, rfl, hz5⟩ := kiOf_slice h4
      obtain ⟨xs, hxs, h⟩ := h
      split at h
      · rename_i hb
        obtain ⟨hb1, hb2, hb3⟩ := hb
        obtain ⟨kn, rfl⟩ : ∃ n : Nat, k = n := ⟨k.toNat, by omega⟩
        have hkl : kn < xs.length := by omega
        have run : ∀ b o cap, a.eval x = .slice (some ⟨b, o, none⟩) xs.length cap → (execOp a.eval ⟨dst, .indexAddr t x ix, type, pos, after, guard⟩).run P c.x.W = .ok (.value (.pointer (some ⟨b, o + kn * ie.size, none⟩))) c.x.W := fun b o cap e1 => by
          simp [execOp, Instr.indexAt, asIntOf, hix, run_underlying h2, e1, hb1, hb2, sizeOf, typeInfo, h7, Addr.add_mid]
          intro hh; omega
        have hv := hF.ev x
        split at h
        · rename_i g ver hx
          rw [hx] at hv hxs
          simp only [elems] at hxs
          split at hxs
          · rename_i e' v' z' xs' hm
            split at hxs
            · rename_i hvv
              obtain ⟨rfl, rfl⟩ := hvv
              cases hxs
              obtain ⟨v0, vs, k1, k2, -⟩ := hM.mem _ _ hm
              unfold RepD at hv
              have hv1 := hv.1
              rw [k1] at hv1
              cases hv1
              rcases k2.2 with ⟨-, hn⟩ | ⟨b, cap, cur, e1, -⟩
              · omega
              · refine wp_value (run b 0 cap e1) (hg.val hM h ?_)
                unfold RepD
                exact ⟨b, _, cap, by rw [k1, e1], by simp⟩
            · cases hxs
          · cases hxs
        · rename_i hno
          have hx : ∃ sz, st.ev x = .f (.sl sz xs) ∧ sz = ie.size := by
            unfold elems at hxs
            split at hxs
            · cases hxs; simp at hkl
            · rename_i z' xs' he
              split at hxs
              · cases hxs; exact ⟨_, he, by assumption⟩
              · cases hxs
            · rename_i g ver he
              exact (hno g ver he).elim
            · cases hxs
          obtain ⟨sz, hx, rfl⟩ := hx
          rw [hx] at hv
          unfold RepD Rep at hv
          obtain ⟨ao, cap, e1, hl, hn, hr⟩ := hv
          obtain ⟨b, o, rfl, hr2⟩ := hr (by intro hh; rw [hh] at hkl; simp at hkl)
          have hget : xs[kn]? = some (xs.getD kn []) := by simp [List.getD, List.getElem?_eq_getElem hkl]
          refine wp_value (run b o cap e1) (hg.val hM h ?_)
          unfold RepD Rep
          exact ⟨b, _, rfl, (repR_get hr2 (by simpa using hget)).2⟩
      · exact h.elim
    · rename_i n esz ea
      obtain ⟨e, rfl, ie, h7, hu7, rfl, rfl⟩ := kiOf_arr h4
      split at h
      · rename_i hb
        obtain ⟨hb1, hb2, hb3⟩ := hb
        obtain ⟨d, hd, h⟩ := h
        obtain ⟨kn, rfl⟩ : ∃ n : Nat, k = n := ⟨k.toNat, by omega⟩
        obtain ⟨b, o, e1, hv⟩ := shiftD_rep (hF.ev x) hd
        refine wp_value (v := .pointer (some ⟨b, o + kn * ie.size, none⟩)) (w' := c.x.W) ?_ (hg.val hM h (by simpa using hv))
        simp [execOp, Instr.indexAt, asIntOf, hix, run_underlying h2, Instr.sureAddr, e1, hb1, hb2, sizeOf, typeInfo, h7, Addr.add_mid]
        intro hh; omega
      · exact h.elim
    · exact h.elim
  | index t x ix =>
    obtain ⟨ti, ht, k, hk, h⟩ := h
    obtain ⟨kk, hix⟩ := asI_rep (hF.ev ix) hk
    obtain ⟨i0, dd, z, ki, h1, h2, h3, h4, h5, h6, rfl⟩ := lay_spec ht
    simp only at h
    split at h
    · rename_i n esz ea
      obtain ⟨e, rfl, ie, h7, hu7, rfl, rfl⟩ := kiOf_arr h4
      split at h
      · rename_i hb
        obtain ⟨hb1, hb2, hb3⟩ := hb
        obtain ⟨cs, hcs, d, hd, h⟩ := h
        obtain ⟨kn, rfl⟩ : ∃ n : Nat, k = n := ⟨k.toNat, by omega⟩
        obtain ⟨vs, e1, hr⟩ := aggD_rep (hF.ev x) hcs
        simp only [Int.toNat_natCast] at hd
        rcases partD_rep hr hd with ⟨k1, k2, k3⟩ | ⟨k1, u, k2, k3⟩
        · refine wp_value (v := _) (w' := c.x.W) ?_ (hg.val hM h k3)
          have := run_partB (P := P) h7 hu7 (vs := vs) (off := kn * ie.size) c.x.W (.inl ⟨k1, rfl⟩)
          simp [execOp, Instr.index, asIntOf, hix, run_underlying h2, e1, hb1, hb2, sizeOf, typeInfo, h7, this]
          intro hh; omega
        · refine wp_value (v := u) (w' := c.x.W) ?_ (hg.val hM h k3)
          have := run_partB (P := P) h7 hu7 (vs := vs) (off := kn * ie.size) c.x.W (.inr ⟨k1, k2⟩)
          simp [execOp, Instr.index, asIntOf, hix, run_underlying h2, e1, hb1, hb2, sizeOf, typeInfo, h7, this]
          intro hh; omega
      · exact h.elim
    · rename_i hki
      have := kiOf_string h4
      subst this
      split at h
      · rename_i s hx
        split at h
        · rename_i hb
          have hv := hF.ev x
          rw [hx] at hv
          unfold RepD Rep at hv
          refine wp_value (v := .int .u8 (s[k.toNat]'hb.2).toNat) (w' := c.x.W) ?_ (hg.val hM h (by unfold RepD Rep; rfl))
          simp [execOp, Instr.index, asIntOf, hix, run_underlying h2, hv, hb.1, hb.2]
        · exact h.elim
      · exact h.elim
    · exact h.elim
  | makeFunc fn first caps =>
    cases fn with
    | func f =>
      simp only [opW] at h
      split at h
      · rename_i hfi
        have hfe : first = #[] := by simpa using hfi
        subst hfe
        refine wp_value (v := .func (.func f) #[] (caps.map a.eval)) (w' := c.x.W) ?_ (hg.val hM h ?_)
        · simp [execOp, Instr.makeFunc]
        · have := repD_mkFn (f := f) (repDL_ev hF caps.toList)
          have e : (caps.toList.map a.eval).toArray = caps.map a.eval := by apply Array.ext'; simp
          rw [e] at this
          exact this
      · exact h.elim
    | _ => exact h.elim
  | makeSlice t l cp =>
    obtain ⟨ti, ht, n, hn, m, hm, h⟩ := h
    obtain ⟨k1, hl⟩ := asI_rep (hF.ev l) hn
    obtain ⟨k2, hc⟩ := asI_rep (hF.ev cp) hm
    obtain ⟨i0, dd, z, ki, h1, h2, h3, h4, h5, h6, rfl⟩ := lay_spec ht
    simp only at h
    split at h
    · rename_i e esz bytes ez
      obtain ⟨rfl, ie, ze, h7, h8, rfl, rfl, rfl, hz5⟩ := kiOf_slice h4
      split at h
      · rename_i hb
        obtain ⟨hb0, hb1, hb6, hb2, hb3, hb4, hb5⟩ := hb
        simp only [Array.length_toList] at hb3
        by_cases hnm : n = m
        · subst hnm
          obtain ⟨kn, rfl⟩ : ∃ k : Nat, n = k := ⟨n.toNat, by omega⟩
          simp only [Int.toNat_natCast] at hb4 hb5 h
          obtain ⟨w', hrun, hown, hgr⟩ := run_make_full (P := P) c.x.W w0.heap.size t e ie ze ie.size h2 h7 h8 rfl k1 k2 kn (by rw [Nat.mul_comm]; omega) (by unfold maxLen; omega) hM.chg.size
          refine wp_value (v := .slice (some ⟨c.x.W.heap.size, 0, none⟩) kn kn) (w' := w') ?_ ?_
          · simp [execOp, hl, hc, hrun]
          · refine hg.grow hM (g := id) (ver := 0) (e := e) (sz := ie.size) (v := .slice none 0 0) (zs := List.replicate kn (ze.cells.toList.map .v)) (vs := (madeCells ze.cells (kn * ie.size)).toList) (hf.2 0) (fun k _ => hf.2 k) (.inr ⟨hf.1, rfl, rfl⟩) (by simpa using hown) hgr (fun k hk => .inr (by simp [Value.ownBlock] at hk; omega)) ?_ (by intro ds hd; rw [List.eq_of_mem_replicate hd]; simpa using hb3) hb2 h
            rw [← hb3, madeCells_toList _ (by omega)]
            exact repC_replicate hz5 kn
        · obtain rfl : n = 0 := by omega
          obtain ⟨km, rfl⟩ : ∃ k : Nat, m = k := ⟨m.toNat, by omega⟩
          simp only [Int.toNat_natCast] at hb4 hb5
          obtain ⟨w', hrun, hown, hgr⟩ := run_make_own (P := P) c.x.W w0.heap.size t e ie ze ie.size h2 h7 h8 rfl k1 k2 km (by rw [Nat.mul_comm]; omega) (by unfold maxLen; omega) hM.chg.size
          refine wp_value (v := .slice (some ⟨c.x.W.heap.size, 0, none⟩) 0 km) (w' := w') ?_ ?_
          · simp [execOp, hl, hc, hrun]
          · exact hg.grow hM (g := id) (ver := 0) (e := e) (sz := ie.size) (v := .slice none 0 0) (zs := []) (vs := []) (hf.2 0) (fun k _ => hf.2 k) (.inr ⟨hf.1, rfl, rfl⟩) hown hgr (fun k hk => .inr (by simp [Value.ownBlock] at hk; omega)) (by simp [RepC]) (by simp) hb2 (by simpa using h)
      · exact h.elim
    · exact h.elim
  | slice t x lo hi mx =>
    obtain ⟨ti, ht, h⟩ := h
    obtain ⟨i0, dd, z, ki, h1, h2, h3, h4, h5, h6, rfl⟩ := lay_spec ht
    simp only at h
    split at h
    · exact h.elim
    · rename_i hmx
      obtain rfl : mx = none := by cases mx <;> simp at hmx ⊢
      have bounds : ∀ (isS : Bool) (n cap : Nat) (b : Nat × Nat), boundsD n (lo.map st.ev) (hi.map st.ev) = some b → n ≤ cap → b.1 ≤ b.2 ∧ b.2 ≤ n ∧ (Instr.sliceBounds isS n cap (lo.map a.eval) (hi.map a.eval) none).run P c.x.W = .ok (b.1, b.2, cap) c.x.W := by
        intro isS n cap b hb hcap
        simp only [boundsD, Option.bind_eq_some_iff] at hb
        obtain ⟨hh, e1, ll, e2, hb⟩ := hb
        split at hb
        · rename_i hc
          cases hb
          obtain ⟨hc1, hc2, hc3⟩ := hc
          have g1 : ∀ (y : Nat) (k : IntKind) (v : Int) (code : BoundsCode), 0 ≤ v → v ≤ y → (Instr.sliceBound (.int k v) y code).run P c.x.W = .ok v.toNat c.x.W := fun y k v code h1 h2 => by simp [Instr.sliceBound, asIntOf, h1, h2]
          refine ⟨by simp only; omega, by simp only; omega, ?_⟩
          cases hi with
          | none =>
            simp only [Option.map_none, Option.some.injEq] at e1
            subst e1
            cases lo with
            | none =>
              simp only [Option.map_none, Option.some.injEq] at e2
              subst e2
              simp [Instr.sliceBounds]
            | some lo =>
              obtain ⟨k, e2⟩ := asI_rep (hF.ev lo) e2
              simp [Instr.sliceBounds, e2, g1 n k ll _ hc1 (by omega)]
          | some hi =>
            obtain ⟨k, e1⟩ := asI_rep (hF.ev hi) e1
            have hcast : (hh.toNat : Int) = hh := by omega
            cases lo with
            | none =>
              simp only [Option.map_none, Option.some.injEq] at e2
              subst e2
              simp [Instr.sliceBounds, e1, g1 cap k hh _ (by omega) (by omega)]
            | some lo =>
              obtain ⟨k', e2⟩ := asI_rep (hF.ev lo) e2
              simp [Instr.sliceBounds, e1, e2, g1 cap k hh _ (by omega) (by omega), g1 hh.toNat k' ll _ hc1 (by omega)]
        · cases hb
      split at h
      · rename_i e esz bytes ez
        obtain ⟨rfl, ie, ze, h7, h8, rfl, rfl, rfl, hz5⟩ := kiOf_slice h4
        split at h
        · rename_i sz xs hx
          split at h
          · rename_i hsz
            subst hsz
            obtain ⟨b, hb, h⟩ := h
            have hv := hF.ev x
            rw [hx] at hv
            unfold RepD Rep at hv
            obtain ⟨ao, cap, e1, hl, hn, hr⟩ := hv
            obtain ⟨b1, b2, hrun⟩ := bounds true xs.length cap b hb hl.1
            obtain ⟨hl, hlm⟩ := hl
            refine wp_value (v := .slice (if cap = b.1 then ao else ao.map (·.add (b.1 * ie.size))) (b.2 - b.1) (cap - b.1)) (w' := c.x.W) ?_ (hg.val hM h ?_)
            · simp [execOp, Instr.sliceAt, Instr.slice, run_underlying h2, e1, hrun, sizeOf, typeInfo, h7]
            · have hlen : ((xs.take b.2).drop b.1).length = b.2 - b.1 := by simp; omega
              unfold RepD Rep
              refine ⟨_, cap - b.1, by rw [hlen], ⟨by omega, by omega⟩, fun he => ?_, fun hne => ?_⟩
              · split at he
                · omega
                · cases ao with
                  | none => have := hn rfl; omega
                  | some ad => simp at he
              · have hb12 : b.1 < b.2 := by
                  rcases Nat.lt_or_ge b.1 b.2 with h | h
                  · exact h
                  · exact (hne (List.eq_nil_of_length_eq_zero (by omega))).elim
                have hxne : xs ≠ [] := by intro hh; rw [hh] at b2; simp at b2; omega
                obtain ⟨bb, oo, rfl, hr2⟩ := hr hxne
                rw [if_neg (by omega)]
                exact ⟨bb, oo + b.1 * ie.size, by simp [Addr.add_mid], repR_drop (repR_take hr2 b.2) b.1⟩
          · exact h.elim
        · exact h.elim
      · have := kiOf_string h4
        subst this
        split at h
        · rename_i s hx
          obtain ⟨b, hb, h⟩ := h
          have hv := hF.ev x
          rw [hx] at hv
          unfold RepD Rep at hv
          obtain ⟨b1, b2, hrun⟩ := bounds false s.size s.size b hb (Nat.le_refl _)
          refine wp_value (v := .string (s.extract b.1 b.2)) (w' := c.x.W) ?_ (hg.val hM h (by unfold RepD Rep; rfl))
          simp [execOp, Instr.sliceAt, Instr.slice, run_underlying h2, hv, hrun]
        · exact h.elim
      · exact h.elim
  | call cl =>
    obtain ⟨callee, args, argTypes⟩ := cl
    simp only [opW] at h
    split at h
    · rename_i x t ha ht0
      have hargs : args = #[x] := by apply Array.ext'; simpa using ha
      have hts : argTypes = #[t] := by apply Array.ext'; simpa using ht0
      subst hargs hts
      obtain ⟨ti, ht, h⟩ := h
      obtain ⟨i0, dd, z, ki, h1, h2, h3, h4, h5, h6, rfl⟩ := lay_spec ht
      simp only at h
      split at h
      · rename_i e esz bytes ez
        obtain ⟨rfl, -⟩ := kiOf_slice h4
        obtain ⟨n, hn, h⟩ := h
        obtain ⟨ao, cap, e1⟩ := lenD_rep hM (hF.ev x) hn
        refine wp_value (v := .int .i64 n) (w' := c.x.W) ?_ (hg.val hM h (by unfold intD RepD Rep; rfl))
        simp [execOp, resolve, invoke, builtin, Builtin.len_, run_underlying h2, e1, goInt]
      · have := kiOf_string h4
        subst this
        split at h
        · rename_i s hx
          have hv := hF.ev x
          rw [hx] at hv
          unfold RepD Rep at hv
          refine wp_value (v := .int .i64 s.size) (w' := c.x.W) ?_ (hg.val hM h (by unfold intD RepD Rep; rfl))
          simp [execOp, resolve, invoke, builtin, Builtin.len_, run_underlying h2, hv, goInt]
        · exact h.elim
      · exact h.elim
    · rename_i s x t t' ha ht0
      have hargs : args = #[s, x] := by apply Array.ext'; simpa using ha
      have hts : argTypes = #[t, t'] := by apply Array.ext'; simpa using ht0
      subst hargs hts
      split at h
      · rename_i htt
        subst htt
        obtain ⟨ti, ht, h⟩ := h
        obtain ⟨i0, dd, z, ki, h1, h2, h3, h4, h5, h6, rfl⟩ := lay_spec ht
        simp only at h
        split at h
        · rename_i e esz bytes ez
          obtain ⟨rfl, ie, ze, h7, h8, rfl, rfl, rfl, hz5⟩ := kiOf_slice h4
          split at h
          · rename_i hezl
            simp only [Array.length_toList] at hezl
            obtain ⟨ys, hys, h⟩ := h
            obtain ⟨news, hrd, hrn, hyl⟩ := elems_rd hM (hF.ev x) hys
            have hv := hF.ev s
            have run : ∀ (n : Nat) (vs : List Value) (v : Value), a.eval s = v → c.x.W.ownsRow w0.heap.size e ie.size v n vs → n + ys.length ≤ 4611686018427387904 → (n + ys.length) * ie.bytes ≤ 140737488355328 → 0 < ie.size →
                ∃ v' w', (execOp a.eval ⟨dst, .call ⟨.builtin .append, #[s, x], #[t, t]⟩, type, pos, after, guard⟩).run P c.x.W = .ok (.value v') w' ∧ w'.ownsRow w0.heap.size e ie.size v' (n + ys.length) (vs ++ news) ∧ c.x.W.grownBy w' v.ownBlock ∧ (∀ k, v'.ownBlock = some k → v.ownBlock = some k ∨ c.x.W.heap.size ≤ k) := by
              intro n vs v e1 hown hb1 hb2 hb3
              obtain ⟨v', w', k1, k2, k3, -, k5⟩ := run_append_own_rd (P := P) c.x.W w0.heap.size t type e ie ze ie.size ie.bytes h2 h7 h8 rfl rfl hezl hb3 v n vs hown (a.eval x) ys.length news hrd (repC_one hrn) (by unfold maxLen; omega) hb2 hM.chg.size
              exact ⟨v', w', by simp [execOp, resolve, invoke, builtin, e1, k1], k2, k3, k5⟩
            try unfold appendW at h
            split at h
            · rename_i g ver hs
              split at h
              · rename_i e' v' sz xs hm
                split at h
                · rename_i hcnd
                  obtain ⟨rfl, rfl, rfl, hc1, hc2, hc3⟩ := hcnd
                  obtain ⟨v0, vs, k1, k2, k3, k4, k5, k6⟩ := hM.mem _ _ hm
                  rw [hs] at hv
                  unfold RepD at hv
                  have hv1 := hv.1
                  rw [k1] at hv1
                  cases hv1
                  obtain ⟨v2, w', r1, r2, r3, r4⟩ := run xs.length vs _ rfl k2 hc3 hc2 hc1
                  refine wp_value r1 (hg.grow hM (g := g) (ver := v' + 1) (e := e') (sz := ie.size) (zs := xs ++ ys) (hM.vers _ _ _ _ _ hm _ (by omega)) (fun k hk => hM.vers _ _ _ _ _ hm _ (by omega)) (.inl ⟨_, _, hm, k1⟩) (by simpa using r2) r3 r4 ?_ ?_ hc1 h)
                  · rw [List.flatten_append]; exact repC_append k3 hrn
                  · intro ds hd
                    rcases List.mem_append.1 hd with hd | hd
                    · exact k4 ds hd
                    · exact hyl ds hd
                · exact h.elim
              · exact h.elim
            · rename_i hs
              split at h
              · rename_i hcnd
                obtain ⟨hc1, hc2, hc3⟩ := hcnd
                rw [hs] at hv
                unfold RepD Rep at hv
                obtain ⟨v', w', r1, r2, r3, r4⟩ := run 0 [] _ hv (World.ownsRow_nil _ _ _ _) (by omega) (by simpa using hc2) hc1
                refine wp_value r1 (hg.grow hM (g := id) (ver := 0) (e := e) (sz := ie.size) (zs := ys) (hf.2 0) (fun k _ => hf.2 k) (.inr ⟨hf.1, rfl, rfl⟩) (by simpa using r2) r3 r4 (by simpa using hrn) hyl hc1 h)
              · exact h.elim
            · exact h.elim
          · exact h.elim
        · exact h.elim
      · exact h.elim
    · rename_i l1 l2 f
      have fin : ∀ (g : FuncId) (vs : List Value) (ds : List D), a.eval f = .func (.func g) #[] vs.toArray → RepDL c vs ds → callW P id st g (args.toList.map st.ev ++ ds) K → Oper.wp P ⟨dst, .call ⟨.value f, args, argTypes⟩, type, pos, after, guard⟩ a c.x.W next Q := by
        intro g vs ds e1 hds h
        obtain ⟨hgo, hc⟩ := callW_goes hg hM (repDL_append (repDL_ev hF args.toList) hds) hf h
        refine wp_enter (f := g) (args := (args.toList.map a.eval ++ vs).toArray) (w' := c.x.W) ?_ hc (fun v w'' hk => hk)
        have := hgo (args.toList.map a.eval ++ vs).toArray c.x.W
        have e2 : (args.toList.map a.eval ++ vs).toArray = args.map a.eval ++ vs.toArray := by apply Array.ext'; simp
        rw [e2] at this ⊢
        simpa [execOp, resolve, e1, Deferred.ofValue, invoke] using this
      have hv := hF.ev f
      split at h
      · rename_i g caps hx
        rw [hx] at hv
        unfold RepD Rep at hv
        obtain ⟨vs, e1, hr⟩ := hv
        exact fin g vs _ e1 (repDL_f hr) h
      · rename_i g caps hx
        rw [hx] at hv
        unfold RepD at hv
        obtain ⟨vs, e1, hr⟩ := hv
        exact fin g vs _ e1 hr h
      · exact h.elim
    · rename_i x y ha
      have hargs : args = #[x, y] := by apply Array.ext'; simpa using ha
      subst hargs
      split at h
      · rename_i k n k' m hx hy
        have hv1 := hF.ev x
        have hv2 := hF.ev y
        rw [hx] at hv1
        rw [hy] at hv2
        unfold RepD Rep at hv1 hv2
        refine wp_value (v := .int k (if m > n then m else n)) (w' := c.x.W) ?_ (hg.val hM h (by unfold RepD Rep; rfl))
        simp [execOp, resolve, invoke, builtin, Builtin.max_, Builtin.max2, hv1, hv2]
      · exact h.elim
    · rename_i x y ha
      have hargs : args = #[x, y] := by apply Array.ext'; simpa using ha
      subst hargs
      split at h
      · rename_i k n k' m hx hy
        have hv1 := hF.ev x
        have hv2 := hF.ev y
        rw [hx] at hv1
        rw [hy] at hv2
        unfold RepD Rep at hv1 hv2
        refine wp_value (v := .int k (if m < n then m else n)) (w' := c.x.W) ?_ (hg.val hM h (by unfold RepD Rep; rfl))
        simp [execOp, resolve, invoke, builtin, Builtin.min_, Builtin.min2, hv1, hv2]
      · exact h.elim
    · exact h.elim
  | _ => exact h.elim
end Go.Dn
end
section
namespace Go.Dn
open Go.RowKit Go.Dk

variable {P : Program}

def St.app (st : St) : Option (Nat × M) → St
  | none => st
  | some (x, m) => st.new x m
structure Agree (o : Oper) (s s' : St) : Prop where
  ops : ∀ x ∈ o.op.operands.toList, s'.ev x = s.ev x
  mem : ∀ id m, s.mem id = some m → s'.mem id = some m
  lit : s'.lit = s.lit

theorem loadD_up {m m' : Nat → Option M} (h : ∀ id x, m id = some x → m' id = some x) {size : Nat} {agg : Bool} {x d : D} (hl : loadD m size agg x = some d) : loadD m' size agg x = some d := by
  cases x with
  | loc id off =>
    simp only [loadD] at hl ⊢
    cases hm : m id with
    | none => rw [hm] at hl; cases hl
    | some y => rw [h id y hm]; rw [hm] at hl; exact hl
  | rowp g ver z i off =>
    simp only [loadD] at hl ⊢
    cases hm : m g with
    | none => rw [hm] at hl; cases hl
    | some y => rw [h g y hm]; rw [hm] at hl; exact hl
  | f y => cases y <;> first | exact hl | (simp [loadD] at hl)
  | _ => simp [loadD] at hl
theorem elems_up {m m' : Nat → Option M} (h : ∀ id x, m id = some x → m' id = some x) {sz : Nat} {x : D} {ys : List (List FD)} (hl : elems m sz x = some ys) : elems m' sz x = some ys := by
  cases x with
  | own g ver =>
    simp only [elems] at hl ⊢
    cases hm : m g with
    | none => rw [hm] at hl; cases hl
    | some y => rw [h g y hm]; rw [hm] at hl; exact hl
  | f y => unfold elems at hl ⊢; split at hl <;> simp_all
  | _ => exact hl
theorem lenD_up {m m' : Nat → Option M} (h : ∀ id x, m id = some x → m' id = some x) {x : D} {n : Nat} (hl : lenD m x = some n) : lenD m' x = some n := by
  cases x with
  | own g ver =>
    simp only [lenD] at hl ⊢
    cases hm : m g with
    | none => rw [hm] at hl; cases hl
    | some y => rw [h g y hm]; rw [hm] at hl; exact hl
  | f y => unfold lenD at hl ⊢; split at hl <;> simp_all
  | _ => exact hl
theorem omap_up {α β : Type} {f g : α → Option β} (h : ∀ a b, f a = some b → g a = some b) : ∀ {l : List α} {r : List β}, omap f l = some r → omap g l = some r
  | [], r, hr => hr
  | a :: l, r, hr => by
    obtain ⟨b, r', h1, h2, rfl⟩ := omap_cons hr
    simp only [omap, h a b h1, omap_up h h2]
    rfl
theorem frz_up {m m' : Nat → Option M} (h : ∀ id x, m id = some x → m' id = some x) : ∀ (n : Nat) (d : D) (y : FD), frz m n d = some y → frz m' n d = some y
  | 0, _, _, hl => by simp [frz] at hl
  | n + 1, d, y, hl => by
    have ih := frz_up h n
    cases d with
    | agg cs =>
      simp only [frz, Option.map_eq_some_iff] at hl ⊢
      obtain ⟨a, h1, h2⟩ := hl
      exact ⟨a, omap_up ih h1, h2⟩
    | fn f cs =>
      simp only [frz, Option.map_eq_some_iff] at hl ⊢
      obtain ⟨a, h1, h2⟩ := hl
      exact ⟨a, omap_up ih h1, h2⟩
    | tup cs =>
      simp only [frz, Option.map_eq_some_iff] at hl ⊢
      obtain ⟨a, h1, h2⟩ := hl
      exact ⟨a, omap_up ih h1, h2⟩
    | loc id off =>
      simp only [frz] at hl ⊢
      cases hm : m id with
      | none => rw [hm] at hl; cases hl
      | some x =>
        rw [h id x hm]
        rw [hm] at hl
        cases x with
        | blk cs =>
          simp only [Option.map_eq_some_iff] at hl ⊢
          obtain ⟨a, h1, h2⟩ := hl
          exact ⟨a, omap_up ih h1, h2⟩
        | row => cases hl
        | rows => cases hl
    | own g ver =>
      simp only [frz] at hl ⊢
      cases hm : m g with
      | none => rw [hm] at hl; cases hl
      | some x => rw [h g x hm]; rw [hm] at hl; exact hl
    | _ => exact hl
theorem storeD_up {s st' : St} {cs : List D} {x : D} (hl : storeD s cs x = some st') : ∃ x0 m, st' = s.new x0 m ∧ s.mem x0 ≠ none ∧ ∀ s' : St, (∀ id m, s.mem id = some m → s'.mem id = some m) → storeD s' cs x = some (s'.new x0 m) := by
  cases x with
  | loc id off =>
    simp only [storeD] at hl
    cases hm : s.mem id with
    | none => rw [hm] at hl; cases hl
    | some y =>
      rw [hm] at hl
      cases y with
      | row => cases hl
      | rows => cases hl
      | blk olds =>
        simp only at hl
        split at hl
        · rename_i hh
          cases hl
          exact ⟨_, _, rfl, by rw [hm]; simp, fun s' h => by simp only [storeD, h _ _ hm]; rw [if_pos hh]⟩
        · cases hl
  | rowp g ver z i off =>
    simp only [storeD] at hl
    cases hm : s.mem g with
    | none => rw [hm] at hl; cases hl
    | some y =>
      rw [hm] at hl
      cases y with
      | blk => cases hl
      | rows => cases hl
      | row e v sz xs =>
        simp only at hl
        split at hl
        · rename_i hh
          simp only [Option.bind_eq_some_iff] at hl
          obtain ⟨es, h0, fs, h1, hl⟩ := hl
          split at hl
          · rename_i h2
            cases hl
            exact ⟨_, _, rfl, by rw [hm]; simp, fun s' h => by simp only [storeD, h _ _ hm]; rw [if_pos hh]; simp only [h0, h1, Option.bind_some]; rw [if_pos h2]⟩
          · cases hl
        · cases hl
  | _ => simp [storeD] at hl
theorem map_ev {s s' : St} {l : List Operand} (h : ∀ x ∈ l, s'.ev x = s.ev x) : l.map s'.ev = l.map s.ev := List.map_congr_left h
theorem map_ev2 {s s' : St} {l : List (Nat × Operand)} (h : ∀ p ∈ l, s'.ev p.2 = s.ev p.2) : l.map (fun p => (p.1, s'.ev p.2)) = l.map fun p => (p.1, s.ev p.2) := List.map_congr_left fun p hp => by rw [h p hp]

/-- AN OPERATION LOOKS AT ITS OPERANDS AND AT WHAT IS THERE; it gives a value and writes one object at most; where more is there it does the same. -/
theorem opW_eff {id : Nat} {o : Oper} {s : St} {K : D → St → Prop} (h : opW P id o s K) :
    ∃ d e, K d (s.app e) ∧ (∀ x m, e = some (x, m) → x = id ∨ s.mem x ≠ none) ∧ ∀ (s' : St) (K' : D → St → Prop), Agree o s s' → K' d (s'.app e) → opW P id o s' K' := by
  obtain ⟨dst, op, type, pos, after, guard⟩ := o
  have no : ∀ x m, (none : Option (Nat × M)) = some (x, m) → x = id ∨ s.mem x ≠ none := fun x m h => by cases h
  have nw : ∀ m0, ∀ x m, (some (id, m0) : Option (Nat × M)) = some (x, m) → x = id ∨ s.mem x ≠ none := fun m0 x m h => by cases h; exact .inl rfl
  cases op with
  | move x => exact ⟨_, none, h, no, fun s' K' ha hk => by show K' (s'.ev x) s'; rw [ha.ops x (by simp [Op.operands])]; exact hk⟩
  | assign x => exact ⟨_, none, h, no, fun s' K' ha hk => by show K' (s'.ev x) s'; rw [ha.ops x (by simp [Op.operands])]; exact hk⟩
  | pick c x y =>
    obtain ⟨t, ht, h⟩ := h
    refine ⟨_, none, h, no, fun s' K' ha hk => ?_⟩
    refine ⟨t, by rw [ha.ops c (by simp [Op.operands])]; exact ht, ?_⟩
    rw [ha.ops x (by simp [Op.operands]), ha.ops y (by simp [Op.operands])]
    exact hk
  | alloc t =>
    obtain ⟨ti, ht, h⟩ := h
    exact ⟨_, some _, h, nw _, fun s' K' ha hk => ⟨ti, ht, hk⟩⟩
  | box t x =>
    obtain ⟨ti, ht, cs, hc, h⟩ := h
    unfold gif at h
    cases hlt : s.lit with
    | true =>
      rw [hlt, if_pos rfl] at h
      obtain ⟨fs, hfs, h⟩ := h
      exact ⟨_, none, h, no, fun s' K' ha hk => ⟨ti, ht, cs, by rw [ha.ops x (by simp [Op.operands])]; exact hc, by unfold gif; rw [ha.lit, hlt]; dsimp only; rw [if_pos rfl]; exact ⟨fs, hfs, hk⟩⟩⟩
    | false =>
      rw [hlt, if_neg (by simp)] at h
      exact ⟨_, some _, h, nw _, fun s' K' ha hk => ⟨ti, ht, cs, by rw [ha.ops x (by simp [Op.operands])]; exact hc, by unfold gif; rw [ha.lit, hlt]; dsimp only; rw [if_neg (by simp)]; exact hk⟩⟩
  | build t parts =>
    obtain ⟨ti, ht, cs, hc, h⟩ := h
    split at h
    · rename_i hagg
      refine ⟨_, none, h, no, fun s' K' ha hk => ⟨ti, ht, cs, ?_, by dsimp only; rw [if_pos hagg]; exact hk⟩⟩
      rw [map_ev2 fun p hp => ha.ops p.2 (by simp only [Op.operands]; exact List.mem_map.2 ⟨p, hp, rfl⟩)]
      exact hc
    · exact h.elim
  | buildSlice t len parts =>
    obtain ⟨ti, ht, h⟩ := h
    cases hki : ti.ki with
    | slice e esz bytes ez =>
      rw [hki] at h
      simp only at h
      split at h
      · rename_i hc
        obtain ⟨xs, hxs, hg0⟩ := h
        have both : ∃ d ef, K d (s.app ef) ∧ (∀ x m, ef = some (x, m) → x = id ∨ s.mem x ≠ none) ∧ ∀ (s' : St) (K' : D → St → Prop), s'.lit = s.lit → K' d (s'.app ef) → gif s'.lit (K' (.f (.sl esz xs)) s') (K' (.own id 0) (s'.new id (.row e 0 esz xs))) := by
          have h := hg0
          unfold gif at h
          cases hlt : s.lit with
          | true =>
            rw [hlt, if_pos rfl] at h
            exact ⟨_, none, h, no, fun s' K' e hk => by unfold gif; rw [e, if_pos rfl]; exact hk⟩
          | false =>
            rw [hlt, if_neg (by simp)] at h
            exact ⟨_, some _, h, nw _, fun s' K' e hk => by unfold gif; rw [e, if_neg (by simp)]; exact hk⟩
        clear hg0
        obtain ⟨d0, e0, h, hid, hup⟩ := both
        refine ⟨d0, e0, h, hid, fun s' K' ha hk => ⟨ti, ht, ?_⟩⟩
        (try dsimp only)
        rw [hki]
        (try dsimp only)
        (try simp only)
        (try dsimp only)
        rw [if_pos hc]
        refine ⟨xs, ?_, hup s' K' ha.lit hk⟩
        clear hup
        have hev : ∀ p ∈ parts.toList, s'.ev p.2 = s.ev p.2 := fun p hp => ha.ops p.2 (by simp only [Op.operands]; exact List.mem_map.2 ⟨p, hp, rfl⟩)
        clear hc h hk ha
        revert hxs
        generalize parts.toList = l at hev
        intro hxs
        induction l generalizing xs with
        | nil => exact hxs
        | cons p l ih =>
          obtain ⟨b, r, k1, k2, rfl⟩ := omap_cons hxs
          simp only [omap, hev p (List.mem_cons_self ..), k1]
          rw [ih r (fun p hp => hev p (List.mem_cons_of_mem _ hp)) k2]
          rfl
      · exact h.elim
    | _ => rw [hki] at h; exact h.elim
  | load t x =>
    obtain ⟨ti, ht, d, hd, h⟩ := h
    exact ⟨_, none, h, no, fun s' K' ha hk => ⟨ti, ht, d, by rw [ha.ops x (by simp [Op.operands])]; exact loadD_up ha.mem hd, hk⟩⟩
  | store t x y =>
    obtain ⟨ti, ht, cs, hc, h⟩ := h
    split at h
    · rename_i hn
      obtain ⟨st', hs, h⟩ := h
      obtain ⟨x0, m, rfl, hne, hup⟩ := storeD_up hs
      refine ⟨_, some (x0, m), h, fun x' m' hh => by cases hh; exact .inr hne, fun s' K' ha hk => ⟨ti, ht, cs, by rw [ha.ops y (by simp [Op.operands])]; exact hc, ?_⟩⟩
      (try dsimp only)
      rw [if_pos hn]
      exact ⟨_, by rw [ha.ops x (by simp [Op.operands])]; exact hup s' ha.mem, hk⟩
    · exact h.elim
  | binOp op t x y yt =>
    have key : ob (lay P t) (fun i => ob (dbinP P t i.agg i.ki op (s.ev x) (s.ev y)) fun d => K (.f d) s) → (op ≠ .shl ∧ op ≠ .shr) → ∃ d e, K d (s.app e) ∧ (∀ x m, e = some (x, m) → x = id ∨ s.mem x ≠ none) ∧ ∀ (s' : St) (K' : D → St → Prop), Agree ⟨dst, .binOp op t x y yt, type, pos, after, guard⟩ s s' → K' d (s'.app e) → opW P id ⟨dst, .binOp op t x y yt, type, pos, after, guard⟩ s' K' := by
      rintro ⟨ti, ht, d, hd, h⟩ hs
      refine ⟨_, none, h, no, fun s' K' ha hk => ?_⟩
      have g : ob (lay P t) (fun i => ob (dbinP P t i.agg i.ki op (s'.ev x) (s'.ev y)) fun d => K' (.f d) s') := ⟨ti, ht, d, by rw [ha.ops x (by simp [Op.operands]), ha.ops y (by simp [Op.operands])]; exact hd, hk⟩
      cases op <;> first | exact g | (exfalso; simp at hs)
    cases op
    case shl => exact h.elim
    case shr => exact h.elim
    all_goals exact key h ⟨by simp, by simp⟩
  | unOp op t x =>
    obtain ⟨d, hd, h⟩ := h
    exact ⟨_, none, h, no, fun s' K' ha hk => ⟨d, by rw [ha.ops x (by simp [Op.operands])]; exact hd, hk⟩⟩
  | convert s0 t x =>
    obtain ⟨si, hsi, ti, ht, d, hd, h⟩ := h
    exact ⟨_, none, h, no, fun s' K' ha hk => ⟨si, hsi, ti, ht, d, by rw [ha.ops x (by simp [Op.operands])]; exact hd, hk⟩⟩
  | nilCheck x =>
    obtain ⟨d, hd, h⟩ := h
    exact ⟨_, none, h, no, fun s' K' ha hk => ⟨d, by rw [ha.ops x (by simp [Op.operands])]; exact hd, by rw [ha.ops x (by simp [Op.operands])]; exact hk⟩⟩
  | fieldAddr t x i =>
    obtain ⟨ti, ht, h⟩ := h
    cases hki : ti.ki with
    | struct fs =>
      rw [hki] at h
      obtain ⟨f, hf, h⟩ := h
      split at h
      · exact h.elim
      · rename_i hz
        obtain ⟨d, hd, h⟩ := h
        refine ⟨_, none, h, no, fun s' K' ha hk => ⟨ti, ht, ?_⟩⟩
        (try dsimp only)
        rw [hki]
        (try dsimp only)
        refine ⟨f, hf, ?_⟩
        (try dsimp only)
        rw [if_neg hz]
        exact ⟨d, by rw [ha.ops x (by simp [Op.operands])]; exact hd, hk⟩
    | _ => rw [hki] at h; exact h.elim
  | field t x i =>
    obtain ⟨ti, ht, h⟩ := h
    cases hki : ti.ki with
    | struct fs =>
      rw [hki] at h
      obtain ⟨f, hf, h⟩ := h
      split at h
      · exact h.elim
      · rename_i hz
        obtain ⟨cs, hcs, d, hd, h⟩ := h
        refine ⟨_, none, h, no, fun s' K' ha hk => ⟨ti, ht, ?_⟩⟩
        (try dsimp only)
        rw [hki]
        (try dsimp only)
        refine ⟨f, hf, ?_⟩
        (try dsimp only)
        rw [if_neg hz]
        exact ⟨cs, by rw [ha.ops x (by simp [Op.operands])]; exact hcs, d, hd, hk⟩
    | _ => rw [hki] at h; exact h.elim
  | indexAddr t x ix =>
    obtain ⟨ti, ht, k, hk0, h⟩ := h
    cases hki : ti.ki with
    | slice e esz bytes ez =>
      rw [hki] at h
      obtain ⟨xs, hxs, h⟩ := h
      split at h
      · rename_i hb
        have e1 : ∀ (st : St), ob (elems st.mem esz (s.ev x)) (fun xs' => if 0 ≤ k ∧ k < xs'.length ∧ 0 < esz then True else False) → True := fun _ _ => trivial
        cases hx : s.ev x with
        | own g ver =>
          rw [hx] at h hxs
          refine ⟨_, none, h, no, fun s' K' ha hk => ⟨ti, ht, k, by rw [ha.ops ix (by simp [Op.operands])]; exact hk0, ?_⟩⟩
          (try dsimp only)
          rw [hki]
          (try dsimp only)
          refine ⟨xs, by rw [ha.ops x (by simp [Op.operands]), hx]; exact elems_up ha.mem hxs, ?_⟩
          (try dsimp only)
          rw [if_pos hb, ha.ops x (by simp [Op.operands]), hx]
          exact hk
        | _ =>
          rw [hx] at h hxs
          refine ⟨_, none, h, no, fun s' K' ha hk => ⟨ti, ht, k, by rw [ha.ops ix (by simp [Op.operands])]; exact hk0, ?_⟩⟩
          (try dsimp only)
          rw [hki]
          (try dsimp only)
          refine ⟨xs, by rw [ha.ops x (by simp [Op.operands]), hx]; exact elems_up ha.mem hxs, ?_⟩
          (try dsimp only)
          rw [if_pos hb, ha.ops x (by simp [Op.operands]), hx]
          exact hk
      · exact h.elim
    | arr n esz ea =>
      rw [hki] at h
      simp only at h
      split at h
      · rename_i hb
        obtain ⟨d, hd, h⟩ := h
        refine ⟨_, none, h, no, fun s' K' ha hk => ⟨ti, ht, k, by rw [ha.ops ix (by simp [Op.operands])]; exact hk0, ?_⟩⟩
        (try dsimp only)
        rw [hki]
        (try dsimp only)
        (try simp only)
        (try dsimp only)
        rw [if_pos hb]
        exact ⟨d, by rw [ha.ops x (by simp [Op.operands])]; exact hd, hk⟩
      · exact h.elim
    | _ => rw [hki] at h; exact h.elim
  | index t x ix =>
    obtain ⟨ti, ht, k, hk0, h⟩ := h
    cases hki : ti.ki with
    | arr n esz ea =>
      rw [hki] at h
      simp only at h
      split at h
      · rename_i hb
        obtain ⟨cs, hcs, d, hd, h⟩ := h
        refine ⟨_, none, h, no, fun s' K' ha hk => ⟨ti, ht, k, by rw [ha.ops ix (by simp [Op.operands])]; exact hk0, ?_⟩⟩
        (try dsimp only)
        rw [hki]
        (try dsimp only)
        (try simp only)
        (try dsimp only)
        rw [if_pos hb]
        exact ⟨cs, by rw [ha.ops x (by simp [Op.operands])]; exact hcs, d, hd, hk⟩
      · exact h.elim
    | string =>
      rw [hki] at h
      simp only at h
      split at h
      · rename_i sv hx
        split at h
        · rename_i hb
          refine ⟨_, none, h, no, fun s' K' ha hk => ⟨ti, ht, k, by rw [ha.ops ix (by simp [Op.operands])]; exact hk0, ?_⟩⟩
          (try dsimp only)
          rw [hki]
          (try dsimp only)
          (try simp only)
          rw [ha.ops x (by simp [Op.operands]), hx]
          (try simp only)
          (try dsimp only)
          rw [dif_pos hb]
          exact hk
        · exact h.elim
      · exact h.elim
    | _ => rw [hki] at h; exact h.elim
  | extract x i =>
    simp only [opW] at h
    split at h
    · rename_i cs hx
      obtain ⟨d, hd, h⟩ := h
      refine ⟨_, none, h, no, fun s' K' ha hk => ?_⟩
      simp only [opW]
      rw [ha.ops x (by simp [Op.operands]), hx]
      exact ⟨d, hd, hk⟩
    · rename_i cs hx
      obtain ⟨d, hd, h⟩ := h
      refine ⟨_, none, h, no, fun s' K' ha hk => ?_⟩
      simp only [opW]
      rw [ha.ops x (by simp [Op.operands]), hx]
      exact ⟨d, hd, hk⟩
    · exact h.elim
  | makeFunc fn first caps =>
    cases fn with
    | func f =>
      simp only [opW] at h
      split at h
      · rename_i hf
        refine ⟨_, none, h, no, fun s' K' ha hk => ?_⟩
        simp only [opW]
        rw [if_pos hf, map_ev fun x hx => ha.ops x (by simp only [Op.operands, Array.toList_append]; exact List.mem_append.2 (.inr hx))]
        exact hk
      · exact h.elim
    | _ => exact h.elim
  | makeSlice t l c =>
    obtain ⟨ti, ht, n, hn, m, hm, h⟩ := h
    cases hki : ti.ki with
    | slice e esz bytes ez =>
      rw [hki] at h
      simp only at h
      split at h
      · rename_i hb
        refine ⟨_, some _, h, nw _, fun s' K' ha hk => ⟨ti, ht, n, by rw [ha.ops l (by simp [Op.operands])]; exact hn, m, by rw [ha.ops c (by simp [Op.operands])]; exact hm, ?_⟩⟩
        (try dsimp only)
        rw [hki]
        (try dsimp only)
        (try simp only)
        (try dsimp only)
        rw [if_pos hb]
        exact hk
      · exact h.elim
    | _ => rw [hki] at h; exact h.elim
  | slice t x lo hi mx =>
    obtain ⟨ti, ht, h⟩ := h
    (try dsimp only at h)
    split at h
    · exact h.elim
    · rename_i hmx
      have hlo : ∀ s', Agree ⟨dst, .slice t x lo hi mx, type, pos, after, guard⟩ s s' → lo.map s'.ev = lo.map s.ev := fun s' ha => by
        cases lo with
        | none => rfl
        | some y => simp only [Option.map_some]; rw [ha.ops y (by simp [Op.operands])]
      have hhi : ∀ s', Agree ⟨dst, .slice t x lo hi mx, type, pos, after, guard⟩ s s' → hi.map s'.ev = hi.map s.ev := fun s' ha => by
        cases hi with
        | none => rfl
        | some y => simp only [Option.map_some]; rw [ha.ops y (by simp [Op.operands])]
      cases hki : ti.ki with
      | slice e esz bytes ez =>
        rw [hki] at h
        simp only at h
        split at h
        · rename_i sz xs hx
          split at h
          · rename_i hsz
            obtain ⟨b, hb, h⟩ := h
            refine ⟨_, none, h, no, fun s' K' ha hk => ⟨ti, ht, ?_⟩⟩
            (try simp only)
            rw [if_neg hmx, hki]
            (try simp only)
            rw [ha.ops x (by simp [Op.operands]), hx]
            (try simp only)
            rw [if_pos hsz, hlo s' ha, hhi s' ha]
            exact ⟨b, hb, hk⟩
          · exact h.elim
        · exact h.elim
      | string =>
        rw [hki] at h
        simp only at h
        split at h
        · rename_i sv hx
          obtain ⟨b, hb, h⟩ := h
          refine ⟨_, none, h, no, fun s' K' ha hk => ⟨ti, ht, ?_⟩⟩
          (try simp only)
          rw [if_neg hmx, hki]
          (try simp only)
          rw [ha.ops x (by simp [Op.operands]), hx]
          (try simp only)
          rw [hlo s' ha, hhi s' ha]
          exact ⟨b, hb, hk⟩
        · exact h.elim
      | _ => rw [hki] at h; exact h.elim
  | call cl =>
    obtain ⟨callee, args, argTypes⟩ := cl
    have hargs : ∀ s', Agree ⟨dst, .call ⟨callee, args, argTypes⟩, type, pos, after, guard⟩ s s' → ∀ x ∈ args.toList, s'.ev x = s.ev x := fun s' ha x hx => ha.ops x (by simp only [Op.operands, Call.operands, Array.toList_append]; exact List.mem_append.2 (.inr hx))
    have hcall : ∀ (f : FuncId) (ds : List D), callW P id s f ds K → ∃ d ef, K d (s.app ef) ∧ (∀ x m, ef = some (x, m) → x = id ∨ s.mem x ≠ none) ∧ ∀ (s' : St) (K' : D → St → Prop), (∀ id m, s.mem id = some m → s'.mem id = some m) → K' d (s'.app ef) → callW P id s' f ds K' := by
      rintro f ds (⟨x, e, sz, xs, hd, hp, he, hn, h⟩ | ⟨fs, rs, hd, hp, h⟩ | ⟨fs, hfs, ⟨d, hp, hs, h⟩ | ⟨e, sz, xs, hp, hs, h⟩⟩)
      · exact ⟨_, some (id, _), h, nw _, fun s' K' hm hk => .inl ⟨x, e, sz, xs, hd, hp, elems_up hm he, hn, hk⟩⟩
      · exact ⟨_, some (id, _), h, nw _, fun s' K' hm hk => .inr (.inl ⟨fs, rs, hd, hp, hk⟩)⟩
      · exact ⟨_, none, h, no, fun s' K' hm hk => .inr (.inr ⟨fs, omap_up (fun d y => frz_up hm 4 d y) hfs, .inl ⟨d, hp, hs, hk⟩⟩)⟩
      · exact ⟨_, some (id, _), h, nw _, fun s' K' hm hk => .inr (.inr ⟨fs, omap_up (fun d y => frz_up hm 4 d y) hfs, .inr ⟨e, sz, xs, hp, hs, hk⟩⟩)⟩
    simp only [opW] at h
    split at h
    · rename_i x t ha0 ht0
      obtain ⟨ti, ht, h⟩ := h
      cases hki : ti.ki with
      | slice e esz bytes ez =>
        rw [hki] at h
        obtain ⟨n, hn, h⟩ := h
        refine ⟨_, none, h, no, fun s' K' ha hk => ?_⟩
        simp only [opW, ha0, ht0]
        refine ⟨ti, ht, ?_⟩
        (try dsimp only)
        rw [hki]
        (try dsimp only)
        exact ⟨n, by rw [hargs s' ha x (by rw [ha0]; simp)]; exact lenD_up ha.mem hn, hk⟩
      | string =>
        rw [hki] at h
        simp only at h
        split at h
        · rename_i sv hx
          refine ⟨_, none, h, no, fun s' K' ha hk => ?_⟩
          simp only [opW, ha0, ht0]
          refine ⟨ti, ht, ?_⟩
          (try dsimp only)
          rw [hki]
          (try dsimp only)
          (try simp only)
          rw [hargs s' ha x (by rw [ha0]; simp), hx]
          exact hk
        · exact h.elim
      | _ => rw [hki] at h; exact h.elim
    · rename_i sx x t t' ha0 ht0
      split at h
      · rename_i htt
        obtain ⟨ti, ht, h⟩ := h
        cases hki : ti.ki with
        | slice e esz bytes ez =>
          rw [hki] at h
          simp only at h
          split at h
          · rename_i hez
            obtain ⟨ys, hys, h⟩ := h
            have fin : ∀ (s' : St) (K' : D → St → Prop), Agree ⟨dst, .call ⟨.builtin .append, args, argTypes⟩, type, pos, after, guard⟩ s s' → (appendW id s' e esz bytes (s.ev sx) (s.ev x) K') → opW P id ⟨dst, .call ⟨.builtin .append, args, argTypes⟩, type, pos, after, guard⟩ s' K' := fun s' K' ha hk => by
              simp only [opW, ha0, ht0]
              (try dsimp only)
              rw [if_pos htt]
              refine ⟨ti, ht, ?_⟩
              (try dsimp only)
              rw [hki]
              (try dsimp only)
              (try simp only)
              rw [if_pos hez, hargs s' ha sx (by rw [ha0]; simp), hargs s' ha x (by rw [ha0]; simp)]
              exact hk
            split at h
            · rename_i g ver hs
              cases hm : s.mem g with
              | none => rw [hm] at h; exact h.elim
              | some mm =>
                cases mm with
                | blk cs => rw [hm] at h; exact h.elim
                | rows rs => rw [hm] at h; exact h.elim
                | row e' v sz xs =>
                  rw [hm] at h
                  simp only at h
                  split at h
                  · rename_i hb
                    refine ⟨_, some (g, _), h, fun x' m' hh => by cases hh; exact .inr (by rw [hm]; simp), fun s' K' ha hk => fin s' K' ha ⟨ys, elems_up ha.mem hys, ?_⟩⟩
                    rw [hs]
                    simp only [ha.mem _ _ hm]
                    (try dsimp only)
                    rw [if_pos hb]
                    exact hk
                  · exact h.elim
            · rename_i hs
              split at h
              · rename_i hb
                refine ⟨_, some (id, _), h, nw _, fun s' K' ha hk => fin s' K' ha ⟨ys, elems_up ha.mem hys, ?_⟩⟩
                rw [hs]
                (try simp only)
                (try dsimp only)
                rw [if_pos hb]
                exact hk
              · exact h.elim
            · exact h.elim
          · exact h.elim
        | _ => rw [hki] at h; exact h.elim
      · exact h.elim
    · rename_i l1 l2 f
      have hf : ∀ s', Agree ⟨dst, .call ⟨.value f, args, argTypes⟩, type, pos, after, guard⟩ s s' → s'.ev f = s.ev f := fun s' ha => ha.ops f (by simp [Op.operands, Call.operands])
      split at h
      · rename_i g caps hx
        obtain ⟨d, ef, hd, hno, hup⟩ := hcall _ _ h
        refine ⟨d, ef, hd, hno, fun s' K' ha hk => ?_⟩
        simp only [opW]
        rw [hf s' ha, hx]
        (try simp only)
        rw [map_ev (hargs s' ha)]
        exact hup s' K' ha.mem hk
      · rename_i g caps hx
        obtain ⟨d, ef, hd, hno, hup⟩ := hcall _ _ h
        refine ⟨d, ef, hd, hno, fun s' K' ha hk => ?_⟩
        simp only [opW]
        rw [hf s' ha, hx]
        (try simp only)
        rw [map_ev (hargs s' ha)]
        exact hup s' K' ha.mem hk
      · exact h.elim
    · rename_i x y ha0
      split at h
      · rename_i k n k' m hx hy
        refine ⟨_, none, h, no, fun s' K' ha hk => ?_⟩
        simp only [opW, ha0]
        rw [hargs s' ha x (by rw [ha0]; simp), hargs s' ha y (by rw [ha0]; simp), hx, hy]
        exact hk
      · exact h.elim
    · rename_i x y ha0
      split at h
      · rename_i k n k' m hx hy
        refine ⟨_, none, h, no, fun s' K' ha hk => ?_⟩
        simp only [opW, ha0]
        rw [hargs s' ha x (by rw [ha0]; simp), hargs s' ha y (by rw [ha0]; simp), hx, hy]
        exact hk
      · exact h.elim
    · exact h.elim
  | _ => exact h.elim
end Go.Dn
end
