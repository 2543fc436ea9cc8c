/- What a call may change: words for worlds that part from each other in some blocks alone. -/
import Derived.Below
import Derived.Laws.OwnMore
import Derived.Deep.Draws
import Derived.Deep.AppendSrc
import Derived.Tactics2
import Derived.OwnWalk
import Derived.Laws.CopyOwn
import Derived.Deep.QuietTactic
namespace Go.Dk
open Go.RowKit

/-- w' is w, but for blocks of S and new ones. -/
structure Chg (S : Nat → Prop) (w w' : World) : Prop where
  os : w'.os = w.os
  tape : w'.tape = w.tape
  output : w'.output = w.output
  size : w.heap.size ≤ w'.heap.size
  block : ∀ k, k < w.heap.size → ¬ S k → w'.heap[k]? = w.heap[k]?

abbrev No : Nat → Prop := fun _ => False

section
variable {S S' : Nat → Prop} {w w' w'' : World}
theorem Chg.refl (S : Nat → Prop) (w : World) : Chg S w w := ⟨rfl, rfl, rfl, Nat.le_refl _, fun _ _ _ => rfl⟩
theorem Chg.trans (h : Chg S w w') (k : Chg S w' w'') : Chg S w w'' :=
  ⟨k.os.trans h.os, k.tape.trans h.tape, k.output.trans h.output, Nat.le_trans h.size k.size, fun i hi hs => (k.block i (Nat.lt_of_lt_of_le hi h.size) hs).trans (h.block i hi hs)⟩
theorem Chg.mono (h : Chg S w w') (hs : ∀ k, k < w.heap.size → S k → S' k) : Chg S' w w' := ⟨h.os, h.tape, h.output, h.size, fun i hi hn => h.block i hi (fun x => hn (hs i hi x))⟩
/-- the second step may change new blocks too -/
theorem Chg.trans' (h : Chg S w w') (k : Chg S' w' w'') (hs : ∀ i, S' i → i < w.heap.size → S i) : Chg S w w'' :=
  ⟨k.os.trans h.os, k.tape.trans h.tape, k.output.trans h.output, Nat.le_trans h.size k.size, fun i hi hn => (k.block i (Nat.lt_of_lt_of_le hi h.size) (fun x => hn (hs i x hi))).trans (h.block i hi hn)⟩
theorem Chg.drew (h : Chg S w w') : Chg S w w'.drew := ⟨h.os, h.tape, h.output, h.size, h.block⟩
theorem Chg.drewN (h : Chg S w w') (n : Nat) : Chg S w (w'.drewN n) := ⟨h.os, h.tape, h.output, h.size, h.block⟩
theorem Chg.alloc (h : Chg S w w') (o : Obj) : Chg S w (w'.alloc o) :=
  h.trans ⟨rfl, rfl, rfl, by simp, fun k hk _ => Below.heap_alloc _ _ _ hk⟩
theorem Chg.setCell (h : Chg S w w') {p : Addr} (hp : p.block < w.heap.size → S p.block) (u : Value) : Chg S w (w'.setCell p u) :=
  ⟨h.os, h.tape, h.output, by simpa [World.setCell] using h.size, fun k hk hn => (Below.heap_setCell _ _ _ _ (fun e => by rw [e] at hk hn; exact hn (hp hk))).trans (h.block k hk hn)⟩
theorem Chg.grown (h : Chg S w w') {row : Option Nat} (hg : w'.grownBy w'' row) (hr : ∀ k, row = some k → k < w.heap.size → S k) : Chg S w w'' :=
  ⟨hg.os.trans h.os, hg.tape.trans h.tape, hg.output.trans h.output, Nat.le_trans h.size hg.size,
    fun k hk hn => (hg.block k (Nat.lt_of_lt_of_le hk h.size) (fun e => hn (hr k e.symm hk))).trans (h.block k hk hn)⟩
theorem Chg.of_below (h : Below w.heap.size w w') : Chg No w w' := ⟨h.os, h.tape, h.output, h.size, fun k hk _ => h.block k hk⟩
theorem Chg.below (h : Chg No w w') : Below w.heap.size w w' := ⟨h.os, h.tape, h.output, h.size, fun k hk => h.block k hk (fun x => x)⟩
/-- nothing below B changes -/
theorem Chg.belowB (h : Chg S w w') {B : Nat} (hB : B ≤ w.heap.size) (hs : ∀ k, S k → B ≤ k) : Below B w w' :=
  ⟨h.os, h.tape, h.output, h.size, fun k hk => h.block k (by omega) (fun x => by have := hs k x; omega)⟩
theorem Chg.heap (h : Chg S w w') {k : Nat} {o : Obj} (hk : w.heap[k]? = some o) (hs : ¬ S k) : w'.heap[k]? = some o :=
  (h.block k (Array.getElem?_eq_some_iff.1 hk).1 hs).trans hk
theorem Chg.cell (h : Chg S w w') {p : Addr} {v : Value} (hc : w.cell? p = some v) (hs : ¬ S p.block) : w'.cell? p = some v :=
  (World.cell?_of_block (h.block p.block (World.block_lt_of_cell? w p hc) hs)).trans hc
theorem Chg.own (h : Chg S w w') {B : Nat} {e : TypeId} {size : Nat} {v : Value} {n : Nat} {xs : List Value} (ho : w.ownsRow B e size v n xs) (hs : ∀ k, v.ownBlock = some k → ¬ S k) : w'.ownsRow B e size v n xs := by
  refine ⟨ho.1, ?_⟩
  rcases ho.2 with hn | ⟨g, cap, cur, rfl, hb, hgg, rest⟩
  · exact .inl hn
  · exact .inr ⟨g, cap, cur, rfl, hb, h.heap hgg (hs g rfl), rest⟩
end
theorem lt_of_heap {w : World} {k : Nat} {o : Obj} (h : w.heap[k]? = some o) : k < w.heap.size := (Array.getElem?_eq_some_iff.1 h).1
theorem cell_of_heap {w : World} {k j : Nat} {cs : Array Value} {t : TypeId} {f : Nat × Nat} {v : Value} (h : w.heap[k]? = some (.cells cs t f)) (hv : cs[j]? = some v) : w.cell? ⟨k, j, none⟩ = some v := by simp [World.cell?, h, hv]
theorem free_of_heap {w : World} {k j : Nat} {cs : Array Value} {t : TypeId} (h : w.heap[k]? = some (.cells cs t (0, 0))) : w.frozen? ⟨k, j, none⟩ = false := by simp [World.frozen?, h]
theorem hset_same {w : World} {k j : Nat} {cs : Array Value} {t : TypeId} {f : Nat × Nat} (h : w.heap[k]? = some (.cells cs t f)) (v : Value) :
    (w.setCell ⟨k, j, none⟩ v).heap[k]? = some (.cells (cs.setIfInBounds j v) t f) := by
  simp [World.setCell, Array.getElem?_modify, h]
theorem hset_other {w : World} {k j g : Nat} {o : Obj} (h : w.heap[k]? = some o) (hne : k ≠ g) (v : Value) : (w.setCell ⟨g, j, none⟩ v).heap[k]? = some o := by
  rw [Below.heap_setCell _ _ _ _ hne]; exact h
theorem heap_alloc_old' {w : World} {k : Nat} {o o' : Obj} (h : w.heap[k]? = some o) : (w.alloc o').heap[k]? = some o := by
  rw [Below.heap_alloc _ _ _ (lt_of_heap h)]; exact h

/-- a slice value that holds the cells xs (size each an element): nil let in. -/
def Rd (w : World) (v : Value) (size n : Nat) (xs : List Value) : Prop :=
  ∃ a c, v = .slice a n c ∧ xs.length = n * size ∧ n ≤ c ∧ (a = none → c = 0) ∧ ∀ ad, a = some ad → ∀ j u, xs[j]? = some u → w.cell? (ad.add j) = some u

theorem ownBlock_some {v : Value} {k : Nat} (h : v.ownBlock = some k) : ∃ a n c, v = .slice (some a) n c ∧ a.block = k := by
  cases v with
  | slice a n c => cases a with
    | none => simp [Value.ownBlock] at h
    | some a => exact ⟨a, n, c, rfl, by simpa [Value.ownBlock] using h⟩
  | _ => simp [Value.ownBlock] at h

section
variable {P : Program} (w : World)
theorem run_append_own_rd (base : Nat) (t ty e : TypeId) (i : TypeInfo) (z : Value) (size bytes : Nat) (ht : P.underlying t = some (.slice e)) (hi : P.info? e = some i) (hz : i.zero = some z)
    (hsize : i.size = size) (hby : i.bytes = bytes) (hzs : z.cells.size = size) (hsz : 0 < size)
    (v : Value) (n : Nat) (xs : List Value) (hown : w.ownsRow base e size v n xs)
    (x : Value) (m : Nat) (news : List Value) (hx : Rd w x size m news) (h1 : ∀ u ∈ news, u.oneCell' = true)
    (h63 : n + m ≤ maxLen) (hbytes : (n + m) * bytes ≤ 140737488355328) (hbase : base ≤ w.heap.size) :
    ∃ v' w', (Builtin.append_ #[t, t] ty #[v, x]).run P w = .ok v' w' ∧ w'.ownsRow base e size v' (n + m) (xs ++ news) ∧ w.grownBy w' v.ownBlock ∧
      (v' = .slice none 0 0 ↔ v = .slice none 0 0 ∧ m = 0) ∧ (∀ k, v'.ownBlock = some k → v.ownBlock = some k ∨ w.heap.size ≤ k) := by
  obtain ⟨a, c, rfl, hl, hc, hn, hcell⟩ := hx
  cases a with
  | none =>
    have hm : m = 0 := by have := hn rfl; omega
    subst hm
    obtain rfl : news = [] := List.eq_nil_of_length_eq_zero (by simpa using hl)
    subst hsize
    rcases hown.2 with ⟨rfl, rfl⟩ | ⟨g, cap, cur, rfl, hbg, hg, hnc, hcm, hcs, htake⟩
    · obtain rfl : xs = [] := List.eq_nil_of_length_eq_zero (by simpa using hown.1)
      refine ⟨.slice none 0 0, w, ?_, World.ownsRow_nil w base e i.size, ⟨rfl, rfl, rfl, Nat.le_refl _, fun _ _ _ => rfl⟩, by simp, fun k hk => .inl hk⟩
      simp [Builtin.append_, run_underlying ht, sizeOf, typeInfo, hi, Builtin.lenOf, Builtin.firstCells]
    · refine ⟨.slice (some ⟨g, 0, none⟩) n cap, w, ?_, by simpa using hown, ⟨rfl, rfl, rfl, Nat.le_refl _, fun _ _ _ => rfl⟩, by simp, fun k hk => .inl hk⟩
      simp [Builtin.append_, run_underlying ht, sizeOf, typeInfo, hi, Builtin.lenOf, Builtin.firstCells, hnc, storeCells]
  | some ad =>
    obtain ⟨v', w', hr, h2, h3, h4⟩ := run_append_own (P := P) w base t ty e i z size bytes ht hi hz hsize hby hzs hsz v n xs hown ad m c news hl (hcell ad rfl) h1 h63 hbytes hbase
    refine ⟨v', w', hr, h2, h3, h4, ?_⟩
    subst hsize; subst hby
    have h63' : ((n + m : Nat) : Int) ≤ 9223372036854775807 := by simp only [maxLen] at h63; omega
    rcases hown.2 with ⟨rfl, rfl⟩ | ⟨g, cap, cur, rfl, hbg, hg, hnc, hcm, hcs, htake⟩
    · by_cases hm : m = 0
      · rw [(h4.2 ⟨rfl, hm⟩)]; intro k hk; simp [Value.ownBlock] at hk
      · simp only [Nat.zero_add] at hbytes h63'
        have e := hr.symm.trans (run_append_nil (P := P) w t ty e i z ht hi hz ad m c news hl (hcell ad rfl) (by omega) h63' (by omega))
        injection e with e1 _
        subst e1
        intro k hk; simp [Value.ownBlock] at hk; omega
    · by_cases hroom : n + m ≤ cap
      · have hfit : n * i.size + news.length ≤ cur.size := by rw [hl, hcs, ← Nat.add_mul]; exact Nat.mul_le_mul_right _ hroom
        have e := hr.symm.trans (run_append_room (P := P) w t ty e i ht hi g n cap cur hg ad m c news hl (hcell ad rfl) h1 hroom hfit)
        injection e with e1 _
        subst e1
        intro k hk; exact .inl hk
      · have holds : ∀ j u, xs[j]? = some u → w.cell? ((⟨g, 0, none⟩ : Addr).add j) = some u := hown.cells (g := g) rfl
        have e := hr.symm.trans (run_append_grow (P := P) w t ty e i z ht hi hz ⟨g, 0, none⟩ n cap xs hown.1 holds ad m c news hl (hcell ad rfl) (by omega) h63' (growslice_fits (by omega) hbytes))
        injection e with e1 _
        subst e1
        intro k hk; simp [Value.ownBlock] at hk; omega

theorem wp_append_rd {o : Oper} {a : Act} {K : Act → World → Prop} {Q : Exit → Act → World → Prop} (s x : Operand) (t : TypeId)
    (ho : o.op = .call { callee := .builtin .append, args := #[s, x], argTypes := #[t, t] })
    (base : Nat) (e : TypeId) (i : TypeInfo) (z : Value) (size bytes : Nat) (ht : P.underlying t = some (.slice e)) (hi : P.info? e = some i) (hz : i.zero = some z)
    (hsize : i.size = size) (hby : i.bytes = bytes) (hzs : z.cells.size = size) (hsz : 0 < size)
    (v : Value) (n : Nat) (xs : List Value) (hs : a.eval s = v) (hown : w.ownsRow base e size v n xs)
    (xv : Value) (m : Nat) (news : List Value) (hxe : a.eval x = xv) (hx : Rd w xv size m news) (h1 : ∀ u ∈ news, u.oneCell' = true)
    (h63 : n + m ≤ maxLen) (hbytes : (n + m) * bytes ≤ 140737488355328) (hbase : base ≤ w.heap.size)
    (h : ∀ v' w', w'.ownsRow base e size v' (n + m) (xs ++ news) → w.grownBy w' v.ownBlock → (v' = .slice none 0 0 ↔ v = .slice none 0 0 ∧ m = 0) → (∀ k, v'.ownBlock = some k → v.ownBlock = some k ∨ w.heap.size ≤ k) → K (a.put o.dst v') w') : o.wp P a w K Q := by
  obtain ⟨v', w', hr, h2, h3, h4, h5⟩ := run_append_own_rd (P := P) w base t o.type e i z size bytes ht hi hz hsize hby hzs hsz v n xs hown xv m news hx h1 h63 hbytes hbase
  unfold Oper.wp execOp
  simp only [ho, resolve, invoke, builtin, Sem.run_bind, Sem.run_pure, Result.andThen_ok, List.map_toArray, List.map_cons, List.map_nil, hs, hxe, hr]
  exact h v' w' h2 h3 h4 h5
theorem wpList_append_rd {ops : Array Oper} {rest : List Oper} {o : Oper} {a : Act} {Q : Exit → Act → World → Prop} (hgd : o.guard = none) (s x : Operand) (t : TypeId)
    (ho : o.op = .call { callee := .builtin .append, args := #[s, x], argTypes := #[t, t] })
    (base : Nat) (e : TypeId) (i : TypeInfo) (z : Value) (size bytes : Nat) (ht : P.underlying t = some (.slice e)) (hi : P.info? e = some i) (hz : i.zero = some z)
    (hsize : i.size = size) (hby : i.bytes = bytes) (hzs : z.cells.size = size) (hsz : 0 < size)
    (v : Value) (n : Nat) (xs : List Value) (hs : a.eval s = v) (hown : w.ownsRow base e size v n xs)
    (xv : Value) (m : Nat) (news : List Value) (hxe : a.eval x = xv) (hx : Rd w xv size m news) (h1 : ∀ u ∈ news, u.oneCell' = true)
    (h63 : n + m ≤ maxLen) (hbytes : (n + m) * bytes ≤ 140737488355328) (hbase : base ≤ w.heap.size)
    (h : ∀ v' w', w'.ownsRow base e size v' (n + m) (xs ++ news) → w.grownBy w' v.ownBlock → (v' = .slice none 0 0 ↔ v = .slice none 0 0 ∧ m = 0) → (∀ k, v'.ownBlock = some k → v.ownBlock = some k ∨ w.heap.size ≤ k) → wpList P ops Q rest (a.put o.dst v') w') : wpList P ops Q (o :: rest) a w :=
  wpList_plain hgd fun _ hK => wp_append_rd w s x t ho base e i z size bytes ht hi hz hsize hby hzs hsz v n xs hs hown xv m news hxe hx h1 h63 hbytes hbase fun v' w' h2 h3 h4 h5 => hK _ _ (h v' w' h2 h3 h4 h5)
end
/-- the same as one step of a region that draws its order -/
theorem step_append_rd {P : Program} {ops : Array Oper} {o : Oper} {a : Act} {w : World} {K : Act → World → Prop} {Q : Exit → Act → World → Prop} {E : Prop} (hgd : o.guard = none) (s x : Operand) (t : TypeId)
    (ho : o.op = .call { callee := .builtin .append, args := #[s, x], argTypes := #[t, t] })
    (base : Nat) (e : TypeId) (i : TypeInfo) (z : Value) (size bytes : Nat) (ht : P.underlying t = some (.slice e)) (hi : P.info? e = some i) (hz : i.zero = some z)
    (hsize : i.size = size) (hby : i.bytes = bytes) (hzs : z.cells.size = size) (hsz : 0 < size)
    (v : Value) (n : Nat) (xs : List Value) (hs : a.eval s = v) (hown : w.ownsRow base e size v n xs)
    (xv : Value) (m : Nat) (news : List Value) (hxe : a.eval x = xv) (hx : Rd w xv size m news) (h1 : ∀ u ∈ news, u.oneCell' = true)
    (h63 : n + m ≤ maxLen) (hbytes : (n + m) * bytes ≤ 140737488355328) (hbase : base ≤ w.heap.size)
    (h : ∀ v' w', w'.ownsRow base e size v' (n + m) (xs ++ news) → w.grownBy w' v.ownBlock → (v' = .slice none 0 0 ↔ v = .slice none 0 0 ∧ m = 0) → (∀ k, v'.ownBlock = some k → v.ownBlock = some k ∨ w.heap.size ≤ k) → K (a.put o.dst v') w') :
    if Region.wanted o (yielded ops a.tmps) = true then Oper.wp P o a w K Q else E := by
  rw [if_pos (by simp [Region.wanted, hgd])]
  exact wp_append_rd w s x t ho base e i z size bytes ht hi hz hsize hby hzs hsz v n xs hs hown xv m news hxe hx h1 h63 hbytes hbase h
theorem Rd.of_own {w : World} {B e : Nat} {size n : Nat} {v : Value} {xs : List Value} (h : w.ownsRow B e size v n xs) : Rd w v size n xs := by
  rcases h.2 with ⟨rfl, rfl⟩ | ⟨g, cap, cur, rfl, hb, hg, hnc, rest⟩
  · exact ⟨none, 0, rfl, h.1, Nat.le_refl _, fun _ => rfl, (fun ad hh => by cases hh)⟩
  · exact ⟨some ⟨g, 0, none⟩, cap, rfl, h.1, hnc, (fun hh => by cases hh), (fun ad hh => by cases hh; exact h.cells (g := g) rfl)⟩
theorem Rd.keep {w w' : World} {v : Value} {size n : Nat} {xs : List Value} (h : Rd w v size n xs) (hk : ∀ p : Addr, v.ownBlock = some p.block → w'.cell? p = w.cell? p) : Rd w' v size n xs := by
  obtain ⟨a, c, rfl, h1, h2, h3, h4⟩ := h
  refine ⟨a, c, rfl, h1, h2, h3, fun ad e j u hu => ?_⟩
  subst e
  rw [hk _ (by simp [Value.ownBlock, Addr.add]; split <;> rfl)]
  exact h4 ad rfl j u hu
theorem Rd.chg {S : Nat → Prop} {w w' : World} {v : Value} {size n : Nat} {xs : List Value} (h : Rd w v size n xs) (hc : Chg S w w') (hs : ∀ k, v.ownBlock = some k → 0 < n → ¬ S k) : Rd w' v size n xs := by
  obtain ⟨a, c, rfl, h1, h2, h3, h4⟩ := h
  refine ⟨a, c, rfl, h1, h2, h3, fun ad e j u hu => ?_⟩
  subst e
  have hn : 0 < n := by
    rcases Nat.eq_zero_or_pos n with h0 | h0
    · subst h0
      rw [List.eq_nil_of_length_eq_zero (show xs.length = 0 by omega)] at hu
      simp at hu
    · exact h0
  exact hc.cell (h4 ad rfl j u hu) (hs _ (by simp [Value.ownBlock, Addr.add]; split <;> rfl) hn)
theorem Rd.lt {w : World} {v : Value} {size n : Nat} {xs : List Value} (h : Rd w v size n xs) (hsz : 0 < size) : ∀ k, v.ownBlock = some k → 0 < n → k < w.heap.size := by
  obtain ⟨a, c, rfl, h1, h2, h3, h4⟩ := h
  intro k hk hn
  cases a with
  | none => simp [Value.ownBlock] at hk
  | some ad =>
    simp [Value.ownBlock] at hk
    subst hk
    have hl : 0 < xs.length := by rw [h1]; exact Nat.mul_pos hn hsz
    have := World.block_lt_of_cell? w _ (h4 ad rfl 0 xs[0] (List.getElem?_eq_getElem hl))
    simpa [Addr.add] using this
/-- what came in stays, whatever is done to new blocks -/
theorem Rd.fr {w w' : World} {v : Value} {size n : Nat} {xs : List Value} (h : Rd w v size n xs) (hsz : 0 < size) (hc : Chg (w.heap.size ≤ ·) w w') : Rd w' v size n xs :=
  h.chg hc fun k hk hn hle => by have := h.lt hsz k hk hn; omega
/-- s[:k] -/
theorem Rd.take {w : World} {a : Option Addr} {size n c k : Nat} {xs : List Value} (h : Rd w (.slice a n c) size n xs) (hk : k ≤ n) : Rd w (.slice a k c) size k (xs.take (k * size)) := by
  obtain ⟨a, c, e, h1, h2, h3, h4⟩ := h
  cases e
  refine ⟨a, c, rfl, ?_, by omega, h3, fun ad e j u hu => h4 ad e j u ?_⟩
  · rw [List.length_take, h1, Nat.min_eq_left (Nat.mul_le_mul_right _ hk)]
  · rw [List.getElem?_take] at hu; split at hu
    · exact hu
    · cases hu

theorem setRow_chg (w : World) (g : Nat) (cs : Array Value) : Chg (· = g) w (w.setRow g cs) :=
  ⟨rfl, rfl, rfl, by simp [World.setRow], fun k _ hk => setRow_other w g k cs hk⟩
/-- copy(dst, src): dst lies in row g from off on -/
theorem wpList_copy_rd {P : Program} {w : World} {ops : Array Oper} {rest : List Oper} {o : Oper} {a : Act} {Q : Exit → Act → World → Prop} (hgd : o.guard = none) (d s : Operand) (dT sT : TypeId)
    (ho : o.op = .call { callee := .builtin .copy, args := #[d, s], argTypes := #[dT, sT] }) (elem : TypeId) (hu : P.underlying dT = some (.slice elem)) (hsz : (P.info? elem).map (·.size) = some 1)
    (dp : Option Addr) (dLen dCap : Nat) (hd : a.eval d = .slice dp dLen dCap) (sv : Value) (hs : a.eval s = sv) (m : Nat) (cs : List Value) (hx : Rd w sv 1 m cs)
    (g off : Nat) (cur : List Value) (t : TypeId) (k : Nat) (hk : k = min m dLen) (hg : 0 < k → w.heap[g]? = some (.cells cur.toArray t (0, 0)))
    (hpos : 0 < k → dp = some ⟨g, off, none⟩) (hfit : 0 < k → off + k ≤ cur.length) (h1 : ∀ v ∈ cs, v.oneCell' = true)
    (h : ∀ w', (0 < k → w'.heap[g]? = some (.cells (splice cur off (cs.take k)).toArray t (0, 0))) → Chg (fun j => 0 < k ∧ j = g) w w' → (k = 0 → w' = w) → wpList P ops Q rest (a.put o.dst (goInt k)) w') :
    wpList P ops Q (o :: rest) a w := by
  obtain ⟨sp, c, rfl, hl, hc, hn, hcell⟩ := hx
  simp only [Nat.mul_one] at hl
  have hlen : (cs.take k).length = k := by rw [List.length_take, hl]; omega
  by_cases h0 : k = 0
  · subst h0
    refine wpList_copy_nothing hgd d s dT sT ho elem hu hsz dp sp dLen dCap m c hd hs (show min m dLen = 0 by omega) ?_
    exact h w (fun h => absurd h (by omega)) (Chg.refl _ _) (fun _ => rfl)
  · obtain rfl := hpos (by omega)
    cases sp with
    | none => have := hn rfl; omega
    | some ad =>
      have hcell' : ∀ j v, (cs.take k)[j]? = some v → w.cell? (ad.add j) = some v := fun j v hj => hcell ad rfl j v (by
        rw [List.getElem?_take] at hj
        split at hj
        · exact hj
        · cases hj)
      have := h (w.setRow g (splice cur off (cs.take k)).toArray) (fun _ => setRow_heap w g _ _ t _ (hg (by omega))) ((setRow_chg _ _ _).mono fun _ _ e => ⟨by omega, e⟩) (fun e => absurd e h0)
      refine wpList_copy_own hgd d s dT sT ho elem hu hsz g off dLen dCap ad m c hd hs cur.toArray t (hg (by omega)) (cs.take k) (show _ = min m dLen by omega) hcell' (by have := hfit (by omega); simp [hlen]; omega) (fun v hv => h1 v (List.mem_of_mem_take hv)) ?_
      rw [hlen]
      simpa [splice, hlen] using this
theorem Rd.mk' {w : World} {a : Option Addr} {size n c : Nat} {xs : List Value} (h1 : xs.length = n * size) (h2 : n ≤ c) (h3 : a = none → c = 0) (h4 : ∀ ad, a = some ad → ∀ j u, xs[j]? = some u → w.cell? (ad.add j) = some u) : Rd w (.slice a n c) size n xs := ⟨a, c, rfl, h1, h2, h3, h4⟩
theorem add0 (g k : Nat) : (⟨g, 0, none⟩ : Addr).add k = ⟨g, k, none⟩ := by unfold Addr.add; split <;> simp_all
theorem add_block (a : Addr) (n : Nat) : (a.add n).block = a.block := by unfold Addr.add; split <;> rfl
/-- blocks of two element types are two blocks -/
theorem ne_of_heap {w : World} {g h : Nat} {c d : Array Value} {s t : TypeId} {f k : Nat × Nat} (hg : w.heap[g]? = some (.cells c s f)) (hh : w.heap[h]? = some (.cells d t k)) (hne : s ≠ t) : g ≠ h := by
  intro e; subst e
  have := hg.symm.trans hh
  injection this with this
  injection this with _ e _
  exact hne e
theorem ownsRow_take {w : World} {B e n c k : Nat} {a : Option Addr} {xs : List Value} (h : w.ownsRow B e 1 (.slice a n c) n xs) (hk : k ≤ n) : w.ownsRow B e 1 (.slice a k c) k (xs.take k) := by
  have hl := h.1
  refine ⟨by rw [List.length_take]; omega, ?_⟩
  rcases h.2 with ⟨h1, h2⟩ | ⟨g, cap, cur, h1, hb, hg, hnc, hcm, hcs, htk⟩
  · injection h1 with ha hn hc
    subst ha; subst hc
    obtain rfl : k = 0 := by omega
    exact .inl ⟨rfl, rfl⟩
  · injection h1 with ha _ hc
    subst ha; subst hc
    refine .inr ⟨g, c, cur, rfl, hb, hg, by omega, hcm, hcs, ?_⟩
    rw [← htk, List.take_take]
    congr 1
    omega
/-- a row stays where another block of another element type is written -/
theorem ownsRow_set {w : World} {B e size n p j : Nat} {v u : Value} {xs : List Value} {cs : Array Value} {t : TypeId} (h : w.ownsRow B e size v n xs) (hp : w.heap[p]? = some (.cells cs t (0, 0))) (hne : t ≠ e) : (w.setCell ⟨p, j, none⟩ u).ownsRow B e size v n xs := by
  refine ((Chg.refl (· = p) w).setCell (p := ⟨p, j, none⟩) (fun _ => rfl) u).own h fun k hk he => ?_
  subst he
  rcases h.2 with ⟨h1, _⟩ | ⟨g, cap, cur, h1, hb, hg, _⟩
  · rw [h1] at hk; simp [Value.ownBlock] at hk
  · rw [h1] at hk; simp [Value.ownBlock] at hk; subst hk
    exact ne_of_heap hp hg hne rfl
theorem ownsRow_cur {w : World} {B e size g n cap : Nat} {xs : List Value} (h : w.ownsRow B e size (.slice (some ⟨g, 0, none⟩) n cap) n xs) :
    ∃ cur : List Value, w.heap[g]? = some (.cells cur.toArray e (0, 0)) ∧ cur.length = cap * size ∧ cur.take (n * size) = xs ∧ B ≤ g ∧ n ≤ cap := by
  rcases h.2 with ⟨h, _⟩ | ⟨g', cap', cur, h, hb, hg, hnc, hcm, hcs, htk⟩
  · cases h
  · injection h with h1 _ h3
    injection h1 with h1; injection h1 with h1; subst h1; subst h3
    exact ⟨cur.toList, by simpa using hg, by simpa using hcs, htk, hb, hnc⟩
/-- back: a row that is known whole -/
theorem ownsRow_mk {w : World} {B e size g n cap : Nat} {cur xs : List Value} (hg : w.heap[g]? = some (.cells cur.toArray e (0, 0))) (hb : B ≤ g) (hn : n ≤ cap) (hm : cap ≤ maxLen) (hc : cur.length = cap * size) (hx : cur.take (n * size) = xs) :
    w.ownsRow B e size (.slice (some ⟨g, 0, none⟩) n cap) n xs :=
  ⟨by rw [← hx, List.length_take, hc, Nat.min_eq_left (Nat.mul_le_mul_right _ hn)], .inr ⟨g, cap, cur.toArray, rfl, hb, hg, hn, hm, by simpa using hc, by simpa using hx⟩⟩
theorem quiet_eq {P : Program} {f : FuncId} {args : Array Value} {w : World} {n : Nat} {v : Value}
    (h : Calls P f args (w.drewN n) fun e w' => e = .returned v ∧ w.drewN n = w') : Calls P f args (w.drewN n) fun e w'' => e = .returned v ∧ ∃ m, w'' = w.drewN m :=
  h.mono fun _ _ ⟨he, hm⟩ => ⟨he, n, hm.symm⟩
theorem Rd.drewN {w : World} {v : Value} {size n : Nat} {xs : List Value} (h : Rd w v size n xs) (k : Nat) : Rd (w.drewN k) v size n xs := h
/-- s[k:] -/
theorem Rd.drop {w : World} {a : Option Addr} {n c k : Nat} {xs : List Value} (h : Rd w (.slice a n c) 1 n xs) (hk : k ≤ n) : Rd w (.slice (if c = k then a else a.map (·.add k)) (n - k) (c - k)) 1 (n - k) (xs.drop k) := by
  obtain ⟨a, c, e, h1, h2, h3, h4⟩ := h
  cases e
  refine ⟨_, _, rfl, by rw [List.length_drop, h1]; omega, by omega, fun e => ?_, fun ad e j u hu => ?_⟩
  · split at e
    · omega
    · cases a with
      | none => have := h3 rfl; omega
      | some a => cases e
  · have hj : k + j < xs.length := by
      rcases Nat.lt_or_ge j (xs.drop k).length with h | h
      · rw [List.length_drop] at h; omega
      · rw [List.getElem?_eq_none h] at hu; cases hu
    rw [if_neg (by omega)] at e
    cases a with
    | none => cases e
    | some a =>
      cases e
      have h5 := h4 a rfl (k + j) u (by rw [← hu, List.getElem?_drop])
      have h6 : (a.add k).add j = a.add (k + j) := by
        unfold Addr.add
        by_cases hi : k = 0 <;> by_cases hj : j = 0 <;> simp [hi, hj, Nat.add_assoc]
      rw [h6]; exact h5
end Go.Dk
