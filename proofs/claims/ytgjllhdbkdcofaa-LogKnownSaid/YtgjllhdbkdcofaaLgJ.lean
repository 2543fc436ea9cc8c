/- LogPlays: words. -/
import Derived.Test.YtgjllhdbkdcofaaLgI
namespace Go.Proofs.Ytgjllhdbkdcofaa
open Go.RowKit Go.Dk

/-- a row whose first n cells are bytes -/
def RowU8 (w : World) (g n : Nat) : Prop := ∃ cur : List Value, w.heap[g]? = some (.cells cur.toArray 5 (0, 0)) ∧ n ≤ cur.length ∧ ∀ j, j < n → ∃ x, cur[j]? = some (.int .u8 x)
theorem RowU8.cell {w : World} {g n j : Nat} (h : RowU8 w g n) (hj : j < n) : ∃ x, w.cell? ⟨g, j, none⟩ = some (.int .u8 x) := by
  obtain ⟨cur, hg, hn, hc⟩ := h
  obtain ⟨x, hx⟩ := hc j hj
  exact ⟨x, cell_of_heap hg (by simpa using hx)⟩
theorem RowU8.free {w : World} {g n : Nat} (h : RowU8 w g n) (j : Nat) : w.frozen? ⟨g, j, none⟩ = false := by
  obtain ⟨cur, hg, _⟩ := h
  exact free_of_heap hg
theorem RowU8.set {w : World} {g n j : Nat} (h : RowU8 w g n) (y : Int) : RowU8 (w.setCell ⟨g, j, none⟩ (.int .u8 y)) g n := by
  obtain ⟨cur, hg, hn, hc⟩ := h
  refine ⟨cur.set j (.int .u8 y), ?_, by simpa using hn, fun k hk => ?_⟩
  · rw [hset_same hg]; simp
  · obtain ⟨x, hx⟩ := hc k hk
    by_cases e : j = k
    · subst e
      exact ⟨y, by rw [List.getElem?_set_self (by omega)]⟩
    · exact ⟨x, by rw [List.getElem?_set_ne e]; exact hx⟩
theorem RowU8.of_own {w : World} {B g n c : Nat} {l : List UInt8} (h : w.ownsRow B 5 1 (.slice (some ⟨g, 0, none⟩) n c) n (bv l)) : RowU8 w g n := by
  obtain ⟨cur, hg, hl, ht, _, hnc⟩ := ownsRow_cur h
  refine ⟨cur, hg, by omega, fun j hj => ?_⟩
  have hb : (bv l).length = n := by rw [← ht, List.length_take]; omega
  rw [bv_length] at hb
  have h1 : (bv l)[j]? = cur[j]? := by rw [← ht, List.getElem?_take]; simp [hj]
  rw [← h1]
  exact ⟨_, by simp [bv, List.getElem?_eq_getElem (show j < l.length by omega)]; rfl⟩

/-- between two rounds of 'for k: b[k] ^= c' -/
def XorRel (w5 : World) (g n : Nat) (i : Value) (wr : World) : Prop :=
  ∃ j : Nat, i = .int .i64 j ∧ j ≤ n ∧ (0 < n → RowU8 wr g n) ∧ Chg (fun k => 0 < n ∧ k = g) w5 wr

theorem own_head {w : World} {B n c : Nat} {a : Option Addr} {l : List UInt8} (h : w.ownsRow B 5 1 (.slice a n c) n (bv l)) (hB : B ≤ w.heap.size) : ∃ g, (0 < n → a = some ⟨g, 0, none⟩) ∧ (0 < n → RowU8 w g n) ∧ B ≤ g := by
  rcases h.2 with ⟨h1, h0⟩ | ⟨g, cap, cur, h1, hb, hg, hnc, hcm, hcs, htk⟩
  · exact ⟨B, fun h => by omega, fun h => by omega, Nat.le_refl _⟩
  · injection h1 with ha _ hc
    subst ha; subst hc
    exact ⟨g, fun _ => rfl, fun _ => RowU8.of_own h, hb⟩

theorem ownsRow_mono {w : World} {B B' e size n : Nat} {v : Value} {xs : List Value} (h : w.ownsRow B e size v n xs) (hB : B' ≤ B) : w.ownsRow B' e size v n xs := by
  refine ⟨h.1, ?_⟩
  rcases h.2 with h1 | ⟨g, cap, cur, h1, h2, h3⟩
  · exact .inl h1
  · exact .inr ⟨g, cap, cur, h1, by omega, h3⟩
theorem RefIs.mono {w : World} {B B' p : Nat} {sv : Value} {bs : List UInt8} {gone : Bool} {cut : Int} (h : RefIs w B p sv bs gone cut) (hB : B' ≤ B) : RefIs w B' p sv bs gone cut :=
  ⟨h.cells, by have := h.base; omega, ownsRow_mono h.row hB, h.small, h.cuts⟩

/-- a call, as data -/
structure DoD where
  kind : Int
  n : Int
  b : List UInt8
  sa : Option Addr
  sc : Nat

def DoOk (d : DoD) : Prop := -9223372036854775808 ≤ d.kind ∧ d.kind ≤ 9223372036854775807 ∧ -9223372036854775808 ≤ d.n ∧ d.n ≤ 9223372036854775807 ∧ d.b.length ≤ d.sc ∧ d.sc ≤ 9223372036854775807

/-- calls in memory -/
def CallsIn (w : World) (a : Option Addr) (len : Nat) : Prop :=
  ∀ k, k < len → ∃ b o d, a = some ⟨b, o, none⟩ ∧ b < w.heap.size ∧ w.cell? ⟨b, o + k * 3, none⟩ = some (.int .i64 d.kind) ∧ w.cell? ⟨b, o + k * 3 + 1, none⟩ = some (.int .i64 d.n) ∧ w.cell? ⟨b, o + k * 3 + 2, none⟩ = some (.slice d.sa d.b.length d.sc) ∧
    Rd w (.slice d.sa d.b.length d.sc) 1 d.b.length (bv d.b) ∧ DoOk d

/-- the two logs stand alike -/
structure Both (w : World) (B p q : Nat) (sv fv sm : Value) (bs : List UInt8) (fu : Option Int) (dead : Bool) : Prop where
  l : LogIs w B p sv fv bs fu dead
  m : RefIs w B q sm bs dead (fu.getD (-1))
  apart : ∀ k, foot p sv fv k → ¬ rfoot q sm k

def PlayRel (w0 : World) (len : Nat) (p q : Nat) (i : Value) (wr : World) : Prop :=
  ∃ (k : Nat) (sv fv sm : Value) (bs : List UInt8) (fu : Option Int) (dead : Bool), i = .int .i64 k ∧ k ≤ len ∧ k ≤ 100 ∧ Both wr w0.heap.size p q sv fv sm bs fu dead ∧ Chg (w0.heap.size ≤ ·) w0 wr

theorem Both.chg {S : Nat → Prop} {w w' : World} {B p q : Nat} {sv fv sm : Value} {bs : List UInt8} {fu : Option Int} {dead : Bool} (h : Both w B p q sv fv sm bs fu dead) (hc : Chg S w w') (h1 : ∀ k, foot p sv fv k → ¬ S k) (h2 : ∀ k, rfoot q sm k → ¬ S k) : Both w' B p q sv fv sm bs fu dead :=
  ⟨h.l.chg hc h1, h.m.chg hc h2, h.apart⟩
theorem fuOf_getD {w : World} {B p : Nat} {sv fv : Value} {bs : List UInt8} {fu : Option Int} {dead : Bool} (h : LogIs w B p sv fv bs fu dead) : fuOf (fu.getD (-1)) = fu := by
  rcases h.fuse with ⟨_, rfl⟩ | ⟨q, y, _, rfl, h0, _⟩
  · rfl
  · unfold fuOf; simp; omega

/-- l has done something, then m the same -/
theorem Both.next {S5 S6 : Nat → Prop} {w4 w5 w6 : World} {B p q : Nat} {sv fv sm sv5 fv5 sm6 : Value} {bs bs' : List UInt8} {fu fu' : Option Int} {dead dead' : Bool} {cut' : Int} (h : Both w4 B p q sv fv sm bs fu dead)
    (hL : LogIs w5 B p sv5 fv5 bs' fu' dead') (hc5 : Chg S5 w4 w5) (hft : ∀ k, foot p sv5 fv5 k → foot p sv fv k ∨ w4.heap.size ≤ k)
    (hM : RefIs w6 B q sm6 bs' dead' cut') (hcut : cut' = fu'.getD (-1)) (hc6 : Chg S6 w5 w6) (hS6 : ∀ k, S6 k → rfoot q sm k) (hfm : ∀ k, rfoot q sm6 k → rfoot q sm k ∨ w5.heap.size ≤ k) :
    Both w6 B p q sv5 fv5 sm6 bs' fu' dead' := by
  have hap : ∀ k, foot p sv5 fv5 k → ¬ rfoot q sm k := fun k hk hr => by
    rcases hft k hk with h1 | h1
    · exact h.apart k h1 hr
    · have := (h.m.foot_lt hr).2; omega
  refine ⟨hL.chg hc6 fun k hk hs => hap k hk (hS6 k hs), hcut ▸ hM, fun k hk hr => ?_⟩
  rcases hfm k hr with h1 | h1
  · exact hap k hk h1
  · have := (hL.foot_lt hk).2; omega
/-- m, while l has done something -/
theorem Both.m5 {S : Nat → Prop} {w4 w5 : World} {B p q : Nat} {sv fv sm : Value} {bs : List UInt8} {fu : Option Int} {dead : Bool} (h : Both w4 B p q sv fv sm bs fu dead) (hc : Chg S w4 w5) (hs : ∀ k, S k → foot p sv fv k) : RefIs w5 B q sm bs dead (fu.getD (-1)) :=
  h.m.chg hc fun k hk hS => h.apart k (hs k hS) hk
end Go.Proofs.Ytgjllhdbkdcofaa
