/- Logs that are none. -/
import Derived.Test.YtgjllhdbkdcofaaLgK
namespace Go.Proofs.Ytgjllhdbkdcofaa
open Go.RowKit Go.Dk

/-- a log that is none: nil, or made by nobody -/
def NoneIs (w : World) (v : Value) : Prop :=
  v = .pointer none ∨ ∃ p sv fv d, v = .pointer (some ⟨p, 0, none⟩) ∧ w.heap[p]? = some (.cells #[sv, fv, .bool d, .bool false] 43 (0, 0))

theorem none_v (v : Value) (w : World) (h : NoneIs w v) :
    Calls Try.prog 25 #[v] w fun e w' => e = .returned (.bool true) ∧ w = w' := by
  rcases h with rfl | ⟨p, sv, fv, d, rfl, h⟩
  · exact none_nil w
  · exact none_any p sv fv d false w h

theorem none_append (v : Value) (a : Option Addr) (n c : Nat) (w : World) (h : NoneIs w v) :
    Calls Try.prog 16 #[v, .slice a n c] w fun e w' => e = .returned (.int .i64 1) ∧ w = w' := by
  have HN := Go.Lib.hid (none_v v w h); clear h
  go_enter Try.func16, Try.ntmps16
  go_wp2_with (go_at_call 25; refine HN.out.mono ?_; rintro e w' ⟨rfl, rfl⟩)
  go_ret
  exact ⟨rfl, rfl⟩

theorem none_arm (v : Value) (n : Int) (w : World) (h : NoneIs w v) :
    Calls Try.prog 11 #[v, .int .i64 n] w fun e w' => e = .returned (.int .i64 1) ∧ w = w' := by
  have HN := Go.Lib.hid (none_v v w h); clear h
  go_enter Try.func11, Try.ntmps11
  go_wp2_with (go_at_call 25; refine HN.out.mono ?_; rintro e w' ⟨rfl, rfl⟩)
  go_ret
  exact ⟨rfl, rfl⟩

theorem none_revive (v : Value) (n : Int) (w : World) (h : NoneIs w v) :
    Calls Try.prog 13 #[v, .int .i64 n] w fun e w' => e = .returned (.int .i64 1) ∧ w = w' := by
  have HN := Go.Lib.hid (none_v v w h); clear h
  go_enter Try.func13, Try.ntmps13
  go_wp2_with (go_at_call 25; refine HN.out.mono ?_; rintro e w' ⟨rfl, rfl⟩)
  go_ret
  exact ⟨rfl, rfl⟩

theorem none_bytes (v : Value) (w : World) (h : NoneIs w v) :
    Calls Try.prog 18 #[v] w fun e w' => e = .returned (.slice none 0 0) ∧ w = w' := by
  have HN := Go.Lib.hid (none_v v w h); clear h
  go_enter Try.func18, Try.ntmps18
  go_wp2_with (go_at_call 25; refine HN.out.mono ?_; rintro e w' ⟨rfl, rfl⟩)
  go_ret
  exact ⟨rfl, rfl⟩

theorem none_len (v : Value) (w : World) (h : NoneIs w v) :
    Calls Try.prog 21 #[v] w fun e w' => e = .returned (.int .i64 0) ∧ w = w' := by
  have HN := Go.Lib.hid (none_v v w h); clear h
  go_enter Try.func21, Try.ntmps21
  go_wp2_with (go_at_call 25; refine HN.out.mono ?_; rintro e w' ⟨rfl, rfl⟩)
  go_ret
  exact ⟨rfl, rfl⟩

theorem none_dead (v : Value) (w : World) (h : NoneIs w v) :
    Calls Try.prog 22 #[v] w fun e w' => e = .returned (.bool false) ∧ w = w' := by
  have HN := Go.Lib.hid (none_v v w h); clear h
  go_enter Try.func22, Try.ntmps22
  go_wp2_with (go_at_call 25; refine HN.out.mono ?_; rintro e w' ⟨rfl, rfl⟩)
  go_ret
  exact ⟨rfl, rfl⟩

theorem made_bv (n : Nat) : (madeCells (Value.int .u8 0).cells (n * 1)).toList = bv (List.replicate n 0) := by
  refine List.ext_getElem (by simp [madeCells, bv]) fun i h1 h2 => ?_
  simp [madeCells, bv, Value.cells, Nat.mod_one]

theorem al1 {w : World} {p : Addr} {v : Value} {o : Obj} (h : w.cell? p = some v) : (w.alloc o).cell? p = some v := by
  rw [World.cell?_alloc_lt _ _ _ (World.block_lt_of_cell? w p h)]; exact h

theorem rd_new (w : World) (b : Nat) (xs : List Value) (e : TypeId) (size n : Nat) (h : xs.length = n * size) (hb : b = w.heap.size) : Rd (w.alloc (.cells xs.toArray e)) (.slice (some ⟨b, 0, none⟩) n n) size n xs := by
  subst hb
  refine ⟨_, _, rfl, h, Nat.le_refl _, (fun h => by cases h), fun ad h j u hu => ?_⟩
  cases h
  rw [add0]
  exact cell_of_heap (heap_alloc_new w _) (by simpa using hu)

theorem Try.infoDo : (Try.prog.info? 29).map (fun i => (i.zero, i.size, i.bytes)) = some (some (.agg #[.int .i64 0, .int .i64 0, .slice none 0 0]), 3, 40) := by kernel_rfl

/-- a call that the row xs holds -/
def DoOf (w : World) (xs : List Value) (j : Nat) : Prop :=
  ∃ d : DoD, xs[j * 3]? = some (.int .i64 d.kind) ∧ xs[j * 3 + 1]? = some (.int .i64 d.n) ∧ xs[j * 3 + 2]? = some (.slice d.sa d.b.length d.sc) ∧ DoOk d ∧
    ((d.b = [] ∧ d.sa = none ∧ d.sc = 0) ∨ ∃ g, d.sa = some ⟨g, 0, none⟩ ∧ d.sc = d.b.length ∧ w.heap[g]? = some (.cells (bv d.b).toArray 5 (0, 0)))

theorem dos_next {w w' : World} {xs news : List Value} {n : Nat} (hlen : xs.length = n * 3) (hold : ∀ j, j < n → DoOf w xs j)
    (hkeep : ∀ (g : Nat) (cs : Array Value), w.heap[g]? = some (.cells cs 5 (0, 0)) → w'.heap[g]? = some (.cells cs 5 (0, 0))) (hnew : ∀ t, t < 5 → DoOf w' news t) :
    ∀ j, j < n + 5 → DoOf w' (xs ++ news) j := by
  intro j hj
  by_cases h : j < n
  · obtain ⟨d, h0, h1, h2, hok, hr⟩ := hold j h
    refine ⟨d, ?_, ?_, ?_, hok, ?_⟩
    · rw [List.getElem?_append_left (by omega)]; exact h0
    · rw [List.getElem?_append_left (by omega)]; exact h1
    · rw [List.getElem?_append_left (by omega)]; exact h2
    · rcases hr with hr | ⟨g, r1, r2, r3⟩
      · exact .inl hr
      · exact .inr ⟨g, r1, r2, hkeep _ _ r3⟩
  · obtain ⟨d, h0, h1, h2, hok, hr⟩ := hnew (j - n) (by omega)
    refine ⟨d, ?_, ?_, ?_, hok, hr⟩
    · rw [List.getElem?_append_right (by omega), ← h0]; congr 1; omega
    · rw [List.getElem?_append_right (by omega), ← h1]; congr 1; omega
    · rw [List.getElem?_append_right (by omega), ← h2]; congr 1; omega

theorem CallsIn.fr {w w' : World} {a : Option Addr} {n : Nat} (h : CallsIn w a n) (hc : Chg No w w') : CallsIn w' a n := fun k hk => by
  obtain ⟨b, o, d, ha, hb, h0, h1, h2, hr, hok⟩ := h k hk
  exact ⟨b, o, d, ha, Nat.lt_of_lt_of_le hb hc.size, hc.cell h0 id, hc.cell h1 id, hc.cell h2 id, hr.chg hc fun _ _ _ => id, hok⟩

/-- a row of calls, read -/
theorem calls_row {w : World} {B n c : Nat} {a : Option Addr} {xs : List Value} (ho : w.ownsRow B 29 3 (.slice a n c) n xs) (h : ∀ j, j < n → DoOf w xs j) : CallsIn w a n := by
  intro k hk
  obtain ⟨d, h0, h1, h2, hok, hr⟩ := h k hk
  rcases ho.2 with ⟨_, h0⟩ | ⟨g, cap, cur, hv, hb, hg, hnc, hcm, hcs, htk⟩
  · omega
  · injection hv with ha _ hc
    subst ha; subst hc
    have cell : ∀ (j : Nat) (u : Value), xs[j]? = some u → w.cell? ⟨g, 0 + j, none⟩ = some u := fun j u hj => by
      have := ho.cells (g := g) rfl j u hj
      rw [add0] at this
      simpa using this
    refine ⟨g, 0, d, rfl, lt_of_heap hg, cell _ _ h0, by have := cell _ _ h1; simpa [Nat.add_assoc] using this, by have := cell _ _ h2; simpa [Nat.add_assoc] using this, ?_, hok⟩
    rcases hr with ⟨r1, r2, r3⟩ | ⟨q, r1, r2, r3⟩
    · rw [r1, r2, r3]
      exact Rd.mk' rfl (Nat.le_refl _) (fun _ => rfl) fun _ h => by cases h
    · rw [r1, r2]
      refine Rd.mk' (by rw [bv_length]; omega) (Nat.le_refl _) (fun h => by cases h) fun ad h j u hu => ?_
      cases h
      rw [add0]
      exact cell_of_heap r3 (by simpa using hu)
end Go.Proofs.Ytgjllhdbkdcofaa
