/- Reading a slice of calls that came in. -/
import Derived.Test.YtgjllhdbkdcofaaLgJ
import Derived.Deep.Slices
import Derived.Deep.Fields
import Derived.ChangeSame
import Derived.ProofKit
import Derived.OpenShut
import Derived.ShutString
import Derived.ChangeOld
namespace Go.Proofs.Ytgjllhdbkdcofaa
open Go.ChangeShapes Go.WideShapes Go.Deep Go.RowKit Go.Dk
section
variable {H : Type} {enc : TypeId × Value → H} {P : Program} {w : World} {base : Nat} {spare : Nat → Bool} {held : Bool}
theorem open_slice_fields {t e : TypeId} {fs : Array Field} {fuel : Nat} {cs : List Value} {x : DataW H × List MemPlace} (ht : P.underlying t = some (.slice e)) (he : P.underlying e = some (.struct fs))
    (hone : oneCellFields P fs = true) (hC : P.cellsOf e = fs.size) (h : DataW.trod enc P w base spare held fuel t cs = some x) :
    (cs = [.slice none 0 0] ∧ x = (.nil, [])) ∨
    ∃ (a : Addr) (len cap m : Nat) (D : Nat → DataW H) (Pl : Nat → List MemPlace), cs = [.slice (some a) len cap] ∧ base ≤ a.block ∧ len ≤ cap ∧ cap ≤ maxLen ∧ m = (if spare a.block then cap else len) ∧
      x = (.slice ((List.range len).map D) ((List.range (m - len)).map fun j => D (len + j)), MemPlace.row a (m * fs.size) ++ (List.range m).flatMap Pl) ∧
      ∀ i, i < m → ∃ (ys : List (DataW H × List MemPlace)) (n : Nat), D i = .agg (ys.map (·.1)) ∧ Pl i = ys.flatMap (·.2) ∧ ys.length = fs.size ∧
        ∀ (j : Nat) (f : Field), fs[j]? = some f → ∃ (v : Value) (y : DataW H × List MemPlace), w.cell? (a.add (i * fs.size + j)) = some v ∧ ys[j]? = some y ∧ DataW.trod enc P w base spare held n f.type [v] = some y := by
  rcases open_slice ht h with h0 | ⟨a, len, cap, m, n, D, Pl, hcs, hb, hl, hm, hmm, hx, hi⟩
  · exact .inl h0
  · refine .inr ⟨a, len, cap, m, D, Pl, hcs, hb, hl, hm, hmm, by rw [hC] at hx; exact hx, fun i him => ?_⟩
    obtain ⟨cs', hc, ht'⟩ := hi i him
    rw [hC] at hc
    obtain ⟨ys, n', hn', hy, hlen, hyl, hf⟩ := DataW.trod_struct he ht'
    obtain ⟨_, hcl, hat⟩ := World.cells?_some hc
    simp only [Prod.mk.injEq] at hy
    refine ⟨ys, n', hy.1, hy.2, hyl, fun j f hj => ?_⟩
    obtain ⟨ho, hk⟩ := hone_of hone j f hj
    have hjl : j < fs.size := (Array.getElem?_eq_some_iff.1 hj).1
    have hcell := hat j hjl
    have hv : cs'[j]? = some (cs'[j]'(by omega)) := List.getElem?_eq_getElem (by omega)
    have h1 := hf j f hj
    rw [ho, hk] at h1
    have hone' : (cs'.drop j).take 1 = [cs'[j]'(by omega)] := by
      rw [List.drop_eq_getElem_cons (by omega)]
      rfl
    rw [hone'] at h1
    have hys : ys[j]? = some (ys[j]'(by omega)) := List.getElem?_eq_getElem (by omega)
    refine ⟨_, _, ?_, hys, h1.trans hys⟩
    rw [← Go.Deep.add_add, hcell, hv]
end

theorem addr_plain {w : World} {a : Addr} {v : Value} (h : w.cell? (a.add 0) = some v) : a = ⟨a.block, a.off, none⟩ := by
  have h' : w.cell? a = some v := by simpa [Addr.add] using h
  obtain ⟨b, o, s⟩ := a
  cases s with
  | none => rfl
  | some s =>
    simp only [World.cell?] at h'
    split at h' <;> simp at h'

/-- bytes that came in -/
theorem bytes_of {H : Type} {enc : TypeId × Value → H} {w : World} {held : Bool} {n : Nat} {v : Value} {x : DataW H × List MemPlace} (h : DataW.trod enc Try.prog w 0 (fun _ => true) held n 27 [v] = some x) :
    ∃ (a : Option Addr) (c : Nat) (l : List UInt8), v = .slice a l.length c ∧ Rd w (.slice a l.length c) 1 l.length (bv l) ∧ l.length ≤ c ∧ c ≤ 9223372036854775807 := by
  rcases open_ints Try.underlying27 Try.underlying5 (by kernel_rfl) h with ⟨hcs, _⟩ | ⟨x, l, c, zs, hcs, _, hl, hm, hz, _, hc, hw⟩
  · simp at hcs
    exact ⟨none, 0, [], hcs, Rd.of_own (World.ownsRow_nil w 0 0 1), Nat.le_refl _, by omega⟩
  · simp at hcs
    have hz' : zs.length = c := by simpa using hz
    have hll : ((zs.take l).map fun z => UInt8.ofNat z.toNat).length = l := by simp; omega
    refine ⟨some x, c, (zs.take l).map fun z => UInt8.ofNat z.toNat, by rw [hll]; exact hcs, ?_, by rw [hll]; exact hl, by unfold maxLen at hm; exact hm⟩
    rw [hll]
    refine Rd.mk' (by rw [bv_length, hll]; omega) hl (fun h => by cases h) fun ad e j u hu => ?_
    cases e
    have hj : j < l := by
      rcases Nat.lt_or_ge j l with h | h
      · exact h
      · rw [List.getElem?_eq_none (by rw [bv_length, hll]; exact h)] at hu; cases hu
    have hjz : j < zs.length := by omega
    rw [hc j hjz]
    have hwz := hw zs[j] (List.getElem_mem hjz)
    simp only [Lit.wf, Bool.and_eq_true, decide_eq_true_eq] at hwz
    have hmin : IntKind.u8.min = 0 := rfl
    have hmax : IntKind.u8.max = 255 := rfl
    rw [hmin, hmax] at hwz
    simp [bv, List.getElem?_take, hj, List.getElem?_eq_getElem hjz] at hu
    subst hu
    simp [List.getD, List.getElem?_eq_getElem hjz]
    omega

/-- calls that came in -/
theorem calls_of {H : Type} {enc : TypeId × Value → H} {w : World} {held : Bool} {fuel : Nat} {a : Option Addr} {len cap : Nat} {x : DataW H × List MemPlace} (h : DataW.trod enc Try.prog w 0 (fun _ => true) held fuel 22 [.slice a len cap] = some x) :
    CallsIn w a len ∧ len ≤ 9223372036854775807 := by
  rcases open_slice_fields Try.underlying22 Try.underlying29 (by kernel_rfl) (by kernel_rfl) h with ⟨hcs, _⟩ | ⟨ad, l, c, m, D, Pl, hcs, _, hlc, hcm, hm, _, hf⟩
  · simp at hcs
    obtain ⟨rfl, rfl, rfl⟩ := hcs
    exact ⟨fun k hk => by omega, by omega⟩
  · simp at hcs
    obtain ⟨rfl, rfl, rfl⟩ := hcs
    simp at hm
    unfold maxLen at hcm
    refine ⟨fun k hk => ?_, by omega⟩
    obtain ⟨ys0, n0, _, _, _, hf0⟩ := hf 0 (by omega)
    obtain ⟨v00, y00, hc00, _, _⟩ := hf0 0 _ rfl
    have hplain := addr_plain (by simpa using hc00)
    obtain ⟨ys, n, _, _, _, hfk⟩ := hf k (by omega)
    obtain ⟨v0, y0, hc0, _, ht0⟩ := hfk 0 _ rfl
    obtain ⟨v1, y1, hc1, _, ht1⟩ := hfk 1 _ rfl
    obtain ⟨v2, y2, hc2, _, ht2⟩ := hfk 2 _ rfl
    obtain ⟨a0, e0, _, w0⟩ := DataW.trod_int Try.underlying3 ht0
    obtain ⟨a1, e1, _, w1⟩ := DataW.trod_int Try.underlying3 ht1
    obtain ⟨sa, sc, b, rfl, hr, hbl, hsc⟩ := bytes_of ht2
    simp at e0 e1
    subst e0; subst e1
    have hlt := World.block_lt_of_cell? w _ hc0
    rw [hplain] at hc0 hc1 hc2 hlt ⊢
    simp only [Addr.add_lit] at hc0 hc1 hc2 hlt
    simp only [Lit.wf, Bool.and_eq_true, decide_eq_true_eq] at w0 w1
    exact ⟨ad.block, ad.off, ⟨a0, a1, b, sa, sc⟩, rfl, hlt, by simpa using hc0, by simpa [Nat.add_assoc] using hc1, by simpa [Nat.add_assoc] using hc2, hr, w0.1, w0.2, w1.1, w1.2, hbl, hsc⟩
end Go.Proofs.Ytgjllhdbkdcofaa
