/- What the reading of an argument tells of its value. -/
import Derived.Test.YtnjblppapmflhaaBase
import Derived.ProofKit
import Derived.OpenShut
import Derived.ShutString
import Derived.ChangeOld
import Derived.SliceStrings
namespace Go
open RowKit ChangeShapes
theorem take_one_drop {α : Type} {cs : List α} {i : Nat} {a : α} (h : (cs.drop i).take 1 = [a]) : cs[i]? = some a := by
  have := congrArg (fun l => l[0]?) h
  simpa [List.getElem?_take, List.getElem?_drop] using this
theorem ints_of_cells {k : IntKind} : ∀ {cs : List Value}, (∀ i, i < cs.length → ∃ z, cs[i]? = some (.int k z) ∧ (Lit.int k z).wf = true) → ∃ zs : List Int, cs = zs.map (Value.int k) ∧ ∀ z ∈ zs, (Lit.int k z).wf = true
  | [], _ => ⟨[], rfl, by simp⟩
  | c :: cs, h => by
    obtain ⟨z, hz, hw⟩ := h 0 (by simp)
    simp at hz
    subst hz
    obtain ⟨zs, rfl, hzs⟩ := ints_of_cells (cs := cs) (fun i hi => by simpa using h (i + 1) (by simpa using hi))
    exact ⟨z :: zs, rfl, by intro y hy; exact (List.mem_cons.1 hy).elim (fun e => e ▸ hw) (hzs y)⟩
section
variable {H : Type} {enc : TypeId × Value → H} {P : Program} {w : World} {base : Nat} {spare : Nat → Bool} {held : Bool} {fuel : Nat} {t : TypeId} {cs : List Value} {x : DataW H × List MemPlace}
/-- An array of integers, as a list of cells. -/
theorem trod_ints {n : Nat} {e : TypeId} {k : IntKind} (ht : P.underlying t = some (.array n e)) (he : P.underlying e = some (.int k)) (hc : P.cellsOf e = 1) (hn : P.cellsOf t = n)
    (h : DataW.trod enc P w base spare held fuel t cs = some x) : ∃ zs : List Int, zs.length = n ∧ cs = zs.map (Value.int k) ∧ ∀ z ∈ zs, (Lit.int k z).wf = true := by
  obtain ⟨xs, m, _, rfl, hl, hlen, hf⟩ := DataW.trod_array ht h
  rw [hn] at hl
  obtain ⟨zs, hzs, hw⟩ := ints_of_cells (k := k) (cs := cs) (by
    intro i hi
    have h1 := hf i (by omega)
    rw [hc, Nat.mul_one] at h1
    obtain ⟨y, hy⟩ : ∃ y, xs[i]? = some y := ⟨xs[i], List.getElem?_eq_getElem (by omega)⟩
    rw [hy] at h1
    obtain ⟨z, hz, _, hw⟩ := DataW.trod_int he h1
    exact ⟨z, take_one_drop hz, hw⟩)
  exact ⟨zs, by rw [hzs] at hl; simpa using hl, hzs, hw⟩
theorem okWide_array {r : Reach} {b0 n : Nat} {e : TypeId} {v : Value} (ht : P.underlying t = some (.array n e)) (h : Value.okWide P w r b0 t v) : ∃ cs, v = .agg cs ∧ cs.size = P.cellsOf t := by
  simp only [Value.okWide, ht] at h
  obtain ⟨cs, h1, h2, _⟩ := h
  exact ⟨cs, h1, h2⟩
/-- An array of integers by value. -/
theorem open_array_ints {r : Reach} {b0 n : Nat} {e : TypeId} {k : IntKind} {v : Value} {d : DataW H} {p : List MemPlace} (ht : P.underlying t = some (.array n e)) (he : P.underlying e = some (.int k)) (hc : P.cellsOf e = 1) (hn : P.cellsOf t = n)
    (hv : Value.okWide P w r b0 t v) (h : DataW.Trod enc P w base spare held t v d p) : ∃ zs : List Int, zs.length = n ∧ v = .agg (zs.map (Value.int k)).toArray ∧ ∀ z ∈ zs, (Lit.int k z).wf = true := by
  obtain ⟨cs, rfl, _⟩ := okWide_array ht hv
  obtain ⟨fuel, hf⟩ := h
  obtain ⟨zs, hl, hz, hw⟩ := trod_ints ht he hc hn hf
  refine ⟨zs, hl, ?_, hw⟩
  congr 1
  apply Array.ext'
  simpa [Value.cells] using hz
/-- A slice of strings. -/
theorem open_strs {r : Reach} {b0 : Nat} {e : TypeId} {v : Value} {d : DataW H} {p : List MemPlace} (ht : P.underlying t = some (.slice e)) (he : P.underlying e = some .string) (hc : P.cellsOf e = 1)
    (hv : Value.okWide P w r b0 t v) (h : DataW.Trod enc P w 0 spare held t v d p) : ∃ l : List ByteArray, w.reads w.heap.size v (l.map Value.string) ∧ (∀ s ∈ l, s.size ≤ maxLen) ∧ l.length ≤ maxLen := by
  obtain ⟨a, len, cap, rfl⟩ := WideShapes.okWide_slice ht hv
  obtain ⟨fuel, hf⟩ := h
  rcases open_strings ht he hc hf with ⟨hcs, _⟩ | ⟨x, l, c, ss, hcs, _, hl, hm, hz, hx, hcell, hws⟩
  · simp [Value.cells] at hcs
    obtain ⟨rfl, rfl, rfl⟩ := hcs
    exact ⟨[], ⟨none, 0, rfl, fun _ => rfl, Nat.le_refl _, Nat.zero_le _, fun j u hj => by simp at hj⟩, by simp, by simp⟩
  · simp [Value.cells] at hcs
    obtain ⟨rfl, rfl, rfl⟩ := hcs
    refine ⟨ss.take len, ⟨some x, cap, ?_, by simp, by simp; omega, by omega, fun j u hj => ?_⟩, fun s hs => hws s (List.mem_of_mem_take hs), ?_⟩
    · rw [List.length_map, List.length_take, Nat.min_eq_left (by split at hz <;> omega)]
    · have hj' : j < len ∧ j < ss.length := by
        have h1 := (List.getElem?_eq_some_iff.1 hj).1
        simp at h1; omega
      have hcj := hcell j hj'.2
      obtain ⟨b, off, spot⟩ := x
      obtain rfl : spot = none := by
        have := World.cell?_spot (hcell 0 (by omega))
        simpa [Addr.add] using this
      refine ⟨b, off, rfl, ?_, ?_⟩
      · have := World.block_lt_of_cell? w _ (hcell 0 (by omega))
        simpa [Addr.add] using this
      · have h1 : (⟨b, off, none⟩ : Addr).add j = ⟨b, off + j, none⟩ := by unfold Addr.add; split <;> simp_all
        rw [h1] at hcj
        rw [hcj]
        simp [hj'.1, hj'.2] at hj ⊢
        exact hj
    · rw [List.length_take]; omega
end
end Go
