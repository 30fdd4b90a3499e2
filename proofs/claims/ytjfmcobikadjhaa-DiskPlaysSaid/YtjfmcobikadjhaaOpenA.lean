/- What the reading of an argument tells of its value: a slice of acts. -/
import Derived.Test.YtjfmcobikadjhaaRows
import Derived.Test.YtjfmcobikadjhaaOpenG
import Derived.WideShapes
namespace Go.Proofs.Ytjfmcobikadjhaa
set_option linter.all false
open Go.RowKit Go.WideShapes Go.ChangeShapes
/-- An act of the law. -/
structure ActR where
  (what : Int)
  (n : Int)
  (text : ByteArray)
  (list : List ByteArray)
structure ActAt (w : World) (B b off : Nat) (x : ActR) : Prop where
  c0 : w.cell? ⟨b, off, none⟩ = some (.int .u8 x.what)
  c1 : w.cell? ⟨b, off + 1, none⟩ = some (.int .i64 x.n)
  c2 : w.cell? ⟨b, off + 2, none⟩ = some (.string x.text)
  c3 : ∃ v, w.cell? ⟨b, off + 3, none⟩ = some v ∧ w.reads B v (x.list.map Value.string)
structure ActR.wf (x : ActR) : Prop where
  w0 : 0 ≤ x.what ∧ x.what ≤ 255
  w1 : -9223372036854775808 ≤ x.n ∧ x.n ≤ 9223372036854775807
  w2 : x.text.size ≤ maxLen
  w3 : x.list.length ≤ maxLen
section
variable {H : Type} {enc : TypeId × Value → H} {P : Program} {w : World} {held : Bool} {fuel : Nat} {t e : TypeId} {cs : List Value} {x : DataW H × List MemPlace}
theorem trod_strs (ht : P.underlying t = some (.slice e)) (he : P.underlying e = some .string) (hc : P.cellsOf e = 1) (h : DataW.trod enc P w 0 (fun _ => true) held fuel t cs = some x) :
    ∃ (v : Value) (l : List ByteArray), cs = [v] ∧ w.reads w.heap.size v (l.map Value.string) ∧ l.length ≤ maxLen := by
  rcases open_strings ht he hc h with ⟨hcs, _⟩ | ⟨a, len, cap, ss, hcs, _, hl, hm, hz, hx, hcell, hws⟩
  · exact ⟨_, [], hcs, reads_nil _ _, by simp⟩
  · simp only [if_true] at hz
    refine ⟨_, ss.take len, hcs, ⟨some a, cap, ?_, by simp, by simp; omega, by omega, fun j u hj => ?_⟩, ?_⟩
    · rw [List.length_map, List.length_take, Nat.min_eq_left (by omega)]
    · have hj' : j < len ∧ j < ss.length := by
        have h1 := (List.getElem?_eq_some_iff.1 hj).1
        simp at h1; omega
      obtain ⟨b, off, rfl, hb⟩ := addr_none (hcell 0 (by omega))
      have hcj := hcell j hj'.2
      rw [add_none] at hcj
      refine ⟨b, off, rfl, hb, ?_⟩
      rw [hcj]
      simp [hj'.1, hj'.2] at hj ⊢
      exact hj
    · rw [List.length_take]; omega
end
theorem four_take (cs : List Value) (h : cs.length = 4) : ∃ a b c d, cs = [a, b, c, d] := by
  match cs, h with
  | [a, b, c, d], _ => exact ⟨a, b, c, d, rfl⟩
set_option maxRecDepth 100000 in
theorem open_acts {H : Type} {enc : TypeId × Value → H} {W : World} {base : Nat} {v : Value} {d : DataW H} {p : List MemPlace} (hv : Value.okWide Try.prog W .any base 22 v) (h : DataW.Trod enc Try.prog W 0 (fun _ => true) true 22 v d p) :
    ∃ (l : List ActR) (a : Option Addr) (cap : Nat), v = .slice a l.length cap ∧ l.length ≤ maxLen ∧ ∀ j x, l[j]? = some x → ∃ b off, a = some ⟨b, off, none⟩ ∧ b < W.heap.size ∧ ActAt W W.heap.size b (off + j * 4) x ∧ x.wf := by
  have cA : Try.prog.cellsOf 34 = 4 := by kernel_rfl
  have cS : Try.prog.cellsOf 9 = 1 := by kernel_rfl
  have cL : Try.prog.cellsOf 30 = 1 := by kernel_rfl
  have c3 : Try.prog.cellsOf 3 = 1 := by kernel_rfl
  have c5 : Try.prog.cellsOf 5 = 1 := by kernel_rfl
  obtain ⟨a, len, cap, rfl⟩ := WideShapes.okWide_slice Try.underlying22 hv
  obtain ⟨fuel, hf⟩ := h
  rcases DataW.trod_slice Try.underlying22 hf with ⟨hcs, _⟩ | ⟨ad, len', cap', elems, rest, n, -, hcs, -, -, hl, hm, hel, hget, -, -⟩
  · simp [Value.cells] at hcs
    obtain ⟨rfl, rfl, rfl⟩ := hcs
    exact ⟨[], none, 0, rfl, by simp, fun j x hj => by simp at hj⟩
  · simp [Value.cells] at hcs
    obtain ⟨rfl, rfl, rfl⟩ := hcs
    have key : ∀ i, i < len → ∃ x : ActR, ∃ b off, ad = ⟨b, off, none⟩ ∧ b < W.heap.size ∧ ActAt W W.heap.size b (off + i * 4) x ∧ x.wf := by
      intro i hi
      have had : ∃ b off, ad = ⟨b, off, none⟩ ∧ b < W.heap.size := by
        have hg0 := hget 0 (by omega)
        rw [List.getElem?_eq_getElem (show 0 < elems.length by omega), cA] at hg0
        obtain ⟨cs0, hcs0, -⟩ := Option.bind_eq_some_iff.1 hg0
        obtain ⟨-, hlen0, hcell0⟩ := World.cells?_some hcs0
        obtain ⟨y0, y1, y2, y3, rfl⟩ := four_take cs0 hlen0
        have := hcell0 0 (by omega)
        have e : ad.add (0 * 4) = ad := by unfold Addr.add; simp
        rw [e] at this
        exact addr_none (v := y0) (this.trans rfl)
      have hg := hget i hi
      rw [List.getElem?_eq_getElem (by omega), cA] at hg
      obtain ⟨cs, hcs, htr⟩ := Option.bind_eq_some_iff.1 hg
      obtain ⟨-, hlen, hcell⟩ := World.cells?_some hcs
      obtain ⟨x0, x1, x2, x3, rfl⟩ := four_take cs hlen
      obtain ⟨_, _, f0⟩ := trod_field Try.underlying34 htr 0 _ rfl
      obtain ⟨_, _, f1⟩ := trod_field Try.underlying34 htr 1 _ rfl
      obtain ⟨_, _, f2⟩ := trod_field Try.underlying34 htr 2 _ rfl
      obtain ⟨_, _, f3⟩ := trod_field Try.underlying34 htr 3 _ rfl
      obtain ⟨z0, e0, -, w0⟩ := DataW.trod_int Try.underlying5 f0
      obtain ⟨z1, e1, -, w1⟩ := DataW.trod_int Try.underlying3 f1
      obtain ⟨z2, e2, -, w2⟩ := DataW.trod_string Try.underlying9 f2
      obtain ⟨v3, l3, e3, hr3, hl3⟩ := trod_strs Try.underlying30 Try.underlying9 cS f3
      have g0 := hcell 0 (by omega)
      have g1 := hcell 1 (by omega)
      have g2 := hcell 2 (by omega)
      have g3 := hcell 3 (by omega)
      obtain ⟨b, off, rfl, -⟩ := had
      rw [add_none, add_none] at g0 g1 g2 g3
      simp [c5, c3, cS, cL] at e0 e1 e2 e3
      simp at g0 g1 g2 g3
      subst e0 e1 e2 e3
      have b0 := bounds_u8 w0
      have b1 := bounds_i64 w1
      refine ⟨⟨z0, z1, z2, l3⟩, b, off, rfl, World.block_lt_of_cell? W ⟨b, off + i * 4, none⟩ g0, ⟨g0, g1, g2, _, g3, hr3⟩, ⟨by omega, by omega, w2, hl3⟩⟩
    have hch : ∃ f : Nat → ActR, ∀ i, i < len → ∃ b off, ad = ⟨b, off, none⟩ ∧ b < W.heap.size ∧ ActAt W W.heap.size b (off + i * 4) (f i) ∧ (f i).wf :=
      ⟨fun i => if h : i < len then Classical.choose (key i h) else ⟨0, 0, ByteArray.empty, []⟩, fun i hi => by simpa only [dif_pos hi] using Classical.choose_spec (key i hi)⟩
    obtain ⟨f, hf2⟩ := hch
    refine ⟨(List.range len).map f, some ad, cap, by simp, by simp; omega, fun j x hj => ?_⟩
    have hjl : j < len := by
      have := (List.getElem?_eq_some_iff.1 hj).1
      simpa using this
    obtain rfl : x = f j := by simpa [hjl] using hj.symm
    obtain ⟨b, off, h1, h2, h3, h4⟩ := hf2 j hjl
    exact ⟨b, off, by rw [h1], h2, h3, h4⟩
end Go.Proofs.Ytjfmcobikadjhaa
