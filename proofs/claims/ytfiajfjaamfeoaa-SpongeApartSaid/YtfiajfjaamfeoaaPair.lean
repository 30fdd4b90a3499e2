/- A pair of states, a number of rounds, a length and a seed, by value. -/
import Derived.Test.YtfiajfjaamfeoaaWj
import Derived.Test.YtfiajfjaamfeoaaOpen
import Derived.WideShapes
namespace Go.Proofs.Ytfiajfjaamfeoaa
open Go.RowKit Go.WideShapes
theorem st_of (l : List Int) (hl : l.length = 5) (hw : ∀ z ∈ l, (Lit.int .u64 z).wf = true) : ∃ s : St, l.map (Value.int .u64) = [.int .u64 (wv s.a), .int .u64 (wv s.b), .int .u64 (wv s.c), .int .u64 (wv s.d), .int .u64 (wv s.e)] := by
  match l, hl with
  | [a, b, c, d, e], _ =>
    have hb : ∀ z ∈ [a, b, c, d, e], z = wv (wof z) := fun z hz => wv_lit z (by have := bounds_u64 (hw z hz); omega)
    refine ⟨⟨wof a, wof b, wof c, wof d, wof e⟩, ?_⟩
    simp only [List.map, ← hb a (by simp), ← hb b (by simp), ← hb c (by simp), ← hb d (by simp), ← hb e (by simp)]
theorem open_pair {H : Type} {enc : TypeId × Value → H} {W : World} {base : Nat} {v : Value} {d : DataW H} {p : List MemPlace} (hv : Value.okWide Try.prog W .any base 30 v) (h : DataW.Trod enc Try.prog W 0 (fun _ => true) true 30 v d p) :
    ∃ (x y : St) (r n : Int) (s : ByteArray), s.size ≤ maxLen ∧ v = .agg #[.int .u64 (wv x.a), .int .u64 (wv x.b), .int .u64 (wv x.c), .int .u64 (wv x.d), .int .u64 (wv x.e), .int .u64 (wv y.a), .int .u64 (wv y.b), .int .u64 (wv y.c), .int .u64 (wv y.d), .int .u64 (wv y.e), .int .i64 r, .int .i64 n, .string s] := by
  have c22 : Try.prog.cellsOf 22 = 1 := by kernel_rfl
  have c23 : Try.prog.cellsOf 23 = 5 := by kernel_rfl
  have c3 : Try.prog.cellsOf 3 = 1 := by kernel_rfl
  have c9 : Try.prog.cellsOf 9 = 1 := by kernel_rfl
  have c30 : Try.prog.cellsOf 30 = 13 := by kernel_rfl
  obtain ⟨cs, rfl, hsz⟩ := okWide_struct Try.underlying30 hv
  obtain ⟨fuel, hf⟩ := h
  obtain ⟨xs, m, rfl, hx, hl, hlen, hget⟩ := DataW.trod_struct Try.underlying30 hf
  have hlen' : xs.length = 5 := hlen
  have g0 := (hget 0 _ rfl).trans (List.getElem?_eq_getElem (by omega))
  have g1 := (hget 1 _ rfl).trans (List.getElem?_eq_getElem (by omega))
  have g2 := (hget 2 _ rfl).trans (List.getElem?_eq_getElem (by omega))
  have g3 := (hget 3 _ rfl).trans (List.getElem?_eq_getElem (by omega))
  have g4 := (hget 4 _ rfl).trans (List.getElem?_eq_getElem (by omega))
  obtain ⟨z0, l0, q0, w0⟩ := trod_ints Try.underlying23 Try.underlying22 c22 c23 g0
  obtain ⟨z1, l1, q1, w1⟩ := trod_ints Try.underlying23 Try.underlying22 c22 c23 g1
  obtain ⟨r, q2, -, -⟩ := DataW.trod_int Try.underlying3 g2
  obtain ⟨n, q3, -, -⟩ := DataW.trod_int Try.underlying3 g3
  obtain ⟨s, q4, -, hs⟩ := DataW.trod_string Try.underlying9 g4
  obtain ⟨x, hx0⟩ := st_of z0 l0 w0
  obtain ⟨y, hy0⟩ := st_of z1 l1 w1
  rw [hx0] at q0
  rw [hy0] at q1
  rw [c30] at hl
  refine ⟨x, y, r, n, s, hs, ?_⟩
  congr 1
  apply Array.ext'
  change cs.toList = _
  have hl' : cs.toList.length = 13 := by simpa [Value.cells] using hl
  have e0 : (cs.toList.drop 0).take (Try.prog.cellsOf 23) = _ := q0
  rw [c23] at e0
  have e1 : (cs.toList.drop 5).take (Try.prog.cellsOf 23) = _ := q1
  rw [c23] at e1
  have e2 : (cs.toList.drop 10).take (Try.prog.cellsOf 3) = _ := q2
  rw [c3] at e2
  have e3 : (cs.toList.drop 11).take (Try.prog.cellsOf 3) = _ := q3
  rw [c3] at e3
  have e4 : (cs.toList.drop 12).take (Try.prog.cellsOf 9) = _ := q4
  rw [c9] at e4
  clear q0 q1 q2 q3 q4 hget g0 g1 g2 g3 g4 hf hv
  generalize cs.toList = l at hl' e0 e1 e2 e3 e4
  match l, hl' with
  | [k0, k1, k2, k3, k4, k5, k6, k7, k8, k9, k10, k11, k12], _ =>
    simp at e0 e1 e2 e3 e4
    simp [e0, e1, e2, e3, e4]
end Go.Proofs.Ytfiajfjaamfeoaa
