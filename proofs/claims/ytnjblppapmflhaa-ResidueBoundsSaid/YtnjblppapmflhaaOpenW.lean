/- What the reading of an argument tells of its value: a form. -/
import Derived.Test.YtnjblppapmflhaaRows
import Derived.Test.YtnjblppapmflhaaOpenG
import Derived.WideShapes
namespace Go.Proofs.Ytnjblppapmflhaa
set_option linter.all false
open Go.RowKit Go.WideShapes Go.ChangeShapes
set_option maxRecDepth 100000 in
theorem open_wide {H : Type} {enc : TypeId × Value → H} {W : World} {base : Nat} {v : Value} {d : DataW H} {p : List MemPlace} (hv : Value.okWide Try.prog W .any base 38 v) (h : DataW.Trod enc Try.prog W 0 (fun _ => true) true 38 v d p) :
    ∃ (neg : Bool) (s : ByteArray), v = .agg #[.bool neg, .string s] ∧ s.size ≤ maxLen := by
  have cA : Try.prog.cellsOf 38 = 2 := by kernel_rfl
  have cS : Try.prog.cellsOf 9 = 1 := by kernel_rfl
  have cB : Try.prog.cellsOf 4 = 1 := by kernel_rfl
  obtain ⟨cs, rfl, hsz⟩ := okWide_struct Try.underlying38 hv
  obtain ⟨fuel, hf⟩ := h
  have hl : cs.toList.length = 2 := by rw [cA] at hsz; simpa using hsz
  obtain ⟨x0, x1, hx⟩ : ∃ x0 x1, cs = #[x0, x1] := by
    match hcs : cs.toList, hl with
    | [a, b], _ => exact ⟨a, b, Array.toList_inj.1 (by rw [hcs])⟩
  subst hx
  obtain ⟨_, _, f0⟩ := trod_field Try.underlying38 hf 0 _ rfl
  obtain ⟨_, _, f1⟩ := trod_field Try.underlying38 hf 1 _ rfl
  obtain ⟨z0, e0, -⟩ := DataW.trod_bool Try.underlying4 f0
  obtain ⟨z1, e1, -, w1⟩ := DataW.trod_string Try.underlying9 f1
  simp [cB, cS, Value.cells] at e0 e1
  subst e0 e1
  exact ⟨z0, z1, rfl, w1⟩
end Go.Proofs.Ytnjblppapmflhaa
