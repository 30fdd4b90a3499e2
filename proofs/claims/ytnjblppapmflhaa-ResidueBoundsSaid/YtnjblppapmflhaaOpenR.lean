/- What the reading of an argument tells of its value: a slice of words. -/
import Derived.Test.YtnjblppapmflhaaOpenW
namespace Go.Proofs.Ytnjblppapmflhaa
set_option linter.all false
open Go.RowKit Go.WideShapes Go.ChangeShapes
set_option maxRecDepth 100000 in
theorem open_words {H : Type} {enc : TypeId × Value → H} {W : World} {base : Nat} {v : Value} {d : DataW H} {p : List MemPlace} (hv : Value.okWide Try.prog W .any base 22 v) (h : DataW.Trod enc Try.prog W 0 (fun _ => true) true 22 v d p) :
    ∃ l : List Nat, W.reads W.heap.size v (l.map u32V) ∧ ∀ q ∈ l, q < 4294967296 := by
  obtain ⟨a, len, cap, rfl⟩ := WideShapes.okWide_slice Try.underlying22 hv
  obtain ⟨fuel, hf⟩ := h
  obtain ⟨v, l, hcs, hr, hl⟩ := trod_reads32 Try.underlying22 Try.underlying23 (by kernel_rfl) hf
  simp [Value.cells] at hcs
  subst hcs
  exact ⟨l, hr, hl⟩
end Go.Proofs.Ytnjblppapmflhaa
