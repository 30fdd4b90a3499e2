/- A case as an argument. -/
import Derived.Test.YtpcpgmgpkegjlaaRows
import Derived.Test.YtpcpgmgpkegjlaaOpenG
import Derived.Test.YtpcpgmgpkegjlaaGE1
import Derived.WideShapes
namespace Go.Proofs.Ytpcpgmgpkegjlaa
open Go.RowKit Go.WideShapes
theorem open_case {H : Type} {enc : TypeId × Value → H} {W : World} {base : Nat} {v : Value} {d : DataW H} {p : List MemPlace} (hv : Value.okWide Try.prog W .any base 31 v) (h : DataW.Trod enc Try.prog W 0 (fun _ => true) true 31 v d p) :
    ∃ c : Case, v = .agg c.cells ∧ c.reads W.heap.size W ∧ (∀ q ∈ c.chain, q < 4294967296) ∧ (∀ r ∈ c.xs, ∀ q ∈ r, q < 4294967296) ∧ (∀ r ∈ c.ys, ∀ q ∈ r, q < 4294967296) ∧ (∀ r ∈ c.ls, ∀ z ∈ r, (Lit.int .i64 z).wf = true) ∧
      (Lit.int .i64 c.width).wf = true ∧ (Lit.int .i64 c.i).wf = true ∧ (Lit.int .i64 c.level).wf = true ∧ (Lit.int .i64 c.N).wf = true ∧ (Lit.int .i64 c.la).wf = true ∧ (Lit.int .i64 c.lb).wf = true ∧ c.sp < 4294967296 := by
  have c25 : Try.prog.cellsOf 25 = 7 := by kernel_rfl
  have c28 : Try.prog.cellsOf 28 = 3 := by kernel_rfl
  have c31 : Try.prog.cellsOf 31 = 17 := by kernel_rfl
  have c22 : Try.prog.cellsOf 22 = 1 := by kernel_rfl
  have c23 : Try.prog.cellsOf 23 = 1 := by kernel_rfl
  have c26 : Try.prog.cellsOf 26 = 1 := by kernel_rfl
  have c29 : Try.prog.cellsOf 29 = 1 := by kernel_rfl
  have c45 : Try.prog.cellsOf 45 = 1 := by kernel_rfl
  have c2 : Try.prog.cellsOf 2 = 1 := by kernel_rfl
  have c3 : Try.prog.cellsOf 3 = 1 := by kernel_rfl
  have c4 : Try.prog.cellsOf 4 = 1 := by kernel_rfl
  obtain ⟨cs, rfl, hsz⟩ := okWide_struct Try.underlying31 hv
  obtain ⟨fuel, hf⟩ := h
  have hl' : cs.toList.length = 17 := by rw [c31] at hsz; simpa using hsz
  obtain ⟨_, _, hP⟩ := trod_field Try.underlying31 hf 0 _ rfl
  obtain ⟨_, _, h1⟩ := trod_field Try.underlying31 hf 1 _ rfl
  obtain ⟨_, _, hA⟩ := trod_field Try.underlying31 hf 2 _ rfl
  obtain ⟨_, _, hB⟩ := trod_field Try.underlying31 hf 3 _ rfl
  obtain ⟨_, _, h4⟩ := trod_field Try.underlying31 hf 4 _ rfl
  obtain ⟨_, _, h5⟩ := trod_field Try.underlying31 hf 5 _ rfl
  obtain ⟨_, _, h6⟩ := trod_field Try.underlying31 hf 6 _ rfl
  obtain ⟨_, _, p0⟩ := trod_field Try.underlying25 hP 0 _ rfl
  obtain ⟨_, _, p1⟩ := trod_field Try.underlying25 hP 1 _ rfl
  obtain ⟨_, _, p2⟩ := trod_field Try.underlying25 hP 2 _ rfl
  obtain ⟨_, _, p3⟩ := trod_field Try.underlying25 hP 3 _ rfl
  obtain ⟨_, _, p4⟩ := trod_field Try.underlying25 hP 4 _ rfl
  obtain ⟨_, _, p5⟩ := trod_field Try.underlying25 hP 5 _ rfl
  obtain ⟨_, _, p6⟩ := trod_field Try.underlying25 hP 6 _ rfl
  obtain ⟨_, _, a0⟩ := trod_field Try.underlying28 hA 0 _ rfl
  obtain ⟨_, _, a1⟩ := trod_field Try.underlying28 hA 1 _ rfl
  obtain ⟨_, _, a2⟩ := trod_field Try.underlying28 hA 2 _ rfl
  obtain ⟨_, _, b0⟩ := trod_field Try.underlying28 hB 0 _ rfl
  obtain ⟨_, _, b1⟩ := trod_field Try.underlying28 hB 1 _ rfl
  obtain ⟨_, _, b2⟩ := trod_field Try.underlying28 hB 2 _ rfl
  obtain ⟨N, e0, -, w0⟩ := DataW.trod_int Try.underlying3 p0
  obtain ⟨pr, e1, -, -⟩ := DataW.trod_int Try.underlying22 p1
  obtain ⟨pw, e2, -, -⟩ := DataW.trod_int Try.underlying3 p2
  obtain ⟨cv, chain, e3, hchain, hcb⟩ := trod_reads32 Try.underlying23 Try.underlying22 c22 p3
  obtain ⟨sp, e4, -, w4⟩ := DataW.trod_int Try.underlying22 p4
  obtain ⟨wt, e5, -, -⟩ := DataW.trod_int Try.underlying3 p5
  obtain ⟨er, e6, -, -⟩ := DataW.trod_int Try.underlying22 p6
  obtain ⟨width, e7, -, w7⟩ := DataW.trod_int Try.underlying3 h1
  obtain ⟨la, e8, -, w8⟩ := DataW.trod_int Try.underlying3 a0
  obtain ⟨sa, e9, -⟩ := DataW.trod_bool Try.underlying4 a1
  obtain ⟨av, xs, e10, hxs, hxb⟩ := trod_rows32 Try.underlying26 Try.underlying23 Try.underlying22 c23 c22 a2
  obtain ⟨lb, e11, -, w11⟩ := DataW.trod_int Try.underlying3 b0
  obtain ⟨sb, e12, -⟩ := DataW.trod_bool Try.underlying4 b1
  obtain ⟨bv, ys, e13, hys, hyb⟩ := trod_rows32 Try.underlying26 Try.underlying23 Try.underlying22 c23 c22 b2
  obtain ⟨i, e14, -, w14⟩ := DataW.trod_int Try.underlying3 h4
  obtain ⟨level, e15, -, w15⟩ := DataW.trod_int Try.underlying3 h5
  obtain ⟨lw, ls, e16, hls, hlb⟩ := trod_rows Try.underlying29 Try.underlying45 Try.underlying2 c45 c2 h6
  have hsp := bounds_u32 w4
  refine ⟨⟨N, pr, pw, wt, er, width, la, lb, i, level, cv, av, bv, lw, sa, sb, chain, sp.toNat, xs, ys, ls⟩, ?_, ⟨hchain, hxs, hys, hls⟩, hcb, hxb, hyb, hlb, w7, w14, w15, w0, w8, w11, by show sp.toNat < _; omega⟩
  unfold Case.cells
  have hsn : ((sp.toNat : Nat) : Int) = sp := by omega
  simp only [hsn]
  congr 1
  apply Array.ext'
  simp only [Value.cells] at e0 e1 e2 e3 e4 e5 e6 e7 e8 e9 e10 e11 e12 e13 e14 e15 e16
  clear hP h1 hA hB h4 h5 h6 p0 p1 p2 p3 p4 p5 p6 a0 a1 a2 b0 b1 b2 hf hv
  generalize cs.toList = l at *
  match l, hl' with
  | [k0, k1, k2, k3, k4, k5, k6, k7, k8, k9, k10, k11, k12, k13, k14, k15, k16], _ =>
    simp [c25, c28, c22, c23, c26, c29, c3, c4] at e0 e1 e2 e3 e4 e5 e6 e7 e8 e9 e10 e11 e12 e13 e14 e15 e16
    simp [e0, e1, e2, e3, e4, e5, e6, e7, e8, e9, e10, e11, e12, e13, e14, e15, e16]
end Go.Proofs.Ytpcpgmgpkegjlaa
