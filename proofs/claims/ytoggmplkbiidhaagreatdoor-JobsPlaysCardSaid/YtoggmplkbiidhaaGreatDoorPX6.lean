/- Helpers and walks, in one text. -/
import Derived.Test.YtoggmplkbiidhaaGreatDoorPX5
import Derived.Test.YtoggmplkbiidhaaGreatDoorRows
import Derived.WideShapes
import Derived.LaidMore
import Derived.ProofKit
import Derived.Stop.Joined
set_option linter.all false
set_option maxRecDepth 100000
set_option maxHeartbeats 40000000
/- What the reading of an argument tells of its value: the acts of the jobs' laws; the table of readers. -/
namespace Go.Proofs.YtoggmplkbiidhaaGreatDoor
section
open Go.RowKit Go.WideShapes Go.ChangeShapes
theorem six_take (cs : List Value) (h : cs.length = 6) : ∃ a b c d e f, cs = [a, b, c, d, e, f] := by
 match cs, h with
 | [a, b, c, d, e, f], _ => exact ⟨a, b, c, d, e, f, rfl⟩
def listOf (s : ByteArray) : List UInt8 := s.data.toList
theorem bytesOf_listOf (s : ByteArray) : bytesOf (listOf s) = s := by
 apply ByteArray.ext
 simp [bytesOf, listOf]
theorem open_jacts {H : Type} {enc : TypeId × Value → H} {W : World} {base : Nat} {v : Value} {d : DataW H} {p : List MemPlace} (hv : Value.okWide Tryz.prog W .any base 22 v) (h : DataW.Trod enc Tryz.prog W 0 (fun _ => true) true 22 v d p) :
  ∃ (l : List JAct) (a : Option Addr) (cap : Nat), v = .slice a l.length cap ∧ l.length ≤ maxLen ∧ JActsAt W W.heap.size a l := by
 have cA : Tryz.prog.cellsOf 40 = 6 := by kernel_rfl
 have cS : Tryz.prog.cellsOf 9 = 1 := by kernel_rfl
 have c3 : Tryz.prog.cellsOf 3 = 1 := by kernel_rfl
 have c2 : Tryz.prog.cellsOf 2 = 1 := by kernel_rfl
 have c5 : Tryz.prog.cellsOf 5 = 1 := by kernel_rfl
 obtain ⟨a, len, cap, rfl⟩ := WideShapes.okWide_slice Tryz.underlying22 hv
 obtain ⟨fuel, hf⟩ := h
 rcases DataW.trod_slice Tryz.underlying22 hf with ⟨hcs, _⟩ | ⟨ad, len', cap', elems, rest, n, -, hcs, -, -, hl, hm, hel, hget, -, -⟩
 ·simp [Value.cells] at hcs
  obtain ⟨rfl, rfl, rfl⟩ := hcs
  exact ⟨[], none, 0, rfl, by simp, fun j x hj => by simp at hj⟩
 ·simp [Value.cells] at hcs
  obtain ⟨rfl, rfl, rfl⟩ := hcs
  have key : ∀ i, i < len → ∃ x : JAct, ∃ b off, ad = ⟨b, off, none⟩ ∧ b < W.heap.size ∧ JActAt W b (off + i * 6) x ∧ x.wf := by
   intro i hi
   have had : ∃ b off, ad = ⟨b, off, none⟩ ∧ b < W.heap.size := by
    have hg0 := hget 0 (by omega)
    rw [List.getElem?_eq_getElem (show 0 < elems.length by omega), cA] at hg0
    obtain ⟨cs0, hcs0, -⟩ := Option.bind_eq_some_iff.1 hg0
    obtain ⟨-, hlen0, hcell0⟩ := World.cells?_some hcs0
    obtain ⟨y0, y1, y2, y3, y4, y5, rfl⟩ := six_take cs0 hlen0
    have := hcell0 0 (by omega)
    have e : ad.add (0 * 6) = ad := by unfold Addr.add; simp
    rw [e] at this
    exact addr_none (v := y0) (this.trans rfl)
   have hg := hget i hi
   rw [List.getElem?_eq_getElem (by omega), cA] at hg
   obtain ⟨cs, hcs, htr⟩ := Option.bind_eq_some_iff.1 hg
   obtain ⟨-, hlen, hcell⟩ := World.cells?_some hcs
   obtain ⟨x0, x1, x2, x3, x4, x5, rfl⟩ := six_take cs hlen
   obtain ⟨_, _, f0⟩ := trod_field Tryz.underlying40 htr 0 _ rfl
   obtain ⟨_, _, f1⟩ := trod_field Tryz.underlying40 htr 1 _ rfl
   obtain ⟨_, _, f2⟩ := trod_field Tryz.underlying40 htr 2 _ rfl
   obtain ⟨_, _, f3⟩ := trod_field Tryz.underlying40 htr 3 _ rfl
   obtain ⟨_, _, f4⟩ := trod_field Tryz.underlying40 htr 4 _ rfl
   obtain ⟨_, _, f5⟩ := trod_field Tryz.underlying40 htr 5 _ rfl
   obtain ⟨z0, e0, -, w0⟩ := DataW.trod_int Tryz.underlying5 f0
   obtain ⟨z1, e1, -, w1⟩ := DataW.trod_int Tryz.underlying2 f1
   obtain ⟨z2, e2, -, w2⟩ := DataW.trod_int Tryz.underlying3 f2
   obtain ⟨z3, e3, -, w3⟩ := DataW.trod_string Tryz.underlying9 f3
   obtain ⟨z4, e4, -, w4⟩ := DataW.trod_string Tryz.underlying9 f4
   obtain ⟨z5, e5, -, w5⟩ := DataW.trod_string Tryz.underlying9 f5
   have g0 := hcell 0 (by omega)
   have g1 := hcell 1 (by omega)
   have g2 := hcell 2 (by omega)
   have g3 := hcell 3 (by omega)
   have g4 := hcell 4 (by omega)
   have g5 := hcell 5 (by omega)
   obtain ⟨b, off, rfl, -⟩ := had
   rw [add_none, add_none] at g0 g1 g2 g3 g4 g5
   simp [c5, c3, c2, cS] at e0 e1 e2 e3 e4 e5
   simp at g0 g1 g2 g3 g4 g5
   subst e0 e1 e2 e3 e4 e5
   have b0 := bounds_u8 w0
   have b1 := bounds_i64 w1
   have b2 := bounds_i64 w2
   have hz0 : ((z0.toNat : Nat) : Int) = z0 := Int.toNat_of_nonneg (by omega)
   refine ⟨⟨z0.toNat, z1, z2, listOf z3, listOf z4, listOf z5⟩, b, off, rfl, World.block_lt_of_cell? W ⟨b, off + i * 6, none⟩ g0, ⟨by rw [hz0]; exact g0, g1, g2, by rw [bytesOf_listOf]; exact g3, by rw [bytesOf_listOf]; exact g4, by rw [bytesOf_listOf]; exact g5⟩, ⟨by show z0.toNat < 256; omega, b1, b2⟩⟩
  have hch : ∃ f : Nat → JAct, ∀ i, i < len → ∃ b off, ad = ⟨b, off, none⟩ ∧ b < W.heap.size ∧ JActAt W b (off + i * 6) (f i) ∧ (f i).wf :=
   ⟨fun i => if h : i < len then Classical.choose (key i h) else ⟨0, 0, 0, [], [], []⟩, fun i hi => by simpa only [dif_pos hi] using Classical.choose_spec (key i hi)⟩
  obtain ⟨f, hf2⟩ := hch
  refine ⟨(List.range len).map f, some ad, cap, by simp, by simp; omega, fun j x hj => ?_⟩
  have hjl : j < len := by
   have := (List.getElem?_eq_some_iff.1 hj).1
   simpa using this
  obtain rfl : x = f j := by simpa [hjl] using hj.symm
  obtain ⟨b, off, h1, h2, h3, h4⟩ := hf2 j hjl
  exact ⟨b, off, by rw [h1], h2, h3, h4⟩
end
/- What the row's condition on the table of readers gives the walks. -/
section
open Go.RowKit Go.WideShapes Go.ChangeShapes
def laid1 : List (String × DataW Unit) := [("obscura/jobs.readers", Rows.laid_obscura_jobs_readers)]
theorem gReaders : Tryz.prog.globalNamed "obscura/jobs.readers" = some 0 := by kernel_rfl
theorem tReaders : (Tryz.prog.globals[0]?).map (·.type) = some 125 := by kernel_rfl
theorem cellsF : Tryz.prog.cellsOf 124 = 1 := by kernel_rfl
theorem cellsA : Tryz.prog.cellsOf 125 = 7 := by kernel_rfl
theorem of_laid {W : World} (h : laidMetH Tryz.prog laid1 W) : TabAt W := by
 obtain ⟨g, t, cs, fuel, p, hg, ht, hv, hd⟩ := h.funcs (List.mem_singleton.2 rfl)
 obtain rfl := Option.some.inj (gReaders.symm.trans hg)
 obtain rfl := Option.some.inj (tReaders.symm.trans ht)
 obtain ⟨xs, m, hfu, hx, hl, hxl, hel⟩ := DataW.trod_array Tryz.underlying125 hd
 have hmap : xs.map (·.1) = [DataW.nil, .held [111, 98, 115, 99, 117, 114, 97, 47, 106, 111, 98, 115, 46, 114, 101, 97, 100, 101, 114, 115, 36, 49], .held [111, 98, 115, 99, 117, 114, 97, 47, 106, 111, 98, 115, 46, 114, 101, 97, 100, 101, 114, 115, 36, 50], .held [111, 98, 115, 99, 117, 114, 97, 47, 106, 111, 98, 115, 46, 114, 101, 97, 100, 101, 114, 115, 36, 51], .held [111, 98, 115, 99, 117, 114, 97, 47, 106, 111, 98, 115, 46, 114, 101, 97, 100, 101, 114, 115, 36, 52], .held [111, 98, 115, 99, 117, 114, 97, 47, 106, 111, 98, 115, 46, 114, 101, 97, 100, 101, 114, 115, 36, 53], .held [111, 98, 115, 99, 117, 114, 97, 47, 106, 111, 98, 115, 46, 114, 101, 97, 100, 101, 114, 115, 36, 54]] := by
  injection hx with hx _
  injection hx with hx
  exact hx.symm
 rw [cellsA] at hl
 have key : ∀ i nm, (xs.map (·.1))[i]? = some (.held nm) → ∃ v m q, W.cell? ⟨0, i, none⟩ = some v ∧ DataW.trod (funcToken Tryz.prog) Tryz.prog W 0 (fun _ => true) true m 124 [v] = some (.held nm, q) := fun i nm hi => by
  rw [List.getElem?_map] at hi
  cases hy : xs[i]? with
  | none => rw [hy] at hi; cases hi
  | some y =>
   rw [hy] at hi
   have hi7 : i < 7 := by have := (List.getElem?_eq_some_iff.1 hy).1; omega
   have he := hel i hi7
   rw [cellsF, Nat.mul_one, hy] at he
   have hc : (cs.toList.drop i).take 1 = [cs.toList[i]'(by omega)] := by
    rw [List.drop_eq_getElem_cons (by omega)]; rfl
   rw [hc] at he
   refine ⟨_, m, y.2, ?_, he.trans ?_⟩
   ·rw [World.var?_cell gReaders hv i]
    rw [← Array.getElem?_toList, List.getElem?_eq_getElem (by omega)]
   ·have : y.1 = .held nm := by simpa using hi
    rw [← this]
 obtain ⟨v1, m1, q1, hc1, hr1⟩ := key 1 _ (by rw [hmap]; rfl)
 obtain rfl := Go.func_of_trod (f0 := 141) Tryz.underlying124 (by kernel_rfl) hr1
 obtain ⟨v2, m2, q2, hc2, hr2⟩ := key 2 _ (by rw [hmap]; rfl)
 obtain rfl := Go.func_of_trod (f0 := 143) Tryz.underlying124 (by kernel_rfl) hr2
 obtain ⟨v3, m3, q3, hc3, hr3⟩ := key 3 _ (by rw [hmap]; rfl)
 obtain rfl := Go.func_of_trod (f0 := 144) Tryz.underlying124 (by kernel_rfl) hr3
 obtain ⟨v4, m4, q4, hc4, hr4⟩ := key 4 _ (by rw [hmap]; rfl)
 obtain rfl := Go.func_of_trod (f0 := 145) Tryz.underlying124 (by kernel_rfl) hr4
 obtain ⟨v5, m5, q5, hc5, hr5⟩ := key 5 _ (by rw [hmap]; rfl)
 obtain rfl := Go.func_of_trod (f0 := 146) Tryz.underlying124 (by kernel_rfl) hr5
 obtain ⟨v6, m6, q6, hc6, hr6⟩ := key 6 _ (by rw [hmap]; rfl)
 obtain rfl := Go.func_of_trod (f0 := 147) Tryz.underlying124 (by kernel_rfl) hr6
 intro k h1 h6
 obtain rfl | rfl | rfl | rfl | rfl | rfl : k = 1 ∨ k = 2 ∨ k = 3 ∨ k = 4 ∨ k = 5 ∨ k = 6 := by omega
 ·exact hc1
 ·exact hc2
 ·exact hc3
 ·exact hc4
 ·exact hc5
 ·exact hc6
theorem door_met (os : Os) (args : Array Value) : laidMetH Tryz.prog laid1 ((World.doorLaid Tryz.prog 600 os).forCall (fun _ _ => 0) ⟨#[], args, []⟩).memory :=
 laidMetH_of_parts3 (fuel := 8) (laidMet_of_run' 8 (by kernel_rfl) (by kernel_rfl)) (by kernel_rfl) (by kernel_rfl)
end
end Go.Proofs.YtoggmplkbiidhaaGreatDoor
