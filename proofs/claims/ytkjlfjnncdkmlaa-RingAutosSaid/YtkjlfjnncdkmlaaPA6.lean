/- Helpers and walks, in one text. -/
import Derived.Test.YtkjlfjnncdkmlaaPA5
import Derived.ProofKit
import Derived.OpenShut
import Derived.ShutString
import Derived.ChangeOld
import Derived.SliceStrings
import Derived.Deep.Matrix
import Derived.WideShapes
/- Cases in a box; plain: what is restricted behind a product. -/
namespace Go.Proofs.Ytkjlfjnncdkmlaa.G
set_option linter.all false
open Go.RowKit Go.Shelf Go.BigFrame
theorem case_cells {W : World} {b : Nat} {u0 u1 u2 u3 u4 u5 u6 u7 u8 u9 u10 u11 u12 u13 u14 u15 u16 u17 : Value} {t : TypeId} (h : W.heap[b]? = some (.cells #[u0, u1, u2, u3, u4, u5, u6, u7, u8, u9, u10, u11, u12, u13, u14, u15, u16, u17] t)) :
    W.cell? ⟨b, 0, none⟩ = some u0 ∧ W.cell? ⟨b, 1, none⟩ = some u1 ∧ W.cell? ⟨b, 2, none⟩ = some u2 ∧ W.cell? ⟨b, 3, none⟩ = some u3 ∧ W.cell? ⟨b, 4, none⟩ = some u4 ∧ W.cell? ⟨b, 5, none⟩ = some u5 ∧ W.cell? ⟨b, 6, none⟩ = some u6 ∧ W.cell? ⟨b, 7, none⟩ = some u7 ∧ W.cell? ⟨b, 8, none⟩ = some u8 ∧ W.cell? ⟨b, 9, none⟩ = some u9 ∧ W.cell? ⟨b, 10, none⟩ = some u10 ∧ W.cell? ⟨b, 11, none⟩ = some u11 ∧ W.cell? ⟨b, 12, none⟩ = some u12 ∧ W.cell? ⟨b, 13, none⟩ = some u13 ∧ W.cell? ⟨b, 14, none⟩ = some u14 ∧ W.cell? ⟨b, 15, none⟩ = some u15 ∧ W.cell? ⟨b, 16, none⟩ = some u16 ∧ W.cell? ⟨b, 17, none⟩ = some u17 := by
  refine ⟨?_, ?_, ?_, ?_, ?_, ?_, ?_, ?_, ?_, ?_, ?_, ?_, ?_, ?_, ?_, ?_, ?_, ?_⟩ <;> simp [World.cell?, h]
theorem twoB_of {N : Int} {chain : List Nat} {sp : Nat} {la : Int} {sa : Bool} {xs ys : List (List Nat)} (h1 : checkB N chain sp la sa xs = true) (h2 : checkB N chain sp la sa ys = true) : true = twoB N chain sp la la sa sa xs ys := by
  unfold twoB; rw [h1, h2]; simp
theorem and_of {a b : Bool} (h : true = (a && b)) : a = true ∧ b = true := by
  have := h.symm; rwa [Bool.and_eq_true] at this
theorem restricts_plain {N la lb level : Int} {chain : List Nat} {sp : Nat} {sa sb s : Bool} {xs ys : List (List Nat)} (h1 : true = twoB N chain sp la lb sa sb xs ys) (h2 : true = (checkB N chain sp la sa xs && resB2 la sa level s)) (h3 : true = (checkB N chain sp lb sb ys && resB2 lb sb level s)) :
    true = (checkB N chain sp la sa (zipRows (prodRow N.toNat) (modl chain sp la.toNat sa) xs ys (modl chain sp la.toNat sa).length) && resB2 la sa level s) ∧
    true = twoB N chain sp level level s s (resRows la.toNat level.toNat s xs) (resRows lb.toNat level.toNat s ys) ∧
    resRows la.toNat level.toNat s (zipRows (prodRow N.toNat) (modl chain sp la.toNat sa) xs ys (modl chain sp la.toNat sa).length) = zipRows (prodRow N.toNat) (modl chain sp level.toNat s) (resRows la.toNat level.toNat s xs) (resRows lb.toNat level.toNat s ys) (modl chain sp level.toNat s).length := by
  obtain ⟨rfl, rfl, k1, k2⟩ := twoB_parts h1.symm
  obtain ⟨-, r1⟩ := and_of h2
  have hc := checkB_zip k1 (prodRow N.toNat) xs ys fun q hq a b => prodRow_ok N.toNat q hq a b
  refine ⟨by rw [hc, r1]; rfl, twoB_of (checkB_res k1 r1) (checkB_res k2 r1), ?_⟩
  obtain ⟨-, -, -, e1, -, e2, -, -, e3, -⟩ := checkB_spec k1
  obtain ⟨-, -, -, -, -, -, -, -, e4, -⟩ := checkB_spec k2
  unfold resB2 at r1
  simp only [Bool.and_eq_true, decide_eq_true_eq, Bool.or_eq_true, Bool.not_eq_true'] at r1
  obtain ⟨⟨r2, r3⟩, r4⟩ := r1
  exact (el_res (prodRow N.toNat) chain sp la.toNat level.toNat sa s (by omega) e2 (fun hs => r4.elim (fun r4 => by rw [hs] at r4; cases r4) id) xs ys e3.1 e4.1).symm
end Go.Proofs.Ytkjlfjnncdkmlaa.G

/- Plain: automorphisms, as the law asks. -/
namespace Go.Proofs.Ytkjlfjnncdkmlaa.G
set_option linter.all false
theorem autB_spec {N k : Int} (h : autB N k = true) : 1 ≤ k ∧ k < 2 * N ∧ ((k.toNat : Nat) : Int) = k ∧ k.toNat % 2 = 1 := by
  unfold autB at h
  simp only [Bool.and_eq_true, decide_eq_true_eq] at h
  omega
theorem autos_plain {N la lb kk : Int} {chain : List Nat} {sp : Nat} {sa sb : Bool} {xs ys : List (List Nat)} (h1 : true = (checkB N chain sp la sa xs && autB N kk)) (h2 : true = (checkB N chain sp lb sb ys && autB N kk)) (h3 : true = twoB N chain sp la lb sa sb xs ys) :
    true = (checkB N chain sp la sa (zipRows (prodRow N.toNat) (modl chain sp la.toNat sa) xs ys (modl chain sp la.toNat sa).length) && autB N kk) ∧
    true = twoB N chain sp la lb sa sb (zipRows (autR N.toNat kk.toNat) (modl chain sp la.toNat sa) xs xs (modl chain sp la.toNat sa).length) (zipRows (autR N.toNat kk.toNat) (modl chain sp lb.toNat sb) ys ys (modl chain sp lb.toNat sb).length) ∧
    zipRows (autR N.toNat kk.toNat) (modl chain sp la.toNat sa) (zipRows (prodRow N.toNat) (modl chain sp la.toNat sa) xs ys (modl chain sp la.toNat sa).length) (zipRows (prodRow N.toNat) (modl chain sp la.toNat sa) xs ys (modl chain sp la.toNat sa).length) (modl chain sp la.toNat sa).length =
    zipRows (prodRow N.toNat) (modl chain sp la.toNat sa) (zipRows (autR N.toNat kk.toNat) (modl chain sp la.toNat sa) xs xs (modl chain sp la.toNat sa).length) (zipRows (autR N.toNat kk.toNat) (modl chain sp lb.toNat sb) ys ys (modl chain sp lb.toNat sb).length) (modl chain sp la.toNat sa).length := by
  obtain ⟨rfl, rfl, k1, k2⟩ := twoB_parts h3.symm
  obtain ⟨-, r1⟩ := and_of h1
  have hc := checkB_zip k1 (prodRow N.toNat) xs ys fun q hq a b => prodRow_ok N.toNat q hq a b
  obtain ⟨e1, -, -, -, -, -, -, e2, -, -⟩ := checkB_spec k1
  obtain ⟨-, -, -, a4⟩ := autB_spec r1
  refine ⟨by rw [hc, r1]; rfl, twoB_of (checkB_zip k1 _ xs xs fun q hq a b => autR_ok N.toNat kk.toNat q hq a b) (checkB_zip k1 _ ys ys fun q hq a b => autR_ok N.toNat kk.toNat q hq a b), ?_⟩
  exact el_aut (fun q hq => by have := e2 q hq; omega) (by omega) a4 xs ys _ _ _
theorem tmod_pos {a b : Nat} : (a : Int).tmod (b : Int) = ((a % b : Nat) : Int) := by
  rw [Int.tmod_eq_emod_of_nonneg (by omega)]; simp
theorem autos2_plain {N la kk l : Int} {chain : List Nat} {sp : Nat} {sa : Bool} {xs : List (List Nat)} (h1 : true = (checkB N chain sp la sa xs && autB N kk))
    (h2 : true = (checkB N chain sp la sa (zipRows (autR N.toNat kk.toNat) (modl chain sp la.toNat sa) xs xs (modl chain sp la.toNat sa).length) && autB N l)) :
    4 ≤ N ∧ N ≤ 32 ∧ 1 ≤ kk ∧ kk ≤ 64 ∧ 1 ≤ l ∧ l ≤ 64 ∧ IntKind.i64.wrap (kk * l) = kk * l ∧ 0 ≤ (kk * l).tmod (2 * N) ∧ (kk * l).tmod (2 * N) < 64 ∧
    true = (checkB N chain sp la sa xs && autB N ((kk * l).tmod (2 * N))) ∧
    zipRows (autR N.toNat ((kk * l).tmod (2 * N)).toNat) (modl chain sp la.toNat sa) xs xs (modl chain sp la.toNat sa).length =
    zipRows (autR N.toNat l.toNat) (modl chain sp la.toNat sa) (zipRows (autR N.toNat kk.toNat) (modl chain sp la.toNat sa) xs xs (modl chain sp la.toNat sa).length) (zipRows (autR N.toNat kk.toNat) (modl chain sp la.toNat sa) xs xs (modl chain sp la.toNat sa).length) (modl chain sp la.toNat sa).length := by
  obtain ⟨c1, r1⟩ := and_of h1
  obtain ⟨-, r2⟩ := and_of h2
  obtain ⟨e1, e3, e4, -, -, -, -, e2, -, -⟩ := checkB_spec c1
  obtain ⟨a1, a2, a3, a4⟩ := autB_spec r1
  obtain ⟨b1, b2, b3, b4⟩ := autB_spec r2
  obtain ⟨n, hn⟩ : ∃ n, n = N.toNat := ⟨_, rfl⟩
  obtain ⟨k, hk⟩ : ∃ n, n = kk.toNat := ⟨_, rfl⟩
  obtain ⟨m, hm⟩ : ∃ n, n = l.toNat := ⟨_, rfl⟩
  rw [← hn] at e1 e3 e4 ⊢
  rw [← hk] at a3 a4 ⊢
  rw [← hm] at b3 b4 ⊢
  have et : (kk * l).tmod (2 * N) = ((k * m % (2 * n) : Nat) : Int) := by
    rw [← a3, ← b3, ← e4, ← tmod_pos]
    congr 1
  have hml : k * m ≤ 64 * 64 := Nat.mul_le_mul (by omega) (by omega)
  have hlt : k * m % (2 * n) < 2 * n := Nat.mod_lt _ (by omega)
  have hodd : (k * m % (2 * n)) % 2 = 1 := by
    rw [Nat.mod_mul_right_mod, Nat.mul_mod, a4, b4]
  have ew : kk * l = ((k * m : Nat) : Int) := by rw [← a3, ← b3]; rfl
  rw [et]
  obtain ⟨r, hr⟩ : ∃ r, r = k * m % (2 * n) := ⟨_, rfl⟩
  have hfin := el_aut2 (n := n) (ml := modl chain sp la.toNat sa) (fun q hq => by have := e2 q hq; omega) (by omega) (k := k) (l := m) b4 xs (zipRows (autR n k) (modl chain sp la.toNat sa) xs xs (modl chain sp la.toNat sa).length) xs xs
  rw [← hr] at hlt hodd hfin ⊢
  have ha : autB N (r : Int) = true := by
    unfold autB
    simp only [Bool.and_eq_true, decide_eq_true_eq]
    omega
  refine ⟨by omega, by omega, a1, by omega, b1, by omega, ?_, by omega, by omega, by rw [c1, ha]; rfl, ?_⟩
  · rw [ew]
    exact IntWalk.i64_in _ ⟨by omega, by omega⟩
  · rw [Int.toNat_natCast]; exact hfin.symm
open Go.RowKit Go.Shelf Go.BigFrame
/-- An element is stored into a box: rows that a function made stay. -/
theorem rowsO_elem {W : World} {base q : Nat} {rs : List (List Nat)} {v u0 u1 u2 : Value} (v0 v1 v2 : Value) (h : W.rowsO u32V base 23 22 v rs) (hq : W.heap[q]? = some (.cells #[u0, u1, u2] 28)) :
    (((W.setCell ⟨q, 0, none⟩ v0).setCell ⟨q, 1, none⟩ v1).setCell ⟨q, 2, none⟩ v2).rowsO u32V base 23 22 v rs := by
  have key : ∀ (g : Nat) (c : Array Value) (t : TypeId) (fz : Nat × Nat), W.heap[g]? = some (.cells c t fz) → t ≠ 28 → (((W.setCell ⟨q, 0, none⟩ v0).setCell ⟨q, 1, none⟩ v1).setCell ⟨q, 2, none⟩ v2).heap[g]? = W.heap[g]? := by
    intro g c t fz hg ht
    have hne : g ≠ q := by
      rintro rfl
      rw [hq] at hg
      injection hg with hg
      injection hg with _ hg _
      exact ht hg.symm
    rw [Below.heap_setCell _ _ _ _ hne, Below.heap_setCell _ _ _ _ hne, Below.heap_setCell _ _ _ _ hne]
  obtain ⟨vs, h1, h2, h3⟩ := h
  exact ⟨vs, h1, h2.keptBy fun g c fz _ hg => key g c _ fz hg (by decide), fun i r hr => by
    obtain ⟨u, k1, k2⟩ := h3 i r hr
    exact ⟨u, k1, k2.keptBy fun g c fz _ hg => key g c _ fz hg (by decide)⟩⟩
end Go.Proofs.Ytkjlfjnncdkmlaa.G

/- What the reading of an argument tells of its value. -/
namespace Go
open RowKit ChangeShapes
section
variable {H : Type} {enc : TypeId × Value → H} {P : Program} {w : World} {base : Nat} {spare : Nat → Bool} {held : Bool} {fuel : Nat} {t : TypeId} {cs : List Value} {x : DataW H × List MemPlace}
theorem okWide_array {r : Reach} {b0 n : Nat} {e : TypeId} {v : Value} (ht : P.underlying t = some (.array n e)) (h : Value.okWide P w r b0 t v) : ∃ cs, v = .agg cs ∧ cs.size = P.cellsOf t := by
  simp only [Value.okWide, ht] at h
  obtain ⟨cs, h1, h2, _⟩ := h
  exact ⟨cs, h1, h2⟩
end
end Go

/- What the reading of an argument tells of its value: slices of integers, and slices of these. -/
namespace Go
open RowKit ChangeShapes
section
variable {H : Type} {enc : TypeId × Value → H} {P : Program} {w : World} {held : Bool} {fuel : Nat} {t e q : TypeId} {cs : List Value} {x : DataW H × List MemPlace}
theorem addr_none {a : Addr} {v : Value} {w : World} (h : w.cell? (a.add 0) = some v) : ∃ b off, a = ⟨b, off, none⟩ ∧ b < w.heap.size := by
  obtain ⟨b, off, spot⟩ := a
  obtain rfl : spot = none := by
    have := World.cell?_spot h
    simpa [Addr.add] using this
  exact ⟨b, off, rfl, by have := World.block_lt_of_cell? w _ h; simpa [Addr.add] using this⟩
theorem add_none (b off j : Nat) : (⟨b, off, none⟩ : Addr).add j = ⟨b, off + j, none⟩ := by unfold Addr.add; split <;> simp_all
/-- A slice of integers. -/
theorem trod_reads {k : IntKind} (ht : P.underlying t = some (.slice e)) (he : P.underlying e = some (.int k)) (hc : P.cellsOf e = 1) (h : DataW.trod enc P w 0 (fun _ => true) held fuel t cs = some x) :
    ∃ (v : Value) (zs : List Int), cs = [v] ∧ w.reads w.heap.size v (zs.map (Value.int k)) ∧ ∀ z ∈ zs, (Lit.int k z).wf = true := by
  rcases open_ints ht he hc h with ⟨hcs, _⟩ | ⟨a, len, cap, zs, hcs, _, hl, hm, hz, _, hcell, hw⟩
  · exact ⟨_, [], hcs, reads_nil _ _, by simp⟩
  · simp only [if_true] at hz
    refine ⟨_, zs.take len, hcs, ⟨some a, cap, by simp; omega, by simp, by simp; omega, hm, fun j u hj => ?_⟩, fun z hz' => hw z (List.mem_of_mem_take hz')⟩
    have hj' : j < len ∧ j < zs.length := by
      have h1 := (List.getElem?_eq_some_iff.1 hj).1
      simp at h1; omega
    obtain ⟨b, off, rfl, hb⟩ := addr_none (hcell 0 (by omega))
    have hcj := hcell j hj'.2
    rw [add_none] at hcj
    refine ⟨b, off, rfl, hb, ?_⟩
    rw [hcj]
    simp [hj'.1, hj'.2] at hj ⊢
    exact hj
/-- A slice of slices of integers. -/
theorem trod_rows {k : IntKind} (ht : P.underlying t = some (.slice e)) (he : P.underlying e = some (.slice q)) (hq : P.underlying q = some (.int k)) (ce : P.cellsOf e = 1) (cq : P.cellsOf q = 1) (h : DataW.trod enc P w 0 (fun _ => true) held fuel t cs = some x) :
    ∃ (v : Value) (rs : List (List Int)), cs = [v] ∧ w.rows (Value.int k) w.heap.size v rs ∧ ∀ r ∈ rs, ∀ z ∈ r, (Lit.int k z).wf = true := by
  rcases Deep.open_int_rows ht he hq ce cq h with ⟨hcs, _⟩ | ⟨a, len, cap, A, L, C, Z, hcs, _, hl, hm, _, hrow⟩
  · exact ⟨_, [], hcs, ⟨[], rfl, reads_nil _ _, fun i r hr => by simp at hr⟩, by simp⟩
  · refine ⟨_, (List.range len).map fun r => (Z r).take (L r), hcs, ⟨(List.range len).map fun r => .slice (A r) (L r) (C r), by simp, ?_, fun i r hr => ?_⟩, fun r hr z hz => ?_⟩
    · refine ⟨some a, cap, by simp, by simp, by simpa using hl, hm, fun j u hj => ?_⟩
      have hj' : j < len := by
        have h1 := (List.getElem?_eq_some_iff.1 hj).1
        simpa using h1
      obtain ⟨hc0, -⟩ := hrow 0 (by omega)
      obtain ⟨hcj, -⟩ := hrow j (by omega)
      obtain ⟨b, off, rfl, hb⟩ := addr_none hc0
      rw [add_none] at hcj
      refine ⟨b, off, rfl, hb, ?_⟩
      rw [hcj]
      simpa [hj'] using hj
    · have hi : i < len := by
        have h1 := (List.getElem?_eq_some_iff.1 hr).1
        simpa using h1
      obtain ⟨-, h1, h2, h3, h4, h5, h6⟩ := hrow i (by omega)
      obtain rfl : r = (Z i).take (L i) := by simpa [hi] using hr.symm
      refine ⟨.slice (A i) (L i) (C i), by simp [hi], ?_⟩
      refine ⟨A i, C i, by simp; omega, h5, by simp; omega, h2, fun j u hj => ?_⟩
      have hj' : j < L i ∧ j < (Z i).length := by
        have h1 := (List.getElem?_eq_some_iff.1 hj).1
        simp at h1; omega
      obtain ⟨a', ha'⟩ : ∃ a', A i = some a' := by
        cases hA : A i with
        | none => have := h5 hA; omega
        | some a' => exact ⟨a', rfl⟩
      obtain ⟨-, h7⟩ := h6 a' ha'
      obtain ⟨b, off, rfl, hb⟩ := addr_none (h7 0 (by omega))
      have hcj := h7 j (by omega)
      rw [add_none] at hcj
      refine ⟨b, off, ha', hb, ?_⟩
      rw [hcj]
      simp [hj'.1, hj'.2] at hj ⊢
      exact hj
    · simp only [List.mem_map, List.mem_range] at hr
      obtain ⟨i, hi, rfl⟩ := hr
      obtain ⟨-, -, -, -, h4, -⟩ := hrow i (by omega)
      exact h4 z (List.mem_of_mem_take hz)
theorem nats_of : ∀ (zs : List Int), (∀ z ∈ zs, (Lit.int .u32 z).wf = true) → ∃ l : List Nat, zs = l.map Int.ofNat ∧ ∀ q ∈ l, q < 4294967296
  | [], _ => ⟨[], rfl, by simp⟩
  | z :: zs, h => by
    obtain ⟨l, rfl, hl⟩ := nats_of zs (fun y hy => h y (by simp [hy]))
    have hb := bounds_u32 (h z (by simp))
    refine ⟨z.toNat :: l, by simp; omega, fun q hq => ?_⟩
    rcases List.mem_cons.1 hq with rfl | hq
    · omega
    · exact hl q hq
theorem rows_nats_of : ∀ (zs : List (List Int)), (∀ r ∈ zs, ∀ z ∈ r, (Lit.int .u32 z).wf = true) → ∃ l : List (List Nat), zs = l.map (·.map Int.ofNat) ∧ ∀ r ∈ l, ∀ q ∈ r, q < 4294967296
  | [], _ => ⟨[], rfl, by simp⟩
  | r :: zs, h => by
    obtain ⟨l, rfl, hl⟩ := rows_nats_of zs (fun y hy => h y (by simp [hy]))
    obtain ⟨l1, rfl, h1⟩ := nats_of r (h r (by simp))
    refine ⟨l1 :: l, by simp, fun q hq => ?_⟩
    rcases List.mem_cons.1 hq with rfl | hq
    · exact h1
    · exact hl q hq
theorem trod_reads32 (ht : P.underlying t = some (.slice e)) (he : P.underlying e = some (.int .u32)) (hc : P.cellsOf e = 1) (h : DataW.trod enc P w 0 (fun _ => true) held fuel t cs = some x) :
    ∃ (v : Value) (l : List Nat), cs = [v] ∧ w.reads w.heap.size v (l.map u32V) ∧ ∀ q ∈ l, q < 4294967296 := by
  obtain ⟨v, zs, h1, h2, h3⟩ := trod_reads ht he hc h
  obtain ⟨l, rfl, hl⟩ := nats_of zs h3
  exact ⟨v, l, h1, by rw [List.map_map] at h2; exact h2, hl⟩
theorem trod_rows32 (ht : P.underlying t = some (.slice e)) (he : P.underlying e = some (.slice q)) (hq : P.underlying q = some (.int .u32)) (ce : P.cellsOf e = 1) (cq : P.cellsOf q = 1) (h : DataW.trod enc P w 0 (fun _ => true) held fuel t cs = some x) :
    ∃ (v : Value) (rs : List (List Nat)), cs = [v] ∧ w.rows u32V w.heap.size v rs ∧ ∀ r ∈ rs, ∀ q ∈ r, q < 4294967296 := by
  obtain ⟨v, zs, h1, ⟨vs, h2, h3, h4⟩, h5⟩ := trod_rows ht he hq ce cq h
  obtain ⟨l, rfl, hl⟩ := rows_nats_of zs h5
  refine ⟨v, l, h1, ⟨vs, by simpa using h2, h3, fun i r hr => ?_⟩, hl⟩
  obtain ⟨u, hu, hur⟩ := h4 i (r.map Int.ofNat) (by simp [hr])
  exact ⟨u, hu, by rw [List.map_map] at hur; exact hur⟩
/-- A field of a struct. -/
theorem trod_field {fs : Array Field} (ht : P.underlying t = some (.struct fs)) (h : DataW.trod enc P w 0 (fun _ => true) held fuel t cs = some x) (j : Nat) (f : Field) (hj : fs[j]? = some f) :
    ∃ n y, DataW.trod enc P w 0 (fun _ => true) held n f.type ((cs.drop f.offset).take (P.cellsOf f.type)) = some y := by
  obtain ⟨xs, m, rfl, hx, hl, hlen, hget⟩ := DataW.trod_struct ht h
  have hj' := (Array.getElem?_eq_some_iff.1 hj).1
  exact ⟨m, _, (hget j f hj).trans (List.getElem?_eq_getElem (by omega))⟩
end
end Go

/- What the reading of an argument tells of its value: parameters, elements, a case of the ring's laws. -/
namespace Go.Proofs.Ytkjlfjnncdkmlaa.G
set_option linter.all false
open Go.RowKit Go.WideShapes Go.ChangeShapes
theorem i64_bounds {z : Int} (h : (Lit.int .i64 z).wf = true) : -9223372036854775808 ≤ z ∧ z ≤ 9223372036854775807 := by
  have h2 : IntKind.i64.min ≤ z ∧ z ≤ IntKind.i64.max := by simpa [Lit.wf] using h
  have h3 : IntKind.i64.min = -9223372036854775808 := by decide
  have h4 : IntKind.i64.max = 9223372036854775807 := by decide
  omega
theorem i64_bounds_all {l : List Int} (h : ∀ z ∈ l, (Lit.int .i64 z).wf = true) : ∀ z ∈ l, -9223372036854775808 ≤ z ∧ z ≤ 9223372036854775807 := fun z hz => i64_bounds (h z hz)
set_option maxRecDepth 100000 in
theorem open_params {H : Type} {enc : TypeId × Value → H} {W : World} {base : Nat} {v : Value} {d : DataW H} {p : List MemPlace} (hv : Value.okWide Try.prog W .any base 25 v) (h : DataW.Trod enc Try.prog W 0 (fun _ => true) true 25 v d p) :
    ∃ (N pr pw wt er : Int) (cv : Value) (chain : List Nat) (sp : Nat), v = .agg #[.int .i64 N, .int .u32 pr, .int .i64 pw, cv, .int .u32 (sp : Int), .int .i64 wt, .int .u32 er] ∧ W.reads W.heap.size cv (chain.map u32V) := by
  have c25 : Try.prog.cellsOf 25 = 7 := by kernel_rfl
  have c28 : Try.prog.cellsOf 28 = 3 := by kernel_rfl
  have c22 : Try.prog.cellsOf 22 = 1 := by kernel_rfl
  have c23 : Try.prog.cellsOf 23 = 1 := by kernel_rfl
  have c26 : Try.prog.cellsOf 26 = 1 := by kernel_rfl
  have c3 : Try.prog.cellsOf 3 = 1 := by kernel_rfl
  have c4 : Try.prog.cellsOf 4 = 1 := by kernel_rfl
  obtain ⟨cs, rfl, hsz⟩ := okWide_struct Try.underlying25 hv
  obtain ⟨fuel, hf⟩ := h
  have hl' : cs.toList.length = 7 := by rw [c25] at hsz; simpa using hsz
  obtain ⟨_, _, p0⟩ := trod_field Try.underlying25 hf 0 _ rfl
  obtain ⟨_, _, p1⟩ := trod_field Try.underlying25 hf 1 _ rfl
  obtain ⟨_, _, p2⟩ := trod_field Try.underlying25 hf 2 _ rfl
  obtain ⟨_, _, p3⟩ := trod_field Try.underlying25 hf 3 _ rfl
  obtain ⟨_, _, p4⟩ := trod_field Try.underlying25 hf 4 _ rfl
  obtain ⟨_, _, p5⟩ := trod_field Try.underlying25 hf 5 _ rfl
  obtain ⟨_, _, p6⟩ := trod_field Try.underlying25 hf 6 _ rfl
  obtain ⟨N, e0, -, w0⟩ := DataW.trod_int Try.underlying3 p0
  obtain ⟨pr, e1, -, -⟩ := DataW.trod_int Try.underlying22 p1
  obtain ⟨pw, e2, -, -⟩ := DataW.trod_int Try.underlying3 p2
  obtain ⟨cv, chain, e3, hchain, hcb⟩ := trod_reads32 Try.underlying23 Try.underlying22 c22 p3
  obtain ⟨sp, e4, -, w4⟩ := DataW.trod_int Try.underlying22 p4
  obtain ⟨wt, e5, -, -⟩ := DataW.trod_int Try.underlying3 p5
  obtain ⟨er, e6, -, -⟩ := DataW.trod_int Try.underlying22 p6
  have hsp := bounds_u32 w4
  refine ⟨N, pr, pw, wt, er, cv, chain, sp.toNat, ?_, hchain⟩
  have hsn : ((sp.toNat : Nat) : Int) = sp := by omega
  simp only [hsn]
  congr 1
  apply Array.ext'
  simp only [Value.cells] at e0 e1 e2 e3 e4 e5 e6
  clear p0 p1 p2 p3 p4 p5 p6 hf hv
  generalize cs.toList = l at *
  match l, hl' with
  | [k0, k1, k2, k3, k4, k5, k6], _ =>
    simp [c25, c28, c22, c23, c26, c3, c4] at e0 e1 e2 e3 e4 e5 e6
    simp [e0, e1, e2, e3, e4, e5, e6]
set_option maxRecDepth 100000 in
theorem open_elems3 {H : Type} {enc : TypeId × Value → H} {W : World} {base : Nat} {v : Value} {d : DataW H} {p : List MemPlace} (hv : Value.okWide Try.prog W .any base 54 v) (h : DataW.Trod enc Try.prog W 0 (fun _ => true) true 54 v d p) :
    ∃ (la lb lc : Int) (sa sb sc : Bool) (av bv cv : Value) (xs ys zs : List (List Nat)), v = .agg #[.int .i64 la, .bool sa, av, .int .i64 lb, .bool sb, bv, .int .i64 lc, .bool sc, cv] ∧ W.rows u32V W.heap.size av xs ∧ W.rows u32V W.heap.size bv ys ∧ W.rows u32V W.heap.size cv zs := by
  have c25 : Try.prog.cellsOf 25 = 7 := by kernel_rfl
  have c28 : Try.prog.cellsOf 28 = 3 := by kernel_rfl
  have c22 : Try.prog.cellsOf 22 = 1 := by kernel_rfl
  have c23 : Try.prog.cellsOf 23 = 1 := by kernel_rfl
  have c26 : Try.prog.cellsOf 26 = 1 := by kernel_rfl
  have c3 : Try.prog.cellsOf 3 = 1 := by kernel_rfl
  have c4 : Try.prog.cellsOf 4 = 1 := by kernel_rfl
  have c54 : Try.prog.cellsOf 54 = 9 := by kernel_rfl
  obtain ⟨cs, rfl, hsz⟩ := okWide_array Try.underlying54 hv
  obtain ⟨fuel, hf⟩ := h
  have hl' : cs.toList.length = 9 := by rw [c54] at hsz; simpa using hsz
  obtain ⟨ts, m, _, hx0, hl, hlen, hg⟩ := DataW.trod_array Try.underlying54 hf
  have g0 := hg 0 (by omega)
  have g1 := hg 1 (by omega)
  have g2 := hg 2 (by omega)
  rw [List.getElem?_eq_getElem (by omega)] at g0 g1 g2
  obtain ⟨_, _, a0⟩ := trod_field Try.underlying28 g0 0 _ rfl
  obtain ⟨_, _, a1⟩ := trod_field Try.underlying28 g0 1 _ rfl
  obtain ⟨_, _, a2⟩ := trod_field Try.underlying28 g0 2 _ rfl
  obtain ⟨_, _, b0⟩ := trod_field Try.underlying28 g1 0 _ rfl
  obtain ⟨_, _, b1⟩ := trod_field Try.underlying28 g1 1 _ rfl
  obtain ⟨_, _, b2⟩ := trod_field Try.underlying28 g1 2 _ rfl
  obtain ⟨_, _, c0⟩ := trod_field Try.underlying28 g2 0 _ rfl
  obtain ⟨_, _, c1⟩ := trod_field Try.underlying28 g2 1 _ rfl
  obtain ⟨_, _, c2⟩ := trod_field Try.underlying28 g2 2 _ rfl
  obtain ⟨la, e0, -, -⟩ := DataW.trod_int Try.underlying3 a0
  obtain ⟨sa, e1, -⟩ := DataW.trod_bool Try.underlying4 a1
  obtain ⟨av, xs, e2, hxs, -⟩ := trod_rows32 Try.underlying26 Try.underlying23 Try.underlying22 c23 c22 a2
  obtain ⟨lb, e3, -, -⟩ := DataW.trod_int Try.underlying3 b0
  obtain ⟨sb, e4, -⟩ := DataW.trod_bool Try.underlying4 b1
  obtain ⟨bv, ys, e5, hys, -⟩ := trod_rows32 Try.underlying26 Try.underlying23 Try.underlying22 c23 c22 b2
  obtain ⟨lc, e6, -, -⟩ := DataW.trod_int Try.underlying3 c0
  obtain ⟨sc, e7, -⟩ := DataW.trod_bool Try.underlying4 c1
  obtain ⟨cv, zs, e8, hzs, -⟩ := trod_rows32 Try.underlying26 Try.underlying23 Try.underlying22 c23 c22 c2
  refine ⟨la, lb, lc, sa, sb, sc, av, bv, cv, xs, ys, zs, ?_, hxs, hys, hzs⟩
  congr 1
  apply Array.ext'
  simp only [Value.cells] at e0 e1 e2 e3 e4 e5 e6 e7 e8
  clear a0 a1 a2 b0 b1 b2 c0 c1 c2 g0 g1 g2 hg hf hv
  generalize cs.toList = l at *
  match l, hl' with
  | [k0, k1, k2, k3, k4, k5, k6, k7, k8], _ =>
    simp [c25, c28, c22, c23, c26, c3, c4] at e0 e1 e2 e3 e4 e5 e6 e7 e8
    simp [e0, e1, e2, e3, e4, e5, e6, e7, e8]
set_option maxRecDepth 100000 in
theorem open_rcase {H : Type} {enc : TypeId × Value → H} {W : World} {base : Nat} {v : Value} {d : DataW H} {p : List MemPlace} (hv : Value.okWide Try.prog W .any base 31 v) (h : DataW.Trod enc Try.prog W 0 (fun _ => true) true 31 v d p) :
    ∃ c : RCase, v = .agg c.cells ∧ c.reads W.heap.size W ∧ (-9223372036854775808 ≤ c.num ∧ c.num ≤ 9223372036854775807) ∧ (-9223372036854775808 ≤ c.kk ∧ c.kk ≤ 9223372036854775807) ∧ (-9223372036854775808 ≤ c.level ∧ c.level ≤ 9223372036854775807) ∧ (∀ z ∈ c.ls, -9223372036854775808 ≤ z ∧ z ≤ 9223372036854775807) ∧ (∀ q ∈ c.chain, q < 4294967296) ∧ c.sp < 4294967296 ∧ (∀ r ∈ c.xs, ∀ q ∈ r, q < 4294967296) ∧ (∀ r ∈ c.ys, ∀ q ∈ r, q < 4294967296) ∧ (-9223372036854775808 ≤ c.N ∧ c.N ≤ 9223372036854775807) := by
  have c25 : Try.prog.cellsOf 25 = 7 := by kernel_rfl
  have c28 : Try.prog.cellsOf 28 = 3 := by kernel_rfl
  have c22 : Try.prog.cellsOf 22 = 1 := by kernel_rfl
  have c23 : Try.prog.cellsOf 23 = 1 := by kernel_rfl
  have c26 : Try.prog.cellsOf 26 = 1 := by kernel_rfl
  have c3 : Try.prog.cellsOf 3 = 1 := by kernel_rfl
  have c4 : Try.prog.cellsOf 4 = 1 := by kernel_rfl
  have c29 : Try.prog.cellsOf 29 = 1 := by kernel_rfl
  have c2 : Try.prog.cellsOf 2 = 1 := by kernel_rfl
  have c31 : Try.prog.cellsOf 31 = 18 := by kernel_rfl
  obtain ⟨cs, rfl, hsz⟩ := okWide_struct Try.underlying31 hv
  obtain ⟨fuel, hf⟩ := h
  have hl' : cs.toList.length = 18 := by rw [c31] at hsz; simpa using hsz
  obtain ⟨_, _, hP⟩ := trod_field Try.underlying31 hf 0 _ rfl
  obtain ⟨_, _, hA⟩ := trod_field Try.underlying31 hf 1 _ rfl
  obtain ⟨_, _, hB⟩ := trod_field Try.underlying31 hf 2 _ rfl
  obtain ⟨_, _, h3⟩ := trod_field Try.underlying31 hf 3 _ rfl
  obtain ⟨_, _, h4⟩ := trod_field Try.underlying31 hf 4 _ rfl
  obtain ⟨_, _, h5⟩ := trod_field Try.underlying31 hf 5 _ rfl
  obtain ⟨_, _, h6⟩ := trod_field Try.underlying31 hf 6 _ rfl
  obtain ⟨_, _, h7⟩ := trod_field Try.underlying31 hf 7 _ rfl
  obtain ⟨_, _, p0⟩ := trod_field Try.underlying25 hP 0 _ rfl
  obtain ⟨_, _, p1⟩ := trod_field Try.underlying25 hP 1 _ rfl
  obtain ⟨_, _, p2⟩ := trod_field Try.underlying25 hP 2 _ rfl
  obtain ⟨_, _, p3⟩ := trod_field Try.underlying25 hP 3 _ rfl
  obtain ⟨_, _, p4⟩ := trod_field Try.underlying25 hP 4 _ rfl
  obtain ⟨_, _, p5⟩ := trod_field Try.underlying25 hP 5 _ rfl
  obtain ⟨_, _, p6⟩ := trod_field Try.underlying25 hP 6 _ rfl
  obtain ⟨_, _, a0⟩ := trod_field Try.underlying28 hA 0 _ rfl
  obtain ⟨_, _, a1⟩ := trod_field Try.underlying28 hA 1 _ rfl
  obtain ⟨_, _, a2⟩ := trod_field Try.underlying28 hA 2 _ rfl
  obtain ⟨_, _, b0⟩ := trod_field Try.underlying28 hB 0 _ rfl
  obtain ⟨_, _, b1⟩ := trod_field Try.underlying28 hB 1 _ rfl
  obtain ⟨_, _, b2⟩ := trod_field Try.underlying28 hB 2 _ rfl
  obtain ⟨N, e0, -, w0⟩ := DataW.trod_int Try.underlying3 p0
  obtain ⟨pr, e1, -, -⟩ := DataW.trod_int Try.underlying22 p1
  obtain ⟨pw, e2, -, -⟩ := DataW.trod_int Try.underlying3 p2
  obtain ⟨cv, chain, e3, hchain, hcb⟩ := trod_reads32 Try.underlying23 Try.underlying22 c22 p3
  obtain ⟨sp, e4, -, w4⟩ := DataW.trod_int Try.underlying22 p4
  obtain ⟨wt, e5, -, -⟩ := DataW.trod_int Try.underlying3 p5
  obtain ⟨er, e6, -, -⟩ := DataW.trod_int Try.underlying22 p6
  obtain ⟨la, e7, -, -⟩ := DataW.trod_int Try.underlying3 a0
  obtain ⟨sa, e8, -⟩ := DataW.trod_bool Try.underlying4 a1
  obtain ⟨av, xs, e9, hxs, hxb⟩ := trod_rows32 Try.underlying26 Try.underlying23 Try.underlying22 c23 c22 a2
  obtain ⟨lb, e10, -, -⟩ := DataW.trod_int Try.underlying3 b0
  obtain ⟨sb, e11, -⟩ := DataW.trod_bool Try.underlying4 b1
  obtain ⟨bv, ys, e12, hys, hyb⟩ := trod_rows32 Try.underlying26 Try.underlying23 Try.underlying22 c23 c22 b2
  obtain ⟨num, e13, -, w13⟩ := DataW.trod_int Try.underlying2 h3
  obtain ⟨kk, e14, -, w14⟩ := DataW.trod_int Try.underlying3 h4
  obtain ⟨level, e15, -, w15⟩ := DataW.trod_int Try.underlying3 h5
  obtain ⟨special, e16, -⟩ := DataW.trod_bool Try.underlying4 h6
  obtain ⟨lw, ls, e17, hls, hlb⟩ := trod_reads Try.underlying29 Try.underlying2 c2 h7
  have hsp := bounds_u32 w4
  refine ⟨⟨N, pr, pw, wt, er, la, lb, num, kk, level, cv, av, bv, lw, sa, sb, special, chain, sp.toNat, xs, ys, ls⟩, ?_, ⟨hchain, hxs, hys, hls⟩, i64_bounds w13, i64_bounds w14, i64_bounds w15, i64_bounds_all hlb, hcb, by show sp.toNat < _; omega, hxb, hyb, i64_bounds w0⟩
  have hsn : ((sp.toNat : Nat) : Int) = sp := by omega
  unfold RCase.cells
  simp only [hsn]
  congr 1
  apply Array.ext'
  simp only [Value.cells] at e0 e1 e2 e3 e4 e5 e6 e7 e8 e9 e10 e11 e12 e13 e14 e15 e16 e17
  clear p0 p1 p2 p3 p4 p5 p6 a0 a1 a2 b0 b1 b2 h3 h4 h5 h6 h7 hP hA hB hf hv
  generalize cs.toList = l at *
  match l, hl' with
  | [k0, k1, k2, k3, k4, k5, k6, k7, k8, k9, k10, k11, k12, k13, k14, k15, k16, k17], _ =>
    simp [c25, c28, c22, c23, c26, c3, c4, c29, c2] at e0 e1 e2 e3 e4 e5 e6 e7 e8 e9 e10 e11 e12 e13 e14 e15 e16 e17
    simp [e0, e1, e2, e3, e4, e5, e6, e7, e8, e9, e10, e11, e12, e13, e14, e15, e16, e17]
end Go.Proofs.Ytkjlfjnncdkmlaa.G

/- Plain: the fixed examples of the law RingKnown. -/
namespace Go.Proofs.Ytkjlfjnncdkmlaa.G
set_option linter.all false
theorem kn_ints : true = intsB 4 [17, 97] 41 1 false [0, 1, 0, 0] ∧ true = intsB 4 [17, 97] 41 1 false [0, 0, 0, 1] ∧ true = intsB 4 [17, 97] 41 1 false [0, 1, 2, 3] ∧ true = intsB 4 [17, 97] 41 2 false [1, -1, 20, 0] := by decide +kernel
theorem kn_rows : intRows (modl [17, 97] 41 (1 : Int).toNat false) [0, 1, 0, 0] = [[0, 1, 0, 0]] ∧ intRows (modl [17, 97] 41 (1 : Int).toNat false) [0, 0, 0, 1] = [[0, 0, 0, 1]] ∧ intRows (modl [17, 97] 41 (1 : Int).toNat false) [0, 1, 2, 3] = [[0, 1, 2, 3]] ∧ intRows (modl [17, 97] 41 (2 : Int).toNat false) [1, -1, 20, 0] = [[1, 16, 3, 0], [1, 96, 20, 0]] := by decide +kernel
theorem kn_mul : true = twoB 4 [17, 97] 41 1 1 false false [[0, 1, 0, 0]] [[0, 0, 0, 1]] ∧ zipRows (prodRow (4 : Int).toNat) (modl [17, 97] 41 (1 : Int).toNat false) [[0, 1, 0, 0]] [[0, 0, 0, 1]] (modl [17, 97] 41 (1 : Int).toNat false).length = [[16, 0, 0, 0]] := by decide +kernel
theorem kn_auto : true = (checkB 4 [17, 97] 41 1 false [[0, 1, 2, 3]] && autB 4 3) ∧ zipRows (autR (4 : Int).toNat (3 : Int).toNat) (modl [17, 97] 41 (1 : Int).toNat false) [[0, 1, 2, 3]] [[0, 1, 2, 3]] (modl [17, 97] 41 (1 : Int).toNat false).length = [[0, 3, 15, 1]] := by decide +kernel
theorem kn_res : true = (checkB 4 [17, 97] 41 2 false [[1, 16, 3, 0], [1, 96, 20, 0]] && resB2 2 false 1 false) ∧ resRows (2 : Int).toNat (1 : Int).toNat false [[1, 16, 3, 0], [1, 96, 20, 0]] = [[1, 16, 3, 0]] ∧ false = (checkB 4 [17, 97] 41 2 false [[1, 16, 3, 0], [1, 96, 20, 0]] && resB2 2 false 1 true) := by decide +kernel
open Go.RowKit Go.Shelf Go.BigFrame Go.WideNum
section
variable {X : World} {cv av bv : Value} (hr : X.reads X.heap.size cv ([17, 97].map u32V))
include hr
theorem kints (level : Int) (lw : Value) (l : List Int) (hl : X.reads X.heap.size lw (l.map i64V)) (rows : List (List Nat)) (h1 : true = intsB 4 [17, 97] 41 level false l) (h2 : intRows (modl [17, 97] 41 level.toNat false) l = rows) :
    Calls Try.prog 13 #[.agg #[.int .i64 4, .int .u32 0, .int .i64 0, cv, .int .u32 41, .int .i64 0, .int .u32 0], .int .i64 level, .bool false, lw] X (EltAny true level false rows X) := by
  subst h2; exact ints_e hr level false lw l hl true h1
theorem kmul {xs ys rows : List (List Nat)} (ha : X.rows u32V X.heap.size av xs) (hb : X.rows u32V X.heap.size bv ys) (h1 : true = twoB 4 [17, 97] 41 1 1 false false xs ys) (h2 : zipRows (prodRow (4 : Int).toNat) (modl [17, 97] 41 (1 : Int).toNat false) xs ys (modl [17, 97] 41 (1 : Int).toNat false).length = rows) :
    Calls Try.prog 17 #[.agg #[.int .i64 4, .int .u32 0, .int .i64 0, cv, .int .u32 41, .int .i64 0, .int .u32 0], .agg #[.int .i64 1, .bool false, av], .agg #[.int .i64 1, .bool false, bv]] X (EltAny true 1 false rows X) := by
  subst h2; exact mul_e hr ha hb _ rfl _ rfl true h1
theorem kauto {xs rows : List (List Nat)} (ha : X.rows u32V X.heap.size av xs) (h1 : true = (checkB 4 [17, 97] 41 1 false xs && autB 4 3)) (h2 : zipRows (autR (4 : Int).toNat (3 : Int).toNat) (modl [17, 97] 41 (1 : Int).toNat false) xs xs (modl [17, 97] 41 (1 : Int).toNat false).length = rows) :
    Calls Try.prog 20 #[.agg #[.int .i64 4, .int .u32 0, .int .i64 0, cv, .int .u32 41, .int .i64 0, .int .u32 0], .agg #[.int .i64 1, .bool false, av], .int .i64 3] X (EltAny true 1 false rows X) := by
  subst h2; exact auto_e hr ha 3 (by omega) _ rfl _ rfl true h1
theorem kres {xs rows : List (List Nat)} (ha : X.rows u32V X.heap.size av xs) (s ok : Bool) (h1 : ok = (checkB 4 [17, 97] 41 2 false xs && resB2 2 false 1 s)) (h2 : resRows (2 : Int).toNat (1 : Int).toNat s xs = rows) :
    Calls Try.prog 18 #[.agg #[.int .i64 4, .int .u32 0, .int .i64 0, cv, .int .u32 41, .int .i64 0, .int .u32 0], .agg #[.int .i64 2, .bool false, av], .int .i64 1, .bool s] X (EltAny ok 1 s rows X) := by
  subst h2; exact restr_e hr ha 1 s ok h1
theorem kwides (ha : X.rows u32V X.heap.size av [[1, 16, 3, 0], [1, 96, 20, 0]]) :
    Calls Try.prog 14 #[.agg #[.int .i64 4, .int .u32 0, .int .i64 0, cv, .int .u32 41, .int .i64 0, .int .u32 0], .agg #[.int .i64 2, .bool false, av]] X (fun e w' => ∃ g, e = .returned (.tuple #[.slice (some ⟨g, 0, none⟩) 4 4, .int .i64 0]) ∧ w'.heap[g]? = some (.cells (wArr (wC [17, 97] [[1, 16, 3, 0], [1, 96, 20, 0]]) 4) 42) ∧ Below X.heap.size X w') := by
  refine (Wides_any 4 0 0 0 0 cv [17, 97] 41 2 false av _ X hr ha true ⟨fun _ => ⟨aw_check.1, aw_all⟩, fun _ => rfl⟩).mono fun e w' h => ?_
  obtain ⟨h1, h2⟩ := h
  rw [if_pos rfl] at h1
  obtain ⟨g, h3, -, h4⟩ := h1
  exact ⟨g, h3, by rw [aw_check.2] at h4; exact h4, h2⟩
end
theorem kcells {W : World} {g : Nat} {N M : Bool} {T U : ByteArray} (hN : N = zN (-1)) (hT : T = zT (-1)) (hM : M = zN 20) (hU : U = zT 20) (h : W.heap[g]? = some (.cells (wArr (wC [17, 97] [[1, 16, 3, 0], [1, 96, 20, 0]]) 4) 42)) :
    W.cell? ⟨g, 2, none⟩ = some (.bool N) ∧ W.cell? ⟨g, 3, none⟩ = some (.string T) ∧ W.cell? ⟨g, 4, none⟩ = some (.bool M) ∧ W.cell? ⟨g, 5, none⟩ = some (.string U) := by
  have e1 := aw_wC 1 (by omega)
  have e2 := aw_wC 2 (by omega)
  have f1 : wC [17, 97] [[1, 16, 3, 0], [1, 96, 20, 0]] 1 = -1 := e1
  have f2 : wC [17, 97] [[1, 16, 3, 0], [1, 96, 20, 0]] 2 = 20 := e2
  have key : ∀ c, c < 8 → W.cell? ⟨g, c, none⟩ = some (if c % 2 = 0 then Value.bool (zN (wC [17, 97] [[1, 16, 3, 0], [1, 96, 20, 0]] (c / 2))) else Value.string (zT (wC [17, 97] [[1, 16, 3, 0], [1, 96, 20, 0]] (c / 2)))) := fun c hc => by
    rw [cell_of_row W g c _ _ (0, 0) h]
    unfold wArr
    rw [wPart_get (by omega), if_pos (by omega)]
  subst hN hT hM hU
  refine ⟨?_, ?_, ?_, ?_⟩
  · rw [key 2 (by omega), if_pos (by omega), f1]
  · rw [key 3 (by omega), if_neg (by omega), f1]
  · rw [key 4 (by omega), if_pos (by omega), f2]
  · rw [key 5 (by omega), if_neg (by omega), f2]
theorem built_one (W : World) (r : List Nat) (t t1 : TypeId) (hr : r.length ≤ maxLen) : World.rows u32V ((W.alloc (.cells (r.map u32V).toArray t1)).alloc (.cells #[.slice (some ⟨W.heap.size, 0, none⟩) r.length r.length] t)) (W.heap.size + 1 + 1) (.slice (some ⟨W.heap.size + 1, 0, none⟩) 1 1) [r] := by
  refine rows_of (bs := [W.heap.size]) (rs := [r]) (t := t) (fz := (0, 0)) rfl (by unfold maxLen; simp) ?_ (by omega) fun i z q hz hq => ?_
  · exact alloc_last _ _ (by simp)
  · match i with
    | 0 =>
      obtain rfl : W.heap.size = z := by simpa using hz
      obtain rfl : r = q := by simpa using hq
      exact ⟨by omega, hr, t1, (0, 0), by rw [Below.heap_alloc _ _ _ (by simp)]; exact heap_alloc_new W _⟩
    | i + 1 => simp at hz
end Go.Proofs.Ytkjlfjnncdkmlaa.G
