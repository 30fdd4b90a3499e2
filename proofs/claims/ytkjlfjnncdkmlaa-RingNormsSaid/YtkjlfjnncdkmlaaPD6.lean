/- Helpers and walks, in one text. -/
import Derived.Test.YtkjlfjnncdkmlaaPD5
import Derived.ProofKit
import Derived.OpenShut
import Derived.ShutString
import Derived.ChangeOld
import Derived.SliceStrings
import Derived.Deep.Matrix
import Derived.WideShapes
/- The ring's functions in one shape; elements in boxes; what is made passes the check. -/
namespace Go.Proofs.Ytkjlfjnncdkmlaa.G
set_option linter.all false
open Go.RowKit Go.Shelf Go.BigFrame
attribute [local go_sem] Oper.semAt_some
/-- An element in a box. -/
structure ElAt (W : World) (b : Nat) (la : Int) (sa : Bool) (v : Value) (rs : List (List Nat)) : Prop where
  heap : W.heap[b]? = some (.cells #[.int .i64 la, .bool sa, v] 28)
  rows : W.rows u32V W.heap.size v rs
theorem ElAt.below {W W' : World} {b : Nat} {la : Int} {sa : Bool} {v : Value} {rs : List (List Nat)} (h : Hid (ElAt W b la sa v rs)) (hb : Below W.heap.size W W') : Hid (ElAt W' b la sa v rs) :=
  ⟨hold_heap (w := W) h.out.heap hb, (h.out.rows.below hb).mono hb.size⟩
theorem ElAt.new {W : World} {la : Int} {sa : Bool} {v : Value} {rs : List (List Nat)} (h : W.rows u32V W.heap.size v rs) : Hid (ElAt (W.alloc (.cells #[.int .i64 la, .bool sa, v] 28)) W.heap.size la sa v rs) :=
  ⟨heap_alloc_new W _, (h.below ((Below.refl _ W).alloc (Nat.le_refl _) _)).mono (by simp)⟩
theorem below_new (W : World) (o : Obj) : Below W.heap.size W (W.alloc o) := (Below.refl _ W).alloc (Nat.le_refl _) _
theorem hB {a b c : World} (h : Hid (Below a.heap.size a b)) (k : Below b.heap.size b c) : Hid (Below a.heap.size a c) := below_via h.out k
theorem hR {W W' : World} {v : Value} {l : List Value} (h : Hid (W.reads W.heap.size v l)) (hb : Below W.heap.size W W') : Hid (W'.reads W'.heap.size v l) := (h.out.below hb).mono hb.size
theorem hRow {W W' : World} {v : Value} {l : List (List Nat)} (h : Hid (W.rows u32V W.heap.size v l)) (hb : Below W.heap.size W W') : Hid (W'.rows u32V W'.heap.size v l) := (h.out.below hb).mono hb.size
theorem hG {W W' : World} {b : Nat} {cs : Array Value} {t : TypeId} (h : Hid (W.heap[b]? = some (.cells cs t))) (hb : Below W.heap.size W W') : Hid (W'.heap[b]? = some (.cells cs t)) := hold_heap (w := W) h.out hb
/-- What a function answers that makes an element, or refuses: in one shape. -/
def EltAny (ok : Bool) (lv : Int) (s : Bool) (rows : List (List Nat)) (w : World) (e : Ending) (w' : World) : Prop :=
  ∃ (la : Int) (sa : Bool) (ra : Option Addr) (n rc : Nat) (rs : List (List Nat)) (er : Int), e = .returned (.tuple #[.agg #[.int .i64 la, .bool sa, .slice ra n rc], .int .i64 er]) ∧ w'.rows u32V w'.heap.size (.slice ra n rc) rs ∧
    (ok = true → lv = la ∧ s = sa ∧ rows = rs ∧ 0 = er) ∧ (ok = false → 0 = la ∧ false = sa ∧ [] = rs ∧ 2 = er) ∧ Below w.heap.size w w'
theorem EltPost.any {ok : Bool} {lv : Int} {s : Bool} {rows : List (List Nat)} {w w' : World} {e : Ending} (h : EltPost ok lv s rows w e w') : EltAny ok lv s rows w e w' := by
  obtain ⟨h1, h2⟩ := h
  cases ok with
  | true =>
    rw [if_pos rfl] at h1
    obtain ⟨rv, rfl, h3⟩ := h1
    have h4 := h3.rows
    obtain ⟨ra, rc, rfl, -⟩ := h4.shape
    exact ⟨lv, s, ra, rows.length, rc, rows, 0, rfl, h4, fun _ => ⟨rfl, rfl, rfl, rfl⟩, (fun h => by cases h), h2⟩
  | false =>
    rw [if_neg (by decide)] at h1
    subst h1
    exact ⟨0, false, none, 0, 0, [], 2, rfl, rows_none _, (fun h => by cases h), fun _ => ⟨rfl, rfl, rfl, rfl⟩, h2⟩
section
variable {N pr pw wt er : Int} {cv : Value} {chain : List Nat} {sp : Nat} {la lb : Int} {sa sb : Bool} {av bv : Value} {xs ys : List (List Nat)} {X : World}
theorem add_e (hr : X.reads X.heap.size cv (chain.map u32V)) (ha : X.rows u32V X.heap.size av xs) (hb : X.rows u32V X.heap.size bv ys) (n : Nat) (hn : n = N.toNat) (ml : List Nat) (hml : ml = modl chain sp la.toNat sa) (ok : Bool) (hok : ok = twoB N chain sp la lb sa sb xs ys) :
    Calls Try.prog 32 #[.agg #[.int .i64 N, .int .u32 pr, .int .i64 pw, cv, .int .u32 (sp : Int), .int .i64 wt, .int .u32 er], .agg #[.int .i64 la, .bool sa, av], .agg #[.int .i64 lb, .bool sb, bv]] X (EltAny ok la sa (zipRows (sumRow 1 n) ml xs ys ml.length) X) := by
  subst hn hml hok
  exact (add_any N pr pw wt er cv chain sp la lb sa sb av bv xs ys X hr ha hb).mono fun _ _ h => h.any
theorem mul_e (hr : X.reads X.heap.size cv (chain.map u32V)) (ha : X.rows u32V X.heap.size av xs) (hb : X.rows u32V X.heap.size bv ys) (n : Nat) (hn : n = N.toNat) (ml : List Nat) (hml : ml = modl chain sp la.toNat sa) (ok : Bool) (hok : ok = twoB N chain sp la lb sa sb xs ys) :
    Calls Try.prog 17 #[.agg #[.int .i64 N, .int .u32 pr, .int .i64 pw, cv, .int .u32 (sp : Int), .int .i64 wt, .int .u32 er], .agg #[.int .i64 la, .bool sa, av], .agg #[.int .i64 lb, .bool sb, bv]] X (EltAny ok la sa (zipRows (prodRow n) ml xs ys ml.length) X) := by
  subst hn hml hok
  exact (mul_any N pr pw wt er cv chain sp la lb sa sb av bv xs ys X hr ha hb).mono fun _ _ h => h.any
theorem auto_e (hr : X.reads X.heap.size cv (chain.map u32V)) (ha : X.rows u32V X.heap.size av xs) (k : Int) (hk : -9223372036854775808 ≤ k ∧ k ≤ 9223372036854775807) (n : Nat) (hn : n = N.toNat) (ml : List Nat) (hml : ml = modl chain sp la.toNat sa) (ok : Bool) (hok : ok = (checkB N chain sp la sa xs && autB N k)) :
    Calls Try.prog 20 #[.agg #[.int .i64 N, .int .u32 pr, .int .i64 pw, cv, .int .u32 (sp : Int), .int .i64 wt, .int .u32 er], .agg #[.int .i64 la, .bool sa, av], .int .i64 k] X (EltAny ok la sa (zipRows (autR n k.toNat) ml xs xs ml.length) X) := by
  subst hn hml hok
  exact (auto_any N pr pw wt er cv chain sp la sa av xs k hk X hr ha).mono fun _ _ h => h.any
end
/-- The same parameters and the same place: rows that fit pass the check. -/
theorem checkB_like {N la : Int} {chain : List Nat} {sp : Nat} {sa : Bool} {xs ys : List (List Nat)} (h : checkB N chain sp la sa xs = true) (hy : EltOk N.toNat (modl chain sp la.toNat sa) ys) : checkB N chain sp la sa ys = true := by
  unfold checkB at h ⊢
  rw [Bool.and_eq_true, Bool.and_eq_true] at h
  rw [Bool.and_eq_true, Bool.and_eq_true]
  refine ⟨h.1, by rw [decide_eq_true_eq]; exact hy.1, ?_⟩
  have hN : ((N.toNat : Nat) : Int) = N := by
    have h1 := h.1
    unfold preB at h1
    rw [Bool.and_eq_true] at h1
    obtain ⟨n, rfl, -, -⟩ := sizeB_nat h1.1
    rw [Int.toNat_natCast]
  rw [List.all_eq_true]
  intro x _
  obtain ⟨x, hx⟩ := x
  obtain ⟨r, hr⟩ : ∃ r, ys[x]? = some r := ⟨ys[x]'(by rw [hy.1]; exact hx), List.getElem?_eq_getElem _⟩
  obtain ⟨k1, q, hq, k2⟩ := hy.2 x r hr
  have hq3 : (modl chain sp la.toNat sa)[x] = q := by
    rw [List.getElem?_eq_getElem hx] at hq; injection hq
  unfold okRow
  simp only [hr, Option.any_some, Bool.and_eq_true, decide_eq_true_eq, Bool.not_eq_true']
  refine ⟨by rw [k1]; exact hN, ?_⟩
  unfold anyGe
  rw [List.any_eq_false]
  intro y hy
  have := k2 y hy
  show ¬ decide (_ ≤ y) = true
  rw [hq3]
  simp; omega
theorem checkB_spec {N la : Int} {chain : List Nat} {sp : Nat} {sa : Bool} {xs : List (List Nat)} (h : checkB N chain sp la sa xs = true) : 4 ≤ N.toNat ∧ N.toNat ≤ 32 ∧ ((N.toNat : Nat) : Int) = N ∧ ((la.toNat : Nat) : Int) = la ∧ 1 ≤ la.toNat ∧ la.toNat ≤ chain.length ∧ chain.length ≤ 24 ∧ (∀ q ∈ modl chain sp la.toNat sa, 3 ≤ q ∧ q ≤ 2147483647) ∧ EltOk N.toNat (modl chain sp la.toNat sa) xs ∧ SizeN N.toNat := by
  have h0 := h
  obtain ⟨n, lv, rfl, rfl, i1, i2, i3, i4, i5, i6, i7⟩ := checkB_elt h
  simp only [Int.toNat_natCast]
  exact ⟨i1, i2, trivial, trivial, i3, i4, i5, i6, i7, checkB_size h0⟩
theorem checkB_zip {N la : Int} {chain : List Nat} {sp : Nat} {sa : Bool} {xs : List (List Nat)} (h : checkB N chain sp la sa xs = true) (f : Nat → List Nat → List Nat → List Nat) (us vs : List (List Nat)) (hf : ∀ q, 0 < q → ∀ a b, (f q a b).length = N.toNat ∧ ∀ x ∈ f q a b, x < q) :
    checkB N chain sp la sa (zipRows f (modl chain sp la.toNat sa) us vs (modl chain sp la.toNat sa).length) = true := by
  obtain ⟨-, -, -, -, -, -, -, hq, -, -⟩ := checkB_spec h
  exact checkB_like h (EltOk.zip _ _ _ fun q hm a b => hf q (by have := hq q hm; omega) a b)
end Go.Proofs.Ytkjlfjnncdkmlaa.G

/- Cases in a box; plain: what is restricted behind a product. -/
namespace Go.Proofs.Ytkjlfjnncdkmlaa.G
set_option linter.all false
open Go.RowKit Go.Shelf Go.BigFrame
theorem case_cells {W : World} {b : Nat} {u0 u1 u2 u3 u4 u5 u6 u7 u8 u9 u10 u11 u12 u13 u14 u15 u16 u17 : Value} {t : TypeId} (h : W.heap[b]? = some (.cells #[u0, u1, u2, u3, u4, u5, u6, u7, u8, u9, u10, u11, u12, u13, u14, u15, u16, u17] t)) :
    W.cell? ⟨b, 0, none⟩ = some u0 ∧ W.cell? ⟨b, 1, none⟩ = some u1 ∧ W.cell? ⟨b, 2, none⟩ = some u2 ∧ W.cell? ⟨b, 3, none⟩ = some u3 ∧ W.cell? ⟨b, 4, none⟩ = some u4 ∧ W.cell? ⟨b, 5, none⟩ = some u5 ∧ W.cell? ⟨b, 6, none⟩ = some u6 ∧ W.cell? ⟨b, 7, none⟩ = some u7 ∧ W.cell? ⟨b, 8, none⟩ = some u8 ∧ W.cell? ⟨b, 9, none⟩ = some u9 ∧ W.cell? ⟨b, 10, none⟩ = some u10 ∧ W.cell? ⟨b, 11, none⟩ = some u11 ∧ W.cell? ⟨b, 12, none⟩ = some u12 ∧ W.cell? ⟨b, 13, none⟩ = some u13 ∧ W.cell? ⟨b, 14, none⟩ = some u14 ∧ W.cell? ⟨b, 15, none⟩ = some u15 ∧ W.cell? ⟨b, 16, none⟩ = some u16 ∧ W.cell? ⟨b, 17, none⟩ = some u17 := by
  refine ⟨?_, ?_, ?_, ?_, ?_, ?_, ?_, ?_, ?_, ?_, ?_, ?_, ?_, ?_, ?_, ?_, ?_, ?_⟩ <;> simp [World.cell?, h]
theorem and_of {a b : Bool} (h : true = (a && b)) : a = true ∧ b = true := by
  have := h.symm; rwa [Bool.and_eq_true] at this
end Go.Proofs.Ytkjlfjnncdkmlaa.G

/- Walks: the sum of the absolute values of wide integers; whether one is at most another. -/
namespace Go.Proofs.Ytkjlfjnncdkmlaa.G
set_option linter.all false
open Go.RowKit Go.Shelf Go.BigFrame Go.WideNum
attribute [local go_sem] Oper.semAt_some
theorem refAbs_z (x : Int) (hx : InR x) (w : World) :
    Calls Try.prog 79 #[.agg #[.bool (zN x), .string (zT x)]] w fun e w' => e = .returned (.tuple #[.agg #[.bool false, .string (zT (x.natAbs : Nat))], .int .i64 0]) ∧ Below w.heap.size w w' := by
  refine refAbs_any (zN x) (zT x) (z_size hx) _ _ 0 ?_ w
  unfold absF
  rw [(z_valid hx).1, if_pos rfl]
  unfold zT
  rw [Int.natAbs_natCast]
theorem refCmp_z (a b : Int) (ha : InR a) (hb : InR b) (w : World) :
    Calls Try.prog 80 #[.agg #[.bool (zN a), .string (zT a)], .agg #[.bool (zN b), .string (zT b)]] w fun e w' => e = .returned (.tuple #[.int .i64 (cmpZ a b), .int .i64 0]) ∧ Below w.heap.size w w' := by
  refine refCmp_any (zN a) (zT a) (zN b) (zT b) (z_size ha) (z_size hb) (cmpZ a b) 0 ?_ w
  unfold cmpF
  rw [(z_valid ha).1, (z_valid hb).1, (z_valid ha).2, (z_valid hb).2]
  rfl
set_option maxRecDepth 100000 in
set_option maxHeartbeats 8000000 in
theorem atMost_any (a b : Nat) (ha : InR (a : Int)) (hb : InR (b : Int)) (hab : a ≤ b) (w : World) :
    Calls Try.prog 43 #[.agg #[.bool false, .string (zT (a : Int))], .agg #[.bool false, .string (zT (b : Int))]] w fun e w' => e = .returned (.bool true) ∧ Below w.heap.size w w' := by
  obtain ⟨s, hs⟩ : ∃ s, s = zT (a : Int) := ⟨_, rfl⟩
  obtain ⟨t, ht⟩ : ∃ t, t = zT (b : Int) := ⟨_, rfl⟩
  obtain ⟨r, hr⟩ : ∃ r, r = cmpZ (a : Int) (b : Int) := ⟨_, rfl⟩
  have hr0 : r ≤ 0 := by rw [hr]; unfold cmpZ; split <;> (try split) <;> omega
  have HC : Hid (∀ W, Calls Try.prog 80 #[.agg #[.bool false, .string s], .agg #[.bool false, .string t]] W fun e w' => e = .returned (.tuple #[.int .i64 r, .int .i64 0]) ∧ Below W.heap.size W w') := fun W => by
    have := refCmp_z (a : Int) (b : Int) ha hb W
    rwa [zN_nat, zN_nat, ← hs, ← ht, ← hr] at this
  rw [← hs, ← ht]
  clear hs ht hr ha hb hab
  obtain ⟨HPOST, hpost⟩ : ∃ R : Ending → World → Prop, R = fun e w' => e = .returned (.bool true) ∧ Below w.heap.size w w' := ⟨_, rfl⟩
  rw [← hpost]
  have HP := Lib.hid hpost
  obtain ⟨W0, hW0⟩ : ∃ W0, W0 = (w.alloc (.cells #[.bool false, .string s] 42)).alloc (.cells #[.bool false, .string t] 42) := ⟨_, rfl⟩
  have hB0 : Below w.heap.size w W0 := by rw [hW0]; exact (below_new w _).alloc (by simp) _
  have g1 : W0.heap[w.heap.size]? = some (.cells #[.bool false, .string s] 42) := by rw [hW0, Below.heap_alloc _ _ _ (by simp)]; exact alloc_last _ _ rfl
  have g2 : W0.heap[w.heap.size + 1]? = some (.cells #[.bool false, .string t] 42) := by rw [hW0]; exact alloc_last _ _ (by simp)
  obtain ⟨d0, d1, -⟩ := wide_cells g1
  obtain ⟨e0, e1, -⟩ := wide_cells g2
  have HW0 := Lib.hid hW0
  have HB0 := Lib.hid hB0
  clear hpost hW0 hB0 g1 g2
  go_enter Try.func43, Try.ntmps43
  go_upto_region 1 with (fail)
  rw [← HW0.out]
  go_wp2_with fail
  (with_reducible refine (HC.out _).mono ?_)
  rintro e w1 ⟨rfl, hb1⟩
  clear d0 d1 e0 e1
  go_wp2
  rw [HP.out]
  exact ⟨by first | rfl | (simp [hr0]; done), below_via HB0.out hb1⟩
set_option maxRecDepth 100000 in
set_option maxHeartbeats 8000000 in
theorem sumOf_any (g n : Nat) (F : Nat → Int) (hn : n ≤ 1000) (hF : ∀ i, i < n → InR (F i)) (hS : ∀ j, j ≤ n → InR ((absN F j : Nat) : Int)) (w : World) (h : w.heap[g]? = some (.cells (wArr F n) 42)) :
    Calls Try.prog 42 #[.slice (some ⟨g, 0, none⟩) n n] w fun e w' => e = .returned (.agg #[.bool false, .string (zT ((absN F n : Nat) : Int))]) ∧ Below w.heap.size w w' := by
  obtain ⟨HPOST, hpost⟩ : ∃ R : Ending → World → Prop, R = fun e w' => e = .returned (.agg #[.bool false, .string (zT ((absN F n : Nat) : Int))]) ∧ Below w.heap.size w w' := ⟨_, rfl⟩
  rw [← hpost]
  have HP := Lib.hid hpost
  obtain ⟨W0, hW0⟩ : ∃ W0, W0 = (w.alloc (.cells #[.bool false, .string ⟨#[]⟩] 42)).alloc (.cells #[.bool false, .string ⟨#[]⟩] 42) := ⟨_, rfl⟩
  have hB0 : Below w.heap.size w W0 := by rw [hW0]; exact (below_new w _).alloc (by simp) _
  have g1 : W0.heap[w.heap.size]? = some (.cells #[.bool false, .string ⟨#[]⟩] 42) := by rw [hW0, Below.heap_alloc _ _ _ (by simp)]; exact alloc_last _ _ rfl
  have g2 : W0.heap[w.heap.size + 1]? = some (.cells #[.bool false, .string ⟨#[]⟩] 42) := by rw [hW0]; exact alloc_last _ _ (by simp)
  have hgl := lt_of_heap h
  have hz := lt_of_heap g2
  have G1 := Lib.hid g1
  have G2 : Hid (W0.heap[w.heap.size + 1]? = some (.cells #[.bool false, .string (zT ((absN F 0 : Nat) : Int))] 42)) := g2
  have GA := hG (Lib.hid h) hB0
  have B := Lib.hid hB0
  have HW0 := Lib.hid hW0
  have HF := Lib.hid hF
  have HS := Lib.hid hS
  clear hpost hW0 hB0 g1 g2 h hF hS
  go_enter Try.func42, Try.ntmps42
  go_upto_region 2 with (fail)
  rw [← HW0.out]
  go_wp2
  go_loopw [4] (fun iv wr => ∃ j : Nat, j ≤ n ∧ iv = .int .i64 (j : Int) ∧ Hid (Below w.heap.size w wr) ∧ Hid (wr.heap[g]? = some (.cells (wArr F n) 42)) ∧ Hid (wr.heap[w.heap.size]? = some (.cells #[.bool false, .string ⟨#[]⟩] 42)) ∧ Hid (wr.heap[w.heap.size + 1]? = some (.cells #[.bool false, .string (zT ((absN F j : Nat) : Int))] 42))) (fun iv _ => n - (intOf iv).toNat)
  case atStart => exact ⟨0, Nat.zero_le _, rfl, B.out, GA.out, G1.out, G2.out⟩
  case round =>
    obtain ⟨j, hj, rfl, HBr, HGr, HOr, HQr⟩ := hrel
    obtain ⟨wo, rfl⟩ : ∃ x, x = wr := ⟨_, rfl⟩
    by_cases hlt : j < n
    · have e0 : wo.cell? ⟨g, j * 2, none⟩ = some (.bool (zN (F j))) := by
        rw [cell_of_row wo g (j * 2) _ _ (0, 0) HGr.out]
        unfold wArr
        rw [wPart_get (by omega), if_pos (by omega), if_pos (by omega), show j * 2 / 2 = j by omega]
      have e1 : wo.cell? ⟨g, j * 2 + 1, none⟩ = some (.string (zT (F j))) := by
        rw [cell_of_row wo g (j * 2 + 1) _ _ (0, 0) HGr.out]
        unfold wArr
        rw [wPart_get (by omega), if_pos (by omega), if_neg (by omega), show (j * 2 + 1) / 2 = j by omega]
      have j1 : (j : Int) < (n : Int) := by omega
      have j2 : (0 : Int) ≤ (j : Int) := by omega
      have hFj := HF.out j hlt
      have HA := Lib.hid (refAbs_z (F j) hFj)
      obtain ⟨s, hs⟩ : ∃ s, s = zT (((F j).natAbs : Nat) : Int) := ⟨_, rfl⟩
      rw [← hs] at HA
      obtain ⟨t, ht⟩ : ∃ s, s = zT ((absN F j : Nat) : Int) := ⟨_, rfl⟩
      obtain ⟨u, hu⟩ : ∃ s, s = zT ((absN F (j + 1) : Nat) : Int) := ⟨_, rfl⟩
      have HAD : Hid (∀ W, Calls Try.prog 40 #[.agg #[.bool false, .string t], .agg #[.bool false, .string s]] W fun e w' => e = .returned (.tuple #[.agg #[.bool false, .string u], .int .i64 0]) ∧ Below W.heap.size W w') := fun W => by
        have hx : InR (((F j).natAbs : Nat) : Int) := by unfold InR at *; rw [Int.natAbs_natCast]; exact hFj
        have e : ((absN F j : Nat) : Int) + (((F j).natAbs : Nat) : Int) = ((absN F (j + 1) : Nat) : Int) := by show _ = ((absN F j + (F j).natAbs : Nat) : Int); omega
        have := refAdd_z _ _ (HS.out j hj) hx (by rw [e]; exact HS.out (j + 1) hlt) W
        unfold WideOk at this
        rwa [e, zN_nat, zN_nat, zN_nat, ← hs, ← ht, ← hu] at this
      have HU := Lib.hid hu
      rw [← ht] at HQr
      clear hs ht hu hFj
      go_wp2_with fail
      (with_reducible refine (HA.out _).mono ?_)
      rintro e w1 ⟨rfl, hb⟩
      replace HBr := hB HBr hb
      replace HGr := hG HGr hb
      replace HOr := hG HOr hb
      replace HQr := hG HQr hb
      clear hb e0 e1
      go_upto_region 6 with (fail)
      have hb := below_new w1 (.cells #[.bool false, .string s] 42)
      have hx := heap_alloc_new w1 (.cells #[.bool false, .string s] 42)
      obtain ⟨x, hxd⟩ : ∃ z, z = w1.heap.size := ⟨_, rfl⟩
      rw [← hxd] at hx ⊢
      generalize w1.alloc (.cells #[.bool false, .string s] 42) = w2 at hb hx ⊢
      replace HBr := hB HBr hb
      replace HGr := hG HGr hb
      replace HOr := hG HOr hb
      replace HQr := hG HQr hb
      obtain ⟨d0, d1, -⟩ := wide_cells hx
      obtain ⟨q0, q1, -⟩ := wide_cells HQr.out
      clear hb hxd hx
      go_wp2_with fail
      (with_reducible refine (HAD.out _).mono ?_)
      rintro e w3 ⟨rfl, hb⟩
      replace HBr := hB HBr hb
      replace HGr := hG HGr hb
      replace HOr := hG HOr hb
      replace HQr := hG HQr hb
      clear hb d0 d1 q0 q1
      obtain ⟨q0, q1, f0⟩ := wide_cells HQr.out
      have HQ6 := Lib.hid (wide_set HQr.out false u)
      have HB6 := Lib.hid (below_set2 (p := w.heap.size + 1) HBr.out (by omega) false u)
      have HG6 : Hid ((((w3.setCell ⟨w.heap.size + 1, 0, none⟩ (.bool false)).setCell ⟨w.heap.size + 1, 1, none⟩ (.string u))).heap[g]? = some (.cells (wArr F n) 42)) := ((Below.heap_setCell _ _ _ _ (by simp; omega)).trans (Below.heap_setCell _ _ _ _ (by simp; omega))).trans HGr.out
      have HO6 : Hid ((((w3.setCell ⟨w.heap.size + 1, 0, none⟩ (.bool false)).setCell ⟨w.heap.size + 1, 1, none⟩ (.string u))).heap[w.heap.size]? = some (.cells #[.bool false, .string ⟨#[]⟩] 42)) := ((Below.heap_setCell _ _ _ _ (by simp)).trans (Below.heap_setCell _ _ _ _ (by simp))).trans HOr.out
      go_wp2_with fail
      go_roundw
      case rel => exact ⟨j + 1, by omega, by go_num, HB6.out, HG6.out, HO6.out, by rw [← HU.out]; exact HQ6.out⟩
      case measure => simp [intOf]; omega
    · obtain rfl : j = n := by omega
      obtain ⟨q0, q1, -⟩ := wide_cells HQr.out
      obtain ⟨d0, d1, f0⟩ := wide_cells HOr.out
      obtain ⟨y, hy⟩ : ∃ y, y = zT ((absN F j : Nat) : Int) := ⟨_, rfl⟩
      rw [← hy] at q1
      have HY := Lib.hid hy
      clear hy
      have m2 := wide_set HOr.out false y
      have hb9 := below_set2 (p := w.heap.size) HBr.out (Nat.le_refl _) false y
      go_wp2
      clear d0 d1 f0 q0 q1
      obtain ⟨d20, d21, -⟩ := wide_cells m2
      clear m2
      generalize (wo.setCell ⟨w.heap.size, 0, none⟩ (.bool false)).setCell ⟨w.heap.size, 1, none⟩ (.string y) = W9 at d20 d21 hb9 ⊢
      rw [HP.out]
      exact bodyPost_ret (v := .agg #[.bool false, .string y]) (by simp [results, Try.results42, go_sem, d20, d21]) rfl ⟨by rw [HY.out], hb9⟩
end Go.Proofs.Ytkjlfjnncdkmlaa.G

/- Plain: automorphisms, as the law asks. -/
namespace Go.Proofs.Ytkjlfjnncdkmlaa.G
set_option linter.all false
theorem autB_spec {N k : Int} (h : autB N k = true) : 1 ≤ k ∧ k < 2 * N ∧ ((k.toNat : Nat) : Int) = k ∧ k.toNat % 2 = 1 := by
  unfold autB at h
  simp only [Bool.and_eq_true, decide_eq_true_eq] at h
  omega
open Go.RowKit Go.Shelf Go.BigFrame
end Go.Proofs.Ytkjlfjnncdkmlaa.G

/- Plain and contracts: norms of sums, products and automorphisms, with what stays in the range. -/
namespace Go.Proofs.Ytkjlfjnncdkmlaa.G
set_option linter.all false
open Go.RowKit Go.Shelf Go.BigFrame Go.WideNum
def NormAny (ok : Bool) (n : Nat) (F : Nat → Int) (w : World) (e : Ending) (w' : World) : Prop :=
  ∃ (s : ByteArray) (er : Int), e = .returned (.tuple #[.agg #[.bool false, .string s], .int .i64 er]) ∧ (ok = true → zT ((maxN F n : Nat) : Int) = s ∧ 0 = er) ∧ (ok = false → 2 = er) ∧ Below w.heap.size w w'
theorem NormPost.any {ok : Bool} {n : Nat} {F : Nat → Int} {w w' : World} {e : Ending} (h : NormPost ok n F w e w') : NormAny ok n F w e w' := by
  obtain ⟨he, hb⟩ := h
  cases ok with
  | true => rw [if_pos rfl] at he; exact ⟨_, _, he, fun _ => ⟨rfl, rfl⟩, fun h => (by cases h), hb⟩
  | false => rw [if_neg (by decide)] at he; exact ⟨_, _, he, fun h => (by cases h), fun _ => rfl, hb⟩
def WidesK (ok : Bool) (n : Nat) (F : Nat → Int) (a : Option Addr) (k c : Nat) (er : Int) (W : World) : Prop := ok = true → 0 = er ∧ n = k ∧ n = c ∧ ∃ g, some ⟨g, 0, none⟩ = a ∧ W.heap[g]? = some (.cells (wArr F n) 42)
theorem WidesK.below {ok : Bool} {n : Nat} {F : Nat → Int} {a : Option Addr} {k c : Nat} {er : Int} {W W' : World} (h : Hid (WidesK ok n F a k c er W)) (hb : Below W.heap.size W W') : Hid (WidesK ok n F a k c er W') := fun ho => by
  obtain ⟨h1, h2, h3, g, h4, h5⟩ := h.out ho
  exact ⟨h1, h2, h3, g, h4, (hG (Lib.hid h5) hb).out⟩
def WidesAny (ok : Bool) (n : Nat) (F : Nat → Int) (w : World) (e : Ending) (w' : World) : Prop :=
  ∃ (a : Option Addr) (k c : Nat) (er : Int), e = .returned (.tuple #[.slice a k c, .int .i64 er]) ∧ WidesK ok n F a k c er w' ∧ (ok = false → 2 = er) ∧ Below w.heap.size w w'
theorem WidesPost.any {ok : Bool} {n : Nat} {F : Nat → Int} {w w' : World} {e : Ending} (h : WidesPost ok n F w e w') : WidesAny ok n F w e w' := by
  obtain ⟨he, hb⟩ := h
  cases ok with
  | true =>
    rw [if_pos rfl] at he
    obtain ⟨g, he, -, hg⟩ := he
    exact ⟨_, _, _, _, he, fun _ => ⟨rfl, rfl, rfl, g, rfl, hg⟩, fun h => (by cases h), hb⟩
  | false => rw [if_neg (by decide)] at he; exact ⟨_, _, _, _, he, fun h => (by cases h), fun _ => rfl, hb⟩
def NormOk (N : Int) (chain : List Nat) (sp : Nat) (la : Int) (sa : Bool) (xs : List (List Nat)) : Prop := checkB N chain sp la sa xs = true ∧ AllP (modl chain sp la.toNat sa)
theorem norm_e {N pr pw wt er : Int} {cv av : Value} {chain : List Nat} {sp : Nat} {X : World} (hr : X.reads X.heap.size cv (chain.map u32V)) {la : Int} {sa : Bool} {xs : List (List Nat)} (ha : X.rows u32V X.heap.size av xs)
    (ok : Bool) (hok : ok = true ↔ NormOk N chain sp la sa xs) (n : Nat) (hn : n = N.toNat) (F : Nat → Int) (hF : F = wC (modl chain sp la.toNat sa) xs) :
    Calls Try.prog 39 #[.agg #[.int .i64 N, .int .u32 pr, .int .i64 pw, cv, .int .u32 (sp : Int), .int .i64 wt, .int .u32 er], .agg #[.int .i64 la, .bool sa, av]] X (NormAny ok n F X) :=
  (Norm_any N pr pw wt er cv chain sp la sa av xs X hr ha ok hok n hn F hF).mono fun _ _ h => h.any
theorem wides_e {N pr pw wt er : Int} {cv av : Value} {chain : List Nat} {sp : Nat} {X : World} (hr : X.reads X.heap.size cv (chain.map u32V)) {la : Int} {sa : Bool} {xs : List (List Nat)} (ha : X.rows u32V X.heap.size av xs)
    (ok : Bool) (hok : ok = true ↔ NormOk N chain sp la sa xs) (n : Nat) (hn : n = N.toNat) (F : Nat → Int) (hF : F = wC (modl chain sp la.toNat sa) xs) :
    Calls Try.prog 14 #[.agg #[.int .i64 N, .int .u32 pr, .int .i64 pw, cv, .int .u32 (sp : Int), .int .i64 wt, .int .u32 er], .agg #[.int .i64 la, .bool sa, av]] X (WidesAny ok n F X) := by
  subst hn hF
  exact (Wides_any N pr pw wt er cv chain sp la sa av xs X hr ha ok hok).mono fun _ _ h => h.any
theorem twoB_spec {N la lb : Int} {chain : List Nat} {sp : Nat} {sa sb : Bool} {xs ys : List (List Nat)} (h : true = twoB N chain sp la lb sa sb xs ys) : checkB N chain sp la sa xs = true ∧ checkB N chain sp lb sb ys = true ∧ la = lb ∧ sa = sb := by
  have h := h.symm
  unfold twoB at h
  simp only [Bool.and_eq_true, decide_eq_true_eq, beq_iff_eq] at h
  obtain ⟨⟨⟨h1, h2⟩, h3⟩, h4⟩ := h
  exact ⟨h1, h2, h3, h4⟩
theorem absN_max (F : Nat → Int) {n : Nat} {M : Nat} (h : ∀ i, i < n → (F i).natAbs ≤ M) : ∀ j, j ≤ n → absN F j ≤ j * M
  | 0, _ => by simp [absN]
  | j + 1, hj => by
    have h1 := absN_max F h j (by omega)
    have h2 := h j hj
    show absN F j + (F j).natAbs ≤ (j + 1) * M
    rw [Nat.succ_mul]
    omega
structure Rng (n : Nat) (F : Nat → Int) (G : Nat → Int) : Prop where
  f : ∀ i, i < n → InR (F i)
  a : InR ((maxN F n : Nat) : Int)
  b : InR ((maxN G n : Nat) : Int)
  s : ∀ j, j ≤ n → InR ((absN F j : Nat) : Int)
  add : InR ((maxN F n + maxN G n : Nat) : Int)
  mul : InR ((absN F n * maxN G n : Nat) : Int)
theorem inR_lt {z : Nat} {k : Nat} (h : z ≤ 4294967296 ^ k) (hk : k < 64) : InR (z : Int) :=
  inR_of (k := k + 1) (by rw [Int.natAbs_natCast]; exact Nat.lt_of_le_of_lt h (Nat.pow_lt_pow_right (by omega) (by omega))) (by omega)
theorem rng_of {n : Nat} (hn : n ≤ 32) {F G : Nat → Int} (hF : ∀ i, i < n → (F i).natAbs ≤ 4294967296 ^ 25) (hG : ∀ i, i < n → (G i).natAbs ≤ 4294967296 ^ 25) : Rng n F G := by
  have m1 : maxN F n ≤ 4294967296 ^ 25 := maxN_le hF
  have m2 : maxN G n ≤ 4294967296 ^ 25 := maxN_le hG
  have p1 : 32 * 4294967296 ^ 25 ≤ 4294967296 ^ 26 := by rw [Nat.pow_succ _ 25, Nat.mul_comm]; exact Nat.mul_le_mul_left _ (by omega)
  have s1 : ∀ j, j ≤ n → absN F j ≤ 4294967296 ^ 26 := fun j hj => Nat.le_trans (absN_max F hF j hj) (Nat.le_trans (Nat.mul_le_mul_right _ (by omega)) p1)
  refine ⟨fun i hi => ?_, inR_lt m1 (by omega), inR_lt m2 (by omega), fun j hj => inR_lt (s1 j hj) (by omega), inR_lt (k := 26) ?_ (by omega), inR_lt (k := 26 + 25) ?_ (by omega)⟩
  · exact inR_of (k := 26) (Nat.lt_of_le_of_lt (hF i hi) (Nat.pow_lt_pow_right (by omega) (by omega))) (by omega)
  · omega
  · rw [Nat.pow_add]
    exact Nat.mul_le_mul (s1 n (Nat.le_refl _)) m2
theorem wC_bound {N la : Int} {chain : List Nat} {sp : Nat} {sa : Bool} {xs rows : List (List Nat)} (h : NormOk N chain sp la sa xs) (i : Nat) : (wC (modl chain sp la.toNat sa) rows i).natAbs ≤ 4294967296 ^ 25 := by
  obtain ⟨hc, hA⟩ := h
  obtain ⟨n', lv, e1, e2, -, i2, i3, i4, i5, i6, i7⟩ := checkB_elt hc
  subst e1 e2
  unfold checkB preB at hc
  simp only [Bool.and_eq_true] at hc
  rw [Int.toNat_natCast] at *
  have hs := sys_modl hc.1.1 hc.1.2 hA
  have hml := modl_length chain sp lv sa i4
  have h1 := joinZ_abs (rs := colL rows i) hs.sep
  have h2 := prodL_le25 hs.sep (by rw [hml]; cases sa <;> simp <;> omega)
  unfold wC
  omega
theorem norm_sys {N la : Int} {chain : List Nat} {sp : Nat} {sa : Bool} {xs : List (List Nat)} (h : NormOk N chain sp la sa xs) : SysP (modl chain sp la.toNat sa) := by
  obtain ⟨hc, hA⟩ := h
  obtain ⟨n', lv, e1, e2, -, i2, i3, i4, i5, i6, i7⟩ := checkB_elt hc
  subst e1 e2
  unfold checkB preB at hc
  simp only [Bool.and_eq_true] at hc
  rw [Int.toNat_natCast] at *
  exact sys_modl hc.1.1 hc.1.2 hA
theorem norm_zip {N la : Int} {chain : List Nat} {sp : Nat} {sa : Bool} {xs : List (List Nat)} (h : NormOk N chain sp la sa xs) (f : Nat → List Nat → List Nat → List Nat) (us vs : List (List Nat)) (hf : ∀ q, 0 < q → ∀ a b, (f q a b).length = N.toNat ∧ ∀ x ∈ f q a b, x < q) :
    NormOk N chain sp la sa (zipRows f (modl chain sp la.toNat sa) us vs (modl chain sp la.toNat sa).length) := ⟨checkB_zip h.1 f us vs hf, h.2⟩
theorem norms_plain {N la lb : Int} {chain : List Nat} {sp : Nat} {sa sb : Bool} {xs ys : List (List Nat)} (hA : NormOk N chain sp la sa xs) (hB : NormOk N chain sp lb sb ys) (h3 : true = twoB N chain sp la lb sa sb xs ys) {n : Nat} (hn : n = N.toNat) {FA FB FS FM : Nat → Int}
    (hFA : FA = wC (modl chain sp la.toNat sa) xs) (hFB : FB = wC (modl chain sp lb.toNat sb) ys) (hFS : FS = wC (modl chain sp la.toNat sa) (zipRows (sumRow 1 N.toNat) (modl chain sp la.toNat sa) xs ys (modl chain sp la.toNat sa).length)) (hFM : FM = wC (modl chain sp la.toNat sa) (zipRows (prodRow N.toNat) (modl chain sp la.toNat sa) xs ys (modl chain sp la.toNat sa).length)) :
    NormOk N chain sp la sa (zipRows (sumRow 1 N.toNat) (modl chain sp la.toNat sa) xs ys (modl chain sp la.toNat sa).length) ∧ NormOk N chain sp la sa (zipRows (prodRow N.toNat) (modl chain sp la.toNat sa) xs ys (modl chain sp la.toNat sa).length) ∧ n ≤ 32 ∧ Rng n FA FB ∧ Rng n FS FM ∧ maxN FS n ≤ maxN FA n + maxN FB n ∧ maxN FM n ≤ absN FA n * maxN FB n := by
  obtain ⟨h1, h2, e1, e2⟩ := twoB_spec h3
  subst e1 e2
  obtain ⟨k1, k2, k3, -, -, -, -, -, k5, -⟩ := checkB_spec h1
  obtain ⟨-, -, -, -, -, -, -, -, k6, -⟩ := checkB_spec h2
  have hs := norm_sys hA
  have a1 := norm_zip hA (sumRow 1 N.toNat) xs ys (fun q hq a b => sumRow_ok 1 N.toNat q hq a b)
  have a2 := norm_zip hA (prodRow N.toNat) xs ys (fun q hq a b => prodRow_ok N.toNat q hq a b)
  subst hn
  refine ⟨a1, a2, k2, rng_of k2 (fun i _ => ?_) (fun i _ => ?_), rng_of k2 (fun i _ => ?_) (fun i _ => ?_), ?_, ?_⟩
  · rw [hFA]; exact wC_bound hA i
  · rw [hFB]; exact wC_bound hA i
  · rw [hFS]; exact wC_bound hA i
  · rw [hFM]; exact wC_bound hA i
  · rw [hFA, hFB, hFS]; exact norm_sum hs k5 k6
  · rw [hFA, hFB, hFM]; exact norm_mul hs k5 k6
theorem norma_plain {N la kk : Int} {chain : List Nat} {sp : Nat} {sa : Bool} {xs : List (List Nat)} (hA : NormOk N chain sp la sa xs) (h6 : true = (checkB N chain sp la sa xs && autB N kk)) {n : Nat} (hn : n = N.toNat) {FA FX : Nat → Int}
    (hFA : FA = wC (modl chain sp la.toNat sa) xs) (hFX : FX = wC (modl chain sp la.toNat sa) (zipRows (autR N.toNat kk.toNat) (modl chain sp la.toNat sa) xs xs (modl chain sp la.toNat sa).length)) :
    NormOk N chain sp la sa (zipRows (autR N.toNat kk.toNat) (modl chain sp la.toNat sa) xs xs (modl chain sp la.toNat sa).length) ∧ maxN FX n = maxN FA n := by
  obtain ⟨h1, h2⟩ := and_of h6
  obtain ⟨k1, k2, k3, -, -, -, -, -, k5, k7⟩ := checkB_spec h1
  obtain ⟨-, -, -, ho⟩ := autB_spec h2
  subst hn
  refine ⟨norm_zip hA (autR N.toNat kk.toNat) xs xs (fun q hq a b => autR_ok N.toNat kk.toNat q hq a b), ?_⟩
  rw [hFA, hFX]
  exact norm_aut (norm_sys hA) k5 k7 ho xs
theorem add_n {a b : Nat} (ha : InR (a : Int)) (hb : InR (b : Int)) (h : InR ((a + b : Nat) : Int)) (W : World) :
    Calls Try.prog 40 #[.agg #[.bool false, .string (zT (a : Int))], .agg #[.bool false, .string (zT (b : Int))]] W fun e w' => e = .returned (.tuple #[.agg #[.bool false, .string (zT ((a + b : Nat) : Int))], .int .i64 0]) ∧ Below W.heap.size W w' := by
  have e : (a : Int) + (b : Int) = ((a + b : Nat) : Int) := by omega
  have := refAdd_z _ _ ha hb (by rw [e]; exact h) W
  unfold WideOk at this
  rwa [e, zN_nat, zN_nat, zN_nat] at this
theorem mul_n {a b : Nat} (ha : InR (a : Int)) (hb : InR (b : Int)) (h : InR ((a * b : Nat) : Int)) (W : World) :
    Calls Try.prog 41 #[.agg #[.bool false, .string (zT (a : Int))], .agg #[.bool false, .string (zT (b : Int))]] W fun e w' => e = .returned (.tuple #[.agg #[.bool false, .string (zT ((a * b : Nat) : Int))], .int .i64 0]) ∧ Below W.heap.size W w' := by
  have e : (a : Int) * (b : Int) = ((a * b : Nat) : Int) := (Int.natCast_mul a b).symm
  have := refMul_z _ _ ha hb (by rw [e]; exact h) W
  unfold WideOk at this
  rwa [e, zN_nat, zN_nat, zN_nat] at this
end Go.Proofs.Ytkjlfjnncdkmlaa.G

/- What the reading of an argument tells of its value. -/

/- What the reading of an argument tells of its value: slices of integers, and slices of these. -/
namespace Go
open RowKit ChangeShapes
section
variable {H : Type} {enc : TypeId × Value → H} {P : Program} {w : World} {held : Bool} {fuel : Nat} {t e q : TypeId} {cs : List Value} {x : DataW H × List MemPlace}
theorem addr_none {a : Addr} {v : Value} {w : World} (h : w.cell? (a.add 0) = some v) : ∃ b off, a = ⟨b, off, none⟩ ∧ b < w.heap.size := by
  obtain ⟨b, off, spot⟩ := a
  obtain rfl : spot = none := by
    have := World.cell?_spot h
    simpa [Addr.add] using this
  exact ⟨b, off, rfl, by have := World.block_lt_of_cell? w _ h; simpa [Addr.add] using this⟩
theorem add_none (b off j : Nat) : (⟨b, off, none⟩ : Addr).add j = ⟨b, off + j, none⟩ := by unfold Addr.add; split <;> simp_all
/-- A slice of integers. -/
theorem trod_reads {k : IntKind} (ht : P.underlying t = some (.slice e)) (he : P.underlying e = some (.int k)) (hc : P.cellsOf e = 1) (h : DataW.trod enc P w 0 (fun _ => true) held fuel t cs = some x) :
    ∃ (v : Value) (zs : List Int), cs = [v] ∧ w.reads w.heap.size v (zs.map (Value.int k)) ∧ ∀ z ∈ zs, (Lit.int k z).wf = true := by
  rcases open_ints ht he hc h with ⟨hcs, _⟩ | ⟨a, len, cap, zs, hcs, _, hl, hm, hz, _, hcell, hw⟩
  · exact ⟨_, [], hcs, reads_nil _ _, by simp⟩
  · simp only [if_true] at hz
    refine ⟨_, zs.take len, hcs, ⟨some a, cap, by simp; omega, by simp, by simp; omega, hm, fun j u hj => ?_⟩, fun z hz' => hw z (List.mem_of_mem_take hz')⟩
    have hj' : j < len ∧ j < zs.length := by
      have h1 := (List.getElem?_eq_some_iff.1 hj).1
      simp at h1; omega
    obtain ⟨b, off, rfl, hb⟩ := addr_none (hcell 0 (by omega))
    have hcj := hcell j hj'.2
    rw [add_none] at hcj
    refine ⟨b, off, rfl, hb, ?_⟩
    rw [hcj]
    simp [hj'.1, hj'.2] at hj ⊢
    exact hj
/-- A slice of slices of integers. -/
theorem trod_rows {k : IntKind} (ht : P.underlying t = some (.slice e)) (he : P.underlying e = some (.slice q)) (hq : P.underlying q = some (.int k)) (ce : P.cellsOf e = 1) (cq : P.cellsOf q = 1) (h : DataW.trod enc P w 0 (fun _ => true) held fuel t cs = some x) :
    ∃ (v : Value) (rs : List (List Int)), cs = [v] ∧ w.rows (Value.int k) w.heap.size v rs ∧ ∀ r ∈ rs, ∀ z ∈ r, (Lit.int k z).wf = true := by
  rcases Deep.open_int_rows ht he hq ce cq h with ⟨hcs, _⟩ | ⟨a, len, cap, A, L, C, Z, hcs, _, hl, hm, _, hrow⟩
  · exact ⟨_, [], hcs, ⟨[], rfl, reads_nil _ _, fun i r hr => by simp at hr⟩, by simp⟩
  · refine ⟨_, (List.range len).map fun r => (Z r).take (L r), hcs, ⟨(List.range len).map fun r => .slice (A r) (L r) (C r), by simp, ?_, fun i r hr => ?_⟩, fun r hr z hz => ?_⟩
    · refine ⟨some a, cap, by simp, by simp, by simpa using hl, hm, fun j u hj => ?_⟩
      have hj' : j < len := by
        have h1 := (List.getElem?_eq_some_iff.1 hj).1
        simpa using h1
      obtain ⟨hc0, -⟩ := hrow 0 (by omega)
      obtain ⟨hcj, -⟩ := hrow j (by omega)
      obtain ⟨b, off, rfl, hb⟩ := addr_none hc0
      rw [add_none] at hcj
      refine ⟨b, off, rfl, hb, ?_⟩
      rw [hcj]
      simpa [hj'] using hj
    · have hi : i < len := by
        have h1 := (List.getElem?_eq_some_iff.1 hr).1
        simpa using h1
      obtain ⟨-, h1, h2, h3, h4, h5, h6⟩ := hrow i (by omega)
      obtain rfl : r = (Z i).take (L i) := by simpa [hi] using hr.symm
      refine ⟨.slice (A i) (L i) (C i), by simp [hi], ?_⟩
      refine ⟨A i, C i, by simp; omega, h5, by simp; omega, h2, fun j u hj => ?_⟩
      have hj' : j < L i ∧ j < (Z i).length := by
        have h1 := (List.getElem?_eq_some_iff.1 hj).1
        simp at h1; omega
      obtain ⟨a', ha'⟩ : ∃ a', A i = some a' := by
        cases hA : A i with
        | none => have := h5 hA; omega
        | some a' => exact ⟨a', rfl⟩
      obtain ⟨-, h7⟩ := h6 a' ha'
      obtain ⟨b, off, rfl, hb⟩ := addr_none (h7 0 (by omega))
      have hcj := h7 j (by omega)
      rw [add_none] at hcj
      refine ⟨b, off, ha', hb, ?_⟩
      rw [hcj]
      simp [hj'.1, hj'.2] at hj ⊢
      exact hj
    · simp only [List.mem_map, List.mem_range] at hr
      obtain ⟨i, hi, rfl⟩ := hr
      obtain ⟨-, -, -, -, h4, -⟩ := hrow i (by omega)
      exact h4 z (List.mem_of_mem_take hz)
theorem nats_of : ∀ (zs : List Int), (∀ z ∈ zs, (Lit.int .u32 z).wf = true) → ∃ l : List Nat, zs = l.map Int.ofNat ∧ ∀ q ∈ l, q < 4294967296
  | [], _ => ⟨[], rfl, by simp⟩
  | z :: zs, h => by
    obtain ⟨l, rfl, hl⟩ := nats_of zs (fun y hy => h y (by simp [hy]))
    have hb := bounds_u32 (h z (by simp))
    refine ⟨z.toNat :: l, by simp; omega, fun q hq => ?_⟩
    rcases List.mem_cons.1 hq with rfl | hq
    · omega
    · exact hl q hq
theorem rows_nats_of : ∀ (zs : List (List Int)), (∀ r ∈ zs, ∀ z ∈ r, (Lit.int .u32 z).wf = true) → ∃ l : List (List Nat), zs = l.map (·.map Int.ofNat) ∧ ∀ r ∈ l, ∀ q ∈ r, q < 4294967296
  | [], _ => ⟨[], rfl, by simp⟩
  | r :: zs, h => by
    obtain ⟨l, rfl, hl⟩ := rows_nats_of zs (fun y hy => h y (by simp [hy]))
    obtain ⟨l1, rfl, h1⟩ := nats_of r (h r (by simp))
    refine ⟨l1 :: l, by simp, fun q hq => ?_⟩
    rcases List.mem_cons.1 hq with rfl | hq
    · exact h1
    · exact hl q hq
theorem trod_reads32 (ht : P.underlying t = some (.slice e)) (he : P.underlying e = some (.int .u32)) (hc : P.cellsOf e = 1) (h : DataW.trod enc P w 0 (fun _ => true) held fuel t cs = some x) :
    ∃ (v : Value) (l : List Nat), cs = [v] ∧ w.reads w.heap.size v (l.map u32V) ∧ ∀ q ∈ l, q < 4294967296 := by
  obtain ⟨v, zs, h1, h2, h3⟩ := trod_reads ht he hc h
  obtain ⟨l, rfl, hl⟩ := nats_of zs h3
  exact ⟨v, l, h1, by rw [List.map_map] at h2; exact h2, hl⟩
theorem trod_rows32 (ht : P.underlying t = some (.slice e)) (he : P.underlying e = some (.slice q)) (hq : P.underlying q = some (.int .u32)) (ce : P.cellsOf e = 1) (cq : P.cellsOf q = 1) (h : DataW.trod enc P w 0 (fun _ => true) held fuel t cs = some x) :
    ∃ (v : Value) (rs : List (List Nat)), cs = [v] ∧ w.rows u32V w.heap.size v rs ∧ ∀ r ∈ rs, ∀ q ∈ r, q < 4294967296 := by
  obtain ⟨v, zs, h1, ⟨vs, h2, h3, h4⟩, h5⟩ := trod_rows ht he hq ce cq h
  obtain ⟨l, rfl, hl⟩ := rows_nats_of zs h5
  refine ⟨v, l, h1, ⟨vs, by simpa using h2, h3, fun i r hr => ?_⟩, hl⟩
  obtain ⟨u, hu, hur⟩ := h4 i (r.map Int.ofNat) (by simp [hr])
  exact ⟨u, hu, by rw [List.map_map] at hur; exact hur⟩
/-- A field of a struct. -/
theorem trod_field {fs : Array Field} (ht : P.underlying t = some (.struct fs)) (h : DataW.trod enc P w 0 (fun _ => true) held fuel t cs = some x) (j : Nat) (f : Field) (hj : fs[j]? = some f) :
    ∃ n y, DataW.trod enc P w 0 (fun _ => true) held n f.type ((cs.drop f.offset).take (P.cellsOf f.type)) = some y := by
  obtain ⟨xs, m, rfl, hx, hl, hlen, hget⟩ := DataW.trod_struct ht h
  have hj' := (Array.getElem?_eq_some_iff.1 hj).1
  exact ⟨m, _, (hget j f hj).trans (List.getElem?_eq_getElem (by omega))⟩
end
end Go

/- What the reading of an argument tells of its value: parameters, elements, a case of the ring's laws. -/
namespace Go.Proofs.Ytkjlfjnncdkmlaa.G
set_option linter.all false
open Go.RowKit Go.WideShapes Go.ChangeShapes
theorem i64_bounds {z : Int} (h : (Lit.int .i64 z).wf = true) : -9223372036854775808 ≤ z ∧ z ≤ 9223372036854775807 := by
  have h2 : IntKind.i64.min ≤ z ∧ z ≤ IntKind.i64.max := by simpa [Lit.wf] using h
  have h3 : IntKind.i64.min = -9223372036854775808 := by decide
  have h4 : IntKind.i64.max = 9223372036854775807 := by decide
  omega
theorem i64_bounds_all {l : List Int} (h : ∀ z ∈ l, (Lit.int .i64 z).wf = true) : ∀ z ∈ l, -9223372036854775808 ≤ z ∧ z ≤ 9223372036854775807 := fun z hz => i64_bounds (h z hz)
set_option maxRecDepth 100000 in
theorem open_rcase {H : Type} {enc : TypeId × Value → H} {W : World} {base : Nat} {v : Value} {d : DataW H} {p : List MemPlace} (hv : Value.okWide Try.prog W .any base 31 v) (h : DataW.Trod enc Try.prog W 0 (fun _ => true) true 31 v d p) :
    ∃ c : RCase, v = .agg c.cells ∧ c.reads W.heap.size W ∧ (-9223372036854775808 ≤ c.num ∧ c.num ≤ 9223372036854775807) ∧ (-9223372036854775808 ≤ c.kk ∧ c.kk ≤ 9223372036854775807) ∧ (-9223372036854775808 ≤ c.level ∧ c.level ≤ 9223372036854775807) ∧ (∀ z ∈ c.ls, -9223372036854775808 ≤ z ∧ z ≤ 9223372036854775807) ∧ (∀ q ∈ c.chain, q < 4294967296) ∧ c.sp < 4294967296 ∧ (∀ r ∈ c.xs, ∀ q ∈ r, q < 4294967296) ∧ (∀ r ∈ c.ys, ∀ q ∈ r, q < 4294967296) ∧ (-9223372036854775808 ≤ c.N ∧ c.N ≤ 9223372036854775807) := by
  have c25 : Try.prog.cellsOf 25 = 7 := by kernel_rfl
  have c28 : Try.prog.cellsOf 28 = 3 := by kernel_rfl
  have c22 : Try.prog.cellsOf 22 = 1 := by kernel_rfl
  have c23 : Try.prog.cellsOf 23 = 1 := by kernel_rfl
  have c26 : Try.prog.cellsOf 26 = 1 := by kernel_rfl
  have c3 : Try.prog.cellsOf 3 = 1 := by kernel_rfl
  have c4 : Try.prog.cellsOf 4 = 1 := by kernel_rfl
  have c29 : Try.prog.cellsOf 29 = 1 := by kernel_rfl
  have c2 : Try.prog.cellsOf 2 = 1 := by kernel_rfl
  have c31 : Try.prog.cellsOf 31 = 18 := by kernel_rfl
  obtain ⟨cs, rfl, hsz⟩ := okWide_struct Try.underlying31 hv
  obtain ⟨fuel, hf⟩ := h
  have hl' : cs.toList.length = 18 := by rw [c31] at hsz; simpa using hsz
  obtain ⟨_, _, hP⟩ := trod_field Try.underlying31 hf 0 _ rfl
  obtain ⟨_, _, hA⟩ := trod_field Try.underlying31 hf 1 _ rfl
  obtain ⟨_, _, hB⟩ := trod_field Try.underlying31 hf 2 _ rfl
  obtain ⟨_, _, h3⟩ := trod_field Try.underlying31 hf 3 _ rfl
  obtain ⟨_, _, h4⟩ := trod_field Try.underlying31 hf 4 _ rfl
  obtain ⟨_, _, h5⟩ := trod_field Try.underlying31 hf 5 _ rfl
  obtain ⟨_, _, h6⟩ := trod_field Try.underlying31 hf 6 _ rfl
  obtain ⟨_, _, h7⟩ := trod_field Try.underlying31 hf 7 _ rfl
  obtain ⟨_, _, p0⟩ := trod_field Try.underlying25 hP 0 _ rfl
  obtain ⟨_, _, p1⟩ := trod_field Try.underlying25 hP 1 _ rfl
  obtain ⟨_, _, p2⟩ := trod_field Try.underlying25 hP 2 _ rfl
  obtain ⟨_, _, p3⟩ := trod_field Try.underlying25 hP 3 _ rfl
  obtain ⟨_, _, p4⟩ := trod_field Try.underlying25 hP 4 _ rfl
  obtain ⟨_, _, p5⟩ := trod_field Try.underlying25 hP 5 _ rfl
  obtain ⟨_, _, p6⟩ := trod_field Try.underlying25 hP 6 _ rfl
  obtain ⟨_, _, a0⟩ := trod_field Try.underlying28 hA 0 _ rfl
  obtain ⟨_, _, a1⟩ := trod_field Try.underlying28 hA 1 _ rfl
  obtain ⟨_, _, a2⟩ := trod_field Try.underlying28 hA 2 _ rfl
  obtain ⟨_, _, b0⟩ := trod_field Try.underlying28 hB 0 _ rfl
  obtain ⟨_, _, b1⟩ := trod_field Try.underlying28 hB 1 _ rfl
  obtain ⟨_, _, b2⟩ := trod_field Try.underlying28 hB 2 _ rfl
  obtain ⟨N, e0, -, w0⟩ := DataW.trod_int Try.underlying3 p0
  obtain ⟨pr, e1, -, -⟩ := DataW.trod_int Try.underlying22 p1
  obtain ⟨pw, e2, -, -⟩ := DataW.trod_int Try.underlying3 p2
  obtain ⟨cv, chain, e3, hchain, hcb⟩ := trod_reads32 Try.underlying23 Try.underlying22 c22 p3
  obtain ⟨sp, e4, -, w4⟩ := DataW.trod_int Try.underlying22 p4
  obtain ⟨wt, e5, -, -⟩ := DataW.trod_int Try.underlying3 p5
  obtain ⟨er, e6, -, -⟩ := DataW.trod_int Try.underlying22 p6
  obtain ⟨la, e7, -, -⟩ := DataW.trod_int Try.underlying3 a0
  obtain ⟨sa, e8, -⟩ := DataW.trod_bool Try.underlying4 a1
  obtain ⟨av, xs, e9, hxs, hxb⟩ := trod_rows32 Try.underlying26 Try.underlying23 Try.underlying22 c23 c22 a2
  obtain ⟨lb, e10, -, -⟩ := DataW.trod_int Try.underlying3 b0
  obtain ⟨sb, e11, -⟩ := DataW.trod_bool Try.underlying4 b1
  obtain ⟨bv, ys, e12, hys, hyb⟩ := trod_rows32 Try.underlying26 Try.underlying23 Try.underlying22 c23 c22 b2
  obtain ⟨num, e13, -, w13⟩ := DataW.trod_int Try.underlying2 h3
  obtain ⟨kk, e14, -, w14⟩ := DataW.trod_int Try.underlying3 h4
  obtain ⟨level, e15, -, w15⟩ := DataW.trod_int Try.underlying3 h5
  obtain ⟨special, e16, -⟩ := DataW.trod_bool Try.underlying4 h6
  obtain ⟨lw, ls, e17, hls, hlb⟩ := trod_reads Try.underlying29 Try.underlying2 c2 h7
  have hsp := bounds_u32 w4
  refine ⟨⟨N, pr, pw, wt, er, la, lb, num, kk, level, cv, av, bv, lw, sa, sb, special, chain, sp.toNat, xs, ys, ls⟩, ?_, ⟨hchain, hxs, hys, hls⟩, i64_bounds w13, i64_bounds w14, i64_bounds w15, i64_bounds_all hlb, hcb, by show sp.toNat < _; omega, hxb, hyb, i64_bounds w0⟩
  have hsn : ((sp.toNat : Nat) : Int) = sp := by omega
  unfold RCase.cells
  simp only [hsn]
  congr 1
  apply Array.ext'
  simp only [Value.cells] at e0 e1 e2 e3 e4 e5 e6 e7 e8 e9 e10 e11 e12 e13 e14 e15 e16 e17
  clear p0 p1 p2 p3 p4 p5 p6 a0 a1 a2 b0 b1 b2 h3 h4 h5 h6 h7 hP hA hB hf hv
  generalize cs.toList = l at *
  match l, hl' with
  | [k0, k1, k2, k3, k4, k5, k6, k7, k8, k9, k10, k11, k12, k13, k14, k15, k16, k17], _ =>
    simp [c25, c28, c22, c23, c26, c3, c4, c29, c2] at e0 e1 e2 e3 e4 e5 e6 e7 e8 e9 e10 e11 e12 e13 e14 e15 e16 e17
    simp [e0, e1, e2, e3, e4, e5, e6, e7, e8, e9, e10, e11, e12, e13, e14, e15, e16, e17]
end Go.Proofs.Ytkjlfjnncdkmlaa.G
