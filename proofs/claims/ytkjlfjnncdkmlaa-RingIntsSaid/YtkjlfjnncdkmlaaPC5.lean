/- Helpers and walks, in one text. -/
import Derived.Test.YtkjlfjnncdkmlaaPC4
import Derived.ProofKit
import Derived.OpenShut
import Derived.ShutString
import Derived.ChangeOld
import Derived.SliceStrings
import Derived.Deep.Matrix
import Derived.WideShapes
/- Walks: what the ring's laws leave out, of a case. -/
namespace Go.Proofs.Ytkjlfjnncdkmlaa.G
set_option linter.all false
open Go.RowKit Go.Shelf Go.BigFrame
attribute [local go_sem] Oper.semAt_some
/-- A case of the ring's laws: what it is made of. -/
structure RCase where
  (N pr pw wt er la lb num kk level : Int)
  (cv av bv lw : Value)
  (sa sb special : Bool)
  (chain : List Nat)
  (sp : Nat)
  (xs ys : List (List Nat))
  (ls : List Int)
def RCase.cells (c : RCase) : Array Value := #[.int .i64 c.N, .int .u32 c.pr, .int .i64 c.pw, c.cv, .int .u32 (c.sp : Int), .int .i64 c.wt, .int .u32 c.er, .int .i64 c.la, .bool c.sa, c.av, .int .i64 c.lb, .bool c.sb, c.bv, .int .i64 c.num, .int .i64 c.kk, .int .i64 c.level, .bool c.special, c.lw]
def RCase.reads (c : RCase) (B : Nat) (w : World) : Prop := w.reads B c.cv (c.chain.map u32V) ∧ w.rows u32V B c.av c.xs ∧ w.rows u32V B c.bv c.ys ∧ w.reads B c.lw (c.ls.map i64V)
theorem RCase.reads.below {c : RCase} {B : Nat} {w w' : World} (h : c.reads B w) (hb : Below B w w') : c.reads B w' := ⟨h.1.below hb, h.2.1.below hb, h.2.2.1.below hb, h.2.2.2.below hb⟩
theorem RCase.reads.mono {c : RCase} {B B' : Nat} {w : World} (h : c.reads B w) (hb : B ≤ B') : c.reads B' w := ⟨h.1.mono hb, h.2.1.mono hb, h.2.2.1.mono hb, h.2.2.2.mono hb⟩
def largeB (c : RCase) : Bool := hugeB c.xs || hugeB c.ys || decide (100 < c.chain.length) || decide (100 < c.ls.length)
set_option maxRecDepth 100000 in
set_option maxHeartbeats 16000000 in
theorem large_any (c : RCase) (w : World) (h : c.reads w.heap.size w) : Calls Try.prog 11 #[.agg c.cells] w fun e w' => e = .returned (.bool (largeB c)) ∧ Below w.heap.size w w' := by
  obtain ⟨HPOST, hpost⟩ : ∃ R : Ending → World → Prop, R = fun e w' => e = .returned (.bool (largeB c)) ∧ Below w.heap.size w w' := ⟨_, rfl⟩
  rw [← hpost]
  have HP := Lib.hid hpost
  clear hpost
  obtain ⟨hrc, hra, hrb, hrl⟩ := h
  obtain ⟨c1, cc, hcv, hcc, hcm, -⟩ := reads_u32 hrc
  obtain ⟨l1, lc, hlv, hlc, hlm, -⟩ := reads_i64 hrl
  have HRA := Lib.hid hra
  have HRB := Lib.hid hrb
  clear hrc hra hrb hrl
  unfold RCase.cells
  rw [hcv, hlv]
  obtain ⟨m, hm⟩ : ∃ m, m = c.chain.length := ⟨_, rfl⟩
  obtain ⟨L, hL⟩ : ∃ L, L = c.ls.length := ⟨_, rfl⟩
  rw [← hm] at hcc ⊢
  rw [← hL] at hlc ⊢
  obtain ⟨W0, hW0⟩ : ∃ W0, W0 = w.alloc (.cells #[.int .i64 c.N, .int .u32 c.pr, .int .i64 c.pw, .slice c1 m cc, .int .u32 (c.sp : Int), .int .i64 c.wt, .int .u32 c.er, .int .i64 c.la, .bool c.sa, c.av, .int .i64 c.lb, .bool c.sb, c.bv, .int .i64 c.num, .int .i64 c.kk, .int .i64 c.level, .bool c.special, .slice l1 L lc] 31) := ⟨_, rfl⟩
  have hB0 : Below w.heap.size w W0 := by rw [hW0]; exact (Below.refl _ w).alloc (Nat.le_refl _) _
  have g0 : W0.heap[w.heap.size]? = some (.cells #[.int .i64 c.N, .int .u32 c.pr, .int .i64 c.pw, .slice c1 m cc, .int .u32 (c.sp : Int), .int .i64 c.wt, .int .u32 c.er, .int .i64 c.la, .bool c.sa, c.av, .int .i64 c.lb, .bool c.sb, c.bv, .int .i64 c.num, .int .i64 c.kk, .int .i64 c.level, .bool c.special, .slice l1 L lc] 31) := by
    rw [hW0]; exact alloc_last _ _ rfl
  have hz0 := lt_of_heap g0
  have HA := Lib.hid (huge_any c.la c.sa c.av c.xs w.heap.size W0 (HRA.out.below hB0) hB0.size)
  have HB := Lib.hid (fun W hb => huge_any c.lb c.sb c.bv c.ys w.heap.size W (HRB.out.below (hB0.trans (Below.mono hb hB0.size))) (Nat.le_trans hB0.size (Below.size hb)))
  have HK : Hid (∀ W, Below W0.heap.size W0 W → W.cell? ⟨w.heap.size, 3, none⟩ = some (.slice c1 m cc) ∧ W.cell? ⟨w.heap.size, 7, none⟩ = some (.int .i64 c.la) ∧ W.cell? ⟨w.heap.size, 8, none⟩ = some (.bool c.sa) ∧ W.cell? ⟨w.heap.size, 9, none⟩ = some c.av ∧ W.cell? ⟨w.heap.size, 10, none⟩ = some (.int .i64 c.lb) ∧ W.cell? ⟨w.heap.size, 11, none⟩ = some (.bool c.sb) ∧ W.cell? ⟨w.heap.size, 12, none⟩ = some c.bv ∧ W.cell? ⟨w.heap.size, 17, none⟩ = some (.slice l1 L lc)) := fun W hb => by
    have g := hold_heap g0 hb
    refine ⟨?_, ?_, ?_, ?_, ?_, ?_, ?_, ?_⟩ <;> simp [World.cell?, g]
  have HW0 := Lib.hid hW0
  obtain ⟨ha, hha⟩ : ∃ b, b = hugeB c.xs := ⟨_, rfl⟩
  obtain ⟨hb, hhb⟩ : ∃ b, b = hugeB c.ys := ⟨_, rfl⟩
  have HR : Hid (largeB c = (ha || hb || decide (100 < m) || decide (100 < L))) := by show _ = _; rw [hha, hhb, hm, hL]; rfl
  rw [← hha] at HA
  simp only [← hhb] at HB
  have HB0 := Lib.hid hB0
  obtain ⟨k3, k7, k8, k9, -, -, -, -⟩ := HK.out W0 (Below.refl _ _)
  clear hm hL hcv hlv g0 hW0 hha hhb hB0
  go_enter Try.func11, Try.ntmps11
  go_upto_region 1 with (fail)
  rw [← HW0.out]
  cases ha with
  | true =>
    go_wp2_with fail
    (with_reducible refine HA.out.mono ?_)
    rintro e w1 ⟨rfl, hb1⟩
    have HB1 := Lib.hid (below_via HB0.out hb1)
    clear hb1 k3 k7 k8 k9
    go_wp2
    rw [HP.out]
    exact ⟨by rw [HR.out]; rfl, HB1.out⟩
  | false =>
    go_wp2_with fail
    (with_reducible refine HA.out.mono ?_)
    rintro e w1 ⟨rfl, hb1⟩
    have HB1 := Lib.hid (below_via HB0.out hb1)
    have HBB := Lib.hid (HB.out w1 hb1)
    have HC1 := Lib.hid hb1
    clear k3 k7 k8 k9
    obtain ⟨-, -, -, -, k10, k11, k12, -⟩ := HK.out w1 hb1
    clear hb1
    go_wp2_with fail
    (with_reducible refine HBB.out.mono ?_)
    rintro e w2 ⟨rfl, hb2⟩
    have HB2 := Lib.hid (below_via HB1.out hb2)
    obtain ⟨k3, -, -, -, -, -, -, k17⟩ := HK.out w2 (below_via HC1.out hb2)
    clear hb2 k10 k11 k12
    cases hb with
    | true =>
      go_wp2
      rw [HP.out]
      exact ⟨by rw [HR.out]; rfl, HB2.out⟩
    | false =>
      by_cases hm1 : 100 < m
      · have t1 : (100 : Int) < (m : Int) := by omega
        have HH : Hid (largeB c = true) := by show _ = _; rw [HR.out]; simp [hm1]
        clear HR hm1
        go_wp2
        rw [HP.out]
        exact ⟨by rw [HH.out]; rfl, HB2.out⟩
      · have t1 : ¬ (100 : Int) < (m : Int) := by omega
        by_cases hl1 : 100 < L
        · have t2 : (100 : Int) < (L : Int) := by omega
          have HH : Hid (largeB c = true) := by show _ = _; rw [HR.out]; simp [hl1]
          clear HR hm1 hl1
          go_wp2
          rw [HP.out]
          exact ⟨by rw [HH.out]; rfl, HB2.out⟩
        · have t2 : ¬ (100 : Int) < (L : Int) := by omega
          have HH : Hid (largeB c = false) := by show _ = _; rw [HR.out]; simp [hl1, hm1]
          clear HR hm1 hl1
          go_wp2
          rw [HP.out]
          exact ⟨by rw [HH.out]; simp [t1, t2], HB2.out⟩
end Go.Proofs.Ytkjlfjnncdkmlaa.G

/- The ring's functions in one shape; elements in boxes; what is made passes the check. -/
namespace Go.Proofs.Ytkjlfjnncdkmlaa.G
set_option linter.all false
open Go.RowKit Go.Shelf Go.BigFrame
attribute [local go_sem] Oper.semAt_some
/-- An element in a box. -/
structure ElAt (W : World) (b : Nat) (la : Int) (sa : Bool) (v : Value) (rs : List (List Nat)) : Prop where
  heap : W.heap[b]? = some (.cells #[.int .i64 la, .bool sa, v] 28)
  rows : W.rows u32V W.heap.size v rs
theorem ElAt.below {W W' : World} {b : Nat} {la : Int} {sa : Bool} {v : Value} {rs : List (List Nat)} (h : Hid (ElAt W b la sa v rs)) (hb : Below W.heap.size W W') : Hid (ElAt W' b la sa v rs) :=
  ⟨hold_heap (w := W) h.out.heap hb, (h.out.rows.below hb).mono hb.size⟩
theorem ElAt.new {W : World} {la : Int} {sa : Bool} {v : Value} {rs : List (List Nat)} (h : W.rows u32V W.heap.size v rs) : Hid (ElAt (W.alloc (.cells #[.int .i64 la, .bool sa, v] 28)) W.heap.size la sa v rs) :=
  ⟨heap_alloc_new W _, (h.below ((Below.refl _ W).alloc (Nat.le_refl _) _)).mono (by simp)⟩
theorem below_new (W : World) (o : Obj) : Below W.heap.size W (W.alloc o) := (Below.refl _ W).alloc (Nat.le_refl _) _
theorem hB {a b c : World} (h : Hid (Below a.heap.size a b)) (k : Below b.heap.size b c) : Hid (Below a.heap.size a c) := below_via h.out k
theorem hR {W W' : World} {v : Value} {l : List Value} (h : Hid (W.reads W.heap.size v l)) (hb : Below W.heap.size W W') : Hid (W'.reads W'.heap.size v l) := (h.out.below hb).mono hb.size
theorem hRow {W W' : World} {v : Value} {l : List (List Nat)} (h : Hid (W.rows u32V W.heap.size v l)) (hb : Below W.heap.size W W') : Hid (W'.rows u32V W'.heap.size v l) := (h.out.below hb).mono hb.size
theorem hG {W W' : World} {b : Nat} {cs : Array Value} {t : TypeId} (h : Hid (W.heap[b]? = some (.cells cs t))) (hb : Below W.heap.size W W') : Hid (W'.heap[b]? = some (.cells cs t)) := hold_heap (w := W) h.out hb
/-- What a function answers that makes an element, or refuses: in one shape. -/
def EltAny (ok : Bool) (lv : Int) (s : Bool) (rows : List (List Nat)) (w : World) (e : Ending) (w' : World) : Prop :=
  ∃ (la : Int) (sa : Bool) (ra : Option Addr) (n rc : Nat) (rs : List (List Nat)) (er : Int), e = .returned (.tuple #[.agg #[.int .i64 la, .bool sa, .slice ra n rc], .int .i64 er]) ∧ w'.rows u32V w'.heap.size (.slice ra n rc) rs ∧
    (ok = true → lv = la ∧ s = sa ∧ rows = rs ∧ 0 = er) ∧ (ok = false → 0 = la ∧ false = sa ∧ [] = rs ∧ 2 = er) ∧ Below w.heap.size w w'
theorem EltPost.any {ok : Bool} {lv : Int} {s : Bool} {rows : List (List Nat)} {w w' : World} {e : Ending} (h : EltPost ok lv s rows w e w') : EltAny ok lv s rows w e w' := by
  obtain ⟨h1, h2⟩ := h
  cases ok with
  | true =>
    rw [if_pos rfl] at h1
    obtain ⟨rv, rfl, h3⟩ := h1
    have h4 := h3.rows
    obtain ⟨ra, rc, rfl, -⟩ := h4.shape
    exact ⟨lv, s, ra, rows.length, rc, rows, 0, rfl, h4, fun _ => ⟨rfl, rfl, rfl, rfl⟩, (fun h => by cases h), h2⟩
  | false =>
    rw [if_neg (by decide)] at h1
    subst h1
    exact ⟨0, false, none, 0, 0, [], 2, rfl, rows_none _, (fun h => by cases h), fun _ => ⟨rfl, rfl, rfl, rfl⟩, h2⟩
section
variable {N pr pw wt er : Int} {cv : Value} {chain : List Nat} {sp : Nat} {la lb : Int} {sa sb : Bool} {av bv : Value} {xs ys : List (List Nat)} {X : World}
theorem ints_e (hr : X.reads X.heap.size cv (chain.map u32V)) (level : Int) (special : Bool) (lw : Value) (l : List Int) (hl : X.reads X.heap.size lw (l.map i64V)) (ok : Bool) (hok : ok = intsB N chain sp level special l) :
    Calls Try.prog 13 #[.agg #[.int .i64 N, .int .u32 pr, .int .i64 pw, cv, .int .u32 (sp : Int), .int .i64 wt, .int .u32 er], .int .i64 level, .bool special, lw] X (EltAny ok level special (intRows (modl chain sp level.toNat special) l) X) := by
  subst hok
  refine (FromInts_any N pr pw wt er cv chain sp level special lw l X hr hl).mono fun e w' h => ?_
  obtain ⟨h1, h2⟩ := h
  cases hi : intsB N chain sp level special l with
  | true =>
    rw [if_pos hi] at h1
    obtain ⟨rv, rfl, h3⟩ := h1
    obtain ⟨ra, rc, rfl, -⟩ := h3.shape
    exact ⟨level, special, ra, _, rc, _, 0, rfl, h3, fun _ => ⟨rfl, rfl, rfl, rfl⟩, (fun h => by cases h), h2⟩
  | false =>
    rw [if_neg (by rw [hi]; decide)] at h1
    subst h1
    exact ⟨0, false, none, 0, 0, [], 2, rfl, rows_none _, (fun h => by cases h), fun _ => ⟨rfl, rfl, rfl, rfl⟩, h2⟩
end
theorem checkB_spec {N la : Int} {chain : List Nat} {sp : Nat} {sa : Bool} {xs : List (List Nat)} (h : checkB N chain sp la sa xs = true) : 4 ≤ N.toNat ∧ N.toNat ≤ 32 ∧ ((N.toNat : Nat) : Int) = N ∧ ((la.toNat : Nat) : Int) = la ∧ 1 ≤ la.toNat ∧ la.toNat ≤ chain.length ∧ chain.length ≤ 24 ∧ (∀ q ∈ modl chain sp la.toNat sa, 3 ≤ q ∧ q ≤ 2147483647) ∧ EltOk N.toNat (modl chain sp la.toNat sa) xs ∧ SizeN N.toNat := by
  have h0 := h
  obtain ⟨n, lv, rfl, rfl, i1, i2, i3, i4, i5, i6, i7⟩ := checkB_elt h
  simp only [Int.toNat_natCast]
  exact ⟨i1, i2, trivial, trivial, i3, i4, i5, i6, i7, checkB_size h0⟩
end Go.Proofs.Ytkjlfjnncdkmlaa.G

/- Cases in a box; plain: what is restricted behind a product. -/
namespace Go.Proofs.Ytkjlfjnncdkmlaa.G
set_option linter.all false
open Go.RowKit Go.Shelf Go.BigFrame
theorem case_cells {W : World} {b : Nat} {u0 u1 u2 u3 u4 u5 u6 u7 u8 u9 u10 u11 u12 u13 u14 u15 u16 u17 : Value} {t : TypeId} (h : W.heap[b]? = some (.cells #[u0, u1, u2, u3, u4, u5, u6, u7, u8, u9, u10, u11, u12, u13, u14, u15, u16, u17] t)) :
    W.cell? ⟨b, 0, none⟩ = some u0 ∧ W.cell? ⟨b, 1, none⟩ = some u1 ∧ W.cell? ⟨b, 2, none⟩ = some u2 ∧ W.cell? ⟨b, 3, none⟩ = some u3 ∧ W.cell? ⟨b, 4, none⟩ = some u4 ∧ W.cell? ⟨b, 5, none⟩ = some u5 ∧ W.cell? ⟨b, 6, none⟩ = some u6 ∧ W.cell? ⟨b, 7, none⟩ = some u7 ∧ W.cell? ⟨b, 8, none⟩ = some u8 ∧ W.cell? ⟨b, 9, none⟩ = some u9 ∧ W.cell? ⟨b, 10, none⟩ = some u10 ∧ W.cell? ⟨b, 11, none⟩ = some u11 ∧ W.cell? ⟨b, 12, none⟩ = some u12 ∧ W.cell? ⟨b, 13, none⟩ = some u13 ∧ W.cell? ⟨b, 14, none⟩ = some u14 ∧ W.cell? ⟨b, 15, none⟩ = some u15 ∧ W.cell? ⟨b, 16, none⟩ = some u16 ∧ W.cell? ⟨b, 17, none⟩ = some u17 := by
  refine ⟨?_, ?_, ?_, ?_, ?_, ?_, ?_, ?_, ?_, ?_, ?_, ?_, ?_, ?_, ?_, ?_, ?_, ?_⟩ <;> simp [World.cell?, h]
end Go.Proofs.Ytkjlfjnncdkmlaa.G

/- Walks: whether all moduli are primes, by the reference. -/
namespace Go.Proofs.Ytkjlfjnncdkmlaa.G
set_option linter.all false
open Go.RowKit Go.Shelf Go.BigFrame
attribute [local go_sem] Oper.semAt_some
theorem Prime05_any (n : Nat) (hn : n < 2147483648) (b : Bool) (hb : b = true ↔ PrimeP n) (w : World) :
    Calls Try.prog 52 #[.int .u32 (n : Int)] w fun e w' => e = .returned (.bool b) ∧ w = w' := by
  have HC := Lib.hid (Prime01_any n (by omega) b (hb.trans (prime_iff hn)) w)
  clear hb
  go_enter Try.func52, Try.ntmps52
  go_wp2_with fail
  (with_reducible refine HC.out.mono ?_)
  rintro e w1 ⟨rfl, rfl⟩
  go_wp2
  go_ret
  exact ⟨rfl, rfl⟩
set_option maxRecDepth 100000 in
set_option maxHeartbeats 8000000 in
theorem allPrime_any (N pr pw wt er : Int) (cv : Value) (chain : List Nat) (sp : Nat) (w : World) (hr : w.reads w.heap.size cv (chain.map u32V)) (hq : ∀ q ∈ chain, q < 2147483648) (hs : sp < 2147483648) (b : Bool) (hb : b = true ↔ (∀ q ∈ chain, PrimeP q) ∧ (sp = 0 ∨ PrimeP sp)) :
    Calls Try.prog 15 #[.agg #[.int .i64 N, .int .u32 pr, .int .i64 pw, cv, .int .u32 (sp : Int), .int .i64 wt, .int .u32 er]] w fun e w' => e = .returned (.bool b) ∧ Below w.heap.size w w' := by
  obtain ⟨ca, cc, rfl, hcc, hcm, hread⟩ := reads_u32 hr
  obtain ⟨m, hm⟩ : ∃ m, m = chain.length := ⟨_, rfl⟩
  rw [← hm] at hcc ⊢
  obtain ⟨W0, hW0⟩ : ∃ W0, W0 = w.alloc (.cells #[.int .i64 N, .int .u32 pr, .int .i64 pw, .slice ca m cc, .int .u32 (sp : Int), .int .i64 wt, .int .u32 er] 25) := ⟨_, rfl⟩
  have hB0 : Below w.heap.size w W0 := by rw [hW0]; exact below_new w _
  have g0 : W0.heap[w.heap.size]? = some (.cells #[.int .i64 N, .int .u32 pr, .int .i64 pw, .slice ca m cc, .int .u32 (sp : Int), .int .i64 wt, .int .u32 er] 25) := by rw [hW0]; exact heap_alloc_new w _
  have HRD : Hid (∀ (j q : Nat), chain[j]? = some q → ∃ b off, ca = some ⟨b, off, none⟩ ∧ W0.cell? ⟨b, off + j, none⟩ = some (.int .u32 (q : Int))) := fun j q hj => by
    obtain ⟨b, off, h1, h2, h3⟩ := hread j q hj
    exact ⟨b, off, h1, (hB0.cell (p := ⟨b, off + j, none⟩) h2).trans h3⟩
  have HP5 : Hid (∀ (q : Nat) (b : Bool), q < 2147483648 → (b = true ↔ PrimeP q) → Calls Try.prog 52 #[.int .u32 (q : Int)] W0 fun e w' => e = .returned (.bool b) ∧ W0 = w') := fun q b h1 h2 => Prime05_any q h1 b h2 W0
  obtain ⟨HPOST, hpost⟩ : ∃ R : Ending → World → Prop, R = fun e w' => e = .returned (.bool b) ∧ Below w.heap.size w w' := ⟨_, rfl⟩
  rw [← hpost]
  have HP := Lib.hid hpost
  have HQ := Lib.hid hq
  have HS := Lib.hid hs
  have HB := Lib.hid hb
  have HM := Lib.hid hm
  have HW0 := Lib.hid hW0
  have HB0 := Lib.hid hB0
  obtain ⟨c0, c1, c2, c3, c4, c5, c6⟩ := par_cells g0
  clear hr hq hs hb hm hread hW0 hB0 g0 hpost c0 c1 c2 c5 c6
  go_enter Try.func15, Try.ntmps15
  go_upto_region 1 with (fail)
  rw [← HW0.out]
  go_wp2
  go_loop [3] (fun i => ∃ k : Nat, k ≤ m ∧ i = .int .i64 (k : Int) ∧ Hid (∀ j q, j < k → chain[j]? = some q → PrimeP q)) (fun i => m - (intOf i).toNat)
  case atStart => exact ⟨0, Nat.zero_le _, rfl, fun j q h => by omega⟩
  case round =>
    obtain ⟨k, hk, rfl, hall⟩ := hrel
    by_cases hlt : k < m
    · obtain ⟨x, hx⟩ : ∃ x, chain[k]? = some x := ⟨chain[k]'(by have := HM.out; omega), List.getElem?_eq_getElem _⟩
      obtain ⟨b1, o1, rfl, hcx⟩ := HRD.out k x hx
      have HX := Lib.hid hx
      have hx2 := HQ.out x (List.mem_of_getElem? hx)
      obtain ⟨bx, hbx⟩ := em_bool (PrimeP x)
      have HC := Lib.hid (HP5.out x bx hx2 hbx)
      have HBX := Lib.hid hbx
      clear hx hbx hx2
      have i1 : (k : Int) < (m : Int) := by omega
      have i2 : (0 : Int) ≤ (k : Int) := by omega
      go_wp2_with fail
      (with_reducible refine HC.out.mono ?_)
      rintro e w1 ⟨rfl, rfl⟩
      cases bx with
      | false =>
        obtain rfl : b = false := by
          cases b with
          | false => rfl
          | true =>
            have h1 := (HB.out.1 (by first | rfl | trivial)).1 x (List.mem_of_getElem? HX.out)
            have h2 := HBX.out.2 h1
            cases h2
        go_wp2
        rw [HP.out]
        exact ⟨rfl, HB0.out⟩
      | true =>
        go_wp2
        go_round
        case rel => exact ⟨k + 1, by omega, by go_num, fun j q hj hq => by
          by_cases hjk : j < k
          · exact hall.out j q hjk hq
          · obtain rfl : j = k := by omega
            rw [HX.out] at hq
            injection hq with hq
            subst hq
            exact HBX.out.1 (by first | rfl | trivial)⟩
        case measure => simp [intOf]; omega
    · obtain rfl : k = m := by omega
      have hch : ∀ q ∈ chain, PrimeP q := fun q hq => by
        obtain ⟨j, hj⟩ := List.mem_iff_getElem?.1 hq
        exact hall.out j q (by have := (List.getElem?_eq_some_iff.1 hj).1; have := HM.out; omega) hj
      have HCH := Lib.hid hch
      clear hch hall
      by_cases hs0 : sp = 0
      · subst hs0
        obtain rfl : b = true := HB.out.2 ⟨HCH.out, Or.inl rfl⟩
        go_wp2
        rw [HP.out]
        exact ⟨rfl, HB0.out⟩
      · have hs1 : ¬ (sp : Int) = 0 := by omega
        obtain ⟨bx, hbx⟩ := em_bool (PrimeP sp)
        have HC := Lib.hid (HP5.out sp bx HS.out hbx)
        obtain rfl : b = bx := by
          cases bx with
          | true => exact HB.out.2 ⟨HCH.out, Or.inr (hbx.1 rfl)⟩
          | false =>
            cases b with
            | false => rfl
            | true =>
              rcases (HB.out.1 (by first | rfl | trivial)).2 with h | h
              · exact absurd h hs0
              · have := hbx.2 h; cases this
        clear hbx hs0
        go_wp2_with fail
        (with_reducible refine HC.out.mono ?_)
        rintro e w1 ⟨rfl, rfl⟩
        go_wp2
        rw [HP.out]
        exact ⟨by simp; intro h; omega, HB0.out⟩
end Go.Proofs.Ytkjlfjnncdkmlaa.G

/- Plain: elements of small integers, and their balanced coefficients. -/
namespace Go.Proofs.Ytkjlfjnncdkmlaa.G
set_option linter.all false
open Go.RowKit Go.Shelf Go.BigFrame Go.WideNum
theorem rows_len {W : World} {B : Nat} {a : Option Addr} {n c : Nat} {rs : List (List Nat)} (h : W.rows u32V B (.slice a n c) rs) : n = rs.length := by
  obtain ⟨a', c', e, -⟩ := h.shape
  injection e
theorem intsB_spec {N : Int} {chain : List Nat} {sp : Nat} {level : Int} {special : Bool} {l : List Int} (h : true = intsB N chain sp level special l) :
    checkB N chain sp level special (intRows (modl chain sp level.toNat special) l) = true ∧ N.toNat = l.length ∧ validB N chain sp = true ∧ placeB chain sp level special = true := by
  have h := h.symm
  unfold intsB preB at h
  simp only [Bool.and_eq_true, decide_eq_true_eq] at h
  obtain ⟨⟨hv, hp⟩, hN⟩ := h
  obtain ⟨k, rfl, k1, k2⟩ := levB_nat hp
  subst hN
  refine ⟨?_, by simp, hv, hp⟩
  refine checkB_of_elt hv hp ?_
  rw [Int.toNat_natCast]
  exact intRows_ok (fun q hq => by have := modl_ok2 hv hp q hq; omega) l rfl
theorem valid_small {N : Int} {chain : List Nat} {sp : Nat} (h : validB N chain sp = true) : (∀ q ∈ chain, 3 ≤ q ∧ q < 2147483648) ∧ sp < 2147483648 := by
  unfold validB at h
  simp only [Bool.and_eq_true] at h
  refine ⟨fun q hq => ?_, ?_⟩
  · obtain ⟨i, hi, rfl⟩ := List.getElem_of_mem hq
    have := modB_lt (okTo_get h.2 i _ hi (List.getElem?_eq_getElem hi))
    omega
  · have h2 := h.1.2.2
    unfold spB at h2
    by_cases hs : sp = 0
    · omega
    · simp [hs] at h2
      have := modB_lt h2.1
      omega
theorem not_all {chain : List Nat} {sp : Nat} {level : Int} {special : Bool} (hp : placeB chain sp level special = true) (h : ¬ AllP (modl chain sp level.toNat special)) : (false = true) ↔ (∀ q ∈ chain, PrimeP q) ∧ (sp = 0 ∨ PrimeP sp) := by
  refine ⟨fun h => (by cases h), fun hh => absurd ?_ h⟩
  obtain ⟨h1, h2⟩ := hh
  intro q hq
  unfold modl at hq
  rcases List.mem_append.1 hq with hq | hq
  · exact h1 q (List.mem_of_mem_take hq)
  · cases special with
    | false => simp at hq
    | true =>
      simp at hq
      subst hq
      unfold placeB at hp
      simp at hp
      rcases h2 with h2 | h2
      · exact absurd h2 hp.2
      · exact h2
theorem head_modl {chain : List Nat} {sp : Nat} {level : Int} {special : Bool} (hp : placeB chain sp level special = true) : ∃ p, chain[0]? = some p ∧ (modl chain sp level.toNat special)[0]? = some p := by
  obtain ⟨k, rfl, k1, k2⟩ := levB_nat hp
  rw [Int.toNat_natCast]
  obtain ⟨p, hpp⟩ : ∃ p, chain[0]? = some p := ⟨chain[0]'(by omega), List.getElem?_eq_getElem _⟩
  refine ⟨p, hpp, ?_⟩
  unfold modl
  rw [List.getElem?_append_left (by rw [List.length_take]; omega), List.getElem?_take, if_pos (by omega)]
  exact hpp
theorem ints_sys {N : Int} {chain : List Nat} {sp : Nat} {level : Int} {special : Bool} {ml : List Nat} (hv : validB N chain sp = true) (hp : placeB chain sp level special = true) (hml : ml = modl chain sp level.toNat special) (hA : AllP ml) : SysP ml := by
  obtain ⟨k, rfl, k1, k2⟩ := levB_nat hp
  rw [Int.toNat_natCast] at hml
  subst hml
  exact sys_modl hv hp hA
end Go.Proofs.Ytkjlfjnncdkmlaa.G

/- What the reading of an argument tells of its value. -/

/- What the reading of an argument tells of its value: slices of integers, and slices of these. -/
namespace Go
open RowKit ChangeShapes
section
variable {H : Type} {enc : TypeId × Value → H} {P : Program} {w : World} {held : Bool} {fuel : Nat} {t e q : TypeId} {cs : List Value} {x : DataW H × List MemPlace}
theorem addr_none {a : Addr} {v : Value} {w : World} (h : w.cell? (a.add 0) = some v) : ∃ b off, a = ⟨b, off, none⟩ ∧ b < w.heap.size := by
  obtain ⟨b, off, spot⟩ := a
  obtain rfl : spot = none := by
    have := World.cell?_spot h
    simpa [Addr.add] using this
  exact ⟨b, off, rfl, by have := World.block_lt_of_cell? w _ h; simpa [Addr.add] using this⟩
theorem add_none (b off j : Nat) : (⟨b, off, none⟩ : Addr).add j = ⟨b, off + j, none⟩ := by unfold Addr.add; split <;> simp_all
/-- A slice of integers. -/
theorem trod_reads {k : IntKind} (ht : P.underlying t = some (.slice e)) (he : P.underlying e = some (.int k)) (hc : P.cellsOf e = 1) (h : DataW.trod enc P w 0 (fun _ => true) held fuel t cs = some x) :
    ∃ (v : Value) (zs : List Int), cs = [v] ∧ w.reads w.heap.size v (zs.map (Value.int k)) ∧ ∀ z ∈ zs, (Lit.int k z).wf = true := by
  rcases open_ints ht he hc h with ⟨hcs, _⟩ | ⟨a, len, cap, zs, hcs, _, hl, hm, hz, _, hcell, hw⟩
  · exact ⟨_, [], hcs, reads_nil _ _, by simp⟩
  · simp only [if_true] at hz
    refine ⟨_, zs.take len, hcs, ⟨some a, cap, by simp; omega, by simp, by simp; omega, hm, fun j u hj => ?_⟩, fun z hz' => hw z (List.mem_of_mem_take hz')⟩
    have hj' : j < len ∧ j < zs.length := by
      have h1 := (List.getElem?_eq_some_iff.1 hj).1
      simp at h1; omega
    obtain ⟨b, off, rfl, hb⟩ := addr_none (hcell 0 (by omega))
    have hcj := hcell j hj'.2
    rw [add_none] at hcj
    refine ⟨b, off, rfl, hb, ?_⟩
    rw [hcj]
    simp [hj'.1, hj'.2] at hj ⊢
    exact hj
/-- A slice of slices of integers. -/
theorem trod_rows {k : IntKind} (ht : P.underlying t = some (.slice e)) (he : P.underlying e = some (.slice q)) (hq : P.underlying q = some (.int k)) (ce : P.cellsOf e = 1) (cq : P.cellsOf q = 1) (h : DataW.trod enc P w 0 (fun _ => true) held fuel t cs = some x) :
    ∃ (v : Value) (rs : List (List Int)), cs = [v] ∧ w.rows (Value.int k) w.heap.size v rs ∧ ∀ r ∈ rs, ∀ z ∈ r, (Lit.int k z).wf = true := by
  rcases Deep.open_int_rows ht he hq ce cq h with ⟨hcs, _⟩ | ⟨a, len, cap, A, L, C, Z, hcs, _, hl, hm, _, hrow⟩
  · exact ⟨_, [], hcs, ⟨[], rfl, reads_nil _ _, fun i r hr => by simp at hr⟩, by simp⟩
  · refine ⟨_, (List.range len).map fun r => (Z r).take (L r), hcs, ⟨(List.range len).map fun r => .slice (A r) (L r) (C r), by simp, ?_, fun i r hr => ?_⟩, fun r hr z hz => ?_⟩
    · refine ⟨some a, cap, by simp, by simp, by simpa using hl, hm, fun j u hj => ?_⟩
      have hj' : j < len := by
        have h1 := (List.getElem?_eq_some_iff.1 hj).1
        simpa using h1
      obtain ⟨hc0, -⟩ := hrow 0 (by omega)
      obtain ⟨hcj, -⟩ := hrow j (by omega)
      obtain ⟨b, off, rfl, hb⟩ := addr_none hc0
      rw [add_none] at hcj
      refine ⟨b, off, rfl, hb, ?_⟩
      rw [hcj]
      simpa [hj'] using hj
    · have hi : i < len := by
        have h1 := (List.getElem?_eq_some_iff.1 hr).1
        simpa using h1
      obtain ⟨-, h1, h2, h3, h4, h5, h6⟩ := hrow i (by omega)
      obtain rfl : r = (Z i).take (L i) := by simpa [hi] using hr.symm
      refine ⟨.slice (A i) (L i) (C i), by simp [hi], ?_⟩
      refine ⟨A i, C i, by simp; omega, h5, by simp; omega, h2, fun j u hj => ?_⟩
      have hj' : j < L i ∧ j < (Z i).length := by
        have h1 := (List.getElem?_eq_some_iff.1 hj).1
        simp at h1; omega
      obtain ⟨a', ha'⟩ : ∃ a', A i = some a' := by
        cases hA : A i with
        | none => have := h5 hA; omega
        | some a' => exact ⟨a', rfl⟩
      obtain ⟨-, h7⟩ := h6 a' ha'
      obtain ⟨b, off, rfl, hb⟩ := addr_none (h7 0 (by omega))
      have hcj := h7 j (by omega)
      rw [add_none] at hcj
      refine ⟨b, off, ha', hb, ?_⟩
      rw [hcj]
      simp [hj'.1, hj'.2] at hj ⊢
      exact hj
    · simp only [List.mem_map, List.mem_range] at hr
      obtain ⟨i, hi, rfl⟩ := hr
      obtain ⟨-, -, -, -, h4, -⟩ := hrow i (by omega)
      exact h4 z (List.mem_of_mem_take hz)
theorem nats_of : ∀ (zs : List Int), (∀ z ∈ zs, (Lit.int .u32 z).wf = true) → ∃ l : List Nat, zs = l.map Int.ofNat ∧ ∀ q ∈ l, q < 4294967296
  | [], _ => ⟨[], rfl, by simp⟩
  | z :: zs, h => by
    obtain ⟨l, rfl, hl⟩ := nats_of zs (fun y hy => h y (by simp [hy]))
    have hb := bounds_u32 (h z (by simp))
    refine ⟨z.toNat :: l, by simp; omega, fun q hq => ?_⟩
    rcases List.mem_cons.1 hq with rfl | hq
    · omega
    · exact hl q hq
theorem rows_nats_of : ∀ (zs : List (List Int)), (∀ r ∈ zs, ∀ z ∈ r, (Lit.int .u32 z).wf = true) → ∃ l : List (List Nat), zs = l.map (·.map Int.ofNat) ∧ ∀ r ∈ l, ∀ q ∈ r, q < 4294967296
  | [], _ => ⟨[], rfl, by simp⟩
  | r :: zs, h => by
    obtain ⟨l, rfl, hl⟩ := rows_nats_of zs (fun y hy => h y (by simp [hy]))
    obtain ⟨l1, rfl, h1⟩ := nats_of r (h r (by simp))
    refine ⟨l1 :: l, by simp, fun q hq => ?_⟩
    rcases List.mem_cons.1 hq with rfl | hq
    · exact h1
    · exact hl q hq
theorem trod_reads32 (ht : P.underlying t = some (.slice e)) (he : P.underlying e = some (.int .u32)) (hc : P.cellsOf e = 1) (h : DataW.trod enc P w 0 (fun _ => true) held fuel t cs = some x) :
    ∃ (v : Value) (l : List Nat), cs = [v] ∧ w.reads w.heap.size v (l.map u32V) ∧ ∀ q ∈ l, q < 4294967296 := by
  obtain ⟨v, zs, h1, h2, h3⟩ := trod_reads ht he hc h
  obtain ⟨l, rfl, hl⟩ := nats_of zs h3
  exact ⟨v, l, h1, by rw [List.map_map] at h2; exact h2, hl⟩
theorem trod_rows32 (ht : P.underlying t = some (.slice e)) (he : P.underlying e = some (.slice q)) (hq : P.underlying q = some (.int .u32)) (ce : P.cellsOf e = 1) (cq : P.cellsOf q = 1) (h : DataW.trod enc P w 0 (fun _ => true) held fuel t cs = some x) :
    ∃ (v : Value) (rs : List (List Nat)), cs = [v] ∧ w.rows u32V w.heap.size v rs ∧ ∀ r ∈ rs, ∀ q ∈ r, q < 4294967296 := by
  obtain ⟨v, zs, h1, ⟨vs, h2, h3, h4⟩, h5⟩ := trod_rows ht he hq ce cq h
  obtain ⟨l, rfl, hl⟩ := rows_nats_of zs h5
  refine ⟨v, l, h1, ⟨vs, by simpa using h2, h3, fun i r hr => ?_⟩, hl⟩
  obtain ⟨u, hu, hur⟩ := h4 i (r.map Int.ofNat) (by simp [hr])
  exact ⟨u, hu, by rw [List.map_map] at hur; exact hur⟩
/-- A field of a struct. -/
theorem trod_field {fs : Array Field} (ht : P.underlying t = some (.struct fs)) (h : DataW.trod enc P w 0 (fun _ => true) held fuel t cs = some x) (j : Nat) (f : Field) (hj : fs[j]? = some f) :
    ∃ n y, DataW.trod enc P w 0 (fun _ => true) held n f.type ((cs.drop f.offset).take (P.cellsOf f.type)) = some y := by
  obtain ⟨xs, m, rfl, hx, hl, hlen, hget⟩ := DataW.trod_struct ht h
  have hj' := (Array.getElem?_eq_some_iff.1 hj).1
  exact ⟨m, _, (hget j f hj).trans (List.getElem?_eq_getElem (by omega))⟩
end
end Go

/- What the reading of an argument tells of its value: parameters, elements, a case of the ring's laws. -/
namespace Go.Proofs.Ytkjlfjnncdkmlaa.G
set_option linter.all false
open Go.RowKit Go.WideShapes Go.ChangeShapes
theorem i64_bounds {z : Int} (h : (Lit.int .i64 z).wf = true) : -9223372036854775808 ≤ z ∧ z ≤ 9223372036854775807 := by
  have h2 : IntKind.i64.min ≤ z ∧ z ≤ IntKind.i64.max := by simpa [Lit.wf] using h
  have h3 : IntKind.i64.min = -9223372036854775808 := by decide
  have h4 : IntKind.i64.max = 9223372036854775807 := by decide
  omega
theorem i64_bounds_all {l : List Int} (h : ∀ z ∈ l, (Lit.int .i64 z).wf = true) : ∀ z ∈ l, -9223372036854775808 ≤ z ∧ z ≤ 9223372036854775807 := fun z hz => i64_bounds (h z hz)
set_option maxRecDepth 100000 in
theorem open_rcase {H : Type} {enc : TypeId × Value → H} {W : World} {base : Nat} {v : Value} {d : DataW H} {p : List MemPlace} (hv : Value.okWide Try.prog W .any base 31 v) (h : DataW.Trod enc Try.prog W 0 (fun _ => true) true 31 v d p) :
    ∃ c : RCase, v = .agg c.cells ∧ c.reads W.heap.size W ∧ (-9223372036854775808 ≤ c.num ∧ c.num ≤ 9223372036854775807) ∧ (-9223372036854775808 ≤ c.kk ∧ c.kk ≤ 9223372036854775807) ∧ (-9223372036854775808 ≤ c.level ∧ c.level ≤ 9223372036854775807) ∧ (∀ z ∈ c.ls, -9223372036854775808 ≤ z ∧ z ≤ 9223372036854775807) ∧ (∀ q ∈ c.chain, q < 4294967296) ∧ c.sp < 4294967296 ∧ (∀ r ∈ c.xs, ∀ q ∈ r, q < 4294967296) ∧ (∀ r ∈ c.ys, ∀ q ∈ r, q < 4294967296) ∧ (-9223372036854775808 ≤ c.N ∧ c.N ≤ 9223372036854775807) := by
  have c25 : Try.prog.cellsOf 25 = 7 := by kernel_rfl
  have c28 : Try.prog.cellsOf 28 = 3 := by kernel_rfl
  have c22 : Try.prog.cellsOf 22 = 1 := by kernel_rfl
  have c23 : Try.prog.cellsOf 23 = 1 := by kernel_rfl
  have c26 : Try.prog.cellsOf 26 = 1 := by kernel_rfl
  have c3 : Try.prog.cellsOf 3 = 1 := by kernel_rfl
  have c4 : Try.prog.cellsOf 4 = 1 := by kernel_rfl
  have c29 : Try.prog.cellsOf 29 = 1 := by kernel_rfl
  have c2 : Try.prog.cellsOf 2 = 1 := by kernel_rfl
  have c31 : Try.prog.cellsOf 31 = 18 := by kernel_rfl
  obtain ⟨cs, rfl, hsz⟩ := okWide_struct Try.underlying31 hv
  obtain ⟨fuel, hf⟩ := h
  have hl' : cs.toList.length = 18 := by rw [c31] at hsz; simpa using hsz
  obtain ⟨_, _, hP⟩ := trod_field Try.underlying31 hf 0 _ rfl
  obtain ⟨_, _, hA⟩ := trod_field Try.underlying31 hf 1 _ rfl
  obtain ⟨_, _, hB⟩ := trod_field Try.underlying31 hf 2 _ rfl
  obtain ⟨_, _, h3⟩ := trod_field Try.underlying31 hf 3 _ rfl
  obtain ⟨_, _, h4⟩ := trod_field Try.underlying31 hf 4 _ rfl
  obtain ⟨_, _, h5⟩ := trod_field Try.underlying31 hf 5 _ rfl
  obtain ⟨_, _, h6⟩ := trod_field Try.underlying31 hf 6 _ rfl
  obtain ⟨_, _, h7⟩ := trod_field Try.underlying31 hf 7 _ rfl
  obtain ⟨_, _, p0⟩ := trod_field Try.underlying25 hP 0 _ rfl
  obtain ⟨_, _, p1⟩ := trod_field Try.underlying25 hP 1 _ rfl
  obtain ⟨_, _, p2⟩ := trod_field Try.underlying25 hP 2 _ rfl
  obtain ⟨_, _, p3⟩ := trod_field Try.underlying25 hP 3 _ rfl
  obtain ⟨_, _, p4⟩ := trod_field Try.underlying25 hP 4 _ rfl
  obtain ⟨_, _, p5⟩ := trod_field Try.underlying25 hP 5 _ rfl
  obtain ⟨_, _, p6⟩ := trod_field Try.underlying25 hP 6 _ rfl
  obtain ⟨_, _, a0⟩ := trod_field Try.underlying28 hA 0 _ rfl
  obtain ⟨_, _, a1⟩ := trod_field Try.underlying28 hA 1 _ rfl
  obtain ⟨_, _, a2⟩ := trod_field Try.underlying28 hA 2 _ rfl
  obtain ⟨_, _, b0⟩ := trod_field Try.underlying28 hB 0 _ rfl
  obtain ⟨_, _, b1⟩ := trod_field Try.underlying28 hB 1 _ rfl
  obtain ⟨_, _, b2⟩ := trod_field Try.underlying28 hB 2 _ rfl
  obtain ⟨N, e0, -, w0⟩ := DataW.trod_int Try.underlying3 p0
  obtain ⟨pr, e1, -, -⟩ := DataW.trod_int Try.underlying22 p1
  obtain ⟨pw, e2, -, -⟩ := DataW.trod_int Try.underlying3 p2
  obtain ⟨cv, chain, e3, hchain, hcb⟩ := trod_reads32 Try.underlying23 Try.underlying22 c22 p3
  obtain ⟨sp, e4, -, w4⟩ := DataW.trod_int Try.underlying22 p4
  obtain ⟨wt, e5, -, -⟩ := DataW.trod_int Try.underlying3 p5
  obtain ⟨er, e6, -, -⟩ := DataW.trod_int Try.underlying22 p6
  obtain ⟨la, e7, -, -⟩ := DataW.trod_int Try.underlying3 a0
  obtain ⟨sa, e8, -⟩ := DataW.trod_bool Try.underlying4 a1
  obtain ⟨av, xs, e9, hxs, hxb⟩ := trod_rows32 Try.underlying26 Try.underlying23 Try.underlying22 c23 c22 a2
  obtain ⟨lb, e10, -, -⟩ := DataW.trod_int Try.underlying3 b0
  obtain ⟨sb, e11, -⟩ := DataW.trod_bool Try.underlying4 b1
  obtain ⟨bv, ys, e12, hys, hyb⟩ := trod_rows32 Try.underlying26 Try.underlying23 Try.underlying22 c23 c22 b2
  obtain ⟨num, e13, -, w13⟩ := DataW.trod_int Try.underlying2 h3
  obtain ⟨kk, e14, -, w14⟩ := DataW.trod_int Try.underlying3 h4
  obtain ⟨level, e15, -, w15⟩ := DataW.trod_int Try.underlying3 h5
  obtain ⟨special, e16, -⟩ := DataW.trod_bool Try.underlying4 h6
  obtain ⟨lw, ls, e17, hls, hlb⟩ := trod_reads Try.underlying29 Try.underlying2 c2 h7
  have hsp := bounds_u32 w4
  refine ⟨⟨N, pr, pw, wt, er, la, lb, num, kk, level, cv, av, bv, lw, sa, sb, special, chain, sp.toNat, xs, ys, ls⟩, ?_, ⟨hchain, hxs, hys, hls⟩, i64_bounds w13, i64_bounds w14, i64_bounds w15, i64_bounds_all hlb, hcb, by show sp.toNat < _; omega, hxb, hyb, i64_bounds w0⟩
  have hsn : ((sp.toNat : Nat) : Int) = sp := by omega
  unfold RCase.cells
  simp only [hsn]
  congr 1
  apply Array.ext'
  simp only [Value.cells] at e0 e1 e2 e3 e4 e5 e6 e7 e8 e9 e10 e11 e12 e13 e14 e15 e16 e17
  clear p0 p1 p2 p3 p4 p5 p6 a0 a1 a2 b0 b1 b2 h3 h4 h5 h6 h7 hP hA hB hf hv
  generalize cs.toList = l at *
  match l, hl' with
  | [k0, k1, k2, k3, k4, k5, k6, k7, k8, k9, k10, k11, k12, k13, k14, k15, k16, k17], _ =>
    simp [c25, c28, c22, c23, c26, c3, c4, c29, c2] at e0 e1 e2 e3 e4 e5 e6 e7 e8 e9 e10 e11 e12 e13 e14 e15 e16 e17
    simp [e0, e1, e2, e3, e4, e5, e6, e7, e8, e9, e10, e11, e12, e13, e14, e15, e16, e17]
end Go.Proofs.Ytkjlfjnncdkmlaa.G
