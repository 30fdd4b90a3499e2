/- Helpers and walks, in one text. -/
import Derived.Test.YtkjlfjnncdkmlaaGreatPA5
import Derived.ProofKit
import Derived.OpenShut
import Derived.ShutString
import Derived.ChangeOld
import Derived.SliceStrings
import Derived.Deep.Matrix
import Derived.WideShapes
set_option linter.all false
set_option maxRecDepth 100000
set_option maxHeartbeats 40000000
/- Walks: the reference's integer of a row. -/
namespace Go.Proofs.YtkjlfjnncdkmlaaGreat
section
open Go.RowKit Go.Shelf Go.WideNum PN
structure JS (w W : World) (bx bq : Nat) (x q : Int) : Prop where
 bel : Below w.heap.size w W
 h0 : W.heap[w.heap.size]? = some (.cells #[.bool false, .string ⟨#[]⟩] 40)
 hx : W.heap[bx]? = some (.cells #[.bool (zN x), .string (zT x)] 40)
 hq : W.heap[bq]? = some (.cells #[.bool (zN q), .string (zT q)] 40)
theorem JS.below {w W W' : World} {bx bq : Nat} {x q : Int} (h : JS w W bx bq x q) (hb : Below W.heap.size W W') : JS w W' bx bq x q :=
 ⟨below_via h.bel hb, hold_heap h.h0 hb, hold_heap h.hx hb, hold_heap h.hq hb⟩
theorem JS.setX {w W : World} {bx bq : Nat} {x q : Int} (h : JS w W bx bq x q) (h1 : w.heap.size < bx) (h2 : bx < bq) (y : Int) : JS w ((W.setCell ⟨bx, 0, none⟩ (.bool (zN y))).setCell ⟨bx, 1, none⟩ (.string (zT y))) bx bq y q :=
 ⟨below_set2 h.bel (by omega) _ _, (wide_other (by omega) _ _).trans h.h0, wide_set h.hx _ _, (wide_other (by omega) _ _).trans h.hq⟩
theorem JS.setQ {w W : World} {bx bq : Nat} {x q : Int} (h : JS w W bx bq x q) (h1 : w.heap.size < bx) (h2 : bx < bq) (y : Int) : JS w ((W.setCell ⟨bq, 0, none⟩ (.bool (zN y))).setCell ⟨bq, 1, none⟩ (.string (zT y))) bx bq x y :=
 ⟨below_set2 h.bel (by omega) _ _, (wide_other (by omega) _ _).trans h.h0, (wide_other (by omega) _ _).trans h.hx, wide_set h.hq _ _⟩
theorem JS.cells {w W : World} {bx bq : Nat} {x q : Int} (h : JS w W bx bq x q) : W.cell? ⟨bx, 0, none⟩ = some (.bool (zN x)) ∧ W.cell? ⟨bx, 1, none⟩ = some (.string (zT x)) ∧ W.cell? ⟨bq, 0, none⟩ = some (.bool (zN q)) ∧ W.cell? ⟨bq, 1, none⟩ = some (.string (zT q)) :=
 ⟨(wide_cells h.hx).1, (wide_cells h.hx).2.1, (wide_cells h.hq).1, (wide_cells h.hq).2.1⟩
theorem inR_le25 {z : Int} (h : z.natAbs ≤ 4294967296 ^ 25) : InR z := inR_of (k := 26) (Nat.lt_of_le_of_lt h (Nat.pow_lt_pow_right (by omega) (by omega))) (by omega)
theorem JS.start {w W : World} (hb : Below w.heap.size w W) (h0 : W.heap[w.heap.size]? = some (.cells #[.bool false, .string ⟨#[]⟩] 40)) (q : Int) :
  JS w ((W.alloc (.cells #[.bool false, .string ⟨#[]⟩] 40)).alloc (.cells #[.bool (zN q), .string (zT q)] 40)) W.heap.size (W.heap.size + 1) 0 q := by
 have a1 : (W.alloc (.cells #[.bool false, .string ⟨#[]⟩] 40)).heap[W.heap.size]? = some (.cells #[.bool false, .string ⟨#[]⟩] 40) := heap_alloc_new W _
 have hs := World.size_alloc W (.cells #[.bool false, .string ⟨#[]⟩] 40)
 have b1 : Below W.heap.size W (W.alloc (.cells #[.bool false, .string ⟨#[]⟩] 40)) := (Below.refl _ _).alloc (Nat.le_refl _) _
 have a3 := hold_heap h0 b1
 have b3 := below_via hb b1
 generalize W.alloc (.cells #[.bool false, .string ⟨#[]⟩] 40) = V at a1 hs b3 a3 ⊢
 rw [← hs]
 have b2 : Below V.heap.size V (V.alloc (.cells #[.bool (zN q), .string (zT q)] 40)) := (Below.refl _ _).alloc (Nat.le_refl _) _
 exact ⟨below_via b3 b2, hold_heap a3 b2, by rw [zN_zero, zT_zero]; exact hold_heap a1 b2, heap_alloc_new V _⟩
theorem refJoin_any (b : Nat) (ps rs : List Nat) (rv : Value) (w : World) (hs : RefAt w b ps) (hsys : SysP ps) (hr : w.reads w.heap.size rv (rs.map u32V)) (ok : Bool) (hok : ok = true ↔ RowP ps rs) :
  Calls Tryz.prog 27 #[.pointer (some ⟨b, 0, none⟩), rv] w (FormE w (if ok then joinZ ps rs else 0) (if ok then 0 else 2)) := by
 obtain ⟨HPOST, hpost⟩ : ∃ R, R = FormE w (if ok then joinZ ps rs else 0) (if ok then 0 else 2) := ⟨_, rfl⟩
 rw [← hpost]
 have HP := Lib.hid hpost
 have hab : Below w.heap.size w (w.alloc (.cells #[.bool false, .string ⟨#[]⟩] 40)) := (Below.refl _ _).alloc (Nat.le_refl _) _
 have hg : (w.alloc (.cells #[.bool false, .string ⟨#[]⟩] 40)).heap[w.heap.size]? = some (.cells #[.bool false, .string ⟨#[]⟩] 40) := heap_alloc_new w _
 have HROW := Lib.hid (refRow_any b ps rs rv _ (hs.below hab) ((hr.below hab).mono hab.size) ok hok)
 have HS := Lib.hid hs
 have HOK := Lib.hid hok
 have HR := Lib.hid hr
 have hl1 := hr.le_map
 obtain ⟨ra, rc, rfl, hrc, hrm, hrs⟩ := reads_u32 hr
 have HRS := Lib.hid hrs
 clear hpost hs hr hok hrs
 go_enter Tryz.func27, Tryz.ntmps27
 go_upto_region 1 with (fail)
 generalize w.alloc (.cells #[.bool false, .string ⟨#[]⟩] 40) = wa at hab hg HROW ⊢
 have HG := Lib.hid hg
 have HAB := Lib.hid hab
 clear hab hg
 go_wp2_with fail
 (with_reducible refine (HROW.out).mono ?_)
 rintro e w1 ⟨rfl, n0, rfl⟩
 cases ok with
 | false =>
  obtain ⟨x0, x1, xf⟩ := wide_cells HG.out
  go_wp2
  have m2 := wide_set HG.out false ⟨#[]⟩
  have hb9 := below_set2 (p := w.heap.size) HAB.out (Nat.le_refl _) false ⟨#[]⟩
  obtain ⟨d20, d21, -⟩ := wide_cells m2
  clear m2 x0 x1 xf d20 d21
  obtain ⟨d20, d21, -⟩ := wide_cells (W := ((wa.setCell ⟨w.heap.size, 0, none⟩ (.bool false)).setCell ⟨w.heap.size, 1, none⟩ (.string ⟨#[]⟩)).drewN n0) (wide_set HG.out false ⟨#[]⟩)
  replace hb9 : Below w.heap.size w (((wa.setCell ⟨w.heap.size, 0, none⟩ (.bool false)).setCell ⟨w.heap.size, 1, none⟩ (.string ⟨#[]⟩)).drewN n0) := below_drewN hb9 n0
  generalize ((wa.setCell ⟨w.heap.size, 0, none⟩ (.bool false)).setCell ⟨w.heap.size, 1, none⟩ (.string ⟨#[]⟩)).drewN n0 = W9 at d20 d21 hb9 ⊢
  rw [HP.out]
  exact bodyPost_ret (v := .tuple #[.agg #[.bool false, .string ⟨#[]⟩], .int .i64 2]) (by simp [results, Tryz.results27, go_sem, d20, d21]) rfl ⟨by simp only [Bool.false_eq_true, if_false, zN_zero, zT_zero], hb9⟩
 | true =>
  have hrow := HOK.out.1 rfl
  have HROWP := Lib.hid hrow
  have hsep := hsys.sep
  have HSEP := Lib.hid hsep
  have HBD : Hid (∀ k, prodL (ps.take k) ≤ 4294967296 ^ 25) := fun k => prodL_le25 (hsep.take k) (by have := hsys.2.1; rw [List.length_take]; omega)
  have hlen : rs.length = ps.length := hrow.1
  obtain ⟨n, hn⟩ : ∃ n, n = rs.length := ⟨_, rfl⟩
  rw [← hn] at hrc hl1 HROW HR ⊢
  have HN := Lib.hid hn
  have HNP : Hid (n = ps.length) := hn.trans hlen
  have hn25 : n ≤ 25 := by have := hsys.2.1; omega
  obtain ⟨lv, hl2, hl3⟩ := HS.out
  obtain ⟨pa, pc, rfl, hpc, -, hps⟩ := reads_u32 hl3
  have hpm := hl3.le_map
  rw [← HNP.out] at hl2 hpc hpm
  have HL1 := Lib.hid hl2
  have HPS := Lib.hid hps
  clear hn hlen hrow hsep hl2 hl3 hps
  have HOF : Hid (∀ W : World, Calls Tryz.prog 15 #[.int .i64 1] W fun e w' => e = .returned (.agg #[.bool (zN 1), .string (zT 1)]) ∧ Below W.heap.size W w') := fun W => refOf_z 1 (by omega) (by omega) W
  obtain ⟨ob, hob⟩ : ∃ z, z = zN 1 := ⟨_, rfl⟩
  obtain ⟨ot, hot⟩ : ∃ z, z = zT 1 := ⟨_, rfl⟩
  rw [← hob, ← hot] at HOF
  go_wp2_with fail
  (with_reducible refine (HOF.out _).mono ?_)
  rintro e w1 ⟨rfl, hb1⟩
  have hb1' : Below w.heap.size w w1 := below_via (b := wa.drewN n0) (below_drewN HAB.out n0) hb1
  have hg1 := hold_heap (w := wa.drewN n0) HG.out hb1
  have hjs := JS.start hb1' hg1 1
  rw [← hob, ← hot] at hjs
  have HJS := Lib.hid hjs
  have hw1 : w.heap.size < w1.heap.size := lt_of_heap hg1
  clear hjs hob hot hb1 hb1' hg1 HOF HG HAB HROW
  go_upto_region 4 with (fail)
  obtain ⟨bx, hbx⟩ : ∃ z, z = w1.heap.size := ⟨_, rfl⟩
  obtain ⟨bq, hbq⟩ : ∃ z, z = bx + 1 := ⟨_, rfl⟩
  rw [← hbx, ← hbq] at HJS ⊢
  rw [← hbx] at hw1
  have hw2 : bx < bq := by omega
  generalize (w1.alloc (.cells #[.bool false, .string ⟨#[]⟩] 40)).alloc (.cells #[.bool ob, .string ot] 40) = w2 at HJS ⊢
  clear hbx hbq
  have hcrt0 : IsCrt (ps.take 0) (rs.take 0) 0 := ⟨by simp [prodL], fun k q s hq => by simp at hq⟩
  have HC0 := Lib.hid hcrt0
  clear hcrt0
  go_wp2_with fail
  go_loopw [8] (fun iv wx => ∃ k X Q : Nat, k ≤ n ∧ iv = .int .i64 (k : Int) ∧ Hid (JS w wx bx bq (X : Nat) (Q : Nat)) ∧ Hid (Q = prodL (ps.take k) ∧ IsCrt (ps.take k) (rs.take k) X)) (fun iv _ => n - (intOf iv).toNat)
  case atStart => exact ⟨0, 0, 1, Nat.zero_le _, rfl, HJS.out, rfl, HC0.out⟩
  case round =>
   obtain ⟨k, X, Q, hk, rfl, HJ, HC⟩ := hrel
   obtain ⟨wo, rfl⟩ : ∃ x, x = wr := ⟨_, rfl⟩
   obtain ⟨hQ, hX⟩ := HC.out
   have hXQ : X < Q := by rw [hQ]; exact hX.1
   have hQb : Q ≤ 4294967296 ^ 25 := by rw [hQ]; exact HBD.out k
   have rX : InR (X : Int) := inR_le25 (by omega)
   have rQ : InR (Q : Int) := inR_le25 (by omega)
   by_cases hlt : k < n
   ·obtain ⟨p, hp⟩ : ∃ p, ps[k]? = some p := ⟨ps[k]'(by have := HNP.out; omega), List.getElem?_eq_getElem _⟩
    obtain ⟨r, hr⟩ : ∃ r, rs[k]? = some r := ⟨rs[k]'(by have := HN.out; omega), List.getElem?_eq_getElem _⟩
    obtain ⟨b1, o1, rfl, hbl, hcl⟩ := HPS.out k p hp
    obtain ⟨b2, o2, rfl, hrl, hrcl⟩ := HRS.out k r hr
    obtain ⟨p1, p2, p3, p4⟩ := HSEP.out k p hp
    have p5 := p1.1
    have hrp : r < p := HROWP.out.2 k p r hp hr
    obtain ⟨hg, hst⟩ := ref_step HSEP.out HROWP.out hp hr hX
    rw [← hQ] at hg hst
    obtain ⟨h, hh⟩ : ∃ z, z = X % p := ⟨_, rfl⟩
    obtain ⟨s, hs⟩ : ∃ z, z = Q % p := ⟨_, rfl⟩
    have hhl : h < p := by rw [hh]; exact Nat.mod_lt _ (by omega)
    have hsl : s < p := by rw [hs]; exact Nat.mod_lt _ (by omega)
    rw [← hs] at hg hst
    rw [← hh] at hst
    obtain ⟨i1, i2, -⟩ := invN_spec (show 2 ≤ p by omega) (by omega) hsl hg
    obtain ⟨v, hv⟩ : ∃ z, z = invN s p := ⟨_, rfl⟩
    rw [← hv] at i1 i2 hst
    obtain ⟨d, hd⟩ : ∃ z, z = (r + p - h) % p := ⟨_, rfl⟩
    have hdl : d < p := by rw [hd]; exact Nat.mod_lt _ (by omega)
    rw [← hd] at hst
    obtain ⟨m, hm⟩ : ∃ z, z = d * v % p := ⟨_, rfl⟩
    have hml : m < p := by rw [hm]; exact Nat.mod_lt _ (by omega)
    rw [← hm] at hst
    obtain ⟨M, hM⟩ : ∃ z, z = Q * m := ⟨_, rfl⟩
    obtain ⟨Y, hY⟩ : ∃ z, z = X + M := ⟨_, rfl⟩
    obtain ⟨R, hR⟩ : ∃ z, z = Q * p := ⟨_, rfl⟩
    rw [← hM, ← hY] at hst
    have hRp : R = prodL (ps.take (k + 1)) := by rw [take_succ' hp, prodL_snoc, ← hQ, hR]
    have hRle : R ≤ 4294967296 ^ 25 := by rw [hRp]; exact HBD.out (k + 1)
    have hYR : Y < R := by rw [hRp]; exact hst.1
    have HC2 := Lib.hid (And.intro hRp hst)
    have rY : InR (Y : Int) := inR_le25 (by omega)
    have rM : InR (M : Int) := inR_le25 (by omega)
    have rR : InR (R : Int) := inR_le25 (by omega)
    have rp : InR (p : Int) := inR_small (by omega)
    have rm : InR (m : Int) := inR_small (by omega)
    have HMX : Hid (∀ W : World, Calls Tryz.prog 56 #[.agg #[.bool (zN (X : Int)), .string (zT (X : Int))], .int .u32 (p : Int)] W fun e w' => e = .returned (.tuple #[.int .u32 (h : Int), .int .i64 0]) ∧ Below W.heap.size W w') := fun W => refMod_z X p h rX (by omega) (by omega) (by rw [hh]; simp) W
    have HMQ : Hid (∀ W : World, Calls Tryz.prog 56 #[.agg #[.bool (zN (Q : Int)), .string (zT (Q : Int))], .int .u32 (p : Int)] W fun e w' => e = .returned (.tuple #[.int .u32 (s : Int), .int .i64 0]) ∧ Below W.heap.size W w') := fun W => refMod_z Q p s rQ (by omega) (by omega) (by rw [hs]; simp) W
    have HIN : Hid (∀ W : World, Calls Tryz.prog 57 #[.int .u32 (s : Int), .int .u32 (p : Int)] W (U32Ok v W)) := fun W => Inverse01_in s p v hsl (by omega) p3 i1 i2 W
    have HSU : Hid (∀ W : World, Calls Tryz.prog 58 #[.int .u32 (r : Int), .int .u32 (h : Int), .int .u32 (p : Int)] W (U32Ok d W)) := fun W => by rw [hd]; exact Sub01_in r h p hrp hhl (by omega) p3 W
    have HMU : Hid (∀ W : World, Calls Tryz.prog 59 #[.int .u32 (d : Int), .int .u32 (v : Int), .int .u32 (p : Int)] W (U32Ok m W)) := fun W => by rw [hm]; exact Mul01_in d v p hdl i1 (by omega) p3 W
    have HOM : Hid (∀ W : World, Calls Tryz.prog 15 #[.int .i64 (m : Int)] W fun e w' => e = .returned (.agg #[.bool (zN (m : Int)), .string (zT (m : Int))]) ∧ Below W.heap.size W w') := fun W => refOf_z m (by omega) (by omega) W
    have HOP : Hid (∀ W : World, Calls Tryz.prog 15 #[.int .i64 (p : Int)] W fun e w' => e = .returned (.agg #[.bool (zN (p : Int)), .string (zT (p : Int))]) ∧ Below W.heap.size W w') := fun W => refOf_z p (by omega) (by omega) W
    have HQM : Hid (∀ W : World, Calls Tryz.prog 54 #[.agg #[.bool (zN (Q : Int)), .string (zT (Q : Int))], .agg #[.bool (zN (m : Int)), .string (zT (m : Int))]] W (WideOk M W)) := fun W => by
     have e : (Q : Int) * (m : Int) = (M : Int) := by rw [hM]; simp
     have := refMul_z Q m rQ rm (by rw [e]; exact rM) W
     rwa [e] at this
    have HQP : Hid (∀ W : World, Calls Tryz.prog 54 #[.agg #[.bool (zN (Q : Int)), .string (zT (Q : Int))], .agg #[.bool (zN (p : Int)), .string (zT (p : Int))]] W (WideOk R W)) := fun W => by
     have e : (Q : Int) * (p : Int) = (R : Int) := by rw [hR]; simp
     have := refMul_z Q p rQ rp (by rw [e]; exact rR) W
     rwa [e] at this
    have HAD : Hid (∀ W : World, Calls Tryz.prog 60 #[.agg #[.bool (zN (X : Int)), .string (zT (X : Int))], .agg #[.bool (zN (M : Int)), .string (zT (M : Int))]] W (WideOk Y W)) := fun W => by
     have e : (X : Int) + (M : Int) = (Y : Int) := by rw [hY]; simp
     have := refAdd_z X M rX rM (by rw [e]; exact rY) W
     rwa [e] at this
    have HPC : Hid (∀ W, Below w.heap.size w W → W.cell? ⟨b, 0, none⟩ = some (.slice (some ⟨b1, o1, none⟩) n pc) ∧ W.cell? ⟨b1, o1 + k, none⟩ = some (.int .u32 (p : Int)) ∧ W.cell? ⟨b2, o2 + k, none⟩ = some (.int .u32 (r : Int))) := fun W hb => by
     obtain ⟨y2, -⟩ := three_ref ((hb.block _ (lt_of_heap HL1.out)).trans HL1.out)
     exact ⟨y2, (hb.cell (p := ⟨b1, o1 + k, none⟩) hbl).trans hcl, (hb.cell (p := ⟨b2, o2 + k, none⟩) hrl).trans hrcl⟩
    have w64m : IntKind.i64.wrap (m : Int) = (m : Int) := IntWalk.i64_in _ (by omega)
    have w64p : IntKind.i64.wrap (p : Int) = (p : Int) := IntWalk.i64_in _ (by omega)
    have j1 : (k : Int) < (n : Int) := by omega
    have j2 : (0 : Int) ≤ (k : Int) := by omega
    obtain ⟨xb, hxb⟩ : ∃ z, z = zN (X : Int) := ⟨_, rfl⟩
    obtain ⟨xt, hxt⟩ : ∃ z, z = zT (X : Int) := ⟨_, rfl⟩
    obtain ⟨qb, hqb⟩ : ∃ z, z = zN (Q : Int) := ⟨_, rfl⟩
    obtain ⟨qt, hqt⟩ : ∃ z, z = zT (Q : Int) := ⟨_, rfl⟩
    obtain ⟨mb, hmb⟩ : ∃ z, z = zN (m : Int) := ⟨_, rfl⟩
    obtain ⟨mt, hmt⟩ : ∃ z, z = zT (m : Int) := ⟨_, rfl⟩
    obtain ⟨pb, hpb⟩ : ∃ z, z = zN (p : Int) := ⟨_, rfl⟩
    obtain ⟨pt, hpt⟩ : ∃ z, z = zT (p : Int) := ⟨_, rfl⟩
    obtain ⟨Mb, hMb⟩ : ∃ z, z = zN (M : Int) := ⟨_, rfl⟩
    obtain ⟨Mt, hMt⟩ : ∃ z, z = zT (M : Int) := ⟨_, rfl⟩
    obtain ⟨yb, hyb⟩ : ∃ z, z = zN (Y : Int) := ⟨_, rfl⟩
    obtain ⟨yt, hyt⟩ : ∃ z, z = zT (Y : Int) := ⟨_, rfl⟩
    obtain ⟨Rb, hRb⟩ : ∃ z, z = zN (R : Int) := ⟨_, rfl⟩
    obtain ⟨Rt, hRt⟩ : ∃ z, z = zT (R : Int) := ⟨_, rfl⟩
    unfold WideOk at HQM HQP HAD
    rw [← hxb, ← hxt] at HMX HAD
    rw [← hqb, ← hqt] at HMQ HQM HQP
    rw [← hmb, ← hmt] at HOM HQM
    rw [← hpb, ← hpt] at HOP HQP
    rw [← hMb, ← hMt] at HQM HAD
    rw [← hyb, ← hyt] at HAD
    rw [← hRb, ← hRt] at HQP
    have HXB := Lib.hid hxb
    have HXT := Lib.hid hxt
    have HQB := Lib.hid hqb
    have HQT := Lib.hid hqt
    have HYB := Lib.hid hyb
    have HYT := Lib.hid hyt
    have HRB := Lib.hid hRb
    have HRT := Lib.hid hRt
    have HCX : Hid (∀ W, JS w W bx bq (X : Int) (Q : Int) → W.cell? ⟨bx, 0, none⟩ = some (.bool xb) ∧ W.cell? ⟨bx, 1, none⟩ = some (.string xt) ∧ W.cell? ⟨bq, 0, none⟩ = some (.bool qb) ∧ W.cell? ⟨bq, 1, none⟩ = some (.string qt)) := fun W h => by
     rw [hxb, hxt, hqb, hqt]; exact h.cells
    clear hp hr hbl hcl hrl hrcl p1 p2 p4 p5 hrp hg hst hh hs hhl hsl i1 i2 hv hd hdl hm hM hY hR hRp hRle hYR rX rQ rY rM rR rp rm hQ hX hXQ hQb HC hxb hxt hqb hqt hmb hmt hpb hpt hMb hMt hyb hyt hRb hRt
    obtain ⟨y2, y1, y3⟩ := HPC.out wo HJ.out.bel
    obtain ⟨x0, x1, q0, q1⟩ := HCX.out wo HJ.out
    go_wp2_with fail
    (with_reducible refine (HMX.out _).mono ?_)
    rintro e w3 ⟨rfl, hb3⟩
    replace HJ := Lib.hid (HJ.out.below hb3)
    clear x0 x1 q0 q1 y1 y2 y3 hb3
    obtain ⟨x0, x1, q0, q1⟩ := HCX.out w3 HJ.out
    go_wp2_with fail
    (with_reducible refine (HMQ.out _).mono ?_)
    rintro e w4 ⟨rfl, hb3⟩
    replace HJ := Lib.hid (HJ.out.below hb3)
    clear x0 x1 q0 q1 hb3
    go_wp2_with fail
    (with_reducible refine (HIN.out _).mono ?_)
    rintro e w5 ⟨rfl, hb3⟩
    replace HJ := Lib.hid (HJ.out.below hb3)
    clear hb3
    obtain ⟨y2, y1, y3⟩ := HPC.out w5 HJ.out.bel
    go_wp2_with fail
    (with_reducible refine (HSU.out _).mono ?_)
    rintro e w6 ⟨rfl, hb3⟩
    replace HJ := Lib.hid (HJ.out.below hb3)
    clear hb3 y1 y2 y3
    go_wp2_with fail
    (with_reducible refine (HMU.out _).mono ?_)
    rintro e w7 ⟨rfl, hb3⟩
    replace HJ := Lib.hid (HJ.out.below hb3)
    clear hb3
    go_upto_region 13 with (fail)
    have HJ7 := HJ
    have hS0 : ∀ W, Below w7.heap.size w7 W → W.cell? ⟨bq, 0, none⟩ = some (.bool qb) ∧ W.cell? ⟨bq, 1, none⟩ = some (.string qt) := fun W hb => by
     obtain ⟨-, -, q0, q1⟩ := HCX.out W (HJ7.out.below hb)
     exact ⟨q0, q1⟩
    refine wp_region_AE 9 7 w7.heap.size (fun w' => w'.cell? ⟨bq, 0, none⟩ = some (.bool qb) ∧ w'.cell? ⟨bq, 1, none⟩ = some (.string qt)) (fun W => Below w7.heap.size w7 W) (fun j => decide (9 ≤ j)) (by kernel_rfl) rfl (by kernel_rfl) (fun _ _ _ _ h => h) (by kernel_rfl) (fact_below (Nat.le_refl _) hS0) ((Below.refl _ _).drew) (fun hF => ?_)
    refine wpAnyA_alloc 8 (.cells #[.bool false, .string ⟨#[]⟩] 40) (by kernel_rfl) rfl rfl (by kernel_rfl) (by kernel_rfl) (fun _ => rfl) (fun _ _ => rfl) (fun _ _ _ _ h => h) hF ?_
    try simp only [Act.put, List.setIfInBounds_toArray, List.set_cons_zero, List.set_cons_succ]
    refine wpAnyA_take 0 (v := ?_) (by kernel_rfl) rfl rfl (by kernel_rfl) (by kernel_rfl) (fun _ _ _ h => h) (Or.inl ⟨by rfl, ?_⟩) (by assumption) ?_
    rotate_left
    ·(intro wq hSq; (try dsimp only at hSq); go_simp; try with_reducible rfl)
    try simp only [Act.put, List.setIfInBounds_toArray, List.set_cons_zero, List.set_cons_succ]
    refine wpAnyA_take 1 (v := ?_) (by kernel_rfl) rfl rfl (by kernel_rfl) (by kernel_rfl) (fun _ _ _ h => h) (Or.inl ⟨by rfl, ?_⟩) (by assumption) ?_
    rotate_left
    ·(intro wq hSq; (try dsimp only at hSq); go_simp; try with_reducible rfl)
    try simp only [Act.put, List.setIfInBounds_toArray, List.set_cons_zero, List.set_cons_succ]
    refine wpAnyA_take 2 (v := ?_) (by kernel_rfl) rfl rfl (by kernel_rfl) (by kernel_rfl) (fun _ _ _ h => h) (Or.inl ⟨by rfl, ?_⟩) (by assumption) ?_
    rotate_left
    ·(intro wq hSq; (try dsimp only at hSq); go_simp; try with_reducible rfl)
    try simp only [Act.put, List.setIfInBounds_toArray, List.set_cons_zero, List.set_cons_succ]
    refine wpAnyA_step 3 (by kernel_rfl) rfl rfl (fun wq (hFq : Below w7.heap.size w7 wq) K hK => ?_)
    go_simp
    (with_reducible refine (HOM.out _).mono ?_)
    rintro e w8 ⟨rfl, hb6⟩
    have hd6 : Below w7.heap.size w7 w8 := below_via hFq hb6
    have hF6 : Fact w7.heap.size (fun w' => w'.cell? ⟨bq, 0, none⟩ = some (.bool qb) ∧ w'.cell? ⟨bq, 1, none⟩ = some (.string qt)) (fun W => Below w8.heap.size w8 W) := fact_below hd6.size (fun W hb => hS0 W (below_via hd6 hb))
    refine hK.out _ _ hb6 (fun W => Below w8.heap.size w8 W) hF6 (Below.refl _ _) ?_
    clear hK K hFq hb6
    try simp only [Act.put, List.setIfInBounds_toArray, List.set_cons_zero, List.set_cons_succ]
    refine wpAnyA_step 4 (by kernel_rfl) rfl rfl (fun wq (hFq : Below w8.heap.size w8 wq) K hK => ?_)
    go_simp
    (with_reducible refine (HQM.out _).mono ?_)
    rintro e w9 ⟨rfl, hb7⟩
    have hd7 : Below w7.heap.size w7 w9 := below_via hd6 (below_via hFq hb7)
    have hF7 : Fact w7.heap.size (fun w' => w'.cell? ⟨bq, 0, none⟩ = some (.bool qb) ∧ w'.cell? ⟨bq, 1, none⟩ = some (.string qt)) (fun W => Below w9.heap.size w9 W) := fact_below hd7.size (fun W hb => hS0 W (below_via hd7 hb))
    refine hK.out _ _ hb7 (fun W => Below w9.heap.size w9 W) hF7 (Below.refl _ _) ?_
    clear hK K hFq hb7
    try simp only [Act.put, List.setIfInBounds_toArray, List.set_cons_zero, List.set_cons_succ]
    refine wpAnyA_take 5 (v := ?_) (by kernel_rfl) rfl rfl (by kernel_rfl) (by kernel_rfl) (fun _ _ _ h => h) (Or.inl ⟨by rfl, ?_⟩) (by assumption) ?_
    rotate_left
    ·(intro wq hSq; (try dsimp only at hSq); go_simp; try with_reducible rfl)
    try simp only [Act.put, List.setIfInBounds_toArray, List.set_cons_zero, List.set_cons_succ]
    refine wpAnyA_take 6 (v := ?_) (by kernel_rfl) rfl rfl (by kernel_rfl) (by kernel_rfl) (fun _ _ _ h => h) (Or.inl ⟨by rfl, ?_⟩) (by assumption) ?_
    rotate_left
    ·(intro wq hSq; (try dsimp only at hSq); go_simp; try with_reducible rfl)
    try simp only [Act.put, List.setIfInBounds_toArray, List.set_cons_zero, List.set_cons_succ]
    refine wpAnyA_take 7 (v := ?_) (by kernel_rfl) rfl rfl (by kernel_rfl) (by kernel_rfl) (fun _ _ _ h => h) (Or.inl ⟨by rfl, ?_⟩) (by assumption) ?_
    rotate_left
    ·(intro wq hSq; (try dsimp only at hSq); go_simp; try with_reducible rfl)
    try simp only [Act.put, List.setIfInBounds_toArray, List.set_cons_zero, List.set_cons_succ]
    refine wpAnyA_end (by kernel_rfl) (fun z0 (hFx : Below w9.heap.size w9 z0) => ?_)
    intro q hq hq7
    have hd0 := below_via hd7 hFx
    clear hF hF6 hF7 hS0 hd6 hd7 hFx
    obtain ⟨d0, d1, zf⟩ := wide_cells hq7
    have hz0 := zf 0
    have hz1 := zf 1
    refine wpAny_of_D (S := fun _ => True) (late := fun _ => true) _ _ _ _ ?_
    refine wpAnyD_step 9 (by kernel_rfl) rfl rfl (fun K hK => ?_)
    simp only [moreAfter]
    go_simp
    refine hK.out _ _ ?_
    clear hK K d0 d1 zf hz0 hz1
    try simp only [Act.put, List.setIfInBounds_toArray, List.set_cons_zero, List.set_cons_succ]
    have m0 := wide_set hq7 Mb Mt
    have hd1 : Below w7.heap.size w7 ((z0.setCell ⟨q, 0, none⟩ (.bool Mb)).setCell ⟨q, 1, none⟩ (.string Mt)) := (hd0.setCell hq _).setCell hq _
    clear hq7 hd0
    generalize (z0.setCell ⟨q, 0, none⟩ (.bool Mb)).setCell ⟨q, 1, none⟩ (.string Mt) = wA at m0 hd1 ⊢
    refine wpAnyD_step 10 (by kernel_rfl) rfl rfl (fun K hK => ?_)
    go_simp
    refine hK.out _ _ ?_
    clear hK K
    try simp only [Act.put, List.setIfInBounds_toArray, List.set_cons_zero, List.set_cons_succ]
    refine wpAnyD_end (by kernel_rfl) ?_
    replace HJ := Lib.hid (HJ7.out.below hd1)
    obtain ⟨x0, x1, -, -⟩ := HCX.out wA HJ.out
    obtain ⟨m1, m2, -⟩ := wide_cells m0
    clear hd1 HJ7 m0 hq
    go_wp2_with fail
    (with_reducible refine (HAD.out _).mono ?_)
    rintro e wB ⟨rfl, hb3⟩
    replace HJ := Lib.hid (HJ.out.below hb3)
    clear x0 x1 m1 m2 hb3
    obtain ⟨x0, x1, xf⟩ := wide_cells HJ.out.hx
    have HJY := HJ.out.setX hw1 hw2 (Y : Int)
    rw [← HYB.out, ← HYT.out] at HJY
    go_upto_region 15 with (fail)
    generalize (wB.setCell ⟨bx, 0, none⟩ (.bool yb)).setCell ⟨bx, 1, none⟩ (.string yt) = wC at HJY ⊢
    clear x0 x1 xf HJ
    have HJ8 := Lib.hid HJY
    have hkq : ∀ W, Below wC.heap.size wC W → W.cell? ⟨bq, 0, none⟩ = some (.bool qb) ∧ W.cell? ⟨bq, 1, none⟩ = some (.string qt) := fun W hb => by
     have h := HJY.below hb
     have h2 := wide_cells h.hq
     rw [← HQB.out, ← HQT.out] at h2
     exact ⟨h2.1, h2.2.1⟩
    have HKQ := Lib.hid hkq
    obtain ⟨q0, q1⟩ := hkq wC (Below.refl _ _)
    clear HJY hkq
    refine wp_region_late (fun w' => w'.cell? ⟨bq, 0, none⟩ = some (.bool qb) ∧ w'.cell? ⟨bq, 1, none⟩ = some (.string qt)) (fun j => decide (j = 8)) (by kernel_rfl) ⟨q0, q1⟩ (fun hHeld => ?_)
    refine tkD 0 (v := ?_) rfl ?_ ?_
    rotate_left
    ·(intro wq hSq; (try dsimp only at hSq); go_simp; try with_reducible rfl)
    try simp only [Act.put, List.setIfInBounds_toArray, List.set_cons_zero, List.set_cons_succ]
    refine tkD 1 (v := ?_) rfl ?_ ?_
    rotate_left
    ·(intro wq hSq; (try dsimp only at hSq); go_simp; try with_reducible rfl)
    try simp only [Act.put, List.setIfInBounds_toArray, List.set_cons_zero, List.set_cons_succ]
    refine tkD 2 (v := ?_) rfl ?_ ?_
    rotate_left
    ·(intro wq hSq; (try dsimp only at hSq); go_simp; try with_reducible rfl)
    try simp only [Act.put, List.setIfInBounds_toArray, List.set_cons_zero, List.set_cons_succ]
    refine wpAnyD_keep 3 (by kernel_rfl) rfl (fun K hK => ?_)
    go_simp
    go_at_call 15
    (with_reducible refine (HOP.out _).mono ?_)
    rintro e wD ⟨rfl, hbB⟩
    have hbB' : Below wC.heap.size wC wD := ((Below.refl wC.heap.size wC).drew).trans hbB
    refine hK.out _ _ (HKQ.out _ hbB') (fun hHeld3 => ?_)
    have HBB := Lib.hid hbB'
    clear hK K hHeld hbB hbB'
    try simp only [Act.put, List.setIfInBounds_toArray, List.set_cons_zero, List.set_cons_succ]
    refine wpAnyD_keep 4 (by kernel_rfl) rfl (fun K hK => ?_)
    go_simp
    go_at_call 54
    (with_reducible refine (HQP.out _).mono ?_)
    rintro e wE ⟨rfl, hbC⟩
    have hbC' : Below wC.heap.size wC wE := below_via HBB.out hbC
    refine hK.out _ _ (HKQ.out _ hbC') (fun hHeld4 => ?_)
    have HJE := Lib.hid (HJ8.out.below hbC')
    clear hK K hHeld3 hbC hbC' q0 q1
    try simp only [Act.put, List.setIfInBounds_toArray, List.set_cons_zero, List.set_cons_succ]
    refine tkW 5 (v := ?_) rfl ?_ ?_
    rotate_left
    ·(intro wq hSq; (try dsimp only at hSq); go_simp; try with_reducible rfl)
    try simp only [Act.put, List.setIfInBounds_toArray, List.set_cons_zero, List.set_cons_succ]
    refine tkW 6 (v := ?_) rfl ?_ ?_
    rotate_left
    ·(intro wq hSq; (try dsimp only at hSq); go_simp; try with_reducible rfl)
    try simp only [Act.put, List.setIfInBounds_toArray, List.set_cons_zero, List.set_cons_succ]
    refine tkW 7 (v := ?_) rfl ?_ ?_
    rotate_left
    ·(intro wq hSq; (try dsimp only at hSq); go_simp; try with_reducible rfl)
    try simp only [Act.put, List.setIfInBounds_toArray, List.set_cons_zero, List.set_cons_succ]
    refine wpAnyD_step 8 (by kernel_rfl) rfl rfl (fun K hK => ?_)
    obtain ⟨q0, q1, qf⟩ := wide_cells HJE.out.hq
    go_simp
    refine hK.out _ _ ?_
    clear hK K hHeld4 q0 q1 qf
    refine wpAnyD_end (by kernel_rfl) ?_
    have HJR := HJE.out.setQ hw1 hw2 (R : Int)
    rw [← HRB.out, ← HRT.out] at HJR
    generalize (wE.setCell ⟨bq, 0, none⟩ (.bool Rb)).setCell ⟨bq, 1, none⟩ (.string Rt) = wF at HJR ⊢
    go_wp2_with fail
    go_roundw
    case rel => exact ⟨k + 1, Y, R, by omega, by go_num, HJR, HC2.out⟩
    case measure => simp [intOf]; omega
   ·obtain rfl : k = n := by omega
    have hXc : X = crtN ps rs := by
     have h1 := hX
     rw [HNP.out, List.take_length, ← HNP.out, HN.out, List.take_length] at h1
     exact h1.uniq HSEP.out (by rw [← HN.out]; exact HNP.out) (crtN_ok HSEP.out HROWP.out)
    have hQp : Q = prodL ps := by rw [hQ, HNP.out, List.take_length]
    have hjz : balZ (X : Int) (Q : Int) = joinZ ps rs := by rw [hXc, hQp]; rfl
    have hbal : ∀ W : World, Calls Tryz.prog 61 #[.agg #[.bool (zN (X : Int)), .string (zT (X : Int))], .agg #[.bool (zN (Q : Int)), .string (zT (Q : Int))]] W (WideOk (joinZ ps rs) W) := fun W => by
     rw [← hjz]; exact refBalanced_z X Q rX rQ (by omega) W
    obtain ⟨xb, hxb⟩ : ∃ z, z = zN (X : Int) := ⟨_, rfl⟩
    obtain ⟨xt, hxt⟩ : ∃ z, z = zT (X : Int) := ⟨_, rfl⟩
    obtain ⟨qb, hqb⟩ : ∃ z, z = zN (Q : Int) := ⟨_, rfl⟩
    obtain ⟨qt, hqt⟩ : ∃ z, z = zT (Q : Int) := ⟨_, rfl⟩
    obtain ⟨jb, hjb⟩ : ∃ z, z = zN (joinZ ps rs) := ⟨_, rfl⟩
    obtain ⟨jt, hjt⟩ : ∃ z, z = zT (joinZ ps rs) := ⟨_, rfl⟩
    unfold WideOk at hbal
    rw [← hxb, ← hxt, ← hqb, ← hqt, ← hjb, ← hjt] at hbal
    have HBAL := Lib.hid hbal
    have hcc := HJ.out.cells
    rw [← hxb, ← hxt, ← hqb, ← hqt] at hcc
    obtain ⟨x0, x1, q0, q1⟩ := hcc
    have HJB := Lib.hid hjb
    have HJT := Lib.hid hjt
    clear hXc hQp hjz hbal hxb hxt hqb hqt hjb hjt rX rQ hX hXQ hQb HC hQ
    go_wp2_with fail
    (with_reducible refine (HBAL.out _).mono ?_)
    rintro e w3 ⟨rfl, hb3⟩
    have hj3 := HJ.out.below hb3
    have hg3 := hj3.h0
    obtain ⟨r0, r1, rf⟩ := wide_cells hg3
    have m2 := wide_set hg3 jb jt
    have hb9 := below_set2 (p := w.heap.size) hj3.bel (Nat.le_refl _) jb jt
    clear hj3 hg3 hb3 x0 x1 q0 q1
    go_wp2
    obtain ⟨d20, d21, -⟩ := wide_cells m2
    clear m2 r0 r1 rf
    generalize (w3.setCell ⟨w.heap.size, 0, none⟩ (.bool jb)).setCell ⟨w.heap.size, 1, none⟩ (.string jt) = W9 at d20 d21 hb9 ⊢
    rw [HP.out]
    exact bodyPost_ret (v := .tuple #[.agg #[.bool jb, .string jt], .int .i64 0]) (by simp [results, Tryz.results27, go_sem, d20, d21]) rfl ⟨by simp only [if_true, HJB.out, HJT.out], hb9⟩
end
/- Walks: the reference makes a system. -/
section
open Go.RowKit Go.Shelf Go.WideNum PN
structure RNew (w W : World) (c : Nat) (lv : Value) (l : List Nat) (Q : Nat) : Prop where
 h0 : W.heap[c]? = some (.cells #[lv, .bool (zN (Q : Nat)), .string (zT (Q : Nat))] 93)
 ol : W.owns (c + 1) 22 1 lv l.length (l.map u32V)
 bel : Below w.heap.size w W
 hc : w.heap.size ≤ c
theorem RNew.below {w W W' : World} {c : Nat} {lv : Value} {l : List Nat} {Q : Nat} (h : RNew w W c lv l Q) (hb : Below W.heap.size W W') : RNew w W' c lv l Q :=
 ⟨hold_heap h.h0 hb, h.ol.below hb, below_via h.bel hb, h.hc⟩
theorem RNew.size {w W : World} {c : Nat} {lv : Value} {l : List Nat} {Q : Nat} (h : RNew w W c lv l Q) : c + 1 ≤ W.heap.size := lt_of_heap h.h0
theorem RNew.start {w W : World} (hb : Below w.heap.size w W) (Q : Nat) : RNew w (W.alloc (.cells #[.slice none 0 0, .bool (zN (Q : Nat)), .string (zT (Q : Nat))] 93)) W.heap.size (.slice none 0 0) [] Q :=
 ⟨heap_alloc_new W _, World.owns_nil _ _ _ _, hb.alloc hb.size _, hb.size⟩
theorem RNew.pushL {w W W' : World} {c : Nat} {lv lv' : Value} {l : List Nat} {Q p : Nat} (h : RNew w W c lv l Q) (ho : W'.owns (c + 1) 22 1 lv' (l.length + 1) (l.map u32V ++ [u32V p])) (hg : W.grownBy W' lv.ownBlock) :
  W'.heap[c]? = some (.cells #[lv, .bool (zN (Q : Nat)), .string (zT (Q : Nat))] 93) ∧ RNew w (W'.setCell ⟨c, 0, none⟩ lv') c lv' (l ++ [p]) Q := by
 have hs := h.size
 have hc := h.hc
 have hk : W'.heap[c]? = some (.cells #[lv, .bool (zN (Q : Nat)), .string (zT (Q : Nat))] 93) := by
  rw [hg.block _ (by omega) (fun e => by have := (h.ol.lt _ e.symm).1; omega)]; exact h.h0
 refine ⟨hk, ?_, ?_, ?_, hc⟩
 ·simp [World.setCell, Array.getElem?_modify, hk]
 ·have := ho.setCell (a := ⟨c, 0, none⟩) (by simp) lv'
  rw [List.length_append, List.map_append]
  exact this
 ·have h1 : Below w.heap.size w W' := h.bel.grown hg (by omega) (fun k hk => by have := (h.ol.lt k hk).1; omega)
  exact h1.setCell (by simpa using hc) _
theorem RNew.setQ {w W : World} {c : Nat} {lv : Value} {l : List Nat} {Q : Nat} (h : RNew w W c lv l Q) (R : Nat) : RNew w ((W.setCell ⟨c, 1, none⟩ (.bool (zN (R : Nat)))).setCell ⟨c, 2, none⟩ (.string (zT (R : Nat)))) c lv l R := by
 have hc := h.hc
 refine ⟨?_, ?_, ?_, hc⟩
 ·simp [World.setCell, Array.getElem?_modify, h.h0]
 ·exact (h.ol.setCell (by simp) _).setCell (by simp) _
 ·exact (h.bel.setCell (by simpa using hc) _).setCell (by simpa using hc) _
def RefRet (w : World) (ps : List Nat) (ok : Bool) (e : Ending) (w' : World) : Prop :=
 Below w.heap.size w w' ∧ (if ok then ∃ c, e = .returned (.tuple #[.pointer (some ⟨c, 0, none⟩), .int .i64 0]) ∧ RefAt w' c ps else e = .returned (.tuple #[.pointer none, .int .i64 2]))
def RefO (B : Nat) (w : World) (c : Nat) (ps : List Nat) : Prop := B ≤ c ∧ ∃ lv, w.heap[c]? = some (.cells #[lv, .bool (zN (prodL ps : Nat)), .string (zT (prodL ps : Nat))] 93) ∧ w.owns B 22 1 lv ps.length (ps.map u32V)
theorem RefO.ref {B : Nat} {w : World} {c : Nat} {ps : List Nat} (h : RefO B w c ps) : RefAt w c ps := by
 obtain ⟨-, lv, h1, h2⟩ := h
 exact ⟨lv, h1, h2.reads⟩
theorem RNew.so {w W : World} {c : Nat} {lv : Value} {ps : List Nat} (h : RNew w W c lv ps (prodL ps)) : RefO w.heap.size W c ps := ⟨h.hc, lv, h.h0, h.ol.mono (by have := h.hc; omega)⟩
def RefRetS (w : World) (ps : List Nat) (ok : Bool) (e : Ending) (w' : World) : Prop :=
 Below w.heap.size w w' ∧ (if ok then ∃ c, e = .returned (.tuple #[.pointer (some ⟨c, 0, none⟩), .int .i64 0]) ∧ RefO w.heap.size w' c ps else e = .returned (.tuple #[.pointer none, .int .i64 2]))
theorem RefRetS.no {w w' : World} {ps : List Nat} (h : Below w.heap.size w w') : RefRetS w ps false (.returned (.tuple #[.pointer none, .int .i64 2])) w' := ⟨h, rfl⟩
theorem refNew_so (ps : List Nat) (pv : Value) (w : World) (hr : w.reads w.heap.size pv (ps.map u32V)) (hpb : ∀ p ∈ ps, p < 4294967296) (ok : Bool) (hok : ok = true ↔ SysP ps) :
  Calls Tryz.prog 26 #[pv] w (RefRetS w ps ok) := by
 obtain ⟨HPOST, hpost⟩ : ∃ R, R = RefRetS w ps ok := ⟨_, rfl⟩
 rw [← hpost]
 have HP := Lib.hid hpost
 have HOK := Lib.hid hok
 have hl1 := hr.le_map
 have HPB := Lib.hid hpb
 obtain ⟨pa, pc, rfl, hpc, hpm, hps⟩ := reads_u32 hr
 have HS := Lib.hid hps
 obtain ⟨n, hn⟩ : ∃ n, n = ps.length := ⟨_, rfl⟩
 rw [← hn] at hpc hl1 ⊢
 have HN := Lib.hid hn
 clear hpost hok hr hps hn hpb
 by_cases h1 : n < 1
 ·have t1 : (n : Int) < 1 := by omega
  obtain rfl : ok = false := by
   cases h : ok
   ·rfl
   ·have := (HOK.out.1 h).1; have := HN.out; omega
  clear h1
  go_enter Tryz.func26, Tryz.ntmps26
  go_wp2
  rw [HP.out]
  exact RefRetS.no (Below.refl _ _)
 have t1 : ¬ (n : Int) < 1 := by omega
 by_cases h2 : 25 < n
 ·have t2 : (25 : Int) < (n : Int) := by omega
  obtain rfl : ok = false := by
   cases h : ok
   ·rfl
   ·have := (HOK.out.1 h).2.1; have := HN.out; omega
  clear h1 h2
  go_enter Tryz.func26, Tryz.ntmps26
  go_wp2
  rw [HP.out]
  exact RefRetS.no (Below.refl _ _)
 have t2 : ¬ (25 : Int) < (n : Int) := by omega
 have hof := fun W => refOf_z 1 (by omega) (by omega) W
 obtain ⟨ob, hob⟩ : ∃ z, z = zN 1 := ⟨_, rfl⟩
 obtain ⟨ot, hot⟩ : ∃ z, z = zT 1 := ⟨_, rfl⟩
 rw [← hob, ← hot] at hof
 have HOF := Lib.hid hof
 have HOB := Lib.hid hob
 have HOT := Lib.hid hot
 clear hof hob hot h1 h2
 go_enter Tryz.func26, Tryz.ntmps26
 go_wp2_with fail
 (with_reducible refine (HOF.out _).mono ?_)
 rintro e w1 ⟨rfl, hb1⟩
 go_upto_region 4 with (fail)
 have hst := RNew.start hb1 1
 rw [Int.natCast_one, ← HOB.out, ← HOT.out] at hst
 obtain ⟨c, hc⟩ : ∃ c, c = w1.heap.size := ⟨_, rfl⟩
 rw [← hc] at hst ⊢
 generalize w1.alloc (.cells #[.slice none 0 0, .bool ob, .string ot] 93) = w2 at hst ⊢
 have HST := Lib.hid hst
 clear hb1 hst hc HOF HOB HOT
 go_wp2_with fail
 go_loopw [5] (fun iv wx => ∃ k : Nat, k ≤ n ∧ iv = .int .i64 (k : Int) ∧ Hid (SysTo ps k) ∧ Hid (∃ lv, RNew w wx c lv (ps.take k) (prodL (ps.take k)))) (fun iv _ => n - (intOf iv).toNat)
 case atStart => exact ⟨0, Nat.zero_le _, rfl, fun i hi => by omega, ⟨_, HST.out⟩⟩
 case round =>
  obtain ⟨k, hk, rfl, hto, hS⟩ := hrel
  obtain ⟨wo, rfl⟩ : ∃ x, x = wr := ⟨_, rfl⟩
  obtain ⟨lv, hS⟩ := hS.out
  have HS0 := Lib.hid hS
  clear hS
  by_cases hlt : k < n
  ·have hkp : k < ps.length := by rw [← HN.out]; exact hlt
   obtain ⟨p, hp⟩ : ∃ p, ps[k]? = some p := ⟨ps[k], List.getElem?_eq_getElem hkp⟩
   obtain ⟨b2, o2, rfl, hb2l, d2⟩ := HS.out k p hp
   have hpl : p < 4294967296 := HPB.out p (List.mem_of_getElem? hp)
   have e2 := (HS0.out.bel.cell (p := ⟨b2, o2 + k, none⟩) hb2l).trans d2
   have HP1 := Lib.hid hp
   have s1 : (k : Int) < (n : Int) := by omega
   clear hkp hp d2
   by_cases hev : p % 2 = 0
   ·obtain rfl : ok = false := not_sys HOK.out HP1.out (fun h => by have := h.1; omega)
    have u1 : (p : Int) % 2 = 0 := by omega
    clear hev
    go_wp2
    rw [HP.out]
    exact RefRetS.no HS0.out.bel
   have u1 : (p : Int) % 2 = 1 := by omega
   by_cases hmx : 2147483647 < p
   ·obtain rfl : ok = false := not_sys HOK.out HP1.out (fun h => by have := h.2.1; omega)
    have u2 : (2147483647 : Int) < (p : Int) := by omega
    clear hev hmx
    go_wp2
    rw [HP.out]
    exact RefRetS.no HS0.out.bel
   have u2 : ¬ (2147483647 : Int) < (p : Int) := by omega
   have hmax : p ≤ 2147483647 := by omega
   have hodd : p % 2 = 1 := by omega
   obtain ⟨pr, hpr⟩ := em_bool (RefP p)
   have HPRM := Lib.hid (fun W => Prime01_any p hpl pr hpr W)
   have HPR := Lib.hid hpr
   clear hpr hev hmx
   go_wp2_with fail
   (with_reducible refine (HPRM.out _).mono ?_)
   rintro e w3 ⟨rfl, rfl⟩
   cases pr with
   | false =>
    obtain rfl : ok = false := not_sys HOK.out HP1.out (fun h => by have := HPR.out.2 ((prime_iff (by omega)).1 h.2.2.2); cases this)
    go_wp2
    rw [HP.out]
    exact RefRetS.no HS0.out.bel
   | true =>
    have hprime : PrimeP p := (prime_iff (by omega)).2 (HPR.out.1 rfl)
    have HPP := Lib.hid hprime
    clear hprime
    go_wp2_with fail
    go_loopw [7] (fun jv wx => ∃ j : Nat, j ≤ k ∧ jv = .int .i64 (j : Int) ∧ wx = wo ∧ Hid (∀ i q : Nat, i < j → ps[i]? = some q → q ≠ p)) (fun jv _ => k - (intOf jv).toNat)
    case atStart => exact ⟨0, Nat.zero_le _, rfl, rfl, fun i q hi => by omega⟩
    case round =>
     obtain ⟨j, hj, rfl, rfl, hne⟩ := hrel
     by_cases hjk : j < k
     ·have hjp : j < ps.length := by have := HN.out; omega
      obtain ⟨q, hq⟩ : ∃ q, ps[j]? = some q := ⟨ps[j], List.getElem?_eq_getElem hjp⟩
      obtain ⟨b3, o3, hpa3, hb3l, d3⟩ := HS.out j q hq
      injection hpa3 with hpa3
      injection hpa3 with hpa3 hpa4 _
      subst hpa3 hpa4
      have e3 := (HS0.out.bel.cell (p := ⟨b2, o2 + j, none⟩) hb3l).trans d3
      have t3 : (j : Int) < (k : Int) := by omega
      have t4 : (j : Int) < (n : Int) := by omega
      have HQ := Lib.hid hq
      clear hjp hq d3
      by_cases hqp : q = p
      ·subst hqp
       obtain rfl : ok = false := not_sys HOK.out HP1.out (fun h => h.2.2.1 (List.mem_of_getElem? (by rw [List.getElem?_take, if_pos hjk]; exact HQ.out)))
       have t5 : ((q : Int) == (q : Int)) = true := by simp
       clear hne
       go_wp2
       rw [HP.out]
       exact RefRetS.no HS0.out.bel
      ·have t5 : ((q : Int) == (p : Int)) = false := by rw [beq_eq_false_iff_ne]; omega
       have HNE : Hid (∀ i q : Nat, i < j + 1 → ps[i]? = some q → q ≠ p) := fun i q' hi hq' => by
        rcases (show i < j ∨ i = j by omega) with h | rfl
        ·exact hne.out i q' h hq'
        ·rw [HQ.out] at hq'; injection hq' with hq'; omega
       clear hne hqp
       go_wp2_with fail
       go_roundw
       case rel => exact ⟨j + 1, by omega, by go_num, trivial, HNE.out⟩
       case measure => simp [intOf]; omega
     ·obtain rfl : j = k := by omega
      have hnot : p ∉ ps.take j := fun hm => by
       obtain ⟨i, hi⟩ := List.mem_iff_getElem?.1 hm
       rw [List.getElem?_take] at hi
       split at hi
       ·exact hne.out i p (by assumption) hi rfl
       ·cases hi
      have hok1 : OkAt (ps.take j) p := ⟨hodd, hmax, hnot, HPP.out⟩
      have HTO2 := Lib.hid (hto.out.succ HP1.out hok1)
      clear hne hnot hok1 hto e2
      have hll : (ps.take j).length = j := by rw [List.length_take]; have := HN.out; omega
      obtain ⟨la, lc, hlv, -⟩ := HS0.out.ol.at_
      rw [hll] at hlv
      subst hlv
      have hol := HS0.out.ol
      rw [hll] at hol
      have HOL := Lib.hid hol
      have HLL := Lib.hid hll
      obtain ⟨c0, -, -, f0, -⟩ := three_ref HS0.out.h0
      have hwr1 : c + 1 ≤ wr.heap.size := HS0.out.size
      obtain ⟨i0, hi0, hiz, hiz1, hizb⟩ := info_parts infoU32
      have HI0 := Lib.hid hi0
      have t6 : ¬ (j : Int) < (j : Int) := by omega
      clear hll hol hi0
      go_upto_region 16 with (at_builtin; refine wpList_pushF wr rfl (.tmp 56) (.tmp 58) 23 rfl (c + 1) 22 i0 (.int .u32 0) 4 Tryz.underlying23 HI0.out hiz hiz1 hizb rfl (.slice la j lc) j _ rfl HOL.out (.int .u32 (p : Int)) wr.heap.size rfl rfl (by simp [Value.oneCell']) (by unfold maxLen; omega) (by omega) hwr1 ?_; intro v7 w7 ho7 hg7 hz7 hf7; obtain ⟨hk7, hN7⟩ := HS0.out.pushL (p := p) (by rw [HLL.out]; exact ho7) hg7; have HN7 := Lib.hid hN7; obtain ⟨va7, vc7, rfl, -⟩ := ho7.at_; obtain ⟨c0, -, -, f0, -⟩ := three_ref hk7; clear ho7 hg7 hk7 hN7 hf7 hz7)
      generalize w7.setCell ⟨c, 0, none⟩ (.slice va7 (j + 1) vc7) = w8 at HN7 ⊢
      clear c0 f0 hwr1 HOL HS0
      obtain ⟨X, hX⟩ : ∃ X, X = prodL (ps.take j) := ⟨_, rfl⟩
      obtain ⟨Y, hY⟩ : ∃ Y, Y = X * p := ⟨_, rfl⟩
      have hYp : Y = prodL (ps.take (j + 1)) := by rw [take_succ' HP1.out, prodL_snoc, ← hX, hY]
      have hbd : ∀ i, i ≤ 26 → prodL (ps.take i) < 4294967296 ^ 64 := fun i hi => by
       have h1 := prodL_lt (l := ps.take i) (fun q hq => HPB.out q (List.mem_of_mem_take hq))
       have h2 : 4294967296 ^ (ps.take i).length ≤ 4294967296 ^ 26 := Nat.pow_le_pow_right (by omega) (by rw [List.length_take]; omega)
       have h3 : 4294967296 ^ 26 < 4294967296 ^ 64 := Nat.pow_lt_pow_right (by omega) (by omega)
       omega
      have rX : InR (X : Int) := by unfold InR; rw [Int.natAbs_natCast, lim_words, hX]; exact hbd j (by omega)
      have rY : InR (Y : Int) := by unfold InR; rw [Int.natAbs_natCast, lim_words, hYp]; exact hbd (j + 1) (by omega)
      have rp : InR (p : Int) := inR_small (by omega)
      have eY : (X : Int) * (p : Int) = (Y : Int) := by rw [hY]; simp
      have hmul := fun W => refMul_z (X : Int) (p : Int) rX rp (by rw [eY]; exact rY) W
      have hofp := fun W => refOf_z (p : Int) (by omega) (by omega) W
      unfold WideOk at hmul
      rw [eY] at hmul
      rw [← hX] at HN7
      obtain ⟨-, c1, c2, -⟩ := three_ref HN7.out.h0
      obtain ⟨xb, hxb⟩ : ∃ z, z = zN (X : Int) := ⟨_, rfl⟩
      obtain ⟨xt, hxt⟩ : ∃ z, z = zT (X : Int) := ⟨_, rfl⟩
      obtain ⟨yb, hyb⟩ : ∃ z, z = zN (Y : Int) := ⟨_, rfl⟩
      obtain ⟨yt, hyt⟩ : ∃ z, z = zT (Y : Int) := ⟨_, rfl⟩
      obtain ⟨pb, hpb⟩ : ∃ z, z = zN (p : Int) := ⟨_, rfl⟩
      obtain ⟨pt, hpt⟩ : ∃ z, z = zT (p : Int) := ⟨_, rfl⟩
      rw [← hxb, ← hxt, ← hpb, ← hpt, ← hyb, ← hyt] at hmul
      rw [← hxb] at c1
      rw [← hxt] at c2
      rw [← hpb, ← hpt] at hofp
      have HMUL := Lib.hid hmul
      have HOFP := Lib.hid hofp
      have HYB := Lib.hid hyb
      have HYT := Lib.hid hyt
      have HYP := Lib.hid hYp
      have hwA1 : c < w8.heap.size := HN7.out.size
      have w64p : IntKind.i64.wrap (p : Int) = (p : Int) := by rw [IntKind.wrap_i64]; omega
      clear hmul hofp hxb hxt hyb hyt hpb hpt hX hY hYp hbd rX rY rp eY
      refine wp_region_late (fun w' => w'.cell? ⟨c, 1, none⟩ = some (.bool xb) ∧ w'.cell? ⟨c, 2, none⟩ = some (.string xt)) (fun j => decide (j = 14)) (by kernel_rfl) ⟨c1, c2⟩ (fun hHeld => ?_)
      refine tkD 0 (v := ?_) rfl ?_ ?_
      rotate_left
      ·(intro wq hSq; (try dsimp only at hSq); go_simp; try with_reducible rfl)
      try simp only [Act.put, List.setIfInBounds_toArray, List.set_cons_zero, List.set_cons_succ]
      refine tkD 1 (v := ?_) rfl ?_ ?_
      rotate_left
      ·(intro wq hSq; (try dsimp only at hSq); go_simp; try with_reducible rfl)
      try simp only [Act.put, List.setIfInBounds_toArray, List.set_cons_zero, List.set_cons_succ]
      refine tkD 2 (v := ?_) rfl ?_ ?_
      rotate_left
      ·(intro wq hSq; (try dsimp only at hSq); go_simp; try with_reducible rfl)
      try simp only [Act.put, List.setIfInBounds_toArray, List.set_cons_zero, List.set_cons_succ]
      refine tkD 3 (v := ?_) rfl ?_ ?_
      rotate_left
      ·(intro wq hSq; (try dsimp only at hSq); go_simp; try with_reducible rfl)
      try simp only [Act.put, List.setIfInBounds_toArray, List.set_cons_zero, List.set_cons_succ]
      refine tkD 4 (v := ?_) rfl ?_ ?_
      rotate_left
      ·(intro wq hSq; (try dsimp only at hSq); go_simp; try with_reducible rfl)
      try simp only [Act.put, List.setIfInBounds_toArray, List.set_cons_zero, List.set_cons_succ]
      refine tkD 5 (v := ?_) rfl ?_ ?_
      rotate_left
      ·(intro wq hSq; (try dsimp only at hSq); go_simp; try with_reducible rfl)
      try simp only [Act.put, List.setIfInBounds_toArray, List.set_cons_zero, List.set_cons_succ]
      refine tkD 6 (v := ?_) rfl ?_ ?_
      rotate_left
      ·(intro wq hSq; (try dsimp only at hSq); go_simp; try with_reducible rfl)
      try simp only [Act.put, List.setIfInBounds_toArray, List.set_cons_zero, List.set_cons_succ]
      refine wpAnyD_keep 7 (by kernel_rfl) rfl (fun K hK => ?_)
      go_simp
      go_at_call 15
      (with_reducible refine (HOFP.out _).mono ?_)
      rintro e wB ⟨rfl, hbB⟩
      have hbB' : Below w8.heap.size w8 wB := ((Below.refl w8.heap.size w8).drew).trans hbB
      refine hK.out _ _ ⟨(hbB'.cell (p := ⟨c, 1, none⟩) hwA1).trans c1, (hbB'.cell (p := ⟨c, 2, none⟩) hwA1).trans c2⟩ (fun hHeld3 => ?_)
      have HBB := Lib.hid hbB'
      clear hK K hHeld hbB hbB'
      try simp only [Act.put, List.setIfInBounds_toArray, List.set_cons_zero, List.set_cons_succ]
      refine wpAnyD_keep 8 (by kernel_rfl) rfl (fun K hK => ?_)
      go_simp
      go_at_call 54
      (with_reducible refine (HMUL.out _).mono ?_)
      rintro e wC ⟨rfl, hbC⟩
      have hbC' : Below w8.heap.size w8 wC := below_via HBB.out hbC
      refine hK.out _ _ ⟨(hbC'.cell (p := ⟨c, 1, none⟩) hwA1).trans c1, (hbC'.cell (p := ⟨c, 2, none⟩) hwA1).trans c2⟩ (fun hHeld4 => ?_)
      have HNC := Lib.hid (HN7.out.below hbC')
      clear hK K hHeld3 hbC hbC' c1 c2
      try simp only [Act.put, List.setIfInBounds_toArray, List.set_cons_zero, List.set_cons_succ]
      refine tkW 9 (v := ?_) rfl ?_ ?_
      rotate_left
      ·(intro wq hSq; (try dsimp only at hSq); go_simp; try with_reducible rfl)
      try simp only [Act.put, List.setIfInBounds_toArray, List.set_cons_zero, List.set_cons_succ]
      refine tkW 10 (v := ?_) rfl ?_ ?_
      rotate_left
      ·(intro wq hSq; (try dsimp only at hSq); go_simp; try with_reducible rfl)
      try simp only [Act.put, List.setIfInBounds_toArray, List.set_cons_zero, List.set_cons_succ]
      refine tkW 11 (v := ?_) rfl ?_ ?_
      rotate_left
      ·(intro wq hSq; (try dsimp only at hSq); go_simp; try with_reducible rfl)
      try simp only [Act.put, List.setIfInBounds_toArray, List.set_cons_zero, List.set_cons_succ]
      refine tkW 12 (v := ?_) rfl ?_ ?_
      rotate_left
      ·(intro wq hSq; (try dsimp only at hSq); go_simp; try with_reducible rfl)
      try simp only [Act.put, List.setIfInBounds_toArray, List.set_cons_zero, List.set_cons_succ]
      refine tkW 13 (v := ?_) rfl ?_ ?_
      rotate_left
      ·(intro wq hSq; (try dsimp only at hSq); go_simp; try with_reducible rfl)
      try simp only [Act.put, List.setIfInBounds_toArray, List.set_cons_zero, List.set_cons_succ]
      refine wpAnyD_step 14 (by kernel_rfl) rfl rfl (fun K hK => ?_)
      obtain ⟨-, c1, c2, -, f1, f2⟩ := three_ref HNC.out.h0
      go_simp
      refine hK.out _ _ ?_
      clear hK K hHeld4 c1 c2 f1 f2
      refine wpAnyD_end (by kernel_rfl) ?_
      go_wp2_with fail
      go_roundw
      case rel => exact ⟨j + 1, by omega, by go_num, HTO2.out, _, by
       have h1 := HNC.out.setQ Y
       rw [← HYB.out, ← HYT.out] at h1
       rw [← HYP.out, take_succ' HP1.out]
       exact h1⟩
      case measure => simp [intOf]; omega
  ·obtain rfl : k = n := by omega
   obtain rfl : ok = true := HOK.out.2 ⟨by have := HN.out; omega, by have := HN.out; omega, by rw [← HN.out]; exact hto.out⟩
   have h5 := HS0.out
   rw [HN.out, List.take_length] at h5
   have HF := Lib.hid h5
   clear h5 hto HS0
   go_wp2
   rw [HP.out]
   exact ⟨HF.out.bel, ⟨c, rfl, HF.out.so⟩⟩
theorem refNew_any (ps : List Nat) (pv : Value) (w : World) (hr : w.reads w.heap.size pv (ps.map u32V)) (hpb : ∀ p ∈ ps, p < 4294967296) (ok : Bool) (hok : ok = true ↔ SysP ps) :
  Calls Tryz.prog 26 #[pv] w (RefRet w ps ok) := by
 refine (refNew_so ps pv w hr hpb ok hok).mono ?_
 rintro e w' ⟨h1, h2⟩
 refine ⟨h1, ?_⟩
 cases ok with
 | false => exact h2
 | true => obtain ⟨c, h3, h4⟩ := h2; exact ⟨c, h3, h4.ref⟩
end
/- Walks: the reference's balanced coefficients. -/
namespace G
open Go.RowKit Go.Shelf Go.BigFrame Go.WideNum
attribute [local go_sem] Oper.semAt_some
def wcells (F : Nat → Int) : Nat → List Value
 | 0 => []
 | n + 1 => wcells F n ++ [.bool (zN (F n)), .string (zT (F n))]
theorem wcells_len (F : Nat → Int) : ∀ n, (wcells F n).length = n * 2
 | 0 => rfl
 | n + 1 => by
  show (wcells F n ++ _).length = _
  rw [List.length_append, wcells_len F n]
  simp
  omega
theorem wcells_get (F : Nat → Int) : ∀ {n j : Nat}, j < n → (wcells F n)[j * 2]? = some (.bool (zN (F j))) ∧ (wcells F n)[j * 2 + 1]? = some (.string (zT (F j)))
 | n + 1, j, h => by
  have hl := wcells_len F n
  show (wcells F n ++ _)[j * 2]? = _ ∧ (wcells F n ++ _)[j * 2 + 1]? = _
  by_cases hj : j < n
  ·obtain ⟨h1, h2⟩ := wcells_get F hj
   rw [List.getElem?_append_left (by omega), List.getElem?_append_left (by omega)]
   exact ⟨h1, h2⟩
  ·obtain rfl : j = n := by omega
   rw [List.getElem?_append_right (by omega), List.getElem?_append_right (by omega), hl]
   refine ⟨by simp, ?_⟩
   rw [show j * 2 + 1 - j * 2 = 1 by omega]
   rfl
theorem owns_open {w : World} {base size : Nat} {e : TypeId} {v : Value} {n : Nat} {xs : List Value} (h : w.owns base e size v n xs) : ∃ a c, v = .slice a n c := by
 rcases h.2 with ⟨rfl, rfl⟩ | ⟨g, cap, cur, fz, rfl, -⟩
 ·exact ⟨none, 0, rfl⟩
 ·exact ⟨_, cap, rfl⟩
def RWPost (ok : Bool) (n : Nat) (F : Nat → Int) (w : World) (e : Ending) (w' : World) : Prop :=
 (if ok then ∃ v, e = .returned (.tuple #[v, .int .i64 0]) ∧ w'.owns w.heap.size 40 2 v n (wcells F n)
  else e = .returned (.tuple #[.slice none 0 0, .int .i64 2])) ∧ Below w.heap.size w w'
theorem RWPost.no {n : Nat} {F : Nat → Int} {w w' : World} (h : Below w.heap.size w w') : RWPost false n F w (.returned (.tuple #[.slice none 0 0, .int .i64 2])) w' := ⟨by rw [if_neg (by decide)], h⟩
theorem RWPost.yes {n : Nat} {F : Nat → Int} {w w' : World} {v : Value} (h : w'.owns w.heap.size 40 2 v n (wcells F n)) (hb : Below w.heap.size w w') : RWPost true n F w (.returned (.tuple #[v, .int .i64 0])) w' := ⟨by rw [if_pos rfl]; exact ⟨v, rfl, h⟩, hb⟩
theorem colL_take {xs : List (List Nat)} {j k : Nat} {r : List Nat} (h : xs[k]? = some r) : (colL xs j).take (k + 1) = (colL xs j).take k ++ [r.getD j 0] := by
 rw [List.take_add_one, colL_get h]; rfl
theorem rwides_any (N pr pw wt er : Int) (cv : Value) (chain : List Nat) (sp : Nat) (la : Int) (sa : Bool) (av : Value) (xs : List (List Nat)) (w : World) (hr : w.reads w.heap.size cv (chain.map u32V)) (hrow : w.rows u32V w.heap.size av xs) (ok : Bool) (hok : ok = true ↔ checkB N chain sp la sa xs = true ∧ AllP (modl chain sp la.toNat sa)) (n : Nat) (hn : n = N.toNat) (F : Nat → Int) (hF : F = wC (modl chain sp la.toNat sa) xs) :
  Calls Tryz.prog 10 #[.agg #[.int .i64 N, .int .u32 pr, .int .i64 pw, cv, .int .u32 (sp : Int), .int .i64 wt, .int .u32 er], .agg #[.int .i64 la, .bool sa, av]] w (RWPost ok n F w) := by
 obtain ⟨a, cap, rfl, hcap, hmx, -⟩ := reads_u32 hr
 obtain ⟨aa, ac, rfl, hac, ham, has⟩ := hrow.shape
 obtain ⟨W0, hW0⟩ : ∃ W0, W0 = (w.alloc (.cells #[.int .i64 N, .int .u32 pr, .int .i64 pw, .slice a chain.length cap, .int .u32 (sp : Int), .int .i64 wt, .int .u32 er] 25)).alloc (.cells #[.int .i64 la, .bool sa, .slice aa xs.length ac] 28) := ⟨_, rfl⟩
 have hB0 : Below w.heap.size w W0 := by rw [hW0]; exact ((Below.refl _ w).alloc (Nat.le_refl _) _).alloc (by simp) _
 have g0 : W0.heap[w.heap.size]? = some (.cells #[.int .i64 N, .int .u32 pr, .int .i64 pw, .slice a chain.length cap, .int .u32 (sp : Int), .int .i64 wt, .int .u32 er] 25) := by rw [hW0, Below.heap_alloc _ _ _ (by simp)]; exact alloc_last _ _ rfl
 have e0 : W0.heap[w.heap.size + 1]? = some (.cells #[.int .i64 la, .bool sa, .slice aa xs.length ac] 28) := by rw [hW0]; exact alloc_last _ _ (by simp)
 have hz0 := lt_of_heap e0
 have HR0 := Lib.hid ((hr.below hB0).mono hB0.size)
 have HA0 := Lib.hid ((hrow.below hB0).mono hB0.size)
 have HT := Lib.hid (rcheck_any N pr pw wt er _ chain sp la sa _ xs W0 HR0.out HA0.out)
 unfold ErrPost errI at HT
 obtain ⟨ck, hck⟩ : ∃ c, c = checkB N chain sp la sa xs := ⟨_, rfl⟩
 rw [← hck] at HT hok
 obtain ⟨HPOST, hpost⟩ : ∃ R, R = RWPost ok n F w := ⟨_, rfl⟩
 rw [← hpost]
 have HP := Lib.hid hpost
 obtain ⟨c0, c1, c2, c3, c4, c5, c6⟩ := par_cells g0
 obtain ⟨k0, k1, k2, -, -, -⟩ := elem_cells e0
 have HG0 := Lib.hid g0
 have HE0 := Lib.hid e0
 have HW0 := Lib.hid hW0
 have HB0 := Lib.hid hB0
 have HCK := Lib.hid hck
 have HOK := Lib.hid hok
 have HAS := Lib.hid has
 have HFD := Lib.hid hF
 clear hr hrow g0 e0 hW0 hB0 hck hok has hpost hF
 cases ck with
 | false =>
  obtain rfl : ok = false := by
   cases ok with
   | false => rfl
   | true => have := (HOK.out.1 rfl).1; cases this
  clear hn
  go_enter Tryz.func10, Tryz.ntmps10
  go_upto_region 1 with (fail)
  rw [← HW0.out]
  go_wp2_with fail
  (with_reducible refine HT.out.mono ?_)
  rintro e w1 ⟨rfl, hb1⟩
  clear c0 c1 c2 c3 c4 c5 c6 k0 k1 k2
  go_wp2
  rw [HP.out]
  exact RWPost.no (below_via HB0.out hb1)
 | true =>
 obtain ⟨n', lv, hN, hla, i1, i2, i3, i4, i5, i6, i7⟩ := checkB_elt HCK.out.symm
 subst hN hla
 rw [Int.toNat_natCast] at hn HOK HFD
 subst hn
 have hml := modl_length chain sp lv sa i4
 have HMO := Lib.hid (fun W hb => rmoduli_any (n : Int) pr pw wt er _ chain sp lv sa W ((HR0.out.below hb).mono (Below.size hb)) i3 i4 i5)
 unfold ModPost at HMO
 have hsysO : ∀ h : AllP (modl chain sp lv sa), SysP (modl chain sp lv sa) := by
  have hc := HCK.out.symm
  unfold checkB preB at hc
  simp only [Bool.and_eq_true] at hc
  exact fun h => sys_modl hc.1.1 hc.1.2 h
 obtain ⟨ml, hmlE⟩ : ∃ ml, ml = modl chain sp lv sa := ⟨_, rfl⟩
 rw [← hmlE] at HMO HOK HFD i6 i7 hml hsysO
 have hRb : ml.length ≤ 25 := by rw [hml]; split <;> omega
 obtain ⟨R, hR⟩ : ∃ R, R = ml.length := ⟨_, rfl⟩
 rw [i7.1, ← hR] at HW0 HE0 HT k2 hac ⊢
 rw [← hR] at hRb
 obtain ⟨m, hm⟩ : ∃ m, m = chain.length := ⟨_, rfl⟩
 rw [← hm] at hcap HG0 HW0 HMO HT c3 ⊢
 have HRN := Lib.hid hR
 have HAE := Lib.hid i7
 have HMOK := Lib.hid i6
 have HSYS := Lib.hid hsysO
 clear i6 i7 hml hmlE hR hm hsysO HCK
 go_enter Tryz.func10, Tryz.ntmps10
 go_upto_region 1 with (fail)
 rw [← HW0.out]
 go_wp2_with fail
 (with_reducible refine HT.out.mono ?_)
 rintro e w1 ⟨rfl, hb1⟩
 have HG1 := hG HG0 hb1
 have HE1 := hG HE0 hb1
 have HM1 := HMO.out w1 hb1
 have HB1 := Lib.hid (below_via HB0.out hb1)
 have HX1 := Lib.hid hb1
 have hs1 := hb1.size
 have hBw := below_via HB0.out hb1
 clear c0 c1 c2 c3 c4 c5 c6 k0 k1 k2 HMO HT hb1
 obtain ⟨c0, c1, c2, c3, c4, c5, c6⟩ := par_cells HG1.out
 obtain ⟨k0, k1, k2, -, -, -⟩ := elem_cells HE1.out
 go_wp2_with fail
 (with_reducible refine HM1.mono ?_)
 rintro e w2 ⟨⟨v, rfl, hv⟩, hb2⟩
 have HG2 := hG HG1 hb2
 have HE2 := hG HE1 hb2
 have HB2 := Lib.hid (below_via HB1.out hb2)
 obtain ⟨va, vc, rfl, hvc, hvm, hvs⟩ := reads_u32 hv
 have HV := Lib.hid (hv.mono (Nat.le_refl _))
 have HVS := Lib.hid hvs
 rw [← HRN.out] at hvc HV ⊢
 have hz2 := lt_of_heap HE2.out
 clear c0 c1 c2 c3 c4 c5 c6 k0 k1 k2 hv hvs HM1 HB1 HG1 HE1 hb2 hs1 hBw
 have HP5 : Hid (∀ (q : Nat) (b : Bool) (W : World), q < 2147483648 → (b = true ↔ PrimeP q) → Calls Tryz.prog 25 #[.int .u32 (q : Int)] W fun e w' => e = .returned (.bool b) ∧ W = w') := fun q b W h1 h2 => Prime05_any q h1 b h2 W
 go_wp2_with fail
 go_loop [7] (fun iv => ∃ k : Nat, k ≤ R ∧ iv = .int .i64 (k : Int) ∧ Hid (∀ q ∈ ml.take k, PrimeP q)) (fun iv => R - (intOf iv).toNat)
 case atStart => exact ⟨0, Nat.zero_le _, rfl, fun q hq => by simp at hq⟩
 case round =>
  obtain ⟨k, hk, rfl, HK⟩ := hrel
  by_cases hlt : k < R
  ·obtain ⟨q, hq⟩ : ∃ x, ml[k]? = some x := ⟨ml[k]'(by rw [← HRN.out]; exact hlt), List.getElem?_eq_getElem _⟩
   obtain ⟨vb, vo, rfl, hvb, hcq⟩ := HVS.out k q hq
   have hqr := HMOK.out q (List.mem_of_getElem? hq)
   have z0 : (0 : Int) ≤ (k : Int) := by omega
   have z1 : (k : Int) < (R : Int) := by omega
   obtain ⟨b, hb⟩ := em_bool (PrimeP q)
   have HQ := Lib.hid hq
   have HBP := Lib.hid hb
   have HPC := Lib.hid (HP5.out q b w2 (by omega) hb)
   clear hq hb
   go_wp2_with fail
   (with_reducible refine HPC.out.mono ?_)
   rintro e w' ⟨rfl, rfl⟩
   cases b with
   | false =>
    obtain rfl : ok = false := by
     cases ok with
     | false => rfl
     | true =>
      have := (HOK.out.1 rfl).2 q (List.mem_of_getElem? HQ.out)
      have := HBP.out.2 this
      cases this
    go_wp2
    rw [HP.out]
    exact RWPost.no HB2.out
   | true =>
    have HK2 : Hid (∀ x ∈ ml.take (k + 1), PrimeP x) := fun x hx => by
     rw [List.take_add_one, HQ.out] at hx
     rcases List.mem_append.1 hx with h | h
     ·exact HK.out x h
     ·simp at h; subst h; exact HBP.out.1 rfl
    go_wp2
    go_round
    case rel => exact ⟨k + 1, by omega, by go_num, HK2.out⟩
    case measure => simp [intOf]; omega
  ·obtain rfl : R = k := by omega
   have hA : AllP ml := fun q hq => HK.out q (by rw [HRN.out, List.take_length]; exact hq)
   have hsys := HSYS.out hA
   obtain rfl : ok = true := HOK.out.2 ⟨by trivial, hA⟩
   have HSP := Lib.hid hsys
   have HNEW : Hid (∀ (W : World) (v : Value), W.reads W.heap.size v (ml.map u32V) → Calls Tryz.prog 26 #[v] W (RefRet W ml true)) := fun W v h => refNew_any ml v W h (fun p hp => by have := HMOK.out p hp; omega) true ⟨fun _ => hsys, fun _ => rfl⟩
   unfold RefRet at HNEW
   clear hA hsys HSYS HOK HK HP5
   go_wp2_with fail
   (with_reducible refine (HNEW.out _ _ HV.out).mono ?_)
   rintro e w3 ⟨hb3, he3⟩
   rw [if_pos trivial] at he3
   obtain ⟨cs, rfl, hrs⟩ := he3
   have HRS := Lib.hid hrs
   have HG3 := hG HG2 hb3
   have HE3 := hG HE2 hb3
   have HB3 := Lib.hid (below_via HB2.out hb3)
   have hz3 := lt_of_heap HE3.out
   obtain ⟨i0, hi0, hiz, hiz1, hizb⟩ := info_parts infoU32
   obtain ⟨iw, hiw, hwz, hwz1, hwzb⟩ := info_parts infoWide
   clear hb3 hrs HV HVS HG2 HE2 HB2 HNEW hz2 HG0 HE0 HR0 HA0
   have HO0 : Hid (w3.owns w3.heap.size 40 2 (.slice none 0 0) 0 (wcells F 0)) := World.owns_nil _ _ _ _
   go_wp2_with fail
   go_loopw [10, 11] (fun ov jv wr => ∃ j : Nat, j ≤ n ∧ jv = .int .i64 (j : Int) ∧ Hid (wr.owns w3.heap.size 40 2 ov j (wcells F j)) ∧ Hid (Below w3.heap.size w3 wr)) (fun _ jv _ => n - (intOf jv).toNat)
   case atStart => exact ⟨0, Nat.zero_le _, rfl, HO0.out, Below.refl _ _⟩
   case round =>
    obtain ⟨wo, rfl⟩ : ∃ x, x = wr := ⟨_, rfl⟩
    clear HO0
    obtain ⟨j, hj, rfl, HO, HB⟩ := hrel
    have hso := HB.out.size
    obtain ⟨oa, oc, rfl⟩ := owns_open HO.out
    obtain ⟨c0, c1, c2, c3, c4, c5, c6⟩ := par_cells (hG HG3 HB.out).out
    by_cases hlt : j < n
    ·have HCOL := Lib.hid (col_row HAE.out hlt)
     obtain ⟨nb, hnb⟩ : ∃ z, z = zN (F j) := ⟨_, rfl⟩
     obtain ⟨nt, hnt⟩ : ∃ z, z = zT (F j) := ⟨_, rfl⟩
     have HJ : Hid (∀ (W : World) (v : Value), RefAt W cs ml → W.reads W.heap.size v ((colL xs j).map u32V) → Calls Tryz.prog 27 #[.pointer (some ⟨cs, 0, none⟩), v] W fun e w' => e = .returned (.tuple #[.agg #[.bool nb, .string nt], .int .i64 0]) ∧ Below W.heap.size W w') := fun W v h1 h2 => by
      have := refJoin_any cs ml (colL xs j) v W h1 HSP.out h2 true ⟨fun _ => HCOL.out, fun _ => rfl⟩
      unfold FormE at this
      rw [if_pos rfl, if_pos rfl] at this
      rw [hnb, hnt, HFD.out]
      exact this
     have HNB := Lib.hid hnb
     have HNT := Lib.hid hnt
     have hcl : (colL xs j).length = R := by unfold colL; rw [List.length_map, HAE.out.1, HRN.out]
     have HCL := Lib.hid hcl
     clear hnb hnt hcl
     have hl0 : Hid (wo.owns wo.heap.size 22 1 (.slice none 0 0) 0 (((colL xs j).take 0).map u32V)) := World.owns_nil _ _ _ _
     go_wp2_with fail
     go_loopw [12, 13] (fun cw kw ws => ∃ k : Nat, k ≤ R ∧ kw = .int .i64 (k : Int) ∧ Hid (ws.owns wo.heap.size 22 1 cw k (((colL xs j).take k).map u32V)) ∧ Hid (Below wo.heap.size wo ws)) (fun _ kw _ => R - (intOf kw).toNat)
     case atStart => exact ⟨0, Nat.zero_le _, rfl, hl0.out, Below.refl _ _⟩
     case round =>
      obtain ⟨ws, rfl⟩ : ∃ x, x = wr := ⟨_, rfl⟩
      clear hl0 c0 c1 c2 c3 c4 c5 c6
      obtain ⟨k, hk, rfl, HC, HBs⟩ := hrel
      have hss := HBs.out.size
      obtain ⟨xa, xc, rfl⟩ := owns_open HC.out
      have HD := Lib.hid (below_via HB.out HBs.out)
      have HW := Lib.hid (below_via HB3.out HD.out)
      by_cases hltk : k < R
      ·obtain ⟨r, hr⟩ : ∃ x, xs[k]? = some x := ⟨xs[k]'(by rw [HAE.out.1, ← HRN.out]; exact hltk), List.getElem?_eq_getElem _⟩
       obtain ⟨ab, ao, b2, c2, rfl, hab, hcx, hxr⟩ := HAS.out k r hr
       have hrn := (HAE.out.2 k r hr).1
       obtain ⟨ra, rc, hrae, hrc, hrm, hrs⟩ := reads_u32 hxr
       injection hrae with hrae _ hrae2
       subst hrae hrae2
       obtain ⟨y, hy⟩ : ∃ y, r[j]? = some y := ⟨r[j]'(by rw [hrn]; exact hlt), List.getElem?_eq_getElem _⟩
       obtain ⟨yb, yo, rfl, hyb, hyc⟩ := hrs j y hy
       rw [hrn] at hcx hrc
       obtain ⟨-, -, k2, -, -, -⟩ := elem_cells (hG HE3 HD.out).out
       have s1 : ws.cell? ⟨ab, ao + k, none⟩ = some (.slice (some ⟨yb, yo, none⟩) n c2) := (HW.out.cell (p := ⟨ab, ao + k, none⟩) hab).trans hcx
       have s2 : ws.cell? ⟨yb, yo + j, none⟩ = some (.int .u32 (y : Int)) := (HW.out.cell (p := ⟨yb, yo + j, none⟩) hyb).trans hyc
       have HT1 : Hid ((colL xs j).take (k + 1) = (colL xs j).take k ++ [y]) := by
        show _ = _
        rw [colL_take hr, List.getD_eq_getElem?_getD, hy]; rfl
       have z0 : (0 : Int) ≤ (j : Int) := by omega
       have z1 : (j : Int) < (n : Int) := by omega
       have z2 : (0 : Int) ≤ (k : Int) := by omega
       have z3 : (k : Int) < (R : Int) := by omega
       clear hr hcx hxr hrs hy hyc hrn
       go_wp2_with (at_builtin; refine wpList_append1 (W := ws) rfl (.tmp 58) (.tmp 67) 23 rfl wo.heap.size 22 i0 (.int .u32 0) 4 Tryz.underlying23 hi0 hiz hiz1 hizb rfl (.slice xa k xc) k _ rfl HC.out (.int .u32 (y : Int)) ws.heap.size rfl rfl rfl (by unfold maxLen; omega) (by omega) (by omega) ?_; intro v5 w5 hown5 hg5a hg5 hz5)
       have HO5 := Lib.hid hown5
       have HB5 := Lib.hid (HBs.out.grown hg5 hss (fun k hk => (HC.out.lt k hk).1))
       clear hown5 hg5a hg5 hz5 s1 s2 k2
       go_wp2
       go_roundw
       case rel =>
        refine ⟨k + 1, by omega, by go_num, ?_, HB5.out⟩
        show World.owns _ _ _ _ _ _ _
        rw [HT1.out, List.map_append]
        exact HO5.out
       case measure => simp [intOf]; omega
      ·obtain rfl : R = k := by omega
       have hrd : ws.reads ws.heap.size (.slice xa R xc) ((colL xs j).map u32V) := by
        have := HC.out.reads
        rw [List.take_of_length_le (by rw [HCL.out]; exact Nat.le_refl _)] at this
        exact this
       have HRD := Lib.hid hrd
       have HRW := Lib.hid ((HRS.out.below HD.out))
       have HOs := Lib.hid (HO.out.below HBs.out)
       clear hrd
       go_wp2_with fail
       (with_reducible refine (HJ.out _ _ HRW.out HRD.out).mono ?_)
       rintro e w5 ⟨rfl, hb5⟩
       have HO5 := Lib.hid (HOs.out.below hb5)
       have HD5 := Lib.hid (below_via HD.out hb5)
       clear HRD HRW HOs hb5
       go_upto_region 22 with (fail)
       have hb := below_new w5 (.cells #[.bool nb, .string nt] 40)
       have hx := heap_alloc_new w5 (.cells #[.bool nb, .string nt] 40)
       obtain ⟨x, hxd⟩ : ∃ z, z = w5.heap.size := ⟨_, rfl⟩
       rw [← hxd] at hx ⊢
       generalize w5.alloc (.cells #[.bool nb, .string nt] 40) = w6 at hb hx ⊢
       have HO6 := Lib.hid (HO5.out.below hb)
       have HD6 := Lib.hid (below_via HD5.out hb)
       obtain ⟨d0, d1, -⟩ := wide_cells hx
       have hs6 := HD6.out.size
       clear hb hxd hx HO5 HD5
       go_wp2_with (at_builtin; refine wpList_append_owns _ rfl (.tmp 78) (.tmp 80) 35 rfl w3.heap.size 40 iw (.agg #[.bool false, .string ⟨#[]⟩]) 2 24 Tryz.underlying35 hiw hwz hwz1 hwzb rfl (by decide) (.slice oa j oc) j _ rfl (HO6.out.alloc _) ⟨w6.heap.size, 0, none⟩ 1 1 [.bool nb, .string nt] rfl rfl (news_alloc w6 [.bool nb, .string nt] 40) (by simp [Value.oneCell']) (by unfold maxLen; omega) (by omega) (by simp; omega) ?_; intro v7 w7 hown7 hg7 _)
       have HO7 := Lib.hid hown7
       have HB7 := Lib.hid ((HD6.out.alloc hs6 _).grown hg7 (by simp; omega) (fun k hk => (HO6.out.lt k hk).1))
       clear hown7 hg7 d0 d1
       go_wp2
       go_roundw
       case rel =>
        refine ⟨j + 1, by omega, by go_num, ?_, HB7.out⟩
        show World.owns _ _ _ _ _ _ _
        have := HO7.out
        rw [HNB.out, HNT.out] at this
        exact this
       case measure => simp [intOf]; omega
    ·obtain rfl : j = n := by omega
     have HW := Lib.hid (below_via HB3.out HB.out)
     have hsz := HB3.out.size
     go_wp2
     rw [HP.out]
     exact RWPost.yes (HO.out.mono hsz) HW.out
end G
/- Walks: the norm of an element, by the reference. -/
namespace G
open Go.RowKit Go.Shelf Go.BigFrame Go.WideNum
attribute [local go_sem] Oper.semAt_some
theorem refMax_z (a b : Nat) (ha : InR (a : Int)) (hb : InR (b : Int)) (w : World) :
  Calls Tryz.prog 29 #[.agg #[.bool false, .string (zT (a : Int))], .agg #[.bool false, .string (zT (b : Int))]] w fun e w' => e = .returned (.tuple #[.agg #[.bool false, .string (zT ((max a b : Nat) : Int))], .int .i64 0]) ∧ Below w.heap.size w w' := by
 have h := refMax_any false (zT (a : Int)) false (zT (b : Int)) (z_size ha) (z_size hb) w
 have e : maxF false (zT (a : Int)) false (zT (b : Int)) = (false, zT ((max a b : Nat) : Int), 0) := by
  have v1 := z_valid ha
  have v2 := z_valid hb
  rw [zN_nat] at v1 v2
  unfold maxF cmpF
  rw [v1.1, v2.1, v1.2, v2.2]
  unfold cmpZ
  by_cases h1 : (a : Int) < (b : Int)
  ·rw [Nat.max_eq_right (by omega)]; simp [h1]
  ·rw [Nat.max_eq_left (by omega)]
   by_cases h2 : (b : Int) < (a : Int)
   ·simp [h1, h2]
   ·simp [h1, h2]
 rw [e] at h
 exact h
theorem refAbs_w (x : Int) (hx : InR x) (w : World) :
  Calls Tryz.prog 28 #[.agg #[.bool (zN x), .string (zT x)]] w fun e w' => e = .returned (.tuple #[.agg #[.bool false, .string (zT (x.natAbs : Nat))], .int .i64 0]) ∧ Below w.heap.size w w' := by
 refine refAbs_any (zN x) (zT x) (z_size hx) _ _ 0 ?_ w
 unfold absF
 rw [(z_valid hx).1, if_pos rfl]
 unfold zT
 rw [Int.natAbs_natCast]
def WCs (g n : Nat) (F : Nat → Int) (W : World) : Prop := g < W.heap.size ∧ ∀ (c : Nat) (u : Value), (wcells F n)[c]? = some u → W.cell? ⟨g, c, none⟩ = some u
theorem WCs.below {g n : Nat} {F : Nat → Int} {W W' : World} (h : Hid (WCs g n F W)) (hb : Below W.heap.size W W') : Hid (WCs g n F W') :=
 ⟨Nat.lt_of_lt_of_le h.out.1 hb.size, fun c u hc => (hb.cell (p := ⟨g, c, none⟩) h.out.1).trans (h.out.2 c u hc)⟩
theorem WCs.set2 {g n o : Nat} {F : Nat → Int} {W : World} {u0 u1 : Value} (h : Hid (WCs g n F W)) (hne : o ≠ g) : Hid (WCs g n F ((W.setCell ⟨o, 0, none⟩ u0).setCell ⟨o, 1, none⟩ u1)) :=
 ⟨by simp; exact h.out.1, fun c u hc => (World.cell?_setCell_far _ ⟨o, 1, none⟩ ⟨g, c, none⟩ u1 hne).trans ((World.cell?_setCell_far _ ⟨o, 0, none⟩ ⟨g, c, none⟩ u0 hne).trans (h.out.2 c u hc))⟩
theorem WCs.get {g n j : Nat} {F : Nat → Int} {W : World} (h : Hid (WCs g n F W)) (hj : j < n) : W.cell? ⟨g, j * 2, none⟩ = some (.bool (zN (F j))) ∧ W.cell? ⟨g, j * 2 + 1, none⟩ = some (.string (zT (F j))) :=
 ⟨h.out.2 _ _ (wcells_get F hj).1, h.out.2 _ _ (wcells_get F hj).2⟩
theorem owns_wcs {w : World} {base n : Nat} {v : Value} {F : Nat → Int} (h : w.owns base 40 2 v n (wcells F n)) (hn : 0 < n) : ∃ g c, v = .slice (some ⟨g, 0, none⟩) n c ∧ base ≤ g ∧ n ≤ c ∧ c ≤ maxLen ∧ WCs g n F w := by
 obtain ⟨g, cap, rfl⟩ := h.pos hn
 obtain ⟨-, h1, h2, h3, h4⟩ := h.facts
 exact ⟨g, cap, rfl, h2, h1, h3, h4, fun c u hc => h.cell c u hc⟩
def RNPost (ok : Bool) (n : Nat) (F : Nat → Int) (w : World) (e : Ending) (w' : World) : Prop :=
 (if ok then e = .returned (.tuple #[.agg #[.bool false, .string (zT ((maxN F n : Nat) : Int))], .int .i64 0])
  else e = .returned (.tuple #[.agg #[.bool false, .string ⟨#[]⟩], .int .i64 2])) ∧ Below w.heap.size w w'
theorem rnorm_any (N pr pw wt er : Int) (cv : Value) (chain : List Nat) (sp : Nat) (la : Int) (sa : Bool) (av : Value) (xs : List (List Nat)) (w : World) (hr : w.reads w.heap.size cv (chain.map u32V)) (hrow : w.rows u32V w.heap.size av xs) (ok : Bool) (hok : ok = true ↔ checkB N chain sp la sa xs = true ∧ AllP (modl chain sp la.toNat sa)) (n : Nat) (hn : n = N.toNat) (F : Nat → Int) (hF : F = wC (modl chain sp la.toNat sa) xs) :
  Calls Tryz.prog 11 #[.agg #[.int .i64 N, .int .u32 pr, .int .i64 pw, cv, .int .u32 (sp : Int), .int .i64 wt, .int .u32 er], .agg #[.int .i64 la, .bool sa, av]] w (RNPost ok n F w) := by
 obtain ⟨W0, hW0⟩ : ∃ W0, W0 = (((w.alloc (.cells #[.int .i64 N, .int .u32 pr, .int .i64 pw, cv, .int .u32 (sp : Int), .int .i64 wt, .int .u32 er] 25)).alloc (.cells #[.int .i64 la, .bool sa, av] 28)).alloc (.cells #[.bool false, .string ⟨#[]⟩] 40)) := ⟨_, rfl⟩
 have hB0 : Below w.heap.size w W0 := by rw [hW0]; exact (((Below.refl _ w).alloc (Nat.le_refl _) _).alloc (by simp) _).alloc (by first | (simp; done) | (simp; omega)) _
 have hp0 : W0.heap[w.heap.size]? = some (.cells #[.int .i64 N, .int .u32 pr, .int .i64 pw, cv, .int .u32 (sp : Int), .int .i64 wt, .int .u32 er] 25) := by
  rw [hW0, Below.heap_alloc _ _ _ (by first | (simp; done) | (simp; omega)), Below.heap_alloc _ _ _ (by simp)]; exact alloc_last _ _ rfl
 have ha0 : W0.heap[w.heap.size + 1]? = some (.cells #[.int .i64 la, .bool sa, av] 28) := by
  rw [hW0, Below.heap_alloc _ _ _ (by simp)]; exact alloc_last _ _ (by simp)
 have ho0 : W0.heap[w.heap.size + 1 + 1]? = some (.cells #[.bool false, .string ⟨#[]⟩] 40) := by
  rw [hW0]; exact alloc_last _ _ (by simp)
 have hz0 := lt_of_heap ho0
 have hr0 := (hr.below hB0).mono hB0.size
 have hrow0 := (hrow.below hB0).mono hB0.size
 have HCW := Lib.hid (rwides_any N pr pw wt er cv chain sp la sa av xs W0 hr0 hrow0 ok hok n hn F hF)
 have hin : ok = true → (∀ i, i < n → InR (F i)) ∧ 4 ≤ n ∧ n ≤ 32 := by
  intro h
  obtain ⟨hc, hA⟩ := hok.1 h
  obtain ⟨n', lv, e1, e2, i1, i2, i3, i4, i5, i6, i7⟩ := checkB_elt hc
  subst e1 e2
  rw [Int.toNat_natCast] at hn hF hA
  subst hn
  unfold checkB preB at hc
  simp only [Bool.and_eq_true] at hc
  have hs := sys_modl hc.1.1 hc.1.2 hA
  have hml := modl_length chain sp lv sa i4
  refine ⟨fun i _ => ?_, i1, i2⟩
  rw [hF]
  exact inR_joinZ hs.sep (by rw [hml]; cases sa <;> simp <;> omega)
 unfold RWPost at HCW
 have HIN := Lib.hid hin
 obtain ⟨aa, ac, rfl, hac, ham, hsh⟩ := hrow0.shape
 obtain ⟨pa, pc, rfl, -⟩ := reads_u32 hr0
 have HO0 := Lib.hid ho0
 have HW0 := Lib.hid hW0
 have HB0 := Lib.hid hB0
 obtain ⟨HPOST, hpost⟩ : ∃ R, R = RNPost ok n F w := ⟨_, rfl⟩
 rw [← hpost]
 have HP := Lib.hid hpost
 obtain ⟨c0, c1, c2, c3, c4, c5, c6⟩ := par_cells hp0
 obtain ⟨k0, k1, k2, -, -, -⟩ := elem_cells ha0
 clear hr hrow hr0 hrow0 hsh hok hW0 hB0 hpost hin hn hF hp0 ha0 ho0
 go_enter Tryz.func11, Tryz.ntmps11
 go_upto_region 1 with (fail)
 rw [← HW0.out]
 cases ok with
 | false =>
  go_wp2_with fail
  (with_reducible refine HCW.out.mono ?_)
  rintro e w1 ⟨he, hb1⟩
  rw [if_neg (by decide)] at he
  subst he
  have g1 := wide_hold (w := w) HO0.out hb1
  obtain ⟨d0, d1, f0⟩ := wide_cells g1
  have hb9 := below_set2 (p := w.heap.size + 1 + 1) (below_via HB0.out hb1) (by omega) false ⟨#[]⟩
  have m2 := wide_set g1 false ⟨#[]⟩
  clear g1
  go_wp2
  clear d0 d1 f0
  obtain ⟨d20, d21, -⟩ := wide_cells m2
  clear m2
  generalize (w1.setCell ⟨w.heap.size + 1 + 1, 0, none⟩ (.bool false)).setCell ⟨w.heap.size + 1 + 1, 1, none⟩ (.string ⟨#[]⟩) = W9 at d20 d21 hb9 ⊢
  rw [HP.out]
  exact bodyPost_ret (v := .tuple #[.agg #[.bool false, .string ⟨#[]⟩], .int .i64 2]) (by simp [results, Tryz.results11, go_sem, d20, d21]) rfl ⟨by rw [if_neg (by decide)], hb9⟩
 | true =>
  obtain ⟨hFI, hn4, hn32⟩ := HIN.out rfl
  have HFI := Lib.hid hFI
  clear HIN hFI
  go_wp2_with fail
  (with_reducible refine HCW.out.mono ?_)
  rintro e w1 ⟨he, hb1⟩
  rw [if_pos trivial] at he
  obtain ⟨v, rfl, hown⟩ := he
  obtain ⟨g, vc, rfl, hg0, hvc, hvm, hwc⟩ := owns_wcs hown (by omega)
  have HO1 := hG (Lib.hid HO0.out) hb1
  have HG1 := Lib.hid hwc
  have HB1 := Lib.hid (below_via HB0.out hb1)
  have hgl := hwc.1
  clear hb1 hwc hown HO0 HCW HB0 HW0 c0 c1 c2 c3 c4 c5 c6 k0 k1 k2
  go_upto_region 5 with (fail)
  obtain ⟨o, ho⟩ : ∃ x, x = w1.heap.size := ⟨_, rfl⟩
  have hb2 := below_new w1 (.cells #[.bool false, .string ⟨#[]⟩] 40)
  have ho2 := heap_alloc_new w1 (.cells #[.bool false, .string ⟨#[]⟩] 40)
  rw [← ho] at ho2 ⊢
  generalize w1.alloc (.cells #[.bool false, .string ⟨#[]⟩] 40) = w2 at hb2 ho2 ⊢
  have HB2 := Lib.hid (below_via HB1.out hb2)
  have HG2 := WCs.below HG1 hb2
  have HO2 := hG HO1 hb2
  have HQ2 : Hid (w2.heap[o]? = some (.cells #[.bool false, .string (zT ((maxN F 0 : Nat) : Int))] 40)) := ho2
  have hgo : g < o := by omega
  have hoo : w.heap.size + 1 + 1 < o := by omega
  clear hb2 ho2 ho HG1 HO1 HB1 hgl hg0
  go_wp2_with fail
  go_loopw [9] (fun iv wr => ∃ j : Nat, j ≤ n ∧ iv = .int .i64 (j : Int) ∧ Hid (Below w.heap.size w wr) ∧ Hid (WCs g n F wr) ∧ Hid (wr.heap[w.heap.size + 1 + 1]? = some (.cells #[.bool false, .string ⟨#[]⟩] 40)) ∧ Hid (wr.heap[o]? = some (.cells #[.bool false, .string (zT ((maxN F j : Nat) : Int))] 40))) (fun iv _ => n - (intOf iv).toNat)
  case atStart => exact ⟨0, Nat.zero_le _, rfl, HB2.out, HG2.out, HO2.out, HQ2.out⟩
  case round =>
   obtain ⟨j, hj, rfl, HBr, HGr, HOr, HQr⟩ := hrel
   obtain ⟨wo, rfl⟩ : ∃ x, x = wr := ⟨_, rfl⟩
   by_cases hlt : j < n
   ·obtain ⟨e0, e1⟩ := WCs.get HGr hlt
    have j1 : (j : Int) < (n : Int) := by omega
    have j2 : (0 : Int) ≤ (j : Int) := by omega
    have hFj := HFI.out j hlt
    have HA := Lib.hid (refAbs_w (F j) hFj)
    have HMX : Hid (∀ W, Calls Tryz.prog 29 #[.agg #[.bool false, .string (zT ((maxN F j : Nat) : Int))], .agg #[.bool false, .string (zT (((F j).natAbs : Nat) : Int))]] W fun e w' => e = .returned (.tuple #[.agg #[.bool false, .string (zT ((maxN F (j + 1) : Nat) : Int))], .int .i64 0]) ∧ Below W.heap.size W w') := fun W =>
     refMax_z (maxN F j) ((F j).natAbs) (inR_maxN fun i hi => HFI.out i (by omega)) (by unfold InR at *; rw [Int.natAbs_natCast]; exact hFj) W
    obtain ⟨s, hs⟩ : ∃ s, s = zT (((F j).natAbs : Nat) : Int) := ⟨_, rfl⟩
    obtain ⟨t, ht⟩ : ∃ s, s = zT ((maxN F j : Nat) : Int) := ⟨_, rfl⟩
    obtain ⟨u, hu⟩ : ∃ s, s = zT ((maxN F (j + 1) : Nat) : Int) := ⟨_, rfl⟩
    rw [← hs] at HA
    rw [← hs, ← ht, ← hu] at HMX
    rw [← ht] at HQr
    have HU := Lib.hid hu
    clear hs ht hu hFj
    go_wp2_with fail
    (with_reducible refine (HA.out _).mono ?_)
    rintro e w3 ⟨rfl, hb⟩
    replace HBr := hB HBr hb
    replace HGr := WCs.below HGr hb
    replace HOr := hG HOr hb
    replace HQr := hG HQr hb
    clear hb e0 e1
    go_upto_region 9 with (fail)
    have hb := below_new w3 (.cells #[.bool false, .string s] 40)
    have hx := heap_alloc_new w3 (.cells #[.bool false, .string s] 40)
    obtain ⟨x, hxd⟩ : ∃ z, z = w3.heap.size := ⟨_, rfl⟩
    rw [← hxd] at hx ⊢
    generalize w3.alloc (.cells #[.bool false, .string s] 40) = w4 at hb hx ⊢
    replace HBr := hB HBr hb
    replace HGr := WCs.below HGr hb
    replace HOr := hG HOr hb
    replace HQr := hG HQr hb
    obtain ⟨d0, d1, -⟩ := wide_cells hx
    obtain ⟨q0, q1, -⟩ := wide_cells HQr.out
    clear hb hxd hx
    go_wp2_with fail
    (with_reducible refine (HMX.out _).mono ?_)
    rintro e w5 ⟨rfl, hb⟩
    replace HBr := hB HBr hb
    replace HGr := WCs.below HGr hb
    replace HOr := hG HOr hb
    replace HQr := hG HQr hb
    clear hb d0 d1 q0 q1
    obtain ⟨q0, q1, f0⟩ := wide_cells HQr.out
    have HQ6 := Lib.hid (wide_set HQr.out false u)
    have HB6 := Lib.hid (below_set2 (p := o) HBr.out (by omega) false u)
    have HG6 := WCs.set2 (u0 := .bool false) (u1 := .string u) HGr (show o ≠ g by omega)
    have HO6 : Hid ((((w5.setCell ⟨o, 0, none⟩ (.bool false)).setCell ⟨o, 1, none⟩ (.string u))).heap[w.heap.size + 1 + 1]? = some (.cells #[.bool false, .string ⟨#[]⟩] 40)) := ((Below.heap_setCell _ _ _ _ (by simp; omega)).trans (Below.heap_setCell _ _ _ _ (by simp; omega))).trans HOr.out
    go_wp2_with fail
    go_roundw
    case rel => exact ⟨j + 1, by omega, by go_num, HB6.out, HG6.out, HO6.out, by rw [← HU.out]; exact HQ6.out⟩
    case measure => simp [intOf]; omega
   ·obtain rfl : j = n := by omega
    obtain ⟨q0, q1, -⟩ := wide_cells HQr.out
    obtain ⟨d0, d1, f0⟩ := wide_cells HOr.out
    obtain ⟨y, hy⟩ : ∃ y, y = zT ((maxN F j : Nat) : Int) := ⟨_, rfl⟩
    rw [← hy] at q1
    have HY := Lib.hid hy
    clear hy
    have m2 := wide_set HOr.out false y
    have hb9 := below_set2 (p := w.heap.size + 1 + 1) HBr.out (by omega) false y
    go_wp2
    clear d0 d1 f0 q0 q1
    obtain ⟨d20, d21, -⟩ := wide_cells m2
    clear m2
    generalize (wo.setCell ⟨w.heap.size + 1 + 1, 0, none⟩ (.bool false)).setCell ⟨w.heap.size + 1 + 1, 1, none⟩ (.string y) = W9 at d20 d21 hb9 ⊢
    rw [HP.out]
    exact bodyPost_ret (v := .tuple #[.agg #[.bool false, .string y], .int .i64 0]) (by simp [results, Tryz.results11, go_sem, d20, d21]) rfl ⟨by rw [if_pos rfl, HY.out], hb9⟩
end G
/- Walks: the reference's restriction of an element to fewer moduli of the chain. -/
/- Walks: the law's copy of an element. -/
namespace G
open Go.RowKit Go.Shelf Go.BigFrame
theorem hugeB_spec {xs : List (List Nat)} (h : hugeB xs = false) : xs.length ≤ 60 ∧ ∀ r ∈ xs, r.length ≤ 100 := by
 unfold hugeB smallRows at h
 simp only [Bool.or_eq_false_iff, Bool.not_eq_false', decide_eq_false_iff_not] at h
 obtain ⟨h1, h2⟩ := h
 refine ⟨by omega, fun r hr => ?_⟩
 rw [List.take_of_length_le (by omega), List.all_eq_true] at h1
 exact of_decide_eq_true (h1 r hr)
theorem lent_any (la : Int) (sa : Bool) (av : Value) (xs : List (List Nat)) (hh : hugeB xs = false) (w : World) (ha : w.rows u32V w.heap.size av xs) :
  Calls Tryz.prog 6 #[.agg #[.int .i64 la, .bool sa, av]] w (MadeElt la sa xs w) := by
 obtain ⟨hs1, hs2⟩ := hugeB_spec hh
 obtain ⟨aa, ac, rfl, hac, ham, has⟩ := ha.shape
 obtain ⟨W0, hW0⟩ : ∃ W0, W0 = (w.alloc (.cells #[.int .i64 la, .bool sa, .slice aa xs.length ac] 28)).alloc (.cells #[.int .i64 0, .bool false, .slice none 0 0] 28) := ⟨_, rfl⟩
 have hB0 : Below w.heap.size w W0 := by rw [hW0]; exact ((Below.refl _ w).alloc (Nat.le_refl _) _).alloc (by simp) _
 have e0 : W0.heap[w.heap.size]? = some (.cells #[.int .i64 la, .bool sa, .slice aa xs.length ac] 28) := by rw [hW0, Below.heap_alloc _ _ _ (by simp)]; exact alloc_last _ _ rfl
 have e2 : W0.heap[w.heap.size + 1]? = some (.cells #[.int .i64 0, .bool false, .slice none 0 0] 28) := by rw [hW0]; exact alloc_last _ _ (by simp)
 have hz0 := lt_of_heap e2
 obtain ⟨xl, hxl⟩ : ∃ m, m = xs.length := ⟨_, rfl⟩
 rw [← hxl] at hs1 e0 hW0 hac ⊢
 obtain ⟨W3, hW3⟩ : ∃ W3, W3 = W0.alloc (.cells #[.int .i64 la, .bool sa, .slice none 0 0] 28) := ⟨_, rfl⟩
 have hb3 : Below W0.heap.size W0 W3 := by rw [hW3]; exact (Below.refl _ _).alloc (Nat.le_refl _) _
 have g3 : W3.heap[W0.heap.size]? = some (.cells #[.int .i64 la, .bool sa, .slice none 0 0] 28) := by rw [hW3]; exact alloc_last _ _ rfl
 have hz3 := lt_of_heap g3
 have hBw3 := hB0.trans (hb3.mono hB0.size)
 have HAC := Lib.hid ((hb3.block w.heap.size (by omega)).trans e0)
 have HRC := Lib.hid ((hb3.block (w.heap.size + 1) (by omega)).trans e2)
 have hO0 : Hid (OutE w W3 W0.heap.size la sa (xs.take 0) W3) := OutE.start (w := w) g3 hBw3
 have HA4 : Hid (∀ (j : Nat) (r : List Nat), xs[j]? = some r → ∃ b off b2 c2, aa = some ⟨b, off, none⟩ ∧ b < w.heap.size ∧ W3.cell? ⟨b, off + j, none⟩ = some (.slice b2 r.length c2) ∧ W3.reads w.heap.size (.slice b2 r.length c2) (r.map u32V)) := by
  intro j x hj
  obtain ⟨b, off, b2, c2, q1, q2, q3, q4⟩ := has j x hj
  exact ⟨b, off, b2, c2, q1, q2, (hBw3.cell (p := ⟨b, off + j, none⟩) q2).trans q3, q4.below hBw3⟩
 obtain ⟨HPOST, hpost⟩ : ∃ R, R = MadeElt la sa xs w := ⟨_, rfl⟩
 rw [← hpost]
 have HP := Lib.hid hpost
 have HXL := Lib.hid hxl
 have HSM := Lib.hid hs2
 have HW0 := Lib.hid hW0
 have HW3 := Lib.hid hW3
 obtain ⟨i0, hi0, hiz, hiz1, hizb⟩ := info_parts info32
 obtain ⟨i1', hi1, hi1z, hi1z1, hi1b⟩ := info_parts infoU32r
 obtain ⟨k0, k1, k2, -, -, -⟩ := elem_cells e0
 clear ha has hh hs2 g3 hW3 hW0 hxl hb3 hB0 hBw3 e0 e2 hpost
 go_enter Tryz.func6, Tryz.ntmps6
 go_upto_region 1 with (fail)
 rw [← HW0.out]
 go_upto_region 2 with (fail)
 rw [← HW3.out]
 clear k0 k1 k2
 go_wp2_with fail
 go_loopw [4] (fun ii wr => ∃ k : Nat, k ≤ xl ∧ ii = .int .i64 (k : Int) ∧ Hid (OutE w W3 W0.heap.size la sa (xs.take k) wr)) (fun ii _ => xl - (intOf ii).toNat)
 case atStart => exact ⟨0, Nat.zero_le _, rfl, hO0⟩
 case round =>
  obtain ⟨wo, rfl⟩ : ∃ x, x = wr := ⟨_, rfl⟩
  clear hO0
  obtain ⟨k, hk, rfl, hO⟩ := hrel
  obtain ⟨hsr, hsb⟩ := hO.out.size
  have hol : (xs.take k).length = k := by rw [List.length_take, ← HXL.out]; omega
  obtain ⟨d0, d1, d2, -, -, -⟩ := elem_cells ((hO.out.block (b := w.heap.size) (by omega) (by omega)).trans HAC.out)
  by_cases hlt : k < xl
  ·obtain ⟨x, hx⟩ : ∃ x, xs[k]? = some x := ⟨xs[k]'(by rw [← HXL.out]; omega), List.getElem?_eq_getElem _⟩
   obtain ⟨ab, ao, axb, axc, rfl, hab, hcx, hxr⟩ := HA4.out k x hx
   have hx32 : x.length ≤ 100 := HSM.out x (List.mem_of_getElem? hx)
   have HX32 := Lib.hid hx32
   obtain ⟨n, hn⟩ : ∃ n, n = x.length := ⟨_, rfl⟩
   rw [← hn] at hcx hx32 hxr
   have HN := Lib.hid hn
   have s2 : wo.cell? ⟨ab, ao + k, none⟩ = some (.slice axb n axc) := by rw [hO.out.cell (by omega) (by omega), hcx]
   obtain ⟨-, -, s4, -, -, -⟩ := elem_cells ((hO.out.block (b := w.heap.size) (by omega) (by omega)).trans HAC.out)
   obtain ⟨oa, oc, o1, o2⟩ := hO.out.open_
   rw [hol] at o1 o2
   obtain ⟨-, -, s6, -, -, -⟩ := elem_cells o1
   have hxr2 : wo.reads wo.heap.size (.slice axb n axc) (x.map u32V) := by
    have := (hO.out.reads (B := w.heap.size) (by omega) (by omega) hxr).mono (show w.heap.size ≤ wo.heap.size by omega)
    exact this
   have HX := Lib.hid hx
   have HO1 := Lib.hid o1
   have HO2 := Lib.hid o2
   have HXR := Lib.hid hxr2
   have hl6 : (xs.take k ++ [x]).length = k + 1 := by rw [List.length_append, hol]; rfl
   have n2 : ¬ ab = W0.heap.size := by omega
   have n4 : ¬ w.heap.size = W0.heap.size := by omega
   have p0 : (wo.alloc (.cells #[] 22)).cell? ⟨W0.heap.size, 2, none⟩ = some (.slice oa k oc) := (World.cell?_alloc_lt wo _ ⟨W0.heap.size, 2, none⟩ hsb).trans s6
   have u1 : w.heap.size < wo.heap.size := by omega
   have u4 : ab < wo.heap.size := by omega
   have z0 : (0 : Int) ≤ (k : Int) := by omega
   have z1 : (k : Int) < (xl : Int) := by omega
   clear hx hcx hxr o1 o2 hxr2 hn
   go_wp2_with fail
   refine wp_region_line (fun w' => w'.cell? ⟨W0.heap.size, 2, none⟩ = some (.slice oa k oc) ∧ w'.cell? ⟨w.heap.size, 2, none⟩ = some (.slice (some ⟨ab, ao, none⟩) xl ac) ∧ w'.cell? ⟨ab, ao + k, none⟩ = some (.slice axb n axc)) 12 (by kernel_rfl) ⟨s6, s4, s2⟩ (fun hHeld => ?_)
   refine tkT 0 (v := ?_) rfl rfl ?_ ?_
   rotate_left
   ·(intro wq hSq; (try dsimp only at hSq); go_simp; try with_reducible rfl)
   try simp only [Act.put, List.setIfInBounds_toArray, List.set_cons_zero, List.set_cons_succ]
   refine tkT 1 (v := ?_) rfl rfl ?_ ?_
   rotate_left
   ·(intro wq hSq; (try dsimp only at hSq); go_simp; try with_reducible rfl)
   try simp only [Act.put, List.setIfInBounds_toArray, List.set_cons_zero, List.set_cons_succ]
   refine tkT 3 (v := ?_) rfl rfl ?_ ?_
   rotate_left
   ·(intro wq hSq; (try dsimp only at hSq); go_simp; try with_reducible rfl)
   try simp only [Act.put, List.setIfInBounds_toArray, List.set_cons_zero, List.set_cons_succ]
   refine tkT 4 (v := ?_) rfl rfl ?_ ?_
   rotate_left
   ·(intro wq hSq; (try dsimp only at hSq); go_simp; try with_reducible rfl)
   try simp only [Act.put, List.setIfInBounds_toArray, List.set_cons_zero, List.set_cons_succ]
   refine tkT 5 (v := ?_) rfl rfl ?_ ?_
   rotate_left
   ·(intro wq hSq; (try dsimp only at hSq); go_simp; try with_reducible rfl)
   try simp only [Act.put, List.setIfInBounds_toArray, List.set_cons_zero, List.set_cons_succ]
   refine tkT 6 (v := ?_) rfl rfl ?_ ?_
   rotate_left
   ·(intro wq hSq; (try dsimp only at hSq); go_simp; try with_reducible rfl)
   try simp only [Act.put, List.setIfInBounds_toArray, List.set_cons_zero, List.set_cons_succ]
   refine tkT 7 (v := ?_) rfl rfl ?_ ?_
   rotate_left
   ·(intro wq hSq; (try dsimp only at hSq); go_simp; try with_reducible rfl)
   try simp only [Act.put, List.setIfInBounds_toArray, List.set_cons_zero, List.set_cons_succ]
   refine wpAnyT_step 2 (by kernel_rfl) rfl (fun K hK => ?_)
   go_simp
   refine hK.out _ _ ⟨p0, (World.cell?_alloc_lt wo _ ⟨w.heap.size, 2, none⟩ u1).trans s4, (World.cell?_alloc_lt wo _ ⟨ab, ao + k, none⟩ u4).trans s2⟩ (fun hHeld2 => ?_)
   clear hK K hHeld
   try simp only [Act.put, List.setIfInBounds_toArray, List.set_cons_zero, List.set_cons_succ]
   refine wpAnyT_step 8 (by kernel_rfl) rfl (fun K hK => ?_)
   refine step_append_reads (by rfl) (.tmp 19) (.tmp 24) 23 (by rfl) wo.heap.size 22 i0 (.int .u32 0) 4 Tryz.underlying23 hi0 hiz hiz1 hizb rfl (.slice (some ⟨wo.heap.size, 0, none⟩) 0 0) 0 [] (by rfl) ((owns_empty wo _).drew) wo.heap.size (.slice axb n axc) (x.map u32V) (by rfl) ((HXR.out.alloc (Nat.le_refl _) _).drew) (one_u32 x) (by rw [List.length_map]; have := HX32.out; unfold maxLen; omega) (by rw [List.length_map]; have := HX32.out; omega) (by simp) ?_
   intro v4 w4 hown4 hg4
   have hb4 : Below wo.heap.size wo w4 := (((Below.refl _ wo).alloc (Nat.le_refl _) _).drew).grown hg4 (by simp) (fun k hk => by simp [Value.ownBlock] at hk; omega)
   have p6 : w4.cell? ⟨W0.heap.size, 2, none⟩ = some (.slice oa k oc) := (hb4.cell (p := ⟨W0.heap.size, 2, none⟩) hsb).trans s6
   have p4 : w4.cell? ⟨w.heap.size, 2, none⟩ = some (.slice (some ⟨ab, ao, none⟩) xl ac) := (hb4.cell (p := ⟨w.heap.size, 2, none⟩) u1).trans s4
   have p2 : w4.cell? ⟨ab, ao + k, none⟩ = some (.slice axb n axc) := (hb4.cell (p := ⟨ab, ao + k, none⟩) u4).trans s2
   have hz4 := hb4.size
   have HU : Hid (w4.owns W3.heap.size 22 1 v4 x.length (x.map u32V)) := by
    have h4 := hown4
    rw [List.nil_append, Nat.zero_add, List.length_map] at h4
    exact h4.mono (by omega)
   obtain ⟨va4, vc4, rfl, -, -, -⟩ := HU.out.at_
   have p7 : (w4.alloc (.cells #[.slice va4 x.length vc4] 23)).cell? ⟨W0.heap.size, 2, none⟩ = some (.slice oa k oc) := (World.cell?_alloc_lt w4 _ ⟨W0.heap.size, 2, none⟩ (show W0.heap.size < w4.heap.size by omega)).trans p6
   have HO5 := Lib.hid (hO.out.below hb4)
   have HR5 := Lib.hid (HO2.out.below hb4)
   have HG5 := Lib.hid ((hb4.block _ hsb).trans HO1.out)
   clear hown4 hg4
   refine hK.out _ _ ⟨p6, p4, p2⟩ (fun hHeld3 => ?_)
   clear hK K hHeld2
   try simp only [Act.put, List.setIfInBounds_toArray, List.set_cons_zero, List.set_cons_succ]
   refine wpAnyT_step 9 (by kernel_rfl) rfl (fun K hK => ?_)
   go_simp
   refine hK.out _ _ ⟨p7, (World.cell?_alloc_lt w4 _ ⟨w.heap.size, 2, none⟩ (show w.heap.size < w4.heap.size by omega)).trans p4, (World.cell?_alloc_lt w4 _ ⟨ab, ao + k, none⟩ (show ab < w4.heap.size by omega)).trans p2⟩ (fun hHeld4 => ?_)
   clear hK K hHeld3
   try simp only [Act.put, List.setIfInBounds_toArray, List.set_cons_zero, List.set_cons_succ]
   refine wpAnyT_step 10 (by kernel_rfl) rfl (fun K hK => ?_)
   refine step_pushRow (by rfl) (.tmp 18) (.tmp 26) 26 (by rfl) W3.heap.size 23 22 (by decide) i1' (.slice none 0 0) 24 Tryz.underlying26 hi1 hi1z hi1z1 hi1b rfl (.slice oa k oc) _ (by rfl) HR5.out _ x HU.out w4.heap.size rfl (by rfl) (by rfl) (by rw [hol]; unfold maxLen; omega) (by rw [hol]; omega) (by omega) ?_
   intro v6 w6 hr6 hz6 hBB6 hKK6
   obtain ⟨va6, vc6, rfl⟩ := hr6.open_
   rw [hl6] at hr6 ⊢
   obtain ⟨h16, hO6⟩ := HO5.out.push (by omega) (by omega) hr6 hBB6
   obtain ⟨-, -, e26, -, -, f26⟩ := elem_cells (h16 _ HG5.out)
   have hb6 := hBB6 W3.heap.size w4 (Below.refl _ _) (Nat.le_refl _)
   have o4 : w6.cell? ⟨w.heap.size, 2, none⟩ = some (.slice (some ⟨ab, ao, none⟩) xl ac) := (hb6.cell (p := ⟨w.heap.size, 2, none⟩) (show w.heap.size < _ by omega)).trans p4
   have o2 : w6.cell? ⟨ab, ao + k, none⟩ = some (.slice axb n axc) := (hb6.cell (p := ⟨ab, ao + k, none⟩) (show ab < _ by omega)).trans p2
   have HO6 := Lib.hid hO6
   clear hr6 hBB6 hKK6 hO6 h16 hb6
   refine hK.out _ _ ⟨e26, o4, o2⟩ (fun hHeld5 => ?_)
   clear hK K hHeld4
   try simp only [Act.put, List.setIfInBounds_toArray, List.set_cons_zero, List.set_cons_succ]
   refine tkT 11 (v := ?_) rfl rfl ?_ ?_
   rotate_left
   ·(intro wq hSq; (try dsimp only at hSq); go_simp; try with_reducible rfl)
   try simp only [Act.put, List.setIfInBounds_toArray, List.set_cons_zero, List.set_cons_succ]
   refine wpAnyT_last (by kernel_rfl) (by kernel_rfl) rfl (fun K hK => ?_)
   go_simp
   refine hK.out _ _ ?_
   clear hK K hHeld5
   go_wp2
   go_roundw
   case rel =>
    refine ⟨k + 1, by omega, by go_num, ?_⟩
    show OutE _ _ _ _ _ _ _
    have ht : xs.take (k + 1) = xs.take k ++ [x] := by rw [List.take_add_one, HX.out]; rfl
    rw [ht]
    exact HO6.out
   case measure => simp [intOf]; omega
  ·obtain rfl : k = xl := by omega
   obtain ⟨oa, oc, o1, o2⟩ := hO.out.open_
   rw [hol] at o1
   obtain ⟨e0', e1', e2', -, -, -⟩ := elem_cells o1
   have he6 := (hO.out.block (b := w.heap.size + 1) (by omega) (by omega)).trans HRC.out
   obtain ⟨k0, k1, k2, f0, f1, f2⟩ := elem_cells he6
   have hlz := lt_of_heap he6
   have HO1 := Lib.hid o1
   have HE6 := Lib.hid he6
   have HTK : Hid (xs.take k = xs) := by show _ = _; rw [HXL.out]; exact List.take_length
   clear o1 o2 he6
   go_wp2
   obtain ⟨W6, hW6⟩ : ∃ W6, W6 = ((wo.setCell ⟨w.heap.size + 1, 0, none⟩ (.int .i64 la)).setCell ⟨w.heap.size + 1, 1, none⟩ (.bool sa)).setCell ⟨w.heap.size + 1, 2, none⟩ (.slice oa k oc) := ⟨_, rfl⟩
   obtain ⟨h6, hr6, hB6⟩ := hO.out.store HO1.out (by omega) (by omega) HE6.out hW6
   rw [HTK.out] at hr6
   obtain ⟨j0, j1, j2, -, -, -⟩ := elem_cells h6
   rw [← hW6, HP.out]
   refine bodyPost_ret (v := .agg #[.int .i64 la, .bool sa, .slice oa k oc]) ?_ rfl ⟨⟨_, rfl, hr6.mono (by have := hO.out.size; omega)⟩, hB6⟩
   simp [results, Tryz.results6, go_sem, j0, j1, j2]
end G
/- What the reading of an argument tells of its value. -/
/- What the reading of an argument tells of its value: slices of integers, and slices of these. -/
end Go.Proofs.YtkjlfjnncdkmlaaGreat
namespace Go
open RowKit ChangeShapes
section
variable {H : Type} {enc : TypeId × Value → H} {P : Program} {w : World} {held : Bool} {fuel : Nat} {t e q : TypeId} {cs : List Value} {x : DataW H × List MemPlace}
theorem addr_none {a : Addr} {v : Value} {w : World} (h : w.cell? (a.add 0) = some v) : ∃ b off, a = ⟨b, off, none⟩ ∧ b < w.heap.size := by
 obtain ⟨b, off, spot⟩ := a
 obtain rfl : spot = none := by
  have := World.cell?_spot h
  simpa [Addr.add] using this
 exact ⟨b, off, rfl, by have := World.block_lt_of_cell? w _ h; simpa [Addr.add] using this⟩
theorem add_none (b off j : Nat) : (⟨b, off, none⟩ : Addr).add j = ⟨b, off + j, none⟩ := by unfold Addr.add; split <;> simp_all
theorem trod_reads {k : IntKind} (ht : P.underlying t = some (.slice e)) (he : P.underlying e = some (.int k)) (hc : P.cellsOf e = 1) (h : DataW.trod enc P w 0 (fun _ => true) held fuel t cs = some x) :
  ∃ (v : Value) (zs : List Int), cs = [v] ∧ w.reads w.heap.size v (zs.map (Value.int k)) ∧ ∀ z ∈ zs, (Lit.int k z).wf = true := by
 rcases open_ints ht he hc h with ⟨hcs, _⟩ | ⟨a, len, cap, zs, hcs, _, hl, hm, hz, _, hcell, hw⟩
 ·exact ⟨_, [], hcs, reads_nil _ _, by simp⟩
 ·simp only [if_true] at hz
  refine ⟨_, zs.take len, hcs, ⟨some a, cap, by simp; omega, by simp, by simp; omega, hm, fun j u hj => ?_⟩, fun z hz' => hw z (List.mem_of_mem_take hz')⟩
  have hj' : j < len ∧ j < zs.length := by
   have h1 := (List.getElem?_eq_some_iff.1 hj).1
   simp at h1; omega
  obtain ⟨b, off, rfl, hb⟩ := addr_none (hcell 0 (by omega))
  have hcj := hcell j hj'.2
  rw [add_none] at hcj
  refine ⟨b, off, rfl, hb, ?_⟩
  rw [hcj]
  simp [hj'.1, hj'.2] at hj ⊢
  exact hj
theorem trod_rows {k : IntKind} (ht : P.underlying t = some (.slice e)) (he : P.underlying e = some (.slice q)) (hq : P.underlying q = some (.int k)) (ce : P.cellsOf e = 1) (cq : P.cellsOf q = 1) (h : DataW.trod enc P w 0 (fun _ => true) held fuel t cs = some x) :
  ∃ (v : Value) (rs : List (List Int)), cs = [v] ∧ w.rows (Value.int k) w.heap.size v rs ∧ ∀ r ∈ rs, ∀ z ∈ r, (Lit.int k z).wf = true := by
 rcases Deep.open_int_rows ht he hq ce cq h with ⟨hcs, _⟩ | ⟨a, len, cap, A, L, C, Z, hcs, _, hl, hm, _, hrow⟩
 ·exact ⟨_, [], hcs, ⟨[], rfl, reads_nil _ _, fun i r hr => by simp at hr⟩, by simp⟩
 ·refine ⟨_, (List.range len).map fun r => (Z r).take (L r), hcs, ⟨(List.range len).map fun r => .slice (A r) (L r) (C r), by simp, ?_, fun i r hr => ?_⟩, fun r hr z hz => ?_⟩
  ·refine ⟨some a, cap, by simp, by simp, by simpa using hl, hm, fun j u hj => ?_⟩
   have hj' : j < len := by
    have h1 := (List.getElem?_eq_some_iff.1 hj).1
    simpa using h1
   obtain ⟨hc0, -⟩ := hrow 0 (by omega)
   obtain ⟨hcj, -⟩ := hrow j (by omega)
   obtain ⟨b, off, rfl, hb⟩ := addr_none hc0
   rw [add_none] at hcj
   refine ⟨b, off, rfl, hb, ?_⟩
   rw [hcj]
   simpa [hj'] using hj
  ·have hi : i < len := by
    have h1 := (List.getElem?_eq_some_iff.1 hr).1
    simpa using h1
   obtain ⟨-, h1, h2, h3, h4, h5, h6⟩ := hrow i (by omega)
   obtain rfl : r = (Z i).take (L i) := by simpa [hi] using hr.symm
   refine ⟨.slice (A i) (L i) (C i), by simp [hi], ?_⟩
   refine ⟨A i, C i, by simp; omega, h5, by simp; omega, h2, fun j u hj => ?_⟩
   have hj' : j < L i ∧ j < (Z i).length := by
    have h1 := (List.getElem?_eq_some_iff.1 hj).1
    simp at h1; omega
   obtain ⟨a', ha'⟩ : ∃ a', A i = some a' := by
    cases hA : A i with
    | none => have := h5 hA; omega
    | some a' => exact ⟨a', rfl⟩
   obtain ⟨-, h7⟩ := h6 a' ha'
   obtain ⟨b, off, rfl, hb⟩ := addr_none (h7 0 (by omega))
   have hcj := h7 j (by omega)
   rw [add_none] at hcj
   refine ⟨b, off, ha', hb, ?_⟩
   rw [hcj]
   simp [hj'.1, hj'.2] at hj ⊢
   exact hj
  ·simp only [List.mem_map, List.mem_range] at hr
   obtain ⟨i, hi, rfl⟩ := hr
   obtain ⟨-, -, -, -, h4, -⟩ := hrow i (by omega)
   exact h4 z (List.mem_of_mem_take hz)
theorem nats_of : ∀ (zs : List Int), (∀ z ∈ zs, (Lit.int .u32 z).wf = true) → ∃ l : List Nat, zs = l.map Int.ofNat ∧ ∀ q ∈ l, q < 4294967296
 | [], _ => ⟨[], rfl, by simp⟩
 | z :: zs, h => by
  obtain ⟨l, rfl, hl⟩ := nats_of zs (fun y hy => h y (by simp [hy]))
  have hb := bounds_u32 (h z (by simp))
  refine ⟨z.toNat :: l, by simp; omega, fun q hq => ?_⟩
  rcases List.mem_cons.1 hq with rfl | hq
  ·omega
  ·exact hl q hq
theorem rows_nats_of : ∀ (zs : List (List Int)), (∀ r ∈ zs, ∀ z ∈ r, (Lit.int .u32 z).wf = true) → ∃ l : List (List Nat), zs = l.map (·.map Int.ofNat) ∧ ∀ r ∈ l, ∀ q ∈ r, q < 4294967296
 | [], _ => ⟨[], rfl, by simp⟩
 | r :: zs, h => by
  obtain ⟨l, rfl, hl⟩ := rows_nats_of zs (fun y hy => h y (by simp [hy]))
  obtain ⟨l1, rfl, h1⟩ := nats_of r (h r (by simp))
  refine ⟨l1 :: l, by simp, fun q hq => ?_⟩
  rcases List.mem_cons.1 hq with rfl | hq
  ·exact h1
  ·exact hl q hq
theorem trod_reads32 (ht : P.underlying t = some (.slice e)) (he : P.underlying e = some (.int .u32)) (hc : P.cellsOf e = 1) (h : DataW.trod enc P w 0 (fun _ => true) held fuel t cs = some x) :
  ∃ (v : Value) (l : List Nat), cs = [v] ∧ w.reads w.heap.size v (l.map u32V) ∧ ∀ q ∈ l, q < 4294967296 := by
 obtain ⟨v, zs, h1, h2, h3⟩ := trod_reads ht he hc h
 obtain ⟨l, rfl, hl⟩ := nats_of zs h3
 exact ⟨v, l, h1, by rw [List.map_map] at h2; exact h2, hl⟩
theorem trod_rows32 (ht : P.underlying t = some (.slice e)) (he : P.underlying e = some (.slice q)) (hq : P.underlying q = some (.int .u32)) (ce : P.cellsOf e = 1) (cq : P.cellsOf q = 1) (h : DataW.trod enc P w 0 (fun _ => true) held fuel t cs = some x) :
  ∃ (v : Value) (rs : List (List Nat)), cs = [v] ∧ w.rows u32V w.heap.size v rs ∧ ∀ r ∈ rs, ∀ q ∈ r, q < 4294967296 := by
 obtain ⟨v, zs, h1, ⟨vs, h2, h3, h4⟩, h5⟩ := trod_rows ht he hq ce cq h
 obtain ⟨l, rfl, hl⟩ := rows_nats_of zs h5
 refine ⟨v, l, h1, ⟨vs, by simpa using h2, h3, fun i r hr => ?_⟩, hl⟩
 obtain ⟨u, hu, hur⟩ := h4 i (r.map Int.ofNat) (by simp [hr])
 exact ⟨u, hu, by rw [List.map_map] at hur; exact hur⟩
theorem trod_field {fs : Array Field} (ht : P.underlying t = some (.struct fs)) (h : DataW.trod enc P w 0 (fun _ => true) held fuel t cs = some x) (j : Nat) (f : Field) (hj : fs[j]? = some f) :
  ∃ n y, DataW.trod enc P w 0 (fun _ => true) held n f.type ((cs.drop f.offset).take (P.cellsOf f.type)) = some y := by
 obtain ⟨xs, m, rfl, hx, hl, hlen, hget⟩ := DataW.trod_struct ht h
 have hj' := (Array.getElem?_eq_some_iff.1 hj).1
 exact ⟨m, _, (hget j f hj).trans (List.getElem?_eq_getElem (by omega))⟩
end
end Go
/- What the reading of an argument tells of its value: parameters, elements, a case of the ring's laws. -/
namespace Go.Proofs.YtkjlfjnncdkmlaaGreat
namespace G
open Go.RowKit Go.WideShapes Go.ChangeShapes
theorem i64_bounds {z : Int} (h : (Lit.int .i64 z).wf = true) : -9223372036854775808 ≤ z ∧ z ≤ 9223372036854775807 := by
 have h2 : IntKind.i64.min ≤ z ∧ z ≤ IntKind.i64.max := by simpa [Lit.wf] using h
 have h3 : IntKind.i64.min = -9223372036854775808 := by decide
 have h4 : IntKind.i64.max = 9223372036854775807 := by decide
 omega
theorem i64_bounds_all {l : List Int} (h : ∀ z ∈ l, (Lit.int .i64 z).wf = true) : ∀ z ∈ l, -9223372036854775808 ≤ z ∧ z ≤ 9223372036854775807 := fun z hz => i64_bounds (h z hz)
theorem open_params {H : Type} {enc : TypeId × Value → H} {W : World} {base : Nat} {v : Value} {d : DataW H} {p : List MemPlace} (hv : Value.okWide Tryz.prog W .any base 25 v) (h : DataW.Trod enc Tryz.prog W 0 (fun _ => true) true 25 v d p) :
  ∃ (N pr pw wt er : Int) (cv : Value) (chain : List Nat) (sp : Nat), v = .agg #[.int .i64 N, .int .u32 pr, .int .i64 pw, cv, .int .u32 (sp : Int), .int .i64 wt, .int .u32 er] ∧ W.reads W.heap.size cv (chain.map u32V) := by
 have c25 : Tryz.prog.cellsOf 25 = 7 := by kernel_rfl
 have c28 : Tryz.prog.cellsOf 28 = 3 := by kernel_rfl
 have c22 : Tryz.prog.cellsOf 22 = 1 := by kernel_rfl
 have c23 : Tryz.prog.cellsOf 23 = 1 := by kernel_rfl
 have c26 : Tryz.prog.cellsOf 26 = 1 := by kernel_rfl
 have c3 : Tryz.prog.cellsOf 3 = 1 := by kernel_rfl
 have c4 : Tryz.prog.cellsOf 4 = 1 := by kernel_rfl
 obtain ⟨cs, rfl, hsz⟩ := okWide_struct Tryz.underlying25 hv
 obtain ⟨fuel, hf⟩ := h
 have hl' : cs.toList.length = 7 := by rw [c25] at hsz; simpa using hsz
 obtain ⟨_, _, p0⟩ := trod_field Tryz.underlying25 hf 0 _ rfl
 obtain ⟨_, _, p1⟩ := trod_field Tryz.underlying25 hf 1 _ rfl
 obtain ⟨_, _, p2⟩ := trod_field Tryz.underlying25 hf 2 _ rfl
 obtain ⟨_, _, p3⟩ := trod_field Tryz.underlying25 hf 3 _ rfl
 obtain ⟨_, _, p4⟩ := trod_field Tryz.underlying25 hf 4 _ rfl
 obtain ⟨_, _, p5⟩ := trod_field Tryz.underlying25 hf 5 _ rfl
 obtain ⟨_, _, p6⟩ := trod_field Tryz.underlying25 hf 6 _ rfl
 obtain ⟨N, e0, -, w0⟩ := DataW.trod_int Tryz.underlying3 p0
 obtain ⟨pr, e1, -, -⟩ := DataW.trod_int Tryz.underlying22 p1
 obtain ⟨pw, e2, -, -⟩ := DataW.trod_int Tryz.underlying3 p2
 obtain ⟨cv, chain, e3, hchain, hcb⟩ := trod_reads32 Tryz.underlying23 Tryz.underlying22 c22 p3
 obtain ⟨sp, e4, -, w4⟩ := DataW.trod_int Tryz.underlying22 p4
 obtain ⟨wt, e5, -, -⟩ := DataW.trod_int Tryz.underlying3 p5
 obtain ⟨er, e6, -, -⟩ := DataW.trod_int Tryz.underlying22 p6
 have hsp := bounds_u32 w4
 refine ⟨N, pr, pw, wt, er, cv, chain, sp.toNat, ?_, hchain⟩
 have hsn : ((sp.toNat : Nat) : Int) = sp := by omega
 simp only [hsn]
 congr 1
 apply Array.ext'
 simp only [Value.cells] at e0 e1 e2 e3 e4 e5 e6
 clear p0 p1 p2 p3 p4 p5 p6 hf hv
 generalize cs.toList = l at *
 match l, hl' with
 | [k0, k1, k2, k3, k4, k5, k6], _ =>
  simp [c25, c28, c22, c23, c26, c3, c4] at e0 e1 e2 e3 e4 e5 e6
  simp [e0, e1, e2, e3, e4, e5, e6]
theorem open_rcase {H : Type} {enc : TypeId × Value → H} {W : World} {base : Nat} {v : Value} {d : DataW H} {p : List MemPlace} (hv : Value.okWide Tryz.prog W .any base 31 v) (h : DataW.Trod enc Tryz.prog W 0 (fun _ => true) true 31 v d p) :
  ∃ c : RCase, v = .agg c.cells ∧ c.reads W.heap.size W ∧ (-9223372036854775808 ≤ c.num ∧ c.num ≤ 9223372036854775807) ∧ (-9223372036854775808 ≤ c.kk ∧ c.kk ≤ 9223372036854775807) ∧ (-9223372036854775808 ≤ c.level ∧ c.level ≤ 9223372036854775807) ∧ (∀ z ∈ c.ls, -9223372036854775808 ≤ z ∧ z ≤ 9223372036854775807) ∧ (∀ q ∈ c.chain, q < 4294967296) ∧ c.sp < 4294967296 ∧ (∀ r ∈ c.xs, ∀ q ∈ r, q < 4294967296) ∧ (∀ r ∈ c.ys, ∀ q ∈ r, q < 4294967296) ∧ (-9223372036854775808 ≤ c.N ∧ c.N ≤ 9223372036854775807) := by
 have c25 : Tryz.prog.cellsOf 25 = 7 := by kernel_rfl
 have c28 : Tryz.prog.cellsOf 28 = 3 := by kernel_rfl
 have c22 : Tryz.prog.cellsOf 22 = 1 := by kernel_rfl
 have c23 : Tryz.prog.cellsOf 23 = 1 := by kernel_rfl
 have c26 : Tryz.prog.cellsOf 26 = 1 := by kernel_rfl
 have c3 : Tryz.prog.cellsOf 3 = 1 := by kernel_rfl
 have c4 : Tryz.prog.cellsOf 4 = 1 := by kernel_rfl
 have c29 : Tryz.prog.cellsOf 29 = 1 := by kernel_rfl
 have c2 : Tryz.prog.cellsOf 2 = 1 := by kernel_rfl
 have c31 : Tryz.prog.cellsOf 31 = 18 := by kernel_rfl
 obtain ⟨cs, rfl, hsz⟩ := okWide_struct Tryz.underlying31 hv
 obtain ⟨fuel, hf⟩ := h
 have hl' : cs.toList.length = 18 := by rw [c31] at hsz; simpa using hsz
 obtain ⟨_, _, hP⟩ := trod_field Tryz.underlying31 hf 0 _ rfl
 obtain ⟨_, _, hA⟩ := trod_field Tryz.underlying31 hf 1 _ rfl
 obtain ⟨_, _, hB⟩ := trod_field Tryz.underlying31 hf 2 _ rfl
 obtain ⟨_, _, h3⟩ := trod_field Tryz.underlying31 hf 3 _ rfl
 obtain ⟨_, _, h4⟩ := trod_field Tryz.underlying31 hf 4 _ rfl
 obtain ⟨_, _, h5⟩ := trod_field Tryz.underlying31 hf 5 _ rfl
 obtain ⟨_, _, h6⟩ := trod_field Tryz.underlying31 hf 6 _ rfl
 obtain ⟨_, _, h7⟩ := trod_field Tryz.underlying31 hf 7 _ rfl
 obtain ⟨_, _, p0⟩ := trod_field Tryz.underlying25 hP 0 _ rfl
 obtain ⟨_, _, p1⟩ := trod_field Tryz.underlying25 hP 1 _ rfl
 obtain ⟨_, _, p2⟩ := trod_field Tryz.underlying25 hP 2 _ rfl
 obtain ⟨_, _, p3⟩ := trod_field Tryz.underlying25 hP 3 _ rfl
 obtain ⟨_, _, p4⟩ := trod_field Tryz.underlying25 hP 4 _ rfl
 obtain ⟨_, _, p5⟩ := trod_field Tryz.underlying25 hP 5 _ rfl
 obtain ⟨_, _, p6⟩ := trod_field Tryz.underlying25 hP 6 _ rfl
 obtain ⟨_, _, a0⟩ := trod_field Tryz.underlying28 hA 0 _ rfl
 obtain ⟨_, _, a1⟩ := trod_field Tryz.underlying28 hA 1 _ rfl
 obtain ⟨_, _, a2⟩ := trod_field Tryz.underlying28 hA 2 _ rfl
 obtain ⟨_, _, b0⟩ := trod_field Tryz.underlying28 hB 0 _ rfl
 obtain ⟨_, _, b1⟩ := trod_field Tryz.underlying28 hB 1 _ rfl
 obtain ⟨_, _, b2⟩ := trod_field Tryz.underlying28 hB 2 _ rfl
 obtain ⟨N, e0, -, w0⟩ := DataW.trod_int Tryz.underlying3 p0
 obtain ⟨pr, e1, -, -⟩ := DataW.trod_int Tryz.underlying22 p1
 obtain ⟨pw, e2, -, -⟩ := DataW.trod_int Tryz.underlying3 p2
 obtain ⟨cv, chain, e3, hchain, hcb⟩ := trod_reads32 Tryz.underlying23 Tryz.underlying22 c22 p3
 obtain ⟨sp, e4, -, w4⟩ := DataW.trod_int Tryz.underlying22 p4
 obtain ⟨wt, e5, -, -⟩ := DataW.trod_int Tryz.underlying3 p5
 obtain ⟨er, e6, -, -⟩ := DataW.trod_int Tryz.underlying22 p6
 obtain ⟨la, e7, -, -⟩ := DataW.trod_int Tryz.underlying3 a0
 obtain ⟨sa, e8, -⟩ := DataW.trod_bool Tryz.underlying4 a1
 obtain ⟨av, xs, e9, hxs, hxb⟩ := trod_rows32 Tryz.underlying26 Tryz.underlying23 Tryz.underlying22 c23 c22 a2
 obtain ⟨lb, e10, -, -⟩ := DataW.trod_int Tryz.underlying3 b0
 obtain ⟨sb, e11, -⟩ := DataW.trod_bool Tryz.underlying4 b1
 obtain ⟨bv, ys, e12, hys, hyb⟩ := trod_rows32 Tryz.underlying26 Tryz.underlying23 Tryz.underlying22 c23 c22 b2
 obtain ⟨num, e13, -, w13⟩ := DataW.trod_int Tryz.underlying2 h3
 obtain ⟨kk, e14, -, w14⟩ := DataW.trod_int Tryz.underlying3 h4
 obtain ⟨level, e15, -, w15⟩ := DataW.trod_int Tryz.underlying3 h5
 obtain ⟨special, e16, -⟩ := DataW.trod_bool Tryz.underlying4 h6
 obtain ⟨lw, ls, e17, hls, hlb⟩ := trod_reads Tryz.underlying29 Tryz.underlying2 c2 h7
 have hsp := bounds_u32 w4
 refine ⟨⟨N, pr, pw, wt, er, la, lb, num, kk, level, cv, av, bv, lw, sa, sb, special, chain, sp.toNat, xs, ys, ls⟩, ?_, ⟨hchain, hxs, hys, hls⟩, i64_bounds w13, i64_bounds w14, i64_bounds w15, i64_bounds_all hlb, hcb, by show sp.toNat < _; omega, hxb, hyb, i64_bounds w0⟩
 have hsn : ((sp.toNat : Nat) : Int) = sp := by omega
 unfold RCase.cells
 simp only [hsn]
 congr 1
 apply Array.ext'
 simp only [Value.cells] at e0 e1 e2 e3 e4 e5 e6 e7 e8 e9 e10 e11 e12 e13 e14 e15 e16 e17
 clear p0 p1 p2 p3 p4 p5 p6 a0 a1 a2 b0 b1 b2 h3 h4 h5 h6 h7 hP hA hB hf hv
 generalize cs.toList = l at *
 match l, hl' with
 | [k0, k1, k2, k3, k4, k5, k6, k7, k8, k9, k10, k11, k12, k13, k14, k15, k16, k17], _ =>
  simp [c25, c28, c22, c23, c26, c3, c4, c29, c2] at e0 e1 e2 e3 e4 e5 e6 e7 e8 e9 e10 e11 e12 e13 e14 e15 e16 e17
  simp [e0, e1, e2, e3, e4, e5, e6, e7, e8, e9, e10, e11, e12, e13, e14, e15, e16, e17]
end G
end Go.Proofs.YtkjlfjnncdkmlaaGreat
