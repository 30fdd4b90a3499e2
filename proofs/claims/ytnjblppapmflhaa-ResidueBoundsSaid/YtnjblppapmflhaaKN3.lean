/- Walks: the law ResidueBounds. -/
import Derived.Test.YtnjblppapmflhaaKG3
import Derived.Test.YtnjblppapmflhaaHeldE
import Derived.Test.YtnjblppapmflhaaXC
namespace Go.Proofs.Ytnjblppapmflhaa
set_option linter.all false
open Go.RowKit Go.Shelf Go.WideNum PN
end Go.Proofs.Ytnjblppapmflhaa
namespace Go
section
variable {P : Program} {ops : Array Oper} {Q : Exit → Act → World → Prop}
/-- As wp_region_AE, with three edges. -/
theorem wp_region_AE3 {id : Nat} {a : Act} {w : World} (k e k2 e2 k3 e3 : Nat) {oe oe2 oe3 : Oper} (B : Nat) (S F : World → Prop) (late : Nat → Bool) (hm : P.follows .mixedOrders = true)
    (he : ops.toList[e]? = some oe) (hB : edgeB ops k e = true) (he2 : (withEdge ops k e).toList[e2]? = some oe2) (hB2 : edgeB (withEdge ops k e) k2 e2 = true)
    (he3 : (withEdge (withEdge ops k e) k2 e2).toList[e3]? = some oe3) (hB3 : edgeB (withEdge (withEdge ops k e) k2 e2) k3 e3 = true) (hl2 : Nat.blt e2 ops.size = true) (hl3 : Nat.blt e3 ops.size = true)
    (hQ : ∀ v c a w, Q (.panic c) (a.put oe.dst v) w → Q (.panic c) a w) (hQ2 : ∀ v c a w, Q (.panic c) (a.put oe2.dst v) w → Q (.panic c) a w) (hQ3 : ∀ v c a w, Q (.panic c) (a.put oe3.dst v) w → Q (.panic c) a w)
    (hw : waitsA (withEdge (withEdge (withEdge ops k e) k2 e2) k3 e3) late = true) (hF : Fact B S F) (hFw : F w.drew)
    (h : Fact B S F → wpAnyA P (withEdge (withEdge (withEdge ops k e) k2 e2) k3 e3) Q B S late (fun fuel listed a w => wpAny P .any (withEdge (withEdge (withEdge ops k e) k2 e2) k3 e3) Q fuel listed a w) ops.size (Array.replicate ops.size false) a F) : (Code.region id ops true).wp P Q a w := by
  have he' : ops[e]? = some oe := by simpa using he
  have he2' : (withEdge ops k e)[e2]? = some oe2 := by simpa using he2
  have he3' : (withEdge (withEdge ops k e) k2 e2)[e3]? = some oe3 := by simpa using he3
  have l1 : e < (Array.replicate ops.size false).size := by rw [Array.size_replicate]; exact (Array.getElem?_eq_some_iff.1 he').1
  have l2 : e2 < (Array.replicate ops.size false).size := by rw [Array.size_replicate]; simpa using hl2
  have l3 : e3 < (Array.replicate ops.size false).size := by rw [Array.size_replicate]; simpa using hl3
  exact wp_region_any hm (wpAny_edge he' hB hQ _ _ _ _ l1 (wpAny_edge he2' hB2 hQ2 _ _ _ _ l2 (wpAny_edge he3' hB3 hQ3 _ _ _ _ l3 (wpAny_of_A (waitsA_spec hw) _ _ _ F _ (h hF) hFw))))
end
end Go
namespace Go.Proofs.Ytnjblppapmflhaa
set_option linter.all false
open Go.RowKit Go.Shelf Go.WideNum PN
theorem refCmp_z (a b : Int) (ha : InR a) (hb : InR b) (w : World) :
    Calls Try.prog 26 #[.agg #[.bool (zN a), .string (zT a)], .agg #[.bool (zN b), .string (zT b)]] w fun e w' => e = .returned (.tuple #[.int .i64 (cmpZ a b), .int .i64 0]) ∧ Below w.heap.size w w' := by
  refine refCmp_any (zN a) (zT a) (zN b) (zT b) (z_size ha) (z_size hb) (cmpZ a b) 0 ?_ w
  unfold cmpF
  rw [(z_valid ha).1, (z_valid hb).1, (z_valid ha).2, (z_valid hb).2]
  rfl
theorem wH {w w' : World} {g : Nat} {n : Bool} {s : ByteArray} (h : Hid (w.heap[g]? = some (.cells #[.bool n, .string s] 38))) (hb : Below w.heap.size w w') : Hid (w'.heap[g]? = some (.cells #[.bool n, .string s] 38)) := wide_hold (w := w) h.out hb
theorem bH {a b c : World} (h : Hid (Below a.heap.size a b)) (k : Below b.heap.size b c) : Hid (Below a.heap.size a c) := below_via h.out k
theorem sH {w w' : World} {b : Nat} {ps : List Nat} (h : Hid (SysAt w b ps)) (hb : Below w.heap.size w w') : Hid (SysAt w' b ps) := h.out.below hb
theorem rH {w w' : World} {v : Value} {l : List Value} (h : Hid (w.reads w.heap.size v l)) (hb : Below w.heap.size w w') : Hid (w'.reads w'.heap.size v l) := (h.out.below hb).mono hb.size
theorem fF {W V : World} {S : World → Prop} (h : ∀ X, Below W.heap.size W X → S X) (d : Below W.heap.size W V) : Fact W.heap.size S (fun X => Below V.heap.size V X) := fact_below d.size (fun X hb => h X (below_via d hb))
theorem refAbs_z (x : Int) (hx : InR x) (w : World) :
    Calls Try.prog 22 #[.agg #[.bool (zN x), .string (zT x)]] w fun e w' => e = .returned (.tuple #[.agg #[.bool (zN (x.natAbs : Nat)), .string (zT (x.natAbs : Nat))], .int .i64 0]) ∧ Below w.heap.size w w' := by
  refine refAbs_any (zN x) (zT x) (z_size hx) _ _ 0 ?_ w
  unfold absF
  rw [(z_valid hx).1, if_pos rfl]
  have h1 : zN ((x.natAbs : Nat) : Int) = false := decide_eq_false (by omega)
  rw [h1]
  unfold zT
  rw [Int.natAbs_natCast]
theorem u32_nat {z : Int} (h : (Lit.int .u32 z).wf = true) : ∃ n : Nat, n < 4294967296 ∧ z = (n : Int) := by
  have h2 : IntKind.u32.min ≤ z ∧ z ≤ IntKind.u32.max := by simpa [Lit.wf] using h
  have h3 : IntKind.u32.min = 0 := by decide
  have h4 : IntKind.u32.max = 4294967295 := by decide
  exact ⟨z.toNat, by omega, by omega⟩
set_option maxRecDepth 100000 in
set_option maxHeartbeats 32000000 in
theorem bounds_law (ps : List Nat) (nx : Bool) (sx : ByteArray) (hsx : sx.size ≤ maxLen) (pv : Value) (tz : Int) (hwf : (Lit.int .u32 tz).wf = true) (w : World) (hr : w.reads w.heap.size pv (ps.map u32V)) (hpb : ∀ q ∈ ps, q < 4294967296) :
    Calls Try.prog 4 #[pv, .agg #[.bool nx, .string sx], .int .u32 tz] w fun e w' => e = .returned (.bool true) ∧ Below w.heap.size w w' := by
 obtain ⟨t, ht32, rfl⟩ := u32_nat hwf
 clear hwf
 have HSH := Lib.hid shown_any
 obtain ⟨ok, hok⟩ : ∃ ok, ok = validB nx sx := ⟨_, rfl⟩
 have HV := Lib.hid (refValid_wide nx sx hsx ok hok)
 have HOK := Lib.hid hok
 obtain ⟨ok1, hok1⟩ := em_bool (SysP ps)
 have HN1 : Hid (∀ W, Below w.heap.size w W → Calls Try.prog 19 #[pv] W (NewRet W ps ok1)) := fun W hb => New_any ps pv W ((hr.below hb).mono hb.size) hpb ok1 hok1
 have HO1 := Lib.hid hok1
 have hl1 := hr.le_map
 have HR := Lib.hid hr
 have HPB := Lib.hid hpb
 obtain ⟨pa, pc, rfl, hpc, hpm, hps⟩ := reads_u32 hr
 have HPS := Lib.hid hps
 obtain ⟨m, hm⟩ : ∃ m, m = ps.length := ⟨_, rfl⟩
 have HM := Lib.hid hm
 rw [← hm] at HN1 HR hl1 hpc ⊢
 clear hok hok1 hr hpb hm hps
 obtain ⟨sz, hz⟩ : ∃ z, z = sx.size := ⟨_, rfl⟩
 obtain ⟨wb, hwb⟩ : ∃ W, W = w.alloc (.cells #[.bool nx, .string sx] 38) := ⟨_, rfl⟩
 have hbb : Below w.heap.size w wb := by rw [hwb]; exact (Below.refl _ _).alloc (Nat.le_refl _) _
 have hgb : wb.heap[w.heap.size]? = some (.cells #[.bool nx, .string sx] 38) := by rw [hwb]; exact heap_alloc_new w _
 have HBB := Lib.hid hbb
 have HGB := Lib.hid hgb
 clear hbb hgb
 go_enter Try.func4, Try.ntmps4
 go_upto_region 1 with (fail)
 rw [← hwb]
 obtain ⟨x0, x1, -⟩ := wide_cells HGB.out
 clear hwb
 by_cases h1 : 40 < m
 · have t1 : (40 : Int) < (m : Int) := by omega
   clear h1 hz
   go_wp2_with fail
   (with_reducible refine (HSH.out _).mono ?_)
   rintro e w1 ⟨rfl, hb1⟩
   go_wp2
   go_ret
   exact ⟨rfl, below_via HBB.out hb1⟩
 have t1 : ¬ (40 : Int) < (m : Int) := by omega
 by_cases h3 : 300 < sz
 · have t3 : (300 : Int) < (sx.size : Int) := by omega
   clear h1 h3 hz
   go_wp2_with fail
   (with_reducible refine (HSH.out _).mono ?_)
   rintro e w1 ⟨rfl, hb1⟩
   go_wp2
   go_ret
   exact ⟨rfl, below_via HBB.out hb1⟩
 have t3 : ¬ (300 : Int) < (sx.size : Int) := by omega
 clear h1 h3 hz
 go_wp2_with fail
 (with_reducible refine (HV.out _).mono ?_)
 rintro e w1 ⟨rfl, hb1⟩
 have B := Lib.hid (below_via HBB.out hb1)
 have X := Lib.hid (wide_hold (w := wb) HGB.out hb1)
 clear hb1 x0 x1 t1 t3 HGB HBB
 cases ok with
 | false =>
   go_wp2_with fail
   (with_reducible refine (HSH.out _).mono ?_)
   rintro e w2 ⟨rfl, hb1⟩
   go_wp2
   go_ret
   exact ⟨rfl, below_via B.out hb1⟩
 | true =>
 go_wp2_with fail
 (with_reducible refine (HN1.out _ B.out).mono ?_)
 cases ok1 with
 | false =>
   rintro e w2 ⟨hb2, he2⟩
   subst he2
   replace B := Lib.hid (below_via B.out hb2)
   clear hb2
   go_wp2_with fail
   (with_reducible refine (HSH.out _).mono ?_)
   rintro e w3 ⟨rfl, hb3⟩
   go_wp2
   go_ret
   exact ⟨rfl, below_via B.out hb3⟩
 | true =>
 rintro e w2 ⟨hb2, he2, hs2⟩
 subst he2
 have hsys := HO1.out.1 rfl
 obtain ⟨b, hbd⟩ : ∃ b, b = w1.heap.size := ⟨_, rfl⟩
 rw [← hbd] at hs2 ⊢
 have S := Lib.hid hs2
 replace B := Lib.hid (below_via B.out hb2)
 replace X := Lib.hid (wide_hold (w := w1) X.out hb2)
 clear hs2 hb2 hbd HV HN1
 have HSYS := Lib.hid hsys
 by_cases hm3 : m < 3
 · have t2 : (m : Int) < 3 := by omega
   clear hm3 hsys
   go_wp2_with fail
   (with_reducible refine (HSH.out _).mono ?_)
   rintro e w3 ⟨rfl, hb3⟩
   go_wp2
   go_ret
   exact ⟨rfl, below_via B.out hb3⟩
 have t2 : ¬ (m : Int) < 3 := by omega
 by_cases ht1 : t < 1
 · have t4 : (t : Int) < 1 := by omega
   clear hm3 hsys ht1
   go_wp2_with fail
   (with_reducible refine (HSH.out _).mono ?_)
   rintro e w3 ⟨rfl, hb3⟩
   go_wp2
   go_ret
   exact ⟨rfl, below_via B.out hb3⟩
 have t4 : ¬ (t : Int) < 1 := by omega
 by_cases ht2 : 1048576 < t
 · have t5 : (1048576 : Int) < (t : Int) := by omega
   clear hm3 hsys ht1 ht2
   go_wp2_with fail
   (with_reducible refine (HSH.out _).mono ?_)
   rintro e w3 ⟨rfl, hb3⟩
   go_wp2
   go_ret
   exact ⟨rfl, below_via B.out hb3⟩
 have t5 : ¬ (1048576 : Int) < (t : Int) := by omega
 obtain ⟨n, rfl⟩ : ∃ n, m = n + 1 := ⟨m - 1, by omega⟩
 have hlast := last_get hsys.1
 rw [← HM.out, show n + 1 - 1 = n by omega] at hlast
 obtain ⟨bp, op, rfl, hbpl, hcl⟩ := HPS.out _ _ hlast
 obtain ⟨q1, q2, q3, q4⟩ := hsys.last
 obtain ⟨p, hp⟩ : ∃ p, p = lastP ps := ⟨_, rfl⟩
 rw [← hp] at hcl q2 q3 q4
 have HPD := Lib.hid hp
 have HCL : Hid (∀ W, Below w.heap.size w W → W.cell? ⟨bp, op + n, none⟩ = some (.int .u32 (p : Int))) := fun W hb => (hb.cell (p := ⟨bp, op + n, none⟩) hbpl).trans hcl
 clear hlast hp hcl hbpl HPS q1
 have cl := HCL.out w2 B.out
 have e2 : ((n + 1 : Nat) : Int) - 1 = (n : Int) := by omega
 have t8 : ¬ (n : Int) + 1 < 3 := by omega
 have e7 : (n : Int) + 1 - 1 = (n : Int) := by omega
 have e3 : (n : Int) < ((n + 1 : Nat) : Int) := by omega
 have e4 : (n : Int) < (n : Int) + 1 := by omega
 have e5 : ¬ p = 0 := by omega
 have e6 : (t : Int).tmod (p : Int) = ((t % p : Nat) : Int) := rfl
 by_cases ht0 : t % p = 0
 · have t6 : ((t % p : Nat) : Int) = 0 := by omega
   have t7 : (((t % p : Nat) : Int) == 0) = true := by rw [t6]; rfl
   clear hm3 hsys ht1 ht2 ht0
   go_wp2_with fail
   (with_reducible refine (HSH.out _).mono ?_)
   rintro e w3 ⟨rfl, hb3⟩
   go_wp2
   go_ret
   exact ⟨rfl, below_via B.out hb3⟩
 have t7 : (((t % p : Nat) : Int) == 0) = false := by rw [beq_eq_false_iff_ne]; omega
 have t9 : ((t : Int) % (p : Int) == 0) = false := t7
 obtain ⟨hzr, hzn, hzt⟩ := z_of_valid HOK.out.symm
 obtain ⟨L1, hL1⟩ : ∃ L, L = resL ps (zV nx sx) := ⟨_, rfl⟩
 have hrow : RowP ps L1 := by rw [hL1]; exact resL_row hsys _
 have hlen : ps.length - 1 = n := by have := HM.out; omega
 have h3l : 3 ≤ ps.length := by have := HM.out; omega
 have hu : SysP (ps.take n) := take_sys hsys (by omega) (by have := HM.out; omega)
 obtain ⟨tk, htk⟩ : ∃ l, l = ps.take n := ⟨_, rfl⟩
 rw [← htk] at hu
 obtain ⟨J, hJ⟩ : ∃ z, z = joinZ ps L1 := ⟨_, rfl⟩
 obtain ⟨D, hD⟩ : ∃ z, z = scaleD ps L1 t := ⟨_, rfl⟩
 obtain ⟨q, hq⟩ : ∃ z, z = (p : Int) := ⟨_, rfl⟩
 obtain ⟨h, hh⟩ : ∃ z, z = (t : Int) * ((q - 1) / 2) := ⟨_, rfl⟩
 obtain ⟨g, hg⟩ : ∃ z, z = ((J.natAbs : Nat) + h) / q := ⟨_, rfl⟩
 obtain ⟨P, hP⟩ : ∃ z, z = ((prodL tk : Nat) : Int) := ⟨_, rfl⟩
 obtain ⟨L2, hL2⟩ : ∃ L, L = resL tk ((J - D * t) / q) := ⟨_, rfl⟩
 obtain ⟨v, hv⟩ : ∃ z, z = joinZ tk L2 := ⟨_, rfl⟩
 have ht' : ¬ t % lastP ps = 0 := by rw [← HPD.out]; exact ht0
 have hplain : g + g < P → v.natAbs ≤ g.natAbs ∧ 0 ≤ g ∧ J - v * q = D * t ∧ (D * t) % (t : Int) = 0 ∧ ((D * t).natAbs : Int) ≤ h := fun hw =>
   bounds_plain hsys h3l hrow (by omega) ht' J D q h g v P hJ hD (by rw [hq, HPD.out]) hh hg (by rw [hP, htk, hlen]) (by rw [hv, hL2, hlen, htk]) hw
 have hJa : J.natAbs < 4294967296 ^ 25 := by
   have h1 := joinZ_abs (rs := L1) hsys.sep
   have h2 := prodL_le25 hsys.sep hsys.2.1
   rw [hJ]; omega
 have hPa : (prodL tk) ≤ 4294967296 ^ 25 := prodL_le25 hu.sep hu.2.1
 have hva : v.natAbs < 4294967296 ^ 25 := by
   have h1 := joinZ_abs (rs := L2) hu.sep
   rw [hv]; omega
 have hh0 : 0 ≤ h ∧ h < 4611686018427387904 := by
   have h1 : 0 ≤ (q - 1) / 2 := by omega
   have h2 : (q - 1) / 2 ≤ 1073741823 := by omega
   refine ⟨by rw [hh]; exact Int.mul_nonneg (by omega) h1, ?_⟩
   have h4 : (t : Int) * ((q - 1) / 2) ≤ (1048576 : Int) * 1073741823 := Int.mul_le_mul (by omega) h2 h1 (by omega)
   omega
 have hq3 : 3 ≤ q ∧ q ≤ 2147483647 := by omega
 obtain ⟨K, hK⟩ : ∃ K : Nat, K = 4294967296 ^ 25 := ⟨_, rfl⟩
 rw [← hK] at hJa hPa hva
 have hKb : 18446744073709551616 ≤ K := by rw [hK]; decide
 have hin : ∀ x : Int, x.natAbs < K * 4294967296 → InR x := fun x hx => by
   refine inR_of (k := 26) ?_ (by omega)
   rw [hK] at hx
   exact hx
 obtain ⟨M, hM⟩ : ∃ z, z = ((J.natAbs : Nat) : Int) + h := ⟨_, rfl⟩
 rw [← hM] at hg
 have hg0 : 0 ≤ g := by rw [hg]; exact Int.ediv_nonneg (by omega) (by omega)
 have hgM : g ≤ M := by rw [hg]; exact Int.ediv_le_self q (by omega)
 have hvq : (v * q).natAbs ≤ K * 2147483647 := by
   rw [Int.natAbs_mul]
   exact Nat.mul_le_mul (by omega) (by omega)
 obtain ⟨T, hT⟩ : ∃ z, z = v * q := ⟨_, rfl⟩
 rw [← hT] at hvq hplain
 obtain ⟨C1, hC1⟩ : ∃ z, z = cmpZ (g + g) P := ⟨_, rfl⟩
 obtain ⟨C2, hC2⟩ : ∃ z, z = cmpZ ((v.natAbs : Nat) : Int) g := ⟨_, rfl⟩
 obtain ⟨d, hd⟩ : ∃ z, z = J - T := ⟨_, rfl⟩
 rw [← hd] at hplain
 obtain ⟨C3, hC3⟩ : ∃ z, z = cmpZ ((d.natAbs : Nat) : Int) h := ⟨_, rfl⟩
 have hcr : ∀ x y : Int, cmpZ x y = -1 ∨ cmpZ x y = 0 ∨ cmpZ x y = 1 := fun x y => by
   unfold cmpZ
   split
   · exact .inl rfl
   · split
     · exact .inr (.inr rfl)
     · exact .inr (.inl rfl)
 have hbr : ¬ 0 ≤ C1 → ¬ 0 < C2 ∧ ¬ 0 < C3 ∧ d % (t : Int) = 0 := fun hc => by
   have h1 : g + g < P := by
     rw [hC1] at hc
     unfold cmpZ at hc
     split at hc
     · assumption
     · split at hc <;> omega
   obtain ⟨r1, r2, r3, r4, r5⟩ := hplain h1
   refine ⟨?_, ?_, by rw [r3]; exact r4⟩
   · rw [hC2]; unfold cmpZ; split
     · omega
     · split <;> omega
   · rw [← r3] at r5
     rw [hC3]; unfold cmpZ; split
     · omega
     · split <;> omega
 have HBR := Lib.hid hbr
 have hC1r := hcr (g + g) P
 have hC2r := hcr ((v.natAbs : Nat) : Int) g
 have hC3r := hcr ((d.natAbs : Nat) : Int) h
 rw [← hC1] at hC1r
 rw [← hC2] at hC2r
 rw [← hC3] at hC3r
 have iJ : InR J := hin _ (by omega)
 have iA : InR ((J.natAbs : Nat) : Int) := hin _ (by omega)
 have iH : InR h := hin _ (by omega)
 have iM : InR M := hin _ (by omega)
 have iQ : InR q := hin _ (by omega)
 have iG : InR g := hin _ (by omega)
 have iGG : InR (g + g) := hin _ (by omega)
 have iP : InR P := hin _ (by omega)
 have iV : InR v := hin _ (by omega)
 have iF : InR ((v.natAbs : Nat) : Int) := hin _ (by omega)
 have iT : InR T := hin _ (by omega)
 have iD : InR d := hin _ (by omega)
 have iW : InR ((d.natAbs : Nat) : Int) := hin _ (by omega)
 have iTT : InR (t : Int) := hin _ (by omega)
 obtain ⟨jb, hjb⟩ : ∃ z, z = zN J := ⟨_, rfl⟩
 obtain ⟨jt, hjt⟩ : ∃ z, z = zT J := ⟨_, rfl⟩
 obtain ⟨vb, hvb⟩ : ∃ z, z = zN v := ⟨_, rfl⟩
 obtain ⟨vt, hvt⟩ : ∃ z, z = zT v := ⟨_, rfl⟩
 obtain ⟨aab, haab⟩ : ∃ z, z = zN ((J.natAbs : Nat) : Int) := ⟨_, rfl⟩
 obtain ⟨aat, haat⟩ : ∃ z, z = zT ((J.natAbs : Nat) : Int) := ⟨_, rfl⟩
 obtain ⟨hwb, hhwb⟩ : ∃ z, z = zN h := ⟨_, rfl⟩
 obtain ⟨hwt, hhwt⟩ : ∃ z, z = zT h := ⟨_, rfl⟩
 obtain ⟨mb, hmb⟩ : ∃ z, z = zN M := ⟨_, rfl⟩
 obtain ⟨mt, hmt⟩ : ∃ z, z = zT M := ⟨_, rfl⟩
 obtain ⟨qwb, hqwb⟩ : ∃ z, z = zN q := ⟨_, rfl⟩
 obtain ⟨qwt, hqwt⟩ : ∃ z, z = zT q := ⟨_, rfl⟩
 obtain ⟨gb, hgb⟩ : ∃ z, z = zN g := ⟨_, rfl⟩
 obtain ⟨gt, hgt⟩ : ∃ z, z = zT g := ⟨_, rfl⟩
 obtain ⟨rmb, hrmb⟩ : ∃ z, z = zN (M % q) := ⟨_, rfl⟩
 obtain ⟨rmt, hrmt⟩ : ∃ z, z = zT (M % q) := ⟨_, rfl⟩
 obtain ⟨dbb, hdbb⟩ : ∃ z, z = zN (g + g) := ⟨_, rfl⟩
 obtain ⟨dbt, hdbt⟩ : ∃ z, z = zT (g + g) := ⟨_, rfl⟩
 obtain ⟨prb, hprb⟩ : ∃ z, z = zN P := ⟨_, rfl⟩
 obtain ⟨prt, hprt⟩ : ∃ z, z = zT P := ⟨_, rfl⟩
 obtain ⟨fb, hfb⟩ : ∃ z, z = zN ((v.natAbs : Nat) : Int) := ⟨_, rfl⟩
 obtain ⟨ft, hft⟩ : ∃ z, z = zT ((v.natAbs : Nat) : Int) := ⟨_, rfl⟩
 obtain ⟨tmb, htmb⟩ : ∃ z, z = zN T := ⟨_, rfl⟩
 obtain ⟨tmt, htmt⟩ : ∃ z, z = zT T := ⟨_, rfl⟩
 obtain ⟨db, hdb⟩ : ∃ z, z = zN d := ⟨_, rfl⟩
 obtain ⟨dt, hdt⟩ : ∃ z, z = zT d := ⟨_, rfl⟩
 obtain ⟨ttb, httb⟩ : ∃ z, z = zN (t : Int) := ⟨_, rfl⟩
 obtain ⟨ttt, httt⟩ : ∃ z, z = zT (t : Int) := ⟨_, rfl⟩
 obtain ⟨dqb, hdqb⟩ : ∃ z, z = zN (d / (t : Int)) := ⟨_, rfl⟩
 obtain ⟨dqt, hdqt⟩ : ∃ z, z = zT (d / (t : Int)) := ⟨_, rfl⟩
 obtain ⟨drb, hdrb⟩ : ∃ z, z = zN (d % (t : Int)) := ⟨_, rfl⟩
 obtain ⟨drt, hdrt⟩ : ∃ z, z = zT (d % (t : Int)) := ⟨_, rfl⟩
 obtain ⟨wdb, hwdb⟩ : ∃ z, z = zN ((d.natAbs : Nat) : Int) := ⟨_, rfl⟩
 obtain ⟨wdt, hwdt⟩ : ∃ z, z = zT ((d.natAbs : Nat) : Int) := ⟨_, rfl⟩
 obtain ⟨L3, hL3⟩ : ∃ L, L = (scaleF ps L1 1 true).1 := ⟨_, rfl⟩
 obtain ⟨dd, hdd⟩ : ∃ z, z = dropD ps L1 := ⟨_, rfl⟩
 have hone := drop_one hsys h3l hrow
 rw [← hL3, ← hdd] at hone
 have htru : (true = true ↔ RowP ps L1) := ⟨fun _ => hrow, fun _ => rfl⟩
 have HSP : Hid (∀ W, SysAt W b ps → Calls Try.prog 20 #[.pointer (some ⟨b, 0, none⟩), .agg #[.bool nx, .string sx]] W (RowE W L1 0)) := fun W h => by
   have := Split_any b ps nx sx hsx W h hsys
   rwa [splitF, ← HOK.out, if_pos rfl, ← hL1] at this
 have hscale : scaleF ps L1 t true = (L2, 0) := by
   unfold scaleF
   rw [if_pos rfl, if_neg (by rw [not_or, not_or]; exact ⟨by omega, by omega, ht'⟩), if_neg (by omega), hlen, ← htk, ← hJ, ← hD, hL2, hq, HPD.out]
 have HSC : Hid (∀ W v', SysAt W b ps → W.reads W.heap.size v' (L1.map u32V) → Calls Try.prog 15 #[.pointer (some ⟨b, 0, none⟩), v', .int .u32 (t : Int)] W (RowE W L2 0)) := fun W v' h hv' => by
   have := Scale_any b ps L1 v' t ht32 W h hsys hv' true htru
   rwa [hscale] at this
 have HSC1 : Hid (∀ W v', SysAt W b ps → W.reads W.heap.size v' (L1.map u32V) → Calls Try.prog 15 #[.pointer (some ⟨b, 0, none⟩), v', .int .u32 1] W (RowE W L3 0)) := fun W v' h hv' => by
   have := Scale_any b ps L1 v' 1 (by omega) W h hsys hv' true htru
   rwa [hone.2, ← hL3] at this
 have HDR : Hid (∀ W v', SysAt W b ps → W.reads W.heap.size v' (L1.map u32V) → Calls Try.prog 12 #[.pointer (some ⟨b, 0, none⟩), v'] W (DropE W L3 dd 0)) := fun W v' h hv' => by
   have := Drop_any b ps L1 v' W h hsys hv' true htru
   rwa [hone.1] at this
 have HN2 : Hid (∀ W, Below w.heap.size w W → Calls Try.prog 19 #[.slice (some ⟨bp, op, none⟩) n pc] W (NewRet W tk true)) := fun W hb => by
   have h1 := (HR.out.take n (by omega))
   rw [← List.map_take, ← htk] at h1
   exact New_any tk _ W ((h1.below hb).mono hb.size) (by intro x hx; rw [htk] at hx; exact HPB.out x (List.mem_of_mem_take hx)) true ⟨fun _ => hu, fun _ => rfl⟩
 have HJ : Hid (∀ W v', SysAt W b ps → W.reads W.heap.size v' (L1.map u32V) → Calls Try.prog 21 #[.pointer (some ⟨b, 0, none⟩), v'] W fun e w' => e = .returned (.tuple #[.agg #[.bool jb, .string jt], .int .i64 0]) ∧ Below W.heap.size W w') := fun W v' h hv' => by
   have := Join_any b ps L1 v' W h hsys hv' true htru
   rw [if_pos rfl, if_pos rfl] at this
   rw [hjb, hjt, hJ]; exact this
 have HJL : Hid (∀ c W v', SysAt W c tk → W.reads W.heap.size v' (L2.map u32V) → Calls Try.prog 21 #[.pointer (some ⟨c, 0, none⟩), v'] W fun e w' => e = .returned (.tuple #[.agg #[.bool vb, .string vt], .int .i64 0]) ∧ Below W.heap.size W w') := fun c W v' h hv' => by
   have := Join_any c tk L2 v' W h hu hv' true ⟨fun _ => by rw [hL2]; exact resL_row hu _, fun _ => rfl⟩
   rw [if_pos rfl, if_pos rfl] at this
   rw [hvb, hvt, hv]; exact this
 have HPRO : Hid (∀ c W, SysAt W c tk → Calls Try.prog 27 #[.pointer (some ⟨c, 0, none⟩)] W fun e w' => e = .returned (.agg #[.bool prb, .string prt]) ∧ Below W.heap.size W w') := fun c W h => by
   rw [hprb, hprt, hP]; exact Product_any c tk W h
 have HAJ : Hid (∀ W : World, Calls Try.prog 22 #[.agg #[.bool jb, .string jt]] W fun e w' => e = .returned (.tuple #[.agg #[.bool aab, .string aat], .int .i64 0]) ∧ Below W.heap.size W w') := fun W => by rw [hjb, hjt, haab, haat]; exact refAbs_z J iJ W
 have HOH : Hid (∀ W : World, Calls Try.prog 24 #[.int .i64 h] W fun e w' => e = .returned (.agg #[.bool hwb, .string hwt]) ∧ Below W.heap.size W w') := fun W => by rw [hhwb, hhwt]; exact refOf_z h (by omega) (by omega) W
 have HADD : Hid (∀ W : World, Calls Try.prog 23 #[.agg #[.bool aab, .string aat], .agg #[.bool hwb, .string hwt]] W fun e w' => e = .returned (.tuple #[.agg #[.bool mb, .string mt], .int .i64 0]) ∧ Below W.heap.size W w') := fun W => by rw [haab, haat, hhwb, hhwt, hmb, hmt, hM]; exact refAdd_z _ h iA iH (by rw [← hM]; exact iM) W
 have HOQ : Hid (∀ W : World, Calls Try.prog 24 #[.int .i64 (p : Int)] W fun e w' => e = .returned (.agg #[.bool qwb, .string qwt]) ∧ Below W.heap.size W w') := fun W => by rw [hqwb, hqwt, hq]; exact refOf_z _ (by omega) (by omega) W
 have HDIV : Hid (∀ W : World, Calls Try.prog 25 #[.agg #[.bool mb, .string mt], .agg #[.bool qwb, .string qwt]] W fun e w' => e = .returned (.tuple #[.agg #[.bool gb, .string gt], .agg #[.bool rmb, .string rmt], .int .i64 0]) ∧ Below W.heap.size W w') := fun W => by rw [hmb, hmt, hqwb, hqwt, hgb, hgt, hrmb, hrmt, hg]; exact refDiv_z M q iM iQ (by omega) W
 have HDBL : Hid (∀ W : World, Calls Try.prog 23 #[.agg #[.bool gb, .string gt], .agg #[.bool gb, .string gt]] W fun e w' => e = .returned (.tuple #[.agg #[.bool dbb, .string dbt], .int .i64 0]) ∧ Below W.heap.size W w') := fun W => by rw [hgb, hgt, hdbb, hdbt]; exact refAdd_z g g iG iG iGG W
 have HC1 : Hid (∀ W : World, Calls Try.prog 26 #[.agg #[.bool dbb, .string dbt], .agg #[.bool prb, .string prt]] W fun e w' => e = .returned (.tuple #[.int .i64 C1, .int .i64 0]) ∧ Below W.heap.size W w') := fun W => by rw [hdbb, hdbt, hprb, hprt, hC1]; exact refCmp_z _ P iGG iP W
 have HAV : Hid (∀ W : World, Calls Try.prog 22 #[.agg #[.bool vb, .string vt]] W fun e w' => e = .returned (.tuple #[.agg #[.bool fb, .string ft], .int .i64 0]) ∧ Below W.heap.size W w') := fun W => by rw [hvb, hvt, hfb, hft]; exact refAbs_z v iV W
 have HC2 : Hid (∀ W : World, Calls Try.prog 26 #[.agg #[.bool fb, .string ft], .agg #[.bool gb, .string gt]] W fun e w' => e = .returned (.tuple #[.int .i64 C2, .int .i64 0]) ∧ Below W.heap.size W w') := fun W => by rw [hfb, hft, hgb, hgt, hC2]; exact refCmp_z _ g iF iG W
 have HMUL : Hid (∀ W : World, Calls Try.prog 28 #[.agg #[.bool vb, .string vt], .agg #[.bool qwb, .string qwt]] W fun e w' => e = .returned (.tuple #[.agg #[.bool tmb, .string tmt], .int .i64 0]) ∧ Below W.heap.size W w') := fun W => by rw [hvb, hvt, hqwb, hqwt, htmb, htmt, hT]; exact refMul_z v q iV iQ (by rw [← hT]; exact iT) W
 have HSUB : Hid (∀ W : World, Calls Try.prog 29 #[.agg #[.bool jb, .string jt], .agg #[.bool tmb, .string tmt]] W fun e w' => e = .returned (.tuple #[.agg #[.bool db, .string dt], .int .i64 0]) ∧ Below W.heap.size W w') := fun W => by rw [hjb, hjt, htmb, htmt, hdb, hdt, hd]; exact refSub_z J T iJ iT (by rw [← hd]; exact iD) W
 have HOT : Hid (∀ W : World, Calls Try.prog 24 #[.int .i64 (t : Int)] W fun e w' => e = .returned (.agg #[.bool ttb, .string ttt]) ∧ Below W.heap.size W w') := fun W => by rw [httb, httt]; exact refOf_z _ (by omega) (by omega) W
 have HD2 : Hid (∀ W : World, Calls Try.prog 25 #[.agg #[.bool db, .string dt], .agg #[.bool ttb, .string ttt]] W fun e w' => e = .returned (.tuple #[.agg #[.bool dqb, .string dqt], .agg #[.bool drb, .string drt], .int .i64 0]) ∧ Below W.heap.size W w') := fun W => by rw [hdb, hdt, httb, httt, hdqb, hdqt, hdrb, hdrt]; exact refDiv_z d t iD iTT (by omega) W
 have HAD : Hid (∀ W : World, Calls Try.prog 22 #[.agg #[.bool db, .string dt]] W fun e w' => e = .returned (.tuple #[.agg #[.bool wdb, .string wdt], .int .i64 0]) ∧ Below W.heap.size W w') := fun W => by rw [hdb, hdt, hwdb, hwdt]; exact refAbs_z d iD W
 have HC3 : Hid (∀ W : World, Calls Try.prog 26 #[.agg #[.bool wdb, .string wdt], .agg #[.bool hwb, .string hwt]] W fun e w' => e = .returned (.tuple #[.int .i64 C3, .int .i64 0]) ∧ Below W.heap.size W w') := fun W => by rw [hwdb, hwdt, hhwb, hhwt, hC3]; exact refCmp_z _ h iW iH W
 have HDRT : Hid (d % (t : Int) = 0 → drt = ⟨#[]⟩) := fun hz => by rw [hdrt, hz]; exact zT_zero
 obtain ⟨p1, hp1⟩ : ∃ z, z = (p : Int) - 1 := ⟨_, rfl⟩
 obtain ⟨p2, hp2⟩ : ∃ z, z = p1 / 2 := ⟨_, rfl⟩
 have E1 : Hid (IntKind.i64.wrap ((p : Int) - 1) = p1) := by show _ = _; rw [hp1]; exact IntWalk.i64_in _ (by omega)
 have E2 : Hid (IntKind.i64.wrap (p1.tdiv 2) = p2) := by show _ = _; rw [Int.tdiv_eq_ediv_of_nonneg (by omega), ← hp2]; exact IntWalk.i64_in _ (by omega)
 have E3 : Hid (IntKind.i64.wrap ((t : Int) * p2) = h) := by show _ = _; rw [hp2, hp1, ← hq, ← hh]; exact IntWalk.i64_in _ (by omega)
 have E0 : Hid (IntKind.i64.wrap (t : Int) = (t : Int)) := IntWalk.i64_in _ (by omega)
 have hcl1 : ¬ C1 < 0 ∨ C1 < 0 := by omega
 clear hm3 hsys ht1 ht2 ht0 hzr hzn hzt hL1 hrow hlen h3l hu htk hJ hD hh hg hP hL2 hv ht' hplain hJa hPa hva hh0 hq3 hK hKb hin hM hg0 hgM hvq hT hC1 hC2 hd hC3 hcr hbr iJ iA iH iM iQ iG iGG iP iV iF iT iD iW iTT hL3 hdd hone htru hscale hp1 hp2 hcl1 hC1r hC2r hC3r hjb hjt hvb hvt haab haat hhwb hhwt hmb hmt hqwb hqwt hgb hgt hrmb hrmt hdbb hdbt hprb hprt hfb hft htmb htmt hdb hdt httb httt hdqb hdqt hdrb hdrt hwdb hwdt
 clear hq
 go_wp2_with fail
 (with_reducible refine (HN2.out _ B.out).mono ?_)
 rintro e v1 ⟨hb, he, hs⟩
 subst he
 obtain ⟨c, hc⟩ : ∃ b, b = w2.heap.size := ⟨_, rfl⟩
 rw [← hc] at hs ⊢
 replace B := bH B hb
 replace X := wH X hb
 replace S := sH S hb
 clear hb
 have U := Lib.hid hs
 clear hs hc cl
 obtain ⟨x0, x1, -⟩ := wide_cells X.out
 go_wp2_with fail
 (with_reducible refine (HSP.out _ S.out).mono ?_)
 rintro e v2 ⟨r, rfl, hr3, hb⟩
 clear x0 x1
 have R : Hid (v2.reads v2.heap.size r (L1.map u32V)) := hr3.reads
 obtain ⟨ra, rc, rfl, -⟩ := reads_u32 R.out
 have hlr := R.out.le_map
 obtain ⟨ln, hln⟩ : ∃ n, n = L1.length := ⟨_, rfl⟩
 rw [← hln] at R hlr ⊢
 clear hr3 hln
 replace B := bH B hb
 replace X := wH X hb
 replace S := sH S hb
 replace U := sH U hb
 clear hb
 go_wp2_with fail
 (with_reducible refine (HSC.out _ _ S.out R.out).mono ?_)
 rintro e v3 ⟨k, rfl, hk3, hb⟩
 have Q : Hid (v3.reads v3.heap.size k (L2.map u32V)) := hk3.reads
 obtain ⟨ka, kc, rfl, -⟩ := reads_u32 Q.out
 have hlk := Q.out.le_map
 obtain ⟨lk, hlk2⟩ : ∃ n, n = L2.length := ⟨_, rfl⟩
 rw [← hlk2] at Q hlk ⊢
 clear hk3 hlk2
 replace B := bH B hb
 replace X := wH X hb
 replace S := sH S hb
 replace U := sH U hb
 replace R := rH R hb
 clear hb
 go_wp2_with fail
 (with_reducible refine (HJL.out _ _ _ U.out Q.out).mono ?_)
 rintro e v4 ⟨rfl, hb⟩
 replace B := bH B hb
 replace X := wH X hb
 replace S := sH S hb
 replace U := sH U hb
 replace R := rH R hb
 replace Q := rH Q hb
 clear hb
 clear Q X
 go_upto_region 14 with (fail)
 have hb : Below v4.heap.size v4 (v4.alloc (.cells #[.bool vb, .string vt] 38)) := (Below.refl _ _).alloc (Nat.le_refl _) _
 have hg : (v4.alloc (.cells #[.bool vb, .string vt] 38)).heap[v4.heap.size]? = some (.cells #[.bool vb, .string vt] 38) := heap_alloc_new v4 _
 obtain ⟨pV, hp⟩ : ∃ p, p = v4.heap.size := ⟨_, rfl⟩
 rw [← hp] at hg ⊢
 generalize v4.alloc (.cells #[.bool vb, .string vt] 38) = v5 at hb hg ⊢
 replace B := bH B hb
 replace S := sH S hb
 replace U := sH U hb
 replace R := rH R hb
 clear hb
 have V := Lib.hid hg
 clear hg hp
 go_wp2_with fail
 (with_reducible refine (HJ.out _ _ S.out R.out).mono ?_)
 rintro e v6 ⟨rfl, hb⟩
 replace B := bH B hb
 replace S := sH S hb
 replace U := sH U hb
 replace R := rH R hb
 replace V := wH V hb
 clear hb
 go_upto_region 15 with (fail)
 have hb : Below v6.heap.size v6 (v6.alloc (.cells #[.bool jb, .string jt] 38)) := (Below.refl _ _).alloc (Nat.le_refl _) _
 have hg : (v6.alloc (.cells #[.bool jb, .string jt] 38)).heap[v6.heap.size]? = some (.cells #[.bool jb, .string jt] 38) := heap_alloc_new v6 _
 obtain ⟨pJ, hp⟩ : ∃ p, p = v6.heap.size := ⟨_, rfl⟩
 rw [← hp] at hg ⊢
 generalize v6.alloc (.cells #[.bool jb, .string jt] 38) = v7 at hb hg ⊢
 replace B := bH B hb
 replace S := sH S hb
 replace U := sH U hb
 replace R := rH R hb
 replace V := wH V hb
 clear hb
 have J := Lib.hid hg
 clear hg hp
 obtain ⟨x0, x1, -⟩ := wide_cells J.out
 go_wp2_with fail
 (with_reducible refine (HAJ.out _).mono ?_)
 rintro e v8 ⟨rfl, hb⟩
 clear x0 x1
 replace B := bH B hb
 replace S := sH S hb
 replace U := sH U hb
 replace R := rH R hb
 replace V := wH V hb
 replace J := wH J hb
 clear hb
 go_upto_region 18 with (fail)
 have hb : Below v8.heap.size v8 (v8.alloc (.cells #[.bool aab, .string aat] 38)) := (Below.refl _ _).alloc (Nat.le_refl _) _
 have hg : (v8.alloc (.cells #[.bool aab, .string aat] 38)).heap[v8.heap.size]? = some (.cells #[.bool aab, .string aat] 38) := heap_alloc_new v8 _
 obtain ⟨pA, hp⟩ : ∃ p, p = v8.heap.size := ⟨_, rfl⟩
 rw [← hp] at hg ⊢
 generalize v8.alloc (.cells #[.bool aab, .string aat] 38) = v9 at hb hg ⊢
 replace B := bH B hb
 replace S := sH S hb
 replace U := sH U hb
 replace R := rH R hb
 replace V := wH V hb
 replace J := wH J hb
 clear hb
 have A := Lib.hid hg
 clear hg hp
 have e10 := E0.out
 have e11 := E1.out
 have e12 := E2.out
 have e13 := E3.out
 have hS0 : ∀ W, Below v9.heap.size v9 W → W.cell? ⟨pA, 0, none⟩ = some (.bool aab) ∧ W.cell? ⟨pA, 1, none⟩ = some (.string aat) := fun W hb => by
   obtain ⟨a, b, -⟩ := wide_cells (wide_hold (w := v9) A.out hb)
   exact ⟨a, b⟩
 refine wp_region_AE 13 11 v9.heap.size (fun w' => w'.cell? ⟨pA, 0, none⟩ = some (.bool aab) ∧ w'.cell? ⟨pA, 1, none⟩ = some (.string aat)) (fun W => Below v9.heap.size v9 W) (fun j => decide (13 ≤ j)) (by kernel_rfl) rfl (by kernel_rfl) (fun _ _ _ _ h => h) (by kernel_rfl) (fact_below (Nat.le_refl _) hS0) ((Below.refl _ _).drew) (fun hF => ?_)
 refine wpAnyA_alloc 12 (.cells #[.bool false, .string ⟨#[]⟩] 38) (by kernel_rfl) rfl rfl (by kernel_rfl) (by kernel_rfl) (fun _ => rfl) (fun _ _ => rfl) (fun _ _ _ _ h => h) hF ?_
 refine wpAnyA_take 0 (v := ?_) (by kernel_rfl) rfl rfl (by kernel_rfl) (by kernel_rfl) (fun _ _ _ h => h) (Or.inl ⟨by rfl, ?_⟩) (by assumption) ?_
 rotate_left
 · (intro wq hSq; (try dsimp only at hSq); go_simp; try with_reducible rfl)
 try simp only [Act.put, List.setIfInBounds_toArray, List.set_cons_zero, List.set_cons_succ]
 refine wpAnyA_take 1 (v := ?_) (by kernel_rfl) rfl rfl (by kernel_rfl) (by kernel_rfl) (fun _ _ _ h => h) (Or.inl ⟨by rfl, ?_⟩) (by assumption) ?_
 rotate_left
 · (intro wq hSq; (try dsimp only at hSq); go_simp; try with_reducible rfl)
 try simp only [Act.put, List.setIfInBounds_toArray, List.set_cons_zero, List.set_cons_succ]
 refine wpAnyA_take 2 (v := ?_) (by kernel_rfl) rfl rfl (by kernel_rfl) (by kernel_rfl) (fun _ _ _ h => h) (Or.inl ⟨by rfl, ?_⟩) (by assumption) ?_
 rotate_left
 · (intro wq hSq; (try dsimp only at hSq); go_simp; try with_reducible rfl)
 try simp only [Act.put, List.setIfInBounds_toArray, List.set_cons_zero, List.set_cons_succ]
 refine wpAnyA_take 3 (v := ?_) (by kernel_rfl) rfl rfl (by kernel_rfl) (by kernel_rfl) (fun _ _ _ h => h) (Or.inl ⟨by rfl, ?_⟩) (by assumption) ?_
 rotate_left
 · (intro wq hSq; (try dsimp only at hSq); go_simp; try with_reducible rfl)
 try simp only [Act.put, List.setIfInBounds_toArray, List.set_cons_zero, List.set_cons_succ]
 refine wpAnyA_take 4 (v := ?_) (by kernel_rfl) rfl rfl (by kernel_rfl) (by kernel_rfl) (fun _ _ _ h => h) (Or.inl ⟨by rfl, ?_⟩) (by assumption) ?_
 rotate_left
 · (intro wq hSq; (try dsimp only at hSq); go_simp; try with_reducible rfl)
 try simp only [Act.put, List.setIfInBounds_toArray, List.set_cons_zero, List.set_cons_succ]
 refine wpAnyA_take 5 (v := ?_) (by kernel_rfl) rfl rfl (by kernel_rfl) (by kernel_rfl) (fun _ _ _ h => h) (Or.inl ⟨by rfl, ?_⟩) (by assumption) ?_
 rotate_left
 · (intro wq hSq; (try dsimp only at hSq); go_simp; try with_reducible rfl)
 try simp only [Act.put, List.setIfInBounds_toArray, List.set_cons_zero, List.set_cons_succ]
 refine wpAnyA_take 6 (v := ?_) (by kernel_rfl) rfl rfl (by kernel_rfl) (by kernel_rfl) (fun _ _ _ h => h) (Or.inl ⟨by rfl, ?_⟩) (by assumption) ?_
 rotate_left
 · (intro wq hSq; (try dsimp only at hSq); go_simp; try with_reducible rfl)
 try simp only [Act.put, List.setIfInBounds_toArray, List.set_cons_zero, List.set_cons_succ]
 refine wpAnyA_step 7 (by kernel_rfl) rfl rfl (fun wq (hFq : Below v9.heap.size v9 wq) K hK => ?_)
 go_simp
 (with_reducible refine (HOH.out _).mono ?_)
 rintro e v10 ⟨rfl, hbq⟩
 have hdv10 : Below v9.heap.size v9 v10 := below_via hFq hbq
 have hFv10 := fF hS0 hdv10
 refine hK.out _ _ hbq _ hFv10 (Below.refl _ _) ?_
 clear hK K hFq hbq
 try simp only [Act.put, List.setIfInBounds_toArray, List.set_cons_zero, List.set_cons_succ]
 refine wpAnyA_step 8 (by kernel_rfl) rfl rfl (fun wq (hFq : Below v10.heap.size v10 wq) K hK => ?_)
 go_simp
 (with_reducible refine (HADD.out _).mono ?_)
 rintro e v11 ⟨rfl, hbq⟩
 have hdv11 : Below v9.heap.size v9 v11 := below_via hdv10 (below_via hFq hbq)
 have hFv11 := fF hS0 hdv11
 refine hK.out _ _ hbq _ hFv11 (Below.refl _ _) ?_
 clear hK K hFq hbq
 try simp only [Act.put, List.setIfInBounds_toArray, List.set_cons_zero, List.set_cons_succ]
 refine wpAnyA_take 9 (v := ?_) (by kernel_rfl) rfl rfl (by kernel_rfl) (by kernel_rfl) (fun _ _ _ h => h) (Or.inl ⟨by rfl, ?_⟩) (by assumption) ?_
 rotate_left
 · (intro wq hSq; (try dsimp only at hSq); go_simp; try with_reducible rfl)
 try simp only [Act.put, List.setIfInBounds_toArray, List.set_cons_zero, List.set_cons_succ]
 refine wpAnyA_take 10 (v := ?_) (by kernel_rfl) rfl rfl (by kernel_rfl) (by kernel_rfl) (fun _ _ _ h => h) (Or.inl ⟨by rfl, ?_⟩) (by assumption) ?_
 rotate_left
 · (intro wq hSq; (try dsimp only at hSq); go_simp; try with_reducible rfl)
 try simp only [Act.put, List.setIfInBounds_toArray, List.set_cons_zero, List.set_cons_succ]
 refine wpAnyA_take 11 (v := ?_) (by kernel_rfl) rfl rfl (by kernel_rfl) (by kernel_rfl) (fun _ _ _ h => h) (Or.inl ⟨by rfl, ?_⟩) (by assumption) ?_
 rotate_left
 · (intro wq hSq; (try dsimp only at hSq); go_simp; try with_reducible rfl)
 try simp only [Act.put, List.setIfInBounds_toArray, List.set_cons_zero, List.set_cons_succ]
 refine wpAnyA_end (by kernel_rfl) (fun x0 (hFx : Below v11.heap.size v11 x0) => ?_)
 intro pM hq hq7
 have hd0 := below_via hdv11 hFx
 clear hFv11 hFv10 hF hS0 hdv11 hdv10 hFx
 refine wpAny_of_D (S := fun _ => True) (late := fun _ => true) _ _ _ _ ?_
 obtain ⟨e0, e1, ef⟩ := wide_cells hq7
 have ef0 := ef 0
 have ef1 := ef 1
 refine wpAnyD_step 13 (by kernel_rfl) rfl rfl (fun K hK => ?_)
 simp only [moreAfter]
 go_simp
 refine hK.out _ _ ?_
 clear hK K e0 e1 ef ef0 ef1
 try simp only [Act.put, List.setIfInBounds_toArray, List.set_cons_zero, List.set_cons_succ]
 have m0 := wide_set hq7 mb mt
 replace hd0 : Below v9.heap.size v9 ((x0.setCell ⟨pM, 0, none⟩ (.bool mb)).setCell ⟨pM, 1, none⟩ (.string mt)) := (hd0.setCell hq _).setCell hq _
 clear hq7
 generalize (x0.setCell ⟨pM, 0, none⟩ (.bool mb)).setCell ⟨pM, 1, none⟩ (.string mt) = v12 at m0 hd0 ⊢
 refine wpAnyD_step 14 (by kernel_rfl) rfl rfl (fun K hK => ?_)
 go_simp
 refine hK.out _ _ ?_
 clear hK K
 try simp only [Act.put, List.setIfInBounds_toArray, List.set_cons_zero, List.set_cons_succ]
 refine wpAnyD_end (by kernel_rfl) ?_
 replace B := bH B hd0
 replace S := sH S hd0
 replace U := sH U hd0
 replace R := rH R hd0
 replace V := wH V hd0
 replace J := wH J hd0
 replace A := wH A hd0
 clear hd0
 have M := Lib.hid m0
 clear m0 hq
 clear e10 e11 e12 e13
 go_upto_region 19 with (fail)
 clear A
 have hS0 : ∀ W, Below v12.heap.size v12 W → W.cell? ⟨pM, 0, none⟩ = some (.bool mb) ∧ W.cell? ⟨pM, 1, none⟩ = some (.string mt) := fun W hb => by
   obtain ⟨a, b, -⟩ := wide_cells (wide_hold (w := v12) M.out hb)
   exact ⟨a, b⟩
 refine wp_region_AE3 10 7 10 6 11 7 v12.heap.size (fun w' => w'.cell? ⟨pM, 0, none⟩ = some (.bool mb) ∧ w'.cell? ⟨pM, 1, none⟩ = some (.string mt)) (fun W => Below v12.heap.size v12 W) (fun j => decide (10 ≤ j)) (by kernel_rfl) rfl (by kernel_rfl) rfl (by kernel_rfl) rfl (by kernel_rfl) (by kernel_rfl) (by kernel_rfl) (fun _ _ _ _ h => h) (fun _ _ _ _ h => h) (fun _ _ _ _ h => h) (by kernel_rfl) (fact_below (Nat.le_refl _) hS0) ((Below.refl _ _).drew) (fun hF => ?_)
 refine wpAnyA_alloc2 8 9 (.cells #[.bool false, .string ⟨#[]⟩] 38) (.cells #[.bool false, .string ⟨#[]⟩] 38) (by kernel_rfl) (by kernel_rfl) (by decide) rfl rfl rfl rfl (by kernel_rfl) (by kernel_rfl) (by kernel_rfl) (by kernel_rfl) (by kernel_rfl) (fun _ => rfl) (fun _ => rfl) (fun _ _ => rfl) (fun _ _ => rfl) (fun _ _ _ _ h => h) (fun _ _ _ _ h => h) hF ?_
 refine wpAnyA_take 0 (v := ?_) (by kernel_rfl) rfl rfl (by kernel_rfl) (by kernel_rfl) (fun _ _ _ h => h) (Or.inl ⟨by rfl, ?_⟩) (by assumption) ?_
 rotate_left
 · (intro wq hSq; (try dsimp only at hSq); go_simp; try with_reducible rfl)
 try simp only [Act.put, List.setIfInBounds_toArray, List.set_cons_zero, List.set_cons_succ]
 refine wpAnyA_take 1 (v := ?_) (by kernel_rfl) rfl rfl (by kernel_rfl) (by kernel_rfl) (fun _ _ _ h => h) (Or.inl ⟨by rfl, ?_⟩) (by assumption) ?_
 rotate_left
 · (intro wq hSq; (try dsimp only at hSq); go_simp; try with_reducible rfl)
 try simp only [Act.put, List.setIfInBounds_toArray, List.set_cons_zero, List.set_cons_succ]
 refine wpAnyA_step 2 (by kernel_rfl) rfl rfl (fun wq (hFq : Below v12.heap.size v12 wq) K hK => ?_)
 go_simp
 (with_reducible refine (HOQ.out _).mono ?_)
 rintro e v13 ⟨rfl, hbq⟩
 have hdv13 : Below v12.heap.size v12 v13 := below_via hFq hbq
 have hFv13 := fF hS0 hdv13
 refine hK.out _ _ hbq _ hFv13 (Below.refl _ _) ?_
 clear hK K hFq hbq
 try simp only [Act.put, List.setIfInBounds_toArray, List.set_cons_zero, List.set_cons_succ]
 refine wpAnyA_step 3 (by kernel_rfl) rfl rfl (fun wq (hFq : Below v13.heap.size v13 wq) K hK => ?_)
 go_simp
 (with_reducible refine (HDIV.out _).mono ?_)
 rintro e v14 ⟨rfl, hbq⟩
 have hdv14 : Below v12.heap.size v12 v14 := below_via hdv13 (below_via hFq hbq)
 have hFv14 := fF hS0 hdv14
 refine hK.out _ _ hbq _ hFv14 (Below.refl _ _) ?_
 clear hK K hFq hbq
 try simp only [Act.put, List.setIfInBounds_toArray, List.set_cons_zero, List.set_cons_succ]
 refine wpAnyA_take 4 (v := ?_) (by kernel_rfl) rfl rfl (by kernel_rfl) (by kernel_rfl) (fun _ _ _ h => h) (Or.inl ⟨by rfl, ?_⟩) (by assumption) ?_
 rotate_left
 · (intro wq hSq; (try dsimp only at hSq); go_simp; try with_reducible rfl)
 try simp only [Act.put, List.setIfInBounds_toArray, List.set_cons_zero, List.set_cons_succ]
 refine wpAnyA_take 5 (v := ?_) (by kernel_rfl) rfl rfl (by kernel_rfl) (by kernel_rfl) (fun _ _ _ h => h) (Or.inl ⟨by rfl, ?_⟩) (by assumption) ?_
 rotate_left
 · (intro wq hSq; (try dsimp only at hSq); go_simp; try with_reducible rfl)
 try simp only [Act.put, List.setIfInBounds_toArray, List.set_cons_zero, List.set_cons_succ]
 refine wpAnyA_take 6 (v := ?_) (by kernel_rfl) rfl rfl (by kernel_rfl) (by kernel_rfl) (fun _ _ _ h => h) (Or.inl ⟨by rfl, ?_⟩) (by assumption) ?_
 rotate_left
 · (intro wq hSq; (try dsimp only at hSq); go_simp; try with_reducible rfl)
 try simp only [Act.put, List.setIfInBounds_toArray, List.set_cons_zero, List.set_cons_succ]
 refine wpAnyA_take 7 (v := ?_) (by kernel_rfl) rfl rfl (by kernel_rfl) (by kernel_rfl) (fun _ _ _ h => h) (Or.inl ⟨by rfl, ?_⟩) (by assumption) ?_
 rotate_left
 · (intro wq hSq; (try dsimp only at hSq); go_simp; try with_reducible rfl)
 try simp only [Act.put, List.setIfInBounds_toArray, List.set_cons_zero, List.set_cons_succ]
 refine wpAnyA_end (by kernel_rfl) (fun x0 (hFx : Below v14.heap.size v14 x0) => ?_)
 intro pG pRM hq hqb hne hq7 hq8
 have hd0 := below_via hdv14 hFx
 clear hFv14 hFv13 hF hS0 hdv14 hdv13 hFx
 refine wpAny_of_D (S := fun _ => True) (late := fun _ => true) _ _ _ _ ?_
 obtain ⟨e0, e1, ef⟩ := wide_cells hq7
 have ef0 := ef 0
 have ef1 := ef 1
 refine wpAnyD_step 10 (by kernel_rfl) rfl rfl (fun K hK => ?_)
 simp only [moreAfter]
 go_simp
 refine hK.out _ _ ?_
 clear hK K e0 e1 ef ef0 ef1
 try simp only [Act.put, List.setIfInBounds_toArray, List.set_cons_zero, List.set_cons_succ]
 have m0 := wide_set hq7 gb gt
 replace hq8 := (two_other (W := x0) (p := pG) (.bool gb) (.string gt) pRM (Ne.symm hne)).trans hq8
 replace hd0 : Below v12.heap.size v12 ((x0.setCell ⟨pG, 0, none⟩ (.bool gb)).setCell ⟨pG, 1, none⟩ (.string gt)) := (hd0.setCell hq _).setCell hq _
 clear hq7
 generalize (x0.setCell ⟨pG, 0, none⟩ (.bool gb)).setCell ⟨pG, 1, none⟩ (.string gt) = x1 at m0 hq8 hd0 ⊢
 obtain ⟨e0, e1, ef⟩ := wide_cells hq8
 have ef0 := ef 0
 have ef1 := ef 1
 refine wpAnyD_step 11 (by kernel_rfl) rfl rfl (fun K hK => ?_)
 simp only [moreAfter]
 go_simp
 refine hK.out _ _ ?_
 clear hK K e0 e1 ef ef0 ef1
 try simp only [Act.put, List.setIfInBounds_toArray, List.set_cons_zero, List.set_cons_succ]
 have m1 := wide_set hq8 rmb rmt
 replace m0 := (two_other (W := x1) (p := pRM) (.bool rmb) (.string rmt) pG hne).trans m0
 replace hd0 : Below v12.heap.size v12 ((x1.setCell ⟨pRM, 0, none⟩ (.bool rmb)).setCell ⟨pRM, 1, none⟩ (.string rmt)) := (hd0.setCell hqb _).setCell hqb _
 clear hq8
 generalize (x1.setCell ⟨pRM, 0, none⟩ (.bool rmb)).setCell ⟨pRM, 1, none⟩ (.string rmt) = v15 at m0 m1 hd0 ⊢
 refine wpAnyD_step 12 (by kernel_rfl) rfl rfl (fun K hK => ?_)
 go_simp
 refine hK.out _ _ ?_
 clear hK K
 try simp only [Act.put, List.setIfInBounds_toArray, List.set_cons_zero, List.set_cons_succ]
 refine wpAnyD_end (by kernel_rfl) ?_
 replace B := bH B hd0
 replace S := sH S hd0
 replace U := sH U hd0
 replace R := rH R hd0
 replace V := wH V hd0
 replace J := wH J hd0
 replace M := wH M hd0
 clear hd0
 have G := Lib.hid m0
 have RM := Lib.hid m1
 clear m0 m1 hq hqb hne
 clear M RM
 obtain ⟨x0, x1, -⟩ := wide_cells G.out
 go_wp2_with fail
 (with_reducible refine (HDBL.out _).mono ?_)
 rintro e v16 ⟨rfl, hb⟩
 clear x0 x1
 replace B := bH B hb
 replace S := sH S hb
 replace U := sH U hb
 replace R := rH R hb
 replace V := wH V hb
 replace J := wH J hb
 replace G := wH G hb
 clear hb
 go_upto_region 21 with (fail)
 have hb : Below v16.heap.size v16 (v16.alloc (.cells #[.bool dbb, .string dbt] 38)) := (Below.refl _ _).alloc (Nat.le_refl _) _
 have hg : (v16.alloc (.cells #[.bool dbb, .string dbt] 38)).heap[v16.heap.size]? = some (.cells #[.bool dbb, .string dbt] 38) := heap_alloc_new v16 _
 obtain ⟨pDB, hp⟩ : ∃ p, p = v16.heap.size := ⟨_, rfl⟩
 rw [← hp] at hg ⊢
 generalize v16.alloc (.cells #[.bool dbb, .string dbt] 38) = v17 at hb hg ⊢
 replace B := bH B hb
 replace S := sH S hb
 replace U := sH U hb
 replace R := rH R hb
 replace V := wH V hb
 replace J := wH J hb
 replace G := wH G hb
 clear hb
 have DB := Lib.hid hg
 clear hg hp
 obtain ⟨c0, c1, -⟩ := wide_cells DB.out
 go_region_held3 (fun w' => w'.cell? ⟨pDB, 0, none⟩ = some (.bool dbb) ∧ w'.cell? ⟨pDB, 1, none⟩ = some (.string dbt))
   (first | exact ⟨c0, c1⟩ | (refine ⟨?_, ?_⟩ <;> assumption))
   (first
     | (go_simp; go_at_call 27; refine (HPRO.out _ _ (SysAt.drew U.out)).mono ?_; rintro e v18 ⟨rfl, hb⟩; replace hb : Below v17.heap.size v17 v18 := below_viaD (Below.refl _ _) hb; replace B := bH B hb; replace S := sH S hb; replace U := sH U hb; replace R := rH R hb; replace V := wH V hb; replace J := wH J hb; replace G := wH G hb; replace DB := wH DB hb; clear hb; replace c0 := (wide_cells DB.out).1; replace c1 := (wide_cells DB.out).2.1)
     | (go_simp; go_at_call 26; refine (HC1.out _).mono ?_; rintro e v19 ⟨rfl, hb⟩; replace B := bH B hb; replace S := sH S hb; replace U := sH U hb; replace R := rH R hb; replace V := wH V hb; replace J := wH J hb; replace G := wH G hb; replace DB := wH DB hb; clear hb; replace c0 := (wide_cells DB.out).1; replace c1 := (wide_cells DB.out).2.1))
 clear c0 c1
 clear DB U
 by_cases hc1 : 0 ≤ C1
 · go_wp2_with fail
   (with_reducible refine (HSH.out _).mono ?_)
   rintro e wz ⟨rfl, hbz⟩
   go_wp2
   go_ret
   exact ⟨rfl, below_via B.out hbz⟩
 obtain ⟨hc2, hc3, hz0⟩ := HBR.out (by omega)
 have HDR0 := Lib.hid (HDRT.out hz0)
 clear hz0
 obtain ⟨x0, x1, -⟩ := wide_cells V.out
 go_wp2_with fail
 (with_reducible refine (HAV.out _).mono ?_)
 rintro e v20 ⟨rfl, hb⟩
 clear x0 x1 hc1
 replace B := bH B hb
 replace S := sH S hb
 replace R := rH R hb
 replace V := wH V hb
 replace J := wH J hb
 replace G := wH G hb
 clear hb
 go_upto_region 25 with (fail)
 have hb : Below v20.heap.size v20 (v20.alloc (.cells #[.bool fb, .string ft] 38)) := (Below.refl _ _).alloc (Nat.le_refl _) _
 have hg : (v20.alloc (.cells #[.bool fb, .string ft] 38)).heap[v20.heap.size]? = some (.cells #[.bool fb, .string ft] 38) := heap_alloc_new v20 _
 obtain ⟨pF, hp⟩ : ∃ p, p = v20.heap.size := ⟨_, rfl⟩
 rw [← hp] at hg ⊢
 generalize v20.alloc (.cells #[.bool fb, .string ft] 38) = v21 at hb hg ⊢
 replace B := bH B hb
 replace S := sH S hb
 replace R := rH R hb
 replace V := wH V hb
 replace J := wH J hb
 replace G := wH G hb
 clear hb
 have F := Lib.hid hg
 clear hg hp
 obtain ⟨x0, x1, -⟩ := wide_cells F.out
 obtain ⟨y0, y1, -⟩ := wide_cells G.out
 go_wp2_with fail
 (with_reducible refine (HC2.out _).mono ?_)
 rintro e v22 ⟨rfl, hb⟩
 clear x0 x1 y0 y1
 replace B := bH B hb
 replace S := sH S hb
 replace R := rH R hb
 replace V := wH V hb
 replace J := wH J hb
 replace G := wH G hb
 replace F := wH F hb
 clear hb
 go_upto_region 26 with (fail)
 clear F G
 have hS0 : ∀ W, Below v22.heap.size v22 W → W.cell? ⟨pV, 0, none⟩ = some (.bool vb) ∧ W.cell? ⟨pV, 1, none⟩ = some (.string vt) := fun W hb => by
   obtain ⟨a, b, -⟩ := wide_cells (wide_hold (w := v22) V.out hb)
   exact ⟨a, b⟩
 refine wp_region_AE 8 6 v22.heap.size (fun w' => w'.cell? ⟨pV, 0, none⟩ = some (.bool vb) ∧ w'.cell? ⟨pV, 1, none⟩ = some (.string vt)) (fun W => Below v22.heap.size v22 W) (fun j => decide (8 ≤ j)) (by kernel_rfl) rfl (by kernel_rfl) (fun _ _ _ _ h => h) (by kernel_rfl) (fact_below (Nat.le_refl _) hS0) ((Below.refl _ _).drew) (fun hF => ?_)
 refine wpAnyA_alloc 7 (.cells #[.bool false, .string ⟨#[]⟩] 38) (by kernel_rfl) rfl rfl (by kernel_rfl) (by kernel_rfl) (fun _ => rfl) (fun _ _ => rfl) (fun _ _ _ _ h => h) hF ?_
 refine wpAnyA_take 0 (v := ?_) (by kernel_rfl) rfl rfl (by kernel_rfl) (by kernel_rfl) (fun _ _ _ h => h) (Or.inl ⟨by rfl, ?_⟩) (by assumption) ?_
 rotate_left
 · (intro wq hSq; (try dsimp only at hSq); go_simp; try with_reducible rfl)
 try simp only [Act.put, List.setIfInBounds_toArray, List.set_cons_zero, List.set_cons_succ]
 refine wpAnyA_take 1 (v := ?_) (by kernel_rfl) rfl rfl (by kernel_rfl) (by kernel_rfl) (fun _ _ _ h => h) (Or.inl ⟨by rfl, ?_⟩) (by assumption) ?_
 rotate_left
 · (intro wq hSq; (try dsimp only at hSq); go_simp; try with_reducible rfl)
 try simp only [Act.put, List.setIfInBounds_toArray, List.set_cons_zero, List.set_cons_succ]
 refine wpAnyA_step 2 (by kernel_rfl) rfl rfl (fun wq (hFq : Below v22.heap.size v22 wq) K hK => ?_)
 go_simp
 (with_reducible refine (HOQ.out _).mono ?_)
 rintro e v23 ⟨rfl, hbq⟩
 have hdv23 : Below v22.heap.size v22 v23 := below_via hFq hbq
 have hFv23 := fF hS0 hdv23
 refine hK.out _ _ hbq _ hFv23 (Below.refl _ _) ?_
 clear hK K hFq hbq
 try simp only [Act.put, List.setIfInBounds_toArray, List.set_cons_zero, List.set_cons_succ]
 refine wpAnyA_step 3 (by kernel_rfl) rfl rfl (fun wq (hFq : Below v23.heap.size v23 wq) K hK => ?_)
 go_simp
 (with_reducible refine (HMUL.out _).mono ?_)
 rintro e v24 ⟨rfl, hbq⟩
 have hdv24 : Below v22.heap.size v22 v24 := below_via hdv23 (below_via hFq hbq)
 have hFv24 := fF hS0 hdv24
 refine hK.out _ _ hbq _ hFv24 (Below.refl _ _) ?_
 clear hK K hFq hbq
 try simp only [Act.put, List.setIfInBounds_toArray, List.set_cons_zero, List.set_cons_succ]
 refine wpAnyA_take 4 (v := ?_) (by kernel_rfl) rfl rfl (by kernel_rfl) (by kernel_rfl) (fun _ _ _ h => h) (Or.inl ⟨by rfl, ?_⟩) (by assumption) ?_
 rotate_left
 · (intro wq hSq; (try dsimp only at hSq); go_simp; try with_reducible rfl)
 try simp only [Act.put, List.setIfInBounds_toArray, List.set_cons_zero, List.set_cons_succ]
 refine wpAnyA_take 5 (v := ?_) (by kernel_rfl) rfl rfl (by kernel_rfl) (by kernel_rfl) (fun _ _ _ h => h) (Or.inl ⟨by rfl, ?_⟩) (by assumption) ?_
 rotate_left
 · (intro wq hSq; (try dsimp only at hSq); go_simp; try with_reducible rfl)
 try simp only [Act.put, List.setIfInBounds_toArray, List.set_cons_zero, List.set_cons_succ]
 refine wpAnyA_take 6 (v := ?_) (by kernel_rfl) rfl rfl (by kernel_rfl) (by kernel_rfl) (fun _ _ _ h => h) (Or.inl ⟨by rfl, ?_⟩) (by assumption) ?_
 rotate_left
 · (intro wq hSq; (try dsimp only at hSq); go_simp; try with_reducible rfl)
 try simp only [Act.put, List.setIfInBounds_toArray, List.set_cons_zero, List.set_cons_succ]
 refine wpAnyA_end (by kernel_rfl) (fun x0 (hFx : Below v24.heap.size v24 x0) => ?_)
 intro pTM hq hq7
 have hd0 := below_via hdv24 hFx
 clear hFv24 hFv23 hF hS0 hdv24 hdv23 hFx
 refine wpAny_of_D (S := fun _ => True) (late := fun _ => true) _ _ _ _ ?_
 obtain ⟨e0, e1, ef⟩ := wide_cells hq7
 have ef0 := ef 0
 have ef1 := ef 1
 refine wpAnyD_step 8 (by kernel_rfl) rfl rfl (fun K hK => ?_)
 simp only [moreAfter]
 go_simp
 refine hK.out _ _ ?_
 clear hK K e0 e1 ef ef0 ef1
 try simp only [Act.put, List.setIfInBounds_toArray, List.set_cons_zero, List.set_cons_succ]
 have m0 := wide_set hq7 tmb tmt
 replace hd0 : Below v22.heap.size v22 ((x0.setCell ⟨pTM, 0, none⟩ (.bool tmb)).setCell ⟨pTM, 1, none⟩ (.string tmt)) := (hd0.setCell hq _).setCell hq _
 clear hq7
 generalize (x0.setCell ⟨pTM, 0, none⟩ (.bool tmb)).setCell ⟨pTM, 1, none⟩ (.string tmt) = v25 at m0 hd0 ⊢
 refine wpAnyD_step 9 (by kernel_rfl) rfl rfl (fun K hK => ?_)
 go_simp
 refine hK.out _ _ ?_
 clear hK K
 try simp only [Act.put, List.setIfInBounds_toArray, List.set_cons_zero, List.set_cons_succ]
 refine wpAnyD_end (by kernel_rfl) ?_
 replace B := bH B hd0
 replace S := sH S hd0
 replace R := rH R hd0
 replace V := wH V hd0
 replace J := wH J hd0
 clear hd0
 have TM := Lib.hid m0
 clear m0 hq
 clear V
 obtain ⟨x0, x1, -⟩ := wide_cells J.out
 obtain ⟨y0, y1, -⟩ := wide_cells TM.out
 go_wp2_with fail
 (with_reducible refine (HSUB.out _).mono ?_)
 rintro e v26 ⟨rfl, hb⟩
 clear x0 x1 y0 y1
 replace B := bH B hb
 replace S := sH S hb
 replace R := rH R hb
 replace J := wH J hb
 replace TM := wH TM hb
 clear hb
 go_upto_region 28 with (fail)
 have hb : Below v26.heap.size v26 (v26.alloc (.cells #[.bool db, .string dt] 38)) := (Below.refl _ _).alloc (Nat.le_refl _) _
 have hg : (v26.alloc (.cells #[.bool db, .string dt] 38)).heap[v26.heap.size]? = some (.cells #[.bool db, .string dt] 38) := heap_alloc_new v26 _
 obtain ⟨pDD, hp⟩ : ∃ p, p = v26.heap.size := ⟨_, rfl⟩
 rw [← hp] at hg ⊢
 generalize v26.alloc (.cells #[.bool db, .string dt] 38) = v27 at hb hg ⊢
 replace B := bH B hb
 replace S := sH S hb
 replace R := rH R hb
 replace J := wH J hb
 replace TM := wH TM hb
 clear hb
 have DD := Lib.hid hg
 clear hg hp
 clear J TM
 have e10 := E0.out
 have hS0 : ∀ W, Below v27.heap.size v27 W → W.cell? ⟨pDD, 0, none⟩ = some (.bool db) ∧ W.cell? ⟨pDD, 1, none⟩ = some (.string dt) := fun W hb => by
   obtain ⟨a, b, -⟩ := wide_cells (wide_hold (w := v27) DD.out hb)
   exact ⟨a, b⟩
 refine wp_region_AE3 11 8 11 7 12 8 v27.heap.size (fun w' => w'.cell? ⟨pDD, 0, none⟩ = some (.bool db) ∧ w'.cell? ⟨pDD, 1, none⟩ = some (.string dt)) (fun W => Below v27.heap.size v27 W) (fun j => decide (11 ≤ j)) (by kernel_rfl) rfl (by kernel_rfl) rfl (by kernel_rfl) rfl (by kernel_rfl) (by kernel_rfl) (by kernel_rfl) (fun _ _ _ _ h => h) (fun _ _ _ _ h => h) (fun _ _ _ _ h => h) (by kernel_rfl) (fact_below (Nat.le_refl _) hS0) ((Below.refl _ _).drew) (fun hF => ?_)
 refine wpAnyA_alloc2 9 10 (.cells #[.bool false, .string ⟨#[]⟩] 38) (.cells #[.bool false, .string ⟨#[]⟩] 38) (by kernel_rfl) (by kernel_rfl) (by decide) rfl rfl rfl rfl (by kernel_rfl) (by kernel_rfl) (by kernel_rfl) (by kernel_rfl) (by kernel_rfl) (fun _ => rfl) (fun _ => rfl) (fun _ _ => rfl) (fun _ _ => rfl) (fun _ _ _ _ h => h) (fun _ _ _ _ h => h) hF ?_
 refine wpAnyA_take 0 (v := ?_) (by kernel_rfl) rfl rfl (by kernel_rfl) (by kernel_rfl) (fun _ _ _ h => h) (Or.inl ⟨by rfl, ?_⟩) (by assumption) ?_
 rotate_left
 · (intro wq hSq; (try dsimp only at hSq); go_simp; try with_reducible rfl)
 try simp only [Act.put, List.setIfInBounds_toArray, List.set_cons_zero, List.set_cons_succ]
 refine wpAnyA_take 1 (v := ?_) (by kernel_rfl) rfl rfl (by kernel_rfl) (by kernel_rfl) (fun _ _ _ h => h) (Or.inl ⟨by rfl, ?_⟩) (by assumption) ?_
 rotate_left
 · (intro wq hSq; (try dsimp only at hSq); go_simp; try with_reducible rfl)
 try simp only [Act.put, List.setIfInBounds_toArray, List.set_cons_zero, List.set_cons_succ]
 refine wpAnyA_take 2 (v := ?_) (by kernel_rfl) rfl rfl (by kernel_rfl) (by kernel_rfl) (fun _ _ _ h => h) (Or.inl ⟨by rfl, ?_⟩) (by assumption) ?_
 rotate_left
 · (intro wq hSq; (try dsimp only at hSq); go_simp; try with_reducible rfl)
 try simp only [Act.put, List.setIfInBounds_toArray, List.set_cons_zero, List.set_cons_succ]
 refine wpAnyA_step 3 (by kernel_rfl) rfl rfl (fun wq (hFq : Below v27.heap.size v27 wq) K hK => ?_)
 go_simp
 (with_reducible refine (HOT.out _).mono ?_)
 rintro e v28 ⟨rfl, hbq⟩
 have hdv28 : Below v27.heap.size v27 v28 := below_via hFq hbq
 have hFv28 := fF hS0 hdv28
 refine hK.out _ _ hbq _ hFv28 (Below.refl _ _) ?_
 clear hK K hFq hbq
 try simp only [Act.put, List.setIfInBounds_toArray, List.set_cons_zero, List.set_cons_succ]
 refine wpAnyA_step 4 (by kernel_rfl) rfl rfl (fun wq (hFq : Below v28.heap.size v28 wq) K hK => ?_)
 go_simp
 (with_reducible refine (HD2.out _).mono ?_)
 rintro e v29 ⟨rfl, hbq⟩
 have hdv29 : Below v27.heap.size v27 v29 := below_via hdv28 (below_via hFq hbq)
 have hFv29 := fF hS0 hdv29
 refine hK.out _ _ hbq _ hFv29 (Below.refl _ _) ?_
 clear hK K hFq hbq
 try simp only [Act.put, List.setIfInBounds_toArray, List.set_cons_zero, List.set_cons_succ]
 refine wpAnyA_take 5 (v := ?_) (by kernel_rfl) rfl rfl (by kernel_rfl) (by kernel_rfl) (fun _ _ _ h => h) (Or.inl ⟨by rfl, ?_⟩) (by assumption) ?_
 rotate_left
 · (intro wq hSq; (try dsimp only at hSq); go_simp; try with_reducible rfl)
 try simp only [Act.put, List.setIfInBounds_toArray, List.set_cons_zero, List.set_cons_succ]
 refine wpAnyA_take 6 (v := ?_) (by kernel_rfl) rfl rfl (by kernel_rfl) (by kernel_rfl) (fun _ _ _ h => h) (Or.inl ⟨by rfl, ?_⟩) (by assumption) ?_
 rotate_left
 · (intro wq hSq; (try dsimp only at hSq); go_simp; try with_reducible rfl)
 try simp only [Act.put, List.setIfInBounds_toArray, List.set_cons_zero, List.set_cons_succ]
 refine wpAnyA_take 7 (v := ?_) (by kernel_rfl) rfl rfl (by kernel_rfl) (by kernel_rfl) (fun _ _ _ h => h) (Or.inl ⟨by rfl, ?_⟩) (by assumption) ?_
 rotate_left
 · (intro wq hSq; (try dsimp only at hSq); go_simp; try with_reducible rfl)
 try simp only [Act.put, List.setIfInBounds_toArray, List.set_cons_zero, List.set_cons_succ]
 refine wpAnyA_take 8 (v := ?_) (by kernel_rfl) rfl rfl (by kernel_rfl) (by kernel_rfl) (fun _ _ _ h => h) (Or.inl ⟨by rfl, ?_⟩) (by assumption) ?_
 rotate_left
 · (intro wq hSq; (try dsimp only at hSq); go_simp; try with_reducible rfl)
 try simp only [Act.put, List.setIfInBounds_toArray, List.set_cons_zero, List.set_cons_succ]
 refine wpAnyA_end (by kernel_rfl) (fun x0 (hFx : Below v29.heap.size v29 x0) => ?_)
 intro pDQ pDR hq hqb hne hq7 hq8
 have hd0 := below_via hdv29 hFx
 clear hFv29 hFv28 hF hS0 hdv29 hdv28 hFx
 refine wpAny_of_D (S := fun _ => True) (late := fun _ => true) _ _ _ _ ?_
 obtain ⟨e0, e1, ef⟩ := wide_cells hq7
 have ef0 := ef 0
 have ef1 := ef 1
 refine wpAnyD_step 11 (by kernel_rfl) rfl rfl (fun K hK => ?_)
 simp only [moreAfter]
 go_simp
 refine hK.out _ _ ?_
 clear hK K e0 e1 ef ef0 ef1
 try simp only [Act.put, List.setIfInBounds_toArray, List.set_cons_zero, List.set_cons_succ]
 have m0 := wide_set hq7 dqb dqt
 replace hq8 := (two_other (W := x0) (p := pDQ) (.bool dqb) (.string dqt) pDR (Ne.symm hne)).trans hq8
 replace hd0 : Below v27.heap.size v27 ((x0.setCell ⟨pDQ, 0, none⟩ (.bool dqb)).setCell ⟨pDQ, 1, none⟩ (.string dqt)) := (hd0.setCell hq _).setCell hq _
 clear hq7
 generalize (x0.setCell ⟨pDQ, 0, none⟩ (.bool dqb)).setCell ⟨pDQ, 1, none⟩ (.string dqt) = x1 at m0 hq8 hd0 ⊢
 obtain ⟨e0, e1, ef⟩ := wide_cells hq8
 have ef0 := ef 0
 have ef1 := ef 1
 refine wpAnyD_step 12 (by kernel_rfl) rfl rfl (fun K hK => ?_)
 simp only [moreAfter]
 go_simp
 refine hK.out _ _ ?_
 clear hK K e0 e1 ef ef0 ef1
 try simp only [Act.put, List.setIfInBounds_toArray, List.set_cons_zero, List.set_cons_succ]
 have m1 := wide_set hq8 drb drt
 replace m0 := (two_other (W := x1) (p := pDR) (.bool drb) (.string drt) pDQ hne).trans m0
 replace hd0 : Below v27.heap.size v27 ((x1.setCell ⟨pDR, 0, none⟩ (.bool drb)).setCell ⟨pDR, 1, none⟩ (.string drt)) := (hd0.setCell hqb _).setCell hqb _
 clear hq8
 generalize (x1.setCell ⟨pDR, 0, none⟩ (.bool drb)).setCell ⟨pDR, 1, none⟩ (.string drt) = v30 at m0 m1 hd0 ⊢
 refine wpAnyD_step 13 (by kernel_rfl) rfl rfl (fun K hK => ?_)
 go_simp
 refine hK.out _ _ ?_
 clear hK K
 try simp only [Act.put, List.setIfInBounds_toArray, List.set_cons_zero, List.set_cons_succ]
 refine wpAnyD_end (by kernel_rfl) ?_
 replace B := bH B hd0
 replace S := sH S hd0
 replace R := rH R hd0
 replace DD := wH DD hd0
 clear hd0
 have DQ := Lib.hid m0
 have DR := Lib.hid m1
 clear m0 m1 hq hqb hne
 clear e10
 obtain ⟨x0, x1, -⟩ := wide_cells DD.out
 go_wp2_with fail
 (with_reducible refine (HAD.out _).mono ?_)
 rintro e v31 ⟨rfl, hb⟩
 clear x0 x1
 replace B := bH B hb
 replace S := sH S hb
 replace R := rH R hb
 replace DD := wH DD hb
 replace DQ := wH DQ hb
 replace DR := wH DR hb
 clear hb
 go_upto_region 30 with (fail)
 have hb : Below v31.heap.size v31 (v31.alloc (.cells #[.bool wdb, .string wdt] 38)) := (Below.refl _ _).alloc (Nat.le_refl _) _
 have hg : (v31.alloc (.cells #[.bool wdb, .string wdt] 38)).heap[v31.heap.size]? = some (.cells #[.bool wdb, .string wdt] 38) := heap_alloc_new v31 _
 obtain ⟨pWD, hp⟩ : ∃ p, p = v31.heap.size := ⟨_, rfl⟩
 rw [← hp] at hg ⊢
 generalize v31.alloc (.cells #[.bool wdb, .string wdt] 38) = v32 at hb hg ⊢
 replace B := bH B hb
 replace S := sH S hb
 replace R := rH R hb
 replace DD := wH DD hb
 replace DQ := wH DQ hb
 replace DR := wH DR hb
 clear hb
 have WD := Lib.hid hg
 clear hg hp
 clear DD DQ
 obtain ⟨c0, c1, -⟩ := wide_cells WD.out
 have e10 := E0.out
 have e11 := E1.out
 have e12 := E2.out
 have e13 := E3.out
 go_region_held3 (fun w' => w'.cell? ⟨pWD, 0, none⟩ = some (.bool wdb) ∧ w'.cell? ⟨pWD, 1, none⟩ = some (.string wdt))
   (first | exact ⟨c0, c1⟩ | (refine ⟨?_, ?_⟩ <;> assumption))
   (first
     | (go_simp; go_at_call 24; refine (HOH.out _).mono ?_; rintro e v33 ⟨rfl, hb⟩; replace hb : Below v32.heap.size v32 v33 := below_viaD (Below.refl _ _) hb; replace B := bH B hb; replace S := sH S hb; replace R := rH R hb; replace DR := wH DR hb; replace WD := wH WD hb; clear hb; replace c0 := (wide_cells WD.out).1; replace c1 := (wide_cells WD.out).2.1)
     | (go_simp; go_at_call 26; refine (HC3.out _).mono ?_; rintro e v34 ⟨rfl, hb⟩; replace B := bH B hb; replace S := sH S hb; replace R := rH R hb; replace DR := wH DR hb; replace WD := wH WD hb; clear hb; replace c0 := (wide_cells WD.out).1; replace c1 := (wide_cells WD.out).2.1))
 clear c0 c1
 clear e10 e11 e12 e13
 obtain ⟨x0, x1, -⟩ := wide_cells DR.out
 clear WD
 rw [HDR0.out] at x1
 go_wp2_with fail
 (with_reducible refine (HDR.out _ _ S.out R.out).mono ?_)
 rintro e v35 ⟨y, rfl, hy3, hb⟩
 clear x0 x1 hc2 hc3 HDR0
 have Y : Hid (v35.reads v35.heap.size y (L3.map u32V)) := hy3.reads
 obtain ⟨ya, yc, rfl, -⟩ := reads_u32 Y.out
 have hly := Y.out.le_map
 obtain ⟨ly, hly2⟩ : ∃ n, n = L3.length := ⟨_, rfl⟩
 rw [← hly2] at Y hly ⊢
 have HLY := Lib.hid hly2
 clear hy3 hly2
 replace B := bH B hb
 replace S := sH S hb
 replace R := rH R hb
 replace DR := wH DR hb
 clear hb
 go_wp2_with fail
 (with_reducible refine (HSC1.out _ _ S.out R.out).mono ?_)
 rintro e v36 ⟨k2, rfl, hk3, hb⟩
 have Z : Hid (v36.reads v36.heap.size k2 (L3.map u32V)) := hk3.reads
 obtain ⟨za, zc, rfl, -⟩ := reads_u32 Z.out
 rw [← HLY.out] at Z ⊢
 clear hk3
 replace B := bH B hb
 replace S := sH S hb
 replace R := rH R hb
 replace DR := wH DR hb
 replace Y := rH Y hb
 clear hb
 have hsame : Calls Try.prog 14 #[.slice ya ly yc, .slice za ly zc] v36 (fun e w' => e = .returned (.bool true) ∧ Below v36.heap.size v36 w') := by
   refine (samew_any _ _ L3 L3 _ _ v36 Y.out Z.out).mono ?_
   rintro e w' ⟨rfl, n9, rfl⟩
   exact ⟨by simp, below_drewN (Below.refl _ _) _⟩
 have HSAME := Lib.hid hsame
 clear hsame
 go_wp2_with fail
 (with_reducible refine (HSAME.out).mono ?_)
 rintro e v37 ⟨rfl, hb⟩
 replace B := bH B hb
 replace S := sH S hb
 replace R := rH R hb
 replace DR := wH DR hb
 replace Y := rH Y hb
 replace Z := rH Z hb
 clear hb
 go_wp2_with fail
 (with_reducible refine (HSH.out _).mono ?_)
 rintro e wz ⟨rfl, hbz⟩
 go_wp2
 go_ret
 exact ⟨rfl, below_via B.out hbz⟩
end Go.Proofs.Ytnjblppapmflhaa
