/- Walks: the law RingWides. -/
import Derived.Test.YtkjlfjnncdkmlaaGreatPA6
import Derived.Deep.QuietTactic
import Derived.BigQuiet
set_option linter.all false
set_option maxRecDepth 100000
set_option maxHeartbeats 40000000
namespace Go.Proofs.YtkjlfjnncdkmlaaGreat.G

open Go.RowKit Go.Shelf Go.BigFrame Go.WideNum
attribute [local go_sem] Oper.semAt_some
theorem large_a {c : RCase} (h : false = largeB c) : hugeB c.xs = false := by
 have h := h.symm
 unfold largeB at h
 simp only [Bool.or_eq_false_iff, decide_eq_false_iff_not] at h
 exact h.1.1.1
theorem wides_law (c : RCase) (w : World) (h : c.reads w.heap.size w) : Calls Tryz.prog 3 #[.agg c.cells] w fun e w' => e = .returned (.bool true) ∧ Below w.heap.size w w' := by
 obtain ⟨HPOST, hpost⟩ : ∃ R : Ending → World → Prop, R = fun e w' => e = .returned (.bool true) ∧ Below w.heap.size w w' := ⟨_, rfl⟩
 rw [← hpost]
 have HP := Lib.hid hpost
 have HAW := Lib.hid awake_any
 obtain ⟨N, pr, pw, wt, er, la, lb, num, kk, level, cv, av, bv, lw, sa, sb, special, chain, sp, xs, ys, ls⟩ := c
 have h1 : w.reads w.heap.size cv (chain.map u32V) := h.1
 have h2 : w.rows u32V w.heap.size av xs := h.2.1
 have h3 : w.rows u32V w.heap.size bv ys := h.2.2.1
 have h4 : w.reads w.heap.size lw (ls.map i64V) := h.2.2.2
 obtain ⟨W0, hW0⟩ : ∃ W0, W0 = w.alloc (.cells #[.int .i64 N, .int .u32 pr, .int .i64 pw, cv, .int .u32 (sp : Int), .int .i64 wt, .int .u32 er, .int .i64 la, .bool sa, av, .int .i64 lb, .bool sb, bv, .int .i64 num, .int .i64 kk, .int .i64 level, .bool special, lw] 31) := ⟨_, rfl⟩
 have hb : Below w.heap.size w W0 := by rw [hW0]; exact below_new w _
 have G : Hid (W0.heap[w.heap.size]? = some (.cells #[.int .i64 N, .int .u32 pr, .int .i64 pw, cv, .int .u32 (sp : Int), .int .i64 wt, .int .u32 er, .int .i64 la, .bool sa, av, .int .i64 lb, .bool sb, bv, .int .i64 num, .int .i64 kk, .int .i64 level, .bool special, lw] 31)) := by rw [hW0]; exact heap_alloc_new w _
 have RP := hR (Lib.hid h1) hb
 have RA := hRow (Lib.hid h2) hb
 have RB := hRow (Lib.hid h3) hb
 have RL := hR (Lib.hid h4) hb
 have B := Lib.hid hb
 have hlg := large_any ⟨N, pr, pw, wt, er, la, lb, num, kk, level, cv, av, bv, lw, sa, sb, special, chain, sp, xs, ys, ls⟩ W0 ⟨RP.out, RA.out, RB.out, RL.out⟩
 obtain ⟨lg, hlgd⟩ : ∃ b, b = largeB ⟨N, pr, pw, wt, er, la, lb, num, kk, level, cv, av, bv, lw, sa, sb, special, chain, sp, xs, ys, ls⟩ := ⟨_, rfl⟩
 rw [← hlgd] at hlg
 simp only [RCase.cells] at hlg ⊢
 have HLG := Lib.hid hlg
 have LG := Lib.hid hlgd
 have HW0 := Lib.hid hW0
 obtain ⟨p0, p1, p2, p3, p4, p5, p6, p7, p8, p9, p10, p11, p12, p13, p14, p15, p16, p17⟩ := case_cells G.out
 obtain ⟨n, hn⟩ : ∃ n, n = N.toNat := ⟨_, rfl⟩
 have NN := Lib.hid hn
 obtain ⟨ok, hok⟩ := em_bool (checkB N chain sp la sa xs = true ∧ AllP (modl chain sp la.toNat sa))
 have HOK := Lib.hid hok
 obtain ⟨F, hF⟩ : ∃ F, F = wC (modl chain sp la.toNat sa) xs := ⟨_, rfl⟩
 have HF := Lib.hid hF
 clear hn hok hF
 clear hpost hb h h1 h2 h3 h4 hlg hlgd hW0
 go_enter Tryz.func3, Tryz.ntmps3
 go_upto_region 1 with (fail)
 rw [← HW0.out]
 obtain ⟨pc, hpc⟩ : ∃ z, z = w.heap.size := ⟨_, rfl⟩
 rw [← hpc] at G p0 p1 p2 p3 p4 p5 p6 p7 p8 p9 p10 p11 p12 p13 p14 p15 p16 p17 ⊢
 clear hpc HW0
 go_wp2_with fail
 (with_reducible refine HLG.out.mono ?_)
 rintro e v0 ⟨rfl, hb⟩
 replace B := hB B hb
 replace G := hG G hb
 replace RP := hR RP hb
 replace RA := hRow RA hb
 replace RB := hRow RB hb
 replace RL := hR RL hb
 clear hb HLG p0 p1 p2 p3 p4 p5 p6 p7 p8 p9 p10 p11 p12 p13 p14 p15 p16 p17
 cases lg with
 | true =>
  go_wp2_with fail
  (with_reducible refine (HAW.out _).mono ?_)
  rintro e wz ⟨rfl, hb⟩
  go_wp2
  rw [HP.out]
  exact ⟨rfl, below_via B.out hb⟩
 | false =>
 clear RB RL
 have HLA := Lib.hid (fun W h => lent_any la sa av xs (large_a LG.out) W h)
 unfold MadeElt at HLA
 obtain ⟨p0, p1, p2, p3, p4, p5, p6, p7, p8, p9, p10, p11, p12, p13, p14, p15, p16, p17⟩ := case_cells G.out
 go_wp2_with fail
 (with_reducible refine (HLA.out _ RA.out).mono ?_)
 rintro e v1 ⟨⟨rv, rfl, hrv⟩, hb⟩
 obtain ⟨ra1, rc1, rfl⟩ := hrv.open_
 obtain ⟨nn1, hnn⟩ : ∃ z, z = xs.length := ⟨_, rfl⟩
 have hrow := hrv.rows
 rw [← hnn] at hrow ⊢
 clear hrv hnn HLA
 replace B := hB B hb
 replace G := hG G hb
 replace RP := hR RP hb
 replace RA := hRow RA hb
 clear p0 p1 p2 p3 p4 p5 p6 p7 p8 p9 p10 p11 p12 p13 p14 p15 p16 p17
 clear hb
 go_upto_region 4 with (fail)
 have E1 := ElAt.new (la := la) (sa := sa) hrow
 have hb := below_new v1 (.cells #[.int .i64 la, .bool sa, .slice ra1 nn1 rc1] 28)
 obtain ⟨b1, hbd⟩ : ∃ z, z = v1.heap.size := ⟨_, rfl⟩
 rw [← hbd] at E1 ⊢
 generalize v1.alloc (.cells #[.int .i64 la, .bool sa, .slice ra1 nn1 rc1] 28) = v2 at hb E1 ⊢
 replace B := hB B hb
 replace G := hG G hb
 replace RP := hR RP hb
 replace RA := hRow RA hb
 clear hrow hb hbd
 have HWI := Lib.hid (fun (W : World) (v : Value) (hr : W.reads W.heap.size cv (chain.map u32V)) (hv : W.rows u32V W.heap.size v xs) => Wides_any N pr pw wt er cv chain sp la sa v xs W hr hv ok HOK.out)
 have HNO := Lib.hid (fun (W : World) (v : Value) (hr : W.reads W.heap.size cv (chain.map u32V)) (hv : W.rows u32V W.heap.size v xs) => Norm_any N pr pw wt er cv chain sp la sa v xs W hr hv ok HOK.out n NN.out F HF.out)
 have HRW := Lib.hid (fun (W : World) (v : Value) (hr : W.reads W.heap.size cv (chain.map u32V)) (hv : W.rows u32V W.heap.size v xs) => rwides_any N pr pw wt er cv chain sp la sa v xs W hr hv ok HOK.out n NN.out F HF.out)
 have HRN := Lib.hid (fun (W : World) (v : Value) (hr : W.reads W.heap.size cv (chain.map u32V)) (hv : W.rows u32V W.heap.size v xs) => rnorm_any N pr pw wt er cv chain sp la sa v xs W hr hv ok HOK.out n NN.out F HF.out)
 rw [← NN.out, ← HF.out] at HWI
 unfold WidesPost at HWI
 unfold NormPost at HNO
 unfold RWPost at HRW
 unfold RNPost at HRN
 cases ok with
 | false =>
  as_aux_lemma =>
   obtain ⟨p0, p1, p2, p3, p4, p5, p6, p7, p8, p9, p10, p11, p12, p13, p14, p15, p16, p17⟩ := case_cells G.out
   obtain ⟨e10, e11, e12, -, -, -⟩ := elem_cells E1.out.heap
   go_wp2_with fail
   (with_reducible refine (HWI.out _ _ RP.out E1.out.rows).mono ?_)
   rintro e v3 ⟨he, hb⟩
   rw [if_neg (by decide)] at he
   subst he
   replace B := hB B hb
   replace G := hG G hb
   replace RP := hR RP hb
   replace RA := hRow RA hb
   replace E1 := ElAt.below E1 hb
   clear p0 p1 p2 p3 p4 p5 p6 p7 p8 p9 p10 p11 p12 p13 p14 p15 p16 p17 e10 e11 e12
   clear hb
   obtain ⟨p0, p1, p2, p3, p4, p5, p6, p7, p8, p9, p10, p11, p12, p13, p14, p15, p16, p17⟩ := case_cells G.out
   obtain ⟨e10, e11, e12, -, -, -⟩ := elem_cells E1.out.heap
   go_wp2_with fail
   (with_reducible refine (HNO.out _ _ RP.out E1.out.rows).mono ?_)
   rintro e v4 ⟨he, hb⟩
   rw [if_neg (by decide)] at he
   subst he
   replace B := hB B hb
   replace G := hG G hb
   replace RP := hR RP hb
   replace RA := hRow RA hb
   replace E1 := ElAt.below E1 hb
   clear p0 p1 p2 p3 p4 p5 p6 p7 p8 p9 p10 p11 p12 p13 p14 p15 p16 p17 e10 e11 e12
   clear hb
   go_upto_region 6 with (fail)
   have N1 := Lib.hid (heap_alloc_new v4 (.cells #[.bool false, .string ⟨#[]⟩] 40))
   have hb := below_new v4 (.cells #[.bool false, .string ⟨#[]⟩] 40)
   obtain ⟨bN1, hbd⟩ : ∃ z, z = v4.heap.size := ⟨_, rfl⟩
   rw [← hbd] at N1 ⊢
   generalize v4.alloc (.cells #[.bool false, .string ⟨#[]⟩] 40) = v5 at hb N1 ⊢
   replace B := hB B hb
   replace G := hG G hb
   replace RP := hR RP hb
   replace RA := hRow RA hb
   replace E1 := ElAt.below E1 hb
   clear hb hbd
   obtain ⟨p0, p1, p2, p3, p4, p5, p6, p7, p8, p9, p10, p11, p12, p13, p14, p15, p16, p17⟩ := case_cells G.out
   obtain ⟨e10, e11, e12, -, -, -⟩ := elem_cells E1.out.heap
   go_wp2_with fail
   (with_reducible refine (lsame_any E1.out.rows RA.out true (by simp)).mono ?_)
   rintro e v6 ⟨rfl, hb⟩
   replace B := hB B hb
   replace G := hG G hb
   replace RP := hR RP hb
   replace RA := hRow RA hb
   replace E1 := ElAt.below E1 hb
   replace N1 := hG N1 hb
   clear p0 p1 p2 p3 p4 p5 p6 p7 p8 p9 p10 p11 p12 p13 p14 p15 p16 p17 e10 e11 e12
   clear hb
   clear E1
   as_aux_lemma =>
    obtain ⟨p0, p1, p2, p3, p4, p5, p6, p7, p8, p9, p10, p11, p12, p13, p14, p15, p16, p17⟩ := case_cells G.out
    go_wp2_with fail
    (with_reducible refine (HRW.out _ _ RP.out RA.out).mono ?_)
    rintro e v7 ⟨he, hb⟩
    rw [if_neg (by decide)] at he
    subst he
    replace B := hB B hb
    replace G := hG G hb
    replace RP := hR RP hb
    replace RA := hRow RA hb
    replace N1 := hG N1 hb
    clear p0 p1 p2 p3 p4 p5 p6 p7 p8 p9 p10 p11 p12 p13 p14 p15 p16 p17
    clear hb
    obtain ⟨p0, p1, p2, p3, p4, p5, p6, p7, p8, p9, p10, p11, p12, p13, p14, p15, p16, p17⟩ := case_cells G.out
    go_wp2_with fail
    (with_reducible refine (HRN.out _ _ RP.out RA.out).mono ?_)
    rintro e v8 ⟨he, hb⟩
    rw [if_neg (by decide)] at he
    subst he
    replace B := hB B hb
    replace G := hG G hb
    replace RP := hR RP hb
    replace RA := hRow RA hb
    replace N1 := hG N1 hb
    clear p0 p1 p2 p3 p4 p5 p6 p7 p8 p9 p10 p11 p12 p13 p14 p15 p16 p17
    clear hb
    go_upto_region 10 with (fail)
    have N2 := Lib.hid (heap_alloc_new v8 (.cells #[.bool false, .string ⟨#[]⟩] 40))
    have hb := below_new v8 (.cells #[.bool false, .string ⟨#[]⟩] 40)
    obtain ⟨bN2, hbd⟩ : ∃ z, z = v8.heap.size := ⟨_, rfl⟩
    rw [← hbd] at N2 ⊢
    generalize v8.alloc (.cells #[.bool false, .string ⟨#[]⟩] 40) = v9 at hb N2 ⊢
    replace B := hB B hb
    replace G := hG G hb
    replace RP := hR RP hb
    replace RA := hRow RA hb
    replace N1 := hG N1 hb
    clear hb hbd
    obtain ⟨n10, n11, -⟩ := wide_cells N1.out
    obtain ⟨n20, n21, -⟩ := wide_cells N2.out
    have BV := Lib.hid (Below.refl v9.heap.size v9)
    go_wp2_with fail
    go_loopw [12] (fun iv wr => iv = .int .i64 0 ∧ Hid (Below v9.heap.size v9 wr)) (fun _ _ => 0)
    case atStart => exact ⟨rfl, BV.out⟩
    case round =>
     obtain ⟨rfl, HBr⟩ := hrel
     replace B := Lib.hid (below_via B.out HBr.out)
     go_wp2_with fail
     (with_reducible refine (HAW.out _).mono ?_)
     rintro e wz ⟨rfl, hb⟩
     go_wp2
     rw [HP.out]
     exact ⟨rfl, below_via B.out hb⟩
 | true =>
 have HN4 : Hid (4 ≤ n ∧ n ≤ 32) := by
  obtain ⟨h1, h2, -⟩ := checkB_spec (HOK.out.1 rfl).1
  rw [NN.out]; exact ⟨h1, h2⟩
 as_aux_lemma =>
  obtain ⟨p0, p1, p2, p3, p4, p5, p6, p7, p8, p9, p10, p11, p12, p13, p14, p15, p16, p17⟩ := case_cells G.out
  obtain ⟨e10, e11, e12, -, -, -⟩ := elem_cells E1.out.heap
  go_wp2_with fail
  (with_reducible refine (HWI.out _ _ RP.out E1.out.rows).mono ?_)
  rintro e v3 ⟨he, hb⟩
  first | rw [if_pos rfl] at he | rw [if_pos trivial] at he
  obtain ⟨g, rfl, -, hg⟩ := he
  have GW := Lib.hid hg
  clear hg
  replace B := hB B hb
  replace G := hG G hb
  replace RP := hR RP hb
  replace RA := hRow RA hb
  replace E1 := ElAt.below E1 hb
  clear p0 p1 p2 p3 p4 p5 p6 p7 p8 p9 p10 p11 p12 p13 p14 p15 p16 p17 e10 e11 e12
  clear hb
  obtain ⟨sn, hsn⟩ : ∃ z, z = zT ((maxN F n : Nat) : Int) := ⟨_, rfl⟩
  rw [← hsn] at HNO HRN
  clear hsn
  obtain ⟨p0, p1, p2, p3, p4, p5, p6, p7, p8, p9, p10, p11, p12, p13, p14, p15, p16, p17⟩ := case_cells G.out
  obtain ⟨e10, e11, e12, -, -, -⟩ := elem_cells E1.out.heap
  go_wp2_with fail
  (with_reducible refine (HNO.out _ _ RP.out E1.out.rows).mono ?_)
  rintro e v4 ⟨he, hb⟩
  first | rw [if_pos rfl] at he | rw [if_pos trivial] at he
  subst he
  replace B := hB B hb
  replace G := hG G hb
  replace RP := hR RP hb
  replace RA := hRow RA hb
  replace E1 := ElAt.below E1 hb
  replace GW := hG GW hb
  clear p0 p1 p2 p3 p4 p5 p6 p7 p8 p9 p10 p11 p12 p13 p14 p15 p16 p17 e10 e11 e12
  clear hb
  go_upto_region 6 with (fail)
  have N1 := Lib.hid (heap_alloc_new v4 (.cells #[.bool false, .string sn] 40))
  have hb := below_new v4 (.cells #[.bool false, .string sn] 40)
  obtain ⟨bN1, hbd⟩ : ∃ z, z = v4.heap.size := ⟨_, rfl⟩
  rw [← hbd] at N1 ⊢
  generalize v4.alloc (.cells #[.bool false, .string sn] 40) = v5 at hb N1 ⊢
  replace B := hB B hb
  replace G := hG G hb
  replace RP := hR RP hb
  replace RA := hRow RA hb
  replace E1 := ElAt.below E1 hb
  replace GW := hG GW hb
  clear hb hbd
  obtain ⟨p0, p1, p2, p3, p4, p5, p6, p7, p8, p9, p10, p11, p12, p13, p14, p15, p16, p17⟩ := case_cells G.out
  obtain ⟨e10, e11, e12, -, -, -⟩ := elem_cells E1.out.heap
  go_wp2_with fail
  (with_reducible refine (lsame_any E1.out.rows RA.out true (by simp)).mono ?_)
  rintro e v6 ⟨rfl, hb⟩
  replace B := hB B hb
  replace G := hG G hb
  replace RP := hR RP hb
  replace RA := hRow RA hb
  replace E1 := ElAt.below E1 hb
  replace GW := hG GW hb
  replace N1 := hG N1 hb
  clear p0 p1 p2 p3 p4 p5 p6 p7 p8 p9 p10 p11 p12 p13 p14 p15 p16 p17 e10 e11 e12
  clear hb
  clear E1
  as_aux_lemma =>
   obtain ⟨p0, p1, p2, p3, p4, p5, p6, p7, p8, p9, p10, p11, p12, p13, p14, p15, p16, p17⟩ := case_cells G.out
   go_wp2_with fail
   (with_reducible refine (HRW.out _ _ RP.out RA.out).mono ?_)
   rintro e v7 ⟨he, hb⟩
   first | rw [if_pos rfl] at he | rw [if_pos trivial] at he
   obtain ⟨v, rfl, hown⟩ := he
   obtain ⟨g2, c2, rfl, -, -, -, hw2⟩ := owns_wcs hown (by have := HN4.out; omega)
   have GV := Lib.hid hw2
   clear hw2 hown
   replace B := hB B hb
   replace G := hG G hb
   replace RP := hR RP hb
   replace RA := hRow RA hb
   replace GW := hG GW hb
   replace N1 := hG N1 hb
   clear p0 p1 p2 p3 p4 p5 p6 p7 p8 p9 p10 p11 p12 p13 p14 p15 p16 p17
   clear hb
   obtain ⟨p0, p1, p2, p3, p4, p5, p6, p7, p8, p9, p10, p11, p12, p13, p14, p15, p16, p17⟩ := case_cells G.out
   go_wp2_with fail
   (with_reducible refine (HRN.out _ _ RP.out RA.out).mono ?_)
   rintro e v8 ⟨he, hb⟩
   first | rw [if_pos rfl] at he | rw [if_pos trivial] at he
   subst he
   replace B := hB B hb
   replace G := hG G hb
   replace RP := hR RP hb
   replace RA := hRow RA hb
   replace GW := hG GW hb
   replace N1 := hG N1 hb
   replace GV := WCs.below GV hb
   clear p0 p1 p2 p3 p4 p5 p6 p7 p8 p9 p10 p11 p12 p13 p14 p15 p16 p17
   clear hb
   go_upto_region 10 with (fail)
   have N2 := Lib.hid (heap_alloc_new v8 (.cells #[.bool false, .string sn] 40))
   have hb := below_new v8 (.cells #[.bool false, .string sn] 40)
   obtain ⟨bN2, hbd⟩ : ∃ z, z = v8.heap.size := ⟨_, rfl⟩
   rw [← hbd] at N2 ⊢
   generalize v8.alloc (.cells #[.bool false, .string sn] 40) = v9 at hb N2 ⊢
   replace B := hB B hb
   replace G := hG G hb
   replace RP := hR RP hb
   replace RA := hRow RA hb
   replace GW := hG GW hb
   replace N1 := hG N1 hb
   replace GV := WCs.below GV hb
   clear hb hbd
   obtain ⟨n10, n11, -⟩ := wide_cells N1.out
   obtain ⟨n20, n21, -⟩ := wide_cells N2.out
   have BV := Lib.hid (Below.refl v9.heap.size v9)
   go_wp2_with fail
   go_loopw [12] (fun iv wr => ∃ i : Nat, i ≤ n ∧ iv = .int .i64 (i : Int) ∧ Hid (Below v9.heap.size v9 wr)) (fun iv _ => n - (intOf iv).toNat)
   case atStart => exact ⟨0, Nat.zero_le _, rfl, BV.out⟩
   case round =>
    obtain ⟨i, hi, rfl, HBr⟩ := hrel
    obtain ⟨wo, rfl⟩ : ∃ x, x = wr := ⟨_, rfl⟩
    have hn32 := HN4.out.2
    by_cases hlt : i < n
    ·obtain ⟨nb, hnb⟩ : ∃ z, z = zN (F i) := ⟨_, rfl⟩
     obtain ⟨nt, hnt⟩ : ∃ z, z = zT (F i) := ⟨_, rfl⟩
     obtain ⟨s1, s2⟩ := WCs.get (WCs.below GV HBr.out) hlt
     have hw := (hG GW HBr.out).out
     have s3 : wo.cell? ⟨g, i * 2, none⟩ = some (.bool (zN (F i))) := by
      rw [cell_of_row wo g (i * 2) _ _ (0, 0) hw]
      unfold wArr
      rw [wPart_get (by omega), if_pos (by omega), if_pos (by omega), show i * 2 / 2 = i by omega]
     have s4 : wo.cell? ⟨g, i * 2 + 1, none⟩ = some (.string (zT (F i))) := by
      rw [cell_of_row wo g (i * 2 + 1) _ _ (0, 0) hw]
      unfold wArr
      rw [wPart_get (by omega), if_pos (by omega), if_neg (by omega), show (i * 2 + 1) / 2 = i by omega]
     rw [← hnb] at s1 s3
     rw [← hnt] at s2 s4
     have j1 : (i : Int) < (n : Int) := by omega
     have j2 : (0 : Int) ≤ (i : Int) := by omega
     clear hw hnb hnt
     go_upto_region 15 with (fail)
     go_quiet (fail)
     have HB9 : Hid (Below v9.heap.size v9 (wo.drewN nq)) := below_drewN HBr.out nq
     clear s1 s2 s3 s4
     go_wp2
     go_roundw
     case rel => exact ⟨i + 1, by omega, by go_num, HB9.out⟩
     case measure => simp [intOf]; omega
    ·obtain rfl : i = n := by omega
     replace B := Lib.hid (below_via B.out HBr.out)
     go_wp2_with fail
     (with_reducible refine (HAW.out _).mono ?_)
     rintro e wz ⟨rfl, hb⟩
     go_wp2
     rw [HP.out]
     exact ⟨rfl, below_via B.out hb⟩
end Go.Proofs.YtkjlfjnncdkmlaaGreat.G
