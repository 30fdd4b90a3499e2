/- Walks: the law RingLaws. -/
import Derived.Test.YtkjlfjnncdkmlaaPA6
namespace Go.Proofs.Ytkjlfjnncdkmlaa.G
set_option linter.all false
open Go.RowKit Go.Shelf Go.BigFrame
attribute [local go_sem] Oper.semAt_some
theorem heap_drew' (W : World) (b : Nat) : W.drew.heap[b]? = W.heap[b]? := rfl
theorem laws_plain {N la : Int} {chain : List Nat} {sp : Nat} {sa : Bool} {xs ys zs : List (List Nat)} (k1 : checkB N chain sp la sa xs = true) (k2 : checkB N chain sp la sa ys = true) (k3 : checkB N chain sp la sa zs = true) (n : Nat) (hn : n = N.toNat) (ml : List Nat) (hml : ml = modl chain sp la.toNat sa) :
    checkB N chain sp la sa (zipRows (prodRow n) ml xs ys ml.length) = true ∧ checkB N chain sp la sa (zipRows (prodRow n) ml ys zs ml.length) = true ∧ checkB N chain sp la sa (zipRows (sumRow 1 n) ml xs zs ml.length) = true ∧
    zipRows (prodRow n) ml xs ys ml.length = zipRows (prodRow n) ml ys xs ml.length ∧
    zipRows (prodRow n) ml (zipRows (prodRow n) ml xs ys ml.length) zs ml.length = zipRows (prodRow n) ml xs (zipRows (prodRow n) ml ys zs ml.length) ml.length ∧
    zipRows (prodRow n) ml (zipRows (sumRow 1 n) ml xs zs ml.length) ys ml.length = zipRows (sumRow 1 n) ml (zipRows (prodRow n) ml xs ys ml.length) (zipRows (prodRow n) ml ys zs ml.length) ml.length ∧
    zipRows (sumRow (-1) n) ml (zipRows (sumRow 1 n) ml xs zs ml.length) zs ml.length = xs := by
  subst hn hml
  obtain ⟨e1, -, -, -, -, -, -, hq, hx, -⟩ := checkB_spec k1
  have hq0 : ∀ q ∈ modl chain sp la.toNat sa, 0 < q := fun q h => by have := hq q h; omega
  exact ⟨checkB_zip k1 _ _ _ fun q hq a b => prodRow_ok N.toNat q hq a b, checkB_zip k1 _ _ _ fun q hq a b => prodRow_ok N.toNat q hq a b, checkB_zip k1 _ _ _ fun q hq a b => sumRow_ok 1 N.toNat q hq a b,
    el_comm hq0 xs ys, el_assoc hq0 (by omega) xs ys zs, el_dist hq0 xs ys zs, el_back hq0 hx zs⟩
theorem twoB_comm (N : Int) (chain : List Nat) (sp : Nat) (la lb : Int) (sa sb : Bool) (xs ys : List (List Nat)) : twoB N chain sp la lb sa sb xs ys = twoB N chain sp lb la sb sa ys xs := by
  unfold twoB
  have h1 : decide (la = lb) = decide (lb = la) := by simp [eq_comm]
  have h2 : decide (sa = sb) = decide (sb = sa) := by simp [eq_comm]
  rw [h1, h2, Bool.and_comm (checkB N chain sp la sa xs)]
theorem nine_cells {W : World} {b : Nat} {u0 u1 u2 u3 u4 u5 u6 u7 u8 : Value} {t : TypeId} (h : W.heap[b]? = some (.cells #[u0, u1, u2, u3, u4, u5, u6, u7, u8] t)) :
    W.cell? ⟨b, 0, none⟩ = some u0 ∧ W.cell? ⟨b, 1, none⟩ = some u1 ∧ W.cell? ⟨b, 2, none⟩ = some u2 ∧ W.cell? ⟨b, 3, none⟩ = some u3 ∧ W.cell? ⟨b, 4, none⟩ = some u4 ∧ W.cell? ⟨b, 5, none⟩ = some u5 ∧ W.cell? ⟨b, 6, none⟩ = some u6 ∧ W.cell? ⟨b, 7, none⟩ = some u7 ∧ W.cell? ⟨b, 8, none⟩ = some u8 := by
  refine ⟨?_, ?_, ?_, ?_, ?_, ?_, ?_, ?_, ?_⟩ <;> simp [World.cell?, h]
set_option maxRecDepth 100000 in
set_option maxHeartbeats 16000000 in
theorem laws_law (N pr pw wt er la lb lc : Int) (cv : Value) (chain : List Nat) (sp : Nat) (sa sb sc : Bool) (av bv dv : Value) (xs ys zs : List (List Nat)) (w : World) (h0 : w.reads w.heap.size cv (chain.map u32V)) (h1 : w.rows u32V w.heap.size av xs) (h2 : w.rows u32V w.heap.size bv ys) (h3 : w.rows u32V w.heap.size dv zs) :
    Calls Try.prog 8 #[.agg #[.int .i64 N, .int .u32 pr, .int .i64 pw, cv, .int .u32 (sp : Int), .int .i64 wt, .int .u32 er], .agg #[.int .i64 la, .bool sa, av, .int .i64 lb, .bool sb, bv, .int .i64 lc, .bool sc, dv]] w fun e w' => e = .returned (.bool true) ∧ Below w.heap.size w w' := by
  obtain ⟨HPOST, hpost⟩ : ∃ R : Ending → World → Prop, R = fun e w' => e = .returned (.bool true) ∧ Below w.heap.size w w' := ⟨_, rfl⟩
  rw [← hpost]
  have HP := Lib.hid hpost
  have HAW := Lib.hid awake_any
  obtain ⟨ca, cc, rfl, -, -, -⟩ := reads_u32 h0
  obtain ⟨aa, ac, rfl, -⟩ := h1.shape
  obtain ⟨ba, bc, rfl, -⟩ := h2.shape
  obtain ⟨da, dc, rfl, -⟩ := h3.shape
  obtain ⟨m, hm⟩ : ∃ m, m = chain.length := ⟨_, rfl⟩
  obtain ⟨l1, hl1⟩ : ∃ m, m = xs.length := ⟨_, rfl⟩
  obtain ⟨l2, hl2⟩ : ∃ m, m = ys.length := ⟨_, rfl⟩
  obtain ⟨l3, hl3⟩ : ∃ m, m = zs.length := ⟨_, rfl⟩
  rw [← hm] at h0 ⊢
  rw [← hl1] at h1 ⊢
  rw [← hl2] at h2 ⊢
  rw [← hl3] at h3 ⊢
  obtain ⟨W0, hW0⟩ : ∃ W0, W0 = (w.alloc (.cells #[.int .i64 N, .int .u32 pr, .int .i64 pw, .slice ca m cc, .int .u32 (sp : Int), .int .i64 wt, .int .u32 er] 25)).alloc (.cells #[.int .i64 la, .bool sa, .slice aa l1 ac, .int .i64 lb, .bool sb, .slice ba l2 bc, .int .i64 lc, .bool sc, .slice da l3 dc] 54) := ⟨_, rfl⟩
  have hb : Below w.heap.size w W0 := by rw [hW0]; exact ((Below.refl _ w).alloc (Nat.le_refl _) _).alloc (by simp) _
  obtain ⟨pp, hpp⟩ : ∃ z, z = w.heap.size := ⟨_, rfl⟩
  have GP : Hid (W0.heap[pp]? = some (.cells #[.int .i64 N, .int .u32 pr, .int .i64 pw, .slice ca m cc, .int .u32 (sp : Int), .int .i64 wt, .int .u32 er] 25)) := by
    show _ = _; rw [hW0, hpp, Below.heap_alloc _ _ _ (by simp)]; exact alloc_last _ _ rfl
  have GA : Hid (W0.heap[pp + 1]? = some (.cells #[.int .i64 la, .bool sa, .slice aa l1 ac, .int .i64 lb, .bool sb, .slice ba l2 bc, .int .i64 lc, .bool sc, .slice da l3 dc] 54)) := by
    show _ = _; rw [hW0, hpp]; exact alloc_last _ _ (by simp)
  have RP := hR (Lib.hid h0) hb
  have RA := hRow (Lib.hid h1) hb
  have RB := hRow (Lib.hid h2) hb
  have RC := hRow (Lib.hid h3) hb
  have B := Lib.hid hb
  obtain ⟨ha, hha⟩ : ∃ b, b = hugeB xs := ⟨_, rfl⟩
  obtain ⟨hb', hhb⟩ : ∃ b, b = hugeB ys := ⟨_, rfl⟩
  obtain ⟨hc, hhc⟩ : ∃ b, b = hugeB zs := ⟨_, rfl⟩
  have HU1 : Hid (∀ W v, W.rows u32V W.heap.size v xs → Calls Try.prog 38 #[.agg #[.int .i64 la, .bool sa, v]] W fun e w' => e = .returned (.bool ha) ∧ Below W.heap.size W w') := fun W v h => by rw [hha]; exact huge_any la sa v xs W.heap.size W h (Nat.le_refl _)
  have HU2 : Hid (∀ W v, W.rows u32V W.heap.size v ys → Calls Try.prog 38 #[.agg #[.int .i64 lb, .bool sb, v]] W fun e w' => e = .returned (.bool hb') ∧ Below W.heap.size W w') := fun W v h => by rw [hhb]; exact huge_any lb sb v ys W.heap.size W h (Nat.le_refl _)
  have HU3 : Hid (∀ W v, W.rows u32V W.heap.size v zs → Calls Try.prog 38 #[.agg #[.int .i64 lc, .bool sc, v]] W fun e w' => e = .returned (.bool hc) ∧ Below W.heap.size W w') := fun W v h => by rw [hhc]; exact huge_any lc sc v zs W.heap.size W h (Nat.le_refl _)
  have HW0 := Lib.hid hW0
  have HPP := Lib.hid hpp
  obtain ⟨p0, p1, p2, p3, p4, p5, p6⟩ := par_cells GP.out
  obtain ⟨y0, y1, y2, y3, y4, y5, y6, y7, y8⟩ := nine_cells GA.out
  clear hpost hb h0 h1 h2 h3 hm hl1 hl2 hl3 hha hhb hhc hW0 hpp
  go_enter Try.func8, Try.ntmps8
  go_upto_region 1 with (fail)
  rw [← HW0.out, ← HPP.out]
  clear HW0 HPP
  go_wp2_with fail
  (with_reducible refine (HU1.out _ _ RA.out).mono ?_)
  rintro e v1 ⟨rfl, hb⟩
  replace B := hB B hb
  replace GP := hG GP hb
  replace GA := hG GA hb
  replace RP := hR RP hb
  replace RA := hRow RA hb
  replace RB := hRow RB hb
  replace RC := hRow RC hb
  clear y0 y1 y2 y3 y4 y5 y6 y7 y8 p0 p1 p2 p3 p4 p5 p6
  clear hb
  cases ha with
  | true =>
    go_wp2_with fail
    (with_reducible refine (HAW.out _).mono ?_)
    rintro e wz ⟨rfl, hb⟩
    go_wp2
    rw [HP.out]
    exact ⟨rfl, below_via B.out hb⟩
  | false =>
  obtain ⟨y0, y1, y2, y3, y4, y5, y6, y7, y8⟩ := nine_cells GA.out
  go_wp2_with fail
  (with_reducible refine (HU2.out _ _ RB.out).mono ?_)
  rintro e v2 ⟨rfl, hb⟩
  replace B := hB B hb
  replace GP := hG GP hb
  replace GA := hG GA hb
  replace RP := hR RP hb
  replace RA := hRow RA hb
  replace RB := hRow RB hb
  replace RC := hRow RC hb
  clear y0 y1 y2 y3 y4 y5 y6 y7 y8
  clear hb
  cases hb' with
  | true =>
    go_wp2_with fail
    (with_reducible refine (HAW.out _).mono ?_)
    rintro e wz ⟨rfl, hb⟩
    go_wp2
    rw [HP.out]
    exact ⟨rfl, below_via B.out hb⟩
  | false =>
  obtain ⟨y0, y1, y2, y3, y4, y5, y6, y7, y8⟩ := nine_cells GA.out
  go_wp2_with fail
  (with_reducible refine (HU3.out _ _ RC.out).mono ?_)
  rintro e v3 ⟨rfl, hb⟩
  replace B := hB B hb
  replace GP := hG GP hb
  replace GA := hG GA hb
  replace RP := hR RP hb
  replace RA := hRow RA hb
  replace RB := hRow RB hb
  replace RC := hRow RC hb
  clear y0 y1 y2 y3 y4 y5 y6 y7 y8
  clear hb
  cases hc with
  | true =>
    go_wp2_with fail
    (with_reducible refine (HAW.out _).mono ?_)
    rintro e wz ⟨rfl, hb⟩
    go_wp2
    rw [HP.out]
    exact ⟨rfl, below_via B.out hb⟩
  | false =>
  obtain ⟨p0, p1, p2, p3, p4, p5, p6⟩ := par_cells GP.out
  by_cases hm : 100 < m
  · have t1 : (100 : Int) < (m : Int) := by omega
    go_wp2_with fail
    (with_reducible refine (HAW.out _).mono ?_)
    rintro e wz ⟨rfl, hb⟩
    go_wp2
    rw [HP.out]
    exact ⟨rfl, below_via B.out hb⟩
  have t1 : ¬ (100 : Int) < (m : Int) := by omega
  clear hm HU1 HU2 HU3
  go_upto_region 3 with (fail)
  clear p0 p1 p2 p3 p4 p5 p6
  clear t1
  have hlt : pp + 1 < v3.heap.size := lt_of_heap GA.out
  have HKK : Hid (∀ W, Below v3.heap.size v3 W → W.cell? ⟨pp + 1, 0, none⟩ = some (.int .i64 la) ∧ W.cell? ⟨pp + 1, 1, none⟩ = some (.bool sa) ∧ W.cell? ⟨pp + 1, 2, none⟩ = some (.slice aa l1 ac) ∧ W.cell? ⟨pp + 1, 3, none⟩ = some (.int .i64 lb) ∧ W.cell? ⟨pp + 1, 4, none⟩ = some (.bool sb) ∧ W.cell? ⟨pp + 1, 5, none⟩ = some (.slice ba l2 bc) ∧ W.cell? ⟨pp + 1, 6, none⟩ = some (.int .i64 lc) ∧ W.cell? ⟨pp + 1, 7, none⟩ = some (.bool sc) ∧ W.cell? ⟨pp + 1, 8, none⟩ = some (.slice da l3 dc)) := fun W hb => by
    obtain ⟨y0, y1, y2, y3, y4, y5, y6, y7, y8⟩ := nine_cells (hG GA hb).out
    exact ⟨y0, y1, y2, y3, y4, y5, y6, y7, y8⟩
  obtain ⟨y0, y1, y2, y3, y4, y5, y6, y7, y8⟩ := nine_cells GA.out
  go_cut [5, 6, 7] (fun x5 x6 x7 wx => ∃ b1 b2 b3 : Nat, x5 = .pointer (some ⟨b1, 0, none⟩) ∧ x6 = .pointer (some ⟨b2, 0, none⟩) ∧ x7 = .pointer (some ⟨b3, 0, none⟩) ∧ Below v3.heap.size v3 wx ∧ Hid (ElAt wx b1 la sa (.slice aa l1 ac) xs) ∧ Hid (ElAt wx b2 lb sb (.slice ba l2 bc) ys) ∧ Hid (ElAt wx b3 lc sc (.slice da l3 dc) zs))
  case first =>
    go_region_held3 (fun w' => w'.cell? ⟨pp + 1, 0, none⟩ = some (.int .i64 la) ∧ w'.cell? ⟨pp + 1, 1, none⟩ = some (.bool sa) ∧ w'.cell? ⟨pp + 1, 2, none⟩ = some (.slice aa l1 ac) ∧ w'.cell? ⟨pp + 1, 3, none⟩ = some (.int .i64 lb) ∧ w'.cell? ⟨pp + 1, 4, none⟩ = some (.bool sb) ∧ w'.cell? ⟨pp + 1, 5, none⟩ = some (.slice ba l2 bc) ∧ w'.cell? ⟨pp + 1, 6, none⟩ = some (.int .i64 lc) ∧ w'.cell? ⟨pp + 1, 7, none⟩ = some (.bool sc) ∧ w'.cell? ⟨pp + 1, 8, none⟩ = some (.slice da l3 dc))
      (first | exact ⟨y0, y1, y2, y3, y4, y5, y6, y7, y8⟩ | exact HKK.out _ (by repeat (with_reducible first | assumption | apply below_drewN | apply Below.drew | refine Below.alloc ?_ (by first | omega | (simp; done) | (simp; omega)) _ | refine Below.setCell ?_ (by first | omega | (simp; done) | (simp; omega)) _ | exact Below.refl _ _)))
      (fail)
    all_goals
      go_wp2
      go_meet
      case rel =>
        refine ⟨_, _, _, rfl, rfl, rfl, ?_, ?_, ?_, ?_⟩
        · repeat (with_reducible first | assumption | apply below_drewN | apply Below.drew | refine Below.alloc ?_ (by first | omega | (simp; done) | (simp; omega)) _ | refine Below.setCell ?_ (by first | omega | (simp; done) | (simp; omega)) _ | exact Below.refl _ _)
        · exact ⟨(by rw [heap_drew']; repeat (first | exact alloc_last _ _ (by first | rfl | (simp; done) | (simp; omega)) | rw [Below.heap_alloc _ _ _ (by first | (simp; done) | (simp; omega))])), (RA.out.below (by repeat (with_reducible first | assumption | apply below_drewN | apply Below.drew | refine Below.alloc ?_ (by first | omega | (simp; done) | (simp; omega)) _ | refine Below.setCell ?_ (by first | omega | (simp; done) | (simp; omega)) _ | exact Below.refl _ _))).mono (by simp; try omega)⟩
        · exact ⟨(by rw [heap_drew']; repeat (first | exact alloc_last _ _ (by first | rfl | (simp; done) | (simp; omega)) | rw [Below.heap_alloc _ _ _ (by first | (simp; done) | (simp; omega))])), (RB.out.below (by repeat (with_reducible first | assumption | apply below_drewN | apply Below.drew | refine Below.alloc ?_ (by first | omega | (simp; done) | (simp; omega)) _ | refine Below.setCell ?_ (by first | omega | (simp; done) | (simp; omega)) _ | exact Below.refl _ _))).mono (by simp; try omega)⟩
        · exact ⟨(by rw [heap_drew']; repeat (first | exact alloc_last _ _ (by first | rfl | (simp; done) | (simp; omega)) | rw [Below.heap_alloc _ _ _ (by first | (simp; done) | (simp; omega))])), (RC.out.below (by repeat (with_reducible first | assumption | apply below_drewN | apply Below.drew | refine Below.alloc ?_ (by first | omega | (simp; done) | (simp; omega)) _ | refine Below.setCell ?_ (by first | omega | (simp; done) | (simp; omega)) _ | exact Below.refl _ _))).mono (by simp; try omega)⟩
  case rest =>
    obtain ⟨b1, b2, b3, rfl, rfl, rfl, hb, EA, EB, EC⟩ := hcut
    replace B := hB B hb
    replace GP := hG GP hb
    replace GA := hG GA hb
    replace RP := hR RP hb
    replace RA := hRow RA hb
    replace RB := hRow RB hb
    replace RC := hRow RC hb
    clear hb HKK hlt y0 y1 y2 y3 y4 y5 y6 y7 y8 GA RA RB RC
    obtain ⟨o1, O1⟩ : ∃ o, Hid (o = twoB N chain sp la lb sa sb xs ys) := ⟨_, Lib.hid rfl⟩
    have O2 : Hid (o1 = twoB N chain sp lb la sb sa ys xs) := O1.out.trans (twoB_comm ..)
    obtain ⟨o3, O3⟩ : ∃ o, Hid (o = twoB N chain sp lb lc sb sc ys zs) := ⟨_, Lib.hid rfl⟩
    obtain ⟨p0, p1, p2, p3, p4, p5, p6⟩ := par_cells GP.out
    obtain ⟨ea0, ea1, ea2, -, -, -⟩ := elem_cells EA.out.heap
    obtain ⟨eb0, eb1, eb2, -, -, -⟩ := elem_cells EB.out.heap
    go_wp2_with fail
    (with_reducible refine (mul_e RP.out EA.out.rows EB.out.rows _ rfl _ rfl o1 O1.out).mono ?_)
    rintro e v5 ⟨la1, sa1, ra1, nn1, rc1, rs1, er1, rfl, hrow, hk, hk2, hb⟩
    have K1 := Lib.hid hk
    have J1 := Lib.hid hk2
    clear hk hk2
    replace B := hB B hb
    replace GP := hG GP hb
    replace RP := hR RP hb
    replace EA := ElAt.below EA hb
    replace EB := ElAt.below EB hb
    replace EC := ElAt.below EC hb
    clear p0 p1 p2 p3 p4 p5 p6 ea0 ea1 ea2 eb0 eb1 eb2
    clear hb
    go_upto_region 5 with (fail)
    have E1 := ElAt.new (la := la1) (sa := sa1) hrow
    have hb := below_new v5 (.cells #[.int .i64 la1, .bool sa1, .slice ra1 nn1 rc1] 28)
    obtain ⟨b1, hbd⟩ : ∃ z, z = v5.heap.size := ⟨_, rfl⟩
    rw [← hbd] at E1 ⊢
    generalize v5.alloc (.cells #[.int .i64 la1, .bool sa1, .slice ra1 nn1 rc1] 28) = v6 at hb E1 ⊢
    replace B := hB B hb
    replace GP := hG GP hb
    replace RP := hR RP hb
    replace EA := ElAt.below EA hb
    replace EB := ElAt.below EB hb
    replace EC := ElAt.below EC hb
    clear hrow hb hbd
    obtain ⟨p0, p1, p2, p3, p4, p5, p6⟩ := par_cells GP.out
    obtain ⟨eb0, eb1, eb2, -, -, -⟩ := elem_cells EB.out.heap
    obtain ⟨ea0, ea1, ea2, -, -, -⟩ := elem_cells EA.out.heap
    go_wp2_with fail
    (with_reducible refine (mul_e RP.out EB.out.rows EA.out.rows _ rfl _ rfl o1 O2.out).mono ?_)
    rintro e v7 ⟨la2, sa2, ra2, nn2, rc2, rs2, er2, rfl, hrow, hk, hk2, hb⟩
    have K2 := Lib.hid hk
    have J2 := Lib.hid hk2
    clear hk hk2
    replace B := hB B hb
    replace GP := hG GP hb
    replace RP := hR RP hb
    replace EA := ElAt.below EA hb
    replace EB := ElAt.below EB hb
    replace EC := ElAt.below EC hb
    replace E1 := ElAt.below E1 hb
    clear p0 p1 p2 p3 p4 p5 p6 eb0 eb1 eb2 ea0 ea1 ea2
    clear hb
    go_upto_region 6 with (fail)
    have E2 := ElAt.new (la := la2) (sa := sa2) hrow
    have hb := below_new v7 (.cells #[.int .i64 la2, .bool sa2, .slice ra2 nn2 rc2] 28)
    obtain ⟨b2, hbd⟩ : ∃ z, z = v7.heap.size := ⟨_, rfl⟩
    rw [← hbd] at E2 ⊢
    generalize v7.alloc (.cells #[.int .i64 la2, .bool sa2, .slice ra2 nn2 rc2] 28) = v8 at hb E2 ⊢
    replace B := hB B hb
    replace GP := hG GP hb
    replace RP := hR RP hb
    replace EA := ElAt.below EA hb
    replace EB := ElAt.below EB hb
    replace EC := ElAt.below EC hb
    replace E1 := ElAt.below E1 hb
    clear hrow hb hbd
    obtain ⟨p0, p1, p2, p3, p4, p5, p6⟩ := par_cells GP.out
    obtain ⟨eb0, eb1, eb2, -, -, -⟩ := elem_cells EB.out.heap
    obtain ⟨ec0, ec1, ec2, -, -, -⟩ := elem_cells EC.out.heap
    go_wp2_with fail
    (with_reducible refine (mul_e RP.out EB.out.rows EC.out.rows _ rfl _ rfl o3 O3.out).mono ?_)
    rintro e v9 ⟨la3, sa3, ra3, nn3, rc3, rs3, er3, rfl, hrow, hk, hk2, hb⟩
    have K3 := Lib.hid hk
    have J3 := Lib.hid hk2
    clear hk hk2
    replace B := hB B hb
    replace GP := hG GP hb
    replace RP := hR RP hb
    replace EA := ElAt.below EA hb
    replace EB := ElAt.below EB hb
    replace EC := ElAt.below EC hb
    replace E1 := ElAt.below E1 hb
    replace E2 := ElAt.below E2 hb
    clear p0 p1 p2 p3 p4 p5 p6 eb0 eb1 eb2 ec0 ec1 ec2
    clear hb
    go_upto_region 7 with (fail)
    have E3 := ElAt.new (la := la3) (sa := sa3) hrow
    have hb := below_new v9 (.cells #[.int .i64 la3, .bool sa3, .slice ra3 nn3 rc3] 28)
    obtain ⟨b3, hbd⟩ : ∃ z, z = v9.heap.size := ⟨_, rfl⟩
    rw [← hbd] at E3 ⊢
    generalize v9.alloc (.cells #[.int .i64 la3, .bool sa3, .slice ra3 nn3 rc3] 28) = v10 at hb E3 ⊢
    replace B := hB B hb
    replace GP := hG GP hb
    replace RP := hR RP hb
    replace EA := ElAt.below EA hb
    replace EB := ElAt.below EB hb
    replace EC := ElAt.below EC hb
    replace E1 := ElAt.below E1 hb
    replace E2 := ElAt.below E2 hb
    clear hrow hb hbd
    cases o1 with
    | false =>
      obtain rfl : 2 = er1 := by first | exact (J1.out rfl).2.2.2 | exact (J1.out trivial).2.2.2
      obtain rfl : 2 = er2 := by first | exact (J2.out rfl).2.2.2 | exact (J2.out trivial).2.2.2
      go_wp2_with fail
      (with_reducible refine (HAW.out _).mono ?_)
      rintro e wz ⟨rfl, hb⟩
      go_wp2
      rw [HP.out]
      exact ⟨rfl, below_via B.out hb⟩
    | true =>
    obtain ⟨rfl, rfl, rfl, rfl⟩ := (by first | exact K1.out rfl | exact K1.out trivial : _ = la1 ∧ _ = sa1 ∧ _ = rs1 ∧ _ = er1)
    clear K1 J1
    obtain ⟨rfl, rfl, rfl, rfl⟩ := (by first | exact K2.out rfl | exact K2.out trivial : _ = la2 ∧ _ = sa2 ∧ _ = rs2 ∧ _ = er2)
    clear K2 J2
    cases o3 with
    | false =>
      obtain rfl : 2 = er3 := by first | exact (J3.out rfl).2.2.2 | exact (J3.out trivial).2.2.2
      go_wp2_with fail
      (with_reducible refine (HAW.out _).mono ?_)
      rintro e wz ⟨rfl, hb⟩
      go_wp2
      rw [HP.out]
      exact ⟨rfl, below_via B.out hb⟩
    | true =>
    obtain ⟨rfl, rfl, rfl, rfl⟩ := (by first | exact K3.out rfl | exact K3.out trivial : _ = la3 ∧ _ = sa3 ∧ _ = rs3 ∧ _ = er3)
    clear K3 J3
    obtain ⟨rfl, rfl, k1, k2⟩ := twoB_parts O1.out.symm
    obtain ⟨rfl, rfl, -, k3⟩ := twoB_parts O3.out.symm
    obtain ⟨n, hn⟩ : ∃ n, n = N.toNat := ⟨_, rfl⟩
    obtain ⟨ml, hml⟩ : ∃ ml, ml = modl chain sp la.toNat sa := ⟨_, rfl⟩
    obtain ⟨c1, c2, c3, q1, q2, q3, q4⟩ := laws_plain k1 k2 k3 n hn ml hml
    have T1 := Lib.hid (twoB_of c1 k3)
    have T2 := Lib.hid (twoB_of k1 c2)
    have T3 := Lib.hid (twoB_of k1 k3)
    have T4 := Lib.hid (twoB_of c3 k2)
    have T5 := Lib.hid (twoB_of c1 c2)
    have T6 := Lib.hid (twoB_of c3 k3)
    have Q1 := Lib.hid q1
    have Q2 := Lib.hid q2
    have Q3 := Lib.hid q3
    have Q4 := Lib.hid q4
    rw [← hn, ← hml] at E1 E2 E3
    have HN := Lib.hid hn
    have HM := Lib.hid hml
    clear k1 k2 k3 c1 c2 c3 q1 q2 q3 q4 O1 O2 O3 hn hml
    obtain ⟨p0, p1, p2, p3, p4, p5, p6⟩ := par_cells GP.out
    obtain ⟨e10, e11, e12, -, -, -⟩ := elem_cells E1.out.heap
    obtain ⟨ec0, ec1, ec2, -, -, -⟩ := elem_cells EC.out.heap
    go_wp2_with fail
    (with_reducible refine (mul_e RP.out E1.out.rows EC.out.rows n HN.out ml HM.out true T1.out).mono ?_)
    rintro e v11 ⟨la4, sa4, ra4, nn4, rc4, rs4, er4, rfl, hrow, hk, hk2, hb⟩
    obtain ⟨rfl, rfl, rfl, rfl⟩ := hk rfl
    clear hk hk2
    replace B := hB B hb
    replace GP := hG GP hb
    replace RP := hR RP hb
    replace EA := ElAt.below EA hb
    replace EB := ElAt.below EB hb
    replace EC := ElAt.below EC hb
    replace E1 := ElAt.below E1 hb
    replace E2 := ElAt.below E2 hb
    replace E3 := ElAt.below E3 hb
    clear p0 p1 p2 p3 p4 p5 p6 e10 e11 e12 ec0 ec1 ec2
    clear hb
    go_upto_region 10 with (fail)
    have E4 := ElAt.new (la := la) (sa := sa) hrow
    have hb := below_new v11 (.cells #[.int .i64 la, .bool sa, .slice ra4 nn4 rc4] 28)
    obtain ⟨b4, hbd⟩ : ∃ z, z = v11.heap.size := ⟨_, rfl⟩
    rw [← hbd] at E4 ⊢
    generalize v11.alloc (.cells #[.int .i64 la, .bool sa, .slice ra4 nn4 rc4] 28) = v12 at hb E4 ⊢
    replace B := hB B hb
    replace GP := hG GP hb
    replace RP := hR RP hb
    replace EA := ElAt.below EA hb
    replace EB := ElAt.below EB hb
    replace EC := ElAt.below EC hb
    replace E1 := ElAt.below E1 hb
    replace E2 := ElAt.below E2 hb
    replace E3 := ElAt.below E3 hb
    clear hrow hb hbd
    obtain ⟨p0, p1, p2, p3, p4, p5, p6⟩ := par_cells GP.out
    obtain ⟨ea0, ea1, ea2, -, -, -⟩ := elem_cells EA.out.heap
    obtain ⟨e30, e31, e32, -, -, -⟩ := elem_cells E3.out.heap
    go_wp2_with fail
    (with_reducible refine (mul_e RP.out EA.out.rows E3.out.rows n HN.out ml HM.out true T2.out).mono ?_)
    rintro e v13 ⟨la5, sa5, ra5, nn5, rc5, rs5, er5, rfl, hrow, hk, hk2, hb⟩
    obtain ⟨rfl, rfl, rfl, rfl⟩ := hk rfl
    clear hk hk2
    replace B := hB B hb
    replace GP := hG GP hb
    replace RP := hR RP hb
    replace EA := ElAt.below EA hb
    replace EB := ElAt.below EB hb
    replace EC := ElAt.below EC hb
    replace E1 := ElAt.below E1 hb
    replace E2 := ElAt.below E2 hb
    replace E3 := ElAt.below E3 hb
    replace E4 := ElAt.below E4 hb
    clear p0 p1 p2 p3 p4 p5 p6 ea0 ea1 ea2 e30 e31 e32
    clear hb
    go_upto_region 11 with (fail)
    have E5 := ElAt.new (la := la) (sa := sa) hrow
    have hb := below_new v13 (.cells #[.int .i64 la, .bool sa, .slice ra5 nn5 rc5] 28)
    obtain ⟨b5, hbd⟩ : ∃ z, z = v13.heap.size := ⟨_, rfl⟩
    rw [← hbd] at E5 ⊢
    generalize v13.alloc (.cells #[.int .i64 la, .bool sa, .slice ra5 nn5 rc5] 28) = v14 at hb E5 ⊢
    replace B := hB B hb
    replace GP := hG GP hb
    replace RP := hR RP hb
    replace EA := ElAt.below EA hb
    replace EB := ElAt.below EB hb
    replace EC := ElAt.below EC hb
    replace E1 := ElAt.below E1 hb
    replace E2 := ElAt.below E2 hb
    replace E3 := ElAt.below E3 hb
    replace E4 := ElAt.below E4 hb
    clear hrow hb hbd
    obtain ⟨p0, p1, p2, p3, p4, p5, p6⟩ := par_cells GP.out
    obtain ⟨ea0, ea1, ea2, -, -, -⟩ := elem_cells EA.out.heap
    obtain ⟨ec0, ec1, ec2, -, -, -⟩ := elem_cells EC.out.heap
    go_wp2_with fail
    (with_reducible refine (add_e RP.out EA.out.rows EC.out.rows n HN.out ml HM.out true T3.out).mono ?_)
    rintro e v15 ⟨la6, sa6, ra6, nn6, rc6, rs6, er6, rfl, hrow, hk, hk2, hb⟩
    obtain ⟨rfl, rfl, rfl, rfl⟩ := hk rfl
    clear hk hk2
    replace B := hB B hb
    replace GP := hG GP hb
    replace RP := hR RP hb
    replace EA := ElAt.below EA hb
    replace EB := ElAt.below EB hb
    replace EC := ElAt.below EC hb
    replace E1 := ElAt.below E1 hb
    replace E2 := ElAt.below E2 hb
    replace E3 := ElAt.below E3 hb
    replace E4 := ElAt.below E4 hb
    replace E5 := ElAt.below E5 hb
    clear p0 p1 p2 p3 p4 p5 p6 ea0 ea1 ea2 ec0 ec1 ec2
    clear hb
    go_upto_region 12 with (fail)
    have E6 := ElAt.new (la := la) (sa := sa) hrow
    have hb := below_new v15 (.cells #[.int .i64 la, .bool sa, .slice ra6 nn6 rc6] 28)
    obtain ⟨b6, hbd⟩ : ∃ z, z = v15.heap.size := ⟨_, rfl⟩
    rw [← hbd] at E6 ⊢
    generalize v15.alloc (.cells #[.int .i64 la, .bool sa, .slice ra6 nn6 rc6] 28) = v16 at hb E6 ⊢
    replace B := hB B hb
    replace GP := hG GP hb
    replace RP := hR RP hb
    replace EA := ElAt.below EA hb
    replace EB := ElAt.below EB hb
    replace EC := ElAt.below EC hb
    replace E1 := ElAt.below E1 hb
    replace E2 := ElAt.below E2 hb
    replace E3 := ElAt.below E3 hb
    replace E4 := ElAt.below E4 hb
    replace E5 := ElAt.below E5 hb
    clear hrow hb hbd
    obtain ⟨p0, p1, p2, p3, p4, p5, p6⟩ := par_cells GP.out
    obtain ⟨e60, e61, e62, -, -, -⟩ := elem_cells E6.out.heap
    obtain ⟨eb0, eb1, eb2, -, -, -⟩ := elem_cells EB.out.heap
    go_wp2_with fail
    (with_reducible refine (mul_e RP.out E6.out.rows EB.out.rows n HN.out ml HM.out true T4.out).mono ?_)
    rintro e v17 ⟨la7, sa7, ra7, nn7, rc7, rs7, er7, rfl, hrow, hk, hk2, hb⟩
    obtain ⟨rfl, rfl, rfl, rfl⟩ := hk rfl
    clear hk hk2
    replace B := hB B hb
    replace GP := hG GP hb
    replace RP := hR RP hb
    replace EA := ElAt.below EA hb
    replace EB := ElAt.below EB hb
    replace EC := ElAt.below EC hb
    replace E1 := ElAt.below E1 hb
    replace E2 := ElAt.below E2 hb
    replace E3 := ElAt.below E3 hb
    replace E4 := ElAt.below E4 hb
    replace E5 := ElAt.below E5 hb
    replace E6 := ElAt.below E6 hb
    clear p0 p1 p2 p3 p4 p5 p6 e60 e61 e62 eb0 eb1 eb2
    clear hb
    go_upto_region 13 with (fail)
    have E7 := ElAt.new (la := la) (sa := sa) hrow
    have hb := below_new v17 (.cells #[.int .i64 la, .bool sa, .slice ra7 nn7 rc7] 28)
    obtain ⟨b7, hbd⟩ : ∃ z, z = v17.heap.size := ⟨_, rfl⟩
    rw [← hbd] at E7 ⊢
    generalize v17.alloc (.cells #[.int .i64 la, .bool sa, .slice ra7 nn7 rc7] 28) = v18 at hb E7 ⊢
    replace B := hB B hb
    replace GP := hG GP hb
    replace RP := hR RP hb
    replace EA := ElAt.below EA hb
    replace EB := ElAt.below EB hb
    replace EC := ElAt.below EC hb
    replace E1 := ElAt.below E1 hb
    replace E2 := ElAt.below E2 hb
    replace E3 := ElAt.below E3 hb
    replace E4 := ElAt.below E4 hb
    replace E5 := ElAt.below E5 hb
    replace E6 := ElAt.below E6 hb
    clear hrow hb hbd
    obtain ⟨p0, p1, p2, p3, p4, p5, p6⟩ := par_cells GP.out
    obtain ⟨e10, e11, e12, -, -, -⟩ := elem_cells E1.out.heap
    obtain ⟨e30, e31, e32, -, -, -⟩ := elem_cells E3.out.heap
    go_wp2_with fail
    (with_reducible refine (add_e RP.out E1.out.rows E3.out.rows n HN.out ml HM.out true T5.out).mono ?_)
    rintro e v19 ⟨la8, sa8, ra8, nn8, rc8, rs8, er8, rfl, hrow, hk, hk2, hb⟩
    obtain ⟨rfl, rfl, rfl, rfl⟩ := hk rfl
    clear hk hk2
    replace B := hB B hb
    replace GP := hG GP hb
    replace RP := hR RP hb
    replace EA := ElAt.below EA hb
    replace EB := ElAt.below EB hb
    replace EC := ElAt.below EC hb
    replace E1 := ElAt.below E1 hb
    replace E2 := ElAt.below E2 hb
    replace E3 := ElAt.below E3 hb
    replace E4 := ElAt.below E4 hb
    replace E5 := ElAt.below E5 hb
    replace E6 := ElAt.below E6 hb
    replace E7 := ElAt.below E7 hb
    clear p0 p1 p2 p3 p4 p5 p6 e10 e11 e12 e30 e31 e32
    clear hb
    go_upto_region 14 with (fail)
    have E8 := ElAt.new (la := la) (sa := sa) hrow
    have hb := below_new v19 (.cells #[.int .i64 la, .bool sa, .slice ra8 nn8 rc8] 28)
    obtain ⟨b8, hbd⟩ : ∃ z, z = v19.heap.size := ⟨_, rfl⟩
    rw [← hbd] at E8 ⊢
    generalize v19.alloc (.cells #[.int .i64 la, .bool sa, .slice ra8 nn8 rc8] 28) = v20 at hb E8 ⊢
    replace B := hB B hb
    replace GP := hG GP hb
    replace RP := hR RP hb
    replace EA := ElAt.below EA hb
    replace EB := ElAt.below EB hb
    replace EC := ElAt.below EC hb
    replace E1 := ElAt.below E1 hb
    replace E2 := ElAt.below E2 hb
    replace E3 := ElAt.below E3 hb
    replace E4 := ElAt.below E4 hb
    replace E5 := ElAt.below E5 hb
    replace E6 := ElAt.below E6 hb
    replace E7 := ElAt.below E7 hb
    clear hrow hb hbd
    obtain ⟨p0, p1, p2, p3, p4, p5, p6⟩ := par_cells GP.out
    obtain ⟨e60, e61, e62, -, -, -⟩ := elem_cells E6.out.heap
    obtain ⟨ec0, ec1, ec2, -, -, -⟩ := elem_cells EC.out.heap
    go_wp2_with fail
    (with_reducible refine (sub_e RP.out E6.out.rows EC.out.rows n HN.out ml HM.out true T6.out).mono ?_)
    rintro e v21 ⟨la9, sa9, ra9, nn9, rc9, rs9, er9, rfl, hrow, hk, hk2, hb⟩
    obtain ⟨rfl, rfl, rfl, rfl⟩ := hk rfl
    clear hk hk2
    replace B := hB B hb
    replace GP := hG GP hb
    replace RP := hR RP hb
    replace EA := ElAt.below EA hb
    replace EB := ElAt.below EB hb
    replace EC := ElAt.below EC hb
    replace E1 := ElAt.below E1 hb
    replace E2 := ElAt.below E2 hb
    replace E3 := ElAt.below E3 hb
    replace E4 := ElAt.below E4 hb
    replace E5 := ElAt.below E5 hb
    replace E6 := ElAt.below E6 hb
    replace E7 := ElAt.below E7 hb
    replace E8 := ElAt.below E8 hb
    clear p0 p1 p2 p3 p4 p5 p6 e60 e61 e62 ec0 ec1 ec2
    clear hb
    go_upto_region 15 with (fail)
    have E9 := ElAt.new (la := la) (sa := sa) hrow
    have hb := below_new v21 (.cells #[.int .i64 la, .bool sa, .slice ra9 nn9 rc9] 28)
    obtain ⟨b9, hbd⟩ : ∃ z, z = v21.heap.size := ⟨_, rfl⟩
    rw [← hbd] at E9 ⊢
    generalize v21.alloc (.cells #[.int .i64 la, .bool sa, .slice ra9 nn9 rc9] 28) = v22 at hb E9 ⊢
    replace B := hB B hb
    replace GP := hG GP hb
    replace RP := hR RP hb
    replace EA := ElAt.below EA hb
    replace EB := ElAt.below EB hb
    replace EC := ElAt.below EC hb
    replace E1 := ElAt.below E1 hb
    replace E2 := ElAt.below E2 hb
    replace E3 := ElAt.below E3 hb
    replace E4 := ElAt.below E4 hb
    replace E5 := ElAt.below E5 hb
    replace E6 := ElAt.below E6 hb
    replace E7 := ElAt.below E7 hb
    replace E8 := ElAt.below E8 hb
    clear hrow hb hbd
    clear EB EC E3 E6 GP RP
    obtain ⟨e10, e11, e12, -, -, -⟩ := elem_cells E1.out.heap
    obtain ⟨e20, e21, e22, -, -, -⟩ := elem_cells E2.out.heap
    go_wp2_with fail
    (with_reducible refine (lsame_any E1.out.rows E2.out.rows true (by rw [Q1.out]; simp)).mono ?_)
    rintro e v23 ⟨rfl, hb⟩
    replace B := hB B hb
    replace EA := ElAt.below EA hb
    replace E1 := ElAt.below E1 hb
    replace E2 := ElAt.below E2 hb
    replace E4 := ElAt.below E4 hb
    replace E5 := ElAt.below E5 hb
    replace E7 := ElAt.below E7 hb
    replace E8 := ElAt.below E8 hb
    replace E9 := ElAt.below E9 hb
    clear e10 e11 e12 e20 e21 e22
    clear hb
    clear E1 E2
    obtain ⟨e40, e41, e42, -, -, -⟩ := elem_cells E4.out.heap
    obtain ⟨e50, e51, e52, -, -, -⟩ := elem_cells E5.out.heap
    go_wp2_with fail
    (with_reducible refine (lsame_any E4.out.rows E5.out.rows true (by rw [Q2.out]; simp)).mono ?_)
    rintro e v24 ⟨rfl, hb⟩
    replace B := hB B hb
    replace EA := ElAt.below EA hb
    replace E4 := ElAt.below E4 hb
    replace E5 := ElAt.below E5 hb
    replace E7 := ElAt.below E7 hb
    replace E8 := ElAt.below E8 hb
    replace E9 := ElAt.below E9 hb
    clear e40 e41 e42 e50 e51 e52
    clear hb
    clear E4 E5
    obtain ⟨e70, e71, e72, -, -, -⟩ := elem_cells E7.out.heap
    obtain ⟨e80, e81, e82, -, -, -⟩ := elem_cells E8.out.heap
    go_wp2_with fail
    (with_reducible refine (lsame_any E7.out.rows E8.out.rows true (by rw [Q3.out]; simp)).mono ?_)
    rintro e v25 ⟨rfl, hb⟩
    replace B := hB B hb
    replace EA := ElAt.below EA hb
    replace E7 := ElAt.below E7 hb
    replace E8 := ElAt.below E8 hb
    replace E9 := ElAt.below E9 hb
    clear e70 e71 e72 e80 e81 e82
    clear hb
    clear E7 E8
    obtain ⟨e90, e91, e92, -, -, -⟩ := elem_cells E9.out.heap
    obtain ⟨ea0, ea1, ea2, -, -, -⟩ := elem_cells EA.out.heap
    go_wp2_with fail
    (with_reducible refine (lsame_any E9.out.rows EA.out.rows true (by rw [Q4.out]; simp)).mono ?_)
    rintro e v26 ⟨rfl, hb⟩
    replace B := hB B hb
    replace EA := ElAt.below EA hb
    replace E9 := ElAt.below E9 hb
    clear e90 e91 e92 ea0 ea1 ea2
    clear hb
    clear E9 EA
    go_wp2_with fail
    (with_reducible refine (HAW.out _).mono ?_)
    rintro e wz ⟨rfl, hb⟩
    go_wp2
    rw [HP.out]
    exact ⟨rfl, below_via B.out hb⟩
end Go.Proofs.Ytkjlfjnncdkmlaa.G
