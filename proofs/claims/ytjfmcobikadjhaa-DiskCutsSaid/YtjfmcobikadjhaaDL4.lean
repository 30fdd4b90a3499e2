/- Laws of the disk: where the power may fail: the walk. -/
import Derived.Test.YtjfmcobikadjhaaDL3
namespace Go.Proofs.Ytjfmcobikadjhaa
set_option linter.all false
open Go.RowKit Go.Shelf
set_option maxRecDepth 100000 in
set_option maxHeartbeats 40000000 in
theorem cuts_law (l0 l2 : List ByteArray) (s : ByteArray) (v0 v2 : Value) (w : World) (rd0 : w.reads w.heap.size v0 (l0.map Value.string)) (rd2 : w.reads w.heap.size v2 (l2.map Value.string)) (ln0 : l0.length ≤ maxLen) (ln2 : l2.length ≤ maxLen) :
    Calls Try.prog 4 #[v0, .string s, v2] w fun e w' => e = .returned (.bool true) ∧ Below w.heap.size w w' := by
  have ln0' : l0.length ≤ 9223372036854775807 := ln0
  have ln2' : l2.length ≤ 9223372036854775807 := ln2
  have HL0 := Lib.hid (Long_any l0 60 (by omega) ln0' v0 w rd0)
  have HL2 := Lib.hid (Long_any l2 60 (by omega) ln2' v2 w rd2)
  have HR0 := Lib.hid rd0
  have HR2 := Lib.hid rd2
  obtain ⟨F, hF⟩ : ∃ F, F = l0.map textL := ⟨_, rfl⟩
  obtain ⟨T, hT⟩ : ∃ F, F = l2.map textL := ⟨_, rfl⟩
  obtain ⟨r, hr⟩ : ∃ r, r = textL s := ⟨_, rfl⟩
  have hs : s = bytesOf r := by rw [hr, bytesOf_textL]
  clear hr
  subst hs
  obtain ⟨a0, c0, rfl, -, -, -, -⟩ := rd0
  obtain ⟨a2, c2, rfl, -, -, -, -⟩ := rd2
  rw [List.length_map] at HL0 HL2 HR0 HR2
  simp only [List.length_map]
  obtain ⟨n0, hn0⟩ : ∃ n, n = l0.length := ⟨_, rfl⟩
  obtain ⟨n2, hn2⟩ : ∃ n, n = l2.length := ⟨_, rfl⟩
  rw [map_text, ← hF, ← hn0] at HR0
  rw [map_text, ← hT, ← hn2] at HR2
  rw [← hn0] at HL0 ⊢
  rw [← hn2] at HL2 ⊢
  obtain ⟨m, hm⟩ : ∃ m, m = r.length := ⟨_, rfl⟩
  have hsz : (bytesOf r).size = m := by rw [hm]; rfl
  have hsz1 : ((bytesOf r).size : Int) = (m : Int) := by rw [hsz]
  have HF := Lib.hid hF
  have HT := Lib.hid hT
  have HM := Lib.hid hm
  have HN0 := Lib.hid hn0
  have HN2 := Lib.hid hn2
  clear hF hT hm hn0 hn2 hsz ln0 ln2 ln0' ln2'
  go_enter Try.func4, Try.ntmps4
  by_cases d1 : 10 < n0
  · have d1' : (10 : Int) < (n0 : Int) := by omega
    go_wp2_with fail
    refine (shown_any _).mono ?_
    rintro e wz ⟨rfl, hbz⟩
    go_wp2
    go_ret
    exact ⟨rfl, hbz⟩
  have d1' : ¬ (10 : Int) < (n0 : Int) := by omega
  by_cases d2 : 10 < n2
  · have d2' : (10 : Int) < (n2 : Int) := by omega
    go_wp2_with fail
    refine (shown_any _).mono ?_
    rintro e wz ⟨rfl, hbz⟩
    go_wp2
    go_ret
    exact ⟨rfl, hbz⟩
  have d2' : ¬ (10 : Int) < (n2 : Int) := by omega
  go_wp2_with fail
  refine HL0.out.mono ?_
  rintro e w1 ⟨he, rfl⟩
  cases hb1 : longB l0 60
  case true =>
    rw [hb1] at he
    subst he
    go_wp2_with fail
    refine (shown_any _).mono ?_
    rintro e wz ⟨rfl, hbz⟩
    go_wp2
    go_ret
    exact ⟨rfl, hbz⟩
  rw [hb1] at he
  subst he
  go_wp2_with fail
  refine HL2.out.mono ?_
  rintro e w1 ⟨he, rfl⟩
  cases hb2 : longB l2 60
  case true =>
    rw [hb2] at he
    subst he
    go_wp2_with fail
    refine (shown_any _).mono ?_
    rintro e wz ⟨rfl, hbz⟩
    go_wp2
    go_ret
    exact ⟨rfl, hbz⟩
  rw [hb2] at he
  subst he
  by_cases d5 : 60 < m
  · have d5' : (60 : Int) < (m : Int) := by omega
    go_wp2_with fail
    refine (shown_any _).mono ?_
    rintro e wz ⟨rfl, hbz⟩
    go_wp2
    go_ret
    exact ⟨rfl, hbz⟩
  have d5' : ¬ (60 : Int) < (m : Int) := by omega
  obtain ⟨q1, q2⟩ := longB_sum l0 60 17 hb1 (by omega)
  obtain ⟨q3, q4⟩ := longB_sum l2 60 17 hb2 (by omega)
  rw [← HF.out] at q1 q2
  rw [← HT.out] at q3 q4
  rw [← HN0.out] at q1
  rw [← HN2.out] at q3
  have hsF : Hid (sumR F ≤ 200) := by show sumR F ≤ 200; unfold sumR; omega
  have hsT : Hid (sumR T ≤ 200) := by show sumR T ≤ 200; unfold sumR; omega
  have hlF : Hid (longAny F = false) := longAny_of (fun x hx => by have := q2 x hx; omega)
  have hlT : Hid (longAny T = false) := longAny_of (fun x hx => by have := q4 x hx; omega)
  have hrl : r.length ≤ 60 := by rw [← HM.out]; omega
  have HPL : Hid (∀ n : Nat, n ≤ 519 → _) := fun n hn => cuts_plan F T r n hsF.out hsT.out hlF.out hlT.out hrl hn
  have hFn : F.length = n0 := by rw [HF.out, List.length_map, ← HN0.out]
  have hTn : T.length = n2 := by rw [HT.out, List.length_map, ← HN2.out]
  clear q1 q2 q3 q4 hb1 hb2 HL0 HL2 hsF hsT hlF hlT
  obtain ⟨i0, hi0, hiz, hiz1, hizb⟩ := info_parts infoStr
  go_wp2_with (at_builtin; first
    | (refine wpList_append_reads (w.alloc (.cells #[] 9)) rfl (.tmp 37) (.tmp 38) 30 rfl w.heap.size 9 i0 (.string ByteArray.empty) 16 Try.underlying30 hi0 hiz hiz1 hizb rfl (.slice (some ⟨w.heap.size, 0, none⟩) 0 0) 0 [] rfl (owns_empty w _) w.heap.size (.slice a0 n0 c0) (F.map strV) rfl (HR0.out.alloc (Nat.le_refl _) _) (fun u hu => by obtain ⟨x, _, rfl⟩ := List.mem_map.1 hu; exact one_str x) (by rw [List.length_map, hFn]; unfold maxLen; omega) (by rw [List.length_map, hFn]; omega) (by simp) ?_; intro v4 w4 hown4 hg4; rw [List.length_map, hFn, Nat.zero_add, List.nil_append] at hown4; have HO4 := Lib.hid hown4; obtain ⟨va4, vc4, rfl, -, -, -⟩ := hown4.at_; have hb4 : Below w.heap.size w w4 := (((Below.refl _ w).alloc (Nat.le_refl _) _)).grown hg4 (by simp) (fun k hk => by simp [Value.ownBlock] at hk; omega); have hz4 := hb4.size; have HB4 := Lib.hid hb4; clear hown4 hg4 hb4)
    | (refine wpList_append1 (W := w4) rfl (.tmp 39) (.tmp 41) 30 rfl w.heap.size 9 i0 (.string ByteArray.empty) 16 Try.underlying30 hi0 hiz hiz1 hizb rfl (.slice va4 n0 vc4) n0 (F.map strV) rfl HO4.out (.string (bytesOf r)) w4.heap.size rfl rfl rfl (by unfold maxLen; omega) (by omega) (by omega) ?_; intro v5 w5 hown5 hg5a hg5 hz5; have HO5 := Lib.hid hown5; obtain ⟨g5, q5, rfl⟩ := hown5.succ; have HB5 := Lib.hid (HB4.out.trans (below_grown HO4.out hg5 w.heap.size (Nat.le_refl _) hz4)); clear hown5 hg5a hg5))
  go_loopw [8] (fun iv wr => ∃ i : Nat, i ≤ 520 ∧ iv = .int .i64 (i : Int) ∧ Hid (Below w.heap.size w wr) ∧ Hid (wr.reads w5.heap.size (.slice (some ⟨g5, 0, none⟩) (n0 + 1) q5) ((F ++ [r]).map strV)) ∧ w5.heap.size ≤ wr.heap.size) (fun iv _ => 520 - (intOf iv).toNat)
  case atStart =>
    refine ⟨0, by omega, rfl, HB5.out, ?_, Nat.le_refl _⟩
    have := HO5.out.reads
    rw [List.map_append]
    exact this
  case round =>
    obtain ⟨i, hi, rfl, hB, hA, hzr⟩ := hrel
    by_cases hlt : i < 520
    case neg =>
      have hlt' : ¬ (i : Int) < 520 := by omega
      have hzw := hB.out.size
      go_wp2_with fail
      refine (shown_any _).mono ?_
      rintro e wz ⟨rfl, hbz⟩
      go_wp2
      go_ret
      exact ⟨rfl, hB.out.trans (hbz.mono hzw)⟩
    have hlt' : (i : Int) < 520 := by omega
    obtain ⟨D1, e2, D2, e4, D4, p1, p2, p3, p4, p5, p6, p7, p8, p9⟩ := HPL.out i (by omega)
    have P1 := Lib.hid p1
    have P2 := Lib.hid p2
    have P3 := Lib.hid p3
    have P4 := Lib.hid p4
    have P5 := Lib.hid p5
    have P7 := Lib.hid p7
    have P8 := Lib.hid p8
    have P6 := Lib.hid p6
    have P9 := Lib.hid p9
    have HNG : Hid ((newDk 400).ok) := (newDk_post 400 (by omega) (by omega)).1.ok
    have hzw := hB.out.size
    clear p1 p2 p3 p4 p5 p6 p7 p8 p9
    go_wp2_with fail
    refine (New_any 400 (by omega) (by omega) _).mono ?_
    rintro e w6 ⟨⟨p, b0, b1, rfl, hd6, hp, hb0, hb1⟩, hb6⟩
    have HD6 := Lib.hid hd6
    have HP : Hid (∀ k, three p b0 b1 k → wr.heap.size ≤ k) := fun k q => by rcases q with rfl | rfl | rfl <;> omega
    have HPU : Hid (∀ k, three p b0 b1 k → k < w6.heap.size) := fun k q => by
      have h1 := lt_of_heap hd6.at_
      have h2 := hd6.a0.lt
      have h3 := hd6.a1.lt
      rcases q with rfl | rfl | rfl <;> omega
    have HB6 : Hid (Below w.heap.size w w6) := hB.out.trans (hb6.mono hzw)
    have HB6r := Lib.hid hb6
    have HA6 : Hid (w6.reads w5.heap.size (.slice (some ⟨g5, 0, none⟩) (n0 + 1) q5) ((F ++ [r]).map strV)) := hA.out.below (hb6.mono hzr)
    have HF6 := Lib.hid (HR0.out.below HB6.out)
    have HT6 := Lib.hid (HR2.out.below HB6.out)
    have hz6 := hb6.size
    clear hd6 hp hb0 hb1 hb6
    go_wp2_with fail
    refine (Rewrite_any p b0 b1 (newDk 400) F _ _ (HF6.out.mono (by omega)) HD6.out HNG.out).mono ?_
    rintro e w7 ⟨he, hd7, hk7⟩
    rw [P1.out] at he hd7
    subst he
    have HD7 := Lib.hid hd7
    have HK7 := Lib.hid hk7
    have hz7 := hk7.size
    clear hd7 hk7
    go_wp2_with fail
    refine (Fuse_any p b0 b1 D1 (i : Int) _ HD7.out).mono ?_
    rintro e w8 ⟨he, hd8, hk8⟩
    rw [show D1.fused (i : Int) = (0, { D1 with fuse := (i : Int) }) from if_neg (by omega)] at he hd8
    subst he
    have HD8 := Lib.hid hd8
    have HK8 := Lib.hid (HK7.out.trans hk8)
    have hz8 := hk8.size
    clear hd8 hk8 HD7 HK7
    go_wp2_with fail
    refine (Append_any p b0 b1 ({ D1 with fuse := (i : Int) } : Dk) r (by omega) _ HD8.out P3.out).mono ?_
    rintro e w9 ⟨he, hd9, hk9⟩
    rw [P4.out] at he hd9
    subst he
    have HD9 := Lib.hid hd9
    have HK9 := Lib.hid (HK8.out.trans hk9)
    have hz9 := hk9.size
    clear hd9 hk9 HD8 HK8
    go_wp2_with fail
    have HE2 := Lib.hid (seenErr_of P5.out)
    refine (Records_any p b0 b1 D2 _ HD9.out P5.out.ok).mono ?_
    rintro e w10 ⟨⟨v, he, hr10, -⟩, hb10⟩
    rw [HE2.out] at he
    subst he
    have HD10 := Lib.hid (HD9.out.kept hb10)
    have HK10 := Lib.hid (HK9.out.trans (Kp.of_below hb10))
    have HR10 := Lib.hid hr10
    have hz10 := hb10.size
    obtain ⟨va, vc, rfl, -, -, -, -⟩ := hr10
    obtain ⟨L10, hL10⟩ : ∃ L, L = (D2.texts.map strV).length := ⟨_, rfl⟩
    rw [← hL10] at HR10 ⊢
    clear hL10
    have HA10 := Lib.hid ((HK10.out.readsB HA6.out (fun k q => by have := HP.out k q; omega)).mono (show w5.heap.size ≤ w10.heap.size by omega))
    have HF10 := Lib.hid ((HK10.out.readsB HF6.out (fun k q => by have := HP.out k q; omega)).mono (show w.heap.size ≤ w10.heap.size by omega))
    clear hb10 HD9 HK9
    rcases P6.out with ⟨h2, ht2⟩ | ⟨h2, h100, ht2⟩
    · subst h2
      have HTX := Lib.hid ht2
      have HTL : Hid (D2.texts.length ≤ 9223372036854775807) := by show _ ≤ _; rw [ht2, List.length_append, List.length_singleton, hFn]; omega
      clear ht2
      rw [HTX.out] at HR10
      go_wp2_with fail
      refine (SameT_any (F ++ [r]) (F ++ [r]) (by simp only [List.length_append, List.length_singleton, hFn, hTn]; omega) _ _ _ HR10.out HA10.out).mono ?_
      rintro e w11 ⟨he, hbs⟩
      rw [decide_eq_true rfl] at he
      subst he
      have hzw11 := hbs.size
      have HR11 := Lib.hid ((HR10.out.below hbs).mono hzw11)
      have HA11 := Lib.hid ((HA10.out.below hbs).mono hzw11)
      have HF11 := Lib.hid ((HF10.out.below hbs).mono hzw11)
      have HD11 := Lib.hid (HD10.out.kept hbs)
      have HK11 := Lib.hid (HK10.out.trans (Kp.of_below hbs))
      clear hbs HR10 HA10 HF10 HD10 HK10
      go_wp2_with fail
      refine (SameT_any (F ++ [r]) (F ++ [r]) (by simp only [List.length_append, List.length_singleton, hFn, hTn]; omega) _ _ _ HR11.out HA11.out).mono ?_
      rintro e w12 ⟨he, hbs⟩
      rw [decide_eq_true rfl] at he
      subst he
      have hzw12 := hbs.size
      have HR12 := Lib.hid ((HR11.out.below hbs).mono hzw12)
      have HA12 := Lib.hid ((HA11.out.below hbs).mono hzw12)
      have HF12 := Lib.hid ((HF11.out.below hbs).mono hzw12)
      have HD12 := Lib.hid (HD11.out.kept hbs)
      have HK12 := Lib.hid (HK11.out.trans (Kp.of_below hbs))
      clear hbs HR11 HA11 HF11 HD11 HK11
      by_cases h100 : 100 < i
      · have h100' : (100 : Int) < (i : Int) := by omega
        go_wp2_with fail
        refine (Restart_any p b0 b1 D2 _ HD12.out).mono ?_
        rintro e w13 ⟨⟨v13, rfl⟩, hd13, hk13⟩
        have HD13 := Lib.hid hd13
        have HK13 := Lib.hid (HK12.out.trans hk13)
        have hz13 := hk13.size
        clear hd13 hk13 HD12 HK12 HR12 HA12 HF12
        have HG13 : Hid (({ D2 with fuse := -1, failed := false } : Dk).good) := good_fuse P5.out (-1) (by omega) (by omega) false
        have HE13 : Hid (({ D2 with fuse := -1, failed := false } : Dk).seenErr = 0) := seenErr_of HG13.out
        go_wp2_with fail
        refine (Records_any p b0 b1 ({ D2 with fuse := -1, failed := false } : Dk) _ HD13.out HG13.out.ok).mono ?_
        rintro e w14 ⟨⟨v, he, hr14, hv14⟩, hb14⟩
        rw [HE13.out] at he
        subst he
        have HD14 := Lib.hid (HD13.out.kept hb14)
        have HK14 := Lib.hid (HK13.out.trans (Kp.of_below hb14))
        have HR14 : Hid (w14.reads w14.heap.size v (D2.texts.map strV)) := hr14
        have hz14 := hb14.size
        have HV14 : Hid (∀ k, v.ownBlock = some k → ¬ three p b0 b1 k) := fun k e q => by
          have h1 := hv14 k e
          have h2 := HPU.out k q
          omega
        obtain ⟨wa, wc, rfl, -, -, -, -⟩ := hr14
        obtain ⟨L14, hL14⟩ : ∃ L, L = (D2.texts.map strV).length := ⟨_, rfl⟩
        rw [show ((({ D2 with fuse := -1, failed := false } : Dk).texts.map strV).length) = L14 from hL14.symm] at HR14 HV14 ⊢
        clear hL14
        clear hv14 hb14 HD13 HK13 HE13 HG13
        go_wp2_with fail
        refine (Fuse_any p b0 b1 ({ D2 with fuse := -1, failed := false } : Dk) (i : Int) _ HD14.out).mono ?_
        rintro e w15 ⟨he, hd15, hk15⟩
        rw [show ({ D2 with fuse := -1, failed := false } : Dk).fused (i : Int) = (0, { D2 with fuse := (i : Int), failed := false }) from if_neg (by omega)] at he hd15
        subst he
        have HD15 := Lib.hid hd15
        have HK15 := Lib.hid (HK14.out.trans hk15)
        have HW15 := Lib.hid (hk15.reads HR14.out HV14.out)
        have hz15 := hk15.size
        have HT15 := Lib.hid (HK15.out.readsB HT6.out (fun k q => by have := HP.out k q; omega))
        clear hd15 hk15 HD14 HK14 HR14
        have HG15 : Hid (({ D2 with fuse := (i : Int), failed := false } : Dk).ok) := (good_fuse P5.out (i : Int) (by omega) (by omega) false).ok
        go_wp2_with fail
        refine (Rewrite_any p b0 b1 ({ D2 with fuse := (i : Int), failed := false } : Dk) T _ _ (HT15.out.mono (by omega)) HD15.out HG15.out).mono ?_
        rintro e w16 ⟨he, hd16, hk16⟩
        rw [P7.out] at he hd16
        subst he
        have HD16 := Lib.hid hd16
        have HK16 := Lib.hid (HK15.out.trans hk16)
        have HW16 := Lib.hid (hk16.reads HW15.out HV14.out)
        have hz16 := hk16.size
        clear hd16 hk16 HD15 HK15 HW15 HT15 HG15
        go_wp2_with fail
        refine (Restart_any p b0 b1 D4 _ HD16.out).mono ?_
        rintro e w17 ⟨⟨v17, rfl⟩, hd17, hk17⟩
        have HD17 := Lib.hid hd17
        have HK17 := Lib.hid (HK16.out.trans hk17)
        have HW17 := Lib.hid (hk17.reads HW16.out HV14.out)
        have hz17 := hk17.size
        clear hd17 hk17 HD16 HK16 HW16
        have HG17 : Hid (({ D4 with fuse := -1, failed := false } : Dk).good) := good_fuse P8.out (-1) (by omega) (by omega) false
        have HE17 : Hid (({ D4 with fuse := -1, failed := false } : Dk).seenErr = 0) := seenErr_of HG17.out
        go_wp2_with fail
        refine (Records_any p b0 b1 ({ D4 with fuse := -1, failed := false } : Dk) _ HD17.out HG17.out.ok).mono ?_
        rintro e w18 ⟨⟨v, he, hr18, -⟩, hb18⟩
        rw [HE17.out] at he
        subst he
        have HK18 := Lib.hid (HK17.out.trans (Kp.of_below hb18))
        have HR18 : Hid (w18.reads w18.heap.size v (D4.texts.map strV)) := hr18
        have hz18 := hb18.size
        have HW18 := Lib.hid (((HW17.out.mono (show w14.heap.size ≤ w17.heap.size by omega)).below hb18).mono hz18)
        have HT18 := Lib.hid ((HK18.out.readsB HT6.out (fun k q => by have := HP.out k q; omega)).mono (show w.heap.size ≤ w18.heap.size by omega))
        obtain ⟨xa, xc, rfl, -, -, -, -⟩ := hr18
        obtain ⟨L18, hL18⟩ : ∃ L, L = (D4.texts.map strV).length := ⟨_, rfl⟩
        rw [show ((({ D4 with fuse := -1, failed := false } : Dk).texts.map strV).length) = L18 from hL18.symm] at HR18 ⊢
        clear hL18
        clear hb18 HD17 HK17 HW17 HE17 HG17
        have HD2L : Hid (D2.texts.length ≤ 9223372036854775807) := HTL.out
        rcases P9.out with ⟨h4, ht4⟩ | ⟨h4, h450, ht4⟩
        · subst h4
          have HTX4 := Lib.hid ht4
          clear ht4
          rw [HTX4.out] at HR18
          go_wp2_with fail
          refine (SameT_any (T) (T) (by simp only [List.length_append, List.length_singleton, hFn, hTn]; omega) _ _ _ HR18.out HT18.out).mono ?_
          rintro e w19 ⟨he, hbs⟩
          rw [decide_eq_true rfl] at he
          subst he
          have hzw19 := hbs.size
          have HR19 := Lib.hid ((HR18.out.below hbs).mono hzw19)
          have HT19 := Lib.hid ((HT18.out.below hbs).mono hzw19)
          have HW19 := Lib.hid ((HW18.out.below hbs).mono hzw19)
          have HK19 := Lib.hid (HK18.out.trans (Kp.of_below hbs))
          clear hbs HR18 HT18 HW18 HK18
          go_wp2_with fail
          refine (SameT_any (T) (T) (by simp only [List.length_append, List.length_singleton, hFn, hTn]; omega) _ _ _ HR19.out HT19.out).mono ?_
          rintro e w20 ⟨he, hbs⟩
          rw [decide_eq_true rfl] at he
          subst he
          have hzw20 := hbs.size
          have HR20 := Lib.hid ((HR19.out.below hbs).mono hzw20)
          have HT20 := Lib.hid ((HT19.out.below hbs).mono hzw20)
          have HW20 := Lib.hid ((HW19.out.below hbs).mono hzw20)
          have HK20 := Lib.hid (HK19.out.trans (Kp.of_below hbs))
          clear hbs HR19 HT19 HW19 HK19
          by_cases h450 : 450 < i
          · have h450' : (450 : Int) < (i : Int) := by omega
            go_wp2
            go_roundw
            case rel =>
              refine ⟨i + 1, by omega, by go_num, HB6.out.trans (HK20.out.below (by omega) (fun k q => by have := HP.out k q; omega)), HK20.out.readsB HA6.out (fun k q => by have := HP.out k q; omega), by omega⟩
            case measure => simp [intOf]; omega
          · have h450' : ¬ (450 : Int) < (i : Int) := by omega
            go_wp2
            go_roundw
            case rel =>
              refine ⟨i + 1, by omega, by go_num, HB6.out.trans (HK20.out.below (by omega) (fun k q => by have := HP.out k q; omega)), HK20.out.readsB HA6.out (fun k q => by have := HP.out k q; omega), by omega⟩
            case measure => simp [intOf]; omega
        · subst h4
          have HTX4 := Lib.hid ht4
          clear ht4
          rw [HTX4.out] at HR18
          have h450' : ¬ (450 : Int) < (i : Int) := by omega
          by_cases heq : D2.texts = T
          · have HEQ := Lib.hid heq
            clear heq
            go_wp2_with fail
            refine (SameT_any (D2.texts) (T) (HD2L.out) _ _ _ HR18.out HT18.out).mono ?_
            rintro e w19 ⟨he, hbs⟩
            rw [decide_eq_true HEQ.out] at he
            subst he
            have hzw19 := hbs.size
            have HR19 := Lib.hid ((HR18.out.below hbs).mono hzw19)
            have HT19 := Lib.hid ((HT18.out.below hbs).mono hzw19)
            have HW19 := Lib.hid ((HW18.out.below hbs).mono hzw19)
            have HK19 := Lib.hid (HK18.out.trans (Kp.of_below hbs))
            clear hbs HR18 HT18 HW18 HK18
            go_wp2
            go_roundw
            case rel =>
              refine ⟨i + 1, by omega, by go_num, HB6.out.trans (HK19.out.below (by omega) (fun k q => by have := HP.out k q; omega)), HK19.out.readsB HA6.out (fun k q => by have := HP.out k q; omega), by omega⟩
            case measure => simp [intOf]; omega
          · have HEQ := Lib.hid heq
            clear heq
            go_wp2_with fail
            refine (SameT_any (D2.texts) (T) (HD2L.out) _ _ _ HR18.out HT18.out).mono ?_
            rintro e w19 ⟨he, hbs⟩
            rw [decide_eq_false HEQ.out] at he
            subst he
            have hzw19 := hbs.size
            have HR19 := Lib.hid ((HR18.out.below hbs).mono hzw19)
            have HT19 := Lib.hid ((HT18.out.below hbs).mono hzw19)
            have HW19 := Lib.hid ((HW18.out.below hbs).mono hzw19)
            have HK19 := Lib.hid (HK18.out.trans (Kp.of_below hbs))
            clear hbs HR18 HT18 HW18 HK18
            go_wp2_with fail
            refine (SameT_any (D2.texts) (D2.texts) (HD2L.out) _ _ _ HR19.out HW19.out).mono ?_
            rintro e w20 ⟨he, hbs⟩
            rw [decide_eq_true rfl] at he
            subst he
            have hzw20 := hbs.size
            have HR20 := Lib.hid ((HR19.out.below hbs).mono hzw20)
            have HT20 := Lib.hid ((HT19.out.below hbs).mono hzw20)
            have HW20 := Lib.hid ((HW19.out.below hbs).mono hzw20)
            have HK20 := Lib.hid (HK19.out.trans (Kp.of_below hbs))
            clear hbs HR19 HT19 HW19 HK19
            go_wp2
            go_roundw
            case rel =>
              refine ⟨i + 1, by omega, by go_num, HB6.out.trans (HK20.out.below (by omega) (fun k q => by have := HP.out k q; omega)), HK20.out.readsB HA6.out (fun k q => by have := HP.out k q; omega), by omega⟩
            case measure => simp [intOf]; omega
      · have h100' : ¬ (100 : Int) < (i : Int) := by omega
        go_wp2_with fail
        refine (Restart_any p b0 b1 D2 _ HD12.out).mono ?_
        rintro e w13 ⟨⟨v13, rfl⟩, hd13, hk13⟩
        have HD13 := Lib.hid hd13
        have HK13 := Lib.hid (HK12.out.trans hk13)
        have hz13 := hk13.size
        clear hd13 hk13 HD12 HK12 HR12 HA12 HF12
        have HG13 : Hid (({ D2 with fuse := -1, failed := false } : Dk).good) := good_fuse P5.out (-1) (by omega) (by omega) false
        have HE13 : Hid (({ D2 with fuse := -1, failed := false } : Dk).seenErr = 0) := seenErr_of HG13.out
        go_wp2_with fail
        refine (Records_any p b0 b1 ({ D2 with fuse := -1, failed := false } : Dk) _ HD13.out HG13.out.ok).mono ?_
        rintro e w14 ⟨⟨v, he, hr14, hv14⟩, hb14⟩
        rw [HE13.out] at he
        subst he
        have HD14 := Lib.hid (HD13.out.kept hb14)
        have HK14 := Lib.hid (HK13.out.trans (Kp.of_below hb14))
        have HR14 : Hid (w14.reads w14.heap.size v (D2.texts.map strV)) := hr14
        have hz14 := hb14.size
        have HV14 : Hid (∀ k, v.ownBlock = some k → ¬ three p b0 b1 k) := fun k e q => by
          have h1 := hv14 k e
          have h2 := HPU.out k q
          omega
        obtain ⟨wa, wc, rfl, -, -, -, -⟩ := hr14
        obtain ⟨L14, hL14⟩ : ∃ L, L = (D2.texts.map strV).length := ⟨_, rfl⟩
        rw [show ((({ D2 with fuse := -1, failed := false } : Dk).texts.map strV).length) = L14 from hL14.symm] at HR14 HV14 ⊢
        clear hL14
        clear hv14 hb14 HD13 HK13 HE13 HG13
        go_wp2_with fail
        refine (Fuse_any p b0 b1 ({ D2 with fuse := -1, failed := false } : Dk) (i : Int) _ HD14.out).mono ?_
        rintro e w15 ⟨he, hd15, hk15⟩
        rw [show ({ D2 with fuse := -1, failed := false } : Dk).fused (i : Int) = (0, { D2 with fuse := (i : Int), failed := false }) from if_neg (by omega)] at he hd15
        subst he
        have HD15 := Lib.hid hd15
        have HK15 := Lib.hid (HK14.out.trans hk15)
        have HW15 := Lib.hid (hk15.reads HR14.out HV14.out)
        have hz15 := hk15.size
        have HT15 := Lib.hid (HK15.out.readsB HT6.out (fun k q => by have := HP.out k q; omega))
        clear hd15 hk15 HD14 HK14 HR14
        have HG15 : Hid (({ D2 with fuse := (i : Int), failed := false } : Dk).ok) := (good_fuse P5.out (i : Int) (by omega) (by omega) false).ok
        go_wp2_with fail
        refine (Rewrite_any p b0 b1 ({ D2 with fuse := (i : Int), failed := false } : Dk) T _ _ (HT15.out.mono (by omega)) HD15.out HG15.out).mono ?_
        rintro e w16 ⟨he, hd16, hk16⟩
        rw [P7.out] at he hd16
        subst he
        have HD16 := Lib.hid hd16
        have HK16 := Lib.hid (HK15.out.trans hk16)
        have HW16 := Lib.hid (hk16.reads HW15.out HV14.out)
        have hz16 := hk16.size
        clear hd16 hk16 HD15 HK15 HW15 HT15 HG15
        go_wp2_with fail
        refine (Restart_any p b0 b1 D4 _ HD16.out).mono ?_
        rintro e w17 ⟨⟨v17, rfl⟩, hd17, hk17⟩
        have HD17 := Lib.hid hd17
        have HK17 := Lib.hid (HK16.out.trans hk17)
        have HW17 := Lib.hid (hk17.reads HW16.out HV14.out)
        have hz17 := hk17.size
        clear hd17 hk17 HD16 HK16 HW16
        have HG17 : Hid (({ D4 with fuse := -1, failed := false } : Dk).good) := good_fuse P8.out (-1) (by omega) (by omega) false
        have HE17 : Hid (({ D4 with fuse := -1, failed := false } : Dk).seenErr = 0) := seenErr_of HG17.out
        go_wp2_with fail
        refine (Records_any p b0 b1 ({ D4 with fuse := -1, failed := false } : Dk) _ HD17.out HG17.out.ok).mono ?_
        rintro e w18 ⟨⟨v, he, hr18, -⟩, hb18⟩
        rw [HE17.out] at he
        subst he
        have HK18 := Lib.hid (HK17.out.trans (Kp.of_below hb18))
        have HR18 : Hid (w18.reads w18.heap.size v (D4.texts.map strV)) := hr18
        have hz18 := hb18.size
        have HW18 := Lib.hid (((HW17.out.mono (show w14.heap.size ≤ w17.heap.size by omega)).below hb18).mono hz18)
        have HT18 := Lib.hid ((HK18.out.readsB HT6.out (fun k q => by have := HP.out k q; omega)).mono (show w.heap.size ≤ w18.heap.size by omega))
        obtain ⟨xa, xc, rfl, -, -, -, -⟩ := hr18
        obtain ⟨L18, hL18⟩ : ∃ L, L = (D4.texts.map strV).length := ⟨_, rfl⟩
        rw [show ((({ D4 with fuse := -1, failed := false } : Dk).texts.map strV).length) = L18 from hL18.symm] at HR18 ⊢
        clear hL18
        clear hb18 HD17 HK17 HW17 HE17 HG17
        have HD2L : Hid (D2.texts.length ≤ 9223372036854775807) := HTL.out
        rcases P9.out with ⟨h4, ht4⟩ | ⟨h4, h450, ht4⟩
        · subst h4
          have HTX4 := Lib.hid ht4
          clear ht4
          rw [HTX4.out] at HR18
          go_wp2_with fail
          refine (SameT_any (T) (T) (by simp only [List.length_append, List.length_singleton, hFn, hTn]; omega) _ _ _ HR18.out HT18.out).mono ?_
          rintro e w19 ⟨he, hbs⟩
          rw [decide_eq_true rfl] at he
          subst he
          have hzw19 := hbs.size
          have HR19 := Lib.hid ((HR18.out.below hbs).mono hzw19)
          have HT19 := Lib.hid ((HT18.out.below hbs).mono hzw19)
          have HW19 := Lib.hid ((HW18.out.below hbs).mono hzw19)
          have HK19 := Lib.hid (HK18.out.trans (Kp.of_below hbs))
          clear hbs HR18 HT18 HW18 HK18
          go_wp2_with fail
          refine (SameT_any (T) (T) (by simp only [List.length_append, List.length_singleton, hFn, hTn]; omega) _ _ _ HR19.out HT19.out).mono ?_
          rintro e w20 ⟨he, hbs⟩
          rw [decide_eq_true rfl] at he
          subst he
          have hzw20 := hbs.size
          have HR20 := Lib.hid ((HR19.out.below hbs).mono hzw20)
          have HT20 := Lib.hid ((HT19.out.below hbs).mono hzw20)
          have HW20 := Lib.hid ((HW19.out.below hbs).mono hzw20)
          have HK20 := Lib.hid (HK19.out.trans (Kp.of_below hbs))
          clear hbs HR19 HT19 HW19 HK19
          by_cases h450 : 450 < i
          · have h450' : (450 : Int) < (i : Int) := by omega
            go_wp2
            go_roundw
            case rel =>
              refine ⟨i + 1, by omega, by go_num, HB6.out.trans (HK20.out.below (by omega) (fun k q => by have := HP.out k q; omega)), HK20.out.readsB HA6.out (fun k q => by have := HP.out k q; omega), by omega⟩
            case measure => simp [intOf]; omega
          · have h450' : ¬ (450 : Int) < (i : Int) := by omega
            go_wp2
            go_roundw
            case rel =>
              refine ⟨i + 1, by omega, by go_num, HB6.out.trans (HK20.out.below (by omega) (fun k q => by have := HP.out k q; omega)), HK20.out.readsB HA6.out (fun k q => by have := HP.out k q; omega), by omega⟩
            case measure => simp [intOf]; omega
        · subst h4
          have HTX4 := Lib.hid ht4
          clear ht4
          rw [HTX4.out] at HR18
          have h450' : ¬ (450 : Int) < (i : Int) := by omega
          by_cases heq : D2.texts = T
          · have HEQ := Lib.hid heq
            clear heq
            go_wp2_with fail
            refine (SameT_any (D2.texts) (T) (HD2L.out) _ _ _ HR18.out HT18.out).mono ?_
            rintro e w19 ⟨he, hbs⟩
            rw [decide_eq_true HEQ.out] at he
            subst he
            have hzw19 := hbs.size
            have HR19 := Lib.hid ((HR18.out.below hbs).mono hzw19)
            have HT19 := Lib.hid ((HT18.out.below hbs).mono hzw19)
            have HW19 := Lib.hid ((HW18.out.below hbs).mono hzw19)
            have HK19 := Lib.hid (HK18.out.trans (Kp.of_below hbs))
            clear hbs HR18 HT18 HW18 HK18
            go_wp2
            go_roundw
            case rel =>
              refine ⟨i + 1, by omega, by go_num, HB6.out.trans (HK19.out.below (by omega) (fun k q => by have := HP.out k q; omega)), HK19.out.readsB HA6.out (fun k q => by have := HP.out k q; omega), by omega⟩
            case measure => simp [intOf]; omega
          · have HEQ := Lib.hid heq
            clear heq
            go_wp2_with fail
            refine (SameT_any (D2.texts) (T) (HD2L.out) _ _ _ HR18.out HT18.out).mono ?_
            rintro e w19 ⟨he, hbs⟩
            rw [decide_eq_false HEQ.out] at he
            subst he
            have hzw19 := hbs.size
            have HR19 := Lib.hid ((HR18.out.below hbs).mono hzw19)
            have HT19 := Lib.hid ((HT18.out.below hbs).mono hzw19)
            have HW19 := Lib.hid ((HW18.out.below hbs).mono hzw19)
            have HK19 := Lib.hid (HK18.out.trans (Kp.of_below hbs))
            clear hbs HR18 HT18 HW18 HK18
            go_wp2_with fail
            refine (SameT_any (D2.texts) (D2.texts) (HD2L.out) _ _ _ HR19.out HW19.out).mono ?_
            rintro e w20 ⟨he, hbs⟩
            rw [decide_eq_true rfl] at he
            subst he
            have hzw20 := hbs.size
            have HR20 := Lib.hid ((HR19.out.below hbs).mono hzw20)
            have HT20 := Lib.hid ((HT19.out.below hbs).mono hzw20)
            have HW20 := Lib.hid ((HW19.out.below hbs).mono hzw20)
            have HK20 := Lib.hid (HK19.out.trans (Kp.of_below hbs))
            clear hbs HR19 HT19 HW19 HK19
            go_wp2
            go_roundw
            case rel =>
              refine ⟨i + 1, by omega, by go_num, HB6.out.trans (HK20.out.below (by omega) (fun k q => by have := HP.out k q; omega)), HK20.out.readsB HA6.out (fun k q => by have := HP.out k q; omega), by omega⟩
            case measure => simp [intOf]; omega
    · subst h2
      have HTX := Lib.hid ht2
      have HTL : Hid (D2.texts.length ≤ 9223372036854775807) := by show _ ≤ _; rw [ht2, hFn]; omega
      clear ht2
      have h100' : ¬ (100 : Int) < (i : Int) := by omega
      rw [HTX.out] at HR10
      go_wp2_with fail
      refine (SameT_any (F) (F ++ [r]) (by simp only [List.length_append, List.length_singleton, hFn, hTn]; omega) _ _ _ HR10.out HA10.out).mono ?_
      rintro e w11 ⟨he, hbs⟩
      rw [decide_eq_false (ne_snoc F r)] at he
      subst he
      have hzw11 := hbs.size
      have HR11 := Lib.hid ((HR10.out.below hbs).mono hzw11)
      have HA11 := Lib.hid ((HA10.out.below hbs).mono hzw11)
      have HF11 := Lib.hid ((HF10.out.below hbs).mono hzw11)
      have HD11 := Lib.hid (HD10.out.kept hbs)
      have HK11 := Lib.hid (HK10.out.trans (Kp.of_below hbs))
      clear hbs HR10 HA10 HF10 HD10 HK10
      go_wp2_with fail
      refine (SameT_any (F) (F) (by simp only [List.length_append, List.length_singleton, hFn, hTn]; omega) _ _ _ HR11.out HF11.out).mono ?_
      rintro e w12 ⟨he, hbs⟩
      rw [decide_eq_true rfl] at he
      subst he
      have hzw12 := hbs.size
      have HR12 := Lib.hid ((HR11.out.below hbs).mono hzw12)
      have HA12 := Lib.hid ((HA11.out.below hbs).mono hzw12)
      have HF12 := Lib.hid ((HF11.out.below hbs).mono hzw12)
      have HD12 := Lib.hid (HD11.out.kept hbs)
      have HK12 := Lib.hid (HK11.out.trans (Kp.of_below hbs))
      clear hbs HR11 HA11 HF11 HD11 HK11
      go_wp2_with fail
      refine (Restart_any p b0 b1 D2 _ HD12.out).mono ?_
      rintro e w13 ⟨⟨v13, rfl⟩, hd13, hk13⟩
      have HD13 := Lib.hid hd13
      have HK13 := Lib.hid (HK12.out.trans hk13)
      have hz13 := hk13.size
      clear hd13 hk13 HD12 HK12 HR12 HA12 HF12
      have HG13 : Hid (({ D2 with fuse := -1, failed := false } : Dk).good) := good_fuse P5.out (-1) (by omega) (by omega) false
      have HE13 : Hid (({ D2 with fuse := -1, failed := false } : Dk).seenErr = 0) := seenErr_of HG13.out
      go_wp2_with fail
      refine (Records_any p b0 b1 ({ D2 with fuse := -1, failed := false } : Dk) _ HD13.out HG13.out.ok).mono ?_
      rintro e w14 ⟨⟨v, he, hr14, hv14⟩, hb14⟩
      rw [HE13.out] at he
      subst he
      have HD14 := Lib.hid (HD13.out.kept hb14)
      have HK14 := Lib.hid (HK13.out.trans (Kp.of_below hb14))
      have HR14 : Hid (w14.reads w14.heap.size v (D2.texts.map strV)) := hr14
      have hz14 := hb14.size
      have HV14 : Hid (∀ k, v.ownBlock = some k → ¬ three p b0 b1 k) := fun k e q => by
        have h1 := hv14 k e
        have h2 := HPU.out k q
        omega
      obtain ⟨wa, wc, rfl, -, -, -, -⟩ := hr14
      obtain ⟨L14, hL14⟩ : ∃ L, L = (D2.texts.map strV).length := ⟨_, rfl⟩
      rw [show ((({ D2 with fuse := -1, failed := false } : Dk).texts.map strV).length) = L14 from hL14.symm] at HR14 HV14 ⊢
      clear hL14
      clear hv14 hb14 HD13 HK13 HE13 HG13
      go_wp2_with fail
      refine (Fuse_any p b0 b1 ({ D2 with fuse := -1, failed := false } : Dk) (i : Int) _ HD14.out).mono ?_
      rintro e w15 ⟨he, hd15, hk15⟩
      rw [show ({ D2 with fuse := -1, failed := false } : Dk).fused (i : Int) = (0, { D2 with fuse := (i : Int), failed := false }) from if_neg (by omega)] at he hd15
      subst he
      have HD15 := Lib.hid hd15
      have HK15 := Lib.hid (HK14.out.trans hk15)
      have HW15 := Lib.hid (hk15.reads HR14.out HV14.out)
      have hz15 := hk15.size
      have HT15 := Lib.hid (HK15.out.readsB HT6.out (fun k q => by have := HP.out k q; omega))
      clear hd15 hk15 HD14 HK14 HR14
      have HG15 : Hid (({ D2 with fuse := (i : Int), failed := false } : Dk).ok) := (good_fuse P5.out (i : Int) (by omega) (by omega) false).ok
      go_wp2_with fail
      refine (Rewrite_any p b0 b1 ({ D2 with fuse := (i : Int), failed := false } : Dk) T _ _ (HT15.out.mono (by omega)) HD15.out HG15.out).mono ?_
      rintro e w16 ⟨he, hd16, hk16⟩
      rw [P7.out] at he hd16
      subst he
      have HD16 := Lib.hid hd16
      have HK16 := Lib.hid (HK15.out.trans hk16)
      have HW16 := Lib.hid (hk16.reads HW15.out HV14.out)
      have hz16 := hk16.size
      clear hd16 hk16 HD15 HK15 HW15 HT15 HG15
      go_wp2_with fail
      refine (Restart_any p b0 b1 D4 _ HD16.out).mono ?_
      rintro e w17 ⟨⟨v17, rfl⟩, hd17, hk17⟩
      have HD17 := Lib.hid hd17
      have HK17 := Lib.hid (HK16.out.trans hk17)
      have HW17 := Lib.hid (hk17.reads HW16.out HV14.out)
      have hz17 := hk17.size
      clear hd17 hk17 HD16 HK16 HW16
      have HG17 : Hid (({ D4 with fuse := -1, failed := false } : Dk).good) := good_fuse P8.out (-1) (by omega) (by omega) false
      have HE17 : Hid (({ D4 with fuse := -1, failed := false } : Dk).seenErr = 0) := seenErr_of HG17.out
      go_wp2_with fail
      refine (Records_any p b0 b1 ({ D4 with fuse := -1, failed := false } : Dk) _ HD17.out HG17.out.ok).mono ?_
      rintro e w18 ⟨⟨v, he, hr18, -⟩, hb18⟩
      rw [HE17.out] at he
      subst he
      have HK18 := Lib.hid (HK17.out.trans (Kp.of_below hb18))
      have HR18 : Hid (w18.reads w18.heap.size v (D4.texts.map strV)) := hr18
      have hz18 := hb18.size
      have HW18 := Lib.hid (((HW17.out.mono (show w14.heap.size ≤ w17.heap.size by omega)).below hb18).mono hz18)
      have HT18 := Lib.hid ((HK18.out.readsB HT6.out (fun k q => by have := HP.out k q; omega)).mono (show w.heap.size ≤ w18.heap.size by omega))
      obtain ⟨xa, xc, rfl, -, -, -, -⟩ := hr18
      obtain ⟨L18, hL18⟩ : ∃ L, L = (D4.texts.map strV).length := ⟨_, rfl⟩
      rw [show ((({ D4 with fuse := -1, failed := false } : Dk).texts.map strV).length) = L18 from hL18.symm] at HR18 ⊢
      clear hL18
      clear hb18 HD17 HK17 HW17 HE17 HG17
      have HD2L : Hid (D2.texts.length ≤ 9223372036854775807) := HTL.out
      rcases P9.out with ⟨h4, ht4⟩ | ⟨h4, h450, ht4⟩
      · subst h4
        have HTX4 := Lib.hid ht4
        clear ht4
        rw [HTX4.out] at HR18
        go_wp2_with fail
        refine (SameT_any (T) (T) (by simp only [List.length_append, List.length_singleton, hFn, hTn]; omega) _ _ _ HR18.out HT18.out).mono ?_
        rintro e w19 ⟨he, hbs⟩
        rw [decide_eq_true rfl] at he
        subst he
        have hzw19 := hbs.size
        have HR19 := Lib.hid ((HR18.out.below hbs).mono hzw19)
        have HT19 := Lib.hid ((HT18.out.below hbs).mono hzw19)
        have HW19 := Lib.hid ((HW18.out.below hbs).mono hzw19)
        have HK19 := Lib.hid (HK18.out.trans (Kp.of_below hbs))
        clear hbs HR18 HT18 HW18 HK18
        go_wp2_with fail
        refine (SameT_any (T) (T) (by simp only [List.length_append, List.length_singleton, hFn, hTn]; omega) _ _ _ HR19.out HT19.out).mono ?_
        rintro e w20 ⟨he, hbs⟩
        rw [decide_eq_true rfl] at he
        subst he
        have hzw20 := hbs.size
        have HR20 := Lib.hid ((HR19.out.below hbs).mono hzw20)
        have HT20 := Lib.hid ((HT19.out.below hbs).mono hzw20)
        have HW20 := Lib.hid ((HW19.out.below hbs).mono hzw20)
        have HK20 := Lib.hid (HK19.out.trans (Kp.of_below hbs))
        clear hbs HR19 HT19 HW19 HK19
        by_cases h450 : 450 < i
        · have h450' : (450 : Int) < (i : Int) := by omega
          go_wp2
          go_roundw
          case rel =>
            refine ⟨i + 1, by omega, by go_num, HB6.out.trans (HK20.out.below (by omega) (fun k q => by have := HP.out k q; omega)), HK20.out.readsB HA6.out (fun k q => by have := HP.out k q; omega), by omega⟩
          case measure => simp [intOf]; omega
        · have h450' : ¬ (450 : Int) < (i : Int) := by omega
          go_wp2
          go_roundw
          case rel =>
            refine ⟨i + 1, by omega, by go_num, HB6.out.trans (HK20.out.below (by omega) (fun k q => by have := HP.out k q; omega)), HK20.out.readsB HA6.out (fun k q => by have := HP.out k q; omega), by omega⟩
          case measure => simp [intOf]; omega
      · subst h4
        have HTX4 := Lib.hid ht4
        clear ht4
        rw [HTX4.out] at HR18
        have h450' : ¬ (450 : Int) < (i : Int) := by omega
        by_cases heq : D2.texts = T
        · have HEQ := Lib.hid heq
          clear heq
          go_wp2_with fail
          refine (SameT_any (D2.texts) (T) (HD2L.out) _ _ _ HR18.out HT18.out).mono ?_
          rintro e w19 ⟨he, hbs⟩
          rw [decide_eq_true HEQ.out] at he
          subst he
          have hzw19 := hbs.size
          have HR19 := Lib.hid ((HR18.out.below hbs).mono hzw19)
          have HT19 := Lib.hid ((HT18.out.below hbs).mono hzw19)
          have HW19 := Lib.hid ((HW18.out.below hbs).mono hzw19)
          have HK19 := Lib.hid (HK18.out.trans (Kp.of_below hbs))
          clear hbs HR18 HT18 HW18 HK18
          go_wp2
          go_roundw
          case rel =>
            refine ⟨i + 1, by omega, by go_num, HB6.out.trans (HK19.out.below (by omega) (fun k q => by have := HP.out k q; omega)), HK19.out.readsB HA6.out (fun k q => by have := HP.out k q; omega), by omega⟩
          case measure => simp [intOf]; omega
        · have HEQ := Lib.hid heq
          clear heq
          go_wp2_with fail
          refine (SameT_any (D2.texts) (T) (HD2L.out) _ _ _ HR18.out HT18.out).mono ?_
          rintro e w19 ⟨he, hbs⟩
          rw [decide_eq_false HEQ.out] at he
          subst he
          have hzw19 := hbs.size
          have HR19 := Lib.hid ((HR18.out.below hbs).mono hzw19)
          have HT19 := Lib.hid ((HT18.out.below hbs).mono hzw19)
          have HW19 := Lib.hid ((HW18.out.below hbs).mono hzw19)
          have HK19 := Lib.hid (HK18.out.trans (Kp.of_below hbs))
          clear hbs HR18 HT18 HW18 HK18
          go_wp2_with fail
          refine (SameT_any (D2.texts) (D2.texts) (HD2L.out) _ _ _ HR19.out HW19.out).mono ?_
          rintro e w20 ⟨he, hbs⟩
          rw [decide_eq_true rfl] at he
          subst he
          have hzw20 := hbs.size
          have HR20 := Lib.hid ((HR19.out.below hbs).mono hzw20)
          have HT20 := Lib.hid ((HT19.out.below hbs).mono hzw20)
          have HW20 := Lib.hid ((HW19.out.below hbs).mono hzw20)
          have HK20 := Lib.hid (HK19.out.trans (Kp.of_below hbs))
          clear hbs HR19 HT19 HW19 HK19
          go_wp2
          go_roundw
          case rel =>
            refine ⟨i + 1, by omega, by go_num, HB6.out.trans (HK20.out.below (by omega) (fun k q => by have := HP.out k q; omega)), HK20.out.readsB HA6.out (fun k q => by have := HP.out k q; omega), by omega⟩
          case measure => simp [intOf]; omega
end Go.Proofs.Ytjfmcobikadjhaa
