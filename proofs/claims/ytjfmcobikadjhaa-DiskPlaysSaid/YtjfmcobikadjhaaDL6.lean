/- Laws of the disk: nothing half done: the walk. -/
import Derived.Test.YtjfmcobikadjhaaDL5
namespace Go.Proofs.Ytjfmcobikadjhaa
set_option linter.all false
open Go.RowKit Go.Shelf
theorem recF_length (h : List UInt8) (g : Nat) : ∀ f k, (recF h g f k).length ≤ f := by
  intro f
  induction f with
  | zero => intro k; exact Nat.le_refl _
  | succ f ih =>
    intro k
    cases hn : nextR h g k with
    | none => rw [recF_none hn]; simp
    | some y =>
      obtain ⟨e, d⟩ := y
      rw [recF_some hn, List.length_cons]
      have := ih e
      omega
theorem texts_length {d : Dk} (hg : d.good) : d.texts.length ≤ 262144 := by
  rw [texts_of hg.half, List.length_map]
  have h1 := recF_length d.act d.gen d.act.length 17
  have h2 := act_length hg.ok
  have h3 := hg.ok.hi
  unfold recs
  omega
theorem fused_post {d : Dk} (hg : d.good) (n : Int) (hn : n ≤ 9223372036854775807) : (d.fused n).2.good ∧ (d.fused n).2.texts = d.texts := by
  unfold Dk.fused
  split
  · exact ⟨hg, rfl⟩
  · exact ⟨good_fuse hg n (by omega) hn d.failed, rfl⟩
theorem list_short (l : List ByteArray) (h : longB l 70000 = false) : l.length ≤ 70000 := by
  have key : ∀ (l : List ByteArray) (m : Int), longB l m = false → 0 ≤ m → (l.length : Int) ≤ m := by
    intro l
    induction l with
    | nil => intro m _ hm; simpa using hm
    | cons y l ih =>
      intro m h hm
      rw [longB_cons] at h
      split at h
      · cases h
      · have := ih (m - y.size - 1) h (by omega)
        rw [List.length_cons]; omega
  have := key l 70000 h (by omega)
  omega
theorem text_short (s : ByteArray) (h : longB [s] 70000 = false) : s.size ≤ 70000 := by
  rw [longB_cons] at h
  split at h
  · cases h
  · omega
set_option maxRecDepth 100000 in
set_option maxHeartbeats 40000000 in
theorem atomic_law (z : Int) (hz : -9223372036854775808 ≤ z ∧ z ≤ 9223372036854775807) (l : List ActR) (a : Option Addr) (cap : Nat) (hl : l.length ≤ maxLen) (w : World) (h : ActsAt w w.heap.size a l) :
    Calls Try.prog 3 #[.int .i64 z, .slice a l.length cap] w fun e w' => e = .returned (.bool true) ∧ Below w.heap.size w w' := by
  have HLONG := Lib.hid (long_any l a cap hl w h)
  have HA := Lib.hid h
  obtain ⟨n, hn⟩ : ∃ n, n = l.length := ⟨_, rfl⟩
  rw [← hn] at HLONG ⊢
  have HN := Lib.hid hn
  have HPK := Lib.hid (fun W => Pick_any z hz W)
  clear hn hl h hz
  go_enter Try.func3, Try.ntmps3
  go_wp2_with fail
  refine HLONG.out.mono ?_
  rintro e w1 ⟨he, hb1⟩
  cases hlg : longA l 60
  case true =>
    rw [hlg] at he
    subst he
    go_wp2_with fail
    refine (shown_any _).mono ?_
    rintro e wz ⟨rfl, hbz⟩
    go_wp2
    go_ret
    exact ⟨rfl, hb1.trans (hbz.mono hb1.size)⟩
  rw [hlg] at he
  subst he
  have HSH : Hid (l.length ≤ 60 ∧ ∀ x ∈ l, longB [x.text] 70000 = false ∧ longB x.list 70000 = false) := by
    unfold longA at hlg
    rw [Bool.or_eq_false_iff] at hlg
    refine ⟨?_, fun x hx => ?_⟩
    · have := hlg.2
      simpa using this
    · have := List.any_eq_false.1 hlg.1 x hx
      unfold longAct at this
      simpa using this
  clear hlg
  have hn60 : n ≤ 60 := by rw [HN.out]; exact HSH.out.1
  have HB1 := Lib.hid hb1
  clear hb1 HLONG
  go_wp2_with fail
  refine (HPK.out _).mono ?_
  rintro e w2 ⟨⟨k, hk, rfl⟩, rfl⟩
  obtain ⟨N, hN⟩ : ∃ N, N = 64 + k := ⟨_, rfl⟩
  have hN1 : (64 : Int) + (k : Int) = (N : Int) := by omega
  have hN2 : 64 ≤ N := by omega
  have hN3 : N ≤ 262144 := by omega
  clear hN hk
  go_wp2_with fail
  refine (New_any N hN2 hN3 _).mono ?_
  rintro e w2 ⟨⟨p, b0, b1, rfl, hd2, hp, hb0, hb1⟩, hb2⟩
  have hz1 := HB1.out.size
  have HD2 := Lib.hid hd2
  have HB2 : Hid (Below w.heap.size w w2) := HB1.out.trans (hb2.mono hz1)
  have HP : Hid (∀ k, three p b0 b1 k → w.heap.size ≤ k) := fun k q => by rcases q with rfl | rfl | rfl <;> omega
  have HPU : Hid (∀ k, three p b0 b1 k → k < w2.heap.size) := fun k q => by
    have h1 := lt_of_heap hd2.at_
    have h2 := hd2.a0.lt
    have h3 := hd2.a1.lt
    rcases q with rfl | rfl | rfl <;> omega
  obtain ⟨i0, hi0, hiz, hiz1, hizb⟩ := info_parts infoStr
  have HNEW := Lib.hid (newDk_post N hN2 hN3)
  clear hd2 hb2 hp hb0 hb1 hz1 hN1 hN2 hN3
  go_wp2_with fail
  go_loopw [7, 8] (fun hv iv wr => ∃ (i : Nat) (d : Dk) (va : Option Addr) (L vc : Nat), i ≤ n ∧ iv = .int .i64 (i : Int) ∧ hv = .slice va L vc ∧ Hid d.good ∧ Hid (DiskAt wr p b0 b1 d) ∧ Hid (wr.reads wr.heap.size (.slice va L vc) (d.texts.map strV)) ∧ Hid (∀ k, (Value.slice va L vc).ownBlock = some k → ¬ three p b0 b1 k) ∧ Hid (Below w.heap.size w wr) ∧ w2.heap.size ≤ wr.heap.size) (fun _ iv _ => n - (intOf iv).toNat)
  case atStart =>
    refine ⟨0, newDk N, none, 0, 0, Nat.zero_le _, rfl, rfl, HNEW.out.1, HD2.out, ?_, fun k e => by simp [Value.ownBlock] at e, HB2.out, Nat.le_refl _⟩
    have := reads_nil w2 w2.heap.size
    show w2.reads w2.heap.size _ ((newDk N).texts.map strV)
    rw [HNEW.out.2.1]
    exact this
  case round =>
    obtain ⟨i, d, va, L, vc, hi, rfl, rfl, hG, hD, hR, hV, hB, hzr⟩ := hrel
    by_cases hlt : i < n
    case neg =>
      have hlt' : ¬ (i : Int) < (n : Int) := by omega
      have hzw := hB.out.size
      go_wp2_with fail
      refine (shown_any _).mono ?_
      rintro e wz ⟨rfl, hbz⟩
      go_wp2
      go_ret
      exact ⟨rfl, hB.out.trans (hbz.mono hzw)⟩
    have hlt' : (i : Int) < (n : Int) := by omega
    obtain ⟨x, hx⟩ : ∃ x, l[i]? = some x := ⟨l[i]'(by rw [← HN.out]; exact hlt), List.getElem?_eq_getElem _⟩
    obtain ⟨b, off, rfl, hb, hat, hwf⟩ := HA.out i x hx
    have HSX := Lib.hid (HSH.out.2 x (List.mem_of_getElem? hx))
    have HAT := Lib.hid hat
    have HWF := Lib.hid hwf
    obtain ⟨lv, hlv1, hlv2⟩ := hat.c3
    have HLV1 := Lib.hid hlv1
    have HLV2 := Lib.hid hlv2
    obtain ⟨u, hu⟩ : ∃ u : Nat, x.what = (u : Int) := ⟨x.what.toNat, by have := hwf.w0.1; omega⟩
    have HC0 : Hid (w.cell? ⟨b, off + i * 4, none⟩ = some (.int .u8 (u : Int))) := by show _ = _; rw [← hu]; exact hat.c0
    have HU := Lib.hid hu
    obtain ⟨q, hq⟩ : ∃ q, q = u % 6 := ⟨_, rfl⟩
    have htm : (u : Int).tmod 6 = (q : Int) := by
      rw [hq]
      exact (Int.natCast_emod u 6).symm ▸ Int.tmod_eq_emod_of_nonneg (by omega)
    have hq6 : q < 6 := by omega
    have HQ := Lib.hid hq
    have hLd : L = d.texts.length := by
      obtain ⟨_, _, e, -⟩ := hR.out
      injection e with e1 e2 e3
      rw [e2, List.length_map]
    have hLb : L ≤ 262144 := by rw [hLd]; exact texts_length hG.out
    have HLD := Lib.hid hLd
    have hzw := hB.out.size
    clear hx hat hwf hlv1 hlv2 hu hq hLd
    by_cases hqe : q = 0
    · go_wp2_with fail
      refine (Size_any p b0 b1 d _ hD.out hG.out.ok).mono ?_
      rintro e w3 ⟨rfl, hb3⟩
      have HD3 := Lib.hid (hD.out.kept hb3)
      have hz3 := hb3.size
      have HR3 := Lib.hid ((hR.out.below hb3).mono hz3)
      have HB3 := Lib.hid (hB.out.trans (hb3.mono hzw))
      obtain ⟨us, hus⟩ : ∃ us, us = d.used := ⟨_, rfl⟩
      rw [← hus]
      have HUS := Lib.hid hus
      clear hb3 hus hD hR hB
      have hq0 : ((q : Int) == 0) = true := by rw [hqe]; rfl
      go_wp2_with (at_builtin; first
        | (refine wpList_append_reads (w3.alloc (.cells #[] 9)) rfl (.tmp 42) (.tmp 43) 30 rfl w3.heap.size 9 i0 (.string ByteArray.empty) 16 Try.underlying30 hi0 hiz hiz1 hizb rfl (.slice (some ⟨w3.heap.size, 0, none⟩) 0 0) 0 [] rfl (owns_empty w3 _) w3.heap.size (.slice va L vc) (d.texts.map strV) rfl (HR3.out.alloc (Nat.le_refl _) _) (fun y hy => by obtain ⟨s, _, rfl⟩ := List.mem_map.1 hy; exact one_str s) (by rw [List.length_map, ← HLD.out]; unfold maxLen; omega) (by rw [List.length_map, ← HLD.out]; omega) (by simp) ?_; intro v4 w4 hown4 hg4; rw [List.length_map, ← HLD.out, Nat.zero_add, List.nil_append] at hown4; have HO4 := Lib.hid hown4; obtain ⟨va4, vc4, rfl, -, -, -⟩ := hown4.at_; have hb4 : Below w3.heap.size w3 w4 := (((Below.refl _ w3).alloc (Nat.le_refl _) _)).grown hg4 (by simp) (fun k hk => by simp [Value.ownBlock] at hk; omega); have hz4 := hb4.size; have HB4 := Lib.hid hb4; have HBW4 := Lib.hid (HB3.out.trans (hb4.mono HB3.out.size)); have hc0 := (HBW4.out.cell (p := ⟨b, off + i * 4, none⟩) hb).trans HC0.out; have hcT := (HBW4.out.cell (p := ⟨b, off + i * 4 + 2, none⟩) hb).trans HAT.out.c2; clear hown4 hg4 hb4)
        | (refine wpList_append1 (W := w4) rfl (.tmp 55) (.tmp 61) 30 rfl w3.heap.size 9 i0 (.string ByteArray.empty) 16 Try.underlying30 hi0 hiz hiz1 hizb rfl (.slice va4 L vc4) L (d.texts.map strV) rfl HO4.out (.string x.text) w4.heap.size rfl rfl rfl (by unfold maxLen; omega) (by omega) (by omega) ?_; intro v5 w5 hown5 hg5a hg5 hz5; have HO5 := Lib.hid hown5; obtain ⟨g5, q5, rfl⟩ := hown5.succ; have hb5 := HB4.out.trans (below_grown HO4.out hg5 w3.heap.size (Nat.le_refl _) hz4); have HB5 := Lib.hid hb5; have HB5w := Lib.hid (HB3.out.trans (hb5.mono HB3.out.size)); have hcT5 := (HB5w.out.cell (p := ⟨b, off + i * 4 + 2, none⟩) hb).trans HAT.out.c2; clear hown5 hg5a hg5 hb5))
      have HW5 : Hid (w5.reads w5.heap.size (.slice (some ⟨g5, 0, none⟩) (L + 1) q5) ((d.texts ++ [textL x.text]).map strV)) := by
        have h5 := HO5.out.reads
        show w5.reads _ _ _
        rw [List.map_append, List.map_singleton, show strV (textL x.text) = .string x.text by unfold strV; rw [bytesOf_textL]]
        exact h5
      have HWV : Hid (∀ k, (Value.slice (some ⟨g5, 0, none⟩) (L + 1) q5).ownBlock = some k → ¬ three p b0 b1 k) := fun k e c => by
        have h1 := (HO5.out.lt _ e)
        have h2 := HPU.out k c
        omega
      have HH5 := Lib.hid ((HR3.out.below HB5.out).mono HB5.out.size)
      have HD5 := Lib.hid (HD3.out.kept HB5.out)
      have HCALL := Lib.hid (Append_any p b0 b1 d (textL x.text) (by have := text_short x.text HSX.out.1; show x.text.size ≤ _; omega) w5 HD5.out hG.out.ok)
      have POST := Lib.hid (appended_post hG.out (textL x.text))
      rw [bytesOf_textL] at HCALL
      obtain ⟨E, hE⟩ : ∃ e, e = (d.appended (textL x.text)).1 := ⟨_, rfl⟩
      obtain ⟨d6, hd6⟩ : ∃ e, e = (d.appended (textL x.text)).2 := ⟨_, rfl⟩
      rw [← hE, ← hd6] at HCALL POST
      have HG6 := Lib.hid POST.out.good
      clear hE hd6 hcT hc0
      refine HCALL.out.mono ?_
      rintro e w6 ⟨rfl, hd6, hk6⟩
      have HH6 := Lib.hid (hk6.reads HH5.out (fun k e q => hV.out k e q))
      have HW6 := Lib.hid (hk6.reads HW5.out HWV.out)
      have hz6 := hk6.size
      have HB6 := Lib.hid (HB5w.out.trans (hk6.below (by have := HB5w.out.size; omega) HP.out))
      have HH6 := Lib.hid (HH6.out.mono hz6)
      have HW6 := Lib.hid (HW6.out.mono hz6)
      have HD6 := Lib.hid hd6
      clear hd6 hk6
      clear HCALL HO5 HO4 HB4 HBW4 HB5 HH5 HW5 HD5 HD3 HR3 hcT5
      by_cases h0 : E = 0
      · subst h0
        have HEQ : Hid (d6.texts = (d.texts ++ [textL x.text])) := (POST.out.ok0 rfl).1
        have HE6 := Lib.hid (seenErr_of HG6.out)
        go_wp2_with fail
        refine (Records_any p b0 b1 d6 _ HD6.out HG6.out.ok).mono ?_
        rintro e w7 ⟨⟨v, he, hr7, hv7⟩, hb7⟩
        rw [HE6.out] at he
        subst he
        have HD7 := Lib.hid (HD6.out.kept hb7)
        have HR7 := Lib.hid hr7
        have hz7 := hb7.size
        have HH7 := Lib.hid ((HH6.out.below hb7).mono hz7)
        have HW7 := Lib.hid ((HW6.out.below hb7).mono hz7)
        have HB7 := Lib.hid (HB6.out.trans (hb7.mono HB6.out.size))
        have HV7 : Hid (∀ k, v.ownBlock = some k → ¬ three p b0 b1 k) := fun k e q => by
          have h1 := hv7 k e
          have h2 := HPU.out k q
          omega
        obtain ⟨xa, xc, rfl, -, -, -, -⟩ := hr7
        obtain ⟨L7, hL7⟩ : ∃ L, L = (d6.texts.map strV).length := ⟨_, rfl⟩
        rw [← hL7] at HR7 HV7 ⊢
        clear hL7 hv7 hb7 HD6 HH6 HW6 HB6 HE6
        go_wp2_with fail
        refine (Size_any p b0 b1 d6 _ HD7.out HG6.out.ok).mono ?_
        rintro e w8 ⟨rfl, hb8⟩
        obtain ⟨us6, hus6⟩ : ∃ us, us = d6.used := ⟨_, rfl⟩
        rw [← hus6]
        have HUS6 := Lib.hid hus6
        have HD8 := Lib.hid (HD7.out.kept hb8)
        have hz8 := hb8.size
        have HR8 := Lib.hid ((HR7.out.below hb8).mono hz8)
        have HH8 := Lib.hid ((HH7.out.below hb8).mono hz8)
        have HW8 := Lib.hid ((HW7.out.below hb8).mono hz8)
        have HB8 := Lib.hid (HB7.out.trans (hb8.mono HB7.out.size))
        clear hb8 hus6 HD7 HR7 HH7 HW7 HB7
        have HTL : Hid (d6.texts.length ≤ 9223372036854775807) := by
          have := texts_length HG6.out
          show _ ≤ _
          omega
        go_wp2_with fail
        refine (SameT_any d6.texts d.texts HTL.out _ _ _ HR8.out HH8.out).mono ?_
        rintro e w9 ⟨he, hb9⟩
        obtain ⟨ob, hob⟩ : ∃ o, o = decide (d6.texts = d.texts) := ⟨_, rfl⟩
        rw [← hob] at he
        clear hob
        subst he
        have HD9 := Lib.hid (HD8.out.kept hb9)
        have hz9 := hb9.size
        have HR9 := Lib.hid ((HR8.out.below hb9).mono hz9)
        have HW9 := Lib.hid ((HW8.out.below hb9).mono hz9)
        have HB9 := Lib.hid (HB8.out.trans (hb9.mono HB8.out.size))
        clear hb9 HD8 HR8 HH8 HW8 HB8
        go_wp2_with fail
        refine (SameT_any d6.texts (d.texts ++ [textL x.text]) HTL.out _ _ _ HR9.out HW9.out).mono ?_
        rintro e w10 ⟨he, hb10⟩
        rw [decide_eq_true HEQ.out] at he
        subst he
        have HD10 := Lib.hid (HD9.out.kept hb10)
        have hz10 := hb10.size
        have HR10 := Lib.hid ((HR9.out.below hb10).mono hz10)
        have HB10 := Lib.hid (HB9.out.trans (hb10.mono HB9.out.size))
        clear hb10 HD9 HR9 HW9 HB9
        go_wp2
        go_roundw
        case rel => exact ⟨i + 1, d6, xa, L7, xc, by omega, by go_num, rfl, HG6.out, HD10.out, HR10.out, HV7.out, HB10.out, by omega⟩
        case measure => simp [intOf]; omega
      by_cases h9 : E = 9
      · subst h9
        have HEQ : Hid (d6.texts = d.texts) := POST.out.down rfl
        have HE6 := Lib.hid (seenErr_of HG6.out)
        go_wp2_with fail
        refine (Records_any p b0 b1 d6 _ HD6.out HG6.out.ok).mono ?_
        rintro e w7 ⟨⟨v, he, hr7, hv7⟩, hb7⟩
        rw [HE6.out] at he
        subst he
        have HD7 := Lib.hid (HD6.out.kept hb7)
        have HR7 := Lib.hid hr7
        have hz7 := hb7.size
        have HH7 := Lib.hid ((HH6.out.below hb7).mono hz7)
        have HW7 := Lib.hid ((HW6.out.below hb7).mono hz7)
        have HB7 := Lib.hid (HB6.out.trans (hb7.mono HB6.out.size))
        have HV7 : Hid (∀ k, v.ownBlock = some k → ¬ three p b0 b1 k) := fun k e q => by
          have h1 := hv7 k e
          have h2 := HPU.out k q
          omega
        obtain ⟨xa, xc, rfl, -, -, -, -⟩ := hr7
        obtain ⟨L7, hL7⟩ : ∃ L, L = (d6.texts.map strV).length := ⟨_, rfl⟩
        rw [← hL7] at HR7 HV7 ⊢
        clear hL7 hv7 hb7 HD6 HH6 HW6 HB6 HE6
        go_wp2_with fail
        refine (Size_any p b0 b1 d6 _ HD7.out HG6.out.ok).mono ?_
        rintro e w8 ⟨rfl, hb8⟩
        obtain ⟨us6, hus6⟩ : ∃ us, us = d6.used := ⟨_, rfl⟩
        rw [← hus6]
        have HUS6 := Lib.hid hus6
        have HD8 := Lib.hid (HD7.out.kept hb8)
        have hz8 := hb8.size
        have HR8 := Lib.hid ((HR7.out.below hb8).mono hz8)
        have HH8 := Lib.hid ((HH7.out.below hb8).mono hz8)
        have HW8 := Lib.hid ((HW7.out.below hb8).mono hz8)
        have HB8 := Lib.hid (HB7.out.trans (hb8.mono HB7.out.size))
        clear hb8 hus6 HD7 HR7 HH7 HW7 HB7
        have HTL : Hid (d6.texts.length ≤ 9223372036854775807) := by
          have := texts_length HG6.out
          show _ ≤ _
          omega
        go_wp2_with fail
        refine (SameT_any d6.texts d.texts HTL.out _ _ _ HR8.out HH8.out).mono ?_
        rintro e w9 ⟨he, hb9⟩
        rw [decide_eq_true HEQ.out] at he
        subst he
        have HD9 := Lib.hid (HD8.out.kept hb9)
        have hz9 := hb9.size
        have HR9 := Lib.hid ((HR8.out.below hb9).mono hz9)
        have HW9 := Lib.hid ((HW8.out.below hb9).mono hz9)
        have HB9 := Lib.hid (HB8.out.trans (hb9.mono HB8.out.size))
        clear hb9 HD8 HR8 HH8 HW8 HB8
        go_wp2_with fail
        refine (SameT_any d6.texts (d.texts ++ [textL x.text]) HTL.out _ _ _ HR9.out HW9.out).mono ?_
        rintro e w10 ⟨he, hb10⟩
        obtain ⟨fb, hfb⟩ : ∃ o, o = decide (d6.texts = (d.texts ++ [textL x.text])) := ⟨_, rfl⟩
        rw [← hfb] at he
        clear hfb
        subst he
        have HD10 := Lib.hid (HD9.out.kept hb10)
        have hz10 := hb10.size
        have HR10 := Lib.hid ((HR9.out.below hb10).mono hz10)
        have HB10 := Lib.hid (HB9.out.trans (hb10.mono HB9.out.size))
        clear hb10 HD9 HR9 HW9 HB9
        go_wp2
        go_roundw
        case rel => exact ⟨i + 1, d6, xa, L7, xc, by omega, by go_num, rfl, HG6.out, HD10.out, HR10.out, HV7.out, HB10.out, by omega⟩
        case measure => simp [intOf]; omega
      have hE0 : (E == 0) = false := by rw [beq_eq_false_iff_ne]; exact h0
      have hE9 : (E == 9) = false := by rw [beq_eq_false_iff_ne]; exact h9
      have HEQ : Hid (d6 = d) := POST.out.else_ h0 h9
      have HE6 := Lib.hid (seenErr_of HG6.out)
      go_wp2_with fail
      refine (Records_any p b0 b1 d6 _ HD6.out HG6.out.ok).mono ?_
      rintro e w7 ⟨⟨v, he, hr7, hv7⟩, hb7⟩
      rw [HE6.out] at he
      subst he
      have HD7 := Lib.hid (HD6.out.kept hb7)
      have HR7 := Lib.hid hr7
      have hz7 := hb7.size
      have HH7 := Lib.hid ((HH6.out.below hb7).mono hz7)
      have HW7 := Lib.hid ((HW6.out.below hb7).mono hz7)
      have HB7 := Lib.hid (HB6.out.trans (hb7.mono HB6.out.size))
      have HV7 : Hid (∀ k, v.ownBlock = some k → ¬ three p b0 b1 k) := fun k e q => by
        have h1 := hv7 k e
        have h2 := HPU.out k q
        omega
      obtain ⟨xa, xc, rfl, -, -, -, -⟩ := hr7
      obtain ⟨L7, hL7⟩ : ∃ L, L = (d6.texts.map strV).length := ⟨_, rfl⟩
      rw [← hL7] at HR7 HV7 ⊢
      clear hL7 hv7 hb7 HD6 HH6 HW6 HB6 HE6
      go_wp2_with fail
      refine (Size_any p b0 b1 d6 _ HD7.out HG6.out.ok).mono ?_
      rintro e w8 ⟨rfl, hb8⟩
      obtain ⟨us6, hus6⟩ : ∃ us, us = d6.used := ⟨_, rfl⟩
      rw [← hus6]
      have HUS6 := Lib.hid hus6
      have HD8 := Lib.hid (HD7.out.kept hb8)
      have hz8 := hb8.size
      have HR8 := Lib.hid ((HR7.out.below hb8).mono hz8)
      have HH8 := Lib.hid ((HH7.out.below hb8).mono hz8)
      have HW8 := Lib.hid ((HW7.out.below hb8).mono hz8)
      have HB8 := Lib.hid (HB7.out.trans (hb8.mono HB7.out.size))
      clear hb8 hus6 HD7 HR7 HH7 HW7 HB7
      have HTL : Hid (d6.texts.length ≤ 9223372036854775807) := by
        have := texts_length HG6.out
        show _ ≤ _
        omega
      go_wp2_with fail
      refine (SameT_any d6.texts d.texts HTL.out _ _ _ HR8.out HH8.out).mono ?_
      rintro e w9 ⟨he, hb9⟩
      rw [decide_eq_true (congrArg Dk.texts HEQ.out)] at he
      subst he
      have HD9 := Lib.hid (HD8.out.kept hb9)
      have hz9 := hb9.size
      have HR9 := Lib.hid ((HR8.out.below hb9).mono hz9)
      have HW9 := Lib.hid ((HW8.out.below hb9).mono hz9)
      have HB9 := Lib.hid (HB8.out.trans (hb9.mono HB8.out.size))
      clear hb9 HD8 HR8 HH8 HW8 HB8
      go_wp2_with fail
      refine (SameT_any d6.texts (d.texts ++ [textL x.text]) HTL.out _ _ _ HR9.out HW9.out).mono ?_
      rintro e w10 ⟨he, hb10⟩
      obtain ⟨fb, hfb⟩ : ∃ o, o = decide (d6.texts = (d.texts ++ [textL x.text])) := ⟨_, rfl⟩
      rw [← hfb] at he
      clear hfb
      subst he
      have HD10 := Lib.hid (HD9.out.kept hb10)
      have hz10 := hb10.size
      have HR10 := Lib.hid ((HR9.out.below hb10).mono hz10)
      have HB10 := Lib.hid (HB9.out.trans (hb10.mono HB9.out.size))
      clear hb10 HD9 HR9 HW9 HB9
      obtain rfl : us6 = us := by rw [HUS6.out, HUS.out, HEQ.out]
      go_wp2
      go_roundw
      case rel => exact ⟨i + 1, d6, xa, L7, xc, by omega, by go_num, rfl, HG6.out, HD10.out, HR10.out, HV7.out, HB10.out, by omega⟩
      case measure => simp [intOf]; omega
    by_cases hqe1 : q = 1
    · go_wp2_with fail
      refine (Size_any p b0 b1 d _ hD.out hG.out.ok).mono ?_
      rintro e w3 ⟨rfl, hb3⟩
      have HD3 := Lib.hid (hD.out.kept hb3)
      have hz3 := hb3.size
      have HR3 := Lib.hid ((hR.out.below hb3).mono hz3)
      have HB3 := Lib.hid (hB.out.trans (hb3.mono hzw))
      obtain ⟨us, hus⟩ : ∃ us, us = d.used := ⟨_, rfl⟩
      rw [← hus]
      have HUS := Lib.hid hus
      clear hb3 hus hD hR hB
      have hq0 : ((q : Int) == 0) = false := by rw [beq_eq_false_iff_ne]; omega
      have hq1 : ((q : Int) == 1) = true := by rw [hqe1]; rfl
      obtain ⟨M, hM⟩ : ∃ M, M = x.list.map textL := ⟨_, rfl⟩
      have hLVM : w.reads w.heap.size lv (M.map strV) := by rw [hM, ← map_text]; exact HLV2.out
      obtain ⟨ML, hML⟩ : ∃ m, m = M.length := ⟨_, rfl⟩
      have hMb : ML ≤ 70000 := by rw [hML, hM, List.length_map]; exact list_short x.list HSX.out.2
      have HLVM := Lib.hid hLVM
      have HML := Lib.hid hML
      clear hM hLVM hML
      go_wp2_with (at_builtin; first
        | (refine wpList_append_reads (w3.alloc (.cells #[] 9)) rfl (.tmp 42) (.tmp 43) 30 rfl w3.heap.size 9 i0 (.string ByteArray.empty) 16 Try.underlying30 hi0 hiz hiz1 hizb rfl (.slice (some ⟨w3.heap.size, 0, none⟩) 0 0) 0 [] rfl (owns_empty w3 _) w3.heap.size (.slice va L vc) (d.texts.map strV) rfl (HR3.out.alloc (Nat.le_refl _) _) (fun y hy => by obtain ⟨s, _, rfl⟩ := List.mem_map.1 hy; exact one_str s) (by rw [List.length_map, ← HLD.out]; unfold maxLen; omega) (by rw [List.length_map, ← HLD.out]; omega) (by simp) ?_; intro v4 w4 hown4 hg4; rw [List.length_map, ← HLD.out, Nat.zero_add, List.nil_append] at hown4; have HO4 := Lib.hid hown4; obtain ⟨va4, vc4, rfl, -, -, -⟩ := hown4.at_; have hb4 : Below w3.heap.size w3 w4 := (((Below.refl _ w3).alloc (Nat.le_refl _) _)).grown hg4 (by simp) (fun k hk => by simp [Value.ownBlock] at hk; omega); have hz4 := hb4.size; have HB4 := Lib.hid hb4; have HBW4 := Lib.hid (HB3.out.trans (hb4.mono HB3.out.size)); have hc0 := (HBW4.out.cell (p := ⟨b, off + i * 4, none⟩) hb).trans HC0.out; have hcL : (w4.alloc (.cells #[] 9)).cell? ⟨b, off + i * 4 + 3, none⟩ = some lv := ((HBW4.out.alloc HBW4.out.size (.cells #[] 9)).cell (p := ⟨b, off + i * 4 + 3, none⟩) hb).trans HLV1.out; clear hown4 hg4 hb4)
        | (refine wpList_append_reads (w4.alloc (.cells #[] 9)) rfl (.tmp 72) (.tmp 77) 30 rfl w4.heap.size 9 i0 (.string ByteArray.empty) 16 Try.underlying30 hi0 hiz hiz1 hizb rfl (.slice (some ⟨w4.heap.size, 0, none⟩) 0 0) 0 [] rfl (owns_empty w4 _) w.heap.size lv (M.map strV) rfl ((HLVM.out.below HBW4.out).alloc HBW4.out.size _) (fun y hy => by obtain ⟨s, _, rfl⟩ := List.mem_map.1 hy; exact one_str s) (by rw [List.length_map, ← HML.out]; unfold maxLen; omega) (by rw [List.length_map, ← HML.out]; omega) (by simp) ?_; intro v5 w5 hown5 hg5; rw [List.length_map, ← HML.out, Nat.zero_add, List.nil_append] at hown5; have HO5 := Lib.hid hown5; obtain ⟨va5, vc5, rfl, -, -, -⟩ := hown5.at_; have hb45 : Below w4.heap.size w4 w5 := (((Below.refl _ w4).alloc (Nat.le_refl _) _)).grown hg5 (by simp) (fun k hk => by simp [Value.ownBlock] at hk; omega); have hb5 := HB4.out.trans (hb45.mono hz4); have hz5 := hb5.size; have HB5 := Lib.hid hb5; have HB5w := Lib.hid (HB3.out.trans (hb5.mono HB3.out.size)); have hcL5 := (HB5w.out.cell (p := ⟨b, off + i * 4 + 3, none⟩) hb).trans HLV1.out; clear hown5 hg5 hb5 hb45))
      have HW5 : Hid (w5.reads w5.heap.size (.slice va5 ML vc5) (M.map strV)) := HO5.out.reads
      have HWV : Hid (∀ k, (Value.slice va5 ML vc5).ownBlock = some k → ¬ three p b0 b1 k) := fun k e c => by
        have h1 := (HO5.out.lt _ e)
        have h2 := HPU.out k c
        omega
      have HH5 := Lib.hid ((HR3.out.below HB5.out).mono HB5.out.size)
      have HD5 := Lib.hid (HD3.out.kept HB5.out)
      have HCALL := Lib.hid (Rewrite_any p b0 b1 d M lv w5 ((HLVM.out.below HB5w.out).mono HB5w.out.size) HD5.out hG.out.ok)
      have POST := Lib.hid (rewritten_post hG.out M)
      obtain ⟨E, hE⟩ : ∃ e, e = (d.rewritten M).1 := ⟨_, rfl⟩
      obtain ⟨d6, hd6⟩ : ∃ e, e = (d.rewritten M).2 := ⟨_, rfl⟩
      rw [← hE, ← hd6] at HCALL POST
      have HG6 := Lib.hid POST.out.good
      clear hE hd6 hcL hc0
      refine HCALL.out.mono ?_
      rintro e w6 ⟨rfl, hd6, hk6⟩
      have HH6 := Lib.hid (hk6.reads HH5.out (fun k e q => hV.out k e q))
      have HW6 := Lib.hid (hk6.reads HW5.out HWV.out)
      have hz6 := hk6.size
      have HB6 := Lib.hid (HB5w.out.trans (hk6.below (by have := HB5w.out.size; omega) HP.out))
      have HH6 := Lib.hid (HH6.out.mono hz6)
      have HW6 := Lib.hid (HW6.out.mono hz6)
      have HD6 := Lib.hid hd6
      clear hd6 hk6
      clear HCALL HO5 HO4 HB4 HBW4 HB5 HH5 HW5 HD5 HD3 HR3 hcL5
      by_cases h0 : E = 0
      · subst h0
        have HEQ : Hid (d6.texts = M) := (POST.out.ok0 rfl).1
        have HE6 := Lib.hid (seenErr_of HG6.out)
        go_wp2_with fail
        refine (Records_any p b0 b1 d6 _ HD6.out HG6.out.ok).mono ?_
        rintro e w7 ⟨⟨v, he, hr7, hv7⟩, hb7⟩
        rw [HE6.out] at he
        subst he
        have HD7 := Lib.hid (HD6.out.kept hb7)
        have HR7 := Lib.hid hr7
        have hz7 := hb7.size
        have HH7 := Lib.hid ((HH6.out.below hb7).mono hz7)
        have HW7 := Lib.hid ((HW6.out.below hb7).mono hz7)
        have HB7 := Lib.hid (HB6.out.trans (hb7.mono HB6.out.size))
        have HV7 : Hid (∀ k, v.ownBlock = some k → ¬ three p b0 b1 k) := fun k e q => by
          have h1 := hv7 k e
          have h2 := HPU.out k q
          omega
        obtain ⟨xa, xc, rfl, -, -, -, -⟩ := hr7
        obtain ⟨L7, hL7⟩ : ∃ L, L = (d6.texts.map strV).length := ⟨_, rfl⟩
        rw [← hL7] at HR7 HV7 ⊢
        clear hL7 hv7 hb7 HD6 HH6 HW6 HB6 HE6
        go_wp2_with fail
        refine (Size_any p b0 b1 d6 _ HD7.out HG6.out.ok).mono ?_
        rintro e w8 ⟨rfl, hb8⟩
        obtain ⟨us6, hus6⟩ : ∃ us, us = d6.used := ⟨_, rfl⟩
        rw [← hus6]
        have HUS6 := Lib.hid hus6
        have HD8 := Lib.hid (HD7.out.kept hb8)
        have hz8 := hb8.size
        have HR8 := Lib.hid ((HR7.out.below hb8).mono hz8)
        have HH8 := Lib.hid ((HH7.out.below hb8).mono hz8)
        have HW8 := Lib.hid ((HW7.out.below hb8).mono hz8)
        have HB8 := Lib.hid (HB7.out.trans (hb8.mono HB7.out.size))
        clear hb8 hus6 HD7 HR7 HH7 HW7 HB7
        have HTL : Hid (d6.texts.length ≤ 9223372036854775807) := by
          have := texts_length HG6.out
          show _ ≤ _
          omega
        go_wp2_with fail
        refine (SameT_any d6.texts d.texts HTL.out _ _ _ HR8.out HH8.out).mono ?_
        rintro e w9 ⟨he, hb9⟩
        obtain ⟨ob, hob⟩ : ∃ o, o = decide (d6.texts = d.texts) := ⟨_, rfl⟩
        rw [← hob] at he
        clear hob
        subst he
        have HD9 := Lib.hid (HD8.out.kept hb9)
        have hz9 := hb9.size
        have HR9 := Lib.hid ((HR8.out.below hb9).mono hz9)
        have HW9 := Lib.hid ((HW8.out.below hb9).mono hz9)
        have HB9 := Lib.hid (HB8.out.trans (hb9.mono HB8.out.size))
        clear hb9 HD8 HR8 HH8 HW8 HB8
        go_wp2_with fail
        refine (SameT_any d6.texts M HTL.out _ _ _ HR9.out HW9.out).mono ?_
        rintro e w10 ⟨he, hb10⟩
        rw [decide_eq_true HEQ.out] at he
        subst he
        have HD10 := Lib.hid (HD9.out.kept hb10)
        have hz10 := hb10.size
        have HR10 := Lib.hid ((HR9.out.below hb10).mono hz10)
        have HB10 := Lib.hid (HB9.out.trans (hb10.mono HB9.out.size))
        clear hb10 HD9 HR9 HW9 HB9
        go_wp2
        go_roundw
        case rel => exact ⟨i + 1, d6, xa, L7, xc, by omega, by go_num, rfl, HG6.out, HD10.out, HR10.out, HV7.out, HB10.out, by omega⟩
        case measure => simp [intOf]; omega
      by_cases h9 : E = 9
      · subst h9
        have HEQ : Hid (d6.texts = d.texts) := POST.out.down rfl
        have HE6 := Lib.hid (seenErr_of HG6.out)
        go_wp2_with fail
        refine (Records_any p b0 b1 d6 _ HD6.out HG6.out.ok).mono ?_
        rintro e w7 ⟨⟨v, he, hr7, hv7⟩, hb7⟩
        rw [HE6.out] at he
        subst he
        have HD7 := Lib.hid (HD6.out.kept hb7)
        have HR7 := Lib.hid hr7
        have hz7 := hb7.size
        have HH7 := Lib.hid ((HH6.out.below hb7).mono hz7)
        have HW7 := Lib.hid ((HW6.out.below hb7).mono hz7)
        have HB7 := Lib.hid (HB6.out.trans (hb7.mono HB6.out.size))
        have HV7 : Hid (∀ k, v.ownBlock = some k → ¬ three p b0 b1 k) := fun k e q => by
          have h1 := hv7 k e
          have h2 := HPU.out k q
          omega
        obtain ⟨xa, xc, rfl, -, -, -, -⟩ := hr7
        obtain ⟨L7, hL7⟩ : ∃ L, L = (d6.texts.map strV).length := ⟨_, rfl⟩
        rw [← hL7] at HR7 HV7 ⊢
        clear hL7 hv7 hb7 HD6 HH6 HW6 HB6 HE6
        go_wp2_with fail
        refine (Size_any p b0 b1 d6 _ HD7.out HG6.out.ok).mono ?_
        rintro e w8 ⟨rfl, hb8⟩
        obtain ⟨us6, hus6⟩ : ∃ us, us = d6.used := ⟨_, rfl⟩
        rw [← hus6]
        have HUS6 := Lib.hid hus6
        have HD8 := Lib.hid (HD7.out.kept hb8)
        have hz8 := hb8.size
        have HR8 := Lib.hid ((HR7.out.below hb8).mono hz8)
        have HH8 := Lib.hid ((HH7.out.below hb8).mono hz8)
        have HW8 := Lib.hid ((HW7.out.below hb8).mono hz8)
        have HB8 := Lib.hid (HB7.out.trans (hb8.mono HB7.out.size))
        clear hb8 hus6 HD7 HR7 HH7 HW7 HB7
        have HTL : Hid (d6.texts.length ≤ 9223372036854775807) := by
          have := texts_length HG6.out
          show _ ≤ _
          omega
        go_wp2_with fail
        refine (SameT_any d6.texts d.texts HTL.out _ _ _ HR8.out HH8.out).mono ?_
        rintro e w9 ⟨he, hb9⟩
        rw [decide_eq_true HEQ.out] at he
        subst he
        have HD9 := Lib.hid (HD8.out.kept hb9)
        have hz9 := hb9.size
        have HR9 := Lib.hid ((HR8.out.below hb9).mono hz9)
        have HW9 := Lib.hid ((HW8.out.below hb9).mono hz9)
        have HB9 := Lib.hid (HB8.out.trans (hb9.mono HB8.out.size))
        clear hb9 HD8 HR8 HH8 HW8 HB8
        go_wp2_with fail
        refine (SameT_any d6.texts M HTL.out _ _ _ HR9.out HW9.out).mono ?_
        rintro e w10 ⟨he, hb10⟩
        obtain ⟨fb, hfb⟩ : ∃ o, o = decide (d6.texts = M) := ⟨_, rfl⟩
        rw [← hfb] at he
        clear hfb
        subst he
        have HD10 := Lib.hid (HD9.out.kept hb10)
        have hz10 := hb10.size
        have HR10 := Lib.hid ((HR9.out.below hb10).mono hz10)
        have HB10 := Lib.hid (HB9.out.trans (hb10.mono HB9.out.size))
        clear hb10 HD9 HR9 HW9 HB9
        go_wp2
        go_roundw
        case rel => exact ⟨i + 1, d6, xa, L7, xc, by omega, by go_num, rfl, HG6.out, HD10.out, HR10.out, HV7.out, HB10.out, by omega⟩
        case measure => simp [intOf]; omega
      have hE0 : (E == 0) = false := by rw [beq_eq_false_iff_ne]; exact h0
      have hE9 : (E == 9) = false := by rw [beq_eq_false_iff_ne]; exact h9
      have HEQ : Hid (d6 = d) := POST.out.else_ h0 h9
      have HE6 := Lib.hid (seenErr_of HG6.out)
      go_wp2_with fail
      refine (Records_any p b0 b1 d6 _ HD6.out HG6.out.ok).mono ?_
      rintro e w7 ⟨⟨v, he, hr7, hv7⟩, hb7⟩
      rw [HE6.out] at he
      subst he
      have HD7 := Lib.hid (HD6.out.kept hb7)
      have HR7 := Lib.hid hr7
      have hz7 := hb7.size
      have HH7 := Lib.hid ((HH6.out.below hb7).mono hz7)
      have HW7 := Lib.hid ((HW6.out.below hb7).mono hz7)
      have HB7 := Lib.hid (HB6.out.trans (hb7.mono HB6.out.size))
      have HV7 : Hid (∀ k, v.ownBlock = some k → ¬ three p b0 b1 k) := fun k e q => by
        have h1 := hv7 k e
        have h2 := HPU.out k q
        omega
      obtain ⟨xa, xc, rfl, -, -, -, -⟩ := hr7
      obtain ⟨L7, hL7⟩ : ∃ L, L = (d6.texts.map strV).length := ⟨_, rfl⟩
      rw [← hL7] at HR7 HV7 ⊢
      clear hL7 hv7 hb7 HD6 HH6 HW6 HB6 HE6
      go_wp2_with fail
      refine (Size_any p b0 b1 d6 _ HD7.out HG6.out.ok).mono ?_
      rintro e w8 ⟨rfl, hb8⟩
      obtain ⟨us6, hus6⟩ : ∃ us, us = d6.used := ⟨_, rfl⟩
      rw [← hus6]
      have HUS6 := Lib.hid hus6
      have HD8 := Lib.hid (HD7.out.kept hb8)
      have hz8 := hb8.size
      have HR8 := Lib.hid ((HR7.out.below hb8).mono hz8)
      have HH8 := Lib.hid ((HH7.out.below hb8).mono hz8)
      have HW8 := Lib.hid ((HW7.out.below hb8).mono hz8)
      have HB8 := Lib.hid (HB7.out.trans (hb8.mono HB7.out.size))
      clear hb8 hus6 HD7 HR7 HH7 HW7 HB7
      have HTL : Hid (d6.texts.length ≤ 9223372036854775807) := by
        have := texts_length HG6.out
        show _ ≤ _
        omega
      go_wp2_with fail
      refine (SameT_any d6.texts d.texts HTL.out _ _ _ HR8.out HH8.out).mono ?_
      rintro e w9 ⟨he, hb9⟩
      rw [decide_eq_true (congrArg Dk.texts HEQ.out)] at he
      subst he
      have HD9 := Lib.hid (HD8.out.kept hb9)
      have hz9 := hb9.size
      have HR9 := Lib.hid ((HR8.out.below hb9).mono hz9)
      have HW9 := Lib.hid ((HW8.out.below hb9).mono hz9)
      have HB9 := Lib.hid (HB8.out.trans (hb9.mono HB8.out.size))
      clear hb9 HD8 HR8 HH8 HW8 HB8
      go_wp2_with fail
      refine (SameT_any d6.texts M HTL.out _ _ _ HR9.out HW9.out).mono ?_
      rintro e w10 ⟨he, hb10⟩
      obtain ⟨fb, hfb⟩ : ∃ o, o = decide (d6.texts = M) := ⟨_, rfl⟩
      rw [← hfb] at he
      clear hfb
      subst he
      have HD10 := Lib.hid (HD9.out.kept hb10)
      have hz10 := hb10.size
      have HR10 := Lib.hid ((HR9.out.below hb10).mono hz10)
      have HB10 := Lib.hid (HB9.out.trans (hb10.mono HB9.out.size))
      clear hb10 HD9 HR9 HW9 HB9
      obtain rfl : us6 = us := by rw [HUS6.out, HUS.out, HEQ.out]
      go_wp2
      go_roundw
      case rel => exact ⟨i + 1, d6, xa, L7, xc, by omega, by go_num, rfl, HG6.out, HD10.out, HR10.out, HV7.out, HB10.out, by omega⟩
      case measure => simp [intOf]; omega
    by_cases hqe2 : q = 2
    · go_wp2_with fail
      refine (Size_any p b0 b1 d _ hD.out hG.out.ok).mono ?_
      rintro e w3 ⟨rfl, hb3⟩
      have HD3 := Lib.hid (hD.out.kept hb3)
      have hz3 := hb3.size
      have HR3 := Lib.hid ((hR.out.below hb3).mono hz3)
      have HB3 := Lib.hid (hB.out.trans (hb3.mono hzw))
      obtain ⟨us, hus⟩ : ∃ us, us = d.used := ⟨_, rfl⟩
      rw [← hus]
      have HUS := Lib.hid hus
      clear hb3 hus hD hR hB
      have hq0 : ((q : Int) == 0) = false := by rw [beq_eq_false_iff_ne]; omega
      have hq1 : ((q : Int) == 1) = false := by rw [beq_eq_false_iff_ne]; omega
      have hq2 : ((q : Int) == 2) = true := by rw [hqe2]; rfl
      go_wp2_with (at_builtin; first
        | (refine wpList_append_reads (w3.alloc (.cells #[] 9)) rfl (.tmp 42) (.tmp 43) 30 rfl w3.heap.size 9 i0 (.string ByteArray.empty) 16 Try.underlying30 hi0 hiz hiz1 hizb rfl (.slice (some ⟨w3.heap.size, 0, none⟩) 0 0) 0 [] rfl (owns_empty w3 _) w3.heap.size (.slice va L vc) (d.texts.map strV) rfl (HR3.out.alloc (Nat.le_refl _) _) (fun y hy => by obtain ⟨s, _, rfl⟩ := List.mem_map.1 hy; exact one_str s) (by rw [List.length_map, ← HLD.out]; unfold maxLen; omega) (by rw [List.length_map, ← HLD.out]; omega) (by simp) ?_; intro v4 w4 hown4 hg4; rw [List.length_map, ← HLD.out, Nat.zero_add, List.nil_append] at hown4; have HO4 := Lib.hid hown4; obtain ⟨va4, vc4, rfl, -, -, -⟩ := hown4.at_; have hb4 : Below w3.heap.size w3 w4 := (((Below.refl _ w3).alloc (Nat.le_refl _) _)).grown hg4 (by simp) (fun k hk => by simp [Value.ownBlock] at hk; omega); have hz4 := hb4.size; have HB4 := Lib.hid hb4; have HBW4 := Lib.hid (HB3.out.trans (hb4.mono HB3.out.size)); have hc0 := (HBW4.out.cell (p := ⟨b, off + i * 4, none⟩) hb).trans HC0.out; have hc1 := (HBW4.out.cell (p := ⟨b, off + i * 4 + 1, none⟩) hb).trans HAT.out.c1; clear hown4 hg4 hb4))
      have HW5 : Hid (w4.reads w4.heap.size (.slice va4 L vc4) (d.texts.map strV)) := HO4.out.reads
      have HWV : Hid (∀ k, (Value.slice va4 L vc4).ownBlock = some k → ¬ three p b0 b1 k) := fun k e c => by
        have h1 := (HO4.out.lt _ e)
        have h2 := HPU.out k c
        omega
      have HH5 := Lib.hid ((HR3.out.below HB4.out).mono HB4.out.size)
      have HD5 := Lib.hid (HD3.out.kept HB4.out)
      have HB5w := HBW4
      have HCALL := Lib.hid (Fuse_any p b0 b1 d x.n w4 HD5.out)
      have POST := Lib.hid (fused_post hG.out x.n HWF.out.w1.2)
      obtain ⟨E, hE⟩ : ∃ e, e = (d.fused x.n).1 := ⟨_, rfl⟩
      obtain ⟨d6, hd6⟩ : ∃ e, e = (d.fused x.n).2 := ⟨_, rfl⟩
      rw [← hE, ← hd6] at HCALL
      rw [← hd6] at POST
      have HG6 := Lib.hid POST.out.1
      have HEQ : Hid (d6.texts = d.texts) := POST.out.2
      clear hE hd6 hc1 hc0
      refine HCALL.out.mono ?_
      rintro e w6 ⟨rfl, hd6, hk6⟩
      have HH6 := Lib.hid (hk6.reads HH5.out (fun k e q => hV.out k e q))
      have HW6 := Lib.hid (hk6.reads HW5.out HWV.out)
      have hz6 := hk6.size
      have HB6 := Lib.hid (HB5w.out.trans (hk6.below (by have := HB5w.out.size; omega) HP.out))
      have HH6 := Lib.hid (HH6.out.mono hz6)
      have HW6 := Lib.hid (HW6.out.mono hz6)
      have HD6 := Lib.hid hd6
      clear hd6 hk6
      clear HCALL HO4 HB4 HBW4 HH5 HW5 HD5 HD3 HR3
      have HE6 := Lib.hid (seenErr_of HG6.out)
      go_wp2_with fail
      refine (Records_any p b0 b1 d6 _ HD6.out HG6.out.ok).mono ?_
      rintro e w7 ⟨⟨v, he, hr7, hv7⟩, hb7⟩
      rw [HE6.out] at he
      subst he
      have HD7 := Lib.hid (HD6.out.kept hb7)
      have HR7 := Lib.hid hr7
      have hz7 := hb7.size
      have HH7 := Lib.hid ((HH6.out.below hb7).mono hz7)
      have HW7 := Lib.hid ((HW6.out.below hb7).mono hz7)
      have HB7 := Lib.hid (HB6.out.trans (hb7.mono HB6.out.size))
      have HV7 : Hid (∀ k, v.ownBlock = some k → ¬ three p b0 b1 k) := fun k e q => by
        have h1 := hv7 k e
        have h2 := HPU.out k q
        omega
      obtain ⟨xa, xc, rfl, -, -, -, -⟩ := hr7
      obtain ⟨L7, hL7⟩ : ∃ L, L = (d6.texts.map strV).length := ⟨_, rfl⟩
      rw [← hL7] at HR7 HV7 ⊢
      clear hL7 hv7 hb7 HD6 HH6 HW6 HB6 HE6
      go_wp2_with fail
      refine (Size_any p b0 b1 d6 _ HD7.out HG6.out.ok).mono ?_
      rintro e w8 ⟨rfl, hb8⟩
      obtain ⟨us6, hus6⟩ : ∃ us, us = d6.used := ⟨_, rfl⟩
      rw [← hus6]
      have HUS6 := Lib.hid hus6
      have HD8 := Lib.hid (HD7.out.kept hb8)
      have hz8 := hb8.size
      have HR8 := Lib.hid ((HR7.out.below hb8).mono hz8)
      have HH8 := Lib.hid ((HH7.out.below hb8).mono hz8)
      have HW8 := Lib.hid ((HW7.out.below hb8).mono hz8)
      have HB8 := Lib.hid (HB7.out.trans (hb8.mono HB7.out.size))
      clear hb8 hus6 HD7 HR7 HH7 HW7 HB7
      have HTL : Hid (d6.texts.length ≤ 9223372036854775807) := by
        have := texts_length HG6.out
        show _ ≤ _
        omega
      go_wp2_with fail
      refine (SameT_any d6.texts d.texts HTL.out _ _ _ HR8.out HH8.out).mono ?_
      rintro e w9 ⟨he, hb9⟩
      obtain ⟨ob, hob⟩ : ∃ o, o = decide (d6.texts = d.texts) := ⟨_, rfl⟩
      rw [← hob] at he
      clear hob
      subst he
      have HD9 := Lib.hid (HD8.out.kept hb9)
      have hz9 := hb9.size
      have HR9 := Lib.hid ((HR8.out.below hb9).mono hz9)
      have HW9 := Lib.hid ((HW8.out.below hb9).mono hz9)
      have HB9 := Lib.hid (HB8.out.trans (hb9.mono HB8.out.size))
      clear hb9 HD8 HR8 HH8 HW8 HB8
      go_wp2_with fail
      refine (SameT_any d6.texts d.texts HTL.out _ _ _ HR9.out HW9.out).mono ?_
      rintro e w10 ⟨he, hb10⟩
      rw [decide_eq_true HEQ.out] at he
      subst he
      have HD10 := Lib.hid (HD9.out.kept hb10)
      have hz10 := hb10.size
      have HR10 := Lib.hid ((HR9.out.below hb10).mono hz10)
      have HB10 := Lib.hid (HB9.out.trans (hb10.mono HB9.out.size))
      clear hb10 HD9 HR9 HW9 HB9
      go_wp2
      go_roundw
      case rel => exact ⟨i + 1, d6, xa, L7, xc, by omega, by go_num, rfl, HG6.out, HD10.out, HR10.out, HV7.out, HB10.out, by omega⟩
      case measure => simp [intOf]; omega
    go_wp2_with fail
    refine (Size_any p b0 b1 d _ hD.out hG.out.ok).mono ?_
    rintro e w3 ⟨rfl, hb3⟩
    have HD3 := Lib.hid (hD.out.kept hb3)
    have hz3 := hb3.size
    have HR3 := Lib.hid ((hR.out.below hb3).mono hz3)
    have HB3 := Lib.hid (hB.out.trans (hb3.mono hzw))
    obtain ⟨us, hus⟩ : ∃ us, us = d.used := ⟨_, rfl⟩
    rw [← hus]
    have HUS := Lib.hid hus
    clear hb3 hus hD hR hB
    have hq0 : ((q : Int) == 0) = false := by rw [beq_eq_false_iff_ne]; omega
    have hq1 : ((q : Int) == 1) = false := by rw [beq_eq_false_iff_ne]; omega
    have hq2 : ((q : Int) == 2) = false := by rw [beq_eq_false_iff_ne]; omega
    go_wp2_with (at_builtin; first
      | (refine wpList_append_reads (w3.alloc (.cells #[] 9)) rfl (.tmp 42) (.tmp 43) 30 rfl w3.heap.size 9 i0 (.string ByteArray.empty) 16 Try.underlying30 hi0 hiz hiz1 hizb rfl (.slice (some ⟨w3.heap.size, 0, none⟩) 0 0) 0 [] rfl (owns_empty w3 _) w3.heap.size (.slice va L vc) (d.texts.map strV) rfl (HR3.out.alloc (Nat.le_refl _) _) (fun y hy => by obtain ⟨s, _, rfl⟩ := List.mem_map.1 hy; exact one_str s) (by rw [List.length_map, ← HLD.out]; unfold maxLen; omega) (by rw [List.length_map, ← HLD.out]; omega) (by simp) ?_; intro v4 w4 hown4 hg4; rw [List.length_map, ← HLD.out, Nat.zero_add, List.nil_append] at hown4; have HO4 := Lib.hid hown4; obtain ⟨va4, vc4, rfl, -, -, -⟩ := hown4.at_; have hb4 : Below w3.heap.size w3 w4 := (((Below.refl _ w3).alloc (Nat.le_refl _) _)).grown hg4 (by simp) (fun k hk => by simp [Value.ownBlock] at hk; omega); have hz4 := hb4.size; have HB4 := Lib.hid hb4; have HBW4 := Lib.hid (HB3.out.trans (hb4.mono HB3.out.size)); have hc0 := (HBW4.out.cell (p := ⟨b, off + i * 4, none⟩) hb).trans HC0.out; skip; clear hown4 hg4 hb4))
    have HW5 : Hid (w4.reads w4.heap.size (.slice va4 L vc4) (d.texts.map strV)) := HO4.out.reads
    have HWV : Hid (∀ k, (Value.slice va4 L vc4).ownBlock = some k → ¬ three p b0 b1 k) := fun k e c => by
      have h1 := (HO4.out.lt _ e)
      have h2 := HPU.out k c
      omega
    have HH5 := Lib.hid ((HR3.out.below HB4.out).mono HB4.out.size)
    have HD5 := Lib.hid (HD3.out.kept HB4.out)
    have HB5w := HBW4
    have HCALL := Lib.hid (Restart_any p b0 b1 d w4 HD5.out)
    obtain ⟨d6, hd6⟩ : ∃ e : Dk, e = { d with fuse := -1, failed := false } := ⟨_, rfl⟩
    rw [← hd6] at HCALL
    have HG6 : Hid d6.good := by rw [hd6]; exact good_fuse hG.out (-1) (by omega) (by omega) false
    have HEQ : Hid (d6.texts = d.texts) := by rw [hd6]; rfl
    clear hd6 hc0
    refine HCALL.out.mono ?_
    rintro e w6 ⟨⟨v6, rfl⟩, hd6, hk6⟩
    have HH6 := Lib.hid (hk6.reads HH5.out (fun k e q => hV.out k e q))
    have HW6 := Lib.hid (hk6.reads HW5.out HWV.out)
    have hz6 := hk6.size
    have HB6 := Lib.hid (HB5w.out.trans (hk6.below (by have := HB5w.out.size; omega) HP.out))
    have HH6 := Lib.hid (HH6.out.mono hz6)
    have HW6 := Lib.hid (HW6.out.mono hz6)
    have HD6 := Lib.hid hd6
    clear hd6 hk6
    clear HCALL HO4 HB4 HBW4 HH5 HW5 HD5 HD3 HR3
    have HE6 := Lib.hid (seenErr_of HG6.out)
    go_wp2_with fail
    refine (Records_any p b0 b1 d6 _ HD6.out HG6.out.ok).mono ?_
    rintro e w7 ⟨⟨v, he, hr7, hv7⟩, hb7⟩
    rw [HE6.out] at he
    subst he
    have HD7 := Lib.hid (HD6.out.kept hb7)
    have HR7 := Lib.hid hr7
    have hz7 := hb7.size
    have HH7 := Lib.hid ((HH6.out.below hb7).mono hz7)
    have HW7 := Lib.hid ((HW6.out.below hb7).mono hz7)
    have HB7 := Lib.hid (HB6.out.trans (hb7.mono HB6.out.size))
    have HV7 : Hid (∀ k, v.ownBlock = some k → ¬ three p b0 b1 k) := fun k e q => by
      have h1 := hv7 k e
      have h2 := HPU.out k q
      omega
    obtain ⟨xa, xc, rfl, -, -, -, -⟩ := hr7
    obtain ⟨L7, hL7⟩ : ∃ L, L = (d6.texts.map strV).length := ⟨_, rfl⟩
    rw [← hL7] at HR7 HV7 ⊢
    clear hL7 hv7 hb7 HD6 HH6 HW6 HB6 HE6
    go_wp2_with fail
    refine (Size_any p b0 b1 d6 _ HD7.out HG6.out.ok).mono ?_
    rintro e w8 ⟨rfl, hb8⟩
    obtain ⟨us6, hus6⟩ : ∃ us, us = d6.used := ⟨_, rfl⟩
    rw [← hus6]
    have HUS6 := Lib.hid hus6
    have HD8 := Lib.hid (HD7.out.kept hb8)
    have hz8 := hb8.size
    have HR8 := Lib.hid ((HR7.out.below hb8).mono hz8)
    have HH8 := Lib.hid ((HH7.out.below hb8).mono hz8)
    have HW8 := Lib.hid ((HW7.out.below hb8).mono hz8)
    have HB8 := Lib.hid (HB7.out.trans (hb8.mono HB7.out.size))
    clear hb8 hus6 HD7 HR7 HH7 HW7 HB7
    have HTL : Hid (d6.texts.length ≤ 9223372036854775807) := by
      have := texts_length HG6.out
      show _ ≤ _
      omega
    go_wp2_with fail
    refine (SameT_any d6.texts d.texts HTL.out _ _ _ HR8.out HH8.out).mono ?_
    rintro e w9 ⟨he, hb9⟩
    obtain ⟨ob, hob⟩ : ∃ o, o = decide (d6.texts = d.texts) := ⟨_, rfl⟩
    rw [← hob] at he
    clear hob
    subst he
    have HD9 := Lib.hid (HD8.out.kept hb9)
    have hz9 := hb9.size
    have HR9 := Lib.hid ((HR8.out.below hb9).mono hz9)
    have HW9 := Lib.hid ((HW8.out.below hb9).mono hz9)
    have HB9 := Lib.hid (HB8.out.trans (hb9.mono HB8.out.size))
    clear hb9 HD8 HR8 HH8 HW8 HB8
    go_wp2_with fail
    refine (SameT_any d6.texts d.texts HTL.out _ _ _ HR9.out HW9.out).mono ?_
    rintro e w10 ⟨he, hb10⟩
    rw [decide_eq_true HEQ.out] at he
    subst he
    have HD10 := Lib.hid (HD9.out.kept hb10)
    have hz10 := hb10.size
    have HR10 := Lib.hid ((HR9.out.below hb10).mono hz10)
    have HB10 := Lib.hid (HB9.out.trans (hb10.mono HB9.out.size))
    clear hb10 HD9 HR9 HW9 HB9
    go_wp2
    go_roundw
    case rel => exact ⟨i + 1, d6, xa, L7, xc, by omega, by go_num, rfl, HG6.out, HD10.out, HR10.out, HV7.out, HB10.out, by omega⟩
    case measure => simp [intOf]; omega
end Go.Proofs.Ytjfmcobikadjhaa
