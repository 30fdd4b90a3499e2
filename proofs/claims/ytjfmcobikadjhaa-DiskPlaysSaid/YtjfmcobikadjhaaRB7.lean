/- Laws of the disk: whatever is done with it: the walk. -/
import Derived.Test.YtjfmcobikadjhaaRB6
namespace Go.Proofs.Ytjfmcobikadjhaa
set_option linter.all false
open Go.RowKit Go.Shelf
set_option maxRecDepth 100000 in
set_option maxHeartbeats 40000000 in
theorem plays_law (z : Int) (hz : -9223372036854775808 ≤ z ∧ z ≤ 9223372036854775807) (l : List ActR) (a : Option Addr) (cap : Nat) (hl : l.length ≤ maxLen) (w : World) (h : ActsAt w w.heap.size a l) :
    Calls Try.prog 5 #[.int .i64 z, .slice a l.length cap] w fun e w' => e = .returned (.bool true) ∧ Below w.heap.size w w' := by
  have HLONG := Lib.hid (long_any l a cap hl w h)
  have HA := Lib.hid h
  obtain ⟨n, hn⟩ : ∃ n, n = l.length := ⟨_, rfl⟩
  rw [← hn] at HLONG ⊢
  have HN := Lib.hid hn
  have hn63 : n ≤ 9223372036854775807 := by rw [hn]; exact hl
  clear hn hl h
  by_cases c0 : 3000 < z ∧ z ≤ 262144
  · obtain ⟨c1, c2⟩ := c0
    go_enter Try.func5, Try.ntmps5
    go_wp2_with fail
    refine (shown_any _).mono ?_
    rintro e wz ⟨rfl, hbz⟩
    go_wp2
    go_ret
    exact ⟨rfl, hbz⟩
  by_cases hbad : z < 64 ∨ 262144 < z
  · by_cases h64 : z < 64
    · have h3 : ¬ 3000 < z := by omega
      clear c0
      go_enter Try.func5, Try.ntmps5
      go_wp2_with fail
      refine HLONG.out.mono ?_
      rintro e w1 ⟨he, hb1⟩
      have hz1 := hb1.size
      have HB1 := Lib.hid hb1
      clear hb1
      cases hlg : longA l 60
      case true =>
        rw [hlg] at he
        subst he
        go_wp2_with fail
        refine (shown_any _).mono ?_
        rintro e wz ⟨rfl, hbz⟩
        go_wp2
        go_ret
        exact ⟨rfl, HB1.out.trans (hbz.mono hz1)⟩
      case false =>
        rw [hlg] at he
        subst he
        go_wp2_with fail
        refine (New_no z hbad _).mono ?_
        rintro e w2 ⟨rfl, rfl⟩
        go_wp2_with fail
        refine (rNew_no z hbad _).mono ?_
        rintro e w2 ⟨rfl, rfl⟩
        go_wp2_with fail
        refine (shown_any _).mono ?_
        rintro e wz ⟨rfl, hbz⟩
        go_wp2
        go_ret
        exact ⟨rfl, HB1.out.trans (hbz.mono hz1)⟩
    · have h3 : 3000 < z := by omega
      have h4 : ¬ z ≤ 262144 := by omega
      clear c0
      go_enter Try.func5, Try.ntmps5
      go_wp2_with fail
      refine HLONG.out.mono ?_
      rintro e w1 ⟨he, hb1⟩
      have hz1 := hb1.size
      have HB1 := Lib.hid hb1
      clear hb1
      cases hlg : longA l 60
      case true =>
        rw [hlg] at he
        subst he
        go_wp2_with fail
        refine (shown_any _).mono ?_
        rintro e wz ⟨rfl, hbz⟩
        go_wp2
        go_ret
        exact ⟨rfl, HB1.out.trans (hbz.mono hz1)⟩
      case false =>
        rw [hlg] at he
        subst he
        go_wp2_with fail
        refine (New_no z hbad _).mono ?_
        rintro e w2 ⟨rfl, rfl⟩
        go_wp2_with fail
        refine (rNew_no z hbad _).mono ?_
        rintro e w2 ⟨rfl, rfl⟩
        go_wp2_with fail
        refine (shown_any _).mono ?_
        rintro e wz ⟨rfl, hbz⟩
        go_wp2
        go_ret
        exact ⟨rfl, HB1.out.trans (hbz.mono hz1)⟩
  obtain ⟨N, rfl⟩ : ∃ N : Nat, z = (N : Int) := ⟨z.toNat, by omega⟩
  have hN2 : 64 ≤ N := by omega
  have hN3 : N ≤ 3000 := by omega
  have h3 : ¬ 3000 < (N : Int) := by omega
  have HNEW := Lib.hid (fun W => New_any N hN2 (by omega) W)
  have HRNEW := Lib.hid (fun W => rNew_any N hN2 (by omega) W)
  have HNOK : Hid ((newDk N).ok) := (newDk_post N hN2 (by omega)).1.ok
  clear c0 hbad hz
  go_enter Try.func5, Try.ntmps5
  go_wp2_with fail
  refine HLONG.out.mono ?_
  rintro e w1 ⟨he, hb1⟩
  have hz1 := hb1.size
  have HB1 := Lib.hid hb1
  clear hb1
  cases hlg : longA l 60
  case true =>
    rw [hlg] at he
    subst he
    go_wp2_with fail
    refine (shown_any _).mono ?_
    rintro e wz ⟨rfl, hbz⟩
    go_wp2
    go_ret
    exact ⟨rfl, HB1.out.trans (hbz.mono hz1)⟩
  rw [hlg] at he
  subst he
  have HSH : Hid (∀ x ∈ l, longB [x.text] 70000 = false ∧ longB x.list 70000 = false) := by
    unfold longA at hlg
    rw [Bool.or_eq_false_iff] at hlg
    intro x hx
    have := List.any_eq_false.1 hlg.1 x hx
    unfold longAct at this
    simpa using this
  clear hlg HLONG
  go_wp2_with fail
  refine (HNEW.out _).mono ?_
  rintro e w2 ⟨⟨p, b0, b1, rfl, hd2, hp, hb0, hb1⟩, hb2⟩
  have HD2 := Lib.hid hd2
  have hz2 := hb2.size
  have HB2 : Hid (Below w.heap.size w w2) := HB1.out.trans (hb2.mono hz1)
  have hpl := lt_of_heap hd2.at_
  have h0l := hd2.a0.lt
  have h1l := hd2.a1.lt
  clear hd2 hb2
  go_wp2_with fail
  refine (HRNEW.out _).mono ?_
  rintro e w3 ⟨⟨rp, rb, rfl, hr3, hrp, hrb⟩, hb3⟩
  have HR3 := Lib.hid hr3
  have HD3 := Lib.hid (HD2.out.kept hb3)
  have HB3 : Hid (Below w.heap.size w w3) := HB2.out.trans (hb3.mono HB2.out.size)
  have HAP : Hid (Apart p b0 b1 rp rb) := ⟨by rintro (c | c | c) <;> omega, by rintro (c | c | c) <;> omega, by rintro (c | c) <;> omega, by rintro (c | c) <;> omega, by rintro (c | c) <;> omega⟩
  have H5 : Hid (∀ k, five p b0 b1 rp rb k → w.heap.size ≤ k) := fun k c => by rcases c with c | c | c | c | c <;> omega
  clear hr3 hb3 hp hb0 hb1 hrp hrb hpl h0l h1l HD2 HB2
  go_wp2_with fail
  go_loopw [9] (fun iv wr => ∃ (i : Nat) (d : Dk), i ≤ n ∧ iv = .int .i64 (i : Int) ∧ Hid d.ok ∧ Hid (DiskAt wr p b0 b1 d) ∧ Hid (RDiskAt wr rp rb d) ∧ Hid (Below w.heap.size w wr)) (fun iv _ => n - (intOf iv).toNat)
  case atStart => exact ⟨0, newDk N, Nat.zero_le _, rfl, HNOK.out, HD3.out, HR3.out, HB3.out⟩
  case round =>
    obtain ⟨i, d, hi, rfl, hO, hD, hR, hB⟩ := hrel
    have hzw := hB.out.size
    by_cases hlt : i < n
    case neg =>
      have hlt' : ¬ (i : Int) < (n : Int) := by omega
      go_wp2_with fail
      refine (shown_any _).mono ?_
      rintro e wz ⟨rfl, hbz⟩
      go_wp2
      go_ret
      exact ⟨rfl, hB.out.trans (hbz.mono hzw)⟩
    have hlt' : (i : Int) < (n : Int) := by omega
    obtain ⟨x, hx⟩ : ∃ x, l[i]? = some x := ⟨l[i]'(by rw [← HN.out]; exact hlt), List.getElem?_eq_getElem _⟩
    obtain ⟨b, off, rfl, hb, hat, hwf⟩ := HA.out i x hx
    obtain ⟨lv, hlv1, hlv2⟩ := hat.c3
    have q0 := (hB.out.cell (p := ⟨b, off + i * 4, none⟩) hb).trans hat.c0
    have q1 := (hB.out.cell (p := ⟨b, off + i * 4 + 1, none⟩) hb).trans hat.c1
    have q2 := (hB.out.cell (p := ⟨b, off + i * 4 + 2, none⟩) hb).trans hat.c2
    have q3 := (hB.out.cell (p := ⟨b, off + i * 4 + 3, none⟩) hb).trans hlv1
    have HDO := Lib.hid (does_any p b0 b1 rp rb HAP.out d x lv hwf (HSH.out x (List.mem_of_getElem? hx)) wr w.heap.size hzw H5.out (hlv2.below hB.out) hD.out hR.out hO.out)
    clear hx hat hwf hlv1 hlv2
    go_wp2_with fail
    refine HDO.out.mono ?_
    rintro e w6 ⟨rfl, ⟨d6, hd6, hr6, ho6⟩, hk6⟩
    have HD6 := Lib.hid hd6
    have HR6 := Lib.hid hr6
    have HO6 := Lib.hid ho6
    have HB6 : Hid (Below w.heap.size w w6) := hB.out.trans (hk6.below hzw H5.out)
    clear hd6 hr6 ho6 hk6 q0 q1 q2 q3
    go_wp2_with fail
    refine (alike_any p b0 b1 rp rb d6 _ HD6.out HR6.out HO6.out).mono ?_
    rintro e w7 ⟨rfl, hb7⟩
    have HD7 := Lib.hid (HD6.out.kept hb7)
    have HR7 := Lib.hid (HR6.out.kept hb7)
    have HB7 := Lib.hid (HB6.out.trans (hb7.mono HB6.out.size))
    clear hb7
    go_wp2
    go_roundw
    case rel => exact ⟨i + 1, d6, by omega, by go_num, HO6.out, HD7.out, HR7.out, HB7.out⟩
    case measure => simp [intOf]; omega
end Go.Proofs.Ytjfmcobikadjhaa
