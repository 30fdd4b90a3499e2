/- Laws of the jobs: a queue that is none, a disk with one record. Printed by gen_ln1.py. -/
import Derived.Test.YtoggmplkbiidhaaDoorPZ5
namespace Go.Proofs.YtoggmplkbiidhaaDoor
set_option linter.all false
open Go.RowKit Go.Shelf
theorem none_Take2 (q : Value) (w : World) (h : NoQ q w) : Calls Tryd.prog 13 #[q] w fun e w' => e = .returned (.tuple #[.agg #[.int .i64 0, .string { data := #[] }, .string { data := #[] }, .int .i64 0, .int .i64 0, .int .i64 0, .string { data := #[] }, .string { data := #[] }, .string { data := #[] }], .bool false, .int .i64 1]) ∧ Below w.heap.size w w' := none_Take q w h
theorem none_Get2 (q : Value) (id : Int) (w : World) (h : NoQ q w) : Calls Tryd.prog 12 #[q, .int .i64 id] w fun e w' => e = .returned (.tuple #[.agg #[.int .i64 0, .string { data := #[] }, .string { data := #[] }, .int .i64 0, .int .i64 0, .int .i64 0, .string { data := #[] }, .string { data := #[] }, .string { data := #[] }], .int .i64 1]) ∧ Below w.heap.size w w' := none_Get q id w h
theorem openD_ne {d : Dk} {er : Int} (h : openD d = .inl er) : er ≠ 0 := by
  unfold openD at h
  split at h
  · rename_i h0
    injection h with h
    rw [← h]; exact h0
  · split at h
    · injection h with h
      rw [← h]; omega
    · cases h
set_option maxRecDepth 100000 in
set_option maxHeartbeats 8000000 in
theorem none_law (r : List UInt8) (s : ByteArray) (hs : s = bytesOf r) (hm : s.size ≤ maxLen) (id : Int) (w : World) (ht : TabAt w) :
    Calls Tryd.prog 4 #[.string s, .int .i64 id] w fun e w' => e = .returned (.bool true) ∧ Below w.heap.size w w' := by
  have hsl : s.size = r.length := by rw [hs]; simp [bytesOf, ByteArray.size]
  have HT := Lib.hid ht
  have HSR := Lib.hid hs
  have HSL := Lib.hid hsl
  have hm63 : s.size ≤ 9223372036854775807 := hm
  by_cases hbig : 3000 < s.size
  · have hb : (3000 : Int) < (s.size : Int) := by omega
    have HSH := Lib.hid (shown_any w ht)
    clear hs ht hm hsl hbig
    go_enter Tryd.func4, Tryd.ntmps4
    go_wp2_with fail
    refine HSH.out.mono ?_
    rintro e w2 ⟨rfl, hb2⟩
    go_wp2_with fail
    go_ret
    exact ⟨rfl, hb2⟩
  have hb : ¬ (3000 : Int) < (s.size : Int) := by omega
  have HLE : Hid (r.length ≤ 3000) := Lib.hid (by omega)
  clear hs ht hm hsl hbig
  go_enter Tryd.func4, Tryd.ntmps4
  go_upto_region 4 with (fail)
  obtain ⟨W0, hW0⟩ : ∃ W, W = ((w.alloc (.cells #[.pointer none, .slice none 0 0, .int .i64 0, .bool false] 44)).alloc (.cells #[.pointer none, .pointer (some ⟨w.heap.size, 0, none⟩)] 45)) := ⟨_, rfl⟩
  have e0 : W0.heap[w.heap.size]? = some (.cells #[.pointer none, .slice none 0 0, .int .i64 0, .bool false] 44) := by
    rw [hW0, Below.heap_alloc _ _ _ (by simp)]; exact alloc_last _ _ rfl
  have e1 : W0.heap[w.heap.size + 1]? = some (.cells #[.pointer none, .pointer (some ⟨w.heap.size, 0, none⟩)] 45) := by rw [hW0]; exact alloc_last _ _ (by simp)
  have hB : Below w.heap.size w W0 := by rw [hW0]; exact ((Below.refl _ w).alloc (Nat.le_refl _) _).alloc (by simp) _
  have E0 := Lib.hid e0
  have E1 := Lib.hid e1
  have HB := Lib.hid hB
  rw [← hW0]
  clear e0 e1 hB hW0
  go_wp2_with fail
  go_loopw [6] (fun iv wr => ∃ i : Nat, i ≤ 2 ∧ iv = .int .i64 (i : Int) ∧ Hid (wr.heap[w.heap.size]? = some (.cells #[.pointer none, .slice none 0 0, .int .i64 0, .bool false] 44)) ∧ Hid (wr.heap[w.heap.size + 1]? = some (.cells #[.pointer none, .pointer (some ⟨w.heap.size, 0, none⟩)] 45)) ∧ Hid (Below w.heap.size w wr)) (fun iv _ => 2 - (intOf iv).toNat)
  case atStart => exact ⟨0, by omega, rfl, E0.out, E1.out, HB.out⟩
  case round =>
    obtain ⟨i, hi, rfl, F0, F1, FB⟩ := hrel
    clear E0 E1 HB
    by_cases hlt : i < 2
    · obtain ⟨pv, hc, hN⟩ : ∃ pv, wr.cell? ⟨w.heap.size + 1, i, none⟩ = some (.pointer pv) ∧ Hid (NoQ (.pointer pv) wr) := by
        have hc : i = 0 ∨ i = 1 := by omega
        rcases hc with rfl | rfl
        · exact ⟨none, by have := F1.out; simp [World.cell?, this], noq_nil wr⟩
        · exact ⟨some ⟨w.heap.size, 0, none⟩, by have := F1.out; simp [World.cell?, this], noq_zero w.heap.size _ 0 false wr F0.out⟩
      have hi2 : (i : Int) < 2 := by omega
      have HCL : Hid (∀ W, Below wr.heap.size wr W → W.cell? ⟨w.heap.size + 1, i, none⟩ = some (.pointer pv)) := fun W hb => (hb.cell (p := ⟨w.heap.size + 1, i, none⟩) (World.block_lt_of_cell? wr _ hc)).trans hc
      have HB0 : Hid (Below wr.heap.size wr wr) := Below.refl _ _
      have HLT := Lib.hid hlt
      clear hlt
      go_wp2_with fail
      (with_reducible refine (none_Submit (.pointer pv) _ _ _ _ _ (hN.out.below HB0.out)).mono ?_)
      rintro e w1 ⟨rfl, hb1⟩
      have HB1 : Hid (Below wr.heap.size wr w1) := HB0.out.trans (hb1.mono HB0.out.size)
      clear HB0 hb1 hc
      have hc := HCL.out _ HB1.out
      go_wp2_with fail
      (with_reducible refine (none_Take2 (.pointer pv) _ (hN.out.below HB1.out)).mono ?_)
      rintro e w2 ⟨rfl, hb2⟩
      have HB2 : Hid (Below wr.heap.size wr w2) := HB1.out.trans (hb2.mono HB1.out.size)
      clear HB1 hb2 hc
      have HB3 : Hid (Below wr.heap.size wr (w2.alloc (.cells #[.int .i64 0, .string { data := #[] }, .string { data := #[] }, .int .i64 0, .int .i64 0, .int .i64 0, .string { data := #[] }, .string { data := #[] }, .string { data := #[] }] 38))) := HB2.out.alloc HB2.out.size _
      have hc := HCL.out _ HB3.out
      clear HB2
      go_wp2_with fail
      (with_reducible refine (none_Get2 (.pointer pv) id _ (hN.out.below HB3.out)).mono ?_)
      rintro e w4 ⟨rfl, hb4⟩
      have HB4 : Hid (Below wr.heap.size wr w4) := HB3.out.trans (hb4.mono HB3.out.size)
      clear HB3 hb4 hc
      have HB5 : Hid (Below wr.heap.size wr (w4.alloc (.cells #[.int .i64 0, .string { data := #[] }, .string { data := #[] }, .int .i64 0, .int .i64 0, .int .i64 0, .string { data := #[] }, .string { data := #[] }, .string { data := #[] }] 38))) := HB4.out.alloc HB4.out.size _
      have hc := HCL.out _ HB5.out
      clear HB4
      go_wp2_with fail
      (with_reducible refine (none_Save (.pointer pv) id _ _ (hN.out.below HB5.out)).mono ?_)
      rintro e w6 ⟨rfl, hb6⟩
      have HB6 : Hid (Below wr.heap.size wr w6) := HB5.out.trans (hb6.mono HB5.out.size)
      clear HB5 hb6 hc
      have hc := HCL.out _ HB6.out
      go_wp2_with fail
      (with_reducible refine (none_Give (.pointer pv) id _ (hN.out.below HB6.out)).mono ?_)
      rintro e w7 ⟨rfl, hb7⟩
      have HB7 : Hid (Below wr.heap.size wr w7) := HB6.out.trans (hb7.mono HB6.out.size)
      clear HB6 hb7 hc
      have hc := HCL.out _ HB7.out
      go_wp2_with fail
      (with_reducible refine (none_Finish (.pointer pv) id _ _ (hN.out.below HB7.out)).mono ?_)
      rintro e w8 ⟨rfl, hb8⟩
      have HB8 : Hid (Below wr.heap.size wr w8) := HB7.out.trans (hb8.mono HB7.out.size)
      clear HB7 hb8 hc
      have hc := HCL.out _ HB8.out
      go_wp2_with fail
      (with_reducible refine (none_Fail (.pointer pv) id _ _ (hN.out.below HB8.out)).mono ?_)
      rintro e w9 ⟨rfl, hb9⟩
      have HB9 : Hid (Below wr.heap.size wr w9) := HB8.out.trans (hb9.mono HB8.out.size)
      clear HB8 hb9 hc
      have hc := HCL.out _ HB9.out
      go_wp2_with fail
      (with_reducible refine (none_Cancel (.pointer pv) id _ (hN.out.below HB9.out)).mono ?_)
      rintro e w10 ⟨rfl, hb10⟩
      have HB10 : Hid (Below wr.heap.size wr w10) := HB9.out.trans (hb10.mono HB9.out.size)
      clear HB9 hb10 hc
      have hc := HCL.out _ HB10.out
      go_wp2_with fail
      (with_reducible refine (none_Forget (.pointer pv) id _ (hN.out.below HB10.out)).mono ?_)
      rintro e w11 ⟨rfl, hb11⟩
      have HB11 : Hid (Below wr.heap.size wr w11) := HB10.out.trans (hb11.mono HB10.out.size)
      clear HB10 hb11 hc
      have hc := HCL.out _ HB11.out
      go_wp2_with fail
      (with_reducible refine (none_Compact (.pointer pv) _ (hN.out.below HB11.out)).mono ?_)
      rintro e w12 ⟨rfl, hb12⟩
      have HB12 : Hid (Below wr.heap.size wr w12) := HB11.out.trans (hb12.mono HB11.out.size)
      clear HB11 hb12 hc
      have hc := HCL.out _ HB12.out
      go_wp2_with fail
      (with_reducible refine (none_List (.pointer pv) _ (hN.out.below HB12.out)).mono ?_)
      rintro e w13 ⟨rfl, hb13⟩
      have HB13 : Hid (Below wr.heap.size wr w13) := HB12.out.trans (hb13.mono HB12.out.size)
      clear HB12 hb13 hc
      have hc := HCL.out _ HB13.out
      go_wp2_with fail
      go_roundw
      case rel =>
        have l0 := lt_of_heap F0.out
        have l1 := lt_of_heap F1.out
        exact ⟨i + 1, by have := HLT.out; omega, by go_num, (HB13.out.block _ l0).trans F0.out, (HB13.out.block _ l1).trans F1.out, FB.out.trans (HB13.out.mono FB.out.size)⟩
      case measure => have := HLT.out; simp [intOf]; omega
    · have hi2 : ¬ (i : Int) < 2 := by omega
      have hsz := Lib.hid FB.out.size
      clear F0 F1 hlt
      go_wp2_with fail
      refine (Open_nil _).mono ?_
      rintro e w1 ⟨rfl, rfl⟩
      have HN := Lib.hid (New_any 4000 (by omega) (by omega) w1)
      go_wp2_with fail
      refine (show Calls Tryd.prog 8 #[.int .i64 4000] w1 _ from HN.out).mono ?_
      rintro e wa ⟨⟨dp, b0, b1, rfl, hd, hp1, hp2, hp3⟩, hba⟩
      obtain ⟨n0, n1, n2⟩ := none_disk r HLE.out
      obtain ⟨d, hdd⟩ : ∃ d, d = ((newDk 4000).appended r).2 := ⟨_, rfl⟩
      have HOK : Hid ((newDk 4000).ok) := (newDk_post 4000 (by omega) (by omega)).1.ok
      have HAP := Lib.hid (Append_any dp b0 b1 (newDk 4000) r (by have := HLE.out; omega) wa hd HOK.out)
      rw [n0, ← HSR.out, ← hdd] at HAP
      rw [← hdd] at n1 n2
      have HTX := Lib.hid n1
      have HGD := Lib.hid n2
      have HDD := Lib.hid hdd
      have HPP : Hid (w.heap.size ≤ dp ∧ w.heap.size ≤ b0 ∧ w.heap.size ≤ b1) := by have := hsz.out; exact ⟨by omega, by omega, by omega⟩
      have HA : Hid (Below w.heap.size w wa) := FB.out.trans (hba.mono hsz.out)
      clear hd hp1 hp2 hp3 hba HN n0 n1 n2 hdd FB hsz
      go_wp2_with fail
      refine HAP.out.mono ?_
      rintro e wb ⟨rfl, hd, hk⟩
      have HD := Lib.hid hd
      have HB1 : Hid (Below w.heap.size w wb) := HA.out.trans (hk.below HA.out.size (fun k h => by
        obtain ⟨p1, p2, p3⟩ := HPP.out
        rcases h with h | h | h <;> omega))
      have HN := Lib.hid (rNew_any 4000 (by omega) (by omega) wb)
      clear hd hk HAP HA
      go_wp2_with fail
      refine (show Calls Tryd.prog 23 #[.int .i64 4000] wb _ from HN.out).mono ?_
      rintro e wc ⟨⟨cp, cb, rfl, hr, hq1, hq2⟩, hbc⟩
      have HAP := Lib.hid (rAppend_any cp cb (newDk 4000) r (by have := HLE.out; omega) wc hr HOK.out)
      rw [← HSR.out, ← HDD.out] at HAP
      have HD2 := Lib.hid (HD.out.kept hbc)
      have HLD : Hid (dp < wb.heap.size ∧ b0 < wb.heap.size ∧ b1 < wb.heap.size) := ⟨lt_of_heap HD.out.at_, HD.out.a0.lt, HD.out.a1.lt⟩
      have HQ : Hid (wb.heap.size ≤ cp ∧ wb.heap.size ≤ cb) := ⟨hq1, hq2⟩
      have HB2 : Hid (Below w.heap.size w wc) := HB1.out.trans (hbc.mono HB1.out.size)
      have HS2 : Hid (w.heap.size ≤ wb.heap.size ∧ w.heap.size ≤ wc.heap.size) := ⟨HB1.out.size, HB2.out.size⟩
      clear hr hq1 hq2 hbc HN HD HB1
      go_wp2_with fail
      refine HAP.out.mono ?_
      rintro e wd ⟨rfl, hr, hk⟩
      have HR := Lib.hid hr
      have HD3 : Hid (DiskAt wd dp b0 b1 d) := HD2.out.apart hk (by
        obtain ⟨l1, l2, l3⟩ := HLD.out
        obtain ⟨l4, l5⟩ := HQ.out
        rintro (h | h) <;> omega) (by
        obtain ⟨l1, l2, l3⟩ := HLD.out
        obtain ⟨l4, l5⟩ := HQ.out
        rintro (h | h) <;> omega) (by
        obtain ⟨l1, l2, l3⟩ := HLD.out
        obtain ⟨l4, l5⟩ := HQ.out
        rintro (h | h) <;> omega)
      have HB3 : Hid (Below w.heap.size w wd) := HB2.out.trans (hk.below HS2.out.2 (fun k h => by
        obtain ⟨l4, l5⟩ := HQ.out
        obtain ⟨l6, l7⟩ := HS2.out
        rcases h with h | h <;> omega))
      have HT3 : Hid (TabAt wd) := HT.out.block (HB3.out.block _ HT.out.lt)
      have HOP := Lib.hid (Open_any dp b0 b1 d wd HD3.out HGD.out.ok HT3.out)
      clear hr hk HAP HD2 HB2
      go_wp2_with fail
      refine HOP.out.mono ?_
      rintro e we ⟨hop, hbe⟩
      have HB4 : Hid (Below w.heap.size w we) := HB3.out.trans (hbe.mono HB3.out.size)
      have HRO := Lib.hid (rfOpen_one cp cb d we (HR.out.kept hbe) HGD.out.ok r HTX.out (by have := HLE.out; omega))
      have HT4 : Hid (TabAt we) := HT.out.block (HB4.out.block _ HT.out.lt)
      clear hbe HOP HD3 HR HB3 HT3
      obtain ⟨R, hR⟩ : ∃ R, R = openD d := ⟨_, rfl⟩
      rw [← hR] at hop HRO
      cases R with
      | inl er =>
        have h1 : ¬ er = 0 := openD_ne hR.symm
        have h0 : (er == 0) = false := by rw [beq_eq_false_iff_ne]; exact h1
        have h2 : (er != 0) = true := by simpa using h1
        unfold OpenP at hop
        dsimp only at hop
        obtain ⟨rfl, -⟩ := hop
        clear hR
        go_wp2_with fail
        refine HRO.out.mono ?_
        rintro e wf ⟨hop, hbf⟩
        unfold ROpenP at hop
        dsimp only at hop
        subst hop
        have HB5 : Hid (Below w.heap.size w wf) := HB4.out.trans (hbf.mono HB4.out.size)
        have HSH := Lib.hid (shown_any wf (HT.out.block (HB5.out.block _ HT.out.lt)))
        clear hbf HRO
        go_wp2_with fail
        refine HSH.out.mono ?_
        rintro e wg ⟨rfl, hbg⟩
        go_wp2_with fail
        go_ret
        exact ⟨rfl, HB5.out.trans (hbg.mono HB5.out.size)⟩
      | inr q =>
        unfold OpenP at hop
        dsimp only at hop
        obtain ⟨pq, v, rfl, -⟩ := hop
        clear hR
        go_wp2_with fail
        refine HRO.out.mono ?_
        rintro e wf ⟨hop, hbf⟩
        unfold ROpenP at hop
        dsimp only at hop
        obtain ⟨pq2, v2, rfl, -⟩ := hop
        have HB5 : Hid (Below w.heap.size w wf) := HB4.out.trans (hbf.mono HB4.out.size)
        have HSH := Lib.hid (shown_any wf (HT.out.block (HB5.out.block _ HT.out.lt)))
        clear hbf HRO
        go_wp2_with fail
        refine HSH.out.mono ?_
        rintro e wg ⟨rfl, hbg⟩
        go_wp2_with fail
        go_ret
        exact ⟨rfl, HB5.out.trans (hbg.mono HB5.out.size)⟩
end Go.Proofs.YtoggmplkbiidhaaDoor
