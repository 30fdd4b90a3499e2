/- Walks: a disk: a record is added. -/
import Derived.Test.YtjfmcobikadjhaaDB5
namespace Go.Proofs.Ytjfmcobikadjhaa
set_option linter.all false
open Go.RowKit Go.Shelf
/-- What writes bytes to a half is at hand. -/
structure Pen (w0 : World) (q1 q2 p b n : Nat) (x y : Value) (st : Wr) (w : World) : Prop where
  wr : WrAt w p b n x y st
  c1 : w.cell? ⟨q1, 0, none⟩ = some (.pointer (some ⟨p, 0, none⟩))
  c2 : w.cell? ⟨q2, 0, none⟩ = some (.slice (some ⟨b, 0, none⟩) n n)
  n1 : ¬ two p b q1
  n2 : ¬ two p b q2
  kp : Kp (two p b) w0 w
theorem Pen.start {p b n : Nat} {x y : Value} {st : Wr} {w w4 : World} (h : WrAt w p b n x y st) (h4 : w4 = (w.alloc (.cells #[.pointer (some ⟨p, 0, none⟩)] 25)).alloc (.cells #[.slice (some ⟨b, 0, none⟩) n n] 49)) :
    Pen w w.heap.size (w.heap.size + 1) p b n x y st w4 := by
  have hp := lt_of_heap h.at_
  have hb := h.half.lt
  have hB : Below w.heap.size w w4 := by rw [h4]; exact ((Below.refl _ w).alloc (Nat.le_refl _) _).alloc (by simp) _
  have e1 : w4.heap[w.heap.size]? = some (.cells #[.pointer (some ⟨p, 0, none⟩)] 25) := by
    rw [h4, Below.heap_alloc _ _ _ (by simp)]; exact alloc_last _ _ rfl
  have e2 : w4.heap[w.heap.size + 1]? = some (.cells #[.slice (some ⟨b, 0, none⟩) n n] 49) := by
    rw [h4]; exact alloc_last _ _ (by simp)
  refine ⟨h.below hB, by simp [World.cell?, e1], by simp [World.cell?, e2], ?_, ?_, Kp.of_below hB⟩
  · rintro (q | q) <;> omega
  · rintro (q | q) <;> omega
theorem Pen.below {w0 w w' : World} {c1 c2 p b n : Nat} {x y : Value} {st : Wr} (h : Pen w0 c1 c2 p b n x y st w) (hb : Below w.heap.size w w') : Pen w0 c1 c2 p b n x y st w' :=
  ⟨h.wr.below hb, (hb.cell (p := ⟨c1, 0, none⟩) (World.block_lt_of_cell? w ⟨c1, 0, none⟩ h.c1)).trans h.c1, (hb.cell (p := ⟨c2, 0, none⟩) (World.block_lt_of_cell? w ⟨c2, 0, none⟩ h.c2)).trans h.c2, h.n1, h.n2, h.kp.trans (Kp.of_below hb)⟩
theorem Pen.call {w0 w : World} {c1 c2 p b n : Nat} {x y : Value} {st : Wr} (h : Pen w0 c1 c2 p b n x y st w) (k : Nat) (s : List UInt8) (hk : k + s.length ≤ n) (hn : n ≤ 262144) :
    Calls Try.prog 45 #[.int .i64 (k : Int), .string (bytesOf s), .pointer (some ⟨c1, 0, none⟩), .pointer (some ⟨c2, 0, none⟩)] w fun e w' => (∃ v, e = .returned v) ∧ Pen w0 c1 c2 p b n x y (putS st k s) w' := by
  refine (writer1_any c1 c2 p b n k x y st s hk hn w h.wr h.c1 h.c2 h.n1 h.n2).mono ?_
  rintro e w' ⟨he, hw, hkp⟩
  exact ⟨he, hw, hkp.cell h.n1 h.c1, hkp.cell h.n2 h.c2, h.n1, h.n2, h.kp.trans hkp⟩
set_option maxRecDepth 100000 in
set_option maxHeartbeats 40000000 in
theorem Append_any (p b0 b1 : Nat) (d : Dk) (r : List UInt8) (hrm : r.length ≤ 100000000) (w : World) (hd : DiskAt w p b0 b1 d) (ho : d.ok) :
    Calls Try.prog 12 #[.pointer (some ⟨p, 0, none⟩), .string (bytesOf r)] w fun e w' => e = .returned (.int .i64 (d.appended r).1) ∧ DiskAt w' p b0 b1 (d.appended r).2 ∧ Kp (three p b0 b1) w w' := by
  have HACT := Lib.hid (active_any p b0 b1 d w hd ho)
  obtain ⟨k0, -, -, k3, -, -⟩ := four_cells hd.at_
  have HNO := Lib.hid (none_no p b0 d.size d.size w k0)
  have HD := Lib.hid hd
  have HO := Lib.hid ho
  obtain ⟨E, hE⟩ : ∃ E, E = (appS d.wr d.size d.gen d.used r).err := ⟨_, rfl⟩
  have HRES : Hid (∀ W, DiskAt W p b0 b1 (d.put d.half (appS d.wr d.size d.gen d.used r)) → Calls Try.prog 31 #[.pointer (some ⟨p, 0, none⟩)] W fun e w' => e = .returned (.int .i64 E) ∧ W = w') := fun W h => by
    refine (result_any p b0 b1 _ W h).mono ?_
    rintro e w' ⟨rfl, rfl⟩
    refine ⟨?_, rfl⟩
    rw [hE, show (d.put d.half (appS d.wr d.size d.gen d.used r)).failed = (appS d.wr d.size d.gen d.used r).failed by unfold Dk.put; split <;> rfl]
    rfl
  obtain ⟨R, hR⟩ : ∃ R, R = d.appended r := ⟨_, rfl⟩
  rw [← hR]
  unfold Dk.appended at hR
  rw [← hE] at hR
  clear hE
  obtain ⟨n, hn⟩ : ∃ n, n = r.length := ⟨_, rfl⟩
  have hs : (bytesOf r).size = n := by rw [hn]; rfl
  have hs1 : ((bytesOf r).size : Int) = (n : Int) := by rw [hs]
  rw [← hn] at hR hrm
  have HN := Lib.hid hn
  have HRR := Lib.hid hR
  have h64 := ho.lo
  have hmx := ho.hi
  clear hd ho k0 hR hn
  cases hfd : d.failed
  case true =>
    rw [hfd] at k3
    have hRe : R = (9, d) := by rw [HRR.out, if_pos hfd]
    go_enter Try.func12, Try.ntmps12
    go_wp2_with fail
    refine HNO.out.mono ?_
    rintro e w1 ⟨rfl, rfl⟩
    go_wp2
    go_ret
    rw [hRe]
    exact ⟨rfl, HD.out, Kp.refl _ _⟩
  case false =>
  rw [hfd] at k3
  have HFD := Lib.hid hfd
  have hnf : ¬ d.failed = true := by rw [hfd]; simp
  by_cases hlong : 65535 < n
  · have hRe : R = (3, d) := by rw [HRR.out, if_neg hnf, if_pos hlong]
    have hl1 : (65535 : Int) < (n : Int) := by omega
    have HRE := Lib.hid hRe
    clear hRe hfd
    go_enter Try.func12, Try.ntmps12
    go_wp2_with fail
    refine HNO.out.mono ?_
    rintro e w1 ⟨rfl, rfl⟩
    go_wp2
    go_ret
    rw [HRE.out]
    exact ⟨rfl, HD.out, Kp.refl _ _⟩
  have hl1 : ¬ (65535 : Int) < (n : Int) := by omega
  rw [if_neg hnf, if_neg hlong] at HRR
  clear hfd hnf
  obtain ⟨x, hx⟩ : ∃ x, x = d.half := ⟨_, rfl⟩
  obtain ⟨y, hy⟩ : ∃ y, y = d.gen := ⟨_, rfl⟩
  obtain ⟨u, hu⟩ : ∃ u, u = d.used := ⟨_, rfl⟩
  rw [← hx, ← hy] at HACT
  rw [← hx, ← hy, ← hu] at HRR HRES
  have hyl : y < 18446744073709551616 := by have := d.gen_lt; omega
  have HX := Lib.hid hx
  have HY := Lib.hid hy
  have HU := Lib.hid hu
  have hc : x = -1 ∨ x = 0 ∨ x = 1 := by rw [HX.out]; exact d.half_cases
  clear hx hy hu
  go_enter Try.func12, Try.ntmps12
  go_wp2_with fail
  refine HNO.out.mono ?_
  rintro e w1 ⟨rfl, rfl⟩
  go_wp2_with fail
  refine HACT.out.mono ?_
  rintro e w2 ⟨rfl, hb2⟩
  have HD2 := Lib.hid (HD.out.kept hb2)
  clear k3
  obtain ⟨k0, k1, -, -, -, -⟩ := four_cells HD2.out.at_
  rcases hc with rfl | rfl | rfl
  · rw [if_pos (by omega)] at HRR
    go_wp2
    go_ret
    rw [HRR.out]
    exact ⟨rfl, HD2.out, Kp.of_below hb2⟩
  · rw [if_neg (by omega)] at HRR
    have HUE : Hid (u = endR d.h0 y) := by show _ = _; rw [HU.out, HY.out]; unfold Dk.used Dk.act; rw [← HX.out]; rfl
    have HE := Lib.hid (end_any b0 d.h0 y hyl (by rw [HO.out.l0]; exact h64) (by rw [HO.out.l0]; exact hmx))
    rw [HO.out.l0, ← HUE.out] at HE
    have hub : 17 ≤ u ∧ u ≤ d.size := by rw [HUE.out, ← HO.out.l0]; exact endR_bounds y (by rw [HO.out.l0]; exact h64)
    obtain ⟨hu1, hu2⟩ := hub
    go_wp2_with fail
    refine (HE.out _ HD2.out.a0).mono ?_
    rintro e w3 ⟨rfl, hb3d⟩
    have hb3 := hb2.trans (hb3d.mono hb2.size)
    have HD3 := Lib.hid (HD.out.kept hb3)
    clear k0 k1
    by_cases hfull : d.size < u + 13 + n
    · rw [if_pos hfull] at HRR
      have hf1 : (d.size : Int) < (u : Int) + 13 + (n : Int) := by omega
      go_wp2
      go_ret
      rw [HRR.out]
      exact ⟨rfl, HD3.out, Kp.of_below hb3⟩
    rw [if_neg hfull] at HRR
    have hf1 : ¬ (d.size : Int) < (u : Int) + 13 + (n : Int) := by omega
    go_wp2_with fail
    refine (writer_any p b0 d.size _).mono ?_
    rintro e w4 ⟨rfl, hw4⟩
    have HP4 := Lib.hid (Pen.start (HD3.out.wr0 HO.out) hw4)
    obtain ⟨c1, hc1⟩ : ∃ c, c = w3.heap.size := ⟨_, rfl⟩
    obtain ⟨c2, hc2⟩ : ∃ c, c = w3.heap.size + 1 := ⟨_, rfl⟩
    rw [← hc2, ← hc1] at HP4 ⊢
    clear hw4 hc1 hc2
    go_wp2_with fail
    go_at_call 45
    refine (HP4.out.call u [0] (by simp; omega) hmx).mono ?_
    rintro e w5 ⟨⟨v5, rfl⟩, hp5⟩
    have HP5 := Lib.hid hp5
    clear hp5 HP4
    have hf2 : u + 13 + n ≤ d.size := by omega
    by_cases hnx : u + 13 + n < d.size
    · have hf3 : (u : Int) + 13 + (n : Int) < (d.size : Int) := by omega
      go_wp2_with fail
      go_at_call 45
      refine (HP5.out.call (u + 13 + n) [0] (by simp; omega) hmx).mono ?_
      rintro e w6 ⟨⟨v6, rfl⟩, hp6⟩
      have HP6 := Lib.hid hp6
      clear hp6 HP5
      go_wp2_with fail
      go_at_call 30
      refine (body_any y u r hyl (by omega) (by rw [← HN.out]; omega) _).mono ?_
      rintro e w7 ⟨rfl, hb7⟩
      have HP7 := Lib.hid (HP6.out.below hb7)
      clear HP6 hb7
      go_wp2_with fail
      go_at_call 45
      refine (HP7.out.call (u + 1) (bodyL y u r) (by rw [bodyL_length, ← HN.out]; omega) hmx).mono ?_
      rintro e w8 ⟨⟨v8, rfl⟩, hp8⟩
      have HP8 := Lib.hid hp8
      clear hp8 HP7
      go_wp2_with fail
      go_at_call 45
      refine (HP8.out.call u [1] (by simp; omega) hmx).mono ?_
      rintro e w9 ⟨⟨v9, rfl⟩, hp9⟩
      have hst : appS d.wr d.size y u r = putS (putS (putS (putS ⟨d.h0, d.fuse, d.failed⟩ u [0]) (u + 13 + n) [0]) (u + 1) (bodyL y u r)) u [1] := by
        have e1 : d.wr = ⟨d.h0, d.fuse, d.failed⟩ := by unfold Dk.wr Dk.act; rw [← HX.out]; rfl
        unfold appS
        rw [← HN.out, if_pos hnx, e1]
      have hd9 := HD3.out.back0 hp9.kp hp9.wr
      rw [← hst] at hd9
      have HD9 := Lib.hid hd9
      have HK9 := Lib.hid ((Kp.of_below (P := three p b0 b1) hb3).trans (hp9.kp.mono (fun k q => Or.elim q Or.inl (fun q => Or.inr (Or.inl q)))))
      clear hp9 hd9 hst
      go_wp2_with fail
      refine (HRES.out _ HD9.out).mono ?_
      rintro e w10 ⟨rfl, rfl⟩
      go_wp2
      go_ret
      rw [HRR.out]
      exact ⟨rfl, HD9.out, HK9.out⟩
    · have hf3 : ¬ (u : Int) + 13 + (n : Int) < (d.size : Int) := by omega
      have HP6 := HP5
      clear HP5
      go_wp2_with fail
      go_at_call 30
      refine (body_any y u r hyl (by omega) (by rw [← HN.out]; omega) _).mono ?_
      rintro e w7 ⟨rfl, hb7⟩
      have HP7 := Lib.hid (HP6.out.below hb7)
      clear HP6 hb7
      go_wp2_with fail
      go_at_call 45
      refine (HP7.out.call (u + 1) (bodyL y u r) (by rw [bodyL_length, ← HN.out]; omega) hmx).mono ?_
      rintro e w8 ⟨⟨v8, rfl⟩, hp8⟩
      have HP8 := Lib.hid hp8
      clear hp8 HP7
      go_wp2_with fail
      go_at_call 45
      refine (HP8.out.call u [1] (by simp; omega) hmx).mono ?_
      rintro e w9 ⟨⟨v9, rfl⟩, hp9⟩
      have hst : appS d.wr d.size y u r = putS (putS (putS ⟨d.h0, d.fuse, d.failed⟩ u [0]) (u + 1) (bodyL y u r)) u [1] := by
        have e1 : d.wr = ⟨d.h0, d.fuse, d.failed⟩ := by unfold Dk.wr Dk.act; rw [← HX.out]; rfl
        unfold appS
        rw [← HN.out, if_neg hnx, e1]
      have hd9 := HD3.out.back0 hp9.kp hp9.wr
      rw [← hst] at hd9
      have HD9 := Lib.hid hd9
      have HK9 := Lib.hid ((Kp.of_below (P := three p b0 b1) hb3).trans (hp9.kp.mono (fun k q => Or.elim q Or.inl (fun q => Or.inr (Or.inl q)))))
      clear hp9 hd9 hst
      go_wp2_with fail
      refine (HRES.out _ HD9.out).mono ?_
      rintro e w10 ⟨rfl, rfl⟩
      go_wp2
      go_ret
      rw [HRR.out]
      exact ⟨rfl, HD9.out, HK9.out⟩
  · rw [if_neg (by omega)] at HRR
    have HUE : Hid (u = endR d.h1 y) := by show _ = _; rw [HU.out, HY.out]; unfold Dk.used Dk.act; rw [← HX.out]; rfl
    have HE := Lib.hid (end_any b1 d.h1 y hyl (by rw [HO.out.l1]; exact h64) (by rw [HO.out.l1]; exact hmx))
    rw [HO.out.l1, ← HUE.out] at HE
    have hub : 17 ≤ u ∧ u ≤ d.size := by rw [HUE.out, ← HO.out.l1]; exact endR_bounds y (by rw [HO.out.l1]; exact h64)
    obtain ⟨hu1, hu2⟩ := hub
    go_wp2_with fail
    refine (HE.out _ HD2.out.a1).mono ?_
    rintro e w3 ⟨rfl, hb3d⟩
    have hb3 := hb2.trans (hb3d.mono hb2.size)
    have HD3 := Lib.hid (HD.out.kept hb3)
    clear k0 k1
    by_cases hfull : d.size < u + 13 + n
    · rw [if_pos hfull] at HRR
      have hf1 : (d.size : Int) < (u : Int) + 13 + (n : Int) := by omega
      go_wp2
      go_ret
      rw [HRR.out]
      exact ⟨rfl, HD3.out, Kp.of_below hb3⟩
    rw [if_neg hfull] at HRR
    have hf1 : ¬ (d.size : Int) < (u : Int) + 13 + (n : Int) := by omega
    go_wp2_with fail
    refine (writer_any p b1 d.size _).mono ?_
    rintro e w4 ⟨rfl, hw4⟩
    have HP4 := Lib.hid (Pen.start (HD3.out.wr1 HO.out) hw4)
    obtain ⟨c1, hc1⟩ : ∃ c, c = w3.heap.size := ⟨_, rfl⟩
    obtain ⟨c2, hc2⟩ : ∃ c, c = w3.heap.size + 1 := ⟨_, rfl⟩
    rw [← hc2, ← hc1] at HP4 ⊢
    clear hw4 hc1 hc2
    go_wp2_with fail
    go_at_call 45
    refine (HP4.out.call u [0] (by simp; omega) hmx).mono ?_
    rintro e w5 ⟨⟨v5, rfl⟩, hp5⟩
    have HP5 := Lib.hid hp5
    clear hp5 HP4
    have hf2 : u + 13 + n ≤ d.size := by omega
    by_cases hnx : u + 13 + n < d.size
    · have hf3 : (u : Int) + 13 + (n : Int) < (d.size : Int) := by omega
      go_wp2_with fail
      go_at_call 45
      refine (HP5.out.call (u + 13 + n) [0] (by simp; omega) hmx).mono ?_
      rintro e w6 ⟨⟨v6, rfl⟩, hp6⟩
      have HP6 := Lib.hid hp6
      clear hp6 HP5
      go_wp2_with fail
      go_at_call 30
      refine (body_any y u r hyl (by omega) (by rw [← HN.out]; omega) _).mono ?_
      rintro e w7 ⟨rfl, hb7⟩
      have HP7 := Lib.hid (HP6.out.below hb7)
      clear HP6 hb7
      go_wp2_with fail
      go_at_call 45
      refine (HP7.out.call (u + 1) (bodyL y u r) (by rw [bodyL_length, ← HN.out]; omega) hmx).mono ?_
      rintro e w8 ⟨⟨v8, rfl⟩, hp8⟩
      have HP8 := Lib.hid hp8
      clear hp8 HP7
      go_wp2_with fail
      go_at_call 45
      refine (HP8.out.call u [1] (by simp; omega) hmx).mono ?_
      rintro e w9 ⟨⟨v9, rfl⟩, hp9⟩
      have hst : appS d.wr d.size y u r = putS (putS (putS (putS ⟨d.h1, d.fuse, d.failed⟩ u [0]) (u + 13 + n) [0]) (u + 1) (bodyL y u r)) u [1] := by
        have e1 : d.wr = ⟨d.h1, d.fuse, d.failed⟩ := by unfold Dk.wr Dk.act; rw [← HX.out]; rfl
        unfold appS
        rw [← HN.out, if_pos hnx, e1]
      have hd9 := HD3.out.back1 hp9.kp hp9.wr
      rw [← hst] at hd9
      have HD9 := Lib.hid hd9
      have HK9 := Lib.hid ((Kp.of_below (P := three p b0 b1) hb3).trans (hp9.kp.mono (fun k q => Or.elim q Or.inl (fun q => Or.inr (Or.inr q)))))
      clear hp9 hd9 hst
      go_wp2_with fail
      refine (HRES.out _ HD9.out).mono ?_
      rintro e w10 ⟨rfl, rfl⟩
      go_wp2
      go_ret
      rw [HRR.out]
      exact ⟨rfl, HD9.out, HK9.out⟩
    · have hf3 : ¬ (u : Int) + 13 + (n : Int) < (d.size : Int) := by omega
      have HP6 := HP5
      clear HP5
      go_wp2_with fail
      go_at_call 30
      refine (body_any y u r hyl (by omega) (by rw [← HN.out]; omega) _).mono ?_
      rintro e w7 ⟨rfl, hb7⟩
      have HP7 := Lib.hid (HP6.out.below hb7)
      clear HP6 hb7
      go_wp2_with fail
      go_at_call 45
      refine (HP7.out.call (u + 1) (bodyL y u r) (by rw [bodyL_length, ← HN.out]; omega) hmx).mono ?_
      rintro e w8 ⟨⟨v8, rfl⟩, hp8⟩
      have HP8 := Lib.hid hp8
      clear hp8 HP7
      go_wp2_with fail
      go_at_call 45
      refine (HP8.out.call u [1] (by simp; omega) hmx).mono ?_
      rintro e w9 ⟨⟨v9, rfl⟩, hp9⟩
      have hst : appS d.wr d.size y u r = putS (putS (putS ⟨d.h1, d.fuse, d.failed⟩ u [0]) (u + 1) (bodyL y u r)) u [1] := by
        have e1 : d.wr = ⟨d.h1, d.fuse, d.failed⟩ := by unfold Dk.wr Dk.act; rw [← HX.out]; rfl
        unfold appS
        rw [← HN.out, if_neg hnx, e1]
      have hd9 := HD3.out.back1 hp9.kp hp9.wr
      rw [← hst] at hd9
      have HD9 := Lib.hid hd9
      have HK9 := Lib.hid ((Kp.of_below (P := three p b0 b1) hb3).trans (hp9.kp.mono (fun k q => Or.elim q Or.inl (fun q => Or.inr (Or.inr q)))))
      clear hp9 hd9 hst
      go_wp2_with fail
      refine (HRES.out _ HD9.out).mono ?_
      rintro e w10 ⟨rfl, rfl⟩
      go_wp2
      go_ret
      rw [HRR.out]
      exact ⟨rfl, HD9.out, HK9.out⟩
end Go.Proofs.Ytjfmcobikadjhaa
