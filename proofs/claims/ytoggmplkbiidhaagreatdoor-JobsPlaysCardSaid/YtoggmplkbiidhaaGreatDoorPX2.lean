/- Helpers and walks, in one text. -/
import Derived.Test.YtoggmplkbiidhaaGreatDoorPX1
import Derived.Defers
import Derived.Recover
import Derived.Deep.RegionLaw
import Derived.Lib.SliceRun
import Derived.Deep.RegionWith
import Derived.Test.YtoggmplkbiidhaaGreatDoorProg
set_option linter.all false
set_option maxRecDepth 100000
set_option maxHeartbeats 40000000
/- Walks: a disk: a record is added. -/
namespace Go.Proofs.YtoggmplkbiidhaaGreatDoor
section
open Go.RowKit Go.Shelf
/-- What writes bytes to a half is at hand. -/
structure Pen (w0 : World) (q1 q2 p b n : Nat) (x y : Value) (st : Wr) (w : World) : Prop where
 wr : WrAt w p b n x y st
 c1 : w.cell? ⟨q1, 0, none⟩ = some (.pointer (some ⟨p, 0, none⟩))
 c2 : w.cell? ⟨q2, 0, none⟩ = some (.slice (some ⟨b, 0, none⟩) n n)
 n1 : ¬ two p b q1
 n2 : ¬ two p b q2
 kp : Kp (two p b) w0 w
theorem Pen.start {p b n : Nat} {x y : Value} {st : Wr} {w w4 : World} (h : WrAt w p b n x y st) (h4 : w4 = (w.alloc (.cells #[.pointer (some ⟨p, 0, none⟩)] 26)).alloc (.cells #[.slice (some ⟨b, 0, none⟩) n n] 54)) :
  Pen w w.heap.size (w.heap.size + 1) p b n x y st w4 := by
 have hp := lt_of_heap h.at_
 have hb := h.half.lt
 have hB : Below w.heap.size w w4 := by rw [h4]; exact ((Below.refl _ w).alloc (Nat.le_refl _) _).alloc (by simp) _
 have e1 : w4.heap[w.heap.size]? = some (.cells #[.pointer (some ⟨p, 0, none⟩)] 26) := by
  rw [h4, Below.heap_alloc _ _ _ (by simp)]; exact alloc_last _ _ rfl
 have e2 : w4.heap[w.heap.size + 1]? = some (.cells #[.slice (some ⟨b, 0, none⟩) n n] 54) := by
  rw [h4]; exact alloc_last _ _ (by simp)
 refine ⟨h.below hB, by simp [World.cell?, e1], by simp [World.cell?, e2], ?_, ?_, Kp.of_below hB⟩
 ·rintro (q | q) <;> omega
 ·rintro (q | q) <;> omega
theorem Pen.below {w0 w w' : World} {c1 c2 p b n : Nat} {x y : Value} {st : Wr} (h : Pen w0 c1 c2 p b n x y st w) (hb : Below w.heap.size w w') : Pen w0 c1 c2 p b n x y st w' :=
 ⟨h.wr.below hb, (hb.cell (p := ⟨c1, 0, none⟩) (World.block_lt_of_cell? w ⟨c1, 0, none⟩ h.c1)).trans h.c1, (hb.cell (p := ⟨c2, 0, none⟩) (World.block_lt_of_cell? w ⟨c2, 0, none⟩ h.c2)).trans h.c2, h.n1, h.n2, h.kp.trans (Kp.of_below hb)⟩
theorem Pen.call {w0 w : World} {c1 c2 p b n : Nat} {x y : Value} {st : Wr} (h : Pen w0 c1 c2 p b n x y st w) (k : Nat) (s : List UInt8) (hk : k + s.length ≤ n) (hn : n ≤ 262144) :
  Calls Tryz.prog 113 #[.int .i64 (k : Int), .string (bytesOf s), .pointer (some ⟨c1, 0, none⟩), .pointer (some ⟨c2, 0, none⟩)] w fun e w' => (∃ v, e = .returned v) ∧ Pen w0 c1 c2 p b n x y (putS st k s) w' := by
 refine (writer1_any c1 c2 p b n k x y st s hk hn w h.wr h.c1 h.c2 h.n1 h.n2).mono ?_
 rintro e w' ⟨he, hw, hkp⟩
 exact ⟨he, hw, hkp.cell h.n1 h.c1, hkp.cell h.n2 h.c2, h.n1, h.n2, h.kp.trans hkp⟩
theorem Append_any (p b0 b1 : Nat) (d : Dk) (r : List UInt8) (hrm : r.length ≤ 100000000) (w : World) (hd : DiskAt w p b0 b1 d) (ho : d.ok) :
  Calls Tryz.prog 41 #[.pointer (some ⟨p, 0, none⟩), .string (bytesOf r)] w fun e w' => e = .returned (.int .i64 (d.appended r).1) ∧ DiskAt w' p b0 b1 (d.appended r).2 ∧ Kp (three p b0 b1) w w' := by
 have HACT := Lib.hid (active_any p b0 b1 d w hd ho)
 obtain ⟨k0, -, -, k3, -, -⟩ := four_cells hd.at_
 have HNO := Lib.hid (none_no p b0 d.size d.size w k0)
 have HD := Lib.hid hd
 have HO := Lib.hid ho
 obtain ⟨E, hE⟩ : ∃ E, E = (appS d.wr d.size d.gen d.used r).err := ⟨_, rfl⟩
 have HRES : Hid (∀ W, DiskAt W p b0 b1 (d.put d.half (appS d.wr d.size d.gen d.used r)) → Calls Tryz.prog 89 #[.pointer (some ⟨p, 0, none⟩)] W fun e w' => e = .returned (.int .i64 E) ∧ W = w') := fun W h => by
  refine (result_any p b0 b1 _ W h).mono ?_
  rintro e w' ⟨rfl, rfl⟩
  refine ⟨?_, rfl⟩
  rw [hE, show (d.put d.half (appS d.wr d.size d.gen d.used r)).failed = (appS d.wr d.size d.gen d.used r).failed by unfold Dk.put; split <;> rfl]
  rfl
 obtain ⟨R, hR⟩ : ∃ R, R = d.appended r := ⟨_, rfl⟩
 rw [← hR]
 unfold Dk.appended at hR
 rw [← hE] at hR
 clear hE
 obtain ⟨n, hn⟩ : ∃ n, n = r.length := ⟨_, rfl⟩
 have hs : (bytesOf r).size = n := by rw [hn]; rfl
 have hs1 : ((bytesOf r).size : Int) = (n : Int) := by rw [hs]
 rw [← hn] at hR hrm
 have HN := Lib.hid hn
 have HRR := Lib.hid hR
 have h64 := ho.lo
 have hmx := ho.hi
 clear hd ho k0 hR hn
 cases hfd : d.failed
 case true =>
  rw [hfd] at k3
  have hRe : R = (9, d) := by rw [HRR.out, if_pos hfd]
  go_enter Tryz.func41, Tryz.ntmps41
  go_wp2_with fail
  refine HNO.out.mono ?_
  rintro e w1 ⟨rfl, rfl⟩
  go_wp2
  go_ret
  rw [hRe]
  exact ⟨rfl, HD.out, Kp.refl _ _⟩
 case false =>
 rw [hfd] at k3
 have HFD := Lib.hid hfd
 have hnf : ¬ d.failed = true := by rw [hfd]; simp
 by_cases hlong : 65535 < n
 ·have hRe : R = (3, d) := by rw [HRR.out, if_neg hnf, if_pos hlong]
  have hl1 : (65535 : Int) < (n : Int) := by omega
  have HRE := Lib.hid hRe
  clear hRe hfd
  go_enter Tryz.func41, Tryz.ntmps41
  go_wp2_with fail
  refine HNO.out.mono ?_
  rintro e w1 ⟨rfl, rfl⟩
  go_wp2
  go_ret
  rw [HRE.out]
  exact ⟨rfl, HD.out, Kp.refl _ _⟩
 have hl1 : ¬ (65535 : Int) < (n : Int) := by omega
 rw [if_neg hnf, if_neg hlong] at HRR
 clear hfd hnf
 obtain ⟨x, hx⟩ : ∃ x, x = d.half := ⟨_, rfl⟩
 obtain ⟨y, hy⟩ : ∃ y, y = d.gen := ⟨_, rfl⟩
 obtain ⟨u, hu⟩ : ∃ u, u = d.used := ⟨_, rfl⟩
 rw [← hx, ← hy] at HACT
 rw [← hx, ← hy, ← hu] at HRR HRES
 have hyl : y < 18446744073709551616 := by have := d.gen_lt; omega
 have HX := Lib.hid hx
 have HY := Lib.hid hy
 have HU := Lib.hid hu
 have hc : x = -1 ∨ x = 0 ∨ x = 1 := by rw [HX.out]; exact d.half_cases
 clear hx hy hu
 go_enter Tryz.func41, Tryz.ntmps41
 go_wp2_with fail
 refine HNO.out.mono ?_
 rintro e w1 ⟨rfl, rfl⟩
 go_wp2_with fail
 refine HACT.out.mono ?_
 rintro e w2 ⟨rfl, hb2⟩
 have HD2 := Lib.hid (HD.out.kept hb2)
 clear k3
 obtain ⟨k0, k1, -, -, -, -⟩ := four_cells HD2.out.at_
 rcases hc with rfl | rfl | rfl
 ·rw [if_pos (by omega)] at HRR
  go_wp2
  go_ret
  rw [HRR.out]
  exact ⟨rfl, HD2.out, Kp.of_below hb2⟩
 ·rw [if_neg (by omega)] at HRR
  have HUE : Hid (u = endR d.h0 y) := by show _ = _; rw [HU.out, HY.out]; unfold Dk.used Dk.act; rw [← HX.out]; rfl
  have HE := Lib.hid (end_any b0 d.h0 y hyl (by rw [HO.out.l0]; exact h64) (by rw [HO.out.l0]; exact hmx))
  rw [HO.out.l0, ← HUE.out] at HE
  have hub : 17 ≤ u ∧ u ≤ d.size := by rw [HUE.out, ← HO.out.l0]; exact endR_bounds y (by rw [HO.out.l0]; exact h64)
  obtain ⟨hu1, hu2⟩ := hub
  go_wp2_with fail
  refine (HE.out _ HD2.out.a0).mono ?_
  rintro e w3 ⟨rfl, hb3d⟩
  have hb3 := hb2.trans (hb3d.mono hb2.size)
  have HD3 := Lib.hid (HD.out.kept hb3)
  clear k0 k1
  by_cases hfull : d.size < u + 13 + n
  ·rw [if_pos hfull] at HRR
   have hf1 : (d.size : Int) < (u : Int) + 13 + (n : Int) := by omega
   go_wp2
   go_ret
   rw [HRR.out]
   exact ⟨rfl, HD3.out, Kp.of_below hb3⟩
  rw [if_neg hfull] at HRR
  have hf1 : ¬ (d.size : Int) < (u : Int) + 13 + (n : Int) := by omega
  go_wp2_with fail
  refine (writer_any p b0 d.size _).mono ?_
  rintro e w4 ⟨rfl, hw4⟩
  have HP4 := Lib.hid (Pen.start (HD3.out.wr0 HO.out) hw4)
  obtain ⟨c1, hc1⟩ : ∃ c, c = w3.heap.size := ⟨_, rfl⟩
  obtain ⟨c2, hc2⟩ : ∃ c, c = w3.heap.size + 1 := ⟨_, rfl⟩
  rw [← hc2, ← hc1] at HP4 ⊢
  clear hw4 hc1 hc2
  go_wp2_with fail
  go_at_call 113
  refine (HP4.out.call u [0] (by simp; omega) hmx).mono ?_
  rintro e w5 ⟨⟨v5, rfl⟩, hp5⟩
  have HP5 := Lib.hid hp5
  clear hp5 HP4
  have hf2 : u + 13 + n ≤ d.size := by omega
  by_cases hnx : u + 13 + n < d.size
  ·have hf3 : (u : Int) + 13 + (n : Int) < (d.size : Int) := by omega
   go_wp2_with fail
   go_at_call 113
   refine (HP5.out.call (u + 13 + n) [0] (by simp; omega) hmx).mono ?_
   rintro e w6 ⟨⟨v6, rfl⟩, hp6⟩
   have HP6 := Lib.hid hp6
   clear hp6 HP5
   go_wp2_with fail
   go_at_call 88
   refine (body_any y u r hyl (by omega) (by rw [← HN.out]; omega) _).mono ?_
   rintro e w7 ⟨rfl, hb7⟩
   have HP7 := Lib.hid (HP6.out.below hb7)
   clear HP6 hb7
   go_wp2_with fail
   go_at_call 113
   refine (HP7.out.call (u + 1) (bodyL y u r) (by rw [bodyL_length, ← HN.out]; omega) hmx).mono ?_
   rintro e w8 ⟨⟨v8, rfl⟩, hp8⟩
   have HP8 := Lib.hid hp8
   clear hp8 HP7
   go_wp2_with fail
   go_at_call 113
   refine (HP8.out.call u [1] (by simp; omega) hmx).mono ?_
   rintro e w9 ⟨⟨v9, rfl⟩, hp9⟩
   have hst : appS d.wr d.size y u r = putS (putS (putS (putS ⟨d.h0, d.fuse, d.failed⟩ u [0]) (u + 13 + n) [0]) (u + 1) (bodyL y u r)) u [1] := by
    have e1 : d.wr = ⟨d.h0, d.fuse, d.failed⟩ := by unfold Dk.wr Dk.act; rw [← HX.out]; rfl
    unfold appS
    rw [← HN.out, if_pos hnx, e1]
   have hd9 := HD3.out.back0 hp9.kp hp9.wr
   rw [← hst] at hd9
   have HD9 := Lib.hid hd9
   have HK9 := Lib.hid ((Kp.of_below (P := three p b0 b1) hb3).trans (hp9.kp.mono (fun k q => Or.elim q Or.inl (fun q => Or.inr (Or.inl q)))))
   clear hp9 hd9 hst
   go_wp2_with fail
   refine (HRES.out _ HD9.out).mono ?_
   rintro e w10 ⟨rfl, rfl⟩
   go_wp2
   go_ret
   rw [HRR.out]
   exact ⟨rfl, HD9.out, HK9.out⟩
  ·have hf3 : ¬ (u : Int) + 13 + (n : Int) < (d.size : Int) := by omega
   have HP6 := HP5
   clear HP5
   go_wp2_with fail
   go_at_call 88
   refine (body_any y u r hyl (by omega) (by rw [← HN.out]; omega) _).mono ?_
   rintro e w7 ⟨rfl, hb7⟩
   have HP7 := Lib.hid (HP6.out.below hb7)
   clear HP6 hb7
   go_wp2_with fail
   go_at_call 113
   refine (HP7.out.call (u + 1) (bodyL y u r) (by rw [bodyL_length, ← HN.out]; omega) hmx).mono ?_
   rintro e w8 ⟨⟨v8, rfl⟩, hp8⟩
   have HP8 := Lib.hid hp8
   clear hp8 HP7
   go_wp2_with fail
   go_at_call 113
   refine (HP8.out.call u [1] (by simp; omega) hmx).mono ?_
   rintro e w9 ⟨⟨v9, rfl⟩, hp9⟩
   have hst : appS d.wr d.size y u r = putS (putS (putS ⟨d.h0, d.fuse, d.failed⟩ u [0]) (u + 1) (bodyL y u r)) u [1] := by
    have e1 : d.wr = ⟨d.h0, d.fuse, d.failed⟩ := by unfold Dk.wr Dk.act; rw [← HX.out]; rfl
    unfold appS
    rw [← HN.out, if_neg hnx, e1]
   have hd9 := HD3.out.back0 hp9.kp hp9.wr
   rw [← hst] at hd9
   have HD9 := Lib.hid hd9
   have HK9 := Lib.hid ((Kp.of_below (P := three p b0 b1) hb3).trans (hp9.kp.mono (fun k q => Or.elim q Or.inl (fun q => Or.inr (Or.inl q)))))
   clear hp9 hd9 hst
   go_wp2_with fail
   refine (HRES.out _ HD9.out).mono ?_
   rintro e w10 ⟨rfl, rfl⟩
   go_wp2
   go_ret
   rw [HRR.out]
   exact ⟨rfl, HD9.out, HK9.out⟩
 ·rw [if_neg (by omega)] at HRR
  have HUE : Hid (u = endR d.h1 y) := by show _ = _; rw [HU.out, HY.out]; unfold Dk.used Dk.act; rw [← HX.out]; rfl
  have HE := Lib.hid (end_any b1 d.h1 y hyl (by rw [HO.out.l1]; exact h64) (by rw [HO.out.l1]; exact hmx))
  rw [HO.out.l1, ← HUE.out] at HE
  have hub : 17 ≤ u ∧ u ≤ d.size := by rw [HUE.out, ← HO.out.l1]; exact endR_bounds y (by rw [HO.out.l1]; exact h64)
  obtain ⟨hu1, hu2⟩ := hub
  go_wp2_with fail
  refine (HE.out _ HD2.out.a1).mono ?_
  rintro e w3 ⟨rfl, hb3d⟩
  have hb3 := hb2.trans (hb3d.mono hb2.size)
  have HD3 := Lib.hid (HD.out.kept hb3)
  clear k0 k1
  by_cases hfull : d.size < u + 13 + n
  ·rw [if_pos hfull] at HRR
   have hf1 : (d.size : Int) < (u : Int) + 13 + (n : Int) := by omega
   go_wp2
   go_ret
   rw [HRR.out]
   exact ⟨rfl, HD3.out, Kp.of_below hb3⟩
  rw [if_neg hfull] at HRR
  have hf1 : ¬ (d.size : Int) < (u : Int) + 13 + (n : Int) := by omega
  go_wp2_with fail
  refine (writer_any p b1 d.size _).mono ?_
  rintro e w4 ⟨rfl, hw4⟩
  have HP4 := Lib.hid (Pen.start (HD3.out.wr1 HO.out) hw4)
  obtain ⟨c1, hc1⟩ : ∃ c, c = w3.heap.size := ⟨_, rfl⟩
  obtain ⟨c2, hc2⟩ : ∃ c, c = w3.heap.size + 1 := ⟨_, rfl⟩
  rw [← hc2, ← hc1] at HP4 ⊢
  clear hw4 hc1 hc2
  go_wp2_with fail
  go_at_call 113
  refine (HP4.out.call u [0] (by simp; omega) hmx).mono ?_
  rintro e w5 ⟨⟨v5, rfl⟩, hp5⟩
  have HP5 := Lib.hid hp5
  clear hp5 HP4
  have hf2 : u + 13 + n ≤ d.size := by omega
  by_cases hnx : u + 13 + n < d.size
  ·have hf3 : (u : Int) + 13 + (n : Int) < (d.size : Int) := by omega
   go_wp2_with fail
   go_at_call 113
   refine (HP5.out.call (u + 13 + n) [0] (by simp; omega) hmx).mono ?_
   rintro e w6 ⟨⟨v6, rfl⟩, hp6⟩
   have HP6 := Lib.hid hp6
   clear hp6 HP5
   go_wp2_with fail
   go_at_call 88
   refine (body_any y u r hyl (by omega) (by rw [← HN.out]; omega) _).mono ?_
   rintro e w7 ⟨rfl, hb7⟩
   have HP7 := Lib.hid (HP6.out.below hb7)
   clear HP6 hb7
   go_wp2_with fail
   go_at_call 113
   refine (HP7.out.call (u + 1) (bodyL y u r) (by rw [bodyL_length, ← HN.out]; omega) hmx).mono ?_
   rintro e w8 ⟨⟨v8, rfl⟩, hp8⟩
   have HP8 := Lib.hid hp8
   clear hp8 HP7
   go_wp2_with fail
   go_at_call 113
   refine (HP8.out.call u [1] (by simp; omega) hmx).mono ?_
   rintro e w9 ⟨⟨v9, rfl⟩, hp9⟩
   have hst : appS d.wr d.size y u r = putS (putS (putS (putS ⟨d.h1, d.fuse, d.failed⟩ u [0]) (u + 13 + n) [0]) (u + 1) (bodyL y u r)) u [1] := by
    have e1 : d.wr = ⟨d.h1, d.fuse, d.failed⟩ := by unfold Dk.wr Dk.act; rw [← HX.out]; rfl
    unfold appS
    rw [← HN.out, if_pos hnx, e1]
   have hd9 := HD3.out.back1 hp9.kp hp9.wr
   rw [← hst] at hd9
   have HD9 := Lib.hid hd9
   have HK9 := Lib.hid ((Kp.of_below (P := three p b0 b1) hb3).trans (hp9.kp.mono (fun k q => Or.elim q Or.inl (fun q => Or.inr (Or.inr q)))))
   clear hp9 hd9 hst
   go_wp2_with fail
   refine (HRES.out _ HD9.out).mono ?_
   rintro e w10 ⟨rfl, rfl⟩
   go_wp2
   go_ret
   rw [HRR.out]
   exact ⟨rfl, HD9.out, HK9.out⟩
  ·have hf3 : ¬ (u : Int) + 13 + (n : Int) < (d.size : Int) := by omega
   have HP6 := HP5
   clear HP5
   go_wp2_with fail
   go_at_call 88
   refine (body_any y u r hyl (by omega) (by rw [← HN.out]; omega) _).mono ?_
   rintro e w7 ⟨rfl, hb7⟩
   have HP7 := Lib.hid (HP6.out.below hb7)
   clear HP6 hb7
   go_wp2_with fail
   go_at_call 113
   refine (HP7.out.call (u + 1) (bodyL y u r) (by rw [bodyL_length, ← HN.out]; omega) hmx).mono ?_
   rintro e w8 ⟨⟨v8, rfl⟩, hp8⟩
   have HP8 := Lib.hid hp8
   clear hp8 HP7
   go_wp2_with fail
   go_at_call 113
   refine (HP8.out.call u [1] (by simp; omega) hmx).mono ?_
   rintro e w9 ⟨⟨v9, rfl⟩, hp9⟩
   have hst : appS d.wr d.size y u r = putS (putS (putS ⟨d.h1, d.fuse, d.failed⟩ u [0]) (u + 1) (bodyL y u r)) u [1] := by
    have e1 : d.wr = ⟨d.h1, d.fuse, d.failed⟩ := by unfold Dk.wr Dk.act; rw [← HX.out]; rfl
    unfold appS
    rw [← HN.out, if_neg hnx, e1]
   have hd9 := HD3.out.back1 hp9.kp hp9.wr
   rw [← hst] at hd9
   have HD9 := Lib.hid hd9
   have HK9 := Lib.hid ((Kp.of_below (P := three p b0 b1) hb3).trans (hp9.kp.mono (fun k q => Or.elim q Or.inl (fun q => Or.inr (Or.inr q)))))
   clear hp9 hd9 hst
   go_wp2_with fail
   refine (HRES.out _ HD9.out).mono ?_
   rintro e w10 ⟨rfl, rfl⟩
   go_wp2
   go_ret
   rw [HRR.out]
   exact ⟨rfl, HD9.out, HK9.out⟩
end
/- Walks: a disk: all records are replaced: the text. -/
section
open Go.RowKit Go.Shelf
set_option maxRecDepth 100000
def needF (n : Nat) (l : List (List UInt8)) : Nat := l.foldl (fun m s => min (m + 13 + s.length) (n + 1)) 17
def encT (g : Nat) (l : List (List UInt8)) : List UInt8 := l.foldl (fun T s => T ++ 1 :: bodyL g (17 + T.length) s) []
def longAny (l : List (List UInt8)) : Bool := l.any fun s => decide (65535 < s.length)
theorem needF_snoc (n : Nat) (l : List (List UInt8)) (s : List UInt8) : needF n (l ++ [s]) = min (needF n l + 13 + s.length) (n + 1) := by unfold needF; rw [List.foldl_append]; rfl
theorem encT_snoc (g : Nat) (l : List (List UInt8)) (s : List UInt8) : encT g (l ++ [s]) = encT g l ++ 1 :: bodyL g (17 + (encT g l).length) s := by unfold encT; rw [List.foldl_append]; rfl
def sumR (l : List (List UInt8)) : Nat := l.foldl (fun m s => m + 13 + s.length) 17
theorem sumR_snoc (l : List (List UInt8)) (s : List UInt8) : sumR (l ++ [s]) = sumR l + 13 + s.length := by unfold sumR; rw [List.foldl_append]; rfl
theorem sumF_mono : ∀ (m : List (List UInt8)) (x : Nat), x ≤ m.foldl (fun m s => m + 13 + s.length) x := by
 intro m
 induction m with
 | nil => intro x; exact Nat.le_refl _
 | cons s m ih => intro x; rw [List.foldl_cons]; exact Nat.le_trans (by omega) (ih _)
theorem sumR_take (l : List (List UInt8)) (k : Nat) : sumR (l.take k) ≤ sumR l := by
 have h := List.take_append_drop k l
 have e : sumR l = (l.drop k).foldl (fun m s => m + 13 + s.length) (sumR (l.take k)) := by
  unfold sumR
  rw [← List.foldl_append, h]
 rw [e]
 exact sumF_mono _ _
theorem rev_ind {α : Type} {P : List α → Prop} (h0 : P []) (h1 : ∀ l x, P l → P (l ++ [x])) (l : List α) : P l := by
 have : ∀ l : List α, P l.reverse := by
  intro l
  induction l with
  | nil => exact h0
  | cons x l ih => rw [List.reverse_cons]; exact h1 _ _ ih
 rw [← List.reverse_reverse l]; exact this _
theorem needF_eq (n : Nat) (l : List (List UInt8)) (hn : 16 ≤ n) : needF n l = min (sumR l) (n + 1) := by
 induction l using rev_ind with
 | h0 => unfold needF sumR; simp; omega
 | h1 l s ih => rw [needF_snoc, sumR_snoc, ih]; omega
theorem needF_le (n : Nat) (l : List (List UInt8)) (hn : 16 ≤ n) : needF n l ≤ n + 1 := by rw [needF_eq n l hn]; omega
theorem encT_length (g : Nat) (l : List (List UInt8)) : (encT g l).length + 17 = sumR l := by
 induction l using rev_ind with
 | h0 => rfl
 | h1 l s ih => rw [encT_snoc, sumR_snoc, List.length_append, List.length_cons, bodyL_length]; omega
/-! ### the text's block -/
def padT (n : Nat) (T : List UInt8) : List UInt8 := T ++ List.replicate (n - T.length) 0
theorem padT_length (n : Nat) (T : List UInt8) (h : T.length ≤ n) : (padT n T).length = n := by unfold padT; rw [List.length_append, List.length_replicate]; omega
def TextAt (w : World) (b n : Nat) (T : List UInt8) : Prop := w.heap[b]? = some (.cells ((padT n T).map byteV).toArray 5)
theorem padT_write (n : Nat) (T s : List UInt8) (h : T.length + s.length ≤ n) :
  (((padT n T).map byteV).toArray.toList.take T.length ++ s.map byteV ++ ((padT n T).map byteV).toArray.toList.drop (T.length + s.length)) = (padT n (T ++ s)).map byteV := by
 unfold padT
 simp only [List.toList_toArray, List.map_append, List.map_replicate, List.length_append]
 rw [List.take_left' (by simp), List.drop_append, List.drop_of_length_le (by simp), List.length_map, List.nil_append, List.drop_replicate, List.append_assoc]
 rw [show n - T.length - (T.length + s.length - T.length) = n - (T.length + s.length) by omega, List.append_assoc]
theorem kp_setRow (w : World) (g : Nat) (cs : Array Value) : Kp (fun k => k = g) w (w.setRow g cs) :=
 ⟨rfl, rfl, rfl, by simp [World.setRow], fun k _ hk => setRow_other w g k _ hk⟩
theorem text_one (w : World) (b n : Nat) (T : List UInt8) (c : UInt8) (ty : TypeId) (h : TextAt w b n T) (hr : T.length + 1 ≤ n) (a : Addr) (cp : Nat) (hc : w.cell? a = some (byteV c)) :
  ∃ w', (Builtin.append_ #[54, 54] ty #[.slice (some ⟨b, 0, none⟩) T.length n, .slice (some a) 1 cp]).run Tryz.prog w = .ok (.slice (some ⟨b, 0, none⟩) (T.length + 1) n) w' ∧ TextAt w' b n (T ++ [c]) ∧ Kp (fun k => k = b) w w' := by
 obtain ⟨i0, hi, hz, h1, h2⟩ := info_parts infoByte
 have hrun := run_append_room (P := Tryz.prog) w 54 ty 5 i0 Tryz.underlying54 hi b T.length n _ h a 1 cp [byteV c] (by rw [h1]; rfl) (fun j u hj => by
  cases j with
  | zero => simp at hj; subst hj; simpa [Addr.add] using hc
  | succ j => simp at hj) (by intro u hu; simp at hu; subst hu; rfl) hr (by rw [h1]; simp [padT_length n T (by omega)]; omega)
 rw [h1, Nat.mul_one] at hrun
 refine ⟨_, hrun, ?_, kp_setRow _ _ _⟩
 have := padT_write n T [c] hr
 show (w.setRow b _).heap[b]? = _
 rw [setRow_heap w b _ _ _ _ h]
 congr 2
 exact congrArg List.toArray this
theorem text_str (w : World) (b n : Nat) (T s : List UInt8) (ty : TypeId) (h : TextAt w b n T) (hr : T.length + s.length ≤ n) :
  ∃ w', (Builtin.append_ #[54, 9] ty #[.slice (some ⟨b, 0, none⟩) T.length n, .string (bytesOf s)]).run Tryz.prog w = .ok (.slice (some ⟨b, 0, none⟩) (T.length + s.length) n) w' ∧ TextAt w' b n (T ++ s) ∧ Kp (fun k => k = b) w w' := by
 obtain ⟨i0, hi, hz, h1, h2⟩ := info_parts infoByte
 have hrun := Lib.run_append_room_string (P := Tryz.prog) w 54 9 ty 5 i0 Tryz.underlying54 Tryz.underlying9 hi h1 b T.length n _ h (bytesOf s) hr (by show T.length + s.length ≤ _; simp [padT_length n T (by omega)]; omega)
 refine ⟨_, hrun, ?_, kp_setRow _ _ _⟩
 have := padT_write n T s hr
 show (w.setRow b _).heap[b]? = _
 rw [setRow_heap w b _ _ _ _ h]
 congr 2
 exact congrArg List.toArray this
theorem wpList_app_run {P : Program} (w : World) {ops : Array Oper} {rest : List Oper} {o : Oper} {a : Act} {Q : Exit → Act → World → Prop} (hgd : o.guard = none) (d s : Operand) (t t' : TypeId)
  (ho : o.op = .call { callee := .builtin .append, args := #[d, s], argTypes := #[t, t'] }) (v u : Value) (hd : a.eval d = v) (hs : a.eval s = u) {v' : Value} {w' : World}
  (hr : (Builtin.append_ #[t, t'] o.type #[v, u]).run P w = .ok v' w') (h : wpList P ops Q rest (a.put o.dst v') w') : wpList P ops Q (o :: rest) a w := by
 refine wpList_plain hgd fun K hK => ?_
 unfold Oper.wp execOp
 simp only [ho, resolve, invoke, builtin, Sem.run_bind, Sem.run_pure, Result.andThen_ok, List.map_toArray, List.map_cons, List.map_nil, hd, hs, hr]
 exact hK _ _ h
end
/- Walks: a disk: all records are replaced. -/
section
open Go.RowKit Go.Shelf
def rewS (st : Wr) (n g : Nat) (l : List (List UInt8)) : Wr :=
 putS (putS (putS (putS st 0 [0]) 17 (padT (n - 17) (encT g l))) 1 (eightL g ++ shortL (eightL g))) 0 [1]
def Dk.other (d : Dk) : Wr := ⟨if d.half = 0 then d.h1 else d.h0, d.fuse, d.failed⟩
def Dk.side (d : Dk) : Int := if d.half = 0 then 1 else 0
def Dk.rewritten (d : Dk) (l : List (List UInt8)) : Int × Dk :=
 if d.failed = true then (9, d) else if longAny l = true then (3, d) else if d.size < sumR l ∨ d.gen = 9223372036854775807 then (5, d) else
  ((rewS d.other d.size (d.gen + 1) l).err, d.put d.side (rewS d.other d.size (d.gen + 1) l))
theorem longAny_at (l : List (List UInt8)) (k : Nat) (s : List UInt8) (hs : l[k]? = some s) (h : 65535 < s.length) : longAny l = true := by
 unfold longAny
 rw [List.any_eq_true]
 exact ⟨s, List.mem_of_getElem? hs, by simpa using h⟩
theorem longAny_none (l : List (List UInt8)) (h : ∀ (j : Nat) (s : List UInt8), l[j]? = some s → s.length ≤ 65535) : longAny l = false := by
 unfold longAny
 rw [List.any_eq_false]
 intro s hs
 obtain ⟨j, hj⟩ := List.mem_iff_getElem?.1 hs
 have := h j s hj
 simp; omega
theorem pad_text (n : Nat) (T : List UInt8) (h17 : 17 ≤ n) (h : T.length ≤ n - 17) : ((padT n T).drop 0).take (n - 17) = padT (n - 17) T := by
 unfold padT
 rw [List.drop_zero, List.take_append, List.take_of_length_le (by omega), List.take_replicate]
 congr 2
 omega
theorem Rewrite_any (p b0 b1 : Nat) (d : Dk) (l : List (List UInt8)) (v : Value) (w : World) (hv : w.reads w.heap.size v (l.map strV)) (hd : DiskAt w p b0 b1 d) (ho : d.ok) :
  Calls Tryz.prog 80 #[.pointer (some ⟨p, 0, none⟩), v] w fun e w' => e = .returned (.int .i64 (d.rewritten l).1) ∧ DiskAt w' p b0 b1 (d.rewritten l).2 ∧ Kp (three p b0 b1) w w' := by
 have HACT := Lib.hid (active_any p b0 b1 d w hd ho)
 obtain ⟨k0, -, -, k3, -, -⟩ := four_cells hd.at_
 have HNO := Lib.hid (none_no p b0 d.size d.size w k0)
 have HD := Lib.hid hd
 have HO := Lib.hid ho
 obtain ⟨E, hE⟩ : ∃ E, E = (rewS d.other d.size (d.gen + 1) l).err := ⟨_, rfl⟩
 have HRES : Hid (∀ W, DiskAt W p b0 b1 (d.put d.side (rewS d.other d.size (d.gen + 1) l)) → Calls Tryz.prog 89 #[.pointer (some ⟨p, 0, none⟩)] W fun e w' => e = .returned (.int .i64 E) ∧ W = w') := fun W h => by
  refine (result_any p b0 b1 _ W h).mono ?_
  rintro e w' ⟨rfl, rfl⟩
  refine ⟨?_, rfl⟩
  rw [hE, show (d.put d.side (rewS d.other d.size (d.gen + 1) l)).failed = (rewS d.other d.size (d.gen + 1) l).failed by unfold Dk.put; split <;> rfl]
  rfl
 obtain ⟨R, hR⟩ : ∃ R, R = d.rewritten l := ⟨_, rfl⟩
 rw [← hR]
 unfold Dk.rewritten at hR
 rw [← hE] at hR
 clear hE
 have HRR := Lib.hid hR
 have h64 := ho.lo
 have hmx := ho.hi
 have HRD := Lib.hid hv
 obtain ⟨a, cap, rfl, hn, hz, hcm, hc⟩ := hv
 obtain ⟨n, hnl⟩ : ∃ n, n = l.length := ⟨_, rfl⟩
 rw [List.length_map, ← hnl] at hz HRD ⊢
 have HNL := Lib.hid hnl
 have HC : Hid (∀ (j : Nat) (s : List UInt8), l[j]? = some s → ∃ b off, a = some ⟨b, off, none⟩ ∧ b < w.heap.size ∧ w.cell? ⟨b, off + j, none⟩ = some (.string (bytesOf s))) := fun j s hs => hc j (strV s) (by simp [hs])
 have hn63 : n ≤ 9223372036854775807 := by unfold maxLen at hcm; omega
 clear hd ho k0 hR hc hn hnl hcm
 cases hfd : d.failed
 case true =>
  rw [hfd] at k3
  have hRe : R = (9, d) := by rw [HRR.out, if_pos hfd]
  go_enter Tryz.func80, Tryz.ntmps80
  go_wp2_with fail
  refine HNO.out.mono ?_
  rintro e w1 ⟨rfl, rfl⟩
  go_wp2
  go_ret
  rw [hRe]
  exact ⟨rfl, HD.out, Kp.refl _ _⟩
 case false =>
 rw [hfd] at k3
 have hnf : ¬ d.failed = true := by rw [hfd]; simp
 rw [if_neg hnf] at HRR
 clear hfd hnf
 obtain ⟨k0, k1, -, -, -, -⟩ := four_cells HD.out.at_
 clear k1
 go_enter Tryz.func80, Tryz.ntmps80
 go_wp2_with fail
 refine HNO.out.mono ?_
 rintro e w1 ⟨rfl, rfl⟩
 go_wp2_with fail
 go_loop [6, 32] (fun nd i => ∃ k : Nat, k ≤ n ∧ i = .int .i64 (k : Int) ∧ nd = .int .i64 (needF d.size (l.take k) : Int) ∧ Hid (∀ (j : Nat) (s : List UInt8), j < k → l[j]? = some s → s.length ≤ 65535)) (fun _ i => n - (intOf i).toNat)
 case atStart => exact ⟨0, Nat.zero_le _, rfl, rfl, fun j s hj => by omega⟩
 case round =>
  obtain ⟨k, hk, rfl, rfl, hsh⟩ := hrel
  by_cases hlt : k < n
  ·obtain ⟨s, hs⟩ : ∃ s, l[k]? = some s := ⟨l[k]'(by rw [← HNL.out]; exact hlt), List.getElem?_eq_getElem _⟩
   obtain ⟨b, off, rfl, hb, hcell⟩ := HC.out k s hs
   obtain ⟨m, hm⟩ : ∃ m, m = s.length := ⟨_, rfl⟩
   have hsz : (bytesOf s).size = m := by rw [hm]; rfl
   have hsz1 : ((bytesOf s).size : Int) = (m : Int) := by rw [hsz]
   have HS := Lib.hid hs
   have HM := Lib.hid hm
   clear hs hm
   by_cases hlong : 65535 < m
   ·have hl1 : (65535 : Int) < (m : Int) := by omega
    have hRe : R = (3, d) := by rw [HRR.out, if_pos (longAny_at l k s HS.out (by rw [← HM.out]; exact hlong))]
    have HRE := Lib.hid hRe
    clear hRe
    go_wp2
    go_ret
    rw [HRE.out]
    exact ⟨rfl, HD.out, Kp.refl _ _⟩
   have hl1 : ¬ (65535 : Int) < (m : Int) := by omega
   have htk : l.take (k + 1) = l.take k ++ [s] := by rw [List.take_add_one, HS.out]; rfl
   have hnd := needF_snoc d.size (l.take k) s
   have hnb := needF_le d.size (l.take k) (by omega)
   rw [← htk, ← HM.out] at hnd
   have HND := Lib.hid hnd
   have HSH : Hid (∀ (j : Nat) (s : List UInt8), j < k + 1 → l[j]? = some s → s.length ≤ 65535) := fun j s' hj hs' => by
    rcases Nat.lt_or_ge j k with h | h
    ·exact hsh.out j s' h hs'
    ·have e : j = k := by omega
     rw [e, HS.out] at hs'
     injection hs' with hs'
     rw [← hs', ← HM.out]; omega
   obtain ⟨N, hN⟩ : ∃ N, N = needF d.size (l.take k) := ⟨_, rfl⟩
   rw [← hN] at hnb HND ⊢
   clear hnd htk hN
   by_cases hmin : N + 13 + m ≤ d.size + 1
   ·have hmin1 : (N : Int) + 13 + (m : Int) ≤ (d.size : Int) + 1 := by omega
    have hmin2 : ¬ (d.size : Int) + 1 < (N : Int) + 13 + (m : Int) := by omega
    go_wp2
    go_round
    case rel => exact ⟨k + 1, by omega, by go_num, by rw [HND.out, Nat.min_eq_left hmin]; go_num, HSH.out⟩
    case measure => simp [intOf]; omega
   ·have hmin1 : (d.size : Int) + 1 < (N : Int) + 13 + (m : Int) := by omega
    have hmin2 : ¬ (N : Int) + 13 + (m : Int) ≤ (d.size : Int) + 1 := by omega
    go_wp2
    go_round
    case rel => exact ⟨k + 1, by omega, by go_num, by rw [HND.out, Nat.min_eq_right (by omega)]; go_num, HSH.out⟩
    case measure => simp [intOf]; omega
  ·obtain rfl : k = n := by omega
   have htl : l.take k = l := by rw [List.take_of_length_le (by rw [← HNL.out]; exact Nat.le_refl _)]
   have hla : longAny l = false := longAny_none l (fun j s hj => by
    have hlt : j < l.length := (List.getElem?_eq_some_iff.1 hj).1
    exact hsh.out j s (by rw [HNL.out]; exact hlt) hj)
   have hnd := needF_eq d.size l (by omega)
   rw [htl]
   rw [hla, if_neg (by simp)] at HRR
   obtain ⟨N, hN⟩ : ∃ N, N = needF d.size l := ⟨_, rfl⟩
   rw [← hN] at hnd ⊢
   have hNi : d.size < N ↔ d.size < sumR l := by omega
   have HNI := Lib.hid hNi
   have HLA := Lib.hid hla
   obtain ⟨x, hx⟩ : ∃ x, x = d.half := ⟨_, rfl⟩
   obtain ⟨y, hy⟩ : ∃ y, y = d.gen := ⟨_, rfl⟩
   rw [← hx, ← hy] at HACT
   rw [← hy] at HRR HRES
   have hyl : y < 9223372036854775808 := by have := d.gen_lt; omega
   have HX := Lib.hid hx
   have HY := Lib.hid hy
   have hnb : N ≤ d.size + 1 := by omega
   clear htl hla hnd hN hNi hx hy hsh hlt hk
   go_wp2_with fail
   refine HACT.out.mono ?_
   rintro e w2 ⟨rfl, hb2⟩
   have HD2 := Lib.hid (HD.out.kept hb2)
   clear k0 k3
   by_cases hfull : d.size < N
   ·have hf1 : (d.size : Int) < (N : Int) := by omega
    have hRe : R = (5, d) := by rw [HRR.out, if_pos (Or.inl (HNI.out.1 hfull))]
    have HRE := Lib.hid hRe
    clear hRe
    go_wp2
    go_ret
    rw [HRE.out]
    exact ⟨rfl, HD2.out, Kp.of_below hb2⟩
   have hf1 : ¬ (d.size : Int) < (N : Int) := by omega
   by_cases hlast : y = 9223372036854775807
   ·have hf2 : ((y : Int) == 9223372036854775807) = true := by rw [hlast]; rfl
    have hRe : R = (5, d) := by rw [HRR.out, if_pos (Or.inr hlast)]
    have HRE := Lib.hid hRe
    clear hRe hlast
    go_wp2
    go_ret
    rw [HRE.out]
    exact ⟨rfl, HD2.out, Kp.of_below hb2⟩
   have hf2 : ((y : Int) == 9223372036854775807) = false := by rw [beq_eq_false_iff_ne]; omega
   have hsum : sumR l ≤ d.size := by have := HNI.out; omega
   have hRe : R = (E, d.put d.side (rewS d.other d.size (y + 1) l)) := by
    rw [HRR.out, if_neg]
    rintro (h | h)
    ·omega
    ·exact hlast h
   have HRE := Lib.hid hRe
   obtain ⟨G, hG⟩ : ∃ G, G = y + 1 := ⟨_, rfl⟩
   have hwg : IntKind.u64.wrap ((y : Int) + 1) = (G : Int) := by rw [IntWalk.u64_in _ ⟨by omega, by omega⟩]; omega
   rw [← hG] at HRE HRES
   have hGl : G < 18446744073709551616 := by omega
   have HSUM := Lib.hid hsum
   have hmk : ∀ W : World, (Instr.makeSlice 54 (.int .i64 0) (.int .i64 (d.size : Int))).run Tryz.prog W = .ok (.slice (some ⟨W.heap.size, 0, none⟩) 0 d.size) (W.alloc (.cells (zrow8 d.size) 5)) := fun W => by
    simpa using make_u8 0 d.size (Nat.zero_le _) (by omega) W
   clear hRe hlast hsum hG
   obtain ⟨k0, k1, -, -, -, -⟩ := four_cells HD2.out.at_
   by_cases hx0 : x = 0
   ·have hxb : (x == 0) = true := by rw [hx0]; rfl
    have hsd : d.side = 1 := by unfold Dk.side; rw [← HX.out, if_pos hx0]
    have hot : d.other = ⟨d.h1, d.fuse, d.failed⟩ := by unfold Dk.other; rw [← HX.out, if_pos hx0]
    rw [hsd, hot] at HRE HRES
    clear hsd hot hx0
    go_wp2_with fail
    have hS2 := hb2.size
    obtain ⟨tb, htb⟩ : ∃ tb, tb = w2.heap.size := ⟨_, rfl⟩
    have hl0 : Hid (TextAt (w2.alloc (.cells (zrow8 d.size) 5)) tb d.size (encT G (l.take 0))) := by
     have e : padT d.size [] = List.replicate d.size 0 := by unfold padT; simp
     show (w2.alloc _).heap[tb]? = _
     rw [htb, show encT G (l.take 0) = [] from rfl, e]
     exact alloc_last _ _ rfl
    have hB0 : Below w2.heap.size w2 (w2.alloc (.cells (zrow8 d.size) 5)) := (Below.refl _ _).alloc (Nat.le_refl _) _
    have hZ0 : w2.heap.size < (w2.alloc (.cells (zrow8 d.size) 5)).heap.size := by simp
    rw [← htb]
    have HTB := Lib.hid htb
    have HB2 := Lib.hid hb2
    clear k0 k1 hmk hb2 htb
    generalize w2.alloc (.cells (zrow8 d.size) 5) = w3 at hl0 hB0 hZ0 ⊢
    have HB0 := Lib.hid hB0
    have HZ0 := Lib.hid hZ0
    clear hB0 hZ0
    go_loopw [12, 78] (fun tv i wr => ∃ k' : Nat, k' ≤ k ∧ i = .int .i64 (k' : Int) ∧ tv = .slice (some ⟨tb, 0, none⟩) (encT G (l.take k')).length d.size ∧ Hid (TextAt wr tb d.size (encT G (l.take k'))) ∧ Hid (Below w2.heap.size w2 wr) ∧ w2.heap.size < wr.heap.size) (fun _ i _ => k - (intOf i).toNat)
    case atStart => exact ⟨0, Nat.zero_le _, rfl, rfl, hl0.out, HB0.out, HZ0.out⟩
    case round =>
     obtain ⟨k', hk', rfl, rfl, hT, hB, hZ⟩ := hrel
     have hTBl : w2.heap.size ≤ tb := by have := HTB.out; omega
     have hTBr : tb < wr.heap.size := by have := HTB.out; omega
     by_cases hlt : k' < k
     ·obtain ⟨s, hs⟩ : ∃ s, l[k']? = some s := ⟨l[k']'(by rw [← HNL.out]; exact hlt), List.getElem?_eq_getElem _⟩
      obtain ⟨b, off, rfl, hb, hcell0⟩ := HC.out k' s hs
      have hcell : wr.cell? ⟨b, off + k', none⟩ = some (.string (bytesOf s)) := (hB.out.cell (p := ⟨b, off + k', none⟩) (Nat.lt_of_lt_of_le hb hS2)).trans ((HB2.out.cell (p := ⟨b, off + k', none⟩) hb).trans hcell0)
      have hsl : s.length ≤ 65535 := by
       rcases Nat.lt_or_ge 65535 s.length with h | h
       ·have := longAny_at l k' s hs h
        rw [HLA.out] at this; cases this
       ·exact h
      have htk : l.take (k' + 1) = l.take k' ++ [s] := by rw [List.take_add_one, hs]; rfl
      have hrm : (encT G (l.take k')).length + 13 + s.length + 17 ≤ d.size := by
       have h1 := sumR_take l (k' + 1)
       have h2 := encT_length G (l.take k')
       have h3 := HSUM.out
       rw [htk, sumR_snoc] at h1
       omega
      have hES : encT G (l.take (k' + 1)) = (encT G (l.take k') ++ [1]) ++ bodyL G (17 + (encT G (l.take k')).length) s := by
       rw [htk, encT_snoc, List.append_assoc]; rfl
      have HES := Lib.hid hES
      obtain ⟨T, hTe⟩ : ∃ T, T = encT G (l.take k') := ⟨_, rfl⟩
      rw [← hTe] at hrm HES hT ⊢
      obtain ⟨TL, hTL⟩ : ∃ TL, TL = T.length := ⟨_, rfl⟩
      rw [← hTL] at hrm HES ⊢
      obtain ⟨L1, hL1⟩ : ∃ L, L = TL + 1 := ⟨_, rfl⟩
      obtain ⟨K17, hK17⟩ : ∃ L, L = 17 + TL := ⟨_, rfl⟩
      rw [← hK17] at HES
      have e17 : (17 : Int) + (L1 : Int) - 1 = (K17 : Int) := by omega
      have hw4 : (wr.alloc (.cells #[.int .u8 1] 5)).cell? ⟨wr.heap.size, 0, none⟩ = some (byteV 1) := by
       have e : (wr.alloc (.cells #[.int .u8 1] 5)).heap[wr.heap.size]? = some (.cells #[.int .u8 1] 5) := alloc_last _ _ rfl
       unfold World.cell?; simp only [e]; rfl
      have hT4 : TextAt (wr.alloc (.cells #[.int .u8 1] 5)) tb d.size T := (Below.heap_alloc _ _ _ (by omega)).trans hT.out
      obtain ⟨w5, hr5, ht5, hk5⟩ := text_one (wr.alloc (.cells #[.int .u8 1] 5)) tb d.size T 1 54 hT4 (by omega) ⟨wr.heap.size, 0, none⟩ 1 hw4
      rw [← hTL, ← hL1] at hr5
      have hz5 := hk5.size
      simp only [World.size_alloc] at hz5
      have HB5 : Hid (Below w2.heap.size w2 w5) := (hB.out.alloc (Nat.le_of_lt hZ) _).trans (hk5.below (by simp; omega) (fun q e => by subst e; omega))
      have HT5 := Lib.hid ht5
      have HL1 := Lib.hid hL1
      have HTL := Lib.hid hTL
      have hTLb : TL + 30 + s.length ≤ d.size := by omega
      have hL1b : L1 ≤ d.size := by omega
      have hKb : K17 ≤ 1000000 := by omega
      clear hs hcell0 htk hES hTe hT4 hw4 ht5 hk5 hT hB hl0 hrm hL1 hTL hK17
      go_wp2_with (at_builtin; refine wpList_app_run _ rfl (.tmp 82) (.tmp 83) 54 54 rfl _ _ rfl rfl hr5 ?_)
      refine (body_any G K17 s hGl hKb hsl _).mono ?_
      rintro e w6 ⟨rfl, hb6⟩
      have ht6 : TextAt w6 tb d.size (T ++ [1]) := (hb6.block _ (by omega)).trans HT5.out
      obtain ⟨w7, hr7, ht7, hk7⟩ := text_str w6 tb d.size (T ++ [1]) (bodyL G K17 s) 54 ht6 (by rw [List.length_append, List.length_singleton, bodyL_length, ← HTL.out]; omega)
      rw [List.length_append, List.length_singleton, ← HTL.out, ← HL1.out] at hr7
      have hz6 := hb6.size
      have hz7 := hk7.size
      have HB7 : Hid (Below w2.heap.size w2 w7) := (HB5.out.trans (hb6.mono (by omega))).trans (hk7.below (by omega) (fun q e => by subst e; omega))
      have HT7 := Lib.hid ht7
      clear ht6 ht7 hb6 hk7 hr5
      go_wp2_with (at_builtin; refine wpList_app_run _ rfl (.tmp 85) (.tmp 92) 54 9 rfl _ _ rfl rfl hr7 ?_)
      go_roundw
      case rel =>
       refine ⟨k' + 1, by omega, by go_num, ?_, ?_, HB7.out, by omega⟩
       ·rw [HES.out, List.length_append, List.length_append, List.length_singleton, ← HTL.out, ← HL1.out]
       ·rw [HES.out]; exact HT7.out
      case measure => simp [intOf]; omega
     ·obtain rfl : k' = k := by omega
      have htl : l.take k' = l := by rw [List.take_of_length_le (by rw [← HNL.out]; exact Nat.le_refl _)]
      rw [htl] at hT ⊢
      have hTs := encT_length G l
      obtain ⟨T, hTe⟩ : ∃ T, T = encT G l := ⟨_, rfl⟩
      rw [← hTe] at hT hTs ⊢
      have hst : rewS ⟨d.h1, d.fuse, d.failed⟩ d.size G l = putS (putS (putS (putS ⟨d.h1, d.fuse, d.failed⟩ 0 [0]) 17 (padT (d.size - 17) T)) 1 (eightL G ++ shortL (eightL G))) 0 [1] := by rw [hTe]; rfl
      obtain ⟨M, hM⟩ : ∃ M, M = d.size - 17 := ⟨_, rfl⟩
      rw [← hM] at hst
      have hM17 : (d.size : Int) - 17 = (M : Int) := by omega
      have hMs : M ≤ d.size := by omega
      have hTM : T.length ≤ M := by have := HSUM.out; omega
      have hM2 : M + 17 = d.size := by omega
      have hpl := padT_length M T hTM
      have hpt : ((padT d.size T).drop 0).take M = padT M T := by rw [hM]; exact pad_text d.size T (by omega) (by omega)
      have hpd : (padT d.size T).length = d.size := padT_length d.size T (by omega)
      have HPT := Lib.hid hpt
      have HPD := Lib.hid hpd
      have HPL := Lib.hid hpl
      have HM2 := Lib.hid hM2
      have HDr := Lib.hid (HD2.out.kept hB.out)
      have HST := Lib.hid hst
      have htn : ¬ two p b1 tb := by
       have h1 := lt_of_heap HD2.out.at_
       have h2 := HD2.out.a1.lt
       rintro (q | q) <;> omega
      have HTN := Lib.hid htn
      have hTL2 : T.length ≤ d.size := by omega
      have HWK : Hid (Below w.heap.size w wr) := HB2.out.trans (hB.out.mono hS2)
      clear htl hTs hTe hM hpt hpd hpl hM2 hst htn hlt hl0
      go_wp2_with fail
      refine (writer_any p b1 d.size _).mono ?_
      rintro e w8 ⟨rfl, hw8⟩
      have HP8 := Lib.hid (Pen.start (HDr.out.wr1 HO.out) hw8)
      obtain ⟨c1, hc1⟩ : ∃ c, c = wr.heap.size := ⟨_, rfl⟩
      obtain ⟨c2, hc2⟩ : ∃ c, c = wr.heap.size + 1 := ⟨_, rfl⟩
      rw [← hc2, ← hc1] at HP8 ⊢
      clear hw8 hc1 hc2
      go_wp2_with fail
      go_at_call 113
      refine (HP8.out.call 0 [0] (by simp; omega) hmx).mono ?_
      rintro e w9 ⟨⟨v9, rfl⟩, hp9⟩
      have HP9 := Lib.hid hp9
      have ht9 : TextAt w9 tb d.size T := (hp9.kp.block tb hTBr HTN.out).trans hT.out
      have hcv : ∀ c, (convert 54 9 (.slice (some ⟨tb, 0, none⟩) M c)).run Tryz.prog w9 = .ok (.string (bytesOf (padT M T))) w9 := fun c => by
       have := HalfAt.text ⟨_, ht9⟩ 0 M (by rw [HPD.out]; omega) c
       rw [HPT.out] at this
       exact this
      clear hp9 HP8 ht9
      go_wp2_with fail
      go_at_call 113
      refine (HP9.out.call 17 (padT M T) (by rw [HPL.out]; have := HM2.out; omega) hmx).mono ?_
      rintro e w10 ⟨⟨v10, rfl⟩, hp10⟩
      have HP10 := Lib.hid hp10
      clear hp10 HP9 hcv
      go_wp2_with fail
      refine (eightN_any G hGl _).mono ?_
      rintro e w11 ⟨rfl, hb11⟩
      have HP11 := Lib.hid (HP10.out.below hb11)
      clear HP10 hb11
      go_wp2_with fail
      refine (eightN_any G hGl _).mono ?_
      rintro e w12 ⟨rfl, hb12⟩
      have HP12 := Lib.hid (HP11.out.below hb12)
      clear HP11 hb12
      go_wp2_with fail
      refine (shortN_any (eightL G) (by rw [eightL_length]; omega) _).mono ?_
      rintro e w13 ⟨rfl, hb13⟩
      have HP13 := Lib.hid (HP12.out.below hb13)
      clear HP12 hb13
      have z1 := eight_size G
      have z2 : (bytesOf (shortL (eightL G))).size = 8 := shortL_length _
      have z3 := bytesOf_append (eightL G) (shortL (eightL G))
      go_wp2_with fail
      go_at_call 113
      refine (HP13.out.call 1 (eightL G ++ shortL (eightL G)) (by rw [List.length_append, eightL_length, shortL_length]; omega) hmx).mono ?_
      rintro e w14 ⟨⟨v14, rfl⟩, hp14⟩
      have HP14 := Lib.hid hp14
      clear hp14 HP13
      go_wp2_with fail
      go_at_call 113
      refine (HP14.out.call 0 [1] (by simp; omega) hmx).mono ?_
      rintro e w15 ⟨⟨v15, rfl⟩, hp15⟩
      have hd15 := HDr.out.back1 hp15.kp hp15.wr
      rw [← HST.out] at hd15
      have HD15 := Lib.hid hd15
      have HK15 := Lib.hid ((Kp.of_below (P := three p b0 b1) HWK.out).trans (hp15.kp.mono (fun k q => Or.elim q Or.inl (fun q => Or.inr (Or.inr q)))))
      clear hp15 hd15 HP14
      go_wp2_with fail
      refine (HRES.out _ HD15.out).mono ?_
      rintro e w16 ⟨rfl, rfl⟩
      go_wp2
      go_ret
      rw [HRE.out]
      exact ⟨rfl, HD15.out, HK15.out⟩
   ·have hxb : (x == 0) = false := by rw [beq_eq_false_iff_ne]; exact hx0
    have hsd : d.side = 0 := by unfold Dk.side; rw [← HX.out, if_neg hx0]
    have hot : d.other = ⟨d.h0, d.fuse, d.failed⟩ := by unfold Dk.other; rw [← HX.out, if_neg hx0]
    rw [hsd, hot] at HRE HRES
    clear hsd hot hx0
    go_wp2_with fail
    have hS2 := hb2.size
    obtain ⟨tb, htb⟩ : ∃ tb, tb = w2.heap.size := ⟨_, rfl⟩
    have hl0 : Hid (TextAt (w2.alloc (.cells (zrow8 d.size) 5)) tb d.size (encT G (l.take 0))) := by
     have e : padT d.size [] = List.replicate d.size 0 := by unfold padT; simp
     show (w2.alloc _).heap[tb]? = _
     rw [htb, show encT G (l.take 0) = [] from rfl, e]
     exact alloc_last _ _ rfl
    have hB0 : Below w2.heap.size w2 (w2.alloc (.cells (zrow8 d.size) 5)) := (Below.refl _ _).alloc (Nat.le_refl _) _
    have hZ0 : w2.heap.size < (w2.alloc (.cells (zrow8 d.size) 5)).heap.size := by simp
    rw [← htb]
    have HTB := Lib.hid htb
    have HB2 := Lib.hid hb2
    clear k0 k1 hmk hb2 htb
    generalize w2.alloc (.cells (zrow8 d.size) 5) = w3 at hl0 hB0 hZ0 ⊢
    have HB0 := Lib.hid hB0
    have HZ0 := Lib.hid hZ0
    clear hB0 hZ0
    go_loopw [12, 78] (fun tv i wr => ∃ k' : Nat, k' ≤ k ∧ i = .int .i64 (k' : Int) ∧ tv = .slice (some ⟨tb, 0, none⟩) (encT G (l.take k')).length d.size ∧ Hid (TextAt wr tb d.size (encT G (l.take k'))) ∧ Hid (Below w2.heap.size w2 wr) ∧ w2.heap.size < wr.heap.size) (fun _ i _ => k - (intOf i).toNat)
    case atStart => exact ⟨0, Nat.zero_le _, rfl, rfl, hl0.out, HB0.out, HZ0.out⟩
    case round =>
     obtain ⟨k', hk', rfl, rfl, hT, hB, hZ⟩ := hrel
     have hTBl : w2.heap.size ≤ tb := by have := HTB.out; omega
     have hTBr : tb < wr.heap.size := by have := HTB.out; omega
     by_cases hlt : k' < k
     ·obtain ⟨s, hs⟩ : ∃ s, l[k']? = some s := ⟨l[k']'(by rw [← HNL.out]; exact hlt), List.getElem?_eq_getElem _⟩
      obtain ⟨b, off, rfl, hb, hcell0⟩ := HC.out k' s hs
      have hcell : wr.cell? ⟨b, off + k', none⟩ = some (.string (bytesOf s)) := (hB.out.cell (p := ⟨b, off + k', none⟩) (Nat.lt_of_lt_of_le hb hS2)).trans ((HB2.out.cell (p := ⟨b, off + k', none⟩) hb).trans hcell0)
      have hsl : s.length ≤ 65535 := by
       rcases Nat.lt_or_ge 65535 s.length with h | h
       ·have := longAny_at l k' s hs h
        rw [HLA.out] at this; cases this
       ·exact h
      have htk : l.take (k' + 1) = l.take k' ++ [s] := by rw [List.take_add_one, hs]; rfl
      have hrm : (encT G (l.take k')).length + 13 + s.length + 17 ≤ d.size := by
       have h1 := sumR_take l (k' + 1)
       have h2 := encT_length G (l.take k')
       have h3 := HSUM.out
       rw [htk, sumR_snoc] at h1
       omega
      have hES : encT G (l.take (k' + 1)) = (encT G (l.take k') ++ [1]) ++ bodyL G (17 + (encT G (l.take k')).length) s := by
       rw [htk, encT_snoc, List.append_assoc]; rfl
      have HES := Lib.hid hES
      obtain ⟨T, hTe⟩ : ∃ T, T = encT G (l.take k') := ⟨_, rfl⟩
      rw [← hTe] at hrm HES hT ⊢
      obtain ⟨TL, hTL⟩ : ∃ TL, TL = T.length := ⟨_, rfl⟩
      rw [← hTL] at hrm HES ⊢
      obtain ⟨L1, hL1⟩ : ∃ L, L = TL + 1 := ⟨_, rfl⟩
      obtain ⟨K17, hK17⟩ : ∃ L, L = 17 + TL := ⟨_, rfl⟩
      rw [← hK17] at HES
      have e17 : (17 : Int) + (L1 : Int) - 1 = (K17 : Int) := by omega
      have hw4 : (wr.alloc (.cells #[.int .u8 1] 5)).cell? ⟨wr.heap.size, 0, none⟩ = some (byteV 1) := by
       have e : (wr.alloc (.cells #[.int .u8 1] 5)).heap[wr.heap.size]? = some (.cells #[.int .u8 1] 5) := alloc_last _ _ rfl
       unfold World.cell?; simp only [e]; rfl
      have hT4 : TextAt (wr.alloc (.cells #[.int .u8 1] 5)) tb d.size T := (Below.heap_alloc _ _ _ (by omega)).trans hT.out
      obtain ⟨w5, hr5, ht5, hk5⟩ := text_one (wr.alloc (.cells #[.int .u8 1] 5)) tb d.size T 1 54 hT4 (by omega) ⟨wr.heap.size, 0, none⟩ 1 hw4
      rw [← hTL, ← hL1] at hr5
      have hz5 := hk5.size
      simp only [World.size_alloc] at hz5
      have HB5 : Hid (Below w2.heap.size w2 w5) := (hB.out.alloc (Nat.le_of_lt hZ) _).trans (hk5.below (by simp; omega) (fun q e => by subst e; omega))
      have HT5 := Lib.hid ht5
      have HL1 := Lib.hid hL1
      have HTL := Lib.hid hTL
      have hTLb : TL + 30 + s.length ≤ d.size := by omega
      have hL1b : L1 ≤ d.size := by omega
      have hKb : K17 ≤ 1000000 := by omega
      clear hs hcell0 htk hES hTe hT4 hw4 ht5 hk5 hT hB hl0 hrm hL1 hTL hK17
      go_wp2_with (at_builtin; refine wpList_app_run _ rfl (.tmp 82) (.tmp 83) 54 54 rfl _ _ rfl rfl hr5 ?_)
      refine (body_any G K17 s hGl hKb hsl _).mono ?_
      rintro e w6 ⟨rfl, hb6⟩
      have ht6 : TextAt w6 tb d.size (T ++ [1]) := (hb6.block _ (by omega)).trans HT5.out
      obtain ⟨w7, hr7, ht7, hk7⟩ := text_str w6 tb d.size (T ++ [1]) (bodyL G K17 s) 54 ht6 (by rw [List.length_append, List.length_singleton, bodyL_length, ← HTL.out]; omega)
      rw [List.length_append, List.length_singleton, ← HTL.out, ← HL1.out] at hr7
      have hz6 := hb6.size
      have hz7 := hk7.size
      have HB7 : Hid (Below w2.heap.size w2 w7) := (HB5.out.trans (hb6.mono (by omega))).trans (hk7.below (by omega) (fun q e => by subst e; omega))
      have HT7 := Lib.hid ht7
      clear ht6 ht7 hb6 hk7 hr5
      go_wp2_with (at_builtin; refine wpList_app_run _ rfl (.tmp 85) (.tmp 92) 54 9 rfl _ _ rfl rfl hr7 ?_)
      go_roundw
      case rel =>
       refine ⟨k' + 1, by omega, by go_num, ?_, ?_, HB7.out, by omega⟩
       ·rw [HES.out, List.length_append, List.length_append, List.length_singleton, ← HTL.out, ← HL1.out]
       ·rw [HES.out]; exact HT7.out
      case measure => simp [intOf]; omega
     ·obtain rfl : k' = k := by omega
      have htl : l.take k' = l := by rw [List.take_of_length_le (by rw [← HNL.out]; exact Nat.le_refl _)]
      rw [htl] at hT ⊢
      have hTs := encT_length G l
      obtain ⟨T, hTe⟩ : ∃ T, T = encT G l := ⟨_, rfl⟩
      rw [← hTe] at hT hTs ⊢
      have hst : rewS ⟨d.h0, d.fuse, d.failed⟩ d.size G l = putS (putS (putS (putS ⟨d.h0, d.fuse, d.failed⟩ 0 [0]) 17 (padT (d.size - 17) T)) 1 (eightL G ++ shortL (eightL G))) 0 [1] := by rw [hTe]; rfl
      obtain ⟨M, hM⟩ : ∃ M, M = d.size - 17 := ⟨_, rfl⟩
      rw [← hM] at hst
      have hM17 : (d.size : Int) - 17 = (M : Int) := by omega
      have hMs : M ≤ d.size := by omega
      have hTM : T.length ≤ M := by have := HSUM.out; omega
      have hM2 : M + 17 = d.size := by omega
      have hpl := padT_length M T hTM
      have hpt : ((padT d.size T).drop 0).take M = padT M T := by rw [hM]; exact pad_text d.size T (by omega) (by omega)
      have hpd : (padT d.size T).length = d.size := padT_length d.size T (by omega)
      have HPT := Lib.hid hpt
      have HPD := Lib.hid hpd
      have HPL := Lib.hid hpl
      have HM2 := Lib.hid hM2
      have HDr := Lib.hid (HD2.out.kept hB.out)
      have HST := Lib.hid hst
      have htn : ¬ two p b0 tb := by
       have h1 := lt_of_heap HD2.out.at_
       have h2 := HD2.out.a0.lt
       rintro (q | q) <;> omega
      have HTN := Lib.hid htn
      have hTL2 : T.length ≤ d.size := by omega
      have HWK : Hid (Below w.heap.size w wr) := HB2.out.trans (hB.out.mono hS2)
      clear htl hTs hTe hM hpt hpd hpl hM2 hst htn hlt hl0
      go_wp2_with fail
      refine (writer_any p b0 d.size _).mono ?_
      rintro e w8 ⟨rfl, hw8⟩
      have HP8 := Lib.hid (Pen.start (HDr.out.wr0 HO.out) hw8)
      obtain ⟨c1, hc1⟩ : ∃ c, c = wr.heap.size := ⟨_, rfl⟩
      obtain ⟨c2, hc2⟩ : ∃ c, c = wr.heap.size + 1 := ⟨_, rfl⟩
      rw [← hc2, ← hc1] at HP8 ⊢
      clear hw8 hc1 hc2
      go_wp2_with fail
      go_at_call 113
      refine (HP8.out.call 0 [0] (by simp; omega) hmx).mono ?_
      rintro e w9 ⟨⟨v9, rfl⟩, hp9⟩
      have HP9 := Lib.hid hp9
      have ht9 : TextAt w9 tb d.size T := (hp9.kp.block tb hTBr HTN.out).trans hT.out
      have hcv : ∀ c, (convert 54 9 (.slice (some ⟨tb, 0, none⟩) M c)).run Tryz.prog w9 = .ok (.string (bytesOf (padT M T))) w9 := fun c => by
       have := HalfAt.text ⟨_, ht9⟩ 0 M (by rw [HPD.out]; omega) c
       rw [HPT.out] at this
       exact this
      clear hp9 HP8 ht9
      go_wp2_with fail
      go_at_call 113
      refine (HP9.out.call 17 (padT M T) (by rw [HPL.out]; have := HM2.out; omega) hmx).mono ?_
      rintro e w10 ⟨⟨v10, rfl⟩, hp10⟩
      have HP10 := Lib.hid hp10
      clear hp10 HP9 hcv
      go_wp2_with fail
      refine (eightN_any G hGl _).mono ?_
      rintro e w11 ⟨rfl, hb11⟩
      have HP11 := Lib.hid (HP10.out.below hb11)
      clear HP10 hb11
      go_wp2_with fail
      refine (eightN_any G hGl _).mono ?_
      rintro e w12 ⟨rfl, hb12⟩
      have HP12 := Lib.hid (HP11.out.below hb12)
      clear HP11 hb12
      go_wp2_with fail
      refine (shortN_any (eightL G) (by rw [eightL_length]; omega) _).mono ?_
      rintro e w13 ⟨rfl, hb13⟩
      have HP13 := Lib.hid (HP12.out.below hb13)
      clear HP12 hb13
      have z1 := eight_size G
      have z2 : (bytesOf (shortL (eightL G))).size = 8 := shortL_length _
      have z3 := bytesOf_append (eightL G) (shortL (eightL G))
      go_wp2_with fail
      go_at_call 113
      refine (HP13.out.call 1 (eightL G ++ shortL (eightL G)) (by rw [List.length_append, eightL_length, shortL_length]; omega) hmx).mono ?_
      rintro e w14 ⟨⟨v14, rfl⟩, hp14⟩
      have HP14 := Lib.hid hp14
      clear hp14 HP13
      go_wp2_with fail
      go_at_call 113
      refine (HP14.out.call 0 [1] (by simp; omega) hmx).mono ?_
      rintro e w15 ⟨⟨v15, rfl⟩, hp15⟩
      have hd15 := HDr.out.back0 hp15.kp hp15.wr
      rw [← HST.out] at hd15
      have HD15 := Lib.hid hd15
      have HK15 := Lib.hid ((Kp.of_below (P := three p b0 b1) HWK.out).trans (hp15.kp.mono (fun k q => Or.elim q Or.inl (fun q => Or.inr (Or.inl q)))))
      clear hp15 hd15 HP14
      go_wp2_with fail
      refine (HRES.out _ HD15.out).mono ?_
      rintro e w16 ⟨rfl, rfl⟩
      go_wp2
      go_ret
      rw [HRE.out]
      exact ⟨rfl, HD15.out, HK15.out⟩
end
/- Plain definitions: a queue of jobs, its records, and how they are read. No program in sight. -/
section
open Go.RowKit Go.Shelf
/-- A job. -/
structure Jb where
 (id : Nat)
 (client token : List UInt8)
 (prio state tries : Nat)
 (work point result : List UInt8)
noncomputable instance : DecidableEq Jb := fun _ _ => Classical.propDecidable _
def Jb.cells (j : Jb) : List Value := [.int .i64 j.id, strV j.client, strV j.token, .int .i64 j.prio, .int .i64 j.state, .int .i64 j.tries, strV j.work, strV j.point, strV j.result]
def Jb.val (j : Jb) : Value := .agg j.cells.toArray
/-- Jobs, and the last ID. -/
structure Qs where
 (jobs : List Jb)
 (last : Nat)
def endedB (s : Nat) : Bool := decide (3 ≤ s) && decide (s ≤ 5)
def labelB (s : List UInt8) : Bool := decide (0 < s.length) && decide (s.length ≤ 32)
def Qs.at (q : Qs) (id : Nat) : Option Nat := q.jobs.findIdx? (fun j => decide (j.id = id))
def Qs.named (q : Qs) (c t : List UInt8) : Option Nat := q.jobs.findIdx? (fun j => decide (j.client = c) && decide (j.token = t))
def Qs.put (q : Qs) (k : Nat) (j : Jb) : Qs := { q with jobs := q.jobs.set k j }
/-- A number of some bytes is taken from what is left of a record. -/
def takeN (r : List UInt8) (m : Nat) : Option (Nat × List UInt8) := if m ≤ r.length then some (numL (r.take m), r.drop m) else none
def takeT (r : List UInt8) (most : Nat) : Option (List UInt8 × List UInt8) :=
 (takeN r 4).bind fun x => if x.1 ≤ most ∧ x.1 ≤ x.2.length then some (x.2.take x.1, x.2.drop x.1) else none
/-- What each kind of record does. -/
def rd1 (q : Qs) (r : List UInt8) (id : Nat) : Option (Qs × List UInt8) :=
 (takeN r 1).bind fun p => (takeT p.2 32).bind fun c => (takeT c.2 32).bind fun t => (takeT t.2 60000).bind fun k =>
  if p.1 ≤ 9 ∧ labelB c.1 = true ∧ labelB t.1 = true ∧ q.last < id ∧ q.named c.1 t.1 = none ∧ q.jobs.length < 100 then
   some (⟨q.jobs ++ [⟨id, c.1, t.1, p.1, 1, 0, k.1, [], []⟩], id⟩, k.2) else none
def rd2 (q : Qs) (r : List UInt8) (id : Nat) : Option (Qs × List UInt8) :=
 (q.at id).bind fun k => (q.jobs[k]?).bind fun j => if endedB j.state = false ∧ j.tries < 8 then some (q.put k { j with tries := j.tries + 1 }, r) else none
def rd3 (q : Qs) (r : List UInt8) (id : Nat) : Option (Qs × List UInt8) :=
 (q.at id).bind fun k => (q.jobs[k]?).bind fun j => if endedB j.state = false ∧ 0 < j.tries then (takeT r 60000).bind fun t => some (q.put k { j with point := t.1 }, t.2) else none
def rd4 (q : Qs) (r : List UInt8) (id : Nat) : Option (Qs × List UInt8) :=
 (q.at id).bind fun k => (q.jobs[k]?).bind fun j => if endedB j.state = false then
  (takeN r 1).bind fun s => (takeT s.2 60000).bind fun t => if endedB s.1 = true then some (q.put k { j with state := s.1, result := t.1 }, t.2) else none else none
def rd5 (q : Qs) (r : List UInt8) (id : Nat) : Option (Qs × List UInt8) :=
 (q.at id).bind fun k => (q.jobs[k]?).bind fun j => if endedB j.state = true then some ({ q with jobs := q.jobs.eraseIdx k }, r) else none
def rd6 (q : Qs) (r : List UInt8) (id : Nat) : Option (Qs × List UInt8) := if q.last ≤ id then some ({ q with last := id }, r) else none
def rdK (kind : Nat) (q : Qs) (r : List UInt8) (id : Nat) : Option (Qs × List UInt8) :=
 if kind = 1 then rd1 q r id else if kind = 2 then rd2 q r id else if kind = 3 then rd3 q r id else if kind = 4 then rd4 q r id else if kind = 5 then rd5 q r id else if kind = 6 then rd6 q r id else none
/-- A record is read. -/
def Qs.one (q : Qs) (s : List UInt8) : Option Qs :=
 (takeN s 1).bind fun k => if 1 ≤ k.1 ∧ k.1 ≤ 6 then (takeN k.2 8).bind fun i =>
  if i.1 < 9223372036854775808 ∧ (0 < i.1 ∨ k.1 = 6) then (rdK k.1 q i.2 i.1).bind fun x => if x.2 = [] then some x.1 else none else none else none
def Qs.all (q : Qs) : List (List UInt8) → Option Qs
 | [] => some q
 | s :: l => (q.one s).bind fun q' => q'.all l
def replay (l : List (List UInt8)) : Option Qs := Qs.all ⟨[], 0⟩ l
/-! ### records -/
def textB (s : List UInt8) : List UInt8 := numB s.length 4 ++ s
def recB (kind id : Nat) : List UInt8 := UInt8.ofNat kind :: numB id 8
def subB (j : Jb) : List UInt8 := recB 1 j.id ++ numB j.prio 1 ++ textB j.client ++ textB j.token ++ textB j.work
def overB (id state : Nat) (result : List UInt8) : List UInt8 := recB 4 id ++ numB state 1 ++ textB result
def shortJ (j : Jb) : List (List UInt8) :=
 subB j :: (List.replicate j.tries (recB 2 j.id) ++ ((if j.point = [] then [] else [recB 3 j.id ++ textB j.point]) ++ (if endedB j.state = true then [overB j.id j.state j.result] else [])))
def Qs.short (q : Qs) : List (List UInt8) := q.jobs.flatMap shortJ ++ (if 0 < q.last then [recB 6 q.last] else [])
/-! ### a queue and its disk -/
structure Qst where
 (q : Qs)
 (d : Dk)
 (down : Bool)
/-- A record is noted: the error, and the disk. -/
def noteD (q : Qs) (d : Dk) (s : List UInt8) : Int × Dk :=
 if (d.appended s).1 = 5 then
  (if ((d.appended s).2.rewritten q.short).1 = 0 then ((d.appended s).2.rewritten q.short).2.appended s else (d.appended s).2.rewritten q.short)
 else d.appended s
def Qst.note (x : Qst) (s : List UInt8) : Int × Qst :=
 ((noteD x.q x.d s).1, { x with d := (noteD x.q x.d s).2, down := x.down || decide ((noteD x.q x.d s).1 = 9) })
/-- What each call does. -/
def Qst.submit (x : Qst) (c t : List UInt8) (p : Int) (work : List UInt8) : (Nat × Int) × Qst :=
 if x.down = true then ((0, 9), x) else if labelB c = false ∨ labelB t = false ∨ p < 0 ∨ 9 < p then ((0, 2), x) else if 60000 < work.length then ((0, 3), x) else
  match x.q.named c t with
  | some k => ((((x.q.jobs[k]?).map (·.id)).getD 0, 0), x)
  | none => if 100 ≤ x.q.jobs.length ∨ x.q.last = 9223372036854775807 then ((0, 5), x) else
   let j : Jb := ⟨x.q.last + 1, c, t, p.toNat, 1, 0, work, [], []⟩
   if (x.note (subB j)).1 = 0 then ((j.id, 0), { (x.note (subB j)).2 with q := ⟨x.q.jobs ++ [j], j.id⟩ }) else ((0, (x.note (subB j)).1), (x.note (subB j)).2)
/-- The place of the job that is taken next. -/
def bestF (l : List Jb) : Nat → Option (Nat × Nat) → Option (Nat × Nat)
 | i, b => match l with
  | [] => b
  | j :: l => bestF l (i + 1) (if j.state = 1 ∧ j.tries < 8 ∧ (∀ x, b = some x → x.2 < j.prio) then some (i, j.prio) else b)
def Jb.none_ : Jb := ⟨0, [], [], 0, 0, 0, [], [], []⟩
noncomputable def Qst.take (x : Qst) : (Jb × Bool × Int) × Qst :=
 if x.down = true then ((Jb.none_, false, 9), x) else match bestF x.q.jobs 0 none with
 | none => ((Jb.none_, false, 0), x)
 | some (k, _) => match x.q.jobs[k]? with
  | none => ((Jb.none_, false, 0), x)
  | some j => if (x.note (recB 2 j.id)).1 = 0 then (({ j with tries := j.tries + 1, state := 2 }, true, 0), { (x.note (recB 2 j.id)).2 with q := x.q.put k { j with tries := j.tries + 1, state := 2 } })
   else ((Jb.none_, false, (x.note (recB 2 j.id)).1), (x.note (recB 2 j.id)).2)
/-- The place of a taken job that is to get a text, and it; or the error. -/
def Qst.held (x : Qst) (id : Int) (n : Nat) : Int ⊕ (Nat × Jb) :=
 if x.down = true then .inl 9 else match x.q.jobs.findIdx? (fun j => decide ((j.id : Int) = id)) with
 | none => .inl 4
 | some k => match x.q.jobs[k]? with
  | none => .inl 4
  | some j => if j.state ≠ 2 then .inl 2 else if 60000 < n then .inl 3 else .inr (k, j)
def Qst.noted (x : Qst) (s : List UInt8) (q' : Qs) : Int × Qst :=
 if (x.note s).1 = 0 then (0, { (x.note s).2 with q := q' }) else x.note s
def Qst.save (x : Qst) (id : Int) (s : List UInt8) : Int × Qst :=
 match x.held id s.length with
 | .inl e => (e, x)
 | .inr (k, j) => x.noted (recB 3 j.id ++ textB s) (x.q.put k { j with point := s })
def Qst.give (x : Qst) (id : Int) : Int × Qst :=
 match x.held id 0 with
 | .inl e => (e, x)
 | .inr (k, j) => (0, { x with q := x.q.put k { j with state := 1 } })
def Qst.over (x : Qst) (k : Nat) (j : Jb) (state : Nat) (s : List UInt8) : Int × Qst :=
 x.noted (overB j.id state s) (x.q.put k { j with state := state, result := s })
def Qst.finish (x : Qst) (id : Int) (state : Nat) (s : List UInt8) : Int × Qst :=
 match x.held id s.length with
 | .inl e => (e, x)
 | .inr (k, j) => x.over k j state s
def Qst.some_ (x : Qst) (id : Int) (over : Bool) : Int ⊕ (Nat × Jb) :=
 if x.down = true then .inl 9 else match x.q.jobs.findIdx? (fun j => decide ((j.id : Int) = id)) with
 | none => .inl 4
 | some k => match x.q.jobs[k]? with
  | none => .inl 4
  | some j => if endedB j.state ≠ over then .inl 2 else .inr (k, j)
def Qst.cancel (x : Qst) (id : Int) : Int × Qst :=
 match x.some_ id false with
 | .inl e => (e, x)
 | .inr (k, j) => x.over k j 5 []
def Qst.forget (x : Qst) (id : Int) : Int × Qst :=
 match x.some_ id true with
 | .inl e => (e, x)
 | .inr (k, j) => x.noted (recB 5 j.id) { x.q with jobs := x.q.jobs.eraseIdx k }
def Qst.get (x : Qst) (id : Int) : Jb × Int :=
 if x.down = true then (Jb.none_, 9) else match x.q.jobs.find? (fun j => decide ((j.id : Int) = id)) with
 | none => (Jb.none_, 4)
 | some j => (j, 0)
def Qst.list (x : Qst) : List Jb := if x.down = true then [] else x.q.jobs
def Qst.compact (x : Qst) : Int × Qst :=
 if x.down = true then (9, x) else ((x.d.rewritten x.q.short).1, { x with d := (x.d.rewritten x.q.short).2, down := decide ((x.d.rewritten x.q.short).1 = 9) })
/-- A queue is opened: the error, or the queue. -/
def openD (d : Dk) : Int ⊕ Qs := if d.seenErr ≠ 0 then .inl d.seenErr else match replay d.texts with
 | none => .inl 6
 | some q => .inr q
end
/- Walks: a queue of jobs: numbers and texts are taken from a record. -/
section
open Go.RowKit Go.Shelf
/-- The panic that leaves the reading of a journal. -/
def wrongs : List PanicEntry := [{ v := .iface 119 (.agg #[]), recovered := false }]
theorem need_ok (w : World) : Calls Tryz.prog 99 #[.bool true] w fun e w' => e = .returned (.tuple #[]) ∧ w' = w := by
 go_enter Tryz.func99, Tryz.ntmps99
 go_wp2
 simp [bodyPost, results, Tryz.results99]
theorem need_no (w : World) : Calls Tryz.prog 99 #[.bool false] w fun e w' => e = .panicked wrongs ∧ w' = w := by
 go_enter Tryz.func99, Tryz.ntmps99
 go_wp2
 exact ⟨rfl, rfl, rfl⟩
/-- What is left of a record lies in a cell. -/
def RestAt (w : World) (p : Nat) (s : List UInt8) : Prop := w.heap[p]? = some (.cells #[strV s] 121)
/-- What eight bytes are as a signed number. -/
def idI (n : Nat) : Int := if n < 9223372036854775808 then (n : Int) else (n : Int) - 18446744073709551616
theorem i64_wrap (x : Int) : IntKind.i64.wrap x = wrap64 x := by
 unfold wrap64 IntKind.wrap
 simp only [show IntKind.i64.bits = 64 from rfl, show IntKind.i64.signed = true from rfl, Bool.true_and, decide_eq_true_eq, ge_iff_le, show (2 : Int) ^ 64 = 18446744073709551616 by decide, show (2 : Int) ^ (64 - 1) = 9223372036854775808 by decide]
 split <;> omega
theorem bytesOf_extract (s : List UInt8) (a b : Nat) : (bytesOf s).extract a b = bytesOf ((s.drop a).take (b - a)) := by
 apply ByteArray.ext
 rw [ByteArray.data_extract]
 apply Array.ext'
 simp [bytesOf, List.drop_take]
theorem bytesOf_from (s : List UInt8) (a : Nat) : (bytesOf s).extract a (bytesOf s).size = bytesOf (s.drop a) := by
 rw [bytesOf_extract, bytesOf_size, List.take_of_length_le (by rw [List.length_drop]; omega)]
theorem wrap_id (n : Nat) (h : n < 18446744073709551616) : wrap64 (n : Int) = idI n := by
 unfold wrap64 idI
 split <;> omega
theorem id_bits (n : Nat) (h : n < 18446744073709551616) : BitVec.ofInt 64 (idI n) = BitVec.ofNat 64 n := by
 apply BitVec.eq_of_toNat_eq
 rw [BitVec.toNat_ofInt, BitVec.toNat_ofNat]
 unfold idI
 split <;> omega
theorem or_id (n : Nat) (c : UInt8) (h : n < 72057594037927936) : bits .or .i64 (wrap64 (idI n * 256)) (wrap64 ((c.toNat : Nat) : Int)) = idI (n * 256 + c.toNat) := by
 have hc := c.toNat_lt
 obtain ⟨m, hm⟩ : ∃ m, m = n * 256 := ⟨_, rfl⟩
 obtain ⟨k, hk⟩ : ∃ k, k = c.toNat := ⟨_, rfl⟩
 have e0 : idI n = (n : Int) := by unfold idI; rw [if_pos (by omega)]
 have e1 : ((n : Int) * 256) = (m : Int) := by omega
 have e2 : m ||| k = m + k := by
  have := Nat.two_pow_add_eq_or_of_lt (i := 8) (b := k) (by omega) n
  rw [hm, Nat.mul_comm n 256]; exact this.symm
 rw [e0, e1, ← hk, ← hm, wrap_id m (by omega), wrap_id k (by omega)]
 show IntKind.i64.wrap ((BitVec.ofInt 64 (idI m) ||| BitVec.ofInt 64 (idI k)).toNat : Int) = _
 rw [id_bits m (by omega), id_bits k (by omega), BitVec.toNat_or, BitVec.toNat_ofNat, BitVec.toNat_ofNat, mod64 m (by omega), mod64 k (by omega), e2]
 rw [i64_wrap]
 exact wrap_id (m + k) (by omega)
theorem or_id' (n : Nat) (c : UInt8) (s : List UInt8) (k : Nat) (hk : k < s.length) (hk8 : k < 8) (hk2 : k < (bytesOf s).size) :
  bits .or .i64 (wrap64 (idI (numL (s.take k)) * 256)) (wrap64 (((bytesOf s)[k].toNat : Nat) : Int)) = idI (numL (s.take (k + 1))) := by
 have hb : (bytesOf s)[k] = s[k] := rfl
 have hn : numL (s.take k) < 72057594037927936 := by
  have h1 := numL_lt (s.take k)
  rw [List.length_take, Nat.min_eq_left (by omega)] at h1
  have h2 : (256 : Nat) ^ k ≤ 256 ^ 7 := Nat.pow_le_pow_right (by decide) (by omega)
  have h3 : (256 : Nat) ^ 7 = 72057594037927936 := by decide
  omega
 rw [or_id _ _ hn, hb, List.take_succ_eq_append_getElem hk, numL_snoc]
 rfl
theorem rnum_no (p m : Nat) (s : List UInt8) (hm : m ≤ 8) (hs : s.length < m) (w : World) (hr : RestAt w p s) :
  Calls Tryz.prog 98 #[.pointer (some ⟨p, 0, none⟩), .int .i64 (m : Int)] w fun e w' => e = .panicked wrongs ∧ w' = w := by
 have c0 : w.cell? ⟨p, 0, none⟩ = some (.string (bytesOf s)) := by unfold RestAt at hr; simp [World.cell?, hr, strV]
 have hsz : decide (m ≤ (bytesOf s).size) = false := by rw [bytesOf_size]; simp; omega
 go_enter Tryz.func98, Tryz.ntmps98
 go_wp2_with fail
 refine (need_no w).mono ?_
 rintro e w' ⟨rfl, rfl⟩
 exact ⟨rfl, rfl, rfl⟩
theorem rnum_ok (p m : Nat) (s : List UInt8) (hm : m ≤ 8) (hs : m ≤ s.length) (hl : s.length ≤ 1000000) (w : World) (hr : RestAt w p s) :
  Calls Tryz.prog 98 #[.pointer (some ⟨p, 0, none⟩), .int .i64 (m : Int)] w fun e w' => e = .returned (.int .i64 (idI (numL (s.take m)))) ∧ w' = w.setCell ⟨p, 0, none⟩ (strV (s.drop m)) := by
 have c0 : w.cell? ⟨p, 0, none⟩ = some (.string (bytesOf s)) := by unfold RestAt at hr; simp [World.cell?, hr, strV]
 have f0 : w.frozen? ⟨p, 0, none⟩ = false := by unfold RestAt at hr; simp [World.frozen?, hr]
 have hsz : (m : Int) ≤ ((bytesOf s).size : Int) := by rw [bytesOf_size]; omega
 go_enter Tryz.func98, Tryz.ntmps98
 go_wp2_with fail
 refine (need_ok w).mono ?_
 rintro e w1 ⟨rfl, rfl⟩
 go_wp2_with fail
 go_loopw [5, 6, 15] (fun nn xx ii wr => ∃ k : Nat, k ≤ m ∧ ii = .int .i64 (k : Int) ∧ nn = .int .i64 (idI (numL (s.take k))) ∧ wr = w1) (fun _ _ ii _ => m - (intOf ii).toNat)
 case atStart => exact ⟨0, by omega, rfl, rfl, rfl⟩
 case round =>
  obtain ⟨k, hk, rfl, rfl, rfl⟩ := hrel
  by_cases hlt : k < m
  ·have hlt2 : k < (bytesOf s).size := by rw [bytesOf_size]; omega
   go_wp2_with fail
   go_roundw
   case rel => exact ⟨k + 1, by omega, by go_num, by rw [or_id' 0 0 s k (by omega) (by omega)], trivial⟩
   case measure => simp [intOf]; omega
  ·obtain rfl : k = m := by omega
   go_wp2_with fail
   go_ret
   exact ⟨rfl, by rw [bytesOf_from]; rfl⟩
end
/- Walks: a queue of jobs: a text is taken from a record. -/
section
open Go.RowKit Go.Shelf
theorem RestAt.set {w : World} {p : Nat} {s : List UInt8} (h : RestAt w p s) (s' : List UInt8) : RestAt (w.setCell ⟨p, 0, none⟩ (strV s')) p s' := by
 unfold RestAt at h ⊢
 simp [World.setCell, Array.getElem?_modify, h]
theorem RestAt.cell {w : World} {p : Nat} {s : List UInt8} (h : RestAt w p s) : w.cell? ⟨p, 0, none⟩ = some (.string (bytesOf s)) ∧ w.frozen? ⟨p, 0, none⟩ = false := by
 unfold RestAt at h
 simp [World.cell?, World.frozen?, h, strV]
/-- A number is taken: what the caller sees. -/
theorem rnum_any (p m : Nat) (s : List UInt8) (hm : m ≤ 8) (hl : s.length ≤ 1000000) (w : World) (hr : RestAt w p s) :
  Calls Tryz.prog 98 #[.pointer (some ⟨p, 0, none⟩), .int .i64 (m : Int)] w fun e w' =>
   match takeN s m with
   | some x => e = .returned (.int .i64 (idI x.1)) ∧ RestAt w' p x.2 ∧ Kp (fun k => k = p) w w'
   | none => e = .panicked wrongs ∧ Kp (fun k => k = p) w w' := by
 unfold takeN
 by_cases h : m ≤ s.length
 ·rw [if_pos h]
  refine (rnum_ok p m s hm h hl w hr).mono ?_
  rintro e w' ⟨rfl, rfl⟩
  exact ⟨rfl, hr.set _, (Kp.refl (fun k => k = p) w).setCell (a := ⟨p, 0, none⟩) rfl _⟩
 ·rw [if_neg h]
  refine (rnum_no p m s hm (by omega) w hr).mono ?_
  rintro e w' ⟨rfl, rfl⟩
  exact ⟨rfl, Kp.refl _ _⟩
theorem takeN_lt {s r : List UInt8} {m n : Nat} (h : takeN s m = some (n, r)) : n < 256 ^ m ∧ r = s.drop m ∧ m ≤ s.length := by
 unfold takeN at h
 split at h
 ·rename_i hm
  injection h with h; injection h with h1 h2
  have := numL_lt (s.take m)
  rw [List.length_take, Nat.min_eq_left hm] at this
  exact ⟨by omega, h2.symm, hm⟩
 ·cases h
theorem rtext_any (p most : Nat) (s : List UInt8) (hm : most ≤ 1000000) (hl : s.length ≤ 1000000) (w : World) (hr : RestAt w p s) :
  Calls Tryz.prog 142 #[.pointer (some ⟨p, 0, none⟩), .int .i64 (most : Int)] w fun e w' =>
   match takeT s most with
   | some x => e = .returned (strV x.1) ∧ RestAt w' p x.2 ∧ Kp (fun k => k = p) w w'
   | none => e = .panicked wrongs ∧ Kp (fun k => k = p) w w' := by
 have HN := Lib.hid (rnum_any p 4 s (by omega) hl w hr)
 obtain ⟨T, hT⟩ : ∃ T, T = takeT s most := ⟨_, rfl⟩
 rw [← hT]
 unfold takeT at hT
 obtain ⟨x, hx⟩ : ∃ x, x = takeN s 4 := ⟨_, rfl⟩
 rw [← hx] at HN hT
 have HT := Lib.hid hT
 clear hT
 go_enter Tryz.func142, Tryz.ntmps142
 go_wp2_with fail
 refine HN.out.mono ?_
 cases x with
 | none =>
  rintro e w1 ⟨rfl, hk⟩
  obtain rfl : T = none := HT.out
  exact ⟨rfl, rfl, hk⟩
 | some x =>
  obtain ⟨n, r⟩ := x
  obtain ⟨hn, hrr, h4⟩ := takeN_lt hx.symm
  have hrm : r.length ≤ 1000000 := by rw [hrr, List.length_drop]; omega
  clear hrr hx
  rintro e w1 ⟨rfl, hr1, hk⟩
  obtain ⟨c1, f1⟩ := hr1.cell
  have hn2 : n < 4294967296 := hn
  have hid : idI n = (n : Int) := by unfold idI; rw [if_pos (by omega)]
  dsimp only at hr1 hk ⊢
  rw [hid]
  have hrl : (bytesOf r).size = r.length := bytesOf_size r
  by_cases h1 : n ≤ most
  ·have h1' : (n : Int) ≤ (most : Int) := by omega
   by_cases h2 : n ≤ r.length
   ·have h2' : n ≤ (bytesOf r).size := by omega
    go_wp2_with fail
    obtain rfl : T = some (r.take n, r.drop n) := by rw [HT.out, Option.bind_some, if_pos ⟨h1, h2⟩]
    refine (need_ok w1).mono ?_
    rintro e w2 ⟨rfl, rfl⟩
    go_wp2_with fail
    go_ret
    have e1 : (bytesOf r).extract 0 n = bytesOf (r.take n) := by rw [bytesOf_extract]; simp
    have e2 : (bytesOf r).extract n r.length = bytesOf (r.drop n) := bytesOf_from r n
    rw [e1, e2]
    exact ⟨rfl, hr1.set _, hk.setCell (a := ⟨p, 0, none⟩) rfl _⟩
   ·have h2' : ¬ n ≤ (bytesOf r).size := by omega
    go_wp2_with fail
    refine (need_no w1).mono ?_
    rintro e w2 ⟨rfl, rfl⟩
    obtain rfl : T = none := by rw [HT.out, Option.bind_some, if_neg (by rintro ⟨-, q⟩; exact h2 q)]
    exact ⟨rfl, rfl, hk⟩
  ·have h1' : ¬ (n : Int) ≤ (most : Int) := by omega
   go_wp2_with fail
   refine (need_no w1).mono ?_
   rintro e w2 ⟨rfl, rfl⟩
   obtain rfl : T = none := by rw [HT.out, Option.bind_some, if_neg (by rintro ⟨q, -⟩; exact h1 q)]
   exact ⟨rfl, rfl, hk⟩
end
/- Walks: a queue of jobs: a job is looked for. -/
section
open Go.RowKit Go.Shelf
theorem bytes_eq (a b : List UInt8) : ((bytesOf a).toList == (bytesOf b).toList) = decide (a = b) := by
 have h : ∀ l : List UInt8, (bytesOf l).toList = l := fun l => by rw [ByteArray.toList_eq]; simp [bytesOf]
 rw [h, h, Bool.eq_iff_iff, beq_iff_eq, decide_eq_true_eq]
theorem index1_any (j : Jb) (id : Int) (c : Nat) (w : World) (hc : w.cell? ⟨c, 0, none⟩ = some (.int .i64 id)) :
  Calls Tryz.prog 118 #[j.val, .pointer (some ⟨c, 0, none⟩)] w fun e w' => e = .returned (.bool (decide ((j.id : Int) = id))) ∧ Below w.heap.size w w' := by
 have hcl := World.block_lt_of_cell? w ⟨c, 0, none⟩ hc
 unfold Jb.val Jb.cells
 go_enter Tryz.func118, Tryz.ntmps118
 go_wp2_with fail
 go_ret
 exact ⟨rfl, (Below.refl _ w).alloc (Nat.le_refl _) _⟩
theorem named1_any (j : Jb) (s t : List UInt8) (c d : Nat) (w : World) (hc : w.cell? ⟨c, 0, none⟩ = some (strV s)) (hd : w.cell? ⟨d, 0, none⟩ = some (strV t)) :
  Calls Tryz.prog 101 #[j.val, .pointer (some ⟨c, 0, none⟩), .pointer (some ⟨d, 0, none⟩)] w fun e w' => e = .returned (.bool (decide (j.client = s) && decide (j.token = t))) ∧ Below w.heap.size w w' := by
 have hcl := World.block_lt_of_cell? w ⟨c, 0, none⟩ hc
 have hdl := World.block_lt_of_cell? w ⟨d, 0, none⟩ hd
 unfold Jb.val Jb.cells
 unfold strV at hc hd ⊢
 by_cases h : j.client = s
 ·have HJ := Lib.hid h
  rw [decide_eq_true h, Bool.true_and]
  have h1 : ((bytesOf j.client).toList == (bytesOf s).toList) = true := by rw [bytes_eq]; exact decide_eq_true h
  clear h
  go_enter Tryz.func101, Tryz.ntmps101
  go_wp2_with fail
  go_ret
  exact ⟨by rw [← bytes_eq]; rfl, (Below.refl _ w).alloc (Nat.le_refl _) _⟩
 ·rw [decide_eq_false h, Bool.false_and]
  have h1 : ((bytesOf j.client).toList == (bytesOf s).toList) = false := by rw [bytes_eq]; exact decide_eq_false h
  clear h
  go_enter Tryz.func101, Tryz.ntmps101
  go_wp2_with fail
  go_ret
  exact ⟨rfl, (Below.refl _ w).alloc (Nat.le_refl _) _⟩
/-- The place that a search returns. -/
def placeI : Option Nat → Int
 | none => -1
 | some k => k
def jobsL (js : List Jb) : List Value := js.flatMap Jb.cells
theorem jobsL_length (js : List Jb) : (jobsL js).length = js.length * 9 := by
 unfold jobsL
 rw [List.length_flatMap]
 induction js with
 | nil => rfl
 | cons j js ih => simp only [List.map_cons, List.sum_cons, List.length_cons, ih]; show 9 + _ = _; omega
theorem jobsL_get (js : List Jb) (k : Nat) (j : Jb) (h : js[k]? = some j) (i : Nat) (hi : i < 9) : (jobsL js)[k * 9 + i]? = j.cells[i]? := by
 induction js generalizing k with
 | nil => simp at h
 | cons a js ih =>
  show (a.cells ++ jobsL js)[k * 9 + i]? = _
  cases k with
  | zero =>
   simp only [List.getElem?_cons_zero, Option.some.injEq] at h
   subst h
   rw [List.getElem?_append_left (by show _ < 9; omega)]
   simp
  | succ k =>
   rw [List.getElem?_append_right (by show 9 ≤ _; omega), show (k + 1) * 9 + i - a.cells.length = k * 9 + i by show _ - 9 = _; omega]
   exact ih k (by simpa using h)
/-- The slice of jobs in a queue. -/
def JobsAt (w : World) (v : Value) (js : List Jb) : Prop := w.owns 0 48 9 v js.length (jobsL js)
theorem JobsAt.below {w w' : World} {v : Value} {js : List Jb} (h : JobsAt w v js) (hb : Below w.heap.size w w') : JobsAt w' v js := World.owns.below h hb
theorem JobsAt.cells {w : World} {v : Value} {js : List Jb} (h : JobsAt w v js) (k : Nat) (j : Jb) (hj : js[k]? = some j) :
  ∃ g cap, v = .slice (some ⟨g, 0, none⟩) js.length cap ∧ g < w.heap.size ∧ w.cell? ⟨g, k * 9, none⟩ = some (.int .i64 j.id) ∧ w.cell? ⟨g, k * 9 + 1, none⟩ = some (strV j.client) ∧ w.cell? ⟨g, k * 9 + 2, none⟩ = some (strV j.token) ∧
   w.cell? ⟨g, k * 9 + 3, none⟩ = some (.int .i64 j.prio) ∧ w.cell? ⟨g, k * 9 + 4, none⟩ = some (.int .i64 j.state) ∧ w.cell? ⟨g, k * 9 + 5, none⟩ = some (.int .i64 j.tries) ∧ w.cell? ⟨g, k * 9 + 6, none⟩ = some (strV j.work) ∧
   w.cell? ⟨g, k * 9 + 7, none⟩ = some (strV j.point) ∧ w.cell? ⟨g, k * 9 + 8, none⟩ = some (strV j.result) := by
 have hk : k < js.length := (List.getElem?_eq_some_iff.1 hj).1
 obtain ⟨g, cap, rfl⟩ := World.owns.pos h (by omega)
 have hg := (World.owns.facts h).2.2.2.2
 have hc : ∀ i, i < 9 → ∀ u, j.cells[i]? = some u → w.cell? ⟨g, k * 9 + i, none⟩ = some u := fun i hi u hu => World.owns.cell h _ _ (by rw [jobsL_get js k j hj i hi]; exact hu)
 exact ⟨g, cap, rfl, hg, hc 0 (by omega) _ rfl, hc 1 (by omega) _ rfl, hc 2 (by omega) _ rfl, hc 3 (by omega) _ rfl, hc 4 (by omega) _ rfl, hc 5 (by omega) _ rfl, hc 6 (by omega) _ rfl, hc 7 (by omega) _ rfl, hc 8 (by omega) _ rfl⟩
end
/- Walks: a queue of jobs: the place of a job. -/
section
open Go.RowKit Go.Shelf
theorem findIdx_cut (js : List Jb) (f : Jb → Bool) (k : Nat) (hk : k < js.length) (h : (js.take k).findIdx? f = none) :
  (js.take (k + 1)).findIdx? f = if f js[k] = true then some k else none := by
 rw [List.take_succ_eq_append_getElem hk, List.findIdx?_append, h]
 simp only [Option.none_or, List.length_take, Nat.min_eq_left (Nat.le_of_lt hk)]
 by_cases hf : f js[k] = true
 ·simp [List.findIdx?_cons, hf]
 ·simp [List.findIdx?_cons, hf]
theorem findIdx_stop (js : List Jb) (f : Jb → Bool) (k : Nat) (hk : k < js.length) (h : (js.take k).findIdx? f = none) (hf : f js[k] = true) : js.findIdx? f = some k := by
 have h1 := findIdx_cut js f k hk h
 rw [if_pos hf] at h1
 conv => lhs; rw [← List.take_append_drop (k + 1) js]
 rw [List.findIdx?_append, h1]; rfl
theorem IndexFunc_any (fn : Nat) (cap : Array Value) (f : Jb → Bool) (js : List Jb) (v : Value) (w : World) (hv : JobsAt w v js) (hl : js.length ≤ 100000) (hcf : ∀ (args : Array Value) (W : World), (callFunc fn args).run Tryz.prog W = .ok (.enter fn args) W)
  (hF : ∀ (W : World) (j : Jb), Below w.heap.size w W → Calls Tryz.prog fn (#[j.val] ++ cap) W fun e W' => e = .returned (.bool (f j)) ∧ Below W.heap.size W W') :
  Calls Tryz.prog 100 #[v, .func (.func fn) #[] cap] w fun e w' => e = .returned (.int .i64 (placeI (js.findIdx? f))) ∧ Below w.heap.size w w' := by
 have hsl : ∃ a c, v = .slice a js.length c := by
  rcases hv.2 with ⟨rfl, h0⟩ | ⟨g, c, _, _, rfl, _⟩
  ·exact ⟨none, 0, by rw [h0]⟩
  ·exact ⟨_, c, rfl⟩
 obtain ⟨a, c, rfl⟩ := hsl
 have HV := Lib.hid hv
 have HF := Lib.hid hF
 clear hv hF
 obtain ⟨R, hR⟩ : ∃ R, R = placeI (js.findIdx? f) := ⟨_, rfl⟩
 rw [← hR]
 have HR := Lib.hid hR
 clear hR
 obtain ⟨n, hn⟩ : ∃ n, n = js.length := ⟨_, rfl⟩
 rw [← hn] at HV hl ⊢
 have HN := Lib.hid hn
 clear hn
 go_enter Tryz.func100, Tryz.ntmps100
 go_wp2
 go_loopw [5, 8, 11, 12, 13, 14, 15, 16] (fun _ i _ _ _ _ _ _ wr => ∃ k : Nat, k ≤ n ∧ i = .int .i64 (k : Int) ∧ Hid ((js.take k).findIdx? f = none) ∧ Hid (Below w.heap.size w wr)) (fun _ i _ _ _ _ _ _ _ => n - (intOf i).toNat)
 case atStart => exact ⟨0, Nat.zero_le _, rfl, by show _ = _; simp, Below.refl _ _⟩
 case round =>
  obtain ⟨k, hk, rfl, hno, hB⟩ := hrel
  by_cases hlt : k < n
  ·obtain ⟨j, hj⟩ : ∃ j, js[k]? = some j := ⟨_, List.getElem?_eq_getElem (by rw [← HN.out]; exact hlt)⟩
   obtain ⟨g, cap', hgc, hgl, k0, k1, k2, k3, k4, k5, k6, k7, k8⟩ := (HV.out.below hB.out).cells k j hj
   injection hgc with ha hnn hcc
   clear hnn hcc
   subst ha
   have HJ := Lib.hid hj
   have HC := Lib.hid (HF.out wr j hB.out)
   clear hj
   go_wp2_with fail
   refine HC.out.mono ?_
   rintro e w2 ⟨rfl, hb2⟩
   have HB2 := Lib.hid (hB.out.trans (hb2.mono hB.out.size))
   clear hb2 k0 k1 k2 k3 k4 k5 k6 k7 k8 hgl
   have hlt' : k < js.length := by rw [← HN.out]; exact hlt
   have hje : js[k] = j := Option.some.inj ((List.getElem?_eq_getElem hlt').symm.trans HJ.out)
   by_cases hf : f j = true
   ·have h2 := findIdx_stop js f k hlt' hno.out (by rw [hje]; exact hf)
    have hR2 : R = (k : Int) := by rw [HR.out, h2]; rfl
    clear h2 hje hlt'
    subst hR2
    rw [hf]
    go_wp2
    go_ret
    exact ⟨rfl, HB2.out⟩
   ·have h2 := findIdx_cut js f k hlt' hno.out
    rw [hje, if_neg hf] at h2
    have H2 := Lib.hid h2
    have hff : f j = false := by simpa using hf
    clear h2 hje hlt' hf
    rw [hff]
    go_wp2
    go_roundw
    case rel => exact ⟨k + 1, by omega, by go_num, H2.out, HB2.out⟩
    case measure => simp [intOf]; omega
  ·obtain rfl : k = n := by omega
   have h2 := hno.out
   rw [HN.out, List.take_length] at h2
   have hR2 : R = -1 := by rw [HR.out, h2]; rfl
   clear h2
   subst hR2
   go_wp2
   go_ret
   exact ⟨rfl, hB.out⟩
/-- A queue. -/
def QueueAt (w : World) (p : Nat) (dp v : Value) (last : Int) (down : Bool) : Prop := w.heap[p]? = some (.cells #[dp, v, .int .i64 last, .bool down] 78)
theorem QueueAt.cells {w : World} {p : Nat} {dp v : Value} {last : Int} {down : Bool} (h : QueueAt w p dp v last down) :
  w.cell? ⟨p, 0, none⟩ = some dp ∧ w.cell? ⟨p, 1, none⟩ = some v ∧ w.cell? ⟨p, 2, none⟩ = some (.int .i64 last) ∧ w.cell? ⟨p, 3, none⟩ = some (.bool down) ∧
   w.frozen? ⟨p, 1, none⟩ = false ∧ w.frozen? ⟨p, 2, none⟩ = false ∧ w.frozen? ⟨p, 3, none⟩ = false := by
 unfold QueueAt at h
 simp [World.cell?, World.frozen?, h]
theorem index_any (p : Nat) (dp v : Value) (last : Int) (down : Bool) (js : List Jb) (id : Int) (w : World) (hq : QueueAt w p dp v last down) (hv : JobsAt w v js) (hl : js.length ≤ 100000) :
  Calls Tryz.prog 96 #[.pointer (some ⟨p, 0, none⟩), .int .i64 id] w fun e w' => e = .returned (.int .i64 (placeI (js.findIdx? fun j => decide ((j.id : Int) = id)))) ∧ Below w.heap.size w w' := by
 obtain ⟨-, k1, -, -, -, -, -⟩ := hq.cells
 have hpl : p < w.heap.size := lt_of_heap hq
 obtain ⟨a, c, rfl⟩ : ∃ a c, v = .slice a js.length c := by
  rcases hv.2 with ⟨rfl, h0⟩ | ⟨g, c, _, _, rfl, _⟩
  ·exact ⟨none, 0, by rw [h0]⟩
  ·exact ⟨_, c, rfl⟩
 have hB1 : Below w.heap.size w (w.alloc (.cells #[.int .i64 id] 2)) := (Below.refl _ w).alloc (Nat.le_refl _) _
 have g1 : (w.alloc (.cells #[.int .i64 id] 2)).heap[w.heap.size]? = some (.cells #[.int .i64 id] 2) := alloc_last _ _ rfl
 have HI := Lib.hid (IndexFunc_any 118 #[.pointer (some ⟨w.heap.size, 0, none⟩)] (fun j => decide ((j.id : Int) = id)) js _ _ (hv.below hB1) hl (fun _ _ => rfl) (fun W j hB => index1_any j id w.heap.size W (by
  have := (hB.block w.heap.size (by simp)).trans g1
  simp [World.cell?, this])))
 clear g1
 obtain ⟨R, hR⟩ : ∃ R, R = placeI (js.findIdx? fun j => decide ((j.id : Int) = id)) := ⟨_, rfl⟩
 rw [← hR] at HI ⊢
 clear hR hv
 go_enter Tryz.func96, Tryz.ntmps96
 go_wp2_with fail
 refine HI.out.mono ?_
 rintro e w2 ⟨rfl, hb2⟩
 have HB2 := Lib.hid (hB1.trans (hb2.mono (by simp)))
 clear hb2 hB1
 go_wp2
 go_ret
 exact ⟨rfl, HB2.out⟩
theorem named_any (p : Nat) (dp v : Value) (last : Int) (down : Bool) (js : List Jb) (s t : List UInt8) (w : World) (hq : QueueAt w p dp v last down) (hv : JobsAt w v js) (hl : js.length ≤ 100000) :
  Calls Tryz.prog 53 #[.pointer (some ⟨p, 0, none⟩), strV s, strV t] w fun e w' => e = .returned (.int .i64 (placeI (js.findIdx? fun j => decide (j.client = s) && decide (j.token = t)))) ∧ Below w.heap.size w w' := by
 obtain ⟨-, k1, -, -, -, -, -⟩ := hq.cells
 have hpl : p < w.heap.size := lt_of_heap hq
 obtain ⟨a, c, rfl⟩ : ∃ a c, v = .slice a js.length c := by
  rcases hv.2 with ⟨rfl, h0⟩ | ⟨g, c, _, _, rfl, _⟩
  ·exact ⟨none, 0, by rw [h0]⟩
  ·exact ⟨_, c, rfl⟩
 obtain ⟨w1, hw1⟩ : ∃ w1, w1 = (w.alloc (.cells #[strV s] 9)).alloc (.cells #[strV t] 9) := ⟨_, rfl⟩
 have hB1 : Below w.heap.size w w1 := by rw [hw1]; exact ((Below.refl _ w).alloc (Nat.le_refl _) _).alloc (by simp) _
 have g1 : w1.heap[w.heap.size]? = some (.cells #[strV s] 9) := by
  rw [hw1, Below.heap_alloc _ _ _ (by simp)]; exact alloc_last _ _ rfl
 have g2 : w1.heap[w.heap.size + 1]? = some (.cells #[strV t] 9) := by rw [hw1]; exact alloc_last _ _ (by simp)
 have HI := Lib.hid (IndexFunc_any 101 #[.pointer (some ⟨w.heap.size, 0, none⟩), .pointer (some ⟨w.heap.size + 1, 0, none⟩)] (fun j => decide (j.client = s) && decide (j.token = t)) js _ w1 (hv.below hB1) hl (fun _ _ => rfl) (fun W j hB => named1_any j s t w.heap.size (w.heap.size + 1) W (by
  have := (hB.block w.heap.size (lt_of_heap g1)).trans g1
  simp [World.cell?, this]) (by
  have := (hB.block (w.heap.size + 1) (lt_of_heap g2)).trans g2
  simp [World.cell?, this])))
 have hsz : w.heap.size ≤ w1.heap.size := hB1.size
 clear g1 g2
 obtain ⟨R, hR⟩ : ∃ R, R = placeI (js.findIdx? fun j => decide (j.client = s) && decide (j.token = t)) := ⟨_, rfl⟩
 rw [← hR] at HI ⊢
 clear hR hv
 have HW := Lib.hid hw1
 clear hw1
 go_enter Tryz.func53, Tryz.ntmps53
 go_wp2_with fail
 rw [← HW.out]
 refine HI.out.mono ?_
 rintro e w2 ⟨rfl, hb2⟩
 have HB2 := Lib.hid (hB1.trans (hb2.mono hsz))
 clear hb2 hB1
 go_wp2
 go_ret
 exact ⟨rfl, HB2.out⟩
end
/- Walks: a queue of jobs: records of the sixth and second kind are read. -/
section
open Go.RowKit Go.Shelf
/-- What holds of a job, and of a queue. -/
structure Jb.ok (j : Jb) (last : Nat) : Prop where
 (id0 : 0 < j.id)
 (id1 : j.id ≤ last)
 (prio : j.prio ≤ 9)
 (cl : labelB j.client = true)
 (tk : labelB j.token = true)
 (tr : j.tries ≤ 8)
 (s1 : 1 ≤ j.state)
 (s5 : j.state ≤ 5)
 (wk : j.work.length ≤ 60000)
 (pt : j.point.length ≤ 60000)
 (rs : j.result.length ≤ 60000)
structure Qs.ok (q : Qs) : Prop where
 (len : q.jobs.length ≤ 100)
 (last : q.last < 9223372036854775808)
 (job : ∀ j ∈ q.jobs, j.ok q.last)
 (asc : q.jobs.Pairwise fun a b => a.id < b.id)
/-- A queue whose jobs lie behind B. -/
structure QIn (B : Nat) (w : World) (p : Nat) (dp : Value) (q : Qs) (down : Bool) : Prop where
 (ex : ∃ v, QueueAt w p dp v q.last down ∧ w.owns B 48 9 v q.jobs.length (jobsL q.jobs))
 (le : True)
/-- What may change: the queue, and what lies behind B. -/
def PB (p B k : Nat) : Prop := k = p ∨ B ≤ k
theorem ended_any (s : Nat) (hs : s ≤ 255) (w : World) : Calls Tryz.prog 111 #[.int .i64 (s : Int)] w fun e w' => e = .returned (.bool (endedB s)) ∧ w' = w := by
 unfold endedB
 by_cases h : 3 ≤ s
 ·have h3 : (3 : Int) ≤ (s : Int) := by omega
  rw [decide_eq_true h, Bool.true_and]
  by_cases h5 : s ≤ 5
  ·have h6 : (s : Int) ≤ 5 := by omega
   rw [decide_eq_true h5]
   go_enter Tryz.func111, Tryz.ntmps111
   go_wp2
   go_ret
   exact ⟨rfl, rfl⟩
  ·have h6 : ¬ (s : Int) ≤ 5 := by omega
   rw [decide_eq_false h5]
   go_enter Tryz.func111, Tryz.ntmps111
   go_wp2
   go_ret
   exact ⟨rfl, rfl⟩
 ·have h3 : ¬ (3 : Int) ≤ (s : Int) := by omega
  rw [decide_eq_false h, Bool.false_and]
  go_enter Tryz.func111, Tryz.ntmps111
  go_wp2
  go_ret
  exact ⟨rfl, rfl⟩
theorem QueueAt.set2 {w : World} {p : Nat} {dp v : Value} {last : Int} {down : Bool} (h : QueueAt w p dp v last down) (n : Int) : QueueAt (w.setCell ⟨p, 2, none⟩ (.int .i64 n)) p dp v n down := by
 unfold QueueAt at h ⊢
 simp [World.setCell, Array.getElem?_modify, h]
theorem QueueAt.set1 {w : World} {p : Nat} {dp v : Value} {last : Int} {down : Bool} (h : QueueAt w p dp v last down) (v' : Value) : QueueAt (w.setCell ⟨p, 1, none⟩ v') p dp v' last down := by
 unfold QueueAt at h ⊢
 simp [World.setCell, Array.getElem?_modify, h]
theorem QueueAt.ne {w : World} {p B n : Nat} {dp v : Value} {last : Int} {down : Bool} {xs : List Value} (h : QueueAt w p dp v last down) (hv : w.owns B 48 9 v n xs) : v.ownBlock ≠ some p := World.owns.ne hv h (by decide)
theorem RestAt.ne {w : World} {p B n : Nat} {v : Value} {s : List UInt8} {xs : List Value} (h : RestAt w p s) (hv : w.owns B 48 9 v n xs) : v.ownBlock ≠ some p := World.owns.ne hv h (by decide)
theorem QueueAt.rest {w : World} {p r : Nat} {dp v : Value} {last : Int} {down : Bool} {s : List UInt8} (h : QueueAt w p dp v last down) (hr : RestAt w r s) : ¬ p = r := by
 rintro rfl
 unfold QueueAt at h
 unfold RestAt at hr
 rw [h] at hr
 injection hr with hr
 injection hr with h1 h2
 exact absurd h2 (by decide)
theorem RestAt.other {w : World} {r : Nat} {s : List UInt8} (h : RestAt w r s) {a : Addr} (ha : ¬ a.block = r) (u : Value) : RestAt (w.setCell a u) r s := by
 unfold RestAt at h ⊢
 rw [Below.heap_setCell _ _ _ _ (fun q => ha q.symm)]; exact h
theorem QueueAt.other {w : World} {p : Nat} {dp v : Value} {last : Int} {down : Bool} (h : QueueAt w p dp v last down) {a : Addr} (ha : ¬ a.block = p) (u : Value) : QueueAt (w.setCell a u) p dp v last down := by
 unfold QueueAt at h ⊢
 rw [Below.heap_setCell _ _ _ _ (fun q => ha q.symm)]; exact h
theorem rdr6_any (B p pr : Nat) (dp : Value) (down : Bool) (q : Qs) (r : List UInt8) (id : Nat) (at_ : Int) (w : World) (hq : QIn B w p dp q down) (hr : RestAt w pr r) (hB : B ≤ pr) :
  Calls Tryz.prog 147 #[.pointer (some ⟨p, 0, none⟩), .pointer (some ⟨pr, 0, none⟩), .int .i64 (id : Int), .int .i64 at_] w fun e w' =>
   match rd6 q r id with
   | some x => e = .returned (.tuple #[]) ∧ QIn B w' p dp x.1 down ∧ RestAt w' pr x.2 ∧ Kp (PB p B) w w'
   | none => e = .panicked wrongs ∧ Kp (PB p B) w w' := by
 obtain ⟨⟨v, hqa, hv⟩, hBp⟩ := hq
 obtain ⟨k0, k1, k2, k3, z1, z2, z3⟩ := hqa.cells
 unfold rd6
 by_cases h : q.last ≤ id
 ·rw [if_pos h]
  have h' : (q.last : Int) ≤ (id : Int) := by omega
  go_enter Tryz.func147, Tryz.ntmps147
  go_wp2_with fail
  refine (need_ok w).mono ?_
  rintro e w1 ⟨rfl, rfl⟩
  go_wp2_with fail
  go_end0
  exact ⟨rfl, ⟨⟨v, hqa.set2 _, hv.setCell_ne (hqa.ne hv) _⟩, hBp⟩, hr.other (fun e => hqa.rest hr e) _, (Kp.refl _ _).setCell (a := ⟨p, 2, none⟩) (.inl rfl) _⟩
 ·rw [if_neg h]
  have h' : ¬ (q.last : Int) ≤ (id : Int) := by omega
  go_enter Tryz.func147, Tryz.ntmps147
  go_wp2_with fail
  refine (need_no w).mono ?_
  rintro e w1 ⟨rfl, rfl⟩
  exact ⟨rfl, rfl, Kp.refl _ _⟩
end
/- Walks: a queue of jobs: a record of the second kind is read. -/
section
open Go.RowKit Go.Shelf
theorem owns_setAny {w : World} {base g n c m size : Nat} {T : TypeId} {xs : List Value} (h : w.owns base T size (.slice (some ⟨g, 0, none⟩) n c) m xs) (k : Nat) (u : Value) :
  (w.setCell ⟨g, k, none⟩ u).owns base T size (.slice (some ⟨g, 0, none⟩) n c) m (xs.set k u) := by
 obtain ⟨h1, h2⟩ := h
 refine ⟨by simpa using h1, ?_⟩
 rcases h2 with ⟨e, _⟩ | ⟨g', cap, cur, fz, e, hb, hg, hf, hn, hm, hs, ht⟩
 ·cases e
 ·injection e with e1 e2 e3
  injection e1 with e1
  injection e1 with e1
  subst e1 e2 e3
  refine .inr ⟨g, c, cur.setIfInBounds k u, fz, rfl, hb, ?_, by simpa using hf, hn, hm, by simpa using hs, ?_⟩
  ·simp [World.setCell, Array.getElem?_modify, hg]
  ·rw [Array.toList_setIfInBounds, List.take_set, ht]
theorem owns_unfrozen {w : World} {base g n c m size : Nat} {T : TypeId} {xs : List Value} (h : w.owns base T size (.slice (some ⟨g, 0, none⟩) n c) m xs) (k : Nat) (hk : k < m * size) : w.frozen? ⟨g, k, none⟩ = false := by
 obtain ⟨h1, h2⟩ := h
 rcases h2 with ⟨e, _⟩ | ⟨g', cap, cur, fz, e, hb, hg, hf, hn, hm, hs, ht⟩
 ·cases e
 ·injection e with e1 e2 e3
  injection e1 with e1
  injection e1 with e1
  subst e1 e2 e3
  have hkc : k < cur.size := by
   have := Nat.mul_le_mul_right size hn
   omega
  have := hf k hkc
  simp [World.frozen?, hg]
  omega
theorem jobsL_set (js : List Jb) (k : Nat) (j j' : Jb) (h : js[k]? = some j) (i : Nat) (hi : i < 9) (u : Value) (hj : j'.cells = j.cells.set i u) : jobsL (js.set k j') = (jobsL js).set (k * 9 + i) u := by
 induction js generalizing k with
 | nil => simp at h
 | cons a js ih =>
  cases k with
  | zero =>
   simp only [List.getElem?_cons_zero, Option.some.injEq] at h
   subst h
   show j'.cells ++ jobsL js = (a.cells ++ jobsL js).set _ _
   rw [List.set_append_left _ _ (by show _ < 9; omega), hj]
   simp
  | succ k =>
   show a.cells ++ jobsL (js.set k j') = (a.cells ++ jobsL js).set _ _
   rw [List.set_append_right _ _ (by show 9 ≤ _; omega), ih k (by simpa using h), show (k + 1) * 9 + i - a.cells.length = k * 9 + i by show _ - 9 = _; omega]
theorem Qs.at_get {q : Qs} {id k : Nat} (h : q.at id = some k) : ∃ j, q.jobs[k]? = some j ∧ j.id = id := by
 unfold Qs.at at h
 rw [List.findIdx?_eq_some_iff_getElem] at h
 obtain ⟨hk, h1, _⟩ := h
 exact ⟨q.jobs[k], List.getElem?_eq_getElem hk, by simpa using h1⟩
theorem rdr2_any (B p pr : Nat) (dp : Value) (down : Bool) (q : Qs) (r : List UInt8) (id : Nat) (w : World) (hq : QIn B w p dp q down) (ho : q.ok) (hr : RestAt w pr r) (hB : B ≤ pr) :
  Calls Tryz.prog 143 #[.pointer (some ⟨p, 0, none⟩), .pointer (some ⟨pr, 0, none⟩), .int .i64 (id : Int), .int .i64 (placeI (q.at id))] w fun e w' =>
   match rd2 q r id with
   | some x => e = .returned (.tuple #[]) ∧ QIn B w' p dp x.1 down ∧ RestAt w' pr x.2 ∧ Kp (PB p B) w w'
   | none => e = .panicked wrongs ∧ Kp (PB p B) w w' := by
 obtain ⟨⟨v, hqa, hv⟩, hBp⟩ := hq
 obtain ⟨k0, k1, k2, k3, z1, z2, z3⟩ := hqa.cells
 unfold rd2
 cases hat : q.at id with
 | none =>
  show Calls _ _ #[_, _, _, .int .i64 (-1)] _ _
  go_enter Tryz.func143, Tryz.ntmps143
  go_wp2_with fail
  refine (need_no w).mono ?_
  rintro e w1 ⟨rfl, rfl⟩
  exact ⟨rfl, rfl, Kp.refl _ _⟩
 | some k =>
  obtain ⟨j, hj, hid⟩ := Qs.at_get hat
  have hk : k < q.jobs.length := (List.getElem?_eq_some_iff.1 hj).1
  have hjo := ho.job j (List.mem_of_getElem? hj)
  have hs255 : j.state ≤ 255 := by have := hjo.s5; omega
  have htr := hjo.tr
  have hlen := ho.len
  have hv0 : JobsAt w v q.jobs := World.owns.mono hv (Nat.zero_le _)
  obtain ⟨g, cap, rfl, hgl, c0, c1, c2, c3, c4, c5, c6, c7, c8⟩ := hv0.cells k j hj
  have hfr := owns_unfrozen hv (k * 9 + 5) (by omega)
  simp only [Option.bind_some, hj]
  show Calls _ _ #[_, _, _, .int .i64 (k : Int)] _ _
  by_cases he : endedB j.state = true
  ·have HE := ended_any j.state hs255 w
   rw [he] at HE
   rw [if_neg (by rw [he]; simp)]
   go_enter Tryz.func143, Tryz.ntmps143
   go_wp2_with fail
   refine HE.mono ?_
   rintro e w1 ⟨rfl, rfl⟩
   go_wp2_with fail
   refine (need_no w1).mono ?_
   rintro e w2 ⟨rfl, rfl⟩
   exact ⟨rfl, rfl, Kp.refl _ _⟩
  ·have he' : endedB j.state = false := by simpa using he
   have HE := ended_any j.state hs255 w
   rw [he'] at HE
   by_cases h8 : j.tries < 8
   ·rw [if_pos ⟨he', h8⟩]
    have h8' : (j.tries : Int) < 8 := by omega
    go_enter Tryz.func143, Tryz.ntmps143
    go_wp2_with fail
    refine HE.mono ?_
    rintro e w1 ⟨rfl, rfl⟩
    go_wp2_with fail
    refine (need_ok w1).mono ?_
    rintro e w2 ⟨rfl, rfl⟩
    go_wp2_with fail
    go_end0
    have hn := owns_setAny hv (k * 9 + 5) (.int .i64 ((j.tries : Int) + 1))
    rw [← jobsL_set q.jobs k j { j with tries := j.tries + 1 } hj 5 (by omega) (.int .i64 ((j.tries : Int) + 1)) (by rfl)] at hn
    have hne := hqa.ne hv
    have hgb : g < w2.heap.size := hgl
    have hgB : B ≤ g := (World.owns.facts hv).2.2.1
    refine ⟨rfl, ⟨⟨_, hqa.other (fun e => hne (by show some g = some p; rw [show g = p from e])) _, ?_⟩, hBp⟩, hr.other (fun e => hr.ne hv (by show some g = some pr; rw [show g = pr from e])) _, (Kp.refl _ _).setCell (a := ⟨g, k * 9 + 5, none⟩) (.inr hgB) _⟩
    show World.owns _ _ _ _ _ (q.jobs.set k _).length _
    rw [List.length_set]
    exact hn
   ·rw [if_neg (by rintro ⟨-, q⟩; exact h8 q)]
    have h8' : decide ((j.tries : Int) < 8) = false := decide_eq_false (by omega)
    go_enter Tryz.func143, Tryz.ntmps143
    go_wp2_with fail
    refine HE.mono ?_
    rintro e w1 ⟨rfl, rfl⟩
    go_wp2_with fail
    refine (need_no w1).mono ?_
    rintro e w2 ⟨rfl, rfl⟩
    exact ⟨rfl, rfl, Kp.refl _ _⟩
end
/- Walks: a queue of jobs: a record of the third kind is read. -/
section
open Go.RowKit Go.Shelf
/-- A field of a job is written. -/
theorem qin_set {B p pr g cap k i : Nat} {dp : Value} {down : Bool} {q : Qs} {r : List UInt8} {w : World} {j j' : Jb} (hqa : QueueAt w p dp (.slice (some ⟨g, 0, none⟩) q.jobs.length cap) q.last down)
  (hv : w.owns B 48 9 (.slice (some ⟨g, 0, none⟩) q.jobs.length cap) q.jobs.length (jobsL q.jobs)) (hBp : True) (hr : RestAt w pr r) (hj : q.jobs[k]? = some j) (hi : i < 9) (u : Value) (hc : j'.cells = j.cells.set i u) :
  QueueAt (w.setCell ⟨g, k * 9 + i, none⟩ u) p dp (.slice (some ⟨g, 0, none⟩) (q.put k j').jobs.length cap) (q.put k j').last down ∧
  (w.setCell ⟨g, k * 9 + i, none⟩ u).owns B 48 9 (.slice (some ⟨g, 0, none⟩) (q.put k j').jobs.length cap) (q.put k j').jobs.length (jobsL (q.put k j').jobs) ∧
  RestAt (w.setCell ⟨g, k * 9 + i, none⟩ u) pr r ∧ Kp (PB p B) w (w.setCell ⟨g, k * 9 + i, none⟩ u) := by
 have hn := owns_setAny hv (k * 9 + i) u
 rw [← jobsL_set q.jobs k j j' hj i hi u hc] at hn
 have hne := hqa.ne hv
 have hgB : B ≤ g := (World.owns.facts hv).2.2.1
 have hl : (q.put k j').jobs.length = q.jobs.length := List.length_set
 rw [hl]
 exact ⟨hqa.other (fun e => hne (by show some g = some p; rw [show g = p from e])) _, hn, hr.other (fun e => hr.ne hv (by show some g = some pr; rw [show g = pr from e])) _, (Kp.refl _ _).setCell (a := ⟨g, k * 9 + i, none⟩) (.inr hgB) _⟩
theorem QueueAt.kp {w w' : World} {p r : Nat} {dp v : Value} {last : Int} {down : Bool} (h : QueueAt w p dp v last down) (hk : Kp (fun k => k = r) w w') (hn : ¬ p = r) : QueueAt w' p dp v last down := (hk.block p (lt_of_heap h) hn).trans h
theorem owns_kp {w w' : World} {r B n : Nat} {v : Value} {xs : List Value} (h : w.owns B 48 9 v n xs) (hk : Kp (fun k => k = r) w w') (hn : v.ownBlock ≠ some r) : w'.owns B 48 9 v n xs :=
 World.owns.keptBy h (fun g c fz hg hh => by
  exact hk.block g (lt_of_heap hh) (fun e => hn (by rw [hg, e])))
theorem rdr3_any (B p pr : Nat) (dp : Value) (down : Bool) (q : Qs) (r : List UInt8) (id : Nat) (w : World) (hq : QIn B w p dp q down) (ho : q.ok) (hr : RestAt w pr r) (hB : B ≤ pr) (hrl : r.length ≤ 1000000) :
  Calls Tryz.prog 144 #[.pointer (some ⟨p, 0, none⟩), .pointer (some ⟨pr, 0, none⟩), .int .i64 (id : Int), .int .i64 (placeI (q.at id))] w fun e w' =>
   match rd3 q r id with
   | some x => e = .returned (.tuple #[]) ∧ QIn B w' p dp x.1 down ∧ RestAt w' pr x.2 ∧ Kp (PB p B) w w'
   | none => e = .panicked wrongs ∧ Kp (PB p B) w w' := by
 obtain ⟨⟨v, hqa, hv⟩, hBp⟩ := hq
 obtain ⟨k0, k1, k2, k3, z1, z2, z3⟩ := hqa.cells
 unfold rd3
 cases hat : q.at id with
 | none =>
  show Calls _ _ #[_, _, _, .int .i64 (-1)] _ _
  go_enter Tryz.func144, Tryz.ntmps144
  go_wp2_with fail
  refine (need_no w).mono ?_
  rintro e w1 ⟨rfl, rfl⟩
  exact ⟨rfl, rfl, Kp.refl _ _⟩
 | some k =>
  obtain ⟨j, hj, hid⟩ := Qs.at_get hat
  have hk : k < q.jobs.length := (List.getElem?_eq_some_iff.1 hj).1
  have hjo := ho.job j (List.mem_of_getElem? hj)
  have hs255 : j.state ≤ 255 := by have := hjo.s5; omega
  have htr := hjo.tr
  have hlen := ho.len
  have hv0 : JobsAt w v q.jobs := World.owns.mono hv (Nat.zero_le _)
  obtain ⟨g, cap, rfl, hgl, c0, c1, c2, c3, c4, c5, c6, c7, c8⟩ := hv0.cells k j hj
  simp only [Option.bind_some, hj]
  show Calls _ _ #[_, _, _, .int .i64 (k : Int)] _ _
  by_cases he : endedB j.state = true
  ·have HE := ended_any j.state hs255 w
   rw [he] at HE
   rw [if_neg (by rw [he]; simp)]
   go_enter Tryz.func144, Tryz.ntmps144
   go_wp2_with fail
   refine HE.mono ?_
   rintro e w1 ⟨rfl, rfl⟩
   go_wp2_with fail
   refine (need_no w1).mono ?_
   rintro e w2 ⟨rfl, rfl⟩
   exact ⟨rfl, rfl, Kp.refl _ _⟩
  ·have he' : endedB j.state = false := by simpa using he
   have HE := ended_any j.state hs255 w
   rw [he'] at HE
   by_cases h8 : 0 < j.tries
   ·rw [if_pos ⟨he', h8⟩]
    have h8' : decide ((0 : Int) < (j.tries : Int)) = true := decide_eq_true (by omega)
    have HQA := Lib.hid hqa
    have HV := Lib.hid hv
    have HR := Lib.hid hr
    have HJ := Lib.hid hj
    have HT := Lib.hid (rtext_any pr 60000 r (by omega) hrl)
    have hki : (k : Int) < (q.jobs.length : Int) := by omega
    obtain ⟨T, hT⟩ : ∃ T, T = takeT r 60000 := ⟨_, rfl⟩
    rw [← hT] at HT ⊢
    clear hT hqa hv hr hj hv0
    go_enter Tryz.func144, Tryz.ntmps144
    go_upto_region 1 with (first | (refine HE.mono ?_; rintro e w1 ⟨rfl, rfl⟩) | (refine (need_ok _).mono ?_; rintro e w1 ⟨rfl, rfl⟩))
    refine wp_region_heldL (fun w' => w'.cell? ⟨p, 1, none⟩ = some (.slice (some ⟨g, 0, none⟩) q.jobs.length cap)) (by kernel_rfl) k1 (fun hS => ?_)
    refine tkH 0 (v := ?_) rfl ?_ ?_
    rotate_left
    ·(intro wq hSq; (try dsimp only at hSq); go_simp; try with_reducible rfl)
    try simp only [q0P, q0Q, q0R, q0S]
    refine tkH 1 (v := ?_) rfl ?_ ?_
    rotate_left
    ·(intro wq hSq; (try dsimp only at hSq); go_simp; try with_reducible rfl)
    try simp only [q0P, q0Q, q0R, q0S]
    refine tkH 2 (v := ?_) rfl ?_ ?_
    rotate_left
    ·(intro wq hSq; (try dsimp only at hSq); go_simp; try with_reducible rfl)
    try simp only [q0P, q0Q, q0R, q0S]
    refine tkH 3 (v := ?_) rfl ?_ ?_
    rotate_left
    ·(intro wq hSq; (try dsimp only at hSq); go_simp; try with_reducible rfl)
    try simp only [q0P, q0Q, q0R, q0S]
    refine tkH 4 (v := ?_) rfl ?_ ?_
    rotate_left
    ·(intro wq hSq; (try dsimp only at hSq); go_simp; try with_reducible rfl)
    try simp only [q0P, q0Q, q0R, q0S]
    refine tkH 5 (v := ?_) rfl ?_ ?_
    rotate_left
    ·(intro wq hSq; (try dsimp only at hSq); go_simp; try with_reducible rfl)
    try simp only [q0P, q0Q, q0R, q0S]
    refine wpAnyH_stepL 6 (by kernel_rfl) rfl (fun K hK => ?_)
    go_simp
    go_at_call 142
    refine (show Calls Tryz.prog 142 #[.pointer (some ⟨pr, 0, none⟩), .int .i64 60000] w1.drew _ from HT.out w1.drew HR.out).mono ?_
    cases T with
    | none =>
     rintro e w2 ⟨rfl, hk2d⟩
     have hk2 := (Kp.refl _ w1).drew.trans hk2d
     have hb2 : Kp (PB p B) w1 w2 := hk2.mono (fun k h => .inr (by subst h; exact hB))
     exact ⟨rfl, rfl, hb2⟩
    | some x =>
     obtain ⟨t, r'⟩ := x
     rintro e w2 ⟨rfl, hr2, hk2d⟩
     have hk2 := (Kp.refl _ w1).drew.trans hk2d
     have hnp := HQA.out.rest HR.out
     have hqa2 := HQA.out.kp hk2 hnp
     have hv2 := owns_kp HV.out hk2 (HR.out.ne HV.out)
     have HQA2 := Lib.hid hqa2
     have HV2 := Lib.hid hv2
     have HR2 := Lib.hid hr2
     have hv02 : JobsAt w2 _ q.jobs := World.owns.mono hv2 (Nat.zero_le _)
     obtain ⟨-, y1, -, -, -, -, -⟩ := hqa2.cells
     refine hK.out _ _ y1 (fun hS2 => ?_)
     clear hK K hS
     try simp only [q0P, q0Q, q0R, q0S]
     refine tkH 7 (v := ?_) rfl ?_ ?_
     rotate_left
     ·(intro wq hSq; (try dsimp only at hSq); go_simp; try with_reducible rfl)
     try simp only [q0P, q0Q, q0R, q0S]
     refine tkH 8 (v := ?_) rfl ?_ ?_
     rotate_left
     ·(intro wq hSq; (try dsimp only at hSq); go_simp; try with_reducible rfl)
     try simp only [q0P, q0Q, q0R, q0S]
     obtain ⟨f0, x0⟩ : w2.frozen? ⟨g, k * 9 + 7, none⟩ = false ∧ w2.cell? ⟨g, k * 9 + 7, none⟩ = some (strV j.point) := by
      refine ⟨owns_unfrozen hv2 _ (by omega), ?_⟩
      obtain ⟨g', cap', e', -, -, -, -, -, -, -, -, q7, -⟩ := hv02.cells k j HJ.out
      injection e' with e1 _ _
      injection e1 with e1
      injection e1 with e1
      rw [e1]; exact q7
     have hb2 : Kp (PB p B) w1 w2 := hk2.mono (fun k h => .inr (by subst h; exact hB))
     obtain ⟨s1, s2, s3, s4⟩ := qin_set (j' := { j with point := t }) hqa2 hv2 hBp hr2 HJ.out (by omega : 7 < 9) (strV t) rfl
     have HB := Lib.hid (hb2.trans s4)
     clear hb2 hqa2 hv2 hv02 hr2
     unfold strV at s1 s2 s3 HB ⊢
     refine wpAnyH_stepL 9 (by kernel_rfl) rfl (fun K hK => ?_)
     go_simp
     obtain ⟨-, y1, -, -, -, -, -⟩ := s1.cells
     rw [show (q.put k _).jobs.length = q.jobs.length from List.length_set] at y1
     refine hK.out _ _ y1 (fun hS3 => ?_)
     clear hK K hS2
     try simp only [q0P, q0Q, q0R, q0S]
     refine wpAnyH_end (by kernel_rfl) ?_
     go_end0
     exact ⟨rfl, ⟨⟨_, s1, s2⟩, hBp⟩, s3, HB.out⟩
   ·rw [if_neg (by rintro ⟨-, q⟩; exact h8 q)]
    have h8' : decide ((0 : Int) < (j.tries : Int)) = false := decide_eq_false (by omega)
    go_enter Tryz.func144, Tryz.ntmps144
    go_wp2_with fail
    refine HE.mono ?_
    rintro e w1 ⟨rfl, rfl⟩
    go_wp2_with fail
    refine (need_no w1).mono ?_
    rintro e w2 ⟨rfl, rfl⟩
    exact ⟨rfl, rfl, Kp.refl _ _⟩
end
/- Walks: a queue of jobs: a record of the fourth kind is read. -/
section
open Go.RowKit Go.Shelf
theorem kp_below {B r p : Nat} {w w' : World} (h : Kp (fun k => k = r) w w') (hB : B ≤ r) (_hr : r < w.heap.size) : Kp (PB p B) w w' := h.mono (fun k h => .inr (by subst h; exact hB))
theorem job_cell {w : World} {B g cap k i : Nat} {js : List Jb} {j : Jb} {u : Value} (hv : w.owns B 48 9 (.slice (some ⟨g, 0, none⟩) js.length cap) js.length (jobsL js)) (hj : js[k]? = some j) (hi : i < 9) (hu : j.cells[i]? = some u) :
  w.cell? ⟨g, k * 9 + i, none⟩ = some u ∧ w.frozen? ⟨g, k * 9 + i, none⟩ = false := by
 have hk : k < js.length := (List.getElem?_eq_some_iff.1 hj).1
 exact ⟨World.owns.cell hv _ _ (by rw [jobsL_get js k j hj i hi]; exact hu), owns_unfrozen hv _ (by omega)⟩
theorem put_get {q : Qs} {k : Nat} {j j' : Jb} (h : q.jobs[k]? = some j) : (q.put k j').jobs[k]? = some j' := by
 show (q.jobs.set k j')[k]? = _
 rw [List.getElem?_set_self (List.getElem?_eq_some_iff.1 h).1]
theorem put_put (q : Qs) (k : Nat) (a b : Jb) : (q.put k a).put k b = q.put k b := by unfold Qs.put; simp
theorem rdr4_any (B p pr : Nat) (dp : Value) (down : Bool) (q : Qs) (r : List UInt8) (id : Nat) (w : World) (hq : QIn B w p dp q down) (ho : q.ok) (hr : RestAt w pr r) (hB : B ≤ pr) (hrl : r.length ≤ 1000000) :
  Calls Tryz.prog 145 #[.pointer (some ⟨p, 0, none⟩), .pointer (some ⟨pr, 0, none⟩), .int .i64 (id : Int), .int .i64 (placeI (q.at id))] w fun e w' =>
   match rd4 q r id with
   | some x => e = .returned (.tuple #[]) ∧ QIn B w' p dp x.1 down ∧ RestAt w' pr x.2 ∧ Kp (PB p B) w w'
   | none => e = .panicked wrongs ∧ Kp (PB p B) w w' := by
 obtain ⟨⟨v, hqa, hv⟩, hBp⟩ := hq
 obtain ⟨k0, k1, k2, k3, z1, z2, z3⟩ := hqa.cells
 unfold rd4
 cases hat : q.at id with
 | none =>
  show Calls _ _ #[_, _, _, .int .i64 (-1)] _ _
  go_enter Tryz.func145, Tryz.ntmps145
  go_wp2_with fail
  refine (need_no w).mono ?_
  rintro e w1 ⟨rfl, rfl⟩
  exact ⟨rfl, rfl, Kp.refl _ _⟩
 | some k =>
  obtain ⟨j, hj, -⟩ := Qs.at_get hat
  have hk : k < q.jobs.length := (List.getElem?_eq_some_iff.1 hj).1
  have hjo := ho.job j (List.mem_of_getElem? hj)
  have hs255 : j.state ≤ 255 := by have := hjo.s5; omega
  have htr := hjo.tr
  have hlen := ho.len
  have hv0 : JobsAt w v q.jobs := World.owns.mono hv (Nat.zero_le _)
  obtain ⟨g, cap, rfl, hgl, c0, c1, c2, c3, c4, c5, c6, c7, c8⟩ := hv0.cells k j hj
  simp only [Option.bind_some, hj]
  show Calls _ _ #[_, _, _, .int .i64 (k : Int)] _ _
  by_cases he : endedB j.state = true
  ·have HE := ended_any j.state hs255 w
   rw [he] at HE
   rw [if_neg (by rw [he]; simp)]
   go_enter Tryz.func145, Tryz.ntmps145
   go_wp2_with fail
   refine HE.mono ?_
   rintro e w1 ⟨rfl, rfl⟩
   go_wp2_with fail
   refine (need_no w1).mono ?_
   rintro e w2 ⟨rfl, rfl⟩
   exact ⟨rfl, rfl, Kp.refl _ _⟩
  ·have he' : endedB j.state = false := by simpa using he
   have HE := ended_any j.state hs255 w
   rw [he'] at HE
   rw [if_pos he']
   generalize hX : Option.bind (takeN r 1) _ = X
   have HQA := Lib.hid hqa
   have HV := Lib.hid hv
   have HR := Lib.hid hr
   have HJ := Lib.hid hj
   have HN := Lib.hid (rnum_any pr 1 r (by omega) hrl w hr)
   have hki : (k : Int) < (q.jobs.length : Int) := by omega
   obtain ⟨T, hT⟩ : ∃ T, T = takeN r 1 := ⟨_, rfl⟩
   have hTl : ∀ x, T = some x → x.1 < 256 ∧ x.2.length ≤ 1000000 := by
    rintro ⟨n, s⟩ rfl
    obtain ⟨h1, h2, -⟩ := takeN_lt hT.symm
    exact ⟨h1, by rw [h2, List.length_drop]; omega⟩
   rw [← hT] at HN hX
   have HX := Lib.hid hX
   clear hX hT hqa hv hr hj hv0
   go_enter Tryz.func145, Tryz.ntmps145
   go_wp2_with (first | (refine HE.mono ?_; rintro e w1 ⟨rfl, rfl⟩) | (refine (need_ok _).mono ?_; rintro e w1 ⟨rfl, rfl⟩))
   refine HN.out.mono ?_
   cases T with
   | none =>
    rintro e w2 ⟨rfl, hk2⟩
    obtain rfl := HX.out
    exact ⟨rfl, rfl, kp_below hk2 hB (lt_of_heap HR.out)⟩
   | some x =>
    obtain ⟨s, r1⟩ := x
    obtain ⟨hs1, hr1l⟩ := hTl _ rfl
    rintro e w2 ⟨rfl, hr2, hk2⟩
    have hid : idI s = (s : Int) := by unfold idI; rw [if_pos (by omega)]
    dsimp only at hr2 hk2 hs1 hr1l ⊢
    rw [hid]
    have hqa2 := HQA.out.kp hk2 (HQA.out.rest HR.out)
    have hv2 := owns_kp HV.out hk2 (HR.out.ne HV.out)
    obtain ⟨x4, y4⟩ := job_cell hv2 HJ.out (by omega : 4 < 9) rfl
    have hlen1 : (q.put k { j with state := s }).jobs.length = q.jobs.length := List.length_set
    obtain ⟨s1, s2, s3, s4⟩ := qin_set (j' := { j with state := s }) hqa2 hv2 hBp hr2 HJ.out (by omega : 4 < 9) (.int .i64 (s : Int)) rfl
    have HB2 := Lib.hid ((kp_below hk2 hB (lt_of_heap HR.out)).trans s4)
    have HQ1 := Lib.hid s1
    have HV1 := Lib.hid s2
    have HR1 := Lib.hid s3
    have HT := Lib.hid (rtext_any pr 60000 r1 (by omega) hr1l _ s3)
    obtain ⟨W3, hW3⟩ : ∃ W, W = w2.setCell ⟨g, k * 9 + 4, none⟩ (.int .i64 (s : Int)) := ⟨_, rfl⟩
    rw [← hW3] at HB2 HQ1 HV1 HR1 HT
    have HJ1 := Lib.hid (put_get (j' := { j with state := s }) HJ.out)
    obtain ⟨q1, hq1⟩ : ∃ q1, q1 = q.put k { j with state := s } := ⟨_, rfl⟩
    rw [← hq1] at HQ1 HV1 HJ1 hlen1
    have HW3 := Lib.hid hW3
    have HQ1E := Lib.hid hq1
    clear hq1
    obtain ⟨T2, hT2⟩ : ∃ T, T = takeT r1 60000 := ⟨_, rfl⟩
    rw [← hT2] at HT
    have hX2 := HX.out
    rw [Option.bind_some] at hX2
    dsimp only at hX2
    rw [← hT2] at hX2
    have HX2 := Lib.hid hX2
    clear hX2 HX hW3 s1 s2 s3 s4 hqa2 hv2 hT2 hTl HN
    go_wp2_with fail
    rw [← HW3.out]
    refine (show Calls Tryz.prog 142 #[.pointer (some ⟨pr, 0, none⟩), .int .i64 60000] W3 _ from HT.out).mono ?_
    clear hki c0 c1 c2 c3 c4 c5 c6 c7 c8 x4 y4 hr2 hk2 k0 k1 k2 k3 z1 z2 z3
    cases T2 with
    | none =>
     rintro e w4 ⟨rfl, hk4⟩
     obtain rfl := HX2.out
     exact ⟨rfl, rfl, HB2.out.trans (kp_below hk4 hB (lt_of_heap HR1.out))⟩
    | some y =>
     obtain ⟨t, r2⟩ := y
     rintro e w4 ⟨rfl, hr4, hk4⟩
     have hX3 := HX2.out
     rw [Option.bind_some] at hX3
     dsimp only at hX3 hr4 ⊢
     have hqa4 := HQ1.out.kp hk4 (HQ1.out.rest HR1.out)
     have hv4 := owns_kp HV1.out hk4 (HR1.out.ne HV1.out)
     have hb4 := HB2.out.trans (kp_below hk4 hB (lt_of_heap HR1.out))
     obtain ⟨x8, y8⟩ := job_cell hv4 HJ1.out (by omega : 8 < 9) rfl
     obtain ⟨s1, s2, s3, s4⟩ := qin_set (j' := { j with state := s, result := t }) hqa4 hv4 hBp hr4 HJ1.out (by omega : 8 < 9) (strV t) rfl
     have HJ2 := Lib.hid (put_get (q := q1) (j' := { j with state := s, result := t }) HJ1.out)
     obtain ⟨x4, y4⟩ := job_cell s2 HJ2.out (by omega : 4 < 9) rfl
     have HB4 := Lib.hid (hb4.trans s4)
     have HQ4 := Lib.hid s1
     have HV4 := Lib.hid s2
     have HR4 := Lib.hid s3
     have HEN := Lib.hid (ended_any s (by omega) (w4.setCell ⟨g, k * 9 + 8, none⟩ (strV t)))
     clear s1 s2 s3 s4 hb4 hqa4 hv4 hr4 hk4 HX2 HT
     unfold strV at HEN HB4 HQ4 HV4 HR4 x4 y4 ⊢
     by_cases hen : endedB s = true
     ·rw [if_pos hen] at hX3
      rw [hen] at HEN
      subst hX3
      go_wp2_with fail
      refine HEN.out.mono ?_
      rintro e w5 ⟨rfl, rfl⟩
      go_wp2_with fail
      refine (need_ok _).mono ?_
      rintro e w6 ⟨rfl, rfl⟩
      go_wp2_with fail
      go_end0
      have hA := HQ4.out
      have hC := HV4.out
      rw [HQ1E.out, put_put] at hA hC
      exact ⟨rfl, ⟨⟨_, hA, hC⟩, hBp⟩, HR4.out, HB4.out⟩
     ·rw [if_neg hen] at hX3
      rw [show endedB s = false by simpa using hen] at HEN
      subst hX3
      go_wp2_with fail
      refine HEN.out.mono ?_
      rintro e w5 ⟨rfl, rfl⟩
      go_wp2_with fail
      refine (need_no _).mono ?_
      rintro e w6 ⟨rfl, rfl⟩
      exact ⟨rfl, rfl, HB4.out⟩
end
/- Walks: a queue of jobs: a job is deleted. -/
section
open Go.RowKit Go.Shelf
theorem kp_setCells {P : Nat → Prop} {g : Nat} (hg : P g) : ∀ (vs : List Value) (o : Nat) {w w' : World}, Kp P w w' → Kp P w (w'.setCells g o vs)
 | [], _, _, _, h => h
 | v :: vs, o, _, _, h => kp_setCells hg vs (o + 1) (h.setCell (a := ⟨g, o, none⟩) hg v)
theorem owns_setMany {base g n c m size : Nat} {T : TypeId} : ∀ (vs : List Value) (o : Nat) {w : World} {xs : List Value}, w.owns base T size (.slice (some ⟨g, 0, none⟩) n c) m xs → o + vs.length ≤ xs.length →
  (w.setCells g o vs).owns base T size (.slice (some ⟨g, 0, none⟩) n c) m (xs.take o ++ vs ++ xs.drop (o + vs.length))
 | [], o, w, xs, h, _ => by simpa [World.setCells] using h
 | v :: vs, o, w, xs, h, hl => by
  have h1 := owns_setAny h o v
  have h2 := owns_setMany vs (o + 1) h1 (by rw [List.length_set]; simp only [List.length_cons] at hl; omega)
  rw [World.setCells]
  have ho : o < xs.length := by simp only [List.length_cons] at hl; omega
  have e1 : (xs.set o v).take (o + 1) = xs.take o ++ [v] := by
   rw [List.take_succ_eq_append_getElem (by rw [List.length_set]; exact ho), List.take_set_of_le (Nat.le_refl _)]
   simp
  have e2 : (xs.set o v).drop (o + 1 + vs.length) = xs.drop (o + (v :: vs).length) := by
   rw [List.drop_set_of_lt (by omega)]
   congr 1
   simp only [List.length_cons]; omega
  rw [e1, e2, List.append_assoc (xs.take o), List.singleton_append] at h2
  exact h2
theorem owns_shrink {w : World} {base g n c size m : Nat} {T : TypeId} {xs : List Value} (h : w.owns base T size (.slice (some ⟨g, 0, none⟩) n c) n xs) (hm : m ≤ n) :
  w.owns base T size (.slice (some ⟨g, 0, none⟩) m c) m (xs.take (m * size)) := by
 obtain ⟨h1, h2⟩ := h
 have hms : m * size ≤ n * size := Nat.mul_le_mul_right _ hm
 refine ⟨by rw [List.length_take, h1]; omega, ?_⟩
 rcases h2 with ⟨e, _⟩ | ⟨g', cap, cur, fz, e, hb, hg, hf, hn, hmx, hs, ht⟩
 ·cases e
 ·injection e with e1 e2 e3
  injection e1 with e1
  injection e1 with e1
  subst e1 e3
  refine .inr ⟨g, c, cur, fz, rfl, hb, hg, hf, by omega, hmx, hs, ?_⟩
  rw [← ht, List.take_take, Nat.min_eq_left hms]
theorem jobsL_append (a b : List Jb) : jobsL (a ++ b) = jobsL a ++ jobsL b := by unfold jobsL; rw [List.flatMap_append]
theorem jobsL_take (js : List Jb) (k : Nat) (hk : k ≤ js.length) : (jobsL js).take (k * 9) = jobsL (js.take k) := by
 conv => lhs; rw [← List.take_append_drop k js]
 rw [jobsL_append, List.take_left' (by rw [jobsL_length, List.length_take, Nat.min_eq_left hk])]
theorem jobsL_drop (js : List Jb) (k : Nat) (hk : k ≤ js.length) : (jobsL js).drop (k * 9) = jobsL (js.drop k) := by
 conv => lhs; rw [← List.take_append_drop k js]
 rw [jobsL_append, List.drop_left' (by rw [jobsL_length, List.length_take, Nat.min_eq_left hk])]
theorem jobsL_one (js : List Jb) : ∀ u ∈ jobsL js, u.oneCell' = true := by
 intro u hu
 unfold jobsL at hu
 obtain ⟨j, -, hj⟩ := List.mem_flatMap.1 hu
 unfold Jb.cells strV at hj
 simp only [List.mem_cons, List.not_mem_nil, or_false] at hj
 rcases hj with rfl | rfl | rfl | rfl | rfl | rfl | rfl | rfl | rfl <;> rfl
theorem run_clear9 (w : World) (t e ty : TypeId) (z : Value) (ht : Tryz.prog.underlying t = some (.slice e)) (hv : ∀ w, (zeroValue e).run Tryz.prog w = .ok z w) (h9 : z.cells.size = 9) (h1 : ∀ v ∈ z.cells.toList, v.oneCell' = true) (b o c : Nat)
  (hc : ∀ j, j < 9 → (w.cell? ⟨b, o + j, none⟩).isSome = true) (hf : ∀ j, j < 9 → w.frozen? ⟨b, o + j, none⟩ = false) :
  (Builtin.clear_ #[t] ty #[.slice (some ⟨b, o, none⟩) 1 c]).run Tryz.prog w = .ok (.tuple #[]) (w.setCells b o z.cells.toList) := by
 have hzc : (Builtin.zeroCells z.cells 1).toList = z.cells.toList := by
  simp [Builtin.zeroCells]
  apply List.ext_getElem
  ·simp
  ·intro i h1 h2
   have : i < z.cells.size := by simpa using h2
   simp [Nat.mod_eq_of_lt this]
   rw [getElem!_pos z.cells i this]
 have hst := run_storeCells_cells (P := Tryz.prog) b o z.cells.toList 0 w (by simpa [h9] using hc) (by simpa [h9] using hf) h1
 simp only [Nat.add_zero] at hst
 simp [Builtin.clear_, run_underlying ht, hv, hzc, hst]
def jobZero : Value := .agg #[.int .i64 0, .string ByteArray.empty, .string ByteArray.empty, .int .i64 0, .int .i64 0, .int .i64 0, .string ByteArray.empty, .string ByteArray.empty, .string ByteArray.empty]
theorem infoJob : (Tryz.prog.info? 48).map (fun i => (i.zero, i.size)) = some (some jobZero, 9) := by kernel_rfl
theorem zeroJob (w : World) : (zeroValue 48).run Tryz.prog w = .ok jobZero w := by kernel_rfl
theorem Delete_any (B g cap i : Nat) (js : List Jb) (w : World) (hv : w.owns B 48 9 (.slice (some ⟨g, 0, none⟩) js.length cap) js.length (jobsL js)) (hi : i < js.length) (hl : js.length ≤ 100000) :
  Calls Tryz.prog 77 #[.slice (some ⟨g, 0, none⟩) js.length cap, .int .i64 (i : Int), .int .i64 ((i : Int) + 1)] w fun e w' =>
   e = .returned (.slice (some ⟨g, 0, none⟩) (js.length - 1) cap) ∧ w'.owns B 48 9 (.slice (some ⟨g, 0, none⟩) (js.length - 1) cap) (js.length - 1) (jobsL (js.eraseIdx i)) ∧ Kp (fun k => k = g) w w' := by
 obtain ⟨i0, hi0, hi1⟩ : ∃ i0, Tryz.prog.info? 48 = some i0 ∧ i0.size = 9 := by
  have := infoJob
  cases h : Tryz.prog.info? 48 with
  | none => rw [h] at this; cases this
  | some i0 => rw [h] at this; simp at this; exact ⟨i0, rfl, this.2⟩
 obtain ⟨-, hcap, -, hmx, -⟩ := World.owns.facts hv
 obtain ⟨n, hn⟩ : ∃ n, n = js.length := ⟨_, rfl⟩
 obtain ⟨j, hj⟩ : ∃ j, j = i + 1 := ⟨_, rfl⟩
 have hlx : (jobsL js).length = n * 9 := by rw [jobsL_length, hn]
 obtain ⟨news, hnews⟩ : ∃ news, news = (jobsL js).drop (j * 9) := ⟨_, rfl⟩
 have hnl : news.length = (n - j) * 9 := by rw [hnews, List.length_drop, hlx]; omega
 have hget : ∀ t u, news[t]? = some u → w.cell? ⟨g, j * 9 + t, none⟩ = some u := fun t u hu => by
  rw [hnews, List.getElem?_drop] at hu
  exact World.owns.cell hv _ _ hu
 obtain ⟨A, hA, hsrc⟩ : ∃ A : Addr, (if cap = j then some (⟨g, 0, none⟩ : Addr) else some ⟨g, j * 9, none⟩) = some A ∧ Hid (∀ t u, news[t]? = some u → w.drew.cell? (A.add t) = some u) := by
  by_cases h : cap = j
  ·refine ⟨⟨g, 0, none⟩, by simp [h], fun t u hu => ?_⟩
   have h0 : news.length = 0 := by rw [hnl]; omega
   rw [List.length_eq_zero_iff.1 h0] at hu
   simp at hu
  ·refine ⟨⟨g, j * 9, none⟩, by simp [h], fun t u hu => ?_⟩
   have : (⟨g, j * 9, none⟩ : Addr).add t = ⟨g, j * 9 + t, none⟩ := addr_add _ _ _
   rw [this]
   exact hget t u hu
 have s2 : Hid (∀ u ∈ news, u.oneCell' = true) := by
  intro u hu
  rw [hnews] at hu
  exact jobsL_one js u (List.mem_of_mem_drop hu)
 have hcf : ∀ k, k < n * 9 → (w.cell? ⟨g, k, none⟩).isSome = true ∧ w.frozen? ⟨g, k, none⟩ = false := fun k hk => by
  have h1 := World.owns.cell hv k _ (List.getElem?_eq_getElem (by rw [hlx]; exact hk))
  exact ⟨by rw [h1]; rfl, owns_unfrozen hv _ (by rw [← hn]; exact hk)⟩
 have s3 : Hid (∀ t, t < news.length → (w.drew.cell? ⟨g, 0 + i * 9 + t, none⟩).isSome = true ∧ w.drew.frozen? ⟨g, 0 + i * 9 + t, none⟩ = false) := by
  intro t ht
  rw [hnl] at ht
  rw [Nat.zero_add]
  exact hcf _ (by omega)
 have s1 : Hid (news.length = (n - j) * 9) := hnl
 obtain ⟨m, hm⟩ : ∃ m, m = n - 1 := ⟨_, rfl⟩
 have hmm : i + (n - j) = m := by omega
 obtain ⟨W1, hW1⟩ : ∃ W1, W1 = w.drew.setCells g (0 + i * 9) news := ⟨_, rfl⟩
 have hv1 : W1.owns B 48 9 (.slice (some ⟨g, 0, none⟩) n cap) n ((jobsL js).take (i * 9) ++ news ++ (jobsL js).drop (i * 9 + news.length)) := by
  rw [hW1, Nat.zero_add]
  rw [← hn] at hv
  exact owns_setMany news (i * 9) (World.owns.drew hv) (by rw [hlx, hnl]; omega)
 have hk1 : Kp (fun k => k = g) w W1 := by rw [hW1]; exact kp_setCells (P := fun k => k = g) rfl _ _ (Kp.refl _ w).drew
 have hcf1 : ∀ k, k < n * 9 → (W1.cell? ⟨g, k, none⟩).isSome = true ∧ W1.frozen? ⟨g, k, none⟩ = false := fun k hk => by
  have h1 := World.owns.cell hv1 k _ (List.getElem?_eq_getElem (by rw [hv1.1]; exact hk))
  exact ⟨by rw [h1]; rfl, owns_unfrozen hv1 _ hk⟩
 obtain ⟨Z, hZ⟩ : ∃ Z, Z = jobZero.cells.toList := ⟨_, rfl⟩
 have hcl : ∀ ty, (Builtin.clear_ #[52] ty #[.slice (some ⟨g, m * 9, none⟩) 1 (cap - m)]).run Tryz.prog W1 = .ok (.tuple #[]) (W1.setCells g (m * 9) Z) := fun ty => by
  rw [hZ]
  exact run_clear9 W1 _ 48 ty jobZero Tryz.underlying52 zeroJob rfl (by unfold jobZero; intro v hv; simp [Value.cells] at hv; rcases hv with rfl | rfl | rfl | rfl <;> rfl) g (m * 9) _ (fun k hk => (hcf1 _ (by omega)).1) (fun k hk => (hcf1 _ (by omega)).2)
 have hfin : (W1.setCells g (m * 9) Z).owns B 48 9 (.slice (some ⟨g, 0, none⟩) m cap) m (jobsL (js.eraseIdx i)) := by
  have h2 := owns_shrink (m := m) (owns_setMany Z (m * 9) hv1 (by rw [hv1.1]; rw [hZ]; show m * 9 + 9 ≤ _; omega)) (by omega)
  have e : jobsL (js.eraseIdx i) = ((jobsL js).take (i * 9) ++ news) := by
   rw [hnews, jobsL_take _ _ (by omega), jobsL_drop _ _ (by omega), ← jobsL_append, hj, List.eraseIdx_eq_take_drop_succ]
  rw [e]
  have hl2 : ((jobsL js).take (i * 9) ++ news).length = m * 9 := by rw [List.length_append, List.length_take, hlx, hnl]; omega
  obtain ⟨Y, hY⟩ : ∃ Y, Y = (jobsL js).take (i * 9) ++ news := ⟨_, rfl⟩
  rw [← hY] at h2 hl2 ⊢
  rw [List.take_left' hl2, List.append_assoc Y Z, List.take_left' hl2] at h2
  exact h2
 have HFIN := Lib.hid hfin
 have HK := Lib.hid (kp_setCells (P := fun k => k = g) rfl Z (m * 9) hk1)
 have HW := Lib.hid hW1
 have hnm : n - m = 1 := by omega
 have hcm : ¬ cap = m := by omega
 have hic : i ≤ cap := by omega
 have hjc : j ≤ cap := by omega
 have hjn : j ≤ n := by omega
 have hmn : m ≤ n := by omega
 have hnc : n ≤ cap := by omega
 have hij : i ≤ j := by omega
 have hne : ((i : Int) == (j : Int)) = false := by rw [beq_eq_false_iff_ne]; omega
 rw [show (i : Int) + 1 = (j : Int) by omega, ← hn, ← hm]
 clear hj hn hm hZ
 clear hv1 hk1 hcf1 hcf hW1 hfin hget hnews hnl hlx hv hi hl hcap
 go_enter Tryz.func77, Tryz.ntmps77
 go_wp2_with fail
 go_region_law (refine step_append_room rfl (.tmp 22) (.tmp 25) 52 rfl 48 i0 9 Tryz.underlying52 hi0 hi1 g 0 i cap (by simp [Act.eval, Act.put]) A (n - j) (cap - j) news (by simp [Act.eval, Act.put]) s1.out hsrc.out s2.out (by omega) s3.out ?_; rw [← HW.out, hmm])
 go_wp2_with fail
 all_goals (go_ret; exact ⟨rfl, HFIN.out, HK.out⟩)
end
/- Walks: a queue of jobs: a record of the fifth kind is read. -/
section
open Go.RowKit Go.Shelf
theorem rdr5_any (B p pr : Nat) (dp : Value) (down : Bool) (q : Qs) (r : List UInt8) (id : Nat) (w : World) (hq : QIn B w p dp q down) (ho : q.ok) (hr : RestAt w pr r) (hB : B ≤ pr) :
  Calls Tryz.prog 146 #[.pointer (some ⟨p, 0, none⟩), .pointer (some ⟨pr, 0, none⟩), .int .i64 (id : Int), .int .i64 (placeI (q.at id))] w fun e w' =>
   match rd5 q r id with
   | some x => e = .returned (.tuple #[]) ∧ QIn B w' p dp x.1 down ∧ RestAt w' pr x.2 ∧ Kp (PB p B) w w'
   | none => e = .panicked wrongs ∧ Kp (PB p B) w w' := by
 obtain ⟨⟨v, hqa, hv⟩, hBp⟩ := hq
 obtain ⟨k0, k1, k2, k3, z1, z2, z3⟩ := hqa.cells
 unfold rd5
 cases hat : q.at id with
 | none =>
  show Calls _ _ #[_, _, _, .int .i64 (-1)] _ _
  go_enter Tryz.func146, Tryz.ntmps146
  go_wp2_with fail
  refine (need_no w).mono ?_
  rintro e w1 ⟨rfl, rfl⟩
  exact ⟨rfl, rfl, Kp.refl _ _⟩
 | some k =>
  obtain ⟨j, hj, -⟩ := Qs.at_get hat
  have hk : k < q.jobs.length := (List.getElem?_eq_some_iff.1 hj).1
  have hjo := ho.job j (List.mem_of_getElem? hj)
  have hs255 : j.state ≤ 255 := by have := hjo.s5; omega
  have hlen := ho.len
  have hv0 : JobsAt w v q.jobs := World.owns.mono hv (Nat.zero_le _)
  obtain ⟨g, cap, rfl, hgl, c0, c1, c2, c3, c4, c5, c6, c7, c8⟩ := hv0.cells k j hj
  simp only [Option.bind_some, hj]
  show Calls _ _ #[_, _, _, .int .i64 (k : Int)] _ _
  have HE := ended_any j.state hs255 w
  by_cases he : endedB j.state = true
  ·rw [he] at HE
   rw [if_pos he]
   have hgp : ¬ g = p := fun e => hqa.ne hv (by show some g = some p; rw [e])
   have hgr : ¬ g = pr := fun e => hr.ne hv (by show some g = some pr; rw [e])
   have hgB : B ≤ g := (World.owns.facts hv).2.2.1
   have HD := Lib.hid (Delete_any B g cap k q.jobs w hv hk (by omega))
   have HQA := Lib.hid hqa
   have HR := Lib.hid hr
   have hki : (k : Int) + 1 ≤ (q.jobs.length : Int) := by omega
   clear hqa hr hv hv0 hj
   go_enter Tryz.func146, Tryz.ntmps146
   go_wp2_with (first | (refine HE.mono ?_; rintro e w1 ⟨rfl, rfl⟩) | (refine (need_ok _).mono ?_; rintro e w1 ⟨rfl, rfl⟩))
   refine HD.out.mono ?_
   rintro e w2 ⟨rfl, hv2, hk2⟩
   have hqa2 := HQA.out.kp hk2 (fun e => hgp e.symm)
   have hr2 : RestAt w2 pr r := (hk2.block pr (lt_of_heap HR.out) (fun e => hgr e.symm)).trans HR.out
   obtain ⟨-, y1, -, -, y2, -, -⟩ := hqa2.cells
   have hv3 := World.owns.setCell_ne hv2 (a := ⟨p, 1, none⟩) (fun e => hgp (by injection e)) (.slice (some ⟨g, 0, none⟩) (q.jobs.length - 1) cap)
   have hl : (q.jobs.eraseIdx k).length = q.jobs.length - 1 := by rw [List.length_eraseIdx, if_pos hk]
   have hq3 := hqa2.set1 (.slice (some ⟨g, 0, none⟩) (q.jobs.length - 1) cap)
   have hr3 := hr2.other (a := ⟨p, 1, none⟩) (hqa2.rest hr2) (.slice (some ⟨g, 0, none⟩) (q.jobs.length - 1) cap)
   have hb3 := (kp_below (p := p) hk2 hgB hgl).setCell (a := ⟨p, 1, none⟩) (.inl rfl) (.slice (some ⟨g, 0, none⟩) (q.jobs.length - 1) cap)
   have HV3 := Lib.hid hv3
   have HL := Lib.hid hl
   clear hv3 hv2 hqa2 hr2 hk2 hl
   go_wp2_with fail
   go_end0
   refine ⟨rfl, ⟨⟨_, hq3, ?_⟩, hBp⟩, hr3, hb3⟩
   show World.owns _ _ _ _ _ (q.jobs.eraseIdx k).length _
   rw [HL.out]
   exact HV3.out
  ·rw [show endedB j.state = false by simpa using he] at HE
   rw [if_neg he]
   go_enter Tryz.func146, Tryz.ntmps146
   go_wp2_with fail
   refine HE.mono ?_
   rintro e w1 ⟨rfl, rfl⟩
   go_wp2_with fail
   refine (need_no w1).mono ?_
   rintro e w2 ⟨rfl, rfl⟩
   exact ⟨rfl, rfl, Kp.refl _ _⟩
end
/- Moves of a walk through a region that draws its order: reads first, then several stores in one order. -/
end Go.Proofs.YtoggmplkbiidhaaGreatDoor
namespace Go
open RowKit
section
variable {P : Program} {ops : Array Oper} {Q : Exit → Act → World → Prop} {S : World → Prop} {late : Nat → Bool}
/-- As in a held region; what is late need not keep S. -/
def wpAnyD (P : Program) (ops : Array Oper) (Q : Exit → Act → World → Prop) (S : World → Prop) (late : Nat → Bool) : Nat → Array Bool → Act → World → Prop
 | 0, listed, a, w => Region.ready .any ops listed = [] ∧ Q .normal a w
 | fuel + 1, listed, a, w =>
  (Region.ready .any ops listed = [] → Q .normal a w) ∧
  ∀ i ∈ Region.ready .any ops listed, wpOp P ops Q i (fun a' w' => (late i = false → S w → S w') ∧ wpAnyD P ops Q S late fuel (listed.setIfInBounds i true) a' w') a w
theorem wpAny_of_D : ∀ (fuel : Nat) (listed : Array Bool) (a : Act) (w : World), wpAnyD P ops Q S late fuel listed a w → wpAny P .any ops Q fuel listed a w
 | 0, _, _, _, h => h
 | fuel + 1, _, _, _, h => ⟨h.1, fun i hi => wpOp_mono (fun a' w' h' => wpAny_of_D fuel _ a' w' h'.2) (h.2 i hi)⟩
/-- What is late waits for i. -/
def waitsB (ops : Array Oper) (late : Nat → Bool) (i : Nat) : Bool := (List.range ops.size).all fun j => !late j || ((ops[j]?).map fun o => o.after.any fun e => Region.binds .any e && e.on == i).getD false
theorem late_listed {i j : Nat} {listed : Array Bool} (hw : waitsB ops late i = true) (hl : late j = true) (hr : j ∈ Region.ready .any ops listed) : listed.getD i false = true := by
 rw [mem_ready] at hr
 obtain ⟨-, oL, hoL, h3⟩ := hr
 have hj : j < ops.size := by
  rcases Nat.lt_or_ge j ops.size with h | h
  ·exact h
  ·rw [Array.getElem?_eq_none h] at hoL; cases hoL
 unfold waitsB at hw
 rw [List.all_eq_true] at hw
 have h4 := hw j (List.mem_range.2 hj)
 rw [hl, hoL, Option.map_some, Option.getD_some, Bool.not_true, Bool.false_or, Array.any_eq_true] at h4
 obtain ⟨k, hk, h5⟩ := h4
 rw [Bool.and_eq_true] at h5
 have h6 := h3 _ (Array.getElem_mem hk) h5.1
 rw [beq_iff_eq.1 h5.2] at h6
 exact h6
theorem wpAnyD_first {i : Nat} {oi : Oper} {v : Value} (hw : waitsB ops late i = true) (hi : ops[i]? = some oi) (hsel : ∀ (j : Nat) (o : Oper) cs b, ops[j]? = some o → o.op ≠ .select cs b)
  (hQ : ∀ c a w, Q (.panic c) (a.put oi.dst v) w → Q (.panic c) a w) :
  ∀ (fuel : Nat) (listed : Array Bool) (a : Act) (w : World),
   (∀ j oj, ops[j]? = some oj → j ≠ i → listed.getD j true = false → (∀ e ∈ oj.after, Region.binds .any e = true → e.on ≠ i) → oi.apart ops oj = true) →
   i ∈ Region.ready .any ops listed → YieldsIf P ops S oi v a → S w →
   wpAnyD P ops Q S late fuel (listed.setIfInBounds i true) (a.put oi.dst v) w → wpAnyD P ops Q S late (fuel + 1) listed a w := by
 intro fuel
 induction fuel with
 | zero =>
  intro listed a w _ hr hy hS H
  refine ⟨fun h => (by rw [h] at hr; cases hr), fun j hj => ?_⟩
  by_cases hji : j = i
  ·subst hji; exact hy.wpOp hi hS ⟨fun _ h => h, H⟩
  ·have := ready_mono hj hji
   rw [H.1] at this
   cases this
 | succ fuel ih =>
  intro listed a w hfree hr hy hS H
  refine ⟨fun h => (by rw [h] at hr; cases hr), fun j hj => ?_⟩
  by_cases hji : j = i
  ·subst hji; exact hy.wpOp hi hS ⟨fun _ h => h, H⟩
  ·have hjL : late j = false := by
    cases hl : late j with
    | false => rfl
    | true => exact (unlisted_not (mem_ready.1 hr).1 (late_listed hw hl hj)).elim
   have h1 := H.2 j (ready_mono hj hji)
   obtain ⟨hjun, oj, hoj, hall⟩ := mem_ready.1 hj
   have hnot : ∀ e ∈ oj.after, Region.binds .any e = true → e.on ≠ i := fun e he hb heq => by
    have h1 := hall e he hb
    rw [heq] at h1
    exact unlisted_not (mem_ready.1 hr).1 h1
   have h2 := wpOp_putIf hoj (hfree j oj hoj hji hjun hnot) (fun cs b => hsel i oi cs b hi) (fun cs b => hsel j oj cs b hoj) hQ hy h1
   have hfree' : ∀ k ok, ops[k]? = some ok → k ≠ i → (listed.setIfInBounds j true).getD k true = false →
     (∀ e ∈ ok.after, Region.binds .any e = true → e.on ≠ i) → oi.apart ops ok = true := fun k ok hk hki hun hno => by
    refine hfree k ok hk hki ?_ hno
    by_cases hjk : j = k
    ·subst hjk; exact hjun
    ·rw [getD_set_ne true hjk] at hun; exact hun
   refine wpOp_mono (fun a' w' h3 => ⟨h3.2.1, ih (listed.setIfInBounds j true) a' w' hfree' (ready_mono hr (Ne.symm hji)) h3.1 (h3.2.1 hjL hS) ?_⟩) h2
   rw [Array.setIfInBounds_comm _ _ hji]
   exact h3.2.2
/-- An operation that yields in every world. -/
theorem wpAnyD_firstW {i : Nat} {oi : Oper} {v : Value} (hi : ops[i]? = some oi) (hsel : ∀ (j : Nat) (o : Oper) cs b, ops[j]? = some o → o.op ≠ .select cs b)
  (hQ : ∀ c a w, Q (.panic c) (a.put oi.dst v) w → Q (.panic c) a w) :
  ∀ (fuel : Nat) (listed : Array Bool) (a : Act) (w : World),
   (∀ j oj, ops[j]? = some oj → j ≠ i → listed.getD j true = false → (∀ e ∈ oj.after, Region.binds .any e = true → e.on ≠ i) → oi.apart ops oj = true) →
   i ∈ Region.ready .any ops listed → YieldsIf P ops (fun _ => True) oi v a →
   wpAnyD P ops Q S late fuel (listed.setIfInBounds i true) (a.put oi.dst v) w → wpAnyD P ops Q S late (fuel + 1) listed a w := by
 intro fuel
 induction fuel with
 | zero =>
  intro listed a w _ hr hy H
  refine ⟨fun h => (by rw [h] at hr; cases hr), fun j hj => ?_⟩
  by_cases hji : j = i
  ·subst hji; exact hy.wpOp hi trivial ⟨fun _ h => h, H⟩
  ·have := ready_mono hj hji
   rw [H.1] at this
   cases this
 | succ fuel ih =>
  intro listed a w hfree hr hy H
  refine ⟨fun h => (by rw [h] at hr; cases hr), fun j hj => ?_⟩
  by_cases hji : j = i
  ·subst hji; exact hy.wpOp hi trivial ⟨fun _ h => h, H⟩
  ·have h1 := H.2 j (ready_mono hj hji)
   obtain ⟨hjun, oj, hoj, hall⟩ := mem_ready.1 hj
   have hnot : ∀ e ∈ oj.after, Region.binds .any e = true → e.on ≠ i := fun e he hb heq => by
    have h1 := hall e he hb
    rw [heq] at h1
    exact unlisted_not (mem_ready.1 hr).1 h1
   have h2 := wpOp_putIf (S := fun _ => True) hoj (hfree j oj hoj hji hjun hnot) (fun cs b => hsel i oi cs b hi) (fun cs b => hsel j oj cs b hoj) hQ hy h1
   have hfree' : ∀ k ok, ops[k]? = some ok → k ≠ i → (listed.setIfInBounds j true).getD k true = false →
     (∀ e ∈ ok.after, Region.binds .any e = true → e.on ≠ i) → oi.apart ops ok = true := fun k ok hk hki hun hno => by
    refine hfree k ok hk hki ?_ hno
    by_cases hjk : j = k
    ·subst hjk; exact hjun
    ·rw [getD_set_ne true hjk] at hun; exact hun
   refine wpOp_mono (fun a' w' h3 => ⟨h3.2.1, ih (listed.setIfInBounds j true) a' w' hfree' (ready_mono hr (Ne.symm hji)) h3.1 ?_⟩) h2
   rw [Array.setIfInBounds_comm _ _ hji]
   exact h3.2.2
theorem wpAnyD_take (i : Nat) {oi : Oper} {v : Value} {fuel : Nat} {listed : Array Bool} {a : Act} {w : World} (hr : (Region.ready .any ops listed).contains i = true) (hw : waitsB ops late i = true) (hi : ops.toList[i]? = some oi)
  (hs : Region.noSelect ops = true) (hf : Region.free .any ops listed i = true)
  (hQ : ∀ c a w, Q (.panic c) (a.put oi.dst v) w → Q (.panic c) a w) (hy : YieldsIf P ops S oi v a) (hS : S w)
  (h : wpAnyD P ops Q S late fuel (listed.setIfInBounds i true) (a.put oi.dst v) w) : wpAnyD P ops Q S late (fuel + 1) listed a w :=
 wpAnyD_first hw (by simpa using hi) (Region.noSelect_spec hs) hQ fuel listed a w (Region.free_spec (by simpa using hi) hf) (by simpa using hr) hy hS h
theorem wpAnyD_takeW (i : Nat) {oi : Oper} {v : Value} {fuel : Nat} {listed : Array Bool} {a : Act} {w : World} (hr : (Region.ready .any ops listed).contains i = true) (hi : ops.toList[i]? = some oi)
  (hs : Region.noSelect ops = true) (hf : Region.free .any ops listed i = true)
  (hQ : ∀ c a w, Q (.panic c) (a.put oi.dst v) w → Q (.panic c) a w) (hy : YieldsIf P ops (fun _ => True) oi v a)
  (h : wpAnyD P ops Q S late fuel (listed.setIfInBounds i true) (a.put oi.dst v) w) : wpAnyD P ops Q S late (fuel + 1) listed a w :=
 wpAnyD_firstW (by simpa using hi) (Region.noSelect_spec hs) hQ fuel listed a w (Region.free_spec (by simpa using hi) hf) (by simpa using hr) hy h
theorem tkD (i : Nat) {oi : Oper} {v : Value} {fuel : Nat} {listed : Array Bool} {a : Act} {w : World} (hi : ops.toList[i]? = some oi) (hrun : ∀ w, S w → (execOp a.eval oi).run P w = .ok (.value v) w)
  (h : wpAnyD P ops Q S late fuel (listed.setIfInBounds i true) (a.put oi.dst v) w) (hr : (Region.ready .any ops listed).contains i = true := by kernel_rfl) (hs : Region.noSelect ops = true := by kernel_rfl) (hf : Region.free .any ops listed i = true := by kernel_rfl) (hQ : ∀ c a w, Q (.panic c) (a.put oi.dst v) w → Q (.panic c) a w := by exact fun _ _ _ h => h) (hw : Region.wanted oi (yielded ops a.tmps) = true := by rfl) (hwt : waitsB ops late i = true := by kernel_rfl) (hS : S w := by assumption) : wpAnyD P ops Q S late (fuel + 1) listed a w :=
 wpAnyD_take i hr hwt hi hs hf hQ (Or.inl ⟨hw, hrun⟩) hS h
theorem tkW (i : Nat) {oi : Oper} {v : Value} {fuel : Nat} {listed : Array Bool} {a : Act} {w : World} (hi : ops.toList[i]? = some oi) (hrun : ∀ w, True → (execOp a.eval oi).run P w = .ok (.value v) w)
  (h : wpAnyD P ops Q S late fuel (listed.setIfInBounds i true) (a.put oi.dst v) w) (hr : (Region.ready .any ops listed).contains i = true := by kernel_rfl) (hs : Region.noSelect ops = true := by kernel_rfl) (hf : Region.free .any ops listed i = true := by kernel_rfl) (hQ : ∀ c a w, Q (.panic c) (a.put oi.dst v) w → Q (.panic c) a w := by exact fun _ _ _ h => h) (hw : Region.wanted oi (yielded ops a.tmps) = true := by rfl) : wpAnyD P ops Q S late (fuel + 1) listed a w :=
 wpAnyD_takeW i hr hi hs hf hQ (Or.inl ⟨hw, hrun⟩) h
/-- The one operation that may come up; it is late. -/
theorem wpAnyD_step (i : Nat) {o : Oper} {fuel : Nat} {listed : Array Bool} {a : Act} {w : World} (hr : Region.ready .any ops listed = [i]) (hl : late i = true) (ho : ops.toList[i]? = some o)
  (h : ∀ K' : Act → World → Prop, Shut (∀ a w, wpAnyD P ops Q S late fuel (listed.setIfInBounds i true) a w → K' a w) → if Region.wanted o (yielded ops a.tmps) = true then Oper.wp P o a w K' Q else K' (a.put o.dst undef) w) :
  wpAnyD P ops Q S late (fuel + 1) listed a w := by
 refine ⟨fun h0 => (by rw [hr] at h0; cases h0), fun j hj => ?_⟩
 rw [hr] at hj
 obtain rfl : j = i := by simpa using hj
 exact wpOp_step (by simpa using ho) (fun K' hK => h K' (fun a w hW => hK a w ⟨fun h => (by rw [hl] at h; cases h), hW⟩))
theorem wpAnyD_end {fuel : Nat} {listed : Array Bool} {a : Act} {w : World} (hr : Region.ready .any ops listed = []) (h : Q .normal a w) : wpAnyD P ops Q S late fuel listed a w := by
 cases fuel with
 | zero => exact ⟨hr, h⟩
 | succ fuel => exact ⟨fun _ => h, by rw [hr]; simp⟩
theorem wp_region_late {id : Nat} {a : Act} {w : World} (S : World → Prop) (late : Nat → Bool) (hm : P.follows .mixedOrders = true) (hS : S w.drew)
  (h : S w.drew → wpAnyD P ops Q S late ops.size (Array.replicate ops.size false) a w.drew) : (Code.region id ops true).wp P Q a w :=
 wp_region_any hm (wpAny_of_D _ _ _ _ (h hS))
/-- The one operation that may come up; S is shown again behind it. -/
theorem wpAnyD_keep (i : Nat) {o : Oper} {fuel : Nat} {listed : Array Bool} {a : Act} {w : World} (hr : Region.ready .any ops listed = [i]) (ho : ops.toList[i]? = some o)
  (h : ∀ K' : Act → World → Prop, Shut (∀ a w, S w → (S w → wpAnyD P ops Q S late fuel (listed.setIfInBounds i true) a w) → K' a w) → if Region.wanted o (yielded ops a.tmps) = true then Oper.wp P o a w K' Q else K' (a.put o.dst undef) w) :
  wpAnyD P ops Q S late (fuel + 1) listed a w := by
 refine ⟨fun h0 => (by rw [hr] at h0; cases h0), fun j hj => ?_⟩
 rw [hr] at hj
 obtain rfl : j = i := by simpa using hj
 exact wpOp_step (by simpa using ho) (fun K' hK => h K' (fun a w hS hW => hK a w ⟨fun _ _ => hS, hW hS⟩))
end
end Go
/- Walks: a queue of jobs: a job is appended. -/
namespace Go
open Go.RowKit Go.Shelf
/-- append to a row of greater elements: where the new row lies. -/
theorem run_append_freshS {P : Program} (w : World) (base : Nat) (t ty e : TypeId) (i : TypeInfo) (z : Value) (size bytes : Nat) (ht : P.underlying t = some (.slice e)) (hi : P.info? e = some i) (hz : i.zero = some z)
  (hsize : i.size = size) (hby : i.bytes = bytes) (hzs : z.cells.size = size) (hsz : 0 < size)
  (v : Value) (n : Nat) (xs : List Value) (hown : w.owns base e size v n xs)
  (a : Addr) (m c : Nat) (news : List Value) (hl : news.length = m * size) (hnews : ∀ j u, news[j]? = some u → w.cell? (a.add j) = some u) (h1 : ∀ u ∈ news, u.oneCell' = true)
  (h63 : n + m ≤ maxLen) (hbytes : (n + m) * bytes ≤ 140737488355328) (hbase : base ≤ w.heap.size) :
  ∃ v' w', (Builtin.append_ #[t, t] ty #[v, .slice (some a) m c]).run P w = .ok v' w' ∧ w'.owns base e size v' (n + m) (xs ++ news) ∧ w.grownBy w' v.ownBlock ∧ (v'.ownBlock = v.ownBlock ∨ ∀ k, v'.ownBlock = some k → w.heap.size ≤ k) := by
 rcases hown.2 with ⟨rfl, rfl⟩ | ⟨g, cap, cur, fz, rfl, hbg, hg, hfz, hnc, hcm, hcs, htake⟩
 ·have hxs : xs = [] := List.eq_nil_of_length_eq_zero (by simpa using hown.1)
  subst hxs
  obtain ⟨v', w', h1, h2, h3, h4⟩ := run_append_owns (P := P) w w.heap.size t ty e i z size bytes ht hi hz hsize hby hzs hsz (.slice none 0 0) 0 [] (World.owns_nil _ _ _ _) a m c news hl hnews h1 h63 hbytes (Nat.le_refl _)
  exact ⟨v', w', h1, h2.mono hbase, h3, .inr (fun k hk => (h2.lt k hk).1)⟩
 ·subst hsize
  subst hby
  have hsmall : n + m ≤ 9223372036854775807 := by simp only [maxLen] at h63; omega
  by_cases hroom : n + m ≤ cap
  ·have hfit : n * i.size + news.length ≤ cur.size := by rw [hl, hcs, ← Nat.add_mul]; exact Nat.mul_le_mul_right _ hroom
   have hr := run_append_room_fz (P := P) w t ty e i ht hi g n cap cur fz hg hfz a m c news hl hnews h1 hroom hfit
   obtain ⟨v', w', k1, k2, k3, k4⟩ := run_append_owns (P := P) w base t ty e i z i.size i.bytes ht hi hz rfl rfl hzs hsz _ n xs hown a m c news hl hnews h1 h63 hbytes hbase
   refine ⟨v', w', k1, k2, k3, .inl ?_⟩
   rw [hr] at k1
   injection k1 with e1 _
   rw [← e1]; rfl
  ·have holds : ∀ j u, xs[j]? = some u → w.cell? ((⟨g, 0, none⟩ : Addr).add j) = some u := hown.cells (g := g) rfl
   have hr := run_append_grow (P := P) w t ty e i z ht hi hz ⟨g, 0, none⟩ n cap xs hown.1 holds a m c news hl hnews (by omega) (by omega) (growslice_fits (by omega) hbytes)
   obtain ⟨v', w', k1, k2, k3, k4⟩ := run_append_owns (P := P) w base t ty e i z i.size i.bytes ht hi hz rfl rfl hzs hsz _ n xs hown a m c news hl hnews h1 h63 hbytes hbase
   refine ⟨v', w', k1, k2, k3, .inr fun k hk => ?_⟩
   rw [hr] at k1
   injection k1 with e1 _
   rw [← e1] at hk
   simp [Value.ownBlock] at hk
   omega
end Go
namespace Go.Proofs.YtoggmplkbiidhaaGreatDoor
section
open Go.RowKit Go.Shelf
theorem infoJob3 : (Tryz.prog.info? 48).map (fun i => (i.zero, i.size, i.bytes)) = some (some jobZero, 9, 112) := by kernel_rfl
/-- A row's block is the same, or new. -/
def Moved (w : World) (v v' : Value) : Prop := v'.ownBlock = v.ownBlock ∨ ∀ k, v'.ownBlock = some k → w.heap.size ≤ k
/-- A job lies in a block of its own. -/
def BoxAt (w : World) (b : Nat) (j : Jb) : Prop := w.heap[b]? = some (.cells j.cells.toArray 48)
theorem BoxAt.cell {w : World} {b i : Nat} {j : Jb} {u : Value} (h : BoxAt w b j) (hu : j.cells[i]? = some u) : w.cell? ⟨b, i, none⟩ = some u ∧ w.frozen? ⟨b, i, none⟩ = false := by
 unfold BoxAt at h
 simp [World.cell?, World.frozen?, h, hu]
/-- 'append(s, j)': the new job lies in a block of its own; the slice may grow. -/
theorem run_append9 (W : World) (B n g : Nat) (ty : TypeId) (v : Value) (xs : List Value) (j : Jb) (c : Nat) (hown : W.owns B 48 9 v n xs) (hg : BoxAt W g j) (hn : n ≤ 100000) (hB : B ≤ W.heap.size) :
  ∃ v' w', (Builtin.append_ #[52, 52] ty #[v, .slice (some ⟨g, 0, none⟩) 1 c]).run Tryz.prog W = .ok v' w' ∧ w'.owns B 48 9 v' (n + 1) (xs ++ j.cells) ∧ W.grownBy w' v.ownBlock ∧ Moved W v v' := by
 obtain ⟨i0, hi0, hi1, hi2, hi3⟩ : ∃ i0, Tryz.prog.info? 48 = some i0 ∧ i0.zero = some jobZero ∧ i0.size = 9 ∧ i0.bytes = 112 := by
  have := infoJob3
  cases h : Tryz.prog.info? 48 with
  | none => rw [h] at this; cases this
  | some i0 => rw [h] at this; simp at this; exact ⟨i0, rfl, this.1, this.2.1, this.2.2⟩
 exact run_append_freshS (P := Tryz.prog) W B 52 ty 48 i0 jobZero 9 112 Tryz.underlying52 hi0 hi1 hi2 hi3 rfl (by decide) v n xs hown ⟨g, 0, none⟩ 1 c j.cells rfl
  (fun i u hu => by rw [addr_add, Nat.zero_add]; exact (hg.cell hu).1)
  (by unfold Jb.cells strV; intro u hu; simp only [List.mem_cons, List.not_mem_nil, or_false] at hu; rcases hu with rfl | rfl | rfl | rfl | rfl | rfl | rfl | rfl | rfl <;> rfl) (by unfold maxLen; omega) (by omega) hB
theorem step_append9 {w : World} {ops : Array Oper} {o : Oper} {a : Act} {K : Act → World → Prop} {Q : Exit → Act → World → Prop} {E : Prop} (hgd : o.guard = none) (s x : Operand)
  (ho : o.op = .call { callee := .builtin .append, args := #[s, x], argTypes := #[52, 52] })
  (B n g c : Nat) (v : Value) (xs : List Value) (j : Jb) (hs : a.eval s = v) (hx : a.eval x = .slice (some ⟨g, 0, none⟩) 1 c) (hown : w.owns B 48 9 v n xs) (hg : BoxAt w g j) (hn : n ≤ 100000) (hB : B ≤ w.heap.size)
  (h : ∀ v' w', w'.owns B 48 9 v' (n + 1) (xs ++ j.cells) → w.grownBy w' v.ownBlock → Moved w v v' → K (a.put o.dst v') w') :
  if Region.wanted o (yielded ops a.tmps) = true then Oper.wp Tryz.prog o a w K Q else E := by
 have hw : Region.wanted o (yielded ops a.tmps) = true := by simp [Region.wanted, hgd]
 rw [if_pos hw]
 obtain ⟨v', w', hr, h2, h3, h4⟩ := run_append9 w B n g o.type v xs j c hown hg hn hB
 unfold Oper.wp execOp
 simp only [ho, resolve, invoke, builtin, Sem.run_bind, Sem.run_pure, Result.andThen_ok, List.map_toArray, List.map_cons, List.map_nil, hs, hx, hr]
 exact h v' w' h2 h3 h4
end
/- Walks: a queue of jobs: is it none, or down? -/
section
open Go.RowKit Go.Shelf
theorem shut_any (p d : Nat) (v : Value) (last : Int) (down : Bool) (w : World) (h : QueueAt w p (.pointer (some ⟨d, 0, none⟩)) v last down) : Calls Tryz.prog 51 #[.pointer (some ⟨p, 0, none⟩)] w fun e w' => e = .returned (.int .i64 (if down = true then 9 else 0)) ∧ w' = w := by
 obtain ⟨k0, -, -, k3, -, -, -⟩ := h.cells
 cases down
 ·go_enter Tryz.func51, Tryz.ntmps51
  go_wp2
  go_ret
  exact ⟨rfl, rfl⟩
 ·go_enter Tryz.func51, Tryz.ntmps51
  go_wp2
  go_ret
  exact ⟨rfl, rfl⟩
end
/- Walks: a queue of jobs: texts are written. -/
section
open Go.RowKit Go.Shelf
theorem jtext_any (s : List UInt8) (hs : s.length ≤ 1000000) (w : World) : Calls Tryz.prog 58 #[strV s] w fun e w' => e = .returned (strV (textB s)) ∧ Below w.heap.size w w' := by
 have a3 := bytesOf_append
 have hz : (bytesOf s).size = s.length := bytesOf_size s
 have z4 : (bytesOf (numB s.length 4)).size = 4 := numB_length _ _
 have c1 : ¬ 9223372036854775807 < 4 + s.length := by omega
 have HN := Lib.hid (jnumber_any s.length 4 (by omega) (by omega) w)
 unfold strV textB
 go_enter Tryz.func58, Tryz.ntmps58
 go_wp2_with fail
 refine (show Calls Tryz.prog 102 #[.int .i64 (s.length : Int), .int .i64 4] w _ from HN.out).mono ?_
 rintro e w1 ⟨rfl, hb1⟩
 go_wp2_with fail
 go_ret
 exact ⟨rfl, hb1⟩
end
/- Walks: a queue of jobs: the beginning of a record is written. -/
section
open Go.RowKit Go.Shelf
theorem record_any (k n : Nat) (hk : k < 256) (hn : n < 9223372036854775808) (w : World) : Calls Tryz.prog 56 #[.int .u8 (k : Int), .int .i64 (n : Int)] w fun e w' => e = .returned (strV (recB k n)) ∧ Below w.heap.size w w' := by
 have a3 := bytesOf_append
 have z4 : (bytesOf (numB n 8)).size = 8 := numB_length _ _
 have HN := Lib.hid (fun W => jnumber_any n 8 hn (by omega) W)
 have hkb : (.int .u8 (k : Int) : Value) = byteV (UInt8.ofNat k) := by unfold byteV; rw [UInt8.toNat_ofNat', Nat.mod_eq_of_lt (by omega)]
 have hcv : ∀ (W : World) (b : Nat), W.heap[b]? = some (.cells #[.int .u8 (k : Int)] 5) → (convert 54 9 (.slice (some ⟨b, 0, none⟩) 1 1)).run Tryz.prog W = .ok (.string (bytesOf [UInt8.ofNat k])) W := fun W b h => by
  rw [hkb] at h
  exact HalfAt.text (h := [UInt8.ofNat k]) ⟨_, h⟩ 0 1 (by simp) 1
 have hcv0 : ∀ W : World, (convert 54 9 (.slice (some ⟨W.heap.size, 0, none⟩) 1 1)).run Tryz.prog (W.alloc (.cells #[.int .u8 (k : Int)] 5)).drew = .ok (.string (bytesOf [UInt8.ofNat k])) (W.alloc (.cells #[.int .u8 (k : Int)] 5)).drew := fun W => hcv _ _ (alloc_last _ _ rfl)
 have hcv1 : ∀ W : World, (convert 54 9 (.slice (some ⟨W.heap.size, 0, none⟩) 1 1)).run Tryz.prog (W.alloc (.cells #[.int .u8 (k : Int)] 5)) = .ok (.string (bytesOf [UInt8.ofNat k])) (W.alloc (.cells #[.int .u8 (k : Int)] 5)) := fun W => hcv _ _ (alloc_last _ _ rfl)
 have HCV := Lib.hid hcv
 clear hcv hkb
 have HA : Hid (Below w.heap.size w (w.alloc (.cells #[.int .u8 (k : Int)] 5)).drew) := ((Below.refl _ w).alloc (Nat.le_refl _) _).drew
 unfold strV recB
 go_enter Tryz.func56, Tryz.ntmps56
 go_upto_region 1 with (fail)
 go_region_with (go_at_call 102; refine (show Calls Tryz.prog 102 #[.int .i64 (n : Int), .int .i64 8] _ _ from HN.out _).mono ?_; rintro e w1 ⟨rfl, hb1⟩; (try have hcv2 := HCV.out w1 w.heap.size ((hb1.block _ (by simp)).trans (alloc_last w _ rfl))))
 all_goals simp only [List.getElem_toArray, List.getElem_cons_succ, List.getElem_cons_zero, Act.put, List.setIfInBounds_toArray, List.set_cons_succ, List.set_cons_zero]
 all_goals go_wp2
 all_goals go_ret
 ·exact ⟨rfl, HA.out.trans (hb1.mono HA.out.size)⟩
 ·exact ⟨rfl, HA.out.trans (hb1.mono HA.out.size)⟩
 ·exact ⟨rfl, ((Below.refl _ w).drew.trans hb1).alloc hb1.size _⟩
end
/- Walks: a queue of jobs: whole records are written. -/
section
open Go.RowKit Go.Shelf
theorem recB_length (k id : Nat) : (recB k id).length = 9 := by unfold recB; rw [List.length_cons, numB_length]
theorem textB_length (s : List UInt8) : (textB s).length = 4 + s.length := by unfold textB; rw [List.length_append, numB_length]
theorem over_any (id st : Nat) (r : List UInt8) (hid : id < 9223372036854775808) (hst : st < 256) (hr : r.length ≤ 1000000) (w : World) :
  Calls Tryz.prog 103 #[.int .i64 (id : Int), .int .i64 (st : Int), strV r] w fun e w' => e = .returned (strV (overB id st r)) ∧ Below w.heap.size w w' := by
 have a3 := bytesOf_append
 have HRC := Lib.hid (record_any 4 id (by omega) hid)
 have HNM := Lib.hid (jnumber_any st 1 (by omega) (by omega))
 have HTX := Lib.hid (jtext_any r hr)
 have e0 : overB id st r = recB 4 id ++ numB st 1 ++ textB r := rfl
 rw [e0]
 have z1 : (bytesOf (recB 4 id)).size = 9 := recB_length 4 id
 have z2 : (bytesOf (numB st 1)).size = 1 := numB_length st 1
 have z3 : (bytesOf (textB r)).size = 4 + r.length := textB_length r
 have z4 : (bytesOf (recB 4 id ++ numB st 1)).size = 10 := by rw [bytesOf_size, List.length_append, recB_length, numB_length]
 generalize recB 4 id = R1 at HRC z1 z4 ⊢
 generalize numB st 1 = R2 at HNM z2 z4 ⊢
 generalize textB r = R3 at HTX z3 ⊢
 have c1 : ¬ 9223372036854775807 < 10 + (4 + r.length) := by omega
 unfold strV at HRC HTX ⊢
 clear e0
 go_enter Tryz.func103, Tryz.ntmps103
 go_wp2_with fail
 refine (show Calls Tryz.prog 56 #[.int .u8 4, .int .i64 (id : Int)] w _ from HRC.out w).mono ?_
 rintro e w1 ⟨rfl, hb1⟩
 go_wp2_with fail
 refine (show Calls Tryz.prog 102 #[.int .i64 (st : Int), .int .i64 1] w1 _ from HNM.out w1).mono ?_
 rintro e w2 ⟨rfl, hb2⟩
 go_wp2_with fail
 refine (HTX.out w2).mono ?_
 rintro e w3 ⟨rfl, hb3⟩
 have hb := (hb1.trans (hb2.mono hb1.size)).trans (hb3.mono (Nat.le_trans hb1.size hb2.size))
 clear hb1 hb2 hb3
 go_wp2_with fail
 go_ret
 exact ⟨by rw [List.append_assoc]; rfl, hb⟩
/-- A job in its box reads as before. -/
theorem BoxAt.below {w w' : World} {b : Nat} {j : Jb} (h : BoxAt w b j) (hb : Below w.heap.size w w') : BoxAt w' b j := (hb.block b (lt_of_heap h)).trans h
def JobHeld (b : Nat) (j : Jb) (w : World) : Prop := w.cell? ⟨b, 0, none⟩ = some (.int .i64 j.id) ∧ w.cell? ⟨b, 1, none⟩ = some (.string (bytesOf j.client)) ∧ w.cell? ⟨b, 2, none⟩ = some (.string (bytesOf j.token)) ∧ w.cell? ⟨b, 3, none⟩ = some (.int .i64 j.prio) ∧ w.cell? ⟨b, 6, none⟩ = some (.string (bytesOf j.work))
theorem BoxAt.held {w : World} {b : Nat} {j : Jb} (h : BoxAt w b j) : JobHeld b j w := ⟨(h.cell (i := 0) rfl).1, (h.cell (i := 1) rfl).1, (h.cell (i := 2) rfl).1, (h.cell (i := 3) rfl).1, (h.cell (i := 6) rfl).1⟩
theorem submitted_any (j : Jb) (hid : j.id < 9223372036854775808) (hp : j.prio < 256) (hc : j.client.length ≤ 1000000) (ht : j.token.length ≤ 1000000) (hk : j.work.length ≤ 1000000) (w : World) :
  Calls Tryz.prog 55 #[j.val] w fun e w' => e = .returned (strV (subB j)) ∧ Below w.heap.size w w' := by
 have a3 := bytesOf_append
 have HRC := Lib.hid (record_any 1 j.id (by omega) hid)
 have HNM := Lib.hid (jnumber_any j.prio 1 (by omega) (by omega))
 have HT1 := Lib.hid (jtext_any j.client hc)
 have HT2 := Lib.hid (jtext_any j.token ht)
 have HT3 := Lib.hid (jtext_any j.work hk)
 have e0 : subB j = recB 1 j.id ++ numB j.prio 1 ++ textB j.client ++ textB j.token ++ textB j.work := rfl
 rw [e0]
 have z1 : (bytesOf (recB 1 j.id)).size = 9 := recB_length 1 j.id
 have z2 : (bytesOf (numB j.prio 1)).size = 1 := numB_length j.prio 1
 have z3 : (bytesOf (textB j.client)).size = 4 + j.client.length := textB_length j.client
 have z4 : (bytesOf (textB j.token)).size = 4 + j.token.length := textB_length j.token
 have z5 : (bytesOf (textB j.work)).size = 4 + j.work.length := textB_length j.work
 generalize recB 1 j.id = R1 at HRC z1 ⊢
 generalize numB j.prio 1 = R2 at HNM z2 ⊢
 generalize textB j.client = R3 at HT1 z3 ⊢
 generalize textB j.token = R4 at HT2 z4 ⊢
 generalize textB j.work = R5 at HT3 z5 ⊢
 obtain ⟨n3, hn3⟩ : ∃ n, n = 4 + j.client.length := ⟨_, rfl⟩
 obtain ⟨n4, hn4⟩ : ∃ n, n = 4 + j.token.length := ⟨_, rfl⟩
 obtain ⟨n5, hn5⟩ : ∃ n, n = 4 + j.work.length := ⟨_, rfl⟩
 rw [← hn3] at z3
 rw [← hn4] at z4
 rw [← hn5] at z5
 have y1 : (bytesOf (R1 ++ R2)).size = 10 := by rw [bytesOf_size] at *; rw [List.length_append]; omega
 have y2 : (bytesOf (R1 ++ (R2 ++ R3))).size = 10 + n3 := by rw [bytesOf_size] at *; rw [List.length_append, List.length_append]; omega
 have y3 : (bytesOf (R1 ++ (R2 ++ (R3 ++ R4)))).size = 10 + n3 + n4 := by rw [bytesOf_size] at *; simp only [List.length_append]; omega
 have c1 : ¬ 9223372036854775807 < 10 + n3 := by omega
 have c2 : ¬ 9223372036854775807 < 10 + n3 + n4 := by omega
 have c3 : ¬ 9223372036854775807 < 10 + n3 + n4 + n5 := by omega
 clear hn3 hn4 hn5 hc ht hk e0
 obtain ⟨W1, hW1⟩ : ∃ W, W = w.alloc (.cells j.cells.toArray 48) := ⟨_, rfl⟩
 have bx1 : BoxAt W1 w.heap.size j := by rw [hW1]; exact alloc_last _ _ rfl
 have hb1 : Below w.heap.size w W1 := by rw [hW1]; exact (Below.refl _ w).alloc (Nat.le_refl _) _
 have HW1 := Lib.hid hW1
 have HB1 := Lib.hid hb1
 clear hW1 hb1
 unfold Jb.val Jb.cells at *
 unfold strV at *
 obtain ⟨b, hb⟩ : ∃ b, b = w.heap.size := ⟨_, rfl⟩
 rw [← hb] at bx1
 have HBW := Lib.hid hb
 have HBX := Lib.hid bx1
 clear bx1 hb
 go_enter Tryz.func55, Tryz.ntmps55
 go_upto_region 1 with (fail)
 rw [← HW1.out, ← HBW.out]
 clear HW1 HBW
 refine wp_region_heldL (fun w' => w'.cell? ⟨b, 0, none⟩ = some (.int .i64 j.id) ∧ w'.cell? ⟨b, 1, none⟩ = some (.string (bytesOf j.client)) ∧ w'.cell? ⟨b, 2, none⟩ = some (.string (bytesOf j.token)) ∧ w'.cell? ⟨b, 3, none⟩ = some (.int .i64 j.prio) ∧ w'.cell? ⟨b, 6, none⟩ = some (.string (bytesOf j.work))) (by kernel_rfl) HBX.out.held (fun hS => ?_)
 refine tkH 0 (v := ?_) rfl ?_ ?_
 rotate_left
 ·(intro wq hSq; (try dsimp only at hSq); go_simp; try with_reducible rfl)
 try simp only [q0P, q0Q, q0R, q0S]
 refine tkH 1 (v := ?_) rfl ?_ ?_
 rotate_left
 ·(intro wq hSq; (try dsimp only at hSq); go_simp; try with_reducible rfl)
 try simp only [q0P, q0Q, q0R, q0S]
 refine tkH 3 (v := ?_) rfl ?_ ?_
 rotate_left
 ·(intro wq hSq; (try dsimp only at hSq); go_simp; try with_reducible rfl)
 try simp only [q0P, q0Q, q0R, q0S]
 refine tkH 4 (v := ?_) rfl ?_ ?_
 rotate_left
 ·(intro wq hSq; (try dsimp only at hSq); go_simp; try with_reducible rfl)
 try simp only [q0P, q0Q, q0R, q0S]
 refine tkH 7 (v := ?_) rfl ?_ ?_
 rotate_left
 ·(intro wq hSq; (try dsimp only at hSq); go_simp; try with_reducible rfl)
 try simp only [q0P, q0Q, q0R, q0S]
 refine tkH 8 (v := ?_) rfl ?_ ?_
 rotate_left
 ·(intro wq hSq; (try dsimp only at hSq); go_simp; try with_reducible rfl)
 try simp only [q0P, q0Q, q0R, q0S]
 refine tkH 11 (v := ?_) rfl ?_ ?_
 rotate_left
 ·(intro wq hSq; (try dsimp only at hSq); go_simp; try with_reducible rfl)
 try simp only [q0P, q0Q, q0R, q0S]
 refine tkH 12 (v := ?_) rfl ?_ ?_
 rotate_left
 ·(intro wq hSq; (try dsimp only at hSq); go_simp; try with_reducible rfl)
 try simp only [q0P, q0Q, q0R, q0S]
 refine tkH 15 (v := ?_) rfl ?_ ?_
 rotate_left
 ·(intro wq hSq; (try dsimp only at hSq); go_simp; try with_reducible rfl)
 try simp only [q0P, q0Q, q0R, q0S]
 refine tkH 16 (v := ?_) rfl ?_ ?_
 rotate_left
 ·(intro wq hSq; (try dsimp only at hSq); go_simp; try with_reducible rfl)
 try simp only [q0P, q0Q, q0R, q0S]
 refine wpAnyH_stepL 2 (by kernel_rfl) rfl (fun K hK => ?_)
 go_simp
 go_at_call 56
 refine ((show ∀ W, Calls Tryz.prog 56 #[.int .u8 1, .int .i64 (j.id : Int)] W _ from HRC.out) _).mono ?_
 rintro e wa ⟨rfl, hwa⟩
 have HBwa := Lib.hid ((Below.refl W1.heap.size W1).drew.trans hwa)
 clear hwa
 refine hK.out _ _ (HBX.out.below (HBwa.out)).held (fun hSwa => ?_)
 clear hK K
 try simp only [q0P, q0Q, q0R, q0S]
 refine wpAnyH_stepL 5 (by kernel_rfl) rfl (fun K hK => ?_)
 go_simp
 go_at_call 102
 refine ((show ∀ W, Calls Tryz.prog 102 #[.int .i64 (j.prio : Int), .int .i64 1] W _ from HNM.out) _).mono ?_
 rintro e wb ⟨rfl, hwb⟩
 have HBwb := Lib.hid (HBwa.out.trans (hwb.mono HBwa.out.size))
 clear hwb
 refine hK.out _ _ (HBX.out.below (HBwb.out)).held (fun hSwb => ?_)
 clear hK K
 try simp only [q0P, q0Q, q0R, q0S]
 refine tkH 6 (v := ?_) rfl ?_ ?_
 rotate_left
 ·(intro wq hSq; (try dsimp only at hSq); go_simp; try with_reducible rfl)
 try simp only [q0P, q0Q, q0R, q0S]
 refine wpAnyH_stepL 9 (by kernel_rfl) rfl (fun K hK => ?_)
 go_simp
 go_at_call 58
 refine (HT1.out _).mono ?_
 rintro e wc ⟨rfl, hwc⟩
 have HBwc := Lib.hid (HBwb.out.trans (hwc.mono HBwb.out.size))
 clear hwc
 refine hK.out _ _ (HBX.out.below (HBwc.out)).held (fun hSwc => ?_)
 clear hK K
 try simp only [q0P, q0Q, q0R, q0S]
 refine tkH 10 (v := ?_) rfl ?_ ?_
 rotate_left
 ·(intro wq hSq; (try dsimp only at hSq); go_simp; try with_reducible rfl)
 try simp only [q0P, q0Q, q0R, q0S]
 refine wpAnyH_stepL 13 (by kernel_rfl) rfl (fun K hK => ?_)
 go_simp
 go_at_call 58
 refine (HT2.out _).mono ?_
 rintro e wd ⟨rfl, hwd⟩
 have HBwd := Lib.hid (HBwc.out.trans (hwd.mono HBwc.out.size))
 clear hwd
 refine hK.out _ _ (HBX.out.below (HBwd.out)).held (fun hSwd => ?_)
 clear hK K
 try simp only [q0P, q0Q, q0R, q0S]
 refine tkH 14 (v := ?_) rfl ?_ ?_
 rotate_left
 ·(intro wq hSq; (try dsimp only at hSq); go_simp; try with_reducible rfl)
 try simp only [q0P, q0Q, q0R, q0S]
 refine wpAnyH_stepL 17 (by kernel_rfl) rfl (fun K hK => ?_)
 go_simp
 go_at_call 58
 refine (HT3.out _).mono ?_
 rintro e we ⟨rfl, hwe⟩
 have HBwe := Lib.hid (HBwd.out.trans (hwe.mono HBwd.out.size))
 clear hwe
 refine hK.out _ _ (HBX.out.below (HBwe.out)).held (fun hSwe => ?_)
 clear hK K
 try simp only [q0P, q0Q, q0R, q0S]
 refine tkH 18 (v := ?_) rfl ?_ ?_
 rotate_left
 ·(intro wq hSq; (try dsimp only at hSq); go_simp; try with_reducible rfl)
 try simp only [q0P, q0Q, q0R, q0S]
 refine tkH 19 (v := ?_) rfl ?_ ?_
 rotate_left
 ·(intro wq hSq; (try dsimp only at hSq); go_simp; try with_reducible rfl)
 try simp only [q0P, q0Q, q0R, q0S]
 refine wpAnyH_end (by kernel_rfl) ?_
 go_wp2_with fail
 go_ret
 exact ⟨by simp only [List.append_assoc]; rfl, HB1.out.trans (HBwe.out.mono HB1.out.size)⟩
end
/- Walks: a queue of jobs: the short journal. -/
section
open Go.RowKit Go.Shelf
/-- A text is appended to a row of texts. -/
theorem wpList_pushS {W : World} {ops : Array Oper} {rest : List Oper} {o : Oper} {a : Act} {Q : Exit → Act → World → Prop} (hg : o.guard = none) (s x : Operand)
  (hop : o.op = .call { callee := .builtin .append, args := #[s, x], argTypes := #[70, 70] })
  (B : Nat) (v : Value) (l : List (List UInt8)) (hs : a.eval s = v) (hown : W.owns B 9 1 v l.length (l.map strV)) (t : List UInt8) (H : Nat) (hH : W.heap.size = H) (hx : a.eval x = .slice (some ⟨H, 0, none⟩) 1 1)
  (hl : l.length ≤ 100000) (hB : B ≤ W.heap.size)
  (h : ∀ v' w', w'.owns B 9 1 v' (l ++ [t]).length ((l ++ [t]).map strV) → W.grownBy w' v.ownBlock → wpList Tryz.prog ops Q rest (a.put o.dst v') w') : wpList Tryz.prog ops Q (o :: rest) a (W.alloc (.cells #[.string (bytesOf t)] 9)) := by
 obtain ⟨i0, hi0, hiz, hiz1, hizb⟩ : ∃ i0, Tryz.prog.info? 9 = some i0 ∧ i0.zero = some (.string ByteArray.empty) ∧ i0.size = 1 ∧ i0.bytes = 16 := by
  have := infoStr
  cases h : Tryz.prog.info? 9 with
  | none => rw [h] at this; cases this
  | some i0 => rw [h] at this; simp at this; exact ⟨i0, rfl, this.1, this.2.1, this.2.2⟩
 refine wpList_append1 W hg s x 70 hop B 9 i0 (.string ByteArray.empty) 16 Tryz.underlying70 hi0 hiz hiz1 hizb rfl v l.length (l.map strV) hs hown (strV t) H hH hx rfl (by unfold maxLen; omega) (by omega) hB (fun v' w' h1 _ h3 _ => h v' w' ?_ h3)
 rw [List.length_append, List.map_append]
 exact h1
theorem step_pushS {W : World} {ops : Array Oper} {o : Oper} {a : Act} {K : Act → World → Prop} {Q : Exit → Act → World → Prop} {E : Prop} (hgd : o.guard = none) (s x : Operand)
  (ho : o.op = .call { callee := .builtin .append, args := #[s, x], argTypes := #[70, 70] })
  (B : Nat) (v : Value) (l : List (List UInt8)) (hs : a.eval s = v) (hown : W.owns B 9 1 v l.length (l.map strV)) (t : List UInt8) (H : Nat) (hH : W.heap.size = H) (hx : a.eval x = .slice (some ⟨H, 0, none⟩) 1 1)
  (hl : l.length ≤ 100000) (hB : B ≤ W.heap.size)
  (h : ∀ v' w', w'.owns B 9 1 v' (l ++ [t]).length ((l ++ [t]).map strV) → W.grownBy w' v.ownBlock → K (a.put o.dst v') w') :
  if Region.wanted o (yielded ops a.tmps) = true then Oper.wp Tryz.prog o a (W.alloc (.cells #[.string (bytesOf t)] 9)) K Q else E := by
 obtain ⟨i0, hi0, hiz, hiz1, hizb⟩ : ∃ i0, Tryz.prog.info? 9 = some i0 ∧ i0.zero = some (.string ByteArray.empty) ∧ i0.size = 1 ∧ i0.bytes = 16 := by
  have := infoStr
  cases h : Tryz.prog.info? 9 with
  | none => rw [h] at this; cases this
  | some i0 => rw [h] at this; simp at this; exact ⟨i0, rfl, this.1, this.2.1, this.2.2⟩
 subst hH
 refine step_append_owns _ hgd s x 70 ho B 9 i0 (.string ByteArray.empty) 1 16 Tryz.underlying70 hi0 hiz hiz1 hizb rfl (by decide) v l.length (l.map strV) hs (hown.alloc _) ⟨W.heap.size, 0, none⟩ 1 1 [strV t] hx rfl (news_alloc W [strV t] 9) (by simp; rfl) (by unfold maxLen; omega) (by omega) (by simp; omega) (fun v' w' h1 h3 => h v' w' ?_ (grownBy_trans (World.grownBy_alloc W _ _) h3))
 rw [List.length_append, List.map_append]
 exact h1
/-- What holds while the short journal is made. -/
structure Sh (B p : Nat) (v dp : Value) (last : Int) (down : Bool) (js : List Jb) (w0 : World) (u : Value) (l : List (List UInt8)) (W : World) : Prop where
 (qa : QueueAt W p dp v last down)
 (ja : W.owns 0 48 9 v js.length (jobsL js))
 (pl : p < B)
 (vl : ∀ k, v.ownBlock = some k → k < B)
 (ow : W.owns B 9 1 u l.length (l.map strV))
 (bl : Below B w0 W)
 (le : B ≤ W.heap.size)
theorem Sh.below {B p : Nat} {v dp : Value} {last : Int} {down : Bool} {js : List Jb} {w0 : World} {u : Value} {l : List (List UInt8)} {W W' : World} (h : Sh B p v dp last down js w0 u l W) (hb : Below W.heap.size W W') : Sh B p v dp last down js w0 u l W' :=
 ⟨(hb.block _ (lt_of_heap h.qa)).trans h.qa, h.ja.below hb, h.pl, h.vl, h.ow.below hb, h.bl.trans (hb.mono h.le), Nat.le_trans h.le hb.size⟩
theorem Sh.push {B p : Nat} {v dp : Value} {last : Int} {down : Bool} {js : List Jb} {w0 : World} {u u' : Value} {l l' : List (List UInt8)} {W W' : World} (h : Sh B p v dp last down js w0 u l W)
  (ho : W'.owns B 9 1 u' l'.length (l'.map strV)) (hg : W.grownBy W' u.ownBlock) : Sh B p v dp last down js w0 u' l' W' :=
 ⟨(hg.block _ (lt_of_heap h.qa) (fun e => by have := (h.ow.lt _ e.symm).1; have := h.pl; omega)).trans h.qa, h.ja.kept hg (by
  cases hv : v.ownBlock with
  | none => exact .inl rfl
  | some k => exact .inr (fun e => by have := (h.ow.lt _ e.symm).1; have := h.vl _ hv; omega)), h.pl, h.vl, ho, h.bl.grown hg h.le (fun k hk => (h.ow.lt k hk).1), Nat.le_trans h.le hg.size⟩
theorem BoxAt.push {B : Nat} {W W' : World} {b : Nat} {j : Jb} {u : Value} {l : List (List UInt8)} (h : BoxAt W b j) (ho : W.owns B 9 1 u l.length (l.map strV)) (hg : W.grownBy W' u.ownBlock) : BoxAt W' b j :=
 (hg.block _ (lt_of_heap h) (fun e => World.owns.ne ho h (by decide) e.symm)).trans h
theorem BoxAt.all {w : World} {b : Nat} {j : Jb} (h : BoxAt w b j) : w.cell? ⟨b, 0, none⟩ = some (.int .i64 j.id) ∧ w.cell? ⟨b, 1, none⟩ = some (.string (bytesOf j.client)) ∧ w.cell? ⟨b, 2, none⟩ = some (.string (bytesOf j.token)) ∧ w.cell? ⟨b, 3, none⟩ = some (.int .i64 j.prio) ∧
  w.cell? ⟨b, 4, none⟩ = some (.int .i64 j.state) ∧ w.cell? ⟨b, 5, none⟩ = some (.int .i64 j.tries) ∧ w.cell? ⟨b, 6, none⟩ = some (.string (bytesOf j.work)) ∧ w.cell? ⟨b, 7, none⟩ = some (.string (bytesOf j.point)) ∧ w.cell? ⟨b, 8, none⟩ = some (.string (bytesOf j.result)) :=
 ⟨(h.cell (i := 0) rfl).1, (h.cell (i := 1) rfl).1, (h.cell (i := 2) rfl).1, (h.cell (i := 3) rfl).1, (h.cell (i := 4) rfl).1, (h.cell (i := 5) rfl).1, (h.cell (i := 6) rfl).1, (h.cell (i := 7) rfl).1, (h.cell (i := 8) rfl).1⟩
theorem shortJ_length (j : Jb) (h : j.tries ≤ 8) : (shortJ j).length ≤ 11 := by
 unfold shortJ
 simp only [List.length_cons, List.length_append, List.length_replicate]
 split <;> split <;> simp <;> omega
theorem shorts_length (js : List Jb) (h : ∀ j ∈ js, j.tries ≤ 8) : (js.flatMap shortJ).length ≤ 11 * js.length := by
 induction js with
 | nil => simp
 | cons j js ih =>
  have h1 := shortJ_length j (h j (by simp))
  have h2 := ih (fun x hx => h x (by simp [hx]))
  rw [List.flatMap_cons, List.length_append, List.length_cons]
  omega
theorem short_any (p : Nat) (dp v : Value) (down : Bool) (q : Qs) (w : World) (hq : QueueAt w p dp v q.last down) (hv : JobsAt w v q.jobs) (ho : q.ok) :
  Calls Tryz.prog 81 #[.pointer (some ⟨p, 0, none⟩)] w fun e w' => (∃ u, e = .returned u ∧ w'.owns w.heap.size 9 1 u q.short.length (q.short.map strV)) ∧ Below w.heap.size w w' := by
 have HO := Lib.hid ho
 have hlen := ho.len
 obtain ⟨va, vc, rfl⟩ : ∃ a c, v = .slice a q.jobs.length c := by
  rcases hv.2 with ⟨e, h0⟩ | ⟨g, c, _, _, e, _⟩
  ·exact ⟨none, 0, by rw [e, h0]⟩
  ·exact ⟨_, c, e⟩
 obtain ⟨-, k1, k2, -, -, -, -⟩ := hq.cells
 have S0 : Sh w.heap.size p (.slice va q.jobs.length vc) dp q.last down q.jobs w (.slice none 0 0) [] w :=
  ⟨hq, hv, lt_of_heap hq, fun k hk => (hv.lt k hk).2, World.owns_nil _ _ _ _, Below.refl _ _, Nat.le_refl _⟩
 have HS0 := Lib.hid S0
 obtain ⟨n, hn⟩ : ∃ n, n = q.jobs.length := ⟨_, rfl⟩
 rw [← hn] at hlen k1
 have HN := Lib.hid hn
 rw [← HN.out] at HS0
 clear hq hv S0 hn ho
 go_enter Tryz.func81, Tryz.ntmps81
 go_wp2_with fail
 go_loopw [3, 5, 11] (fun uu _ ii wr => ∃ (k : Nat) (u : Value), k ≤ n ∧ ii = .int .i64 (k : Int) ∧ u = uu ∧ Hid (Sh w.heap.size p (.slice va n vc) dp q.last down q.jobs w u ((q.jobs.take k).flatMap shortJ) wr)) (fun _ _ ii _ => n - (intOf ii).toNat)
 case atStart => exact ⟨0, _, Nat.zero_le _, rfl, rfl, HS0.out⟩
 case round =>
  obtain ⟨k, u, hk, rfl, rfl, hS⟩ := hrel
  by_cases hlt : k < n
  ·obtain ⟨j, hj⟩ : ∃ j, q.jobs[k]? = some j := ⟨_, List.getElem?_eq_getElem (by rw [← HN.out]; exact hlt)⟩
   obtain ⟨g, cap', hgc, hgl, c0, c1, c2, c3, c4, c5, c6, c7, c8⟩ := JobsAt.cells (w := wr) (v := .slice va q.jobs.length vc) (by rw [← HN.out]; exact hS.out.ja) k j hj
   injection hgc with ha hnn hcc
   clear hnn hcc
   subst ha
   have hjo := HO.out.job j (List.mem_of_getElem? hj)
   have HJO := Lib.hid hjo
   have HJ := Lib.hid hj
   obtain ⟨A, hA⟩ : ∃ A, A = (q.jobs.take k).flatMap shortJ := ⟨_, rfl⟩
   rw [← hA] at hS
   have HA := Lib.hid hA
   have hAl : A.length ≤ 1100 := by
    have h1 := shorts_length (q.jobs.take k) (fun j hj => (HO.out.job j (List.mem_of_mem_take hj)).tr)
    rw [← hA, List.length_take] at h1
    omega
   have HAL := Lib.hid hAl
   obtain ⟨b, hb⟩ : ∃ b, b = wr.heap.size := ⟨_, rfl⟩
   obtain ⟨W1, hW1⟩ : ∃ W, W = wr.alloc (.cells j.cells.toArray 48) := ⟨_, rfl⟩
   have hb1 : Below wr.heap.size wr W1 := by rw [hW1]; exact (Below.refl _ wr).alloc (Nat.le_refl _) _
   have bx1 : BoxAt W1 b j := by rw [hW1, hb]; exact alloc_last _ _ rfl
   have HS1 := Lib.hid (hS.out.below hb1)
   have HBX := Lib.hid bx1
   have HW1 := Lib.hid hW1
   have HB := Lib.hid hb
   have HSB := Lib.hid (submitted_any j (by have := hjo.id1; have := HO.out.last; omega) (by have := hjo.prio; omega) (by have := hjo.cl; unfold labelB at this; simp at this; omega) (by have := hjo.tk; unfold labelB at this; simp at this; omega) (by have := hjo.wk; omega))
   clear hS hA hAl hb1 bx1 hW1 hb hj hjo
   unfold strV at HSB c1 c2 c6 c7 c8
   unfold Jb.val Jb.cells strV at HSB
   unfold Jb.cells strV at HW1
   go_upto_region 5 with (fail)
   rw [← HW1.out, ← HB.out]
   clear HW1 HB c0 c1 c2 c3 c4 c5 c6 c7 c8
   obtain ⟨d0, d1, d2, d3, d4, d5, d6, d7, d8⟩ := HBX.out.all
   go_wp2_with fail
   refine (HSB.out W1).mono ?_
   rintro e w2 ⟨rfl, hb2⟩
   have HS2 := Lib.hid (HS1.out.below hb2)
   have HBX2 := Lib.hid (HBX.out.below hb2)
   clear hb2 d0 d1 d2 d3 d4 d5 d6 d7 d8 HS1 HBX HSB
   have htr := HJO.out.tr
   obtain ⟨m, hm⟩ : ∃ m, m = j.tries := ⟨_, rfl⟩
   rw [← hm] at htr
   have HM := Lib.hid hm
   clear hm
   go_wp2_with (at_builtin; refine wpList_pushS rfl (.tmp 15) (.tmp 18) rfl w.heap.size _ A rfl HS2.out.ow (subB j) _ rfl rfl (by have := HAL.out; omega) HS2.out.le ?_; intro v4 w4 ho4 hg4; have HS4 := Lib.hid (HS2.out.push ho4 hg4); have HBX4 := Lib.hid (HBX2.out.push HS2.out.ow hg4); obtain ⟨d0, d1, d2, d3, d4, d5, d6, d7, d8⟩ := HBX4.out.all; rw [← HM.out] at d5; clear ho4 hg4)
   have hA0 : A ++ [subB j] = A ++ subB j :: List.replicate 0 (recB 2 j.id) := rfl
   have HS5 := Lib.hid HS4.out
   rw [hA0] at HS5
   clear hA0 HS4 HS2 HBX2
   have HRC := Lib.hid (record_any 2 j.id (by omega) (by have := HJO.out.id1; have := HO.out.last; omega))
   unfold strV at HRC
   obtain ⟨wo, hwo⟩ : ∃ x, x = w4 := ⟨_, rfl⟩
   subst hwo
   go_wp2_with fail
   go_loopw [3, 22] (fun uu ii wr2 => ∃ (s : Nat) (u2 : Value), s ≤ m ∧ ii = .int .i64 (s : Int) ∧ u2 = uu ∧ Hid (Sh w.heap.size p (.slice (some ⟨g, 0, none⟩) n vc) dp q.last down q.jobs w u2 (A ++ subB j :: List.replicate s (recB 2 j.id)) wr2) ∧ Hid (BoxAt wr2 b j)) (fun _ ii _ => m - (intOf ii).toNat)
   case atStart => exact ⟨0, _, Nat.zero_le _, rfl, rfl, HS5.out, HBX4.out⟩
   case round =>
    obtain ⟨s, u2, hs, rfl, rfl, hS2, hX2⟩ := hrel
    clear d0 d1 d2 d3 d4 d5 d6 d7 d8 HS5 HBX4
    obtain ⟨d0, d1, d2, d3, d4, d5, d6, d7, d8⟩ := hX2.out.all
    rw [← HM.out] at d5
    by_cases hst : s < m
    ·go_wp2_with fail
     refine (show Calls Tryz.prog 56 #[.int .u8 2, .int .i64 (j.id : Int)] _ _ from HRC.out _).mono ?_
     rintro e w5 ⟨rfl, hb5⟩
     have HS6 := Lib.hid (hS2.out.below hb5)
     have HBX6 := Lib.hid (hX2.out.below hb5)
     clear hb5 hS2 hX2 d0 d1 d2 d3 d4 d5 d6 d7 d8
     go_wp2_with (at_builtin; refine wpList_pushS rfl (.tmp 24) (.tmp 28) rfl w.heap.size _ (A ++ subB j :: List.replicate s (recB 2 j.id)) rfl HS6.out.ow (recB 2 j.id) _ rfl rfl (by have := HAL.out; simp only [List.length_append, List.length_cons, List.length_replicate]; omega) HS6.out.le ?_; intro v7 w7 ho7 hg7; have HS7 := Lib.hid (HS6.out.push ho7 hg7); have HBX7 := Lib.hid (HBX6.out.push HS6.out.ow hg7); obtain ⟨d0, d1, d2, d3, d4, d5, d6, d7, d8⟩ := HBX7.out.all; clear ho7 hg7)
     go_roundw
     case rel =>
      refine ⟨s + 1, _, by omega, by go_num, rfl, ?_, HBX7.out⟩
      have h := HS7.out
      rw [List.append_assoc, List.cons_append, ← List.replicate_succ'] at h
      exact h
     case measure => simp [intOf]; omega
    ·obtain rfl : s = m := by omega
     obtain ⟨A1, hA1⟩ : ∃ A1, A1 = A ++ subB j :: List.replicate s (recB 2 j.id) := ⟨_, rfl⟩
     rw [← hA1] at hS2
     have hA1l : A1.length ≤ 1200 := by have := HAL.out; rw [hA1]; simp only [List.length_append, List.length_cons, List.length_replicate]; omega
     have HA1 := Lib.hid hA1
     have HA1L := Lib.hid hA1l
     clear hA1 hA1l HRC
     have HOV := Lib.hid (over_any j.id j.state j.result (by have := HJO.out.id1; have := HO.out.last; omega) (by have := HJO.out.s5; omega) (by have := HJO.out.rs; omega))
     unfold strV at HOV
     by_cases hp0 : j.point = []
     ·have hpe : (bytesOf j.point).toList.isEmpty = true := by rw [hp0, ByteArray.toList_eq]; rfl
      have HP0 := Lib.hid hp0
      clear hp0
      by_cases hen : endedB j.state = true
      ·have HEN := ended_any j.state (by have := HJO.out.s5; omega)
       rw [hen] at HEN
       have HENH := Lib.hid hen
       have HE2 := Lib.hid HEN
       clear hen HEN
       go_wp2_with fail
       refine (HE2.out _).mono ?_
       rintro e w8 ⟨rfl, rfl⟩
       go_wp2_with fail
       refine (HOV.out _).mono ?_
       rintro e w9 ⟨rfl, hb9⟩
       have HS9 := Lib.hid (hS2.out.below hb9)
       have HBX9 := Lib.hid (hX2.out.below hb9)
       clear hb9 d0 d1 d2 d3 d4 d5 d6 d7 d8
       go_wp2_with (at_builtin; refine wpList_pushS rfl (.tmp 47) (.tmp 55) rfl w.heap.size _ A1 rfl HS9.out.ow (overB j.id j.state j.result) _ rfl rfl (by have := HA1L.out; omega) HS9.out.le ?_; intro v10 w10 ho10 hg10; have HS10 := Lib.hid (HS9.out.push ho10 hg10); have HBX10 := Lib.hid (HBX9.out.push HS9.out.ow hg10); obtain ⟨d0, d1, d2, d3, d4, d5, d6, d7, d8⟩ := HBX10.out.all; clear ho10 hg10)
       go_roundw
       case rel =>
        refine ⟨k + 1, _, by omega, by go_num, rfl, ?_⟩
        have h := HS10.out
        have e : (q.jobs.take (k + 1)).flatMap shortJ = A1 ++ [overB j.id j.state j.result] := by
         rw [List.take_add_one, HJ.out]
         simp only [Option.toList_some, List.flatMap_append, List.flatMap_cons, List.flatMap_nil, List.append_nil]
         rw [← HA.out]
         rw [HA1.out]
         unfold shortJ
         rw [if_pos HENH.out]
         simp [List.append_assoc, ← HM.out, HP0.out]
        rw [e]
        exact h
       case measure => simp [intOf]; omega
      ·have hen' : endedB j.state = false := by simpa using hen
       have HEN := ended_any j.state (by have := HJO.out.s5; omega)
       rw [hen'] at HEN
       have HENH := Lib.hid hen
       have HE2 := Lib.hid HEN
       clear hen HEN hen'
       go_wp2_with fail
       refine (HE2.out _).mono ?_
       rintro e w8 ⟨rfl, rfl⟩
       go_wp2_with fail
       go_roundw
       case rel =>
        refine ⟨k + 1, _, by omega, by go_num, rfl, ?_⟩
        have h := hS2.out
        have e : (q.jobs.take (k + 1)).flatMap shortJ = A1 := by
         rw [List.take_add_one, HJ.out]
         simp only [Option.toList_some, List.flatMap_append, List.flatMap_cons, List.flatMap_nil, List.append_nil]
         rw [← HA.out]
         rw [HA1.out]
         unfold shortJ
         rw [if_neg HENH.out]
         simp [List.append_assoc, ← HM.out, HP0.out]
        rw [e]
        exact h
       case measure => simp [intOf]; omega
     ·have hpe : (bytesOf j.point).toList.isEmpty = false := by
       rw [Bool.eq_false_iff]
       intro h
       exact hp0 (by
        have : (bytesOf j.point).toList = [] := by simpa using h
        rw [ByteArray.toList_eq] at this
        simpa [bytesOf] using this)
      have HP0 := Lib.hid hp0
      clear hp0
      have HR3 := Lib.hid (record_any 3 j.id (by omega) (by have := HJO.out.id1; have := HO.out.last; omega))
      have HT3 := Lib.hid (jtext_any j.point (by have := HJO.out.pt; omega))
      unfold strV at HR3 HT3
      go_upto_region 11 with (fail)
      clear d1 d2 d3 d4 d5 d6 d8
      refine wp_region_heldL (fun w' => w'.cell? ⟨b, 0, none⟩ = some (.int .i64 j.id) ∧ w'.cell? ⟨b, 7, none⟩ = some (.string (bytesOf j.point))) (by kernel_rfl) ⟨d0, d7⟩ (fun hHeld => ?_)
      refine tkH 0 (v := ?_) rfl ?_ ?_
      rotate_left
      ·(intro wq hSq; (try dsimp only at hSq); go_simp; try with_reducible rfl)
      try simp only [q0P, q0Q, q0R, q0S]
      refine tkH 1 (v := ?_) rfl ?_ ?_
      rotate_left
      ·(intro wq hSq; (try dsimp only at hSq); go_simp; try with_reducible rfl)
      try simp only [q0P, q0Q, q0R, q0S]
      refine tkH 2 (v := ?_) rfl ?_ ?_
      rotate_left
      ·(intro wq hSq; (try dsimp only at hSq); go_simp; try with_reducible rfl)
      try simp only [q0P, q0Q, q0R, q0S]
      refine tkH 4 (v := ?_) rfl ?_ ?_
      rotate_left
      ·(intro wq hSq; (try dsimp only at hSq); go_simp; try with_reducible rfl)
      try simp only [q0P, q0Q, q0R, q0S]
      refine tkH 5 (v := ?_) rfl ?_ ?_
      rotate_left
      ·(intro wq hSq; (try dsimp only at hSq); go_simp; try with_reducible rfl)
      try simp only [q0P, q0Q, q0R, q0S]
      refine wpAnyH_stepL 3 (by kernel_rfl) rfl (fun K hK => ?_)
      go_simp
      go_at_call 56
      refine (show Calls Tryz.prog 56 #[.int .u8 3, .int .i64 (j.id : Int)] _ _ from HR3.out _).mono ?_
      rintro e w8 ⟨rfl, hb8d⟩
      have hb8 := (Below.refl _ _).drew.trans hb8d
      have HS8 := Lib.hid (hS2.out.below hb8)
      have HBX8 := Lib.hid (hX2.out.below hb8)
      clear hb8 hb8d d0 d7
      refine hK.out _ _ ⟨(HBX8.out.cell (i := 0) rfl).1, (HBX8.out.cell (i := 7) rfl).1⟩ (fun hS3 => ?_)
      clear hK K hHeld
      try simp only [q0P, q0Q, q0R, q0S]
      refine wpAnyH_stepL 6 (by kernel_rfl) rfl (fun K hK => ?_)
      go_simp
      go_at_call 58
      refine (HT3.out _).mono ?_
      rintro e w9 ⟨rfl, hb9⟩
      have HS9 := Lib.hid (HS8.out.below hb9)
      have HBX9 := Lib.hid (HBX8.out.below hb9)
      clear hb9
      refine hK.out _ _ ⟨(HBX9.out.cell (i := 0) rfl).1, (HBX9.out.cell (i := 7) rfl).1⟩ (fun hS4 => ?_)
      clear hK K hS3
      try simp only [q0P, q0Q, q0R, q0S]
      have y1 : (bytesOf (recB 3 j.id)).size = 9 := recB_length 3 j.id
      have y2 : (bytesOf (textB j.point)).size = 4 + j.point.length := textB_length j.point
      have y3 : ¬ 9223372036854775807 < 9 + (4 + j.point.length) := by have := HJO.out.pt; omega
      have a3 := bytesOf_append
      refine tkH 7 (v := ?_) rfl ?_ ?_
      rotate_left
      ·(intro wq hSq; (try dsimp only at hSq); go_simp; try with_reducible rfl)
      try simp only [q0P, q0Q, q0R, q0S]
      clear y1 y2 y3 a3
      refine wpAnyH_stepL 8 (by kernel_rfl) rfl (fun K hK => ?_)
      go_simp
      refine hK.out _ _ ⟨(World.cell?_alloc_lt w9 _ ⟨b, 0, none⟩ (lt_of_heap HBX9.out)).trans (HBX9.out.cell (i := 0) rfl).1, (World.cell?_alloc_lt w9 _ ⟨b, 7, none⟩ (lt_of_heap HBX9.out)).trans (HBX9.out.cell (i := 7) rfl).1⟩ (fun hS5 => ?_)
      clear hK K hS4
      try simp only [q0P, q0Q, q0R, q0S]
      refine wpAnyH_stepL 9 (by kernel_rfl) rfl (fun K hK => ?_)
      refine step_pushS (by rfl) (.tmp 34) (.tmp 42) (by rfl) w.heap.size _ A1 (by rfl) HS9.out.ow (recB 3 j.id ++ textB j.point) w9.heap.size rfl (by rfl) (by have := HA1L.out; omega) HS9.out.le ?_
      intro v11 w11 ho11 hg11
      have HS11 := Lib.hid (HS9.out.push ho11 hg11)
      have HBX11 := Lib.hid (HBX9.out.push HS9.out.ow hg11)
      obtain ⟨d0, d1, d2, d3, d4, d5, d6, d7, d8⟩ := HBX11.out.all
      clear ho11 hg11
      refine hK.out _ _ ⟨d0, d7⟩ (fun hS6 => ?_)
      clear hK K hS5
      try simp only [q0P, q0Q, q0R, q0S]
      refine tkH 10 (v := ?_) rfl ?_ ?_
      rotate_left
      ·(intro wq hSq; (try dsimp only at hSq); go_simp; try with_reducible rfl)
      try simp only [q0P, q0Q, q0R, q0S]
      refine wpAnyH_end (by kernel_rfl) ?_
      clear HS9 HBX9 HS8 HBX8 hS2 hX2
      obtain ⟨A2, hA2⟩ : ∃ A2, A2 = A1 ++ [recB 3 j.id ++ textB j.point] := ⟨_, rfl⟩
      rw [← hA2] at HS11
      have hA2l : A2.length ≤ 1300 := by have := HA1L.out; rw [hA2, List.length_append, List.length_singleton]; omega
      have HA2 := Lib.hid hA2
      have HA2L := Lib.hid hA2l
      clear hA2 hA2l
      by_cases hen : endedB j.state = true
      ·have HEN := ended_any j.state (by have := HJO.out.s5; omega)
       rw [hen] at HEN
       have HENH := Lib.hid hen
       have HE2 := Lib.hid HEN
       clear hen HEN
       go_wp2_with fail
       refine (HE2.out _).mono ?_
       rintro e w11b ⟨rfl, rfl⟩
       go_wp2_with fail
       refine (HOV.out _).mono ?_
       rintro e w12 ⟨rfl, hb12⟩
       have HS12 := Lib.hid (HS11.out.below hb12)
       have HBX12 := Lib.hid (HBX11.out.below hb12)
       clear hb12 d0 d1 d2 d3 d4 d5 d6 d7 d8
       go_wp2_with (at_builtin; refine wpList_pushS rfl (.tmp 47) (.tmp 55) rfl w.heap.size _ A2 rfl HS12.out.ow (overB j.id j.state j.result) _ rfl rfl (by have := HA2L.out; omega) HS12.out.le ?_; intro v13 w13 ho13 hg13; have HS13 := Lib.hid (HS12.out.push ho13 hg13); have HBX13 := Lib.hid (HBX12.out.push HS12.out.ow hg13); obtain ⟨d0, d1, d2, d3, d4, d5, d6, d7, d8⟩ := HBX13.out.all; clear ho13 hg13)
       go_roundw
       case rel =>
        refine ⟨k + 1, _, by omega, by go_num, rfl, ?_⟩
        have h := HS13.out
        have e : (q.jobs.take (k + 1)).flatMap shortJ = A2 ++ [overB j.id j.state j.result] := by
         rw [List.take_add_one, HJ.out]
         simp only [Option.toList_some, List.flatMap_append, List.flatMap_cons, List.flatMap_nil, List.append_nil]
         rw [← HA.out]
         rw [HA2.out, HA1.out]
         unfold shortJ
         rw [if_pos HENH.out]
         simp [List.append_assoc, ← HM.out, HP0.out]
        rw [e]
        exact h
       case measure => simp [intOf]; omega
      ·have hen' : endedB j.state = false := by simpa using hen
       have HEN := ended_any j.state (by have := HJO.out.s5; omega)
       rw [hen'] at HEN
       have HENH := Lib.hid hen
       have HE2 := Lib.hid HEN
       clear hen HEN hen'
       go_wp2_with fail
       refine (HE2.out _).mono ?_
       rintro e w11b ⟨rfl, rfl⟩
       go_wp2_with fail
       go_roundw
       case rel =>
        refine ⟨k + 1, _, by omega, by go_num, rfl, ?_⟩
        have h := HS11.out
        have e : (q.jobs.take (k + 1)).flatMap shortJ = A2 := by
         rw [List.take_add_one, HJ.out]
         simp only [Option.toList_some, List.flatMap_append, List.flatMap_cons, List.flatMap_nil, List.append_nil]
         rw [← HA.out]
         rw [HA2.out, HA1.out]
         unfold shortJ
         rw [if_neg HENH.out]
         simp [List.append_assoc, ← HM.out, HP0.out]
        rw [e]
        exact h
       case measure => simp [intOf]; omega
  ·obtain rfl : k = n := by omega
   obtain ⟨-, -, y2, -, -, -, -⟩ := hS.out.qa.cells
   have hA : ((q.jobs.take k).flatMap shortJ) = q.jobs.flatMap shortJ := by rw [HN.out, List.take_length]
   have hS2 := hS.out
   rw [hA] at hS2
   have HS2 := Lib.hid hS2
   have hAl : (q.jobs.flatMap shortJ).length ≤ 100000 := by have := shorts_length q.jobs (fun j hj => (HO.out.job j hj).tr); have := HO.out.len; omega
   have HAL := Lib.hid hAl
   clear hA hS2 hS hAl
   by_cases hl : 0 < q.last
   ·have hl' : (0 : Int) < (q.last : Int) := by omega
    have hsh : q.short = q.jobs.flatMap shortJ ++ [recB 6 q.last] := by unfold Qs.short; rw [if_pos hl]
    have HSH := Lib.hid hsh
    have HRC := Lib.hid (record_any 6 q.last (by omega) HO.out.last)
    clear hsh
    unfold strV at HRC
    go_wp2_with fail
    refine (show Calls Tryz.prog 56 #[.int .u8 6, .int .i64 (q.last : Int)] wr _ from HRC.out wr).mono ?_
    rintro e w2 ⟨rfl, hb2⟩
    have HS3 := Lib.hid (HS2.out.below hb2)
    clear hb2
    go_wp2_with (at_builtin; refine wpList_pushS rfl (.tmp 63) (.tmp 69) rfl w.heap.size _ (q.jobs.flatMap shortJ) rfl HS3.out.ow (recB 6 q.last) _ rfl rfl HAL.out HS3.out.le ?_; intro v4 w4 ho4 hg4; have HS4 := Lib.hid (HS3.out.push ho4 hg4); clear ho4 hg4)
    go_ret
    refine ⟨⟨_, rfl, ?_⟩, HS4.out.bl⟩
    rw [HSH.out]
    exact HS4.out.ow
   ·have hl' : ¬ (0 : Int) < (q.last : Int) := by omega
    have hsh : q.short = q.jobs.flatMap shortJ := by unfold Qs.short; rw [if_neg hl, List.append_nil]
    have HSH := Lib.hid hsh
    clear hsh
    go_wp2_with fail
    go_ret
    refine ⟨⟨_, rfl, ?_⟩, HS2.out.bl⟩
    rw [HSH.out]
    exact HS2.out.ow
end
/- Walks: the reference's queue of jobs: numbers and texts are taken from a record. -/
section
open Go.RowKit Go.Shelf
/-- A reader of a record lies in a cell. -/
def RdAt (w : World) (p : Nat) (s : List UInt8) (bad : Bool) : Prop := w.heap[p]? = some (.cells #[strV s, .bool bad] 139)
theorem RdAt.cells {w : World} {p : Nat} {s : List UInt8} {bad : Bool} (h : RdAt w p s bad) : w.cell? ⟨p, 0, none⟩ = some (.string (bytesOf s)) ∧ w.cell? ⟨p, 1, none⟩ = some (.bool bad) ∧ w.frozen? ⟨p, 0, none⟩ = false ∧ w.frozen? ⟨p, 1, none⟩ = false := by
 unfold RdAt at h
 simp [World.cell?, World.frozen?, h, strV]
theorem RdAt.set0 {w : World} {p : Nat} {s : List UInt8} {bad : Bool} (h : RdAt w p s bad) (s' : List UInt8) : RdAt (w.setCell ⟨p, 0, none⟩ (strV s')) p s' bad := by
 unfold RdAt at h ⊢
 simp [World.setCell, Array.getElem?_modify, h]
theorem RdAt.set1 {w : World} {p : Nat} {s : List UInt8} {bad : Bool} (h : RdAt w p s bad) (b : Bool) : RdAt (w.setCell ⟨p, 1, none⟩ (.bool b)) p s b := by
 unfold RdAt at h ⊢
 simp [World.setCell, Array.getElem?_modify, h]
theorem RdAt.lt {w : World} {p : Nat} {s : List UInt8} {bad : Bool} (h : RdAt w p s bad) : p < w.heap.size := lt_of_heap h
theorem RdAt.bad {w : World} {p : Nat} {s : List UInt8} {bad : Bool} (h : RdAt w p s bad) : RdAt ((w.setCell ⟨p, 1, none⟩ (.bool true)).setCell ⟨p, 0, none⟩ (.string { data := #[] })) p [] true ∧ Kp (fun k => k = p) w ((w.setCell ⟨p, 1, none⟩ (.bool true)).setCell ⟨p, 0, none⟩ (.string { data := #[] })) :=
 ⟨(h.set1 true).set0 [], ((Kp.refl (fun k => k = p) w).setCell (a := ⟨p, 1, none⟩) rfl _).setCell (a := ⟨p, 0, none⟩) rfl _⟩
/-- A number that is taken: zero, where the record is too short. -/
def numR (s : List UInt8) (m : Nat) : Int × List UInt8 × Bool := match takeN s m with
 | some x => (idI x.1, x.2, false)
 | none => (0, [], true)
def textR (s : List UInt8) (most : Nat) : List UInt8 × List UInt8 × Bool := match takeT s most with
 | some x => (x.1, x.2, false)
 | none => ([], [], true)
theorem rfnum_any (p m : Nat) (s : List UInt8) (bad : Bool) (hm : m ≤ 8) (hl : s.length ≤ 100000000) (w : World) (hr : RdAt w p s bad) :
  Calls Tryz.prog 107 #[.pointer (some ⟨p, 0, none⟩), .int .i64 (m : Int)] w fun e w' =>
   e = .returned (.int .i64 (numR s m).1) ∧ RdAt w' p (numR s m).2.1 (bad || (numR s m).2.2) ∧ Kp (fun k => k = p) w w' := by
 obtain ⟨c0, c1, f0, f1⟩ := hr.cells
 by_cases h : m ≤ s.length
 ·have e : numR s m = (idI (numL (s.take m)), s.drop m, false) := by unfold numR takeN; rw [if_pos h]
  rw [e]
  have HR := Lib.hid hr
  have hsz : ¬ ((bytesOf s).size : Int) < (m : Int) := by rw [bytesOf_size]; omega
  have hsz2 : (m : Int) ≤ ((bytesOf s).size : Int) := by omega
  clear e hr
  go_enter Tryz.func107, Tryz.ntmps107
  go_wp2_with fail
  go_loopw [5, 6] (fun nn ii wr => ∃ k : Nat, k ≤ m ∧ ii = .int .i64 (k : Int) ∧ nn = .int .i64 (idI (numL (s.take k))) ∧ wr = w) (fun _ ii _ => m - (intOf ii).toNat)
  case atStart => exact ⟨0, by omega, rfl, rfl, rfl⟩
  case round =>
   obtain ⟨k, hk, rfl, rfl, rfl⟩ := hrel
   by_cases hlt : k < m
   ·have hlt2 : k < (bytesOf s).size := by rw [bytesOf_size]; omega
    go_wp2_with fail
    go_roundw
    case rel => exact ⟨k + 1, by omega, by go_num, by rw [or_id' 0 0 s k (by omega) (by omega)], trivial⟩
    case measure => simp [intOf]; omega
   ·obtain rfl : k = m := by omega
    go_wp2_with fail
    go_ret
    refine ⟨rfl, ?_, ?_⟩
    ·rw [bytesOf_from, Bool.or_false]
     exact HR.out.set0 _
    ·exact (Kp.refl (fun k => k = p) _).setCell (a := ⟨p, 0, none⟩) rfl _
 ·have e : numR s m = (0, [], true) := by unfold numR takeN; rw [if_neg h]
  rw [e, Bool.or_true]
  have hsz : ((bytesOf s).size : Int) < (m : Int) := by rw [bytesOf_size]; omega
  have HB := Lib.hid hr.bad
  clear e hr
  go_enter Tryz.func107, Tryz.ntmps107
  go_wp2_with fail
  go_ret
  exact ⟨rfl, HB.out.1, HB.out.2⟩
theorem rflabel_any (s : List UInt8) (w : World) : Calls Tryz.prog 65 #[strV s] w fun e w' => e = .returned (.bool (labelB s)) ∧ w' = w := by
 unfold strV
 have hsz : (bytesOf s).size = s.length := bytesOf_size s
 have HL : Hid (labelB s = (decide (0 < s.length) && decide (s.length ≤ 32))) := rfl
 by_cases h1 : 0 < s.length
 ·have h1' : (1 : Int) ≤ ((bytesOf s).size : Int) := by omega
  by_cases h2 : s.length ≤ 32
  ·have h2' : ((bytesOf s).size : Int) ≤ 32 := by omega
   have HE : Hid (labelB s = true) := by rw [HL.out, decide_eq_true h1, decide_eq_true h2]; exact (rfl : (true && true) = true)
   clear hsz h1 h2
   go_enter Tryz.func65, Tryz.ntmps65
   go_wp2_with fail
   go_ret
   exact ⟨by rw [HE.out]; rfl, rfl⟩
  ·have h2' : ¬ ((bytesOf s).size : Int) ≤ 32 := by omega
   have HE : Hid (labelB s = false) := by rw [HL.out, decide_eq_true h1, decide_eq_false h2]; exact (rfl : (true && false) = false)
   clear hsz h1 h2
   go_enter Tryz.func65, Tryz.ntmps65
   go_wp2_with fail
   go_ret
   exact ⟨by rw [HE.out]; rfl, rfl⟩
 ·have h1' : ¬ (1 : Int) ≤ ((bytesOf s).size : Int) := by omega
  have HE : Hid (labelB s = false) := by rw [HL.out, decide_eq_false h1]; exact (Bool.false_and _)
  clear hsz h1
  go_enter Tryz.func65, Tryz.ntmps65
  go_wp2_with fail
  go_ret
  exact ⟨by rw [HE.out]; rfl, rfl⟩
theorem rfended_any (s : Nat) (w : World) : Calls Tryz.prog 76 #[.int .i64 (s : Int)] w fun e w' => e = .returned (.bool (endedB s)) ∧ w' = w := by
 have HL : Hid (endedB s = (decide (3 ≤ s) && decide (s ≤ 5))) := rfl
 by_cases h1 : 3 ≤ s
 ·have h1' : (3 : Int) ≤ (s : Int) := by omega
  by_cases h2 : s ≤ 5
  ·have h2' : (s : Int) ≤ 5 := by omega
   have HE : Hid (endedB s = true) := by rw [HL.out, decide_eq_true h1, decide_eq_true h2]; exact (rfl : (true && true) = true)
   clear h1 h2
   go_enter Tryz.func76, Tryz.ntmps76
   go_wp2_with fail
   go_ret
   exact ⟨by rw [HE.out]; rfl, rfl⟩
  ·have h2' : ¬ (s : Int) ≤ 5 := by omega
   have HE : Hid (endedB s = false) := by rw [HL.out, decide_eq_true h1, decide_eq_false h2]; exact (rfl : (true && false) = false)
   clear h1 h2
   go_enter Tryz.func76, Tryz.ntmps76
   go_wp2_with fail
   go_ret
   exact ⟨by rw [HE.out]; rfl, rfl⟩
 ·have h1' : ¬ (3 : Int) ≤ (s : Int) := by omega
  have HE : Hid (endedB s = false) := by rw [HL.out, decide_eq_false h1]; exact (Bool.false_and _)
  clear h1
  go_enter Tryz.func76, Tryz.ntmps76
  go_wp2_with fail
  go_ret
  exact ⟨by rw [HE.out]; rfl, rfl⟩
end
/- Walks: the reference's queue of jobs: a text is taken from a record. -/
section
open Go.RowKit Go.Shelf
theorem rftext_any (p most : Nat) (s : List UInt8) (bad : Bool) (hm : most ≤ 1000000) (hl : s.length ≤ 100000000) (w : World) (hr : RdAt w p s bad) :
  Calls Tryz.prog 108 #[.pointer (some ⟨p, 0, none⟩), .int .i64 (most : Int)] w fun e w' =>
   e = .returned (strV (textR s most).1) ∧ RdAt w' p (textR s most).2.1 (bad || (textR s most).2.2) ∧ Kp (fun k => k = p) w w' := by
 have HN := Lib.hid (rfnum_any p 4 s bad (by omega) hl w hr)
 cases hx : takeN s 4 with
 | none =>
  have e1 : numR s 4 = (0, [], true) := by unfold numR; rw [hx]
  have e2 : textR s most = ([], [], true) := by unfold textR takeT; rw [hx]; rfl
  rw [e1] at HN
  rw [e2]
  have hm0 : ¬ (most : Int) < 0 := by omega
  clear hx e1 e2 hr
  go_enter Tryz.func108, Tryz.ntmps108
  go_wp2_with fail
  refine (show Calls Tryz.prog 107 #[.pointer (some ⟨p, 0, none⟩), .int .i64 4] w _ from HN.out).mono ?_
  rintro e w1 ⟨rfl, hr1, hk⟩
  obtain ⟨c0, c1, f0, f1⟩ := hr1.cells
  have HR := Lib.hid hr1
  have HK := Lib.hid hk
  have hz : (bytesOf ([] : List UInt8)).size = 0 := rfl
  clear hr1 hk
  go_wp2_with fail
  go_ret
  refine ⟨rfl, HR.out.set0 [], HK.out.setCell (a := ⟨p, 0, none⟩) rfl _⟩
 | some x =>
  obtain ⟨n, r⟩ := x
  obtain ⟨hn, hrr, h4⟩ := takeN_lt hx
  have hn2 : n < 4294967296 := hn
  have hid : idI n = (n : Int) := by unfold idI; rw [if_pos (by omega)]
  have e1 : numR s 4 = ((n : Int), r, false) := by unfold numR; rw [hx]; dsimp only; rw [hid]
  rw [e1] at HN
  have hrl : (bytesOf r).size = r.length := bytesOf_size r
  by_cases hb : n ≤ most ∧ n ≤ r.length
  ·have e2 : textR s most = (r.take n, r.drop n, false) := by unfold textR takeT; rw [hx]; dsimp only [Option.bind_some]; rw [if_pos hb]
   rw [e2]
   have h1 : ¬ (most : Int) < (n : Int) := by omega
   have h2 : ¬ ((bytesOf r).size : Int) < (n : Int) := by omega
   have h2' : n ≤ (bytesOf r).size := by omega
   clear hx e1 e2 hr hrr hid hn h4 hb hrl
   go_enter Tryz.func108, Tryz.ntmps108
   go_wp2_with fail
   refine (show Calls Tryz.prog 107 #[.pointer (some ⟨p, 0, none⟩), .int .i64 4] w _ from HN.out).mono ?_
   rintro e w1 ⟨rfl, hr1, hk⟩
   obtain ⟨c0, c1, f0, f1⟩ := hr1.cells
   have HR := Lib.hid hr1
   have HK := Lib.hid hk
   clear hr1 hk
   go_wp2_with fail
   go_ret
   refine ⟨?_, ?_, HK.out.setCell (a := ⟨p, 0, none⟩) rfl _⟩
   ·have e3 : (bytesOf r).extract 0 n = bytesOf (r.take n) := by rw [bytesOf_extract]; simp
    unfold strV
    rw [← e3]
    rfl
   ·rw [show (bytesOf r).extract n (bytesOf r).size = bytesOf (r.drop n) from bytesOf_from r n]
    exact HR.out.set0 _
  ·have e2 : textR s most = ([], [], true) := by unfold textR takeT; rw [hx]; dsimp only [Option.bind_some]; rw [if_neg hb]
   rw [e2, Bool.or_true]
   by_cases h0 : n ≤ most
   ·have h1 : ¬ (most : Int) < (n : Int) := by omega
    have h2 : ((bytesOf r).size : Int) < (n : Int) := by omega
    clear hx e1 e2 hr hrr hid hn h4 hb hrl h0
    go_enter Tryz.func108, Tryz.ntmps108
    go_wp2_with fail
    refine (show Calls Tryz.prog 107 #[.pointer (some ⟨p, 0, none⟩), .int .i64 4] w _ from HN.out).mono ?_
    rintro e w1 ⟨rfl, hr1, hk⟩
    obtain ⟨c0, c1, f0, f1⟩ := hr1.cells
    have HB := Lib.hid hr1.bad
    have HK := Lib.hid hk
    clear hr1 hk
    go_wp2_with fail
    go_ret
    exact ⟨rfl, HB.out.1, HK.out.trans HB.out.2⟩
   ·have h1 : (most : Int) < (n : Int) := by omega
    clear hx e1 e2 hr hrr hid hn h4 hb hrl h0
    go_enter Tryz.func108, Tryz.ntmps108
    go_wp2_with fail
    refine (show Calls Tryz.prog 107 #[.pointer (some ⟨p, 0, none⟩), .int .i64 4] w _ from HN.out).mono ?_
    rintro e w1 ⟨rfl, hr1, hk⟩
    obtain ⟨c0, c1, f0, f1⟩ := hr1.cells
    have HB := Lib.hid hr1.bad
    have HK := Lib.hid hk
    clear hr1 hk
    go_wp2_with fail
    go_ret
    exact ⟨rfl, HB.out.1, HK.out.trans HB.out.2⟩
end
/- Walks: the reference's queue of jobs: where a job lies. -/
section
open Go.RowKit Go.Shelf
/-- The reference's queue lies in a cell. -/
def RQueueAt (w : World) (p : Nat) (dp v : Value) (last : Int) (down : Bool) : Prop := w.heap[p]? = some (.cells #[dp, v, .int .i64 last, .bool down] 93)
theorem RQueueAt.cells {w : World} {p : Nat} {dp v : Value} {last : Int} {down : Bool} (h : RQueueAt w p dp v last down) :
  w.cell? ⟨p, 0, none⟩ = some dp ∧ w.cell? ⟨p, 1, none⟩ = some v ∧ w.cell? ⟨p, 2, none⟩ = some (.int .i64 last) ∧ w.cell? ⟨p, 3, none⟩ = some (.bool down) ∧
   w.frozen? ⟨p, 1, none⟩ = false ∧ w.frozen? ⟨p, 2, none⟩ = false ∧ w.frozen? ⟨p, 3, none⟩ = false := by
 unfold RQueueAt at h
 simp [World.cell?, World.frozen?, h]
theorem find_here {α : Type} {l : List α} {f : α → Bool} {k : Nat} {x : α} (h : l[k]? = some x) (hf : f x = true) (hn : ∀ (i : Nat) (y : α), i < k → l[i]? = some y → f y = false) : l.findIdx? f = some k := by
 obtain ⟨hk, hx⟩ := List.getElem?_eq_some_iff.1 h
 rw [List.findIdx?_eq_some_iff_getElem]
 refine ⟨hk, by rw [hx]; exact hf, fun i hi => ?_⟩
 have := hn i (l[i]'(by omega)) hi (List.getElem?_eq_getElem _)
 rw [this]; simp
theorem find_nowhere {α : Type} {l : List α} {f : α → Bool} (hn : ∀ (i : Nat) (y : α), l[i]? = some y → f y = false) : l.findIdx? f = none := by
 rw [List.findIdx?_eq_none_iff]
 intro x hx
 obtain ⟨i, hi⟩ := List.getElem?_of_mem hx
 exact hn i x hi
theorem rfat_any (p : Nat) (dp v : Value) (last : Int) (down : Bool) (js : List Jb) (id : Int) (w : World) (hq : RQueueAt w p dp v last down) (hv : JobsAt w v js) (hl : js.length ≤ 100000) :
  Calls Tryz.prog 75 #[.pointer (some ⟨p, 0, none⟩), .int .i64 id] w fun e w' => e = .returned (.int .i64 (placeI (js.findIdx? fun j => decide ((j.id : Int) = id)))) ∧ w' = w := by
 obtain ⟨-, k1, -, -, -, -, -⟩ := hq.cells
 obtain ⟨a, c, rfl⟩ : ∃ a c, v = .slice a js.length c := by
  rcases hv.2 with ⟨rfl, h0⟩ | ⟨g, c, _, _, rfl, _⟩
  ·exact ⟨none, 0, by rw [h0]⟩
  ·exact ⟨_, c, rfl⟩
 have HV := Lib.hid hv
 obtain ⟨R, hR⟩ : ∃ R, R = js.findIdx? fun j => decide ((j.id : Int) = id) := ⟨_, rfl⟩
 rw [← hR]
 have HR := Lib.hid hR
 obtain ⟨n, hn⟩ : ∃ n, n = js.length := ⟨_, rfl⟩
 rw [← hn] at k1 hl
 have HN := Lib.hid hn
 clear hR hv hn hq
 go_enter Tryz.func75, Tryz.ntmps75
 go_wp2_with fail
 go_loopw [5] (fun iv wr => ∃ k : Nat, k ≤ n ∧ iv = .int .i64 (k : Int) ∧ Hid (∀ (i : Nat) (y : Jb), i < k → js[i]? = some y → ¬ (y.id : Int) = id) ∧ wr = w) (fun iv _ => n - (intOf iv).toNat)
 case atStart => exact ⟨0, Nat.zero_le _, rfl, fun i y hi => by omega, rfl⟩
 case round =>
  obtain ⟨k, hk, rfl, hNo, rfl⟩ := hrel
  by_cases hlt : k < n
  ·obtain ⟨x, hx⟩ : ∃ x, js[k]? = some x := ⟨js[k]'(by rw [← HN.out]; exact hlt), List.getElem?_eq_getElem _⟩
   obtain ⟨g, c1, hg1, hg2, c0, -, -, -, -, -, -, -, -⟩ := JobsAt.cells HV.out k x hx
   injection hg1 with hg1 _ _
   subst hg1
   have HX := Lib.hid hx
   clear hx
   by_cases he : (x.id : Int) = id
   ·have he' : ((x.id : Int) == id) = true := by rw [he]; exact beq_self_eq_true _
    have HE : Hid (R = some k) := by
     show R = some k
     rw [HR.out]
     exact find_here HX.out (decide_eq_true he) (fun i y hi hy => decide_eq_false (hNo.out i y hi hy))
    clear he
    go_wp2_with fail
    go_ret
    exact ⟨by rw [HE.out]; rfl, rfl⟩
   ·have he' : ((x.id : Int) == id) = false := by rw [beq_eq_false_iff_ne]; exact he
    have HNO : Hid (∀ (i : Nat) (y : Jb), i < k + 1 → js[i]? = some y → ¬ (y.id : Int) = id) := fun i y hi hy => by
     rcases Nat.lt_or_ge i k with h3 | h3
     ·exact hNo.out i y h3 hy
     ·obtain rfl : i = k := by omega
      have h4 := HX.out
      rw [hy] at h4
      injection h4 with h4
      rw [h4]; exact he
    clear he
    go_wp2_with fail
    go_roundw
    case rel => exact ⟨k + 1, by omega, by go_num, HNO.out, trivial⟩
    case measure => simp [intOf]; omega
  ·obtain rfl : k = n := by omega
   have HE : Hid (R = none) := by
    show R = none
    rw [HR.out]
    exact find_nowhere (fun i y hy => decide_eq_false (hNo.out i y (by have := (List.getElem?_eq_some_iff.1 hy).1; have := HN.out; omega) hy))
   clear hlt
   go_wp2_with fail
   go_ret
   exact ⟨by rw [HE.out]; rfl, rfl⟩
theorem rfnamed_any (p : Nat) (dp v : Value) (last : Int) (down : Bool) (js : List Jb) (s t : List UInt8) (w : World) (hq : RQueueAt w p dp v last down) (hv : JobsAt w v js) (hl : js.length ≤ 100000) :
  Calls Tryz.prog 66 #[.pointer (some ⟨p, 0, none⟩), strV s, strV t] w fun e w' => e = .returned (.int .i64 (placeI (js.findIdx? fun j => decide (j.client = s) && decide (j.token = t)))) ∧ w' = w := by
 obtain ⟨-, k1, -, -, -, -, -⟩ := hq.cells
 obtain ⟨a, c, rfl⟩ : ∃ a c, v = .slice a js.length c := by
  rcases hv.2 with ⟨rfl, h0⟩ | ⟨g, c, _, _, rfl, _⟩
  ·exact ⟨none, 0, by rw [h0]⟩
  ·exact ⟨_, c, rfl⟩
 have HV := Lib.hid hv
 obtain ⟨R, hR⟩ : ∃ R, R = js.findIdx? fun j => decide (j.client = s) && decide (j.token = t) := ⟨_, rfl⟩
 rw [← hR]
 have HR := Lib.hid hR
 obtain ⟨n, hn⟩ : ∃ n, n = js.length := ⟨_, rfl⟩
 rw [← hn] at k1 hl
 have HN := Lib.hid hn
 clear hR hv hn hq
 unfold strV
 go_enter Tryz.func66, Tryz.ntmps66
 go_wp2_with fail
 go_loopw [7] (fun iv wr => ∃ k : Nat, k ≤ n ∧ iv = .int .i64 (k : Int) ∧ Hid (∀ (i : Nat) (y : Jb), i < k → js[i]? = some y → ¬ (y.client = s ∧ y.token = t)) ∧ wr = w) (fun iv _ => n - (intOf iv).toNat)
 case atStart => exact ⟨0, Nat.zero_le _, rfl, fun i y hi => by omega, rfl⟩
 case round =>
  obtain ⟨k, hk, rfl, hNo, rfl⟩ := hrel
  by_cases hlt : k < n
  ·obtain ⟨x, hx⟩ : ∃ x, js[k]? = some x := ⟨js[k]'(by rw [← HN.out]; exact hlt), List.getElem?_eq_getElem _⟩
   obtain ⟨g, c1, hg1, hg2, -, d1, d2, -, -, -, -, -, -⟩ := JobsAt.cells HV.out k x hx
   injection hg1 with hg1 _ _
   subst hg1
   unfold strV at d1 d2
   have HX := Lib.hid hx
   have HNO : Hid (¬ (x.client = s ∧ x.token = t) → ∀ (i : Nat) (y : Jb), i < k + 1 → js[i]? = some y → ¬ (y.client = s ∧ y.token = t)) := fun hno i y hi hy => by
    rcases Nat.lt_or_ge i k with h3 | h3
    ·exact hNo.out i y h3 hy
    ·obtain rfl : i = k := by omega
     have h4 := HX.out
     rw [hy] at h4
     injection h4 with h4
     rw [h4]; exact hno
   have inj : ∀ x y : List UInt8, (bytesOf x).toList = (bytesOf y).toList ↔ x = y := fun x y => by rw [ByteArray.toList_eq, ByteArray.toList_eq]; exact Iff.rfl
   clear hx
   by_cases hc : x.client = s
   ·have hc1 : (bytesOf x.client).toList = (bytesOf s).toList := (inj _ _).2 hc
    by_cases hk2 : x.token = t
    ·have hk1 : (bytesOf x.token).toList = (bytesOf t).toList := (inj _ _).2 hk2
     have HE : Hid (R = some k) := by
      show R = some k
      rw [HR.out]
      refine find_here HX.out (by rw [decide_eq_true hc, decide_eq_true hk2]; rfl) (fun i y hi hy => ?_)
      have := hNo.out i y hi hy
      by_cases z : y.client = s
      ·rw [decide_eq_false (fun q => this ⟨z, q⟩), Bool.and_false]
      ·rw [decide_eq_false z, Bool.false_and]
     clear hc hk2 inj
     go_wp2_with fail
     go_ret
     exact ⟨by rw [HE.out]; rfl, rfl⟩
    ·have hk1 : ((bytesOf x.token).toList == (bytesOf t).toList) = false := by rw [beq_eq_false_iff_ne]; exact fun q => hk2 ((inj _ _).1 q)
     have HN2 := Lib.hid (HNO.out (fun q => hk2 q.2))
     clear hc hk2 inj HNO
     go_wp2_with fail
     go_roundw
     case rel => exact ⟨k + 1, by omega, by go_num, HN2.out, trivial⟩
     case measure => simp [intOf]; omega
   ·have hc1 : ¬ (bytesOf x.client).toList = (bytesOf s).toList := fun q => hc ((inj _ _).1 q)
    have hc2 : ((bytesOf x.client).toList == (bytesOf s).toList) = false := by rw [beq_eq_false_iff_ne]; exact hc1
    have HN2 := Lib.hid (HNO.out (fun q => hc q.1))
    clear hc inj HNO
    go_wp2_with fail
    go_roundw
    case rel => exact ⟨k + 1, by omega, by go_num, HN2.out, trivial⟩
    case measure => simp [intOf]; omega
  ·obtain rfl : k = n := by omega
   have HE : Hid (R = none) := by
    show R = none
    rw [HR.out]
    refine find_nowhere (fun i y hy => ?_)
    have := hNo.out i y (by have := (List.getElem?_eq_some_iff.1 hy).1; have := HN.out; omega) hy
    by_cases z : y.client = s
    ·rw [decide_eq_false (fun q => this ⟨z, q⟩), Bool.and_false]
    ·rw [decide_eq_false z, Bool.false_and]
   clear hlt
   go_wp2_with fail
   go_ret
   exact ⟨by rw [HE.out]; rfl, rfl⟩
end
/- Walks: the reference's queue of jobs: records are written. Printed by gen_rd1.py. -/
section
open Go.RowKit Go.Shelf
theorem numB_drop (n : Nat) : ∀ (m j : Nat), j ≤ m → numB n m = (numB n m).take (m - j) ++ numB n j
 | 0, j, h => by
  obtain rfl : j = 0 := by omega
  rfl
 | m + 1, j, h => by
  rcases Nat.lt_or_ge m j with h1 | h1
  ·obtain rfl : j = m + 1 := by omega
   simp
  ·have := numB_drop n m j h1
   rw [show m + 1 - j = (m - j) + 1 by omega]
   show _ :: _ = (UInt8.ofNat (n / 256 ^ m) :: numB n m).take (m - j + 1) ++ numB n j
   rw [List.take_succ_cons, List.cons_append, ← this]
theorem numB_next (n m j : Nat) (h : j < m) : (numB n m).take (m - j) = (numB n m).take (m - (j + 1)) ++ [UInt8.ofNat (n / 256 ^ j)] := by
 have h1 := numB_drop n m (j + 1) h
 have h2 := numB_drop n m j (by omega)
 have h3 : numB n (j + 1) = [UInt8.ofNat (n / 256 ^ j)] ++ numB n j := rfl
 rw [h3, ← List.append_assoc] at h1
 exact List.append_cancel_right (h2.symm.trans h1)
theorem rfbytes_any (n m : Nat) (hn : n < 9223372036854775808) (h0 : 0 < m) (hm : m ≤ 8) (w : World) : Calls Tryz.prog 78 #[.int .i64 (n : Int), .int .i64 (m : Int)] w fun e w' => e = .returned (.string (bytesOf (numB n m))) ∧ Below w.heap.size w w' := by
 obtain ⟨i0, hi0, hiz, hiz1, hizb⟩ := info_parts infoByte
 obtain ⟨M, hM⟩ : ∃ M : Nat, M = 8 * m := ⟨_, rfl⟩
 have hMi : 8 * (m : Int) = (M : Int) := by omega
 have HM := Lib.hid hM
 have hM64 : M ≤ 64 := by omega
 have H0 := Lib.hid h0
 clear hM h0
 go_enter Tryz.func78, Tryz.ntmps78
 go_wp2_with fail
 go_loopw [5, 6] (fun sv iv wr => ∃ (j : Nat) (z : Int) (va : Option Addr) (vc : Nat), j ≤ m ∧ iv = .int .i64 z ∧ z + 8 = 8 * (j : Int) ∧ sv = .slice va (m - j) vc ∧ Hid (wr.owns w.heap.size 5 1 (.slice va (m - j) vc) (m - j) (((numB n m).take (m - j)).map byteV)) ∧ Hid (Below w.heap.size w wr)) (fun _ iv _ => (64 + intOf iv).toNat)
 case atStart => exact ⟨m, _, none, 0, Nat.le_refl _, rfl, by omega, by rw [Nat.sub_self], by rw [Nat.sub_self]; exact World.owns_nil _ _ _ _, Below.refl _ _⟩
 case round =>
  obtain ⟨j, z, va, vc, hj, rfl, hz8, rfl, hO, hB⟩ := hrel
  have hz := hB.out.size
  by_cases hlt : 0 < j
  ·obtain ⟨k, rfl⟩ : ∃ k, j = k + 1 := ⟨j - 1, by omega⟩
   obtain ⟨s, hs⟩ : ∃ s : Nat, s = 8 * k := ⟨_, rfl⟩
   obtain rfl : z = (s : Int) := by omega
   have HLB := Lib.hid (low_byte n k s hs)
   obtain ⟨c, hc⟩ : ∃ c, c = UInt8.ofNat (n / 256 ^ k) := ⟨_, rfl⟩
   have HNX := Lib.hid (numB_next n m k (by omega))
   rw [← hc] at HLB HNX
   unfold byteV at HLB
   have hlb : ((n : Int) / 2 ^ s % 256) = (c.toNat : Int) := by
    have := HLB.out
    injection this with _ this
    exact this.symm
   have HS := Lib.hid hs
   have hs64 : s < 64 := by omega
   obtain ⟨L, hL⟩ : ∃ L, L = m - (k + 1) := ⟨_, rfl⟩
   rw [← hL] at hO HNX ⊢
   have HL : Hid (L + 1 = m - k ∧ k < m) := Lib.hid (by omega)
   have hL8 : L ≤ 8 := by omega
   have HK : Hid (k + 1 ≤ m) := hj
   clear hs hc hz8 hj hlt hL
   go_wp2_with (at_builtin; refine wpList_append1 (W := wr) rfl (.tmp 14) (.tmp 19) 54 rfl w.heap.size 5 i0 (.int .u8 0) 1 Tryz.underlying54 hi0 hiz hiz1 hizb rfl (.slice va L vc) L (((numB n m).take L).map byteV) rfl hO.out (byteV c) wr.heap.size rfl rfl rfl (by unfold maxLen; omega) (by omega) hz ?_; intro v5 w5 hown5 hg5a hg5 hz5; have HO5 := Lib.hid hown5; obtain ⟨g5, q5, rfl⟩ := hown5.succ; have HB5 : Hid (Below w.heap.size w w5) := hB.out.grown hg5 hz (fun kk hk => (hO.out.lt kk hk).1))
   go_roundw
   case rel =>
    refine ⟨k, (s : Int) - 8, some ⟨g5, 0, none⟩, q5, by have := HK.out; omega, by go_num, by have := HS.out; omega, by rw [HL.out.1], ?_, HB5.out⟩
    show w5.owns _ _ _ _ _ _
    have h5 := HO5.out
    rw [← HL.out.1]
    have h6 := HNX.out
    rw [← HL.out.1] at h6
    rw [h6, List.map_append]
    exact h5
   case measure => simp [intOf]; omega
  ·obtain rfl : j = 0 := by omega
   obtain rfl : z = -8 := by omega
   rw [Nat.sub_zero, List.take_of_length_le (by rw [numB_length]; exact Nat.le_refl _)] at hO
   rw [Nat.sub_zero]
   obtain ⟨mm, hmm⟩ : ∃ mm, m = mm + 1 := ⟨m - 1, by have := H0.out; omega⟩
   obtain ⟨ga, cc, he⟩ := (show wr.owns w.heap.size 5 1 (.slice va m vc) (mm + 1) ((numB n m).map byteV) by rw [← hmm]; exact hO.out).succ
   injection he with he1 he2 he3
   subst he1
   clear he2 he3 hmm
   have hcv := run_owns_string (P := Tryz.prog) (w := wr) (m := m) 54 9 5 Tryz.underlying54 Tryz.underlying5 Tryz.underlying9 hO.out (by rw [numB_length]; exact Nat.le_refl _) vc
   rw [List.take_of_length_le (by rw [numB_length]; exact Nat.le_refl _)] at hcv
   go_wp2
   go_ret
   exact ⟨rfl, hB.out⟩
end
/- Walks: the reference's queue of jobs: whole records are written. Printed by gen_rd2.py. -/
section
open Go.RowKit Go.Shelf
theorem rec_fold (k : Nat) (b : UInt8) (hb : b = UInt8.ofNat k) (id : Nat) : ({ data := #[b] } : ByteArray) ++ bytesOf (numB id 8) = bytesOf (recB k id) := by
 subst hb
 show bytesOf [UInt8.ofNat k] ++ bytesOf (numB id 8) = _
 rw [bytesOf_append]
 rfl
theorem rftextW_any (s : List UInt8) (hs : s.length ≤ 1000000) (w : World) : Calls Tryz.prog 109 #[strV s] w fun e w' => e = .returned (strV (textB s)) ∧ Below w.heap.size w w' := by
 have a3 := bytesOf_append
 have hz : (bytesOf s).size = s.length := bytesOf_size s
 have z4 : (bytesOf (numB s.length 4)).size = 4 := numB_length _ _
 have c1 : ¬ 9223372036854775807 < 4 + s.length := by omega
 have HN := Lib.hid (rfbytes_any s.length 4 (by omega) (by omega) (by omega) w)
 unfold strV textB
 go_enter Tryz.func109, Tryz.ntmps109
 go_wp2_with fail
 refine (show Calls Tryz.prog 78 #[.int .i64 (s.length : Int), .int .i64 4] w _ from HN.out).mono ?_
 rintro e w1 ⟨rfl, hb1⟩
 go_wp2_with fail
 go_ret
 exact ⟨rfl, hb1⟩
theorem rftaken_any (id : Nat) (hid : id < 9223372036854775808) (w : World) : Calls Tryz.prog 70 #[.int .i64 (id : Int)] w fun e w' => e = .returned (strV (recB 2 id)) ∧ Below w.heap.size w w' := by
 have f1 := rec_fold 2 2 rfl id
 have z0 : (bytesOf (numB id 8)).size = 8 := numB_length _ _
 have HN := Lib.hid (rfbytes_any id 8 hid (by omega) (by omega) w)
 unfold strV
 generalize numB id 8 = R0 at HN z0 f1 ⊢
 generalize recB 2 id = R1 at f1 ⊢
 go_enter Tryz.func70, Tryz.ntmps70
 go_wp2_with fail
 refine (show Calls Tryz.prog 78 #[.int .i64 (id : Int), .int .i64 8] w _ from HN.out).mono ?_
 rintro e w1 ⟨rfl, hb1⟩
 go_wp2_with fail
 go_ret
 exact ⟨by rw [← f1]; rfl, hb1⟩
theorem rfsaved_any (id : Nat) (r : List UInt8) (hid : id < 9223372036854775808) (hr : r.length ≤ 1000000) (w : World) : Calls Tryz.prog 72 #[.int .i64 (id : Int), strV r] w fun e w' => e = .returned (strV (recB 3 id ++ textB r)) ∧ Below w.heap.size w w' := by
 have a3 := bytesOf_append
 have f1 := rec_fold 3 3 rfl id
 have z0 : (bytesOf (numB id 8)).size = 8 := numB_length _ _
 have z1 : (bytesOf (recB 3 id)).size = 9 := recB_length 3 id
 have z3 : (bytesOf (textB r)).size = 4 + r.length := textB_length r
 have c1 : ¬ 9223372036854775807 < 9 + (4 + r.length) := by omega
 have HN := Lib.hid (rfbytes_any id 8 hid (by omega) (by omega) w)
 have HTX := Lib.hid (rftextW_any r hr)
 unfold strV at HTX ⊢
 generalize numB id 8 = R0 at HN z0 f1 ⊢
 generalize recB 3 id = R1 at f1 z1 ⊢
 generalize textB r = R3 at HTX z3 ⊢
 go_enter Tryz.func72, Tryz.ntmps72
 go_wp2_with fail
 refine (show Calls Tryz.prog 78 #[.int .i64 (id : Int), .int .i64 8] w _ from HN.out).mono ?_
 rintro e w1 ⟨rfl, hb1⟩
 go_wp2_with fail
 refine (HTX.out _).mono ?_
 rintro e w2 ⟨rfl, hb2⟩
 have hb := hb1.trans (hb2.mono hb1.size)
 clear hb1 hb2
 go_wp2_with fail
 go_ret
 exact ⟨rfl, hb⟩
theorem rfover_any (id st : Nat) (r : List UInt8) (hid : id < 9223372036854775808) (hst : st < 256) (hr : r.length ≤ 1000000) (w : World) :
  Calls Tryz.prog 110 #[.int .i64 (id : Int), .int .i64 (st : Int), strV r] w fun e w' => e = .returned (strV (overB id st r)) ∧ Below w.heap.size w w' := by
 have a3 := bytesOf_append
 have f1 := rec_fold 4 4 rfl id
 have HRC := Lib.hid (fun W => rfbytes_any id 8 hid (by omega) (by omega) W)
 have HNM := Lib.hid (fun W => rfbytes_any st 1 (by omega) (by omega) (by omega) W)
 have HTX := Lib.hid (rftextW_any r hr)
 have e0 : overB id st r = recB 4 id ++ numB st 1 ++ textB r := rfl
 rw [e0]
 have z0 : (bytesOf (numB id 8)).size = 8 := numB_length _ _
 have z1 : (bytesOf (recB 4 id)).size = 9 := recB_length 4 id
 have z2 : (bytesOf (numB st 1)).size = 1 := numB_length st 1
 have z3 : (bytesOf (textB r)).size = 4 + r.length := textB_length r
 have z4 : (bytesOf (recB 4 id ++ numB st 1)).size = 10 := by rw [bytesOf_size, List.length_append, recB_length, numB_length]
 generalize numB id 8 = R0 at HRC z0 f1 ⊢
 generalize recB 4 id = R1 at f1 z1 z4 ⊢
 generalize numB st 1 = R2 at HNM z2 z4 ⊢
 generalize textB r = R3 at HTX z3 ⊢
 have c1 : ¬ 9223372036854775807 < 10 + (4 + r.length) := by omega
 unfold strV at HTX ⊢
 clear e0
 go_enter Tryz.func110, Tryz.ntmps110
 go_wp2_with fail
 refine (show Calls Tryz.prog 78 #[.int .i64 (id : Int), .int .i64 8] w _ from HRC.out w).mono ?_
 rintro e w1 ⟨rfl, hb1⟩
 go_wp2_with fail
 refine (show Calls Tryz.prog 78 #[.int .i64 (st : Int), .int .i64 1] w1 _ from HNM.out w1).mono ?_
 rintro e w2 ⟨rfl, hb2⟩
 go_wp2_with fail
 refine (HTX.out w2).mono ?_
 rintro e w3 ⟨rfl, hb3⟩
 have hb := (hb1.trans (hb2.mono hb1.size)).trans (hb3.mono (Nat.le_trans hb1.size hb2.size))
 clear hb1 hb2 hb3
 go_wp2_with fail
 go_ret
 exact ⟨by rw [List.append_assoc]; rfl, hb⟩
theorem rfsubmitted_any (j : Jb) (hid : j.id < 9223372036854775808) (hp : j.prio < 256) (hc : j.client.length ≤ 1000000) (ht : j.token.length ≤ 1000000) (hk : j.work.length ≤ 1000000) (w : World) :
  Calls Tryz.prog 68 #[j.val] w fun e w' => e = .returned (strV (subB j)) ∧ Below w.heap.size w w' := by
 have a3 := bytesOf_append
 have f1 := rec_fold 1 1 rfl j.id
 have HRC := Lib.hid (fun W => rfbytes_any j.id 8 hid (by omega) (by omega) W)
 have z0 : (bytesOf (numB j.id 8)).size = 8 := numB_length _ _
 have HNM := Lib.hid (fun W => rfbytes_any j.prio 1 (by omega) (by omega) (by omega) W)
 have HT1 := Lib.hid (rftextW_any j.client hc)
 have HT2 := Lib.hid (rftextW_any j.token ht)
 have HT3 := Lib.hid (rftextW_any j.work hk)
 have e0 : subB j = recB 1 j.id ++ numB j.prio 1 ++ textB j.client ++ textB j.token ++ textB j.work := rfl
 rw [e0]
 have z1 : (bytesOf (recB 1 j.id)).size = 9 := recB_length 1 j.id
 have z2 : (bytesOf (numB j.prio 1)).size = 1 := numB_length j.prio 1
 have z3 : (bytesOf (textB j.client)).size = 4 + j.client.length := textB_length j.client
 have z4 : (bytesOf (textB j.token)).size = 4 + j.token.length := textB_length j.token
 have z5 : (bytesOf (textB j.work)).size = 4 + j.work.length := textB_length j.work
 generalize numB j.id 8 = R0 at HRC z0 f1 ⊢
 generalize recB 1 j.id = R1 at f1 z1 ⊢
 generalize numB j.prio 1 = R2 at HNM z2 ⊢
 generalize textB j.client = R3 at HT1 z3 ⊢
 generalize textB j.token = R4 at HT2 z4 ⊢
 generalize textB j.work = R5 at HT3 z5 ⊢
 obtain ⟨n3, hn3⟩ : ∃ n, n = 4 + j.client.length := ⟨_, rfl⟩
 obtain ⟨n4, hn4⟩ : ∃ n, n = 4 + j.token.length := ⟨_, rfl⟩
 obtain ⟨n5, hn5⟩ : ∃ n, n = 4 + j.work.length := ⟨_, rfl⟩
 rw [← hn3] at z3
 rw [← hn4] at z4
 rw [← hn5] at z5
 have y1 : (bytesOf (R1 ++ R2)).size = 10 := by rw [bytesOf_size] at *; rw [List.length_append]; omega
 have y2 : (bytesOf (R1 ++ (R2 ++ R3))).size = 10 + n3 := by rw [bytesOf_size] at *; rw [List.length_append, List.length_append]; omega
 have y3 : (bytesOf (R1 ++ (R2 ++ (R3 ++ R4)))).size = 10 + n3 + n4 := by rw [bytesOf_size] at *; simp only [List.length_append]; omega
 have c1 : ¬ 9223372036854775807 < 10 + n3 := by omega
 have c2 : ¬ 9223372036854775807 < 10 + n3 + n4 := by omega
 have c3 : ¬ 9223372036854775807 < 10 + n3 + n4 + n5 := by omega
 clear hn3 hn4 hn5 hc ht hk e0
 obtain ⟨W1, hW1⟩ : ∃ W, W = w.alloc (.cells j.cells.toArray 48) := ⟨_, rfl⟩
 have bx1 : BoxAt W1 w.heap.size j := by rw [hW1]; exact alloc_last _ _ rfl
 have hb1 : Below w.heap.size w W1 := by rw [hW1]; exact (Below.refl _ w).alloc (Nat.le_refl _) _
 have HW1 := Lib.hid hW1
 have HB1 := Lib.hid hb1
 clear hW1 hb1
 unfold Jb.val Jb.cells at *
 unfold strV at *
 obtain ⟨b, hb⟩ : ∃ b, b = w.heap.size := ⟨_, rfl⟩
 rw [← hb] at bx1
 have HBW := Lib.hid hb
 have HBX := Lib.hid bx1
 clear bx1 hb
 go_enter Tryz.func68, Tryz.ntmps68
 go_upto_region 1 with (fail)
 rw [← HW1.out, ← HBW.out]
 clear HW1 HBW
 refine wp_region_heldL (fun w' => w'.cell? ⟨b, 0, none⟩ = some (.int .i64 j.id) ∧ w'.cell? ⟨b, 1, none⟩ = some (.string (bytesOf j.client)) ∧ w'.cell? ⟨b, 2, none⟩ = some (.string (bytesOf j.token)) ∧ w'.cell? ⟨b, 3, none⟩ = some (.int .i64 j.prio) ∧ w'.cell? ⟨b, 6, none⟩ = some (.string (bytesOf j.work))) (by kernel_rfl) HBX.out.held (fun hS => ?_)
 refine tkH 0 (v := ?_) rfl ?_ ?_
 rotate_left
 ·(intro wq hSq; (try dsimp only at hSq); go_simp; try with_reducible rfl)
 try simp only [q0P, q0Q, q0R, q0S]
 refine tkH 1 (v := ?_) rfl ?_ ?_
 rotate_left
 ·(intro wq hSq; (try dsimp only at hSq); go_simp; try with_reducible rfl)
 try simp only [q0P, q0Q, q0R, q0S]
 refine tkH 4 (v := ?_) rfl ?_ ?_
 rotate_left
 ·(intro wq hSq; (try dsimp only at hSq); go_simp; try with_reducible rfl)
 try simp only [q0P, q0Q, q0R, q0S]
 refine tkH 5 (v := ?_) rfl ?_ ?_
 rotate_left
 ·(intro wq hSq; (try dsimp only at hSq); go_simp; try with_reducible rfl)
 try simp only [q0P, q0Q, q0R, q0S]
 refine tkH 8 (v := ?_) rfl ?_ ?_
 rotate_left
 ·(intro wq hSq; (try dsimp only at hSq); go_simp; try with_reducible rfl)
 try simp only [q0P, q0Q, q0R, q0S]
 refine tkH 9 (v := ?_) rfl ?_ ?_
 rotate_left
 ·(intro wq hSq; (try dsimp only at hSq); go_simp; try with_reducible rfl)
 try simp only [q0P, q0Q, q0R, q0S]
 refine tkH 12 (v := ?_) rfl ?_ ?_
 rotate_left
 ·(intro wq hSq; (try dsimp only at hSq); go_simp; try with_reducible rfl)
 try simp only [q0P, q0Q, q0R, q0S]
 refine tkH 13 (v := ?_) rfl ?_ ?_
 rotate_left
 ·(intro wq hSq; (try dsimp only at hSq); go_simp; try with_reducible rfl)
 try simp only [q0P, q0Q, q0R, q0S]
 refine tkH 16 (v := ?_) rfl ?_ ?_
 rotate_left
 ·(intro wq hSq; (try dsimp only at hSq); go_simp; try with_reducible rfl)
 try simp only [q0P, q0Q, q0R, q0S]
 refine tkH 17 (v := ?_) rfl ?_ ?_
 rotate_left
 ·(intro wq hSq; (try dsimp only at hSq); go_simp; try with_reducible rfl)
 try simp only [q0P, q0Q, q0R, q0S]
 refine wpAnyH_stepL 2 (by kernel_rfl) rfl (fun K hK => ?_)
 go_simp
 go_at_call 78
 refine ((show ∀ W, Calls Tryz.prog 78 #[.int .i64 (j.id : Int), .int .i64 8] W _ from HRC.out) _).mono ?_
 rintro e wa ⟨rfl, hwa⟩
 have HBwa := Lib.hid ((Below.refl W1.heap.size W1).drew.trans hwa)
 clear hwa
 refine hK.out _ _ (HBX.out.below (HBwa.out)).held (fun hSwa => ?_)
 clear hK K
 try simp only [q0P, q0Q, q0R, q0S]
 refine tkH 3 (v := ?_) rfl ?_ ?_
 rotate_left
 ·(intro wq hSq; (try dsimp only at hSq); go_simp; try with_reducible rfl)
 try simp only [q0P, q0Q, q0R, q0S]
 refine wpAnyH_stepL 6 (by kernel_rfl) rfl (fun K hK => ?_)
 go_simp
 go_at_call 78
 refine ((show ∀ W, Calls Tryz.prog 78 #[.int .i64 (j.prio : Int), .int .i64 1] W _ from HNM.out) _).mono ?_
 rintro e wb ⟨rfl, hwb⟩
 have HBwb := Lib.hid (HBwa.out.trans (hwb.mono HBwa.out.size))
 clear hwb
 refine hK.out _ _ (HBX.out.below (HBwb.out)).held (fun hSwb => ?_)
 clear hK K
 try simp only [q0P, q0Q, q0R, q0S]
 refine tkH 7 (v := ?_) rfl ?_ ?_
 rotate_left
 ·(intro wq hSq; (try dsimp only at hSq); go_simp; try with_reducible rfl)
 try simp only [q0P, q0Q, q0R, q0S]
 refine wpAnyH_stepL 10 (by kernel_rfl) rfl (fun K hK => ?_)
 go_simp
 go_at_call 109
 refine (HT1.out _).mono ?_
 rintro e wc ⟨rfl, hwc⟩
 have HBwc := Lib.hid (HBwb.out.trans (hwc.mono HBwb.out.size))
 clear hwc
 refine hK.out _ _ (HBX.out.below (HBwc.out)).held (fun hSwc => ?_)
 clear hK K
 try simp only [q0P, q0Q, q0R, q0S]
 refine tkH 11 (v := ?_) rfl ?_ ?_
 rotate_left
 ·(intro wq hSq; (try dsimp only at hSq); go_simp; try with_reducible rfl)
 try simp only [q0P, q0Q, q0R, q0S]
 refine wpAnyH_stepL 14 (by kernel_rfl) rfl (fun K hK => ?_)
 go_simp
 go_at_call 109
 refine (HT2.out _).mono ?_
 rintro e wd ⟨rfl, hwd⟩
 have HBwd := Lib.hid (HBwc.out.trans (hwd.mono HBwc.out.size))
 clear hwd
 refine hK.out _ _ (HBX.out.below (HBwd.out)).held (fun hSwd => ?_)
 clear hK K
 try simp only [q0P, q0Q, q0R, q0S]
 refine tkH 15 (v := ?_) rfl ?_ ?_
 rotate_left
 ·(intro wq hSq; (try dsimp only at hSq); go_simp; try with_reducible rfl)
 try simp only [q0P, q0Q, q0R, q0S]
 refine wpAnyH_stepL 18 (by kernel_rfl) rfl (fun K hK => ?_)
 go_simp
 go_at_call 109
 refine (HT3.out _).mono ?_
 rintro e we ⟨rfl, hwe⟩
 have HBwe := Lib.hid (HBwd.out.trans (hwe.mono HBwd.out.size))
 clear hwe
 refine hK.out _ _ (HBX.out.below (HBwe.out)).held (fun hSwe => ?_)
 clear hK K
 try simp only [q0P, q0Q, q0R, q0S]
 refine tkH 19 (v := ?_) rfl ?_ ?_
 rotate_left
 ·(intro wq hSq; (try dsimp only at hSq); go_simp; try with_reducible rfl)
 try simp only [q0P, q0Q, q0R, q0S]
 refine tkH 20 (v := ?_) rfl ?_ ?_
 rotate_left
 ·(intro wq hSq; (try dsimp only at hSq); go_simp; try with_reducible rfl)
 try simp only [q0P, q0Q, q0R, q0S]
 refine wpAnyH_end (by kernel_rfl) ?_
 go_wp2_with fail
 go_ret
 exact ⟨by simp only [List.append_assoc]; rfl, HB1.out.trans (HBwe.out.mono HB1.out.size)⟩
end
/- Walks: the reference's queue of jobs: the short journal. Printed by gen_rd3.py. -/
section
open Go.RowKit Go.Shelf
/-- What holds while the short journal is made. -/
structure RSh (B p : Nat) (v dp : Value) (last : Int) (down : Bool) (js : List Jb) (w0 : World) (u : Value) (l : List (List UInt8)) (W : World) : Prop where
 (qa : RQueueAt W p dp v last down)
 (ja : W.owns 0 48 9 v js.length (jobsL js))
 (pl : p < B)
 (vl : ∀ k, v.ownBlock = some k → k < B)
 (ow : W.owns B 9 1 u l.length (l.map strV))
 (bl : Below B w0 W)
 (le : B ≤ W.heap.size)
theorem RSh.below {B p : Nat} {v dp : Value} {last : Int} {down : Bool} {js : List Jb} {w0 : World} {u : Value} {l : List (List UInt8)} {W W' : World} (h : RSh B p v dp last down js w0 u l W) (hb : Below W.heap.size W W') : RSh B p v dp last down js w0 u l W' :=
 ⟨(hb.block _ (lt_of_heap h.qa)).trans h.qa, h.ja.below hb, h.pl, h.vl, h.ow.below hb, h.bl.trans (hb.mono h.le), Nat.le_trans h.le hb.size⟩
theorem RSh.push {B p : Nat} {v dp : Value} {last : Int} {down : Bool} {js : List Jb} {w0 : World} {u u' : Value} {l l' : List (List UInt8)} {W W' : World} (h : RSh B p v dp last down js w0 u l W)
  (ho : W'.owns B 9 1 u' l'.length (l'.map strV)) (hg : W.grownBy W' u.ownBlock) : RSh B p v dp last down js w0 u' l' W' :=
 ⟨(hg.block _ (lt_of_heap h.qa) (fun e => by have := (h.ow.lt _ e.symm).1; have := h.pl; omega)).trans h.qa, h.ja.kept hg (by
  cases hv : v.ownBlock with
  | none => exact .inl rfl
  | some k => exact .inr (fun e => by have := (h.ow.lt _ e.symm).1; have := h.vl _ hv; omega)), h.pl, h.vl, ho, h.bl.grown hg h.le (fun k hk => (h.ow.lt k hk).1), Nat.le_trans h.le hg.size⟩
theorem rfshort_any (p : Nat) (dp v : Value) (down : Bool) (q : Qs) (w : World) (hq : RQueueAt w p dp v q.last down) (hv : JobsAt w v q.jobs) (ho : q.ok) :
  Calls Tryz.prog 84 #[.pointer (some ⟨p, 0, none⟩)] w fun e w' => (∃ u, e = .returned u ∧ w'.owns w.heap.size 9 1 u q.short.length (q.short.map strV)) ∧ Below w.heap.size w w' := by
 have HO := Lib.hid ho
 have hlen := ho.len
 obtain ⟨va, vc, rfl⟩ : ∃ a c, v = .slice a q.jobs.length c := by
  rcases hv.2 with ⟨e, h0⟩ | ⟨g, c, _, _, e, _⟩
  ·exact ⟨none, 0, by rw [e, h0]⟩
  ·exact ⟨_, c, e⟩
 obtain ⟨-, k1, k2, -, -, -, -⟩ := hq.cells
 have S0 : RSh w.heap.size p (.slice va q.jobs.length vc) dp q.last down q.jobs w (.slice none 0 0) [] w :=
  ⟨hq, hv, lt_of_heap hq, fun k hk => (hv.lt k hk).2, World.owns_nil _ _ _ _, Below.refl _ _, Nat.le_refl _⟩
 have HS0 := Lib.hid S0
 obtain ⟨n, hn⟩ : ∃ n, n = q.jobs.length := ⟨_, rfl⟩
 rw [← hn] at hlen k1
 have HN := Lib.hid hn
 rw [← HN.out] at HS0
 clear hq hv S0 hn ho
 go_enter Tryz.func84, Tryz.ntmps84
 go_wp2_with fail
 go_loopw [3, 4, 5, 6] (fun uu ii _ _ wr => ∃ (k : Nat) (u : Value), k ≤ n ∧ ii = .int .i64 (k : Int) ∧ u = uu ∧ Hid (RSh w.heap.size p (.slice va n vc) dp q.last down q.jobs w u ((q.jobs.take k).flatMap shortJ) wr)) (fun _ ii _ _ _ => n - (intOf ii).toNat)
 case atStart => exact ⟨0, _, Nat.zero_le _, rfl, rfl, HS0.out⟩
 case round =>
  obtain ⟨k, u, hk, rfl, rfl, hS⟩ := hrel
  obtain ⟨-, k1, k2, -, -, -, -⟩ := hS.out.qa.cells
  by_cases hlt : k < n
  ·obtain ⟨j, hj⟩ : ∃ j, q.jobs[k]? = some j := ⟨_, List.getElem?_eq_getElem (by rw [← HN.out]; exact hlt)⟩
   obtain ⟨g, cap', hgc, hgl, c0, c1, c2, c3, c4, c5, c6, c7, c8⟩ := JobsAt.cells (w := wr) (v := .slice va q.jobs.length vc) (by rw [← HN.out]; exact hS.out.ja) k j hj
   injection hgc with ha hnn hcc
   clear hnn hcc
   subst ha
   have hjo := HO.out.job j (List.mem_of_getElem? hj)
   have HJO := Lib.hid hjo
   have HJ := Lib.hid hj
   obtain ⟨A, hA⟩ : ∃ A, A = (q.jobs.take k).flatMap shortJ := ⟨_, rfl⟩
   rw [← hA] at hS
   have HA := Lib.hid hA
   have hAl : A.length ≤ 1100 := by
    have h1 := shorts_length (q.jobs.take k) (fun j hj => (HO.out.job j (List.mem_of_mem_take hj)).tr)
    rw [← hA, List.length_take] at h1
    omega
   have HAL := Lib.hid hAl
   obtain ⟨b, hb⟩ : ∃ b, b = wr.heap.size := ⟨_, rfl⟩
   obtain ⟨W1, hW1⟩ : ∃ W, W = wr.alloc (.cells j.cells.toArray 48) := ⟨_, rfl⟩
   have hb1 : Below wr.heap.size wr W1 := by rw [hW1]; exact (Below.refl _ wr).alloc (Nat.le_refl _) _
   have bx1 : BoxAt W1 b j := by rw [hW1, hb]; exact alloc_last _ _ rfl
   have HS1 := Lib.hid (hS.out.below hb1)
   have HBX := Lib.hid bx1
   have HW1 := Lib.hid hW1
   have HB := Lib.hid hb
   have HSB := Lib.hid (rfsubmitted_any j (by have := hjo.id1; have := HO.out.last; omega) (by have := hjo.prio; omega) (by have := hjo.cl; unfold labelB at this; simp at this; omega) (by have := hjo.tk; unfold labelB at this; simp at this; omega) (by have := hjo.wk; omega))
   clear hS hA hAl hb1 bx1 hW1 hb hj hjo
   unfold strV at HSB c1 c2 c6 c7 c8
   unfold Jb.val Jb.cells strV at HSB
   unfold Jb.cells strV at HW1
   go_upto_region 6 with (fail)
   rw [← HW1.out, ← HB.out]
   clear HW1 HB c0 c1 c2 c3 c4 c5 c6 c7 c8 k1 k2
   obtain ⟨d0, d1, d2, d3, d4, d5, d6, d7, d8⟩ := HBX.out.all
   go_wp2_with fail
   refine (HSB.out W1).mono ?_
   rintro e w2 ⟨rfl, hb2⟩
   have HS2 := Lib.hid (HS1.out.below hb2)
   have HBX2 := Lib.hid (HBX.out.below hb2)
   clear hb2 d0 d1 d2 d3 d4 d5 d6 d7 d8 HS1 HBX HSB
   have htr := HJO.out.tr
   obtain ⟨m, hm⟩ : ∃ m, m = j.tries := ⟨_, rfl⟩
   rw [← hm] at htr
   have HM := Lib.hid hm
   clear hm
   go_wp2_with (at_builtin; refine wpList_pushS rfl (.tmp 23) (.tmp 26) rfl w.heap.size _ A rfl HS2.out.ow (subB j) _ rfl rfl (by have := HAL.out; omega) HS2.out.le ?_; intro v4 w4 ho4 hg4; have HS4 := Lib.hid (HS2.out.push ho4 hg4); have HBX4 := Lib.hid (HBX2.out.push HS2.out.ow hg4); obtain ⟨d0, d1, d2, d3, d4, d5, d6, d7, d8⟩ := HBX4.out.all; rw [← HM.out] at d5; clear ho4 hg4)
   have hA0 : A ++ [subB j] = A ++ subB j :: List.replicate 0 (recB 2 j.id) := rfl
   have HS5 := Lib.hid HS4.out
   rw [hA0] at HS5
   clear hA0 HS4 HS2 HBX2
   have HRC := Lib.hid (rftaken_any j.id (by have := HJO.out.id1; have := HO.out.last; omega))
   unfold strV at HRC
   obtain ⟨wo, hwo⟩ : ∃ x, x = w4 := ⟨_, rfl⟩
   subst hwo
   go_wp2_with fail
   go_loopw [3, 6] (fun uu ii wr2 => ∃ (s : Nat) (u2 : Value), s ≤ m ∧ ii = .int .i64 (s : Int) ∧ u2 = uu ∧ Hid (RSh w.heap.size p (.slice (some ⟨g, 0, none⟩) n vc) dp q.last down q.jobs w u2 (A ++ subB j :: List.replicate s (recB 2 j.id)) wr2) ∧ Hid (BoxAt wr2 b j)) (fun _ ii _ => m - (intOf ii).toNat)
   case atStart => exact ⟨0, _, Nat.zero_le _, rfl, rfl, HS5.out, HBX4.out⟩
   case round =>
    obtain ⟨s, u2, hs, rfl, rfl, hS2, hX2⟩ := hrel
    clear d0 d1 d2 d3 d4 d5 d6 d7 d8 HS5 HBX4
    obtain ⟨d0, d1, d2, d3, d4, d5, d6, d7, d8⟩ := hX2.out.all
    rw [← HM.out] at d5
    by_cases hst : s < m
    ·go_wp2_with fail
     refine (HRC.out _).mono ?_
     rintro e w5 ⟨rfl, hb5⟩
     have HS6 := Lib.hid (hS2.out.below hb5)
     have HBX6 := Lib.hid (hX2.out.below hb5)
     clear hb5 hS2 hX2 d0 d1 d2 d3 d4 d5 d6 d7 d8
     go_wp2_with (at_builtin; refine wpList_pushS rfl (.tmp 34) (.tmp 38) rfl w.heap.size _ (A ++ subB j :: List.replicate s (recB 2 j.id)) rfl HS6.out.ow (recB 2 j.id) _ rfl rfl (by have := HAL.out; simp only [List.length_append, List.length_cons, List.length_replicate]; omega) HS6.out.le ?_; intro v7 w7 ho7 hg7; have HS7 := Lib.hid (HS6.out.push ho7 hg7); have HBX7 := Lib.hid (HBX6.out.push HS6.out.ow hg7); obtain ⟨d0, d1, d2, d3, d4, d5, d6, d7, d8⟩ := HBX7.out.all; clear ho7 hg7)
     go_roundw
     case rel =>
      refine ⟨s + 1, _, by omega, by go_num, rfl, ?_, HBX7.out⟩
      have h := HS7.out
      rw [List.append_assoc, List.cons_append, ← List.replicate_succ'] at h
      exact h
     case measure => simp [intOf]; omega
    ·obtain rfl : s = m := by omega
     obtain ⟨A1, hA1⟩ : ∃ A1, A1 = A ++ subB j :: List.replicate s (recB 2 j.id) := ⟨_, rfl⟩
     rw [← hA1] at hS2
     have hA1l : A1.length ≤ 1200 := by have := HAL.out; rw [hA1]; simp only [List.length_append, List.length_cons, List.length_replicate]; omega
     have HA1 := Lib.hid hA1
     have HA1L := Lib.hid hA1l
     clear hA1 hA1l HRC
     have HOV := Lib.hid (rfover_any j.id j.state j.result (by have := HJO.out.id1; have := HO.out.last; omega) (by have := HJO.out.s5; omega) (by have := HJO.out.rs; omega))
     have HE2 := Lib.hid (fun W => rfended_any j.state W)
     unfold strV at HOV
     by_cases hp0 : j.point = []
     ·have hpe : (bytesOf j.point).toList.isEmpty = true := by rw [hp0, ByteArray.toList_eq]; rfl
      have HP0 := Lib.hid hp0
      clear hp0
      by_cases hen : endedB j.state = true
      ·have HENH := Lib.hid hen
       rw [hen] at HE2
       clear hen
       go_wp2_with fail
       refine (HE2.out _).mono ?_
       rintro e w8 ⟨rfl, rfl⟩
       go_wp2_with fail
       refine (HOV.out _).mono ?_
       rintro e w9 ⟨rfl, hb9⟩
       have HS9 := Lib.hid (hS2.out.below hb9)
       have HBX9 := Lib.hid (hX2.out.below hb9)
       clear hb9 d0 d1 d2 d3 d4 d5 d6 d7 d8
       go_wp2_with (at_builtin; refine wpList_pushS rfl (.tmp 54) (.tmp 62) rfl w.heap.size _ A1 rfl HS9.out.ow (overB j.id j.state j.result) _ rfl rfl (by have := HA1L.out; omega) HS9.out.le ?_; intro v10 w10 ho10 hg10; have HS10 := Lib.hid (HS9.out.push ho10 hg10); have HBX10 := Lib.hid (HBX9.out.push HS9.out.ow hg10); obtain ⟨d0, d1, d2, d3, d4, d5, d6, d7, d8⟩ := HBX10.out.all; clear ho10 hg10)
       go_roundw
       case rel =>
        refine ⟨k + 1, _, by omega, by go_num, rfl, ?_⟩
        have h := HS10.out
        have e : (q.jobs.take (k + 1)).flatMap shortJ = A1 ++ [overB j.id j.state j.result] := by
         rw [List.take_add_one, HJ.out]
         simp only [Option.toList_some, List.flatMap_append, List.flatMap_cons, List.flatMap_nil, List.append_nil]
         rw [← HA.out]
         rw [HA1.out]
         unfold shortJ
         rw [if_pos HENH.out]
         simp [List.append_assoc, ← HM.out, HP0.out]
        rw [e]
        exact h
       case measure => simp [intOf]; omega
      ·have hen' : endedB j.state = false := by simpa using hen
       rw [hen'] at HE2
       have HENH := Lib.hid hen
       clear hen hen'
       go_wp2_with fail
       refine (HE2.out _).mono ?_
       rintro e w8 ⟨rfl, rfl⟩
       go_wp2_with fail
       go_roundw
       case rel =>
        refine ⟨k + 1, _, by omega, by go_num, rfl, ?_⟩
        have h := hS2.out
        have e : (q.jobs.take (k + 1)).flatMap shortJ = A1 := by
         rw [List.take_add_one, HJ.out]
         simp only [Option.toList_some, List.flatMap_append, List.flatMap_cons, List.flatMap_nil, List.append_nil]
         rw [← HA.out]
         rw [HA1.out]
         unfold shortJ
         rw [if_neg HENH.out]
         simp [List.append_assoc, ← HM.out, HP0.out]
        rw [e]
        exact h
       case measure => simp [intOf]; omega
     ·have hpe : (bytesOf j.point).toList.isEmpty = false := by
       rw [Bool.eq_false_iff]
       intro h
       exact hp0 (by
        have : (bytesOf j.point).toList = [] := by simpa using h
        rw [ByteArray.toList_eq] at this
        simpa [bytesOf] using this)
      have HP0 := Lib.hid hp0
      clear hp0
      have HR3 := Lib.hid (rfsaved_any j.id j.point (by have := HJO.out.id1; have := HO.out.last; omega) (by have := HJO.out.pt; omega))
      unfold strV at HR3
      go_wp2_with fail
      refine (HR3.out _).mono ?_
      rintro e w11 ⟨rfl, hb11⟩
      have HS9 := Lib.hid (hS2.out.below hb11)
      have HBX9 := Lib.hid (hX2.out.below hb11)
      clear hb11 d0 d1 d2 d3 d4 d5 d6 d7 d8 hS2 hX2
      go_wp2_with (at_builtin; refine wpList_pushS rfl (.tmp 43) (.tmp 49) rfl w.heap.size _ A1 rfl HS9.out.ow (recB 3 j.id ++ textB j.point) _ rfl rfl (by have := HA1L.out; omega) HS9.out.le ?_; intro v11 w11 ho11 hg11; have HS11 := Lib.hid (HS9.out.push ho11 hg11); have HBX11 := Lib.hid (HBX9.out.push HS9.out.ow hg11); obtain ⟨d0, d1, d2, d3, d4, d5, d6, d7, d8⟩ := HBX11.out.all; clear ho11 hg11)
      obtain ⟨A2, hA2⟩ : ∃ A2, A2 = A1 ++ [recB 3 j.id ++ textB j.point] := ⟨_, rfl⟩
      rw [← hA2] at HS11
      have hA2l : A2.length ≤ 1300 := by have := HA1L.out; rw [hA2, List.length_append, List.length_singleton]; omega
      have HA2 := Lib.hid hA2
      have HA2L := Lib.hid hA2l
      clear hA2 hA2l HS9 HBX9
      by_cases hen : endedB j.state = true
      ·have HENH := Lib.hid hen
       rw [hen] at HE2
       clear hen
       go_wp2_with fail
       refine (HE2.out _).mono ?_
       rintro e w8 ⟨rfl, rfl⟩
       go_wp2_with fail
       refine (HOV.out _).mono ?_
       rintro e w9 ⟨rfl, hb9⟩
       have HS9 := Lib.hid (HS11.out.below hb9)
       have HBX9 := Lib.hid (HBX11.out.below hb9)
       clear hb9 d0 d1 d2 d3 d4 d5 d6 d7 d8
       go_wp2_with (at_builtin; refine wpList_pushS rfl (.tmp 54) (.tmp 62) rfl w.heap.size _ A2 rfl HS9.out.ow (overB j.id j.state j.result) _ rfl rfl (by have := HA2L.out; omega) HS9.out.le ?_; intro v10 w10 ho10 hg10; have HS10 := Lib.hid (HS9.out.push ho10 hg10); have HBX10 := Lib.hid (HBX9.out.push HS9.out.ow hg10); obtain ⟨d0, d1, d2, d3, d4, d5, d6, d7, d8⟩ := HBX10.out.all; clear ho10 hg10)
       go_roundw
       case rel =>
        refine ⟨k + 1, _, by omega, by go_num, rfl, ?_⟩
        have h := HS10.out
        have e : (q.jobs.take (k + 1)).flatMap shortJ = A2 ++ [overB j.id j.state j.result] := by
         rw [List.take_add_one, HJ.out]
         simp only [Option.toList_some, List.flatMap_append, List.flatMap_cons, List.flatMap_nil, List.append_nil]
         rw [← HA.out]
         rw [HA2.out, HA1.out]
         unfold shortJ
         rw [if_pos HENH.out]
         simp [List.append_assoc, ← HM.out, HP0.out]
        rw [e]
        exact h
       case measure => simp [intOf]; omega
      ·have hen' : endedB j.state = false := by simpa using hen
       rw [hen'] at HE2
       have HENH := Lib.hid hen
       clear hen hen'
       go_wp2_with fail
       refine (HE2.out _).mono ?_
       rintro e w8 ⟨rfl, rfl⟩
       go_wp2_with fail
       go_roundw
       case rel =>
        refine ⟨k + 1, _, by omega, by go_num, rfl, ?_⟩
        have h := HS11.out
        have e : (q.jobs.take (k + 1)).flatMap shortJ = A2 := by
         rw [List.take_add_one, HJ.out]
         simp only [Option.toList_some, List.flatMap_append, List.flatMap_cons, List.flatMap_nil, List.append_nil]
         rw [← HA.out]
         rw [HA2.out, HA1.out]
         unfold shortJ
         rw [if_neg HENH.out]
         simp [List.append_assoc, ← HM.out, HP0.out]
        rw [e]
        exact h
       case measure => simp [intOf]; omega
  ·obtain rfl : k = n := by omega
   obtain ⟨-, -, y2, -, -, -, -⟩ := hS.out.qa.cells
   have hA : ((q.jobs.take k).flatMap shortJ) = q.jobs.flatMap shortJ := by rw [HN.out, List.take_length]
   have hS2 := hS.out
   rw [hA] at hS2
   have HS2 := Lib.hid hS2
   have hAl : (q.jobs.flatMap shortJ).length ≤ 100000 := by have := shorts_length q.jobs (fun j hj => (HO.out.job j hj).tr); have := HO.out.len; omega
   have HAL := Lib.hid hAl
   clear hA hS2 hS hAl
   by_cases hl : 0 < q.last
   ·have hl' : (0 : Int) < (q.last : Int) := by omega
    have hsh : q.short = q.jobs.flatMap shortJ ++ [recB 6 q.last] := by unfold Qs.short; rw [if_pos hl]
    have HSH := Lib.hid hsh
    have HRC := Lib.hid (rfbytes_any q.last 8 HO.out.last (by omega) (by omega))
    have f1 := rec_fold 6 6 rfl q.last
    have z0 : (bytesOf (numB q.last 8)).size = 8 := numB_length _ _
    generalize numB q.last 8 = R0 at HRC z0 f1
    clear hsh
    go_wp2_with fail
    refine (show Calls Tryz.prog 78 #[.int .i64 (q.last : Int), .int .i64 8] wr _ from HRC.out wr).mono ?_
    rintro e w2 ⟨rfl, hb2⟩
    have HS3 := Lib.hid (HS2.out.below hb2)
    clear hb2
    go_wp2_with (at_builtin; refine wpList_pushS rfl (.tmp 69) (.tmp 76) rfl w.heap.size _ (q.jobs.flatMap shortJ) rfl HS3.out.ow (recB 6 q.last) _ rfl rfl HAL.out HS3.out.le ?_; intro v4 w4 ho4 hg4; have HS4 := Lib.hid (HS3.out.push ho4 hg4); clear ho4 hg4)
    go_ret
    refine ⟨⟨_, rfl, ?_⟩, HS4.out.bl⟩
    rw [HSH.out]
    exact HS4.out.ow
   ·have hl' : ¬ (0 : Int) < (q.last : Int) := by omega
    have hsh : q.short = q.jobs.flatMap shortJ := by unfold Qs.short; rw [if_neg hl, List.append_nil]
    have HSH := Lib.hid hsh
    clear hsh
    go_wp2_with fail
    go_ret
    refine ⟨⟨_, rfl, ?_⟩, HS2.out.bl⟩
    rw [HSH.out]
    exact HS2.out.ow
end
/- Plain: a disk: what is written. -/
section
open Go.RowKit Go.Shelf
theorem putS_blocked (s : List UInt8) (st : Wr) (k : Nat) (h : st.failed = true) : (putS st k s).h = st.h ∧ (putS st k s).failed = true := by
 cases s with
 | nil => exact ⟨rfl, h⟩
 | cons c s => rw [putS_stop (by simp) (Or.inl h)]; exact ⟨rfl, rfl⟩
theorem putS_keeps (s : List UInt8) : ∀ (st : Wr) (k i : Nat), (i < k ∨ k + s.length ≤ i) → (putS st k s).h[i]? = st.h[i]? := by
 induction s with
 | nil => intro st k i _; rfl
 | cons c s ih =>
  intro st k i hi
  rw [putS]
  split
  ·rfl
  ·rw [ih _ _ _ (by rw [List.length_cons] at hi; omega)]
   simp only
   rw [List.getElem?_set_ne (by rw [List.length_cons] at hi; omega)]
theorem putS_full (s : List UInt8) : ∀ (st : Wr) (k : Nat), (putS st k s).failed = false → st.failed = false ∧ (∀ i, i < s.length → k + i < st.h.length → (putS st k s).h[k + i]? = s[i]?) := by
 induction s with
 | nil => intro st k h; exact ⟨h, fun i hi => by simp at hi⟩
 | cons c s ih =>
  intro st k h
  by_cases hb : st.failed = true ∨ st.fuse = 0
  ·rw [putS_stop (by simp) hb] at h; cases h
  ·rw [putS_step hb] at h ⊢
   obtain ⟨-, h2⟩ := ih _ _ h
   refine ⟨by cases hf : st.failed <;> simp_all, fun i hi hl => ?_⟩
   cases i with
   | zero =>
    rw [putS_keeps _ _ _ _ (Or.inl (by omega))]
    simp only [Nat.add_zero]
    rw [List.getElem?_set_self (by omega)]; rfl
   | succ i =>
    have := h2 i (by rw [List.length_cons] at hi; omega) (by simp; omega)
    rw [show k + (i + 1) = k + 1 + i by omega, this]; rfl
/-- So many bytes may be written. -/
def Wr.room (st : Wr) (m : Nat) : Prop := st.failed = false ∧ (st.fuse = -1 ∨ (m : Int) ≤ st.fuse)
theorem putS_room (s : List UInt8) : ∀ (st : Wr) (k m : Nat), st.room (s.length + m) → (putS st k s).room m := by
 induction s with
 | nil => intro st k m h; show st.room m; simpa using h
 | cons c s ih =>
  intro st k m h
  obtain ⟨h1, h2⟩ := h
  have hb : ¬ (st.failed = true ∨ st.fuse = 0) := by
   rw [h1]; simp at h2 ⊢; omega
  rw [putS_step hb]
  refine ih _ _ _ ⟨rfl, ?_⟩
  simp only
  rw [List.length_cons] at h2
  split <;> omega
/-- A mark is struck first and set last. -/
theorem mark_seq (st : Wr) (k : Nat) (f : Wr → Wr) (hk : k < st.h.length) (h1 : ∀ s : Wr, (f s).h[k]? = s.h[k]? ∧ (∀ i, i < k → (f s).h[i]? = s.h[i]?) ∧ (f s).h.length = s.h.length) (h2 : ∀ s : Wr, s.failed = true → (f s).h = s.h ∧ (f s).failed = true)
  (hf : (putS (f (putS st k [0])) k [1]).failed = true) :
  (putS (f (putS st k [0])) k [1]).h = st.h ∨ ((putS (f (putS st k [0])) k [1]).h[k]? = some 0 ∧ (∀ i, i < k → (putS (f (putS st k [0])) k [1]).h[i]? = st.h[i]?)) := by
 have hlast : (putS (f (putS st k [0])) k [1]).h = (f (putS st k [0])).h := by
  by_cases hb : (f (putS st k [0])).failed = true ∨ (f (putS st k [0])).fuse = 0
  ·rw [putS_stop (by simp) hb]
  ·rw [putS_step hb] at hf
   cases hf
 rw [hlast]
 by_cases hb : st.failed = true ∨ st.fuse = 0
 ·left
  have h3 : putS st k [0] = ⟨st.h, st.fuse, true⟩ := putS_stop (by simp) hb
  rw [h3]
  exact (h2 _ rfl).1
 ·right
  obtain ⟨a1, a2, -⟩ := h1 (putS st k [0])
  have h4 : (putS st k [0]).h = st.h.set k 0 := by rw [putS_step hb]; rfl
  refine ⟨by rw [a1, h4, List.getElem?_set_self hk], fun i hi => ?_⟩
  rw [a2 i hi, h4, List.getElem?_set_ne (by omega)]
end
/- Plain: a disk: records that stay, a record that is added. -/
section
open Go.RowKit Go.Shelf
theorem take_drop_congr {h h' : List UInt8} {e : Nat} (hh : ∀ i, i < e → h'[i]? = h[i]?) (a m : Nat) (ham : a + m ≤ e) : (h'.drop a).take m = (h.drop a).take m := by
 apply List.ext_getElem?
 intro i
 rw [List.getElem?_take, List.getElem?_take]
 split
 ·rw [List.getElem?_drop, List.getElem?_drop, hh _ (by omega)]
 ·rfl
theorem getD_congr {h h' : List UInt8} {k : Nat} (hh : h'[k]? = h[k]?) : h'.getD k 0 = h.getD k 0 := by rw [List.getD_eq_getElem?_getD, List.getD_eq_getElem?_getD, hh]
theorem nextR_congr {h h' : List UInt8} {g k e : Nat} {d : List UInt8} (hn : nextR h g k = some (e, d)) (hh : ∀ i, i < e → h'[i]? = h[i]?) (hl : h'.length = h.length) : nextR h' g k = some (e, d) := by
 obtain ⟨q1, q2, q3, q4, -⟩ := nextR_bounds hn
 have e0 := getD_congr (hh k (by omega))
 have e1 := take_drop_congr hh (k + 1) 4 (by omega)
 have hd : numL ((h.drop (k + 1)).take 4) = d.length := by
  unfold nextR at hn
  split at hn
  ·injection hn with hn
   injection hn with h1 h2
   omega
  ·cases hn
 have e2 := take_drop_congr hh (k + 1) (12 + d.length) (by omega)
 have e3 := take_drop_congr hh (k + 5) d.length (by omega)
 unfold nextR at hn ⊢
 rw [hl, e0, e1, hd, e2, e3]
 rw [hd] at hn
 exact hn
theorem nextR_off {h : List UInt8} {g k : Nat} (hk : h[k]? ≠ some 1) : nextR h g k = none := by
 unfold nextR
 rw [if_neg]
 rintro ⟨-, q, -⟩
 apply hk
 rw [List.getD_eq_getElem?_getD] at q
 cases hx : h[k]? with
 | none => rw [hx] at q; simp at q
 | some x => rw [hx] at q; simp at q; rw [q]
theorem lastF_cons (k : Nat) (x : Nat × List UInt8) (l : List (Nat × List UInt8)) : (((x :: l).getLast?.map (·.1)).getD k) = ((l.getLast?.map (·.1)).getD x.1) := by
 rw [List.getLast?_cons]
 cases hl : l.getLast? with
 | none => simp
 | some y => simp
/-- The records ahead of the end, in a half that is the same up to there. -/
theorem recF_ext {h h' : List UInt8} {g : Nat} (hl : h'.length = h.length) : ∀ (f k : Nat), h.length ≤ k + f → (∀ i, i < ((recF h g f k).getLast?.map (·.1)).getD k → h'[i]? = h[i]?) →
  ∃ f', h.length ≤ ((recF h g f k).getLast?.map (·.1)).getD k + f' ∧ recF h' g f k = recF h g f k ++ recF h' g f' (((recF h g f k).getLast?.map (·.1)).getD k) ∧ nextR h g (((recF h g f k).getLast?.map (·.1)).getD k) = none := by
 intro f
 induction f with
 | zero =>
  intro k hk hh
  refine ⟨0, hk, rfl, ?_⟩
  show nextR h g k = none
  unfold nextR; rw [if_neg]; rintro ⟨q, -⟩; omega
 | succ f ih =>
  intro k hk hh
  cases hn : nextR h g k with
  | none =>
   rw [recF_none hn] at hh ⊢
   exact ⟨f + 1, hk, rfl, hn⟩
  | some y =>
   obtain ⟨e, d⟩ := y
   obtain ⟨q1, q2, -, -, -⟩ := nextR_bounds hn
   rw [recF_some hn] at hh ⊢
   rw [lastF_cons] at hh ⊢
   simp only at hh ⊢
   have hle : e ≤ ((recF h g f e).getLast?.map (·.1)).getD e := by
    cases hl2 : (recF h g f e).getLast? with
    | none => simp
    | some x => simp; exact (recF_bounds _ _ _ (List.mem_of_getLast? hl2)).1
   obtain ⟨f', h1, h2, h3⟩ := ih e (by omega) hh
   refine ⟨f', h1, ?_, h3⟩
   rw [recF_some (nextR_congr hn (fun i hi => hh i (by omega)) hl), h2]
   rfl
theorem recs_ext {h h' : List UInt8} {g : Nat} (hl : h'.length = h.length) (hh : ∀ i, i < endR h g → h'[i]? = h[i]?) :
  ∃ f', h.length ≤ endR h g + f' ∧ recs h' g = recs h g ++ recF h' g f' (endR h g) := by
 obtain ⟨f', h1, h2, -⟩ := recF_ext (g := g) hl h.length 17 (by omega) hh
 refine ⟨f', h1, ?_⟩
 unfold recs
 rw [hl]; exact h2
theorem recs_end {h : List UInt8} {g : Nat} : nextR h g (endR h g) = none := by
 obtain ⟨f', h1, h2, h3⟩ := recF_ext (h' := h) (g := g) rfl h.length 17 (by omega) (fun _ _ => rfl)
 exact h3
theorem recs_same {h h' : List UInt8} {g : Nat} (hl : h'.length = h.length) (hh : ∀ i, i < endR h g → h'[i]? = h[i]?) (hn : nextR h' g (endR h g) = none) : recs h' g = recs h g := by
 obtain ⟨f', h1, h2⟩ := recs_ext hl hh
 rw [h2, recF_none hn, List.append_nil]
theorem recs_more {h h' : List UInt8} {g e : Nat} {r : List UInt8} (hl : h'.length = h.length) (hh : ∀ i, i < endR h g → h'[i]? = h[i]?) (hn : nextR h' g (endR h g) = some (e, r)) (hn2 : nextR h' g e = none) : recs h' g = recs h g ++ [(e, r)] := by
 obtain ⟨f', h1, h2⟩ := recs_ext hl hh
 obtain ⟨q1, q2, -, -, -⟩ := nextR_bounds hn
 obtain ⟨f2, rfl⟩ : ∃ f2, f' = f2 + 1 := ⟨f' - 1, by omega⟩
 rw [h2, recF_some hn, recF_none hn2]
theorem genL_congr {h h' : List UInt8} (hh : ∀ i, i < 17 → h'[i]? = h[i]?) : genL h' = genL h := by
 have e0 := getD_congr (hh 0 (by omega))
 have e1 := take_drop_congr hh 1 8 (by omega)
 have e2 := take_drop_congr hh 9 8 (by omega)
 unfold genL genB
 rw [e0, e1, e2]
theorem genL_off {h : List UInt8} (hk : h[0]? = some 0) : genL h = 0 := by
 have : genB h = false := by
  unfold genB
  rw [List.getD_eq_getElem?_getD, hk]
  rfl
 unfold genL
 rw [this]; rfl
end
/- Plain: a disk: numbers that are written; a record that is added; all that are replaced. -/
section
open Go.RowKit Go.Shelf
theorem numF_add (b : List UInt8) : ∀ n : Nat, b.foldl (fun n c => n * 256 + c.toNat) n = n * 256 ^ b.length + b.foldl (fun n c => n * 256 + c.toNat) 0 := by
 induction b with
 | nil => intro n; simp
 | cons c b ih =>
  intro n
  rw [List.foldl_cons, List.foldl_cons, ih (n * 256 + c.toNat), ih (0 * 256 + c.toNat), List.length_cons, Nat.pow_succ, Nat.zero_mul, Nat.zero_add, Nat.add_mul, Nat.mul_assoc, Nat.mul_comm 256 (256 ^ b.length), Nat.add_assoc]
theorem numL_append (a b : List UInt8) : numL (a ++ b) = numL a * 256 ^ b.length + numL b := by
 unfold numL
 rw [List.foldl_append, numF_add]
theorem numL_wbytes (x : BitVec 64) : ∀ k, k ≤ 8 → numL (wbytes x k) = x.toNat / 2 ^ (64 - 8 * k) := by
 intro k
 induction k with
 | zero =>
  intro _
  have := x.isLt
  rw [Nat.div_eq_of_lt (by simpa using this)]
  rfl
 | succ k ih =>
  intro hk
  rw [wbytes_succ, numL_snoc, ih (by omega)]
  unfold wbyte
  rw [UInt8.toNat_ofNat', show 64 - 8 * k = (64 - 8 * (k + 1)) + 8 by omega, Nat.pow_add, ← Nat.div_div_eq_div_mul, show 56 - 8 * k = 64 - 8 * (k + 1) by omega]
  generalize x.toNat / 2 ^ (64 - 8 * (k + 1)) = y
  omega
theorem wof_toNat (g : Nat) (hg : g < 18446744073709551616) : (wof (g : Int)).toNat = g := by
 unfold wof
 rw [BitVec.ofInt_natCast, BitVec.toNat_ofNat]
 exact mod64 g hg
theorem numL_eight (g : Nat) (hg : g < 18446744073709551616) : numL (eightL g) = g := by
 unfold eightL
 rw [numL_wbytes _ 8 (by omega), wof_toNat g hg]
 simp
theorem wbytes_take (x : BitVec 64) (k : Nat) (hk : k ≤ 8) : (wbytes x 8).take k = wbytes x k := by
 unfold wbytes
 rw [← List.map_take, List.take_range]
 congr 2
 omega
theorem numL_four (n : Nat) (hn : n ≤ 65535) : numL ((eightL n).drop 4) = n := by
 have h := numL_append ((eightL n).take 4) ((eightL n).drop 4)
 rw [List.take_append_drop, numL_eight n (by omega)] at h
 have h4 : numL ((eightL n).take 4) = 0 := by
  unfold eightL
  rw [wbytes_take _ 4 (by omega), numL_wbytes _ 4 (by omega), wof_toNat n (by omega)]
  omega
 rw [h4] at h
 omega
theorem body_four (g k : Nat) (r : List UInt8) : (bodyL g k r).take 4 = (eightL r.length).drop 4 := by
 unfold bodyL
 rw [List.append_assoc, List.take_append_of_le_length (by rw [List.length_drop, eightL_length]; omega), List.take_of_length_le (by rw [List.length_drop, eightL_length]; omega)]
theorem body_mid (g k : Nat) (r : List UInt8) : ((bodyL g k r).drop 4).take r.length = r := by
 unfold bodyL
 rw [List.append_assoc, List.drop_append, List.drop_of_length_le (by rw [List.length_drop, eightL_length]; omega), List.nil_append, List.length_drop, eightL_length]
 simp
theorem nextR_written {h : List UInt8} {g k : Nat} {r : List UInt8} (h1 : h[k]? = some 1) (hb : ∀ i, i < 12 + r.length → h[k + 1 + i]? = (bodyL g k r)[i]?) (hl : k + 13 + r.length ≤ h.length) (hr : r.length ≤ 65535) :
  nextR h g k = some (k + 13 + r.length, r) := by
 have hbl := bodyL_length g k r
 have e0 : (h.drop (k + 1)).take (12 + r.length) = bodyL g k r := by
  apply List.ext_getElem?
  intro i
  rw [List.getElem?_take]
  split
  ·rw [List.getElem?_drop, hb i (by omega)]
  ·rw [List.getElem?_eq_none (by omega)]
 have e1 : (h.drop (k + 1)).take 4 = (eightL r.length).drop 4 := by
  rw [← body_four g k r, ← e0, List.take_take]
  congr 1
  omega
 have e2 : (h.drop (k + 5)).take r.length = r := by
  have : (h.drop (k + 5)).take r.length = ((bodyL g k r).drop 4).take r.length := by
   rw [← e0, List.drop_take, List.drop_drop, List.take_take]
   rw [show min r.length (12 + r.length - 4) = r.length by omega]
  rw [this, body_mid]
 have e3 : h.getD k 0 = 1 := by rw [List.getD_eq_getElem?_getD, h1]; rfl
 unfold nextR
 rw [e1, numL_four _ hr, e0, e2, if_pos ⟨by omega, e3, hr, hl, rfl⟩]
theorem app_law (st : Wr) (n g : Nat) (r : List UInt8) (hf : st.failed = false) (hn : st.h.length = n) (h64 : 64 ≤ n) (hl : endR st.h g + 13 + r.length ≤ n) (hr : r.length ≤ 65535) :
  (appS st n g (endR st.h g) r).h.length = n ∧ genL (appS st n g (endR st.h g) r).h = genL st.h ∧
   ((appS st n g (endR st.h g) r).failed = true → recs (appS st n g (endR st.h g) r).h g = recs st.h g) ∧
   ((appS st n g (endR st.h g) r).failed = false → recs (appS st n g (endR st.h g) r).h g = recs st.h g ++ [(endR st.h g + 13 + r.length, r)]) := by
 obtain ⟨h17, hle⟩ := endR_bounds (h := st.h) g (by omega)
 have hend := recs_end (h := st.h) (g := g)
 obtain ⟨K, hK⟩ : ∃ K, K = endR st.h g := ⟨_, rfl⟩
 have hlen : (appS st n g K r).h.length = n := by
  unfold appS
  rw [putS_length, putS_length]
  split
  ·rw [putS_length, putS_length, hn]
  ·rw [putS_length, hn]
 have hbelow : ∀ i, i < K → (appS st n g K r).h[i]? = st.h[i]? := by
  intro i hi
  unfold appS
  rw [putS_keeps _ _ _ _ (Or.inl hi), putS_keeps _ _ _ _ (Or.inl (by omega))]
  split
  ·rw [putS_keeps _ _ _ _ (Or.inl (by omega)), putS_keeps _ _ _ _ (Or.inl hi)]
  ·rw [putS_keeps _ _ _ _ (Or.inl hi)]
 rw [← hK] at hl hend h17 hle ⊢
 refine ⟨hlen, genL_congr (fun i hi => hbelow i (by omega)), fun h => ?_, fun h => ?_⟩
 ·have hm := mark_seq st K (fun s => putS (if K + 13 + r.length < n then putS s (K + 13 + r.length) [0] else s) (K + 1) (bodyL g K r)) (by omega)
   (fun s => by
    refine ⟨?_, fun i hi => ?_, ?_⟩
    ·rw [putS_keeps _ _ _ _ (Or.inl (by omega))]
     split
     ·rw [putS_keeps _ _ _ _ (Or.inl (by omega))]
     ·rfl
    ·rw [putS_keeps _ _ _ _ (Or.inl (by omega))]
     split
     ·rw [putS_keeps _ _ _ _ (Or.inl (by omega))]
     ·rfl
    ·rw [putS_length]
     split
     ·rw [putS_length]
     ·rfl)
   (fun s hs => by
    split
    ·obtain ⟨a1, a2⟩ := putS_blocked [0] s (K + 13 + r.length) hs
     obtain ⟨b1, b2⟩ := putS_blocked (bodyL g K r) _ (K + 1) a2
     exact ⟨b1.trans a1, b2⟩
    ·exact putS_blocked _ _ _ hs) h
  refine recs_same (by rw [hlen, hn]) (by rw [← hK]; exact hbelow) ?_
  rw [← hK]
  rcases hm with hm | ⟨hm, -⟩
  ·show nextR (appS st n g K r).h g K = none
   rw [show (appS st n g K r).h = st.h from hm]
   exact hend
  ·exact nextR_off (by rw [show (appS st n g K r).h[K]? = some 0 from hm]; simp)
 ·have h4 := h
  unfold appS at h4
  obtain ⟨f3, c4⟩ := putS_full _ _ _ h4
  obtain ⟨f2, c3⟩ := putS_full _ _ _ f3
  have hlen2 : (if K + 13 + r.length < n then putS (putS st K [0]) (K + 13 + r.length) [0] else putS st K [0]).h.length = n := by
   split
   ·rw [putS_length, putS_length, hn]
   ·rw [putS_length, hn]
  have hbl := bodyL_length g K r
  have hnx : nextR (appS st n g K r).h g K = some (K + 13 + r.length, r) := by
   refine nextR_written ?_ (fun i hi => ?_) (by rw [hlen]; exact hl) hr
   ·have := c4 0 (by simp) (by rw [putS_length, hlen2]; omega)
    exact this
   ·unfold appS
    rw [putS_keeps _ _ _ _ (Or.inr (by simp only [List.length_singleton]; omega)), c3 i (by omega) (by rw [hlen2]; omega)]
  have hno : nextR (appS st n g K r).h g (K + 13 + r.length) = none := by
   refine nextR_off ?_
   unfold appS
   rw [putS_keeps _ _ _ _ (Or.inr (by simp only [List.length_singleton]; omega)), putS_keeps _ _ _ _ (Or.inr (by omega))]
   by_cases hlt : K + 13 + r.length < n
   ·rw [if_pos hlt] at f2 ⊢
    obtain ⟨-, c2⟩ := putS_full _ _ _ f2
    have := c2 0 (by simp) (by rw [putS_length, hn]; omega)
    rw [show K + 13 + r.length + 0 = K + 13 + r.length from rfl] at this
    rw [this]; simp
   ·rw [if_neg hlt, List.getElem?_eq_none (by rw [putS_length, hn]; omega)]; simp
  have := recs_more (h := st.h) (g := g) (by rw [hlen, hn]) (by rw [← hK]; exact hbelow) (by rw [← hK]; exact hnx) hno
  exact this
end
/- Plain: a disk: all records are replaced. -/
section
open Go.RowKit Go.Shelf
theorem encT_prefix (g : Nat) (a b : List (List UInt8)) : ∃ rest, encT g (a ++ b) = encT g a ++ rest := by
 induction b using rev_ind with
 | h0 => exact ⟨[], by simp⟩
 | h1 b s ih =>
  obtain ⟨rest, h⟩ := ih
  rw [← List.append_assoc, encT_snoc, h]
  exact ⟨rest ++ 1 :: bodyL g (17 + (encT g a ++ rest).length) s, by rw [List.append_assoc]⟩
theorem recs_text {h : List UInt8} {g n : Nat} {l : List (List UInt8)} (hn : h.length = n) (h17 : 17 ≤ n) (hs : sumR l ≤ n) (hl : ∀ s ∈ l, s.length ≤ 65535) (ht : ∀ i, h[17 + i]? = (padT (n - 17) (encT g l))[i]?) :
  (recs h g).map (·.2) = l ∧ endR h g = sumR l := by
 have hel := encT_length g l
 have key : ∀ j, j ≤ l.length → ∃ f' pre, n ≤ 17 + (encT g (l.take j)).length + f' ∧ recs h g = pre ++ recF h g f' (17 + (encT g (l.take j)).length) ∧ pre.map (·.2) = l.take j ∧ lastE pre = 17 + (encT g (l.take j)).length := by
  intro j
  induction j with
  | zero => intro _; exact ⟨n, [], by omega, by unfold recs; rw [hn]; rfl, rfl, rfl⟩
  | succ j ih =>
   intro hj
   obtain ⟨f', pre, h1, h2, h3, -⟩ := ih (by omega)
   obtain ⟨s, hs1⟩ : ∃ s, l[j]? = some s := ⟨l[j], List.getElem?_eq_getElem (by omega)⟩
   have htk : l.take (j + 1) = l.take j ++ [s] := by rw [List.take_add_one, hs1]; rfl
   have hse := encT_snoc g (l.take j) s
   rw [← htk] at hse
   obtain ⟨rest, hrest⟩ := encT_prefix g (l.take (j + 1)) (l.drop (j + 1))
   rw [List.take_append_drop, hse] at hrest
   obtain ⟨T, hT⟩ : ∃ T, T = encT g (l.take j) := ⟨_, rfl⟩
   rw [← hT] at h1 h2 hse hrest
   have hbl := bodyL_length g (17 + T.length) s
   have hle : T.length + 13 + s.length ≤ (encT g l).length := by
    rw [hrest, List.length_append, List.length_append, List.length_cons, hbl]; omega
   have hat : ∀ i, i < 13 + s.length → h[17 + T.length + i]? = (1 :: bodyL g (17 + T.length) s)[i]? := by
    intro i hi
    rw [show 17 + T.length + i = 17 + (T.length + i) by omega, ht]
    unfold padT
    rw [List.getElem?_append_left (by omega), hrest, List.append_assoc, List.getElem?_append_right (by omega), Nat.add_sub_cancel_left, List.getElem?_append_left (by rw [List.length_cons, hbl]; omega)]
   have hnx : nextR h g (17 + T.length) = some (17 + T.length + 13 + s.length, s) := by
    refine nextR_written ?_ (fun i hi => ?_) (by omega) (hl s (List.mem_of_getElem? hs1))
    ·have := hat 0 (by omega)
     exact this
    ·have := hat (i + 1) (by omega)
     rw [show 17 + T.length + (i + 1) = 17 + T.length + 1 + i by omega] at this
     rw [this]; rfl
   obtain ⟨f2, rfl⟩ : ∃ f2, f' = f2 + 1 := ⟨f' - 1, by omega⟩
   have hln : 17 + (encT g (l.take (j + 1))).length = 17 + T.length + 13 + s.length := by rw [hse, List.length_append, List.length_cons, hbl]; omega
   refine ⟨f2, pre ++ [(17 + T.length + 13 + s.length, s)], by omega, ?_, ?_⟩
   ·rw [h2, recF_some hnx, hln, List.append_assoc]; rfl
   ·refine ⟨by rw [List.map_append, h3, htk]; rfl, ?_⟩
    rw [lastE_snoc, hln]
 obtain ⟨f', pre, h1, h2, h3, h4⟩ := key l.length (Nat.le_refl _)
 rw [List.take_length] at h1 h2 h3 h4
 have hno : nextR h g (17 + (encT g l).length) = none := by
  refine nextR_off ?_
  rw [ht]
  unfold padT
  rw [List.getElem?_append_right (Nat.le_refl _), Nat.sub_self, List.getElem?_replicate]
  split <;> simp
 rw [recF_none hno, List.append_nil] at h2
 refine ⟨by rw [h2, h3], ?_⟩
 unfold endR
 rw [h2, h4]; omega
theorem rew_law (st : Wr) (n G : Nat) (l : List (List UInt8)) (hn : st.h.length = n) (h64 : 64 ≤ n) (hs : sumR l ≤ n) (hl : ∀ s ∈ l, s.length ≤ 65535) (hG : 1 ≤ G) (hG2 : G < 9223372036854775808) :
  (rewS st n G l).h.length = n ∧ ((rewS st n G l).failed = true → genL (rewS st n G l).h = genL st.h ∨ genL (rewS st n G l).h = 0) ∧
   ((rewS st n G l).failed = false → genL (rewS st n G l).h = G ∧ (recs (rewS st n G l).h G).map (·.2) = l ∧ endR (rewS st n G l).h G = sumR l) := by
 have hel := encT_length G l
 have hpl : (padT (n - 17) (encT G l)).length = n - 17 := padT_length _ _ (by omega)
 have hlen : (rewS st n G l).h.length = n := by
  unfold rewS
  rw [putS_length, putS_length, putS_length, putS_length, hn]
 have hhl : (eightL G ++ shortL (eightL G)).length = 16 := by rw [List.length_append, eightL_length, shortL_length]
 refine ⟨hlen, fun h => ?_, fun h => ?_⟩
 ·have hm := mark_seq st 0 (fun s => putS (putS s 17 (padT (n - 17) (encT G l))) 1 (eightL G ++ shortL (eightL G))) (by omega)
   (fun s => ⟨by rw [putS_keeps _ _ _ _ (Or.inl (by omega)), putS_keeps _ _ _ _ (Or.inl (by omega))], fun i hi => by omega, by rw [putS_length, putS_length]⟩)
   (fun s hs => by
    obtain ⟨a1, a2⟩ := putS_blocked (padT (n - 17) (encT G l)) s 17 hs
    obtain ⟨b1, b2⟩ := putS_blocked (eightL G ++ shortL (eightL G)) _ 1 a2
    exact ⟨b1.trans a1, b2⟩) h
  rcases hm with hm | ⟨hm, -⟩
  ·left; rw [show (rewS st n G l).h = st.h from hm]
  ·right; exact genL_off hm
 ·have h4 := h
  unfold rewS at h4
  obtain ⟨f3, c4⟩ := putS_full _ _ _ h4
  obtain ⟨f2, c3⟩ := putS_full _ _ _ f3
  obtain ⟨f1, c2⟩ := putS_full _ _ _ f2
  have e0 : (rewS st n G l).h[0]? = some 1 := c4 0 (by simp) (by rw [putS_length, putS_length, putS_length, hn]; omega)
  have e1 : ∀ i, i < 16 → (rewS st n G l).h[1 + i]? = (eightL G ++ shortL (eightL G))[i]? := by
   intro i hi
   unfold rewS
   rw [putS_keeps _ _ _ _ (Or.inr (by simp only [List.length_singleton]; omega))]
   exact c3 i (by omega) (by rw [putS_length, putS_length, hn]; omega)
  have e2 : ∀ i, (rewS st n G l).h[17 + i]? = (padT (n - 17) (encT G l))[i]? := by
   intro i
   rcases Nat.lt_or_ge i (n - 17) with hi | hi
   ·unfold rewS
    rw [putS_keeps _ _ _ _ (Or.inr (by simp only [List.length_singleton]; omega)), putS_keeps _ _ _ _ (Or.inr (by omega))]
    exact c2 i (by omega) (by rw [putS_length, hn]; omega)
   ·rw [List.getElem?_eq_none (by omega), List.getElem?_eq_none (by omega)]
  have d1 : ((rewS st n G l).h.drop 1).take 8 = eightL G := by
   apply List.ext_getElem?
   intro i
   rw [List.getElem?_take]
   split
   ·rw [List.getElem?_drop, e1 i (by omega), List.getElem?_append_left (by rw [eightL_length]; omega)]
   ·rw [List.getElem?_eq_none (by rw [eightL_length]; omega)]
  have d2 : ((rewS st n G l).h.drop 9).take 8 = shortL (eightL G) := by
   apply List.ext_getElem?
   intro i
   rw [List.getElem?_take]
   split
   ·rw [List.getElem?_drop, show 9 + i = 1 + (8 + i) by omega, e1 (8 + i) (by omega), List.getElem?_append_right (by rw [eightL_length]; omega), eightL_length, Nat.add_sub_cancel_left]
   ·rw [List.getElem?_eq_none (by rw [shortL_length]; omega)]
  have hg : genB (rewS st n G l).h = true := by
   unfold genB
   rw [d1, d2, numL_eight G (by omega), List.getD_eq_getElem?_getD, e0]
   simp
   omega
  refine ⟨?_, recs_text hlen (by omega) hs hl e2⟩
  unfold genL
  rw [hg, d1, numL_eight G (by omega)]; rfl
/-! ### counting -/
theorem app_room (st : Wr) (n g k : Nat) (r : List UInt8) (h : st.room (15 + r.length)) : (appS st n g k r).failed = false := by
 unfold appS
 have hb := bodyL_length g k r
 have h1 : (putS st k [0]).room (14 + r.length) := putS_room _ _ _ _ (by rw [show ([0] : List UInt8).length + (14 + r.length) = 15 + r.length by simp; omega]; exact h)
 have h2 : (if k + 13 + r.length < n then putS (putS st k [0]) (k + 13 + r.length) [0] else putS st k [0]).room (13 + r.length) := by
  split
  ·exact putS_room _ _ _ _ (by rw [show ([0] : List UInt8).length + (13 + r.length) = 14 + r.length by simp; omega]; exact h1)
  ·exact ⟨h1.1, by have := h1.2; omega⟩
 have h3 := putS_room (bodyL g k r) _ (k + 1) 1 (by rw [hb, show 12 + r.length + 1 = 13 + r.length by omega]; exact h2)
 exact (putS_room [1] _ k 0 (by simpa using h3)).1
end
/- Plain: a disk as a whole. -/
section
open Go.RowKit Go.Shelf
structure Dk.good (d : Dk) : Prop where
 ok : d.ok
 half : 0 ≤ d.half
theorem Dk.mk1 {d : Dk} (h : genL d.h0 < genL d.h1) : d.half = 1 ∧ d.act = d.h1 ∧ d.gen = genL d.h1 := by
 have h1 : d.half = 1 := by unfold Dk.half; rw [if_neg (by omega), if_pos h]
 refine ⟨h1, by unfold Dk.act; rw [if_pos h1], by unfold Dk.gen; rw [if_neg (by omega), if_pos h]⟩
theorem Dk.mk0 {d : Dk} (h : genL d.h1 ≤ genL d.h0) (h0 : 0 < genL d.h0) : d.half = 0 ∧ d.act = d.h0 ∧ d.gen = genL d.h0 := by
 have h1 : d.half = 0 := by unfold Dk.half; rw [if_neg (by omega), if_neg (by omega)]
 refine ⟨h1, by unfold Dk.act; rw [if_neg (by omega)], by unfold Dk.gen; rw [if_neg (by omega), if_neg (by omega)]⟩
theorem Dk.halves {d : Dk} (h : 0 ≤ d.half) : (genL d.h0 < genL d.h1) ∨ (genL d.h1 ≤ genL d.h0 ∧ 0 < genL d.h0) := by
 rcases Nat.lt_or_ge (genL d.h0) (genL d.h1) with q | q
 ·exact .inl q
 ·refine .inr ⟨q, ?_⟩
  rcases Nat.eq_zero_or_pos (genL d.h0) with z | z
  ·exfalso
   unfold Dk.half at h
   rw [if_pos ⟨z, by omega⟩] at h
   omega
  ·exact z
theorem texts_of {d : Dk} (h : 0 ≤ d.half) : d.texts = (recs d.act d.gen).map (·.2) := by unfold Dk.texts; rw [if_neg (by omega)]
theorem used_of {d : Dk} (h : 0 ≤ d.half) : d.used = endR d.act d.gen := by unfold Dk.used; rw [if_neg (by omega)]
theorem act_length {d : Dk} (ho : d.ok) : d.act.length = d.size := by unfold Dk.act; split; exact ho.l1; exact ho.l0
theorem appS_ok (st : Wr) (n g k : Nat) (r : List UInt8) (h : st.ok) : (appS st n g k r).ok := by
 unfold appS
 refine putS_ok _ _ _ (putS_ok _ _ _ ?_)
 split
 ·exact putS_ok _ _ _ (putS_ok _ _ _ h)
 ·exact putS_ok _ _ _ h
theorem rewS_ok (st : Wr) (n g : Nat) (l : List (List UInt8)) (h : st.ok) : (rewS st n g l).ok := putS_ok _ _ _ (putS_ok _ _ _ (putS_ok _ _ _ (putS_ok _ _ _ h)))
theorem put_ok {d : Dk} (ho : d.ok) (x : Int) (st : Wr) (hl : st.h.length = d.size) (hs : st.ok) : (d.put x st).ok := by
 unfold Dk.put
 split
 ·exact ⟨ho.l0, hl, ho.lo, ho.hi, hs.1, hs.2⟩
 ·exact ⟨hl, ho.l1, ho.lo, ho.hi, hs.1, hs.2⟩
theorem put_size (d : Dk) (x : Int) (st : Wr) : (d.put x st).size = d.size := by unfold Dk.put; split <;> rfl
theorem put_fuse (d : Dk) (x : Int) (st : Wr) : (d.put x st).fuse = st.fuse := by unfold Dk.put; split <;> rfl
theorem put_failed (d : Dk) (x : Int) (st : Wr) : (d.put x st).failed = st.failed := by unfold Dk.put; split <;> rfl
/-- What an Append leaves. -/
structure AppPost (d : Dk) (r : List UInt8) (e : Int) (d' : Dk) : Prop where
 good : d'.good
 size : d'.size = d.size
 ok0 : e = 0 → d'.texts = d.texts ++ [r] ∧ d'.used = d.used + 13 + r.length ∧ d'.failed = false
 down : e = 9 → d'.texts = d.texts
 else_ : e ≠ 0 → e ≠ 9 → d' = d
 gen : d'.gen = d.gen
theorem appended_post {d : Dk} (hg : d.good) (r : List UInt8) : AppPost d r (d.appended r).1 (d.appended r).2 := by
 have ho := hg.ok
 unfold Dk.appended
 by_cases h1 : d.failed = true
 ·rw [if_pos h1]; exact ⟨hg, rfl, fun h => (by cases h), fun _ => rfl, fun _ _ => rfl, rfl⟩
 rw [if_neg h1]
 by_cases h2 : 65535 < r.length
 ·rw [if_pos h2]; exact ⟨hg, rfl, fun h => (by cases h), fun h => (by cases h), fun _ _ => rfl, rfl⟩
 rw [if_neg h2, if_neg (by have := hg.half; omega)]
 by_cases h3 : d.size < d.used + 13 + r.length
 ·rw [if_pos h3]; exact ⟨hg, rfl, fun h => (by cases h), fun h => (by cases h), fun _ _ => rfl, rfl⟩
 rw [if_neg h3]
 have hf : d.wr.failed = false := by show d.failed = false; cases hx : d.failed; rfl; exact absurd hx h1
 have hal := act_length ho
 have hu := used_of hg.half
 have hokw : d.wr.ok := ⟨ho.f1, ho.f2⟩
 obtain ⟨q1, q2, q3, q4⟩ := app_law d.wr d.size d.gen r hf hal ho.lo (by show endR d.act d.gen + 13 + r.length ≤ d.size; rw [← hu]; omega) (by omega)
 have hend : ∀ X : List UInt8, recs X d.gen = recs d.act d.gen ++ [(endR d.act d.gen + 13 + r.length, r)] → endR X d.gen = endR d.act d.gen + 13 + r.length := fun X hX => by unfold endR; rw [hX, lastE_snoc]; rfl
 have e0 : endR d.wr.h d.gen = endR d.act d.gen := rfl
 have e1 : d.wr.h = d.act := rfl
 rw [e0, ← hu] at q1 q2 q3 q4
 rw [e1] at q2 q3 q4
 rw [← hu] at hend
 have hokS := appS_ok d.wr d.size d.gen d.used r hokw
 obtain ⟨S, hS⟩ : ∃ S, S = appS d.wr d.size d.gen d.used r := ⟨_, rfl⟩
 rw [← hS] at q1 q2 q3 q4 hokS ⊢
 have hpo := put_ok ho d.half S q1 hokS
 have key : (d.put d.half S).half = d.half ∧ (d.put d.half S).act = S.h ∧ (d.put d.half S).gen = d.gen := by
  rcases Dk.halves hg.half with hh | ⟨hh, hz⟩
  ·obtain ⟨a1, a2, a3⟩ := Dk.mk1 hh
   rw [a2] at q2
   have e : d.put d.half S = ⟨d.size, d.h0, S.h, S.fuse, S.failed⟩ := by unfold Dk.put; rw [if_pos a1]
   rw [e]
   obtain ⟨c1, c2, c3⟩ := Dk.mk1 (d := ⟨d.size, d.h0, S.h, S.fuse, S.failed⟩) (by simp only; rw [q2]; exact hh)
   exact ⟨c1.trans a1.symm, c2, by rw [c3, a3]; exact q2⟩
  ·obtain ⟨a1, a2, a3⟩ := Dk.mk0 hh hz
   rw [a2] at q2
   have e : d.put d.half S = ⟨d.size, S.h, d.h1, S.fuse, S.failed⟩ := by unfold Dk.put; rw [if_neg (by omega)]
   rw [e]
   obtain ⟨c1, c2, c3⟩ := Dk.mk0 (d := ⟨d.size, S.h, d.h1, S.fuse, S.failed⟩) (by simp only; rw [q2]; exact hh) (by simp only; rw [q2]; exact hz)
   exact ⟨c1.trans a1.symm, c2, by rw [c3, a3]; exact q2⟩
 obtain ⟨k1, k2, k3⟩ := key
 have hhalf : 0 ≤ (d.put d.half S).half := by rw [k1]; exact hg.half
 have ht := texts_of hhalf
 have hu2 := used_of hhalf
 rw [k2, k3] at ht hu2
 refine ⟨⟨hpo, hhalf⟩, put_size _ _ _, fun h => ?_, fun h => ?_, fun h h' => ?_, k3⟩
 ·have hsf : S.failed = false := by
   cases hx : S.failed
   ·rfl
   ·rw [show (S.err, d.put d.half S).1 = S.err from rfl] at h; unfold Wr.err at h; rw [hx] at h; cases h
  have q5 := q4 hsf
  refine ⟨?_, ?_, ?_⟩
  ·rw [ht, texts_of hg.half, q5, List.map_append]; rfl
  ·rw [hu2]; exact hend S.h (by rw [q5, hu])
  ·rw [put_failed]; exact hsf
 ·have hsf : S.failed = true := by
   cases hx : S.failed
   ·rw [show (S.err, d.put d.half S).1 = S.err from rfl] at h; unfold Wr.err at h; rw [hx] at h; cases h
   ·rfl
  rw [ht, texts_of hg.half, q3 hsf]
 ·exfalso
  rw [show (S.err, d.put d.half S).1 = S.err from rfl] at h h'
  unfold Wr.err at h h'
  split at h
  ·rename_i hx; rw [if_pos hx] at h'; exact h' rfl
  ·exact h rfl
structure RewPost (d : Dk) (l : List (List UInt8)) (e : Int) (d' : Dk) : Prop where
 good : d'.good
 size : d'.size = d.size
 ok0 : e = 0 → d'.texts = l ∧ d'.used = sumR l ∧ d'.failed = false ∧ d'.gen = d.gen + 1
 down : e = 9 → d'.texts = d.texts
 else_ : e ≠ 0 → e ≠ 9 → d' = d
theorem longAny_le {l : List (List UInt8)} (h : ¬ longAny l = true) : ∀ s ∈ l, s.length ≤ 65535 := by
 intro s hs
 unfold longAny at h
 rw [List.any_eq_true] at h
 rcases Nat.lt_or_ge 65535 s.length with q | q
 ·exact absurd ⟨s, hs, by simpa using q⟩ h
 ·exact q
theorem rewritten_post {d : Dk} (hg : d.good) (l : List (List UInt8)) : RewPost d l (d.rewritten l).1 (d.rewritten l).2 := by
 have ho := hg.ok
 unfold Dk.rewritten
 by_cases h1 : d.failed = true
 ·rw [if_pos h1]; exact ⟨hg, rfl, fun h => (by cases h), fun _ => rfl, fun _ _ => rfl⟩
 rw [if_neg h1]
 by_cases h2 : longAny l = true
 ·rw [if_pos h2]; exact ⟨hg, rfl, fun h => (by cases h), fun h => (by cases h), fun _ _ => rfl⟩
 rw [if_neg h2]
 by_cases h3 : d.size < sumR l ∨ d.gen = 9223372036854775807
 ·rw [if_pos h3]; exact ⟨hg, rfl, fun h => (by cases h), fun h => (by cases h), fun _ _ => rfl⟩
 rw [if_neg h3]
 have hgl := d.gen_lt
 have hol : d.other.h.length = d.size := by show (if d.half = 0 then d.h1 else d.h0).length = _; split; exact ho.l1; exact ho.l0
 have hoko : d.other.ok := ⟨ho.f1, ho.f2⟩
 have hs : sumR l ≤ d.size := by omega
 obtain ⟨q1, q2, q3⟩ := rew_law d.other d.size (d.gen + 1) l hol ho.lo hs (longAny_le h2) (by omega) (by omega)
 have hokS := rewS_ok d.other d.size (d.gen + 1) l hoko
 obtain ⟨S, hS⟩ : ∃ S, S = rewS d.other d.size (d.gen + 1) l := ⟨_, rfl⟩
 rw [← hS] at q1 q2 q3 hokS ⊢
 have hpo := put_ok ho d.side S q1 hokS
 have hcase : (genL d.h0 < genL d.h1 ∧ d.act = d.h1 ∧ d.gen = genL d.h1 ∧ d.other.h = d.h0 ∧ d.put d.side S = ⟨d.size, S.h, d.h1, S.fuse, S.failed⟩) ∨
   (genL d.h1 ≤ genL d.h0 ∧ 0 < genL d.h0 ∧ d.act = d.h0 ∧ d.gen = genL d.h0 ∧ d.other.h = d.h1 ∧ d.put d.side S = ⟨d.size, d.h0, S.h, S.fuse, S.failed⟩) := by
  rcases Dk.halves hg.half with hh | ⟨hh, hz⟩
  ·obtain ⟨a1, a2, a3⟩ := Dk.mk1 hh
   refine .inl ⟨hh, a2, a3, ?_, ?_⟩
   ·show (if d.half = 0 then d.h1 else d.h0) = _; rw [if_neg (by omega)]
   ·unfold Dk.put Dk.side; rw [if_neg (by rw [if_neg (by omega)]; omega)]
  ·obtain ⟨a1, a2, a3⟩ := Dk.mk0 hh hz
   refine .inr ⟨hh, hz, a2, a3, ?_, ?_⟩
   ·show (if d.half = 0 then d.h1 else d.h0) = _; rw [if_pos a1]
   ·unfold Dk.put Dk.side; rw [if_pos (by rw [if_pos a1])]
 cases hx : S.failed with
 | true =>
  have he : S.err = 9 := by unfold Wr.err; rw [if_pos hx]
  have q4 := q2 hx
  have key : 0 ≤ (d.put d.side S).half ∧ (d.put d.side S).act = d.act ∧ (d.put d.side S).gen = d.gen := by
   rcases hcase with ⟨hh, a2, a3, a4, a5⟩ | ⟨hh, hz, a2, a3, a4, a5⟩
   ·rw [a5, a2, a3]
    rw [a4] at q4
    obtain ⟨c1, c2, c3⟩ := Dk.mk1 (d := ⟨d.size, S.h, d.h1, S.fuse, S.failed⟩) (by simp only; omega)
    exact ⟨by omega, c2, c3⟩
   ·rw [a5, a2, a3]
    rw [a4] at q4
    obtain ⟨c1, c2, c3⟩ := Dk.mk0 (d := ⟨d.size, d.h0, S.h, S.fuse, S.failed⟩) (by simp only; omega) hz
    exact ⟨by omega, c2, c3⟩
  obtain ⟨k1, k2, k3⟩ := key
  refine ⟨⟨hpo, k1⟩, put_size _ _ _, fun h => ?_, fun _ => ?_, fun h h' => absurd he h'⟩
  ·rw [show (S.err, d.put d.side S).1 = S.err from rfl, he] at h; cases h
  ·show (d.put d.side S).texts = _
   rw [texts_of k1, texts_of hg.half, k2, k3]
 | false =>
  have he : S.err = 0 := by unfold Wr.err; rw [hx]; rfl
  obtain ⟨q4, q5, q6⟩ := q3 hx
  have key : 0 ≤ (d.put d.side S).half ∧ (d.put d.side S).act = S.h ∧ (d.put d.side S).gen = d.gen + 1 := by
   rcases hcase with ⟨hh, a2, a3, a4, a5⟩ | ⟨hh, hz, a2, a3, a4, a5⟩
   ·rw [a5]
    obtain ⟨c1, c2, c3⟩ := Dk.mk0 (d := ⟨d.size, S.h, d.h1, S.fuse, S.failed⟩) (by simp only; omega) (by simp only; omega)
    exact ⟨by omega, c2, c3.trans q4⟩
   ·rw [a5]
    obtain ⟨c1, c2, c3⟩ := Dk.mk1 (d := ⟨d.size, d.h0, S.h, S.fuse, S.failed⟩) (by simp only; omega)
    exact ⟨by omega, c2, c3.trans q4⟩
  obtain ⟨k1, k2, k3⟩ := key
  refine ⟨⟨hpo, k1⟩, put_size _ _ _, fun _ => ⟨?_, ?_, ?_, k3⟩, fun h => ?_, fun h => absurd he h⟩
  ·show (d.put d.side S).texts = _
   rw [texts_of k1, k2, k3, q5]
  ·show (d.put d.side S).used = _
   rw [used_of k1, k2, k3, q6]
  ·rw [put_failed]; exact hx
  ·rw [show (S.err, d.put d.side S).1 = S.err from rfl, he] at h; cases h
/-! ### a new disk -/
theorem newDk_gen (n : Nat) (h : 64 ≤ n) : genL (newDk n).h0 = 1 ∧ genL (newDk n).h1 = 0 := by
 constructor
 ·show genL (newHead ++ List.replicate (n - 17) 0) = 1
  have d0 : (newHead ++ List.replicate (n - 17) (0 : UInt8)).getD 0 0 = 1 := rfl
  have d1 : ((newHead ++ List.replicate (n - 17) (0 : UInt8)).drop 1).take 8 = eightL 1 := by
   show ((eightL 1 ++ shortL (eightL 1)) ++ List.replicate (n - 17) (0 : UInt8)).take 8 = _
   rw [List.append_assoc, List.take_append_of_le_length (by rw [eightL_length]; omega), List.take_of_length_le (by rw [eightL_length]; omega)]
  have d2 : ((newHead ++ List.replicate (n - 17) (0 : UInt8)).drop 9).take 8 = shortL (eightL 1) := by
   show (((eightL 1 ++ shortL (eightL 1)) ++ List.replicate (n - 17) (0 : UInt8)).drop 8).take 8 = _
   rw [List.append_assoc, List.drop_append, List.drop_of_length_le (by rw [eightL_length]; omega), List.nil_append, eightL_length, Nat.sub_self, List.drop_zero, List.take_append_of_le_length (by rw [shortL_length]; omega), List.take_of_length_le (by rw [shortL_length]; omega)]
  have hg : genB (newHead ++ List.replicate (n - 17) (0 : UInt8)) = true := by
   unfold genB
   rw [d0, d1, d2, numL_eight 1 (by omega)]
   simp
  unfold genL
  rw [hg, d1, numL_eight 1 (by omega)]; rfl
 ·show genL (List.replicate n 0) = 0
  exact genL_off (by rw [List.getElem?_replicate, if_pos (by omega)])
theorem newDk_post (n : Nat) (h : 64 ≤ n) (h2 : n ≤ 262144) : (newDk n).good ∧ (newDk n).texts = [] ∧ (newDk n).used = 17 ∧ (newDk n).gen = 1 := by
 obtain ⟨g0, g1⟩ := newDk_gen n h
 obtain ⟨a1, a2, a3⟩ := Dk.mk0 (d := newDk n) (by omega) (by omega)
 have hno : nextR (newDk n).h0 1 17 = none := by
  refine nextR_off ?_
  show (newHead ++ List.replicate (n - 17) (0 : UInt8))[17]? ≠ _
  rw [List.getElem?_append_right (by rw [newHead_length]; omega), newHead_length, List.getElem?_replicate, if_pos (by omega)]
  simp
 have hr : recs (newDk n).h0 1 = [] := recF_none hno _
 refine ⟨⟨⟨?_, ?_, h, h2, by show (-1 : Int) ≤ -1; omega, by show (-1 : Int) ≤ _; omega⟩, by omega⟩, ?_, ?_, by rw [a3, g0]⟩
 ·show (newHead ++ List.replicate (n - 17) (0 : UInt8)).length = n
  rw [List.length_append, newHead_length, List.length_replicate]; omega
 ·show (List.replicate n (0 : UInt8)).length = n
  simp
 ·rw [texts_of (by omega), a2, a3, g0, hr]; rfl
 ·rw [used_of (by omega), a2, a3, g0]; unfold endR; rw [hr]; rfl
end
/- Plain: a disk: when a call succeeds. -/
section
open Go.RowKit Go.Shelf
theorem appended_ok {d : Dk} (hg : d.good) (r : List UInt8) (hf : d.failed = false) (hr : r.length ≤ 65535) (hfit : d.used + 13 + r.length ≤ d.size) (hroom : d.fuse = -1 ∨ ((15 + r.length : Nat) : Int) ≤ d.fuse) : (d.appended r).1 = 0 := by
 unfold Dk.appended
 rw [if_neg (by rw [hf]; simp), if_neg (by omega), if_neg (by have := hg.half; omega), if_neg (by omega)]
 show Wr.err _ = 0
 unfold Wr.err
 rw [app_room d.wr d.size d.gen d.used r ⟨hf, hroom⟩]; rfl
theorem good_fuse {d : Dk} (hg : d.good) (n : Int) (h1 : -1 ≤ n) (h2 : n ≤ 9223372036854775807) (z : Bool) : ({ d with fuse := n, failed := z } : Dk).good :=
 ⟨⟨hg.ok.l0, hg.ok.l1, hg.ok.lo, hg.ok.hi, h1, h2⟩, hg.half⟩
end
/- Walks: the kit's functions on lists of strings. -/
/- Walks: the small callers, and the kit's functions. -/
section
open Go.RowKit
theorem reads_shapeG {α : Type} {w : World} {B : Nat} {v : Value} {l : List α} {enc : α → Value} (h : w.reads B v (l.map enc)) :
  ∃ a cap, v = .slice a l.length cap ∧ ∀ j x, l[j]? = some x → ∃ b off, a = some ⟨b, off, none⟩ ∧ b < B ∧ w.cell? ⟨b, off + j, none⟩ = some (enc x) := by
 obtain ⟨a, cap, rfl, _, _, _, hc⟩ := h
 exact ⟨a, cap, by simp, fun j x hx => hc j _ (by simp [hx])⟩
theorem Same_any (l m : List ByteArray) (hl : l.length ≤ 9223372036854775807) (v u : Value) (w : World) (hr : w.reads w.heap.size v (l.map Value.string)) (hq : w.reads w.heap.size u (m.map Value.string)) :
  Calls Tryz.prog 49 #[v, u] w fun e w' => e = .returned (.bool (decide (l = m))) ∧ ∃ n, w' = w.drewN n := by
 have shape : ∀ (v : Value) (l : List ByteArray), w.reads w.heap.size v (l.map Value.string) → ∃ a cap, v = .slice a l.length cap ∧ ∀ j x, l[j]? = some x → ∃ b off, a = some ⟨b, off, none⟩ ∧ w.cell? ⟨b, off + j, none⟩ = some (.string x) := by
  intro v l h
  obtain ⟨a, cap, rfl, hc⟩ := reads_shapeG h
  exact ⟨a, cap, rfl, fun j x hx => by obtain ⟨b, off, h1, _, h2⟩ := hc j x hx; exact ⟨b, off, h1, h2⟩⟩
 obtain ⟨a, ca, rfl, ha⟩ := shape v l hr
 obtain ⟨b, cb, rfl, hb⟩ := shape u m hq
 have HA := Lib.hid ha
 have HB := Lib.hid hb
 clear ha hb shape hr hq
 by_cases hlen : l.length = m.length
 ·have hne : ((l.length : Int) != (m.length : Int)) = false := by simp [hlen]
  have hl1 : l.length ≤ m.length := by omega
  have hl2 : m.length ≤ l.length := by omega
  have HL := Lib.hid hlen
  clear hlen
  go_enter Tryz.func49, Tryz.ntmps49
  go_wp2
  go_loopw [5] (fun i wx => ∃ k : Nat, k ≤ l.length ∧ i = .int .i64 k ∧ l.take k = m.take k ∧ ∃ n, wx = w.drewN n) (fun i _ => l.length - (intOf i).toNat)
  case atStart => exact ⟨0, by omega, rfl, by simp, 0, rfl⟩
  case round =>
   obtain ⟨k, hk, rfl, htk, n, rfl⟩ := hrel
   have HT := Lib.hid htk
   clear htk
   by_cases hlt : k < l.length
   ·obtain ⟨x, hx⟩ : ∃ x, l[k]? = some x := ⟨l[k], List.getElem?_eq_getElem hlt⟩
    obtain ⟨y, hy⟩ : ∃ y, m[k]? = some y := ⟨m[k]'(by omega), List.getElem?_eq_getElem (by omega)⟩
    have hi1 : (k : Int) < (l.length : Int) := by omega
    have hi2 : (k : Int) < (m.length : Int) := by omega
    have hi0 : (0 : Int) ≤ (k : Int) := by omega
    obtain ⟨b1, o1, rfl, hc1⟩ := HA.out k x hx
    obtain ⟨b2, o2, rfl, hc2⟩ := HB.out k y hy
    have HX := Lib.hid hx
    have HY := Lib.hid hy
    clear hx hy
    by_cases hxy : x = y
    ·have hs := str_beq x y hxy
     have HE := Lib.hid hxy
     clear hxy
     go_wp2
     refine wp_region_quiet_at (by kernel_rfl) (by kernel_rfl) ?_
     repeat (go_big_quiet_step (fail))
     refine wpQuiet_nil ?_
     rintro _ ⟨nq, rfl⟩
     go_wp2
     go_roundw
     case rel =>
      refine ⟨k + 1, by omega, by go_num, ?_, _, rfl⟩
      rw [take_snoc' _ _ _ HX.out, take_snoc' _ _ _ HY.out, HT.out, HE.out]
     case measure => simp [intOf]; omega
    ·have hs := str_bne x y hxy
     go_wp2
     refine wp_region_quiet_at (by kernel_rfl) (by kernel_rfl) ?_
     repeat (go_big_quiet_step (fail))
     refine wpQuiet_nil ?_
     rintro _ ⟨nq, rfl⟩
     go_wp2
     go_ret
     refine ⟨?_, _, rfl⟩
     have hlm : l ≠ m := by
      intro h
      have h1 := HX.out
      rw [h, HY.out] at h1
      exact hxy (Option.some.inj h1).symm
     simp [hlm]
   ·go_wp2
    go_ret
    refine ⟨?_, _, rfl⟩
    have h1 := HT.out
    rw [List.take_of_length_le (by omega), List.take_of_length_le (by omega)] at h1
    simp [h1]
 ·have hne : ((l.length : Int) != (m.length : Int)) = true := by simp; omega
  go_enter Tryz.func49, Tryz.ntmps49
  go_wp2
  go_ret
  exact ⟨by simp; intro h; exact hlen (by rw [h]), 0, rfl⟩
end
/- Laws of the disk: what the document's examples show. -/
section
open Go.RowKit Go.Shelf
theorem map_bytesOf_inj {l m : List (List UInt8)} (h : l.map bytesOf = m.map bytesOf) : l = m := by
 induction l generalizing m with
 | nil => cases m with
  | nil => rfl
  | cons y m => simp at h
 | cons x l ih =>
  cases m with
  | nil => simp at h
  | cons y m =>
   rw [List.map_cons, List.map_cons] at h
   injection h with h1 h2
   rw [bytesOf_inj h1, ih h2]
theorem SameT_any (l m : List (List UInt8)) (hl : l.length ≤ 9223372036854775807) (v u : Value) (w : World) (hr : w.reads w.heap.size v (l.map strV)) (hq : w.reads w.heap.size u (m.map strV)) :
  Calls Tryz.prog 49 #[v, u] w fun e w' => e = .returned (.bool (decide (l = m))) ∧ Below w.heap.size w w' := by
 have e : ∀ l : List (List UInt8), l.map strV = (l.map bytesOf).map Value.string := fun l => by rw [List.map_map]; rfl
 rw [e] at hr hq
 refine (Same_any (l.map bytesOf) (m.map bytesOf) (by rw [List.length_map]; exact hl) v u w hr hq).mono ?_
 rintro e' w' ⟨rfl, n, rfl⟩
 refine ⟨?_, by first | exact below_drewN (Below.refl _ _) n | (apply below_drewN; exact Below.refl _ _)⟩
 have : decide (l.map bytesOf = m.map bytesOf) = decide (l = m) := decide_eq_decide.2 ⟨map_bytesOf_inj, fun h => by rw [h]⟩
 rw [this]
end
end Go.Proofs.YtoggmplkbiidhaaGreatDoor
