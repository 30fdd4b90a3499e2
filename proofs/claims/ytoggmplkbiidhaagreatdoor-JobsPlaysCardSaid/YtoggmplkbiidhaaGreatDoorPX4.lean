/- Helpers and walks, in one text. -/
import Derived.Test.YtoggmplkbiidhaaGreatDoorPX3
import Derived.Recover
import Derived.Defers
import Derived.Deep.Upon
set_option linter.all false
set_option maxRecDepth 100000
set_option maxHeartbeats 40000000
/- Walks: the reference's queue of jobs: Finish, Fail, Save, Give. Printed by gen_rd6.py. -/
namespace Go.Proofs.YtoggmplkbiidhaaGreatDoor
section
open Go.RowKit Go.Shelf
/-- What a call does with a queue and its disk. -/
def RDid (P : RQP) (v : Value) (E : Value) (x' : Qst) (w : World) (e : Ending) (w' : World) : Prop := e = .returned E ∧ ∃ v', RQD P v' x' w' ∧ RStp P v v' w w'
theorem rfFinish_did (P : RQP) (v : Value) (x : Qst) (id : Int) (s : List UInt8) (w : World) (h : RQD P v x w) :
  Calls Tryz.prog 30 #[.pointer (some ⟨P.p, 0, none⟩), .int .i64 id, strV s] w fun e w' => RDid P v (.int .i64 (x.finish id 3 s).1) (x.finish id 3 s).2 w e w' := by
 have HH := Lib.hid (rfheld_any P v x id s w h)
 have HQ := Lib.hid h
 obtain ⟨R, hR⟩ : ∃ R, R = x.finish id 3 s := ⟨_, rfl⟩
 rw [← hR]
 unfold Qst.finish at hR
 unfold strV at *
 cases hh : x.held id s.length with
 | inl er =>
  rw [hh] at hR HH
  dsimp only at hR
  subst hR
  have her : (er == 0) = false := by
   rw [beq_eq_false_iff_ne]
   rintro rfl
   exact held_ne hh
  clear hh h
  go_enter Tryz.func30, Tryz.ntmps30
  go_wp2_with fail
  refine HH.out.mono ?_
  rintro e w1 ⟨he, hb1⟩
  unfold rheldP at he
  dsimp only at he
  subst he
  go_wp2_with fail
  go_ret
  exact ⟨rfl, v, HQ.out.below hb1, RStp.of_below hb1⟩
 | inr y =>
  obtain ⟨k, j⟩ := y
  obtain ⟨hj, hs2, hn, hid⟩ := held_job hh
  rw [hh] at hR HH
  dsimp only at hR
  have HR := Lib.hid hR
  have HJ := Lib.hid hj
  clear hh h hR hj hs2 hid
  go_enter Tryz.func30, Tryz.ntmps30
  go_wp2_with fail
  refine HH.out.mono ?_
  rintro e w1 ⟨he, hb1⟩
  unfold rheldP at he
  dsimp only at he
  obtain ⟨⟨g, cap, rfl, he⟩, -⟩ := he
  subst he
  have HF := Lib.hid (rfend_any P g cap k x j 3 s (by omega) (by omega) hn w1 (HQ.out.below hb1) HJ.out)
  unfold strV at HF
  go_wp2_with fail
  refine (show Calls Tryz.prog 73 #[.pointer (some ⟨P.p, 0, none⟩), .pointer (some ⟨g, k * 9, none⟩), .int .i64 3, .string (bytesOf s)] w1 _ from HF.out).mono ?_
  rintro e w2 ⟨rfl, hq2, hk2⟩
  go_wp2_with fail
  go_ret
  rw [HR.out]
  exact ⟨rfl, _, hq2, (RStp.of_below hb1).trans (RStp.of_kp hk2)⟩
theorem rfFail_did (P : RQP) (v : Value) (x : Qst) (id : Int) (s : List UInt8) (w : World) (h : RQD P v x w) :
  Calls Tryz.prog 32 #[.pointer (some ⟨P.p, 0, none⟩), .int .i64 id, strV s] w fun e w' => RDid P v (.int .i64 (x.finish id 4 s).1) (x.finish id 4 s).2 w e w' := by
 have HH := Lib.hid (rfheld_any P v x id s w h)
 have HQ := Lib.hid h
 obtain ⟨R, hR⟩ : ∃ R, R = x.finish id 4 s := ⟨_, rfl⟩
 rw [← hR]
 unfold Qst.finish at hR
 unfold strV at *
 cases hh : x.held id s.length with
 | inl er =>
  rw [hh] at hR HH
  dsimp only at hR
  subst hR
  have her : (er == 0) = false := by
   rw [beq_eq_false_iff_ne]
   rintro rfl
   exact held_ne hh
  clear hh h
  go_enter Tryz.func32, Tryz.ntmps32
  go_wp2_with fail
  refine HH.out.mono ?_
  rintro e w1 ⟨he, hb1⟩
  unfold rheldP at he
  dsimp only at he
  subst he
  go_wp2_with fail
  go_ret
  exact ⟨rfl, v, HQ.out.below hb1, RStp.of_below hb1⟩
 | inr y =>
  obtain ⟨k, j⟩ := y
  obtain ⟨hj, hs2, hn, hid⟩ := held_job hh
  rw [hh] at hR HH
  dsimp only at hR
  have HR := Lib.hid hR
  have HJ := Lib.hid hj
  clear hh h hR hj hs2 hid
  go_enter Tryz.func32, Tryz.ntmps32
  go_wp2_with fail
  refine HH.out.mono ?_
  rintro e w1 ⟨he, hb1⟩
  unfold rheldP at he
  dsimp only at he
  obtain ⟨⟨g, cap, rfl, he⟩, -⟩ := he
  subst he
  have HF := Lib.hid (rfend_any P g cap k x j 4 s (by omega) (by omega) hn w1 (HQ.out.below hb1) HJ.out)
  unfold strV at HF
  go_wp2_with fail
  refine (show Calls Tryz.prog 73 #[.pointer (some ⟨P.p, 0, none⟩), .pointer (some ⟨g, k * 9, none⟩), .int .i64 4, .string (bytesOf s)] w1 _ from HF.out).mono ?_
  rintro e w2 ⟨rfl, hq2, hk2⟩
  go_wp2_with fail
  go_ret
  rw [HR.out]
  exact ⟨rfl, _, hq2, (RStp.of_below hb1).trans (RStp.of_kp hk2)⟩
theorem rfSave_did (P : RQP) (v : Value) (x : Qst) (id : Int) (s : List UInt8) (w : World) (h : RQD P v x w) :
  Calls Tryz.prog 27 #[.pointer (some ⟨P.p, 0, none⟩), .int .i64 id, strV s] w fun e w' => RDid P v (.int .i64 (x.save id s).1) (x.save id s).2 w e w' := by
 have HH := Lib.hid (rfheld_any P v x id s w h)
 have HQ := Lib.hid h
 obtain ⟨R, hR⟩ : ∃ R, R = x.save id s := ⟨_, rfl⟩
 rw [← hR]
 unfold Qst.save at hR
 unfold strV at *
 cases hh : x.held id s.length with
 | inl er =>
  rw [hh] at hR HH
  dsimp only at hR
  subst hR
  have her : (er == 0) = false := by
   rw [beq_eq_false_iff_ne]
   rintro rfl
   exact held_ne hh
  clear hh h
  go_enter Tryz.func27, Tryz.ntmps27
  go_wp2_with fail
  refine HH.out.mono ?_
  rintro e w1 ⟨he, hb1⟩
  unfold rheldP at he
  dsimp only at he
  subst he
  go_wp2_with fail
  go_ret
  exact ⟨rfl, v, HQ.out.below hb1, RStp.of_below hb1⟩
 | inr y =>
  obtain ⟨k, j⟩ := y
  obtain ⟨hj, hs2, hn, hid⟩ := held_job hh
  subst hid
  rw [hh] at hR HH
  dsimp only at hR
  have hjo := h.fine.ok.job j (List.mem_of_getElem? hj)
  have hjf := h.fine.job j (List.mem_of_getElem? hj)
  have hlast := h.fine.ok.last
  have HRC := Lib.hid (rfsaved_any j.id s (by have := hjo.id1; omega) (by omega))
  have htl : (recB 3 j.id ++ textB s).length ≤ 100000000 := by rw [List.length_append, recB_length, textB_length]; omega
  obtain ⟨T, hT⟩ : ∃ T, T = recB 3 j.id ++ textB s := ⟨_, rfl⟩
  rw [← hT] at hR htl HRC
  have hq1 := note_q x T
  have HN := Lib.hid (fun v W (hW : RQD P v x W) => rfnote_any P v x T htl W hW)
  unfold Qst.noted at hR
  obtain ⟨N, hN⟩ : ∃ N, N = x.note T := ⟨_, rfl⟩
  rw [← hN] at hR HN hq1
  obtain ⟨n1, n2⟩ := N
  dsimp only at hR HN hq1
  have HJ := Lib.hid hj
  have HJO := Lib.hid hjo
  have HJF := Lib.hid hjf
  have HE := Lib.hid hq1
  have HTT := Lib.hid hT
  have hst0 := hjf.st2 hs2
  unfold strV at HRC HN
  by_cases h0 : n1 = 0
  ·rw [if_pos h0] at hR
   subst h0
   have HR := Lib.hid hR
   clear hR hq1 hT hN hj hjo hjf h hh hs2
   go_enter Tryz.func27, Tryz.ntmps27
   go_wp2_with fail
   refine HH.out.mono ?_
   rintro e w1 ⟨he, hb1⟩
   unfold rheldP at he
   dsimp only at he
   obtain ⟨⟨g, cap, rfl, he⟩, -⟩ := he
   subst he
   go_wp2_with fail
   refine (HRC.out w1).mono ?_
   rintro e w3 ⟨rfl, hb3⟩
   have hb123 := hb1.trans (hb3.mono hb1.size)
   clear hb1 hb3
   go_wp2_with fail
   refine (HN.out _ w3 (HQ.out.below hb123)).mono ?_
   rintro e w4 ⟨rfl, hq4, hk4⟩
   have hk := (RStp.of_below (P := P) (v := .slice (some ⟨g, 0, none⟩) x.q.jobs.length cap) hb123).trans (RStp.of_kp hk4)
   have hjq : n2.q.jobs[k]? = some j := by rw [HE.out]; exact HJ.out
   have hll : x.q.jobs.length = n2.q.jobs.length := by rw [HE.out]
   rw [hll] at hq4 hk
   obtain ⟨c7, f7⟩ := job_cell hq4.ja hjq (by omega : 7 < 9) rfl
   obtain ⟨s1, s2⟩ := hq4.set hjq (by omega : 7 < 9) (.string (bytesOf s)) (j' := { j with point := s }) rfl rfl rfl rfl
    (by rw [HE.out]; exact ⟨HJO.out.id0, HJO.out.id1, HJO.out.prio, HJO.out.cl, HJO.out.tk, HJO.out.tr, HJO.out.s1, HJO.out.s5, HJO.out.wk, hn, HJO.out.rs⟩)
    ⟨fun _ => hst0, HJF.out.st2, HJF.out.rs0⟩
   have HS1 := Lib.hid s1
   have HK := Lib.hid (hk.trans (RStp.of_kp s2))
   have HLL := Lib.hid hll
   clear hq4 hk hk4 s1 s2 hjq hb123 hll
   go_wp2_with fail
   go_ret
   rw [HR.out, HLL.out]
   refine ⟨rfl, _, ?_, HK.out⟩
   have t := HS1.out
   rw [length_put, HE.out] at t
   rw [HE.out]
   exact t
  ·rw [if_neg h0] at hR
   have HR := Lib.hid hR
   have h0' : (n1 == 0) = false := by rw [beq_eq_false_iff_ne]; exact h0
   clear hR hT hN hj hjo hjf h h0 hq1 hh hs2
   go_enter Tryz.func27, Tryz.ntmps27
   go_wp2_with fail
   refine HH.out.mono ?_
   rintro e w1 ⟨he, hb1⟩
   unfold rheldP at he
   dsimp only at he
   obtain ⟨⟨g, cap, rfl, he⟩, -⟩ := he
   subst he
   go_wp2_with fail
   refine (HRC.out w1).mono ?_
   rintro e w3 ⟨rfl, hb3⟩
   have hb123 := hb1.trans (hb3.mono hb1.size)
   clear hb1 hb3
   go_wp2_with fail
   refine (HN.out _ w3 (HQ.out.below hb123)).mono ?_
   rintro e w4 ⟨rfl, hq4, hk4⟩
   have hk := (RStp.of_below (P := P) (v := .slice (some ⟨g, 0, none⟩) x.q.jobs.length cap) hb123).trans (RStp.of_kp hk4)
   go_wp2_with fail
   go_ret
   rw [HR.out]
   exact ⟨rfl, _, hq4, hk⟩
theorem rfGive_did (P : RQP) (v : Value) (x : Qst) (id : Int) (w : World) (h : RQD P v x w) :
  Calls Tryz.prog 29 #[.pointer (some ⟨P.p, 0, none⟩), .int .i64 id] w fun e w' => RDid P v (.int .i64 (x.give id).1) (x.give id).2 w e w' := by
 have HH := Lib.hid (rfheld_any P v x id [] w h)
 have HQ := Lib.hid h
 obtain ⟨R, hR⟩ : ∃ R, R = x.give id := ⟨_, rfl⟩
 rw [← hR]
 unfold Qst.give at hR
 unfold strV at *
 cases hh : x.held id 0 with
 | inl er =>
  rw [hh] at hR
  rw [show ([] : List UInt8).length = 0 from rfl, hh] at HH
  dsimp only at hR
  subst hR
  have her : (er == 0) = false := by
   rw [beq_eq_false_iff_ne]
   rintro rfl
   exact held_ne hh
  clear hh h
  go_enter Tryz.func29, Tryz.ntmps29
  go_wp2_with fail
  refine (show Calls Tryz.prog 71 #[.pointer (some ⟨P.p, 0, none⟩), .int .i64 id, .string { data := #[] }] w _ from HH.out).mono ?_
  rintro e w1 ⟨he, hb1⟩
  unfold rheldP at he
  dsimp only at he
  subst he
  go_wp2_with fail
  go_ret
  exact ⟨rfl, v, HQ.out.below hb1, RStp.of_below hb1⟩
 | inr y =>
  obtain ⟨k, j⟩ := y
  obtain ⟨hj, hs2, hn, hid⟩ := held_job hh
  rw [hh] at hR
  rw [show ([] : List UInt8).length = 0 from rfl, hh] at HH
  dsimp only at hR
  have hjo := h.fine.ok.job j (List.mem_of_getElem? hj)
  have hjf := h.fine.job j (List.mem_of_getElem? hj)
  have HJ := Lib.hid hj
  have HJO := Lib.hid hjo
  have HJF := Lib.hid hjf
  have hrs := hjf.rs0 (by rw [hs2]; rfl)
  have HRS := Lib.hid hrs
  have HR := Lib.hid hR
  clear hR hj hjo hjf h hh hs2 hid hrs
  go_enter Tryz.func29, Tryz.ntmps29
  go_wp2_with fail
  refine (show Calls Tryz.prog 71 #[.pointer (some ⟨P.p, 0, none⟩), .int .i64 id, .string { data := #[] }] w _ from HH.out).mono ?_
  rintro e w1 ⟨he, hb1⟩
  unfold rheldP at he
  dsimp only at he
  obtain ⟨⟨g, cap, rfl, he⟩, -⟩ := he
  subst he
  have hq1 := HQ.out.below hb1
  obtain ⟨c4, f4⟩ := job_cell hq1.ja HJ.out (by omega : 4 < 9) rfl
  obtain ⟨s1, s2⟩ := hq1.set HJ.out (by omega : 4 < 9) (.int .i64 1) (j' := { j with state := 1 }) rfl rfl rfl rfl
   ⟨HJO.out.id0, HJO.out.id1, HJO.out.prio, HJO.out.cl, HJO.out.tk, HJO.out.tr, by show 1 ≤ 1; omega, by show 1 ≤ 5; omega, HJO.out.wk, HJO.out.pt, HJO.out.rs⟩
   ⟨HJF.out.pt0, fun e => by dsimp only at e; omega, fun _ => HRS.out⟩
  have HS1 := Lib.hid s1
  have HK := Lib.hid ((RStp.of_below (P := P) (v := .slice (some ⟨g, 0, none⟩) x.q.jobs.length cap) hb1).trans (RStp.of_kp s2))
  clear hq1 s1 s2 hb1
  go_wp2_with fail
  go_ret
  rw [HR.out]
  refine ⟨rfl, _, ?_, HK.out⟩
  have t := HS1.out
  rw [length_put] at t
  exact t
end
/- Walks: a queue of jobs: Save, Give. -/
section
open Go.RowKit Go.Shelf
theorem Save_did (P : QP) (v : Value) (x : Qst) (id : Int) (s : List UInt8) (w : World) (h : QD P v x w) :
  Calls Tryz.prog 15 #[.pointer (some ⟨P.p, 0, none⟩), .int .i64 id, strV s] w fun e w' => Did P v (.int .i64 (x.save id s).1) (x.save id s).2 w e w' := by
 have HH := Lib.hid (held_any P v x id s w h)
 have HQ := Lib.hid h
 obtain ⟨R, hR⟩ : ∃ R, R = x.save id s := ⟨_, rfl⟩
 rw [← hR]
 unfold Qst.save at hR
 unfold strV at *
 cases hh : x.held id s.length with
 | inl er =>
  rw [hh] at hR HH
  dsimp only at hR
  subst hR
  have her : (er == 0) = false := by
   rw [beq_eq_false_iff_ne]
   rintro rfl
   exact held_ne hh
  clear hh h
  go_enter Tryz.func15, Tryz.ntmps15
  go_wp2_with fail
  refine HH.out.mono ?_
  rintro e w1 ⟨he, hb1⟩
  unfold heldP at he
  dsimp only at he
  subst he
  go_wp2_with fail
  go_ret
  exact ⟨rfl, v, HQ.out.below hb1, Stp.of_below hb1⟩
 | inr y =>
  obtain ⟨k, j⟩ := y
  obtain ⟨hj, hs2, hn, hid⟩ := held_job hh
  subst hid
  rw [hh] at hR HH
  dsimp only at hR
  have hjo := h.fine.ok.job j (List.mem_of_getElem? hj)
  have hjf := h.fine.job j (List.mem_of_getElem? hj)
  have hlast := h.fine.ok.last
  have HRC := Lib.hid (record_any 3 j.id (by omega) (by have := hjo.id1; omega))
  have HTX := Lib.hid (jtext_any s (by omega))
  have htl : (recB 3 j.id ++ textB s).length ≤ 100000000 := by rw [List.length_append, recB_length, textB_length]; omega
  obtain ⟨T, hT⟩ : ∃ T, T = recB 3 j.id ++ textB s := ⟨_, rfl⟩
  rw [← hT] at hR htl
  have hq1 := note_q x T
  have HN := Lib.hid (fun v W (hW : QD P v x W) => note_any P v x T htl W hW)
  unfold Qst.noted at hR
  obtain ⟨N, hN⟩ : ∃ N, N = x.note T := ⟨_, rfl⟩
  rw [← hN] at hR HN hq1
  obtain ⟨n1, n2⟩ := N
  dsimp only at hR HN hq1
  have HJ := Lib.hid hj
  have HJO := Lib.hid hjo
  have HJF := Lib.hid hjf
  have HE := Lib.hid hq1
  have HTT := Lib.hid hT
  have hst0 := hjf.st2 hs2
  have a3 := bytesOf_append
  have y1 : (bytesOf (recB 3 j.id)).size = 9 := recB_length 3 j.id
  have y2 : (bytesOf (textB s)).size = 4 + s.length := textB_length s
  have y3 : ¬ 9223372036854775807 < 9 + (4 + s.length) := by omega
  unfold strV at HRC HTX HN
  by_cases h0 : n1 = 0
  ·rw [if_pos h0] at hR
   subst h0
   have HR := Lib.hid hR
   clear hR hq1 hT hN hj hjo hjf h hh hs2
   go_enter Tryz.func15, Tryz.ntmps15
   go_wp2_with fail
   refine HH.out.mono ?_
   rintro e w1 ⟨he, hb1⟩
   unfold heldP at he
   dsimp only at he
   obtain ⟨⟨g, cap, rfl, he⟩, -⟩ := he
   subst he
   go_wp2_with fail
   refine (show Calls Tryz.prog 56 #[.int .u8 3, .int .i64 (j.id : Int)] w1 _ from HRC.out w1).mono ?_
   rintro e w2 ⟨rfl, hb2⟩
   go_wp2_with fail
   refine (HTX.out w2).mono ?_
   rintro e w3 ⟨rfl, hb3⟩
   have hb123 := (hb1.trans (hb2.mono hb1.size)).trans (hb3.mono (Nat.le_trans hb1.size hb2.size))
   clear hb1 hb2 hb3
   go_wp2_with fail
   rw [← HTT.out]
   clear y1 y2 y3 a3
   refine (HN.out _ w3 (HQ.out.below hb123)).mono ?_
   rintro e w4 ⟨rfl, hq4, hk4⟩
   have hk := (Stp.of_below (P := P) (v := .slice (some ⟨g, 0, none⟩) x.q.jobs.length cap) hb123).trans (Stp.of_kp hk4)
   have hjq : n2.q.jobs[k]? = some j := by rw [HE.out]; exact HJ.out
   have hll : x.q.jobs.length = n2.q.jobs.length := by rw [HE.out]
   rw [hll] at hq4 hk
   obtain ⟨c7, f7⟩ := job_cell hq4.ja hjq (by omega : 7 < 9) rfl
   obtain ⟨s1, s2⟩ := hq4.set hjq (by omega : 7 < 9) (.string (bytesOf s)) (j' := { j with point := s }) rfl rfl rfl rfl
    (by rw [HE.out]; exact ⟨HJO.out.id0, HJO.out.id1, HJO.out.prio, HJO.out.cl, HJO.out.tk, HJO.out.tr, HJO.out.s1, HJO.out.s5, HJO.out.wk, hn, HJO.out.rs⟩)
    ⟨fun _ => hst0, HJF.out.st2, HJF.out.rs0⟩
   have HS1 := Lib.hid s1
   have HK := Lib.hid (hk.trans (Stp.of_kp s2))
   have HLL := Lib.hid hll
   clear hq4 hk hk4 s1 s2 hjq hb123 hll
   go_wp2_with fail
   go_ret
   rw [HR.out, HLL.out]
   refine ⟨rfl, _, ?_, HK.out⟩
   have t := HS1.out
   rw [length_put, HE.out] at t
   rw [HE.out]
   exact t
  ·rw [if_neg h0] at hR
   have HR := Lib.hid hR
   have h0' : (n1 == 0) = false := by rw [beq_eq_false_iff_ne]; exact h0
   clear hR hT hN hj hjo hjf h h0 hq1 hh hs2
   go_enter Tryz.func15, Tryz.ntmps15
   go_wp2_with fail
   refine HH.out.mono ?_
   rintro e w1 ⟨he, hb1⟩
   unfold heldP at he
   dsimp only at he
   obtain ⟨⟨g, cap, rfl, he⟩, -⟩ := he
   subst he
   go_wp2_with fail
   refine (show Calls Tryz.prog 56 #[.int .u8 3, .int .i64 (j.id : Int)] w1 _ from HRC.out w1).mono ?_
   rintro e w2 ⟨rfl, hb2⟩
   go_wp2_with fail
   refine (HTX.out w2).mono ?_
   rintro e w3 ⟨rfl, hb3⟩
   have hb123 := (hb1.trans (hb2.mono hb1.size)).trans (hb3.mono (Nat.le_trans hb1.size hb2.size))
   clear hb1 hb2 hb3
   go_wp2_with fail
   rw [← HTT.out]
   clear y1 y2 y3 a3
   refine (HN.out _ w3 (HQ.out.below hb123)).mono ?_
   rintro e w4 ⟨rfl, hq4, hk4⟩
   have hk := (Stp.of_below (P := P) (v := .slice (some ⟨g, 0, none⟩) x.q.jobs.length cap) hb123).trans (Stp.of_kp hk4)
   go_wp2_with fail
   go_ret
   rw [HR.out]
   exact ⟨rfl, _, hq4, hk⟩
theorem Give_did (P : QP) (v : Value) (x : Qst) (id : Int) (w : World) (h : QD P v x w) :
  Calls Tryz.prog 28 #[.pointer (some ⟨P.p, 0, none⟩), .int .i64 id] w fun e w' => Did P v (.int .i64 (x.give id).1) (x.give id).2 w e w' := by
 have HH := Lib.hid (held_any P v x id [] w h)
 have HQ := Lib.hid h
 obtain ⟨R, hR⟩ : ∃ R, R = x.give id := ⟨_, rfl⟩
 rw [← hR]
 unfold Qst.give at hR
 unfold strV at *
 cases hh : x.held id 0 with
 | inl er =>
  rw [hh] at hR
  rw [show ([] : List UInt8).length = 0 from rfl, hh] at HH
  dsimp only at hR
  subst hR
  have her : (er == 0) = false := by
   rw [beq_eq_false_iff_ne]
   rintro rfl
   exact held_ne hh
  clear hh h
  go_enter Tryz.func28, Tryz.ntmps28
  go_wp2_with fail
  refine (show Calls Tryz.prog 57 #[.pointer (some ⟨P.p, 0, none⟩), .int .i64 id, .string { data := #[] }] w _ from HH.out).mono ?_
  rintro e w1 ⟨he, hb1⟩
  unfold heldP at he
  dsimp only at he
  subst he
  go_wp2_with fail
  go_ret
  exact ⟨rfl, v, HQ.out.below hb1, Stp.of_below hb1⟩
 | inr y =>
  obtain ⟨k, j⟩ := y
  obtain ⟨hj, hs2, hn, hid⟩ := held_job hh
  rw [hh] at hR
  rw [show ([] : List UInt8).length = 0 from rfl, hh] at HH
  dsimp only at hR
  have hjo := h.fine.ok.job j (List.mem_of_getElem? hj)
  have hjf := h.fine.job j (List.mem_of_getElem? hj)
  have HJ := Lib.hid hj
  have HJO := Lib.hid hjo
  have HJF := Lib.hid hjf
  have hrs := hjf.rs0 (by rw [hs2]; rfl)
  have HRS := Lib.hid hrs
  have HR := Lib.hid hR
  clear hR hj hjo hjf h hh hs2 hid hrs
  go_enter Tryz.func28, Tryz.ntmps28
  go_wp2_with fail
  refine (show Calls Tryz.prog 57 #[.pointer (some ⟨P.p, 0, none⟩), .int .i64 id, .string { data := #[] }] w _ from HH.out).mono ?_
  rintro e w1 ⟨he, hb1⟩
  unfold heldP at he
  dsimp only at he
  obtain ⟨⟨g, cap, rfl, he⟩, -⟩ := he
  subst he
  have hq1 := HQ.out.below hb1
  obtain ⟨c4, f4⟩ := job_cell hq1.ja HJ.out (by omega : 4 < 9) rfl
  obtain ⟨s1, s2⟩ := hq1.set HJ.out (by omega : 4 < 9) (.int .i64 1) (j' := { j with state := 1 }) rfl rfl rfl rfl
   ⟨HJO.out.id0, HJO.out.id1, HJO.out.prio, HJO.out.cl, HJO.out.tk, HJO.out.tr, by show 1 ≤ 1; omega, by show 1 ≤ 5; omega, HJO.out.wk, HJO.out.pt, HJO.out.rs⟩
   ⟨HJF.out.pt0, fun e => by dsimp only at e; omega, fun _ => HRS.out⟩
  have HS1 := Lib.hid s1
  have HK := Lib.hid ((Stp.of_below (P := P) (v := .slice (some ⟨g, 0, none⟩) x.q.jobs.length cap) hb1).trans (Stp.of_kp s2))
  clear hq1 s1 s2 hb1
  go_wp2_with fail
  go_ret
  rw [HR.out]
  refine ⟨rfl, _, ?_, HK.out⟩
  have t := HS1.out
  rw [length_put] at t
  exact t
end
/- Walks: a queue of jobs: Cancel, Forget. -/
section
open Go.RowKit Go.Shelf
def someP (r : Int ⊕ (Nat × Jb)) (e : Ending) : Prop := match r with
 | .inl er => e = .returned (.tuple #[.int .i64 (-1), .int .i64 er])
 | .inr (k, _) => e = .returned (.tuple #[.int .i64 (k : Int), .int .i64 0])
theorem some_job {x : Qst} {id : Int} {o : Bool} {k : Nat} {j : Jb} (h : x.some_ id o = .inr (k, j)) : x.q.jobs[k]? = some j ∧ endedB j.state = o ∧ (j.id : Int) = id := by
 unfold Qst.some_ at h
 split at h
 ·cases h
 split at h
 ·cases h
 ·rename_i k' hk'
  obtain ⟨j', hj', hid⟩ := findIdx_get hk'
  rw [hj'] at h
  dsimp only at h
  split at h
  ·cases h
  ·rename_i h1
   injection h with h
   injection h with h3 h4
   subst h3 h4
   exact ⟨hj', by simpa using h1, by simpa using hid⟩
theorem some_ne {x : Qst} {id : Int} {o : Bool} (h : x.some_ id o = .inl 0) : False := by
 unfold Qst.some_ at h
 split at h
 ·injection h with h; cases h
 split at h
 ·injection h with h; cases h
 split at h
 ·injection h with h; cases h
 split at h
 ·injection h with h; cases h
 ·cases h
theorem some_any (P : QP) (v : Value) (x : Qst) (id : Int) (o : Bool) (w : World) (h : QD P v x w) :
  Calls Tryz.prog 74 #[.pointer (some ⟨P.p, 0, none⟩), .int .i64 id, .bool o] w fun e w' => someP (x.some_ id o) e ∧ Below w.heap.size w w' := by
 obtain ⟨R, hR⟩ : ∃ R, R = x.some_ id o := ⟨_, rfl⟩
 rw [← hR]
 unfold Qst.some_ at hR
 have HS := Lib.hid (shut_any P.p P.d v x.q.last x.down w h.qa)
 by_cases hd : x.down = true
 ·rw [if_pos hd] at hR
  subst hR
  rw [if_pos hd] at HS
  clear hd
  go_enter Tryz.func74, Tryz.ntmps74
  go_wp2_with fail
  refine HS.out.mono ?_
  rintro e w1 ⟨rfl, rfl⟩
  go_wp2_with fail
  go_ret2
  exact ⟨rfl, Below.refl _ _⟩
 rw [if_neg hd] at hR HS
 have hlen := h.fine.ok.len
 have HI := Lib.hid (index_any P.p _ v x.q.last x.down x.q.jobs id w h.qa h.ja (by omega))
 clear hd
 cases hf : x.q.jobs.findIdx? (fun j => decide ((j.id : Int) = id)) with
 | none =>
  rw [hf] at hR HI
  dsimp only at hR
  subst hR
  clear hf
  rw [show placeI none = -1 from rfl] at HI
  go_enter Tryz.func74, Tryz.ntmps74
  go_wp2_with fail
  refine HS.out.mono ?_
  rintro e w1 ⟨rfl, rfl⟩
  go_wp2_with fail
  refine HI.out.mono ?_
  rintro e w2 ⟨rfl, hb2⟩
  go_wp2_with fail
  go_ret2
  exact ⟨rfl, hb2⟩
 | some k =>
  obtain ⟨j, hj, hjid⟩ := findIdx_get hf
  rw [hf] at hR HI
  dsimp only at hR
  rw [hj] at hR
  dsimp only at hR
  rw [show placeI (some k) = (k : Int) from rfl] at HI
  have HQ := Lib.hid h
  have HJ := Lib.hid hj
  have hjo := h.fine.ok.job j (List.mem_of_getElem? hj)
  have HE := Lib.hid (ended_any j.state (by have := hjo.s5; omega))
  obtain ⟨g, cap, rfl, -, hk, -⟩ := h.job hj
  clear hf hjid h hj hjo
  by_cases hst : endedB j.state = o
  ·rw [if_neg (by simpa using hst)] at hR
   subst hR
   rw [hst] at HE
   clear hst
   cases o
   all_goals
    go_enter Tryz.func74, Tryz.ntmps74
    go_wp2_with fail
    refine HS.out.mono ?_
    rintro e w1 ⟨rfl, rfl⟩
    go_wp2_with fail
    refine HI.out.mono ?_
    rintro e w2 ⟨rfl, hb2⟩
    have hq2 := HQ.out.below hb2
    obtain ⟨-, y1, -⟩ := hq2.qa.cells
    obtain ⟨c4, -⟩ := job_cell hq2.ja HJ.out (by omega : 4 < 9) rfl
    clear hq2
    go_wp2_with fail
    refine (HE.out w2).mono ?_
    rintro e w3 ⟨rfl, rfl⟩
    go_wp2_with fail
    go_ret2
    exact ⟨rfl, hb2⟩
  ·rw [if_pos hst] at hR
   subst hR
   have hst' : endedB j.state = !o := by cases o <;> simpa using hst
   rw [hst'] at HE
   clear hst hst'
   cases o
   all_goals
    go_enter Tryz.func74, Tryz.ntmps74
    go_wp2_with fail
    refine HS.out.mono ?_
    rintro e w1 ⟨rfl, rfl⟩
    go_wp2_with fail
    refine HI.out.mono ?_
    rintro e w2 ⟨rfl, hb2⟩
    have hq2 := HQ.out.below hb2
    obtain ⟨-, y1, -⟩ := hq2.qa.cells
    obtain ⟨c4, -⟩ := job_cell hq2.ja HJ.out (by omega : 4 < 9) rfl
    clear hq2
    go_wp2_with fail
    refine (HE.out w2).mono ?_
    rintro e w3 ⟨rfl, rfl⟩
    go_wp2_with fail
    go_ret2
    exact ⟨rfl, hb2⟩
theorem Cancel_did (P : QP) (v : Value) (x : Qst) (id : Int) (w : World) (h : QD P v x w) :
  Calls Tryz.prog 33 #[.pointer (some ⟨P.p, 0, none⟩), .int .i64 id] w fun e w' => Did P v (.int .i64 (x.cancel id).1) (x.cancel id).2 w e w' := by
 have HH := Lib.hid (some_any P v x id false w h)
 have HQ := Lib.hid h
 obtain ⟨R, hR⟩ : ∃ R, R = x.cancel id := ⟨_, rfl⟩
 rw [← hR]
 unfold Qst.cancel at hR
 cases hh : x.some_ id false with
 | inl er =>
  rw [hh] at hR HH
  dsimp only at hR
  subst hR
  have her : (er == 0) = false := by
   rw [beq_eq_false_iff_ne]
   rintro rfl
   exact some_ne hh
  clear hh h
  go_enter Tryz.func33, Tryz.ntmps33
  go_wp2_with fail
  refine HH.out.mono ?_
  rintro e w1 ⟨he, hb1⟩
  unfold someP at he
  dsimp only at he
  subst he
  go_wp2_with fail
  go_ret
  exact ⟨rfl, v, HQ.out.below hb1, Stp.of_below hb1⟩
 | inr y =>
  obtain ⟨k, j⟩ := y
  obtain ⟨hj, hs2, hid⟩ := some_job hh
  rw [hh] at hR HH
  dsimp only at hR
  have HR := Lib.hid hR
  have HJ := Lib.hid hj
  obtain ⟨g, cap, rfl, -, hk, -⟩ := h.job hj
  clear hh h hR hj hs2 hid
  go_enter Tryz.func33, Tryz.ntmps33
  go_wp2_with fail
  refine HH.out.mono ?_
  rintro e w1 ⟨he, hb1⟩
  unfold someP at he
  dsimp only at he
  subst he
  have hq1 := HQ.out.below hb1
  obtain ⟨-, y1, -⟩ := hq1.qa.cells
  have HF := Lib.hid (finish_any P g cap k x j 5 [] (by omega) (by omega) (by simp) w1 hq1 HJ.out)
  clear hq1
  go_wp2_with fail
  refine (show Calls Tryz.prog 59 #[.pointer (some ⟨P.p, 0, none⟩), .pointer (some ⟨g, k * 9, none⟩), .int .i64 5, .string { data := #[] }] w1 _ from HF.out).mono ?_
  rintro e w2 ⟨rfl, hq2, hk2⟩
  go_wp2_with fail
  go_ret
  rw [HR.out]
  exact ⟨rfl, _, hq2, (Stp.of_below hb1).trans (Stp.of_kp hk2)⟩
end
/- Walks: a queue of jobs: Forget, List, Get. -/
section
open Go.RowKit Go.Shelf
/-- A list of jobs that is the caller's own. -/
def OwnJobs (w : World) (js : List Jb) (e : Ending) (w' : World) : Prop := (∃ u, e = .returned u ∧ w'.owns w.heap.size 48 9 u js.length (jobsL js)) ∧ Below w.heap.size w w'
theorem owns_empty9 (w : World) : (w.alloc (.cells #[] 48)).owns w.heap.size 48 9 (.slice (some ⟨w.heap.size, 0, none⟩) 0 0) 0 [] :=
 ⟨rfl, .inr ⟨w.heap.size, 0, #[], (0, 0), rfl, Nat.le_refl _, heap_alloc_new w _, okFz_zero _, Nat.le_refl _, Nat.zero_le _, rfl, rfl⟩⟩
theorem CloneJ_any (B : Nat) (js : List Jb) (v : Value) (w : World) (hv : w.owns B 48 9 v js.length (jobsL js)) (hl : js.length ≤ 1000) :
  Calls Tryz.prog 60 #[v] w (OwnJobs w js) := by
 obtain ⟨HPOST, hpost⟩ : ∃ R, R = OwnJobs w js := ⟨_, rfl⟩
 rw [← hpost]
 have HP := Lib.hid hpost
 clear hpost
 rcases hv.2 with ⟨rfl, h0⟩ | ⟨g, c, cur, fz, rfl, _, _, _, hnc, hcm, _, _⟩
 ·have hjs : js = [] := List.eq_nil_of_length_eq_zero h0
  have heq : ∀ W : World, (binOp .eql 52 (.slice none 0 0) (.slice none 0 0)).run Tryz.prog W = .ok (.bool true) W := fun W => by kernel_rfl
  clear hv h0
  go_enter Tryz.func60, Tryz.ntmps60
  go_wp2_with fail
  rw [HP.out]
  refine ⟨⟨_, rfl, ?_⟩, Below.refl _ _⟩
  rw [hjs]
  exact World.owns_nil _ _ _ _
 ·have heq : ∀ W : World, (binOp .eql 52 (.slice (some ⟨g, 0, none⟩) js.length c) (.slice none 0 0)).run Tryz.prog W = .ok (.bool false) W := fun W => by kernel_rfl
  have HOE := Lib.hid (owns_empty9 w)
  have hga : ∀ i u, (jobsL js)[i]? = some u → (w.alloc (.cells #[] 48)).cell? ((⟨g, 0, none⟩ : Addr).add i) = some u := fun i u hu => by
   rw [addr_add, Nat.zero_add]
   exact World.owns.cell (hv.alloc _) _ _ hu
  have HGA := Lib.hid hga
  have hbb : Below w.heap.size w (w.alloc (.cells #[] 48)) := (Below.refl _ w).alloc (Nat.le_refl _) _
  have HBB := Lib.hid hbb
  obtain ⟨i0, hi0, hi1, hi2, hi3⟩ : ∃ i0, Tryz.prog.info? 48 = some i0 ∧ i0.zero = some jobZero ∧ i0.size = 9 ∧ i0.bytes = 112 := by
   have := infoJob3
   cases h : Tryz.prog.info? 48 with
   | none => rw [h] at this; cases this
   | some i0 => rw [h] at this; simp at this; exact ⟨i0, rfl, this.1, this.2.1, this.2.2⟩
  clear hga hv hbb
  obtain ⟨n, hn⟩ : ∃ n, n = js.length := ⟨_, rfl⟩
  rw [← hn] at hl hnc heq ⊢
  have HN := Lib.hid hn
  clear hn
  go_enter Tryz.func60, Tryz.ntmps60
  go_wp2_with (at_builtin; refine wpList_append_owns _ rfl (.tmp 5) (.tmp 6) 52 rfl w.heap.size 48 i0 jobZero 9 112 Tryz.underlying52 hi0 hi1 hi2 hi3 rfl (by decide) (.slice (some ⟨w.heap.size, 0, none⟩) 0 0) 0 [] rfl HOE.out ⟨g, 0, none⟩ n c (jobsL js) rfl (by rw [jobsL_length, HN.out]) HGA.out (jobsL_one js) (by unfold maxLen; omega) (by omega) (by simp) ?_; intro v4 w4 ho4 hg4 _; have HO4 := Lib.hid ho4; have HB4 := Lib.hid (HBB.out.trans (below_grown HOE.out hg4 w.heap.size (Nat.le_refl _) (by simp))); clear ho4 hg4)
  rw [HP.out]
  refine ⟨⟨_, rfl, ?_⟩, HB4.out⟩
  have h := HO4.out
  rw [List.nil_append, Nat.zero_add, HN.out] at h
  exact h
theorem List_did (P : QP) (v : Value) (x : Qst) (w : World) (h : QD P v x w) :
  Calls Tryz.prog 17 #[.pointer (some ⟨P.p, 0, none⟩)] w (OwnJobs w x.list) := by
 obtain ⟨HPOST, hpost⟩ : ∃ R, R = OwnJobs w x.list := ⟨_, rfl⟩
 rw [← hpost]
 have HP := Lib.hid hpost
 clear hpost
 have HS := Lib.hid (shut_any P.p P.d v x.q.last x.down w h.qa)
 obtain ⟨-, y1, -⟩ := h.qa.cells
 have hlen := h.fine.ok.len
 have HC := Lib.hid (CloneJ_any 0 x.q.jobs v w h.ja (by omega))
 obtain ⟨va, vc, rfl⟩ : ∃ a c, v = .slice a x.q.jobs.length c := by
  rcases h.ja.2 with ⟨e, h0⟩ | ⟨g, c, _, _, e, _⟩
  ·exact ⟨none, 0, by rw [e, h0]⟩
  ·exact ⟨_, c, e⟩
 clear h
 by_cases hd : x.down = true
 ·rw [if_pos hd] at HS
  have hL : x.list = [] := by unfold Qst.list; rw [if_pos hd]
  have HL := Lib.hid hL
  clear hd hL
  go_enter Tryz.func17, Tryz.ntmps17
  go_wp2_with fail
  refine HS.out.mono ?_
  rintro e w1 ⟨rfl, rfl⟩
  go_wp2_with fail
  rw [HP.out, HL.out]
  exact ⟨⟨_, rfl, World.owns_nil _ _ _ _⟩, Below.refl _ _⟩
 ·rw [if_neg hd] at HS
  have hL : x.list = x.q.jobs := by unfold Qst.list; rw [if_neg hd]
  have HL := Lib.hid hL
  clear hd hL
  go_enter Tryz.func17, Tryz.ntmps17
  go_wp2_with fail
  refine HS.out.mono ?_
  rintro e w1 ⟨rfl, rfl⟩
  go_wp2_with fail
  refine HC.out.mono ?_
  rintro e w2 ⟨⟨u, rfl, hu⟩, hb2⟩
  go_wp2_with fail
  rw [HP.out, HL.out]
  exact ⟨⟨_, rfl, hu⟩, hb2⟩
end
/- Walks: a queue of jobs: Forget, Compact. -/
section
open Go.RowKit Go.Shelf
/-- The jobs' row is replaced. -/
theorem QD.row {P : QP} {v v' : Value} {x : Qst} {w w' : World} {q' : Qs} (h : QD P v x w) (g : Nat) (hg : v.ownBlock = some g) (hg' : v'.ownBlock = some g) (hk : Kp (fun k => k = g) w w') (hv : w'.owns 0 48 9 v' q'.jobs.length (jobsL q'.jobs)) (hf : q'.fine) (hl : q'.last = x.q.last) :
  QD P v' { x with q := q' } (w'.setCell ⟨P.p, 1, none⟩ v') ∧ Kp (Mine P v) w (w'.setCell ⟨P.p, 1, none⟩ v') := by
 have hgp : ¬ P.p = g := fun e => h.qa.ne h.ja (by rw [hg, e])
 have hqa := h.qa.kp hk hgp
 have hd : DiskAt w' P.d P.b0 P.b1 x.d := ⟨(hk.block _ (lt_of_heap h.dk.at_) (fun e => h.nv.1 (by rw [hg, ← e]))).trans h.dk.at_, h.dk.a0.kp hk (fun e => h.nv.2.1 (by rw [hg, ← e])), h.dk.a1.kp hk (fun e => h.nv.2.2 (by rw [hg, ← e])), h.dk.n01, h.dk.n0, h.dk.n1⟩
 refine ⟨⟨?_, hv.setCell_ne (by rw [hg']; intro e; injection e with e; exact hgp e.symm) _, hd.other h.np.1 h.np.2.1 h.np.2.2 _, h.np, ?_, hf, h.good⟩, ?_⟩
 ·have := hqa.set1 v'
  rw [← hl] at this
  exact this
 ·rw [hg', ← hg]; exact h.nv
 ·exact (hk.mono (fun k e => .inr (.inr (.inr (.inr (by rw [hg, e])))))).setCell (a := ⟨P.p, 1, none⟩) (.inl rfl) _
theorem Forget_did (P : QP) (v : Value) (x : Qst) (id : Int) (w : World) (h : QD P v x w) :
  Calls Tryz.prog 35 #[.pointer (some ⟨P.p, 0, none⟩), .int .i64 id] w fun e w' => Did P v (.int .i64 (x.forget id).1) (x.forget id).2 w e w' := by
 have HH := Lib.hid (some_any P v x id true w h)
 have HQ := Lib.hid h
 obtain ⟨R, hR⟩ : ∃ R, R = x.forget id := ⟨_, rfl⟩
 rw [← hR]
 unfold Qst.forget at hR
 cases hh : x.some_ id true with
 | inl er =>
  rw [hh] at hR HH
  dsimp only at hR
  subst hR
  have her : (er == 0) = false := by
   rw [beq_eq_false_iff_ne]
   rintro rfl
   exact some_ne hh
  clear hh h
  go_enter Tryz.func35, Tryz.ntmps35
  go_wp2_with fail
  refine HH.out.mono ?_
  rintro e w1 ⟨he, hb1⟩
  unfold someP at he
  dsimp only at he
  subst he
  go_wp2_with fail
  go_ret
  exact ⟨rfl, v, HQ.out.below hb1, Stp.of_below hb1⟩
 | inr y =>
  obtain ⟨k, j⟩ := y
  obtain ⟨hj, hs2, hid⟩ := some_job hh
  subst hid
  rw [hh] at hR HH
  dsimp only at hR
  have hjo := h.fine.ok.job j (List.mem_of_getElem? hj)
  have hlast := h.fine.ok.last
  have hlen := h.fine.ok.len
  have HRC := Lib.hid (record_any 5 j.id (by omega) (by have := hjo.id1; omega))
  have htl : (recB 5 j.id).length ≤ 100000000 := by rw [recB_length]; omega
  obtain ⟨T, hT⟩ : ∃ T, T = recB 5 j.id := ⟨_, rfl⟩
  rw [← hT] at hR htl HRC
  have hq1 := note_q x T
  have HN := Lib.hid (fun v W (hW : QD P v x W) => note_any P v x T htl W hW)
  unfold Qst.noted at hR
  obtain ⟨N, hN⟩ : ∃ N, N = x.note T := ⟨_, rfl⟩
  rw [← hN] at hR HN hq1
  obtain ⟨n1, n2⟩ := N
  dsimp only at hR HN hq1
  have HJ := Lib.hid hj
  have HE := Lib.hid hq1
  obtain ⟨g, cap, rfl, -, hk, -⟩ := h.job hj
  unfold strV at HRC HN
  by_cases h0 : n1 = 0
  ·rw [if_pos h0] at hR
   subst h0
   have HR := Lib.hid hR
   clear hR hq1 hT hN hj hjo h hh hs2
   go_enter Tryz.func35, Tryz.ntmps35
   go_wp2_with fail
   refine HH.out.mono ?_
   rintro e w1 ⟨he, hb1⟩
   unfold someP at he
   dsimp only at he
   subst he
   go_wp2_with fail
   refine (show Calls Tryz.prog 56 #[.int .u8 5, .int .i64 (j.id : Int)] w1 _ from HRC.out w1).mono ?_
   rintro e w2 ⟨rfl, hb2⟩
   have hb12 := hb1.trans (hb2.mono hb1.size)
   clear hb1 hb2
   go_wp2_with fail
   refine (HN.out _ w2 (HQ.out.below hb12)).mono ?_
   rintro e w4 ⟨rfl, hq4, hk4⟩
   have hk5 := (Stp.of_below (P := P) (v := .slice (some ⟨g, 0, none⟩) x.q.jobs.length cap) hb12).trans (Stp.of_kp hk4)
   have HQ4 := Lib.hid hq4
   have HK4 := Lib.hid hk5
   obtain ⟨-, y1, -⟩ := hq4.qa.cells
   have hja := hq4.ja
   rw [HE.out] at hja
   have HD := Lib.hid (Delete_any 0 g cap k x.q.jobs w4 hja hk (by omega))
   have hki : (k : Int) + 1 ≤ (x.q.jobs.length : Int) := by omega
   clear hq4 hk5 hk4 hb12 hja
   go_wp2_with fail
   refine HD.out.mono ?_
   rintro e w5 ⟨rfl, hv5, hk5⟩
   have hl : (x.q.jobs.eraseIdx k).length = x.q.jobs.length - 1 := by rw [List.length_eraseIdx, if_pos hk]
   rw [← hl] at hv5
   have hfx := HQ.out.fine.erase k
   obtain ⟨r1, r2⟩ := HQ4.out.row (v' := .slice (some ⟨g, 0, none⟩) (x.q.jobs.length - 1) cap) (q' := { x.q with jobs := x.q.jobs.eraseIdx k }) g rfl rfl hk5 (by rw [hl] at hv5 ⊢; exact hv5) hfx (by rw [HE.out])
   have hgp : ¬ g = P.p := fun e => HQ4.out.qa.ne HQ4.out.ja (by show some g = _; rw [e])
   obtain ⟨-, y2, -, -, y3, -, -⟩ := (HQ4.out.qa.kp hk5 (fun e => hgp e.symm)).cells
   have HR1 := Lib.hid r1
   have HR2 := Lib.hid (HK4.out.trans (Stp.mk (v' := .slice (some ⟨g, 0, none⟩) (x.q.jobs.length - 1) cap) r2 (fun k e => .inl e)))
   clear r1 r2 hv5 hk5 hl hfx
   go_wp2_with fail
   go_ret
   rw [HR.out]
   exact ⟨rfl, _, HR1.out, HR2.out⟩
  ·rw [if_neg h0] at hR
   have HR := Lib.hid hR
   have h0' : (n1 == 0) = false := by rw [beq_eq_false_iff_ne]; exact h0
   clear hR hT hN hj hjo h h0 hq1 hh hs2
   go_enter Tryz.func35, Tryz.ntmps35
   go_wp2_with fail
   refine HH.out.mono ?_
   rintro e w1 ⟨he, hb1⟩
   unfold someP at he
   dsimp only at he
   subst he
   go_wp2_with fail
   refine (show Calls Tryz.prog 56 #[.int .u8 5, .int .i64 (j.id : Int)] w1 _ from HRC.out w1).mono ?_
   rintro e w2 ⟨rfl, hb2⟩
   have hb12 := hb1.trans (hb2.mono hb1.size)
   clear hb1 hb2
   go_wp2_with fail
   refine (HN.out _ w2 (HQ.out.below hb12)).mono ?_
   rintro e w4 ⟨rfl, hq4, hk4⟩
   have hk5 := (Stp.of_below (P := P) (v := .slice (some ⟨g, 0, none⟩) x.q.jobs.length cap) hb12).trans (Stp.of_kp hk4)
   go_wp2_with fail
   go_ret
   rw [HR.out]
   exact ⟨rfl, _, hq4, hk5⟩
theorem Compact_did (P : QP) (v : Value) (x : Qst) (w : World) (h : QD P v x w) :
  Calls Tryz.prog 37 #[.pointer (some ⟨P.p, 0, none⟩)] w fun e w' => Did P v (.int .i64 x.compact.1) x.compact.2 w e w' := by
 have HS := Lib.hid (shut_any P.p P.d v x.q.last x.down w h.qa)
 have HQ := Lib.hid h
 obtain ⟨k0, -⟩ := h.qa.cells
 obtain ⟨R, hR⟩ : ∃ R, R = x.compact := ⟨_, rfl⟩
 rw [← hR]
 unfold Qst.compact at hR
 by_cases hd : x.down = true
 ·rw [if_pos hd] at hR HS
  subst hR
  clear hd h
  go_enter Tryz.func37, Tryz.ntmps37
  go_wp2_with fail
  refine HS.out.mono ?_
  rintro e w1 ⟨rfl, rfl⟩
  go_wp2_with fail
  go_ret
  exact ⟨rfl, v, HQ.out, Stp.refl _ _ _⟩
 ·rw [if_neg hd] at hR HS
  have hdf : x.down = false := by simpa using hd
  have HDF := Lib.hid hdf
  have HR := Lib.hid hR
  clear hd h hR hdf
  go_enter Tryz.func37, Tryz.ntmps37
  go_wp2_with fail
  refine HS.out.mono ?_
  rintro e w1 ⟨rfl, rfl⟩
  go_upto_region 4 with (fail)
  refine wp_region_heldL (fun w' => w'.cell? ⟨P.p, 0, none⟩ = some (.pointer (some ⟨P.d, 0, none⟩))) (by kernel_rfl) k0 (fun hHeld => ?_)
  refine tkH 0 (v := ?_) rfl ?_ ?_
  rotate_left
  ·(intro wq hSq; (try dsimp only at hSq); go_simp; try with_reducible rfl)
  try simp only [q0P, q0Q, q0R, q0S]
  refine tkH 1 (v := ?_) rfl ?_ ?_
  rotate_left
  ·(intro wq hSq; (try dsimp only at hSq); go_simp; try with_reducible rfl)
  try simp only [q0P, q0Q, q0R, q0S]
  refine tkH 2 (v := ?_) rfl ?_ ?_
  rotate_left
  ·(intro wq hSq; (try dsimp only at hSq); go_simp; try with_reducible rfl)
  try simp only [q0P, q0Q, q0R, q0S]
  refine tkH 3 (v := ?_) rfl ?_ ?_
  rotate_left
  ·(intro wq hSq; (try dsimp only at hSq); go_simp; try with_reducible rfl)
  try simp only [q0P, q0Q, q0R, q0S]
  refine tkH 4 (v := ?_) rfl ?_ ?_
  rotate_left
  ·(intro wq hSq; (try dsimp only at hSq); go_simp; try with_reducible rfl)
  try simp only [q0P, q0Q, q0R, q0S]
  refine tkH 5 (v := ?_) rfl ?_ ?_
  rotate_left
  ·(intro wq hSq; (try dsimp only at hSq); go_simp; try with_reducible rfl)
  try simp only [q0P, q0Q, q0R, q0S]
  refine wpAnyH_stepL 6 (by kernel_rfl) rfl (fun K hK => ?_)
  go_simp
  go_at_call 81
  have hqd := HQ.out.drew
  refine (show Calls Tryz.prog 81 #[.pointer (some ⟨P.p, 0, none⟩)] w1.drew _ from short_any P.p _ v x.down x.q w1.drew hqd.qa hqd.ja hqd.fine.ok).mono ?_
  rintro e w2 ⟨⟨u, rfl, hu⟩, hb2d⟩
  have hq2 := hqd.below hb2d
  have hk2 : Kp (Mine P v) w1 w2 := Kp.of_below ((Below.refl _ w1).drew.trans hb2d)
  have HQ2 := Lib.hid hq2
  have HK2 := Lib.hid hk2
  obtain ⟨m0, -⟩ := hq2.qa.cells
  have HRW := Lib.hid (Rewrite_any P.d P.b0 P.b1 x.d x.q.short u w2 hu.reads hq2.dk hq2.good.ok)
  have HPR := Lib.hid (rewritten_post hq2.good x.q.short)
  clear hqd hb2d hq2 hk2 hu
  refine hK.out _ _ m0 (fun hS2 => ?_)
  clear hK K hHeld k0
  try simp only [q0P, q0Q, q0R, q0S]
  refine wpAnyH_stepL 7 (by kernel_rfl) rfl (fun K hK => ?_)
  go_simp
  go_at_call 80
  refine HRW.out.mono ?_
  obtain ⟨B, hB⟩ : ∃ B, B = x.d.rewritten x.q.short := ⟨_, rfl⟩
  have hR2 := HR.out
  rw [← hB] at hR2 HPR ⊢
  have HR2 := Lib.hid hR2
  clear hB hR2 HR HRW
  obtain ⟨b1, b2⟩ := B
  dsimp only at HR2 HPR ⊢
  rintro e w3 ⟨rfl, hd3, hk3⟩
  have hq3 := HQ2.out.disk hk3 hd3 HPR.out.good
  have HQ3 := Lib.hid hq3
  have HK3 := Lib.hid (HK2.out.trans (kp_three (v := v) hk3))
  obtain ⟨m0, -⟩ := hq3.qa.cells
  have HM := Lib.hid (met_any P v _ b1 w3 hq3)
  refine hK.out _ _ m0 (fun hS3 => ?_)
  clear hK K hS2 hd3 hk3 hq3
  try simp only [q0P, q0Q, q0R, q0S]
  refine wpAnyH_stepL 8 (by kernel_rfl) rfl (fun K hK => ?_)
  go_simp
  go_at_call 79
  refine HM.out.mono ?_
  rintro e w4 ⟨rfl, hq4, hk4⟩
  obtain ⟨m0, -⟩ := hq4.qa.cells
  have HQ4 := Lib.hid hq4
  have HK4 := Lib.hid (HK3.out.trans hk4)
  refine hK.out _ _ m0 (fun hS4 => ?_)
  clear hK K hS3 hq4 hk4
  try simp only [q0P, q0Q, q0R, q0S]
  refine tkH 9 (v := ?_) rfl ?_ ?_
  rotate_left
  ·(intro wq hSq; (try dsimp only at hSq); go_simp; try with_reducible rfl)
  try simp only [q0P, q0Q, q0R, q0S]
  refine wpAnyH_end (by kernel_rfl) ?_
  go_wp2_with fail
  go_ret
  rw [HR2.out]
  have hq := HQ4.out
  rw [HDF.out, Bool.false_or] at hq
  exact ⟨rfl, _, hq, Stp.of_kp HK4.out⟩
end
/- Walks: a queue of jobs: Get. -/
section
open Go.RowKit Go.Shelf
theorem find_idx {js : List Jb} {f : Jb → Bool} : js.find? f = (js.findIdx? f).bind fun k => js[k]? := by
 induction js with
 | nil => rfl
 | cons a js ih =>
  rw [List.find?_cons, List.findIdx?_cons]
  cases h : f a with
  | true => rfl
  | false =>
   simp only [ih, Bool.false_eq_true, if_false]
   cases js.findIdx? f <;> simp
theorem BoxAt.free {w : World} {b : Nat} {j : Jb} (h : BoxAt w b j) : w.frozen? ⟨b, 0, none⟩ = false ∧ w.frozen? ⟨b, 1, none⟩ = false ∧ w.frozen? ⟨b, 2, none⟩ = false ∧ w.frozen? ⟨b, 3, none⟩ = false ∧ w.frozen? ⟨b, 4, none⟩ = false ∧ w.frozen? ⟨b, 5, none⟩ = false ∧ w.frozen? ⟨b, 6, none⟩ = false ∧ w.frozen? ⟨b, 7, none⟩ = false ∧ w.frozen? ⟨b, 8, none⟩ = false :=
 ⟨(h.cell (i := 0) rfl).2, (h.cell (i := 1) rfl).2, (h.cell (i := 2) rfl).2, (h.cell (i := 3) rfl).2, (h.cell (i := 4) rfl).2, (h.cell (i := 5) rfl).2, (h.cell (i := 6) rfl).2, (h.cell (i := 7) rfl).2, (h.cell (i := 8) rfl).2⟩
theorem nine_heap {w : World} {b : Nat} {c : Array Value} {T : TypeId} (h : w.heap[b]? = some (.cells c T)) (hs : c.size = 9) (v0 v1 v2 v3 v4 v5 v6 v7 v8 : Value) : (((((((((w.setCell ⟨b, 0, none⟩ v0).setCell ⟨b, 1, none⟩ v1).setCell ⟨b, 2, none⟩ v2).setCell ⟨b, 3, none⟩ v3).setCell ⟨b, 4, none⟩ v4).setCell ⟨b, 5, none⟩ v5).setCell ⟨b, 6, none⟩ v6).setCell ⟨b, 7, none⟩ v7).setCell ⟨b, 8, none⟩ v8).heap[b]? = some (.cells #[v0, v1, v2, v3, v4, v5, v6, v7, v8] T) := by
 obtain ⟨l⟩ := c
 match l, hs with
 | [a0, a1, a2, a3, a4, a5, a6, a7, a8], _ => simp [World.setCell, Array.getElem?_modify, h]
theorem nine_below {w w0 : World} {B b : Nat} (h : Below B w0 w) (hB : B ≤ b) (v0 v1 v2 v3 v4 v5 v6 v7 v8 : Value) : Below B w0 (((((((((w.setCell ⟨b, 0, none⟩ v0).setCell ⟨b, 1, none⟩ v1).setCell ⟨b, 2, none⟩ v2).setCell ⟨b, 3, none⟩ v3).setCell ⟨b, 4, none⟩ v4).setCell ⟨b, 5, none⟩ v5).setCell ⟨b, 6, none⟩ v6).setCell ⟨b, 7, none⟩ v7).setCell ⟨b, 8, none⟩ v8) :=
 ((((((((h.setCell (p := ⟨b, 0, none⟩) hB v0).setCell (p := ⟨b, 1, none⟩) hB v1).setCell (p := ⟨b, 2, none⟩) hB v2).setCell (p := ⟨b, 3, none⟩) hB v3).setCell (p := ⟨b, 4, none⟩) hB v4).setCell (p := ⟨b, 5, none⟩) hB v5).setCell (p := ⟨b, 6, none⟩) hB v6).setCell (p := ⟨b, 7, none⟩) hB v7).setCell (p := ⟨b, 8, none⟩) hB v8
theorem Get_did (P : QP) (v : Value) (x : Qst) (id : Int) (w : World) (h : QD P v x w) :
  Calls Tryz.prog 45 #[.pointer (some ⟨P.p, 0, none⟩), .int .i64 id] w fun e w' => e = .returned (.tuple #[(x.get id).1.val, .int .i64 (x.get id).2]) ∧ Below w.heap.size w w' := by
 obtain ⟨R, hR⟩ : ∃ R, R = x.get id := ⟨_, rfl⟩
 rw [← hR]
 unfold Qst.get at hR
 have hb0 : Below w.heap.size w (w.alloc (.cells #[.int .i64 0, .string { data := #[] }, .string { data := #[] }, .int .i64 0, .int .i64 0, .int .i64 0, .string { data := #[] }, .string { data := #[] }, .string { data := #[] }] 48)) := (Below.refl _ w).alloc (Nat.le_refl _) _
 have h1 := h.below hb0
 have HS := Lib.hid (shut_any P.p P.d v x.q.last x.down _ h1.qa)
 have hlen := h.fine.ok.len
 have HI := Lib.hid (index_any P.p _ v x.q.last x.down x.q.jobs id _ h1.qa h1.ja (by omega))
 obtain ⟨W1, hW1⟩ : ∃ W, W = w.alloc (.cells #[.int .i64 0, .string { data := #[] }, .string { data := #[] }, .int .i64 0, .int .i64 0, .int .i64 0, .string { data := #[] }, .string { data := #[] }, .string { data := #[] }] 48) := ⟨_, rfl⟩
 have g1 : BoxAt W1 w.heap.size Jb.none_ := by rw [hW1]; exact alloc_last _ _ rfl
 rw [← hW1] at HS HI h1 hb0
 have HQ := Lib.hid h1
 have HW1 := Lib.hid hW1
 have HB0 := Lib.hid hb0
 have HG := Lib.hid g1
 obtain ⟨b, hb⟩ : ∃ b, b = w.heap.size := ⟨_, rfl⟩
 rw [← hb] at HG
 have HBW := Lib.hid hb
 clear h1 hW1 hb0 g1 hb
 by_cases hd : x.down = true
 ·rw [if_pos hd] at hR HS
  subst hR
  clear hd
  go_enter Tryz.func45, Tryz.ntmps45
  go_upto_region 1 with (fail)
  rw [← HW1.out, ← HBW.out]
  go_wp2_with fail
  refine HS.out.mono ?_
  rintro e w1 ⟨rfl, rfl⟩
  obtain ⟨d0, d1, d2, d3, d4, d5, d6, d7, d8⟩ := HG.out.all
  obtain ⟨f0, f1, f2, f3, f4, f5, f6, f7, f8⟩ := HG.out.free
  go_wp2_with fail
  have hbx : BoxAt (((((((((w1.setCell ⟨b, 0, none⟩ (.int .i64 0)).setCell ⟨b, 1, none⟩ (.string { data := #[] })).setCell ⟨b, 2, none⟩ (.string { data := #[] })).setCell ⟨b, 3, none⟩ (.int .i64 0)).setCell ⟨b, 4, none⟩ (.int .i64 0)).setCell ⟨b, 5, none⟩ (.int .i64 0)).setCell ⟨b, 6, none⟩ (.string { data := #[] })).setCell ⟨b, 7, none⟩ (.string { data := #[] })).setCell ⟨b, 8, none⟩ (.string { data := #[] })) b Jb.none_ := nine_heap HG.out rfl _ _ _ _ _ _ _ _ _
  have hbl : Below w.heap.size w (((((((((w1.setCell ⟨b, 0, none⟩ (.int .i64 0)).setCell ⟨b, 1, none⟩ (.string { data := #[] })).setCell ⟨b, 2, none⟩ (.string { data := #[] })).setCell ⟨b, 3, none⟩ (.int .i64 0)).setCell ⟨b, 4, none⟩ (.int .i64 0)).setCell ⟨b, 5, none⟩ (.int .i64 0)).setCell ⟨b, 6, none⟩ (.string { data := #[] })).setCell ⟨b, 7, none⟩ (.string { data := #[] })).setCell ⟨b, 8, none⟩ (.string { data := #[] })) := nine_below HB0.out (Nat.le_of_eq HBW.out.symm) _ _ _ _ _ _ _ _ _
  generalize (((((((((w1.setCell ⟨b, 0, none⟩ (.int .i64 0)).setCell ⟨b, 1, none⟩ (.string { data := #[] })).setCell ⟨b, 2, none⟩ (.string { data := #[] })).setCell ⟨b, 3, none⟩ (.int .i64 0)).setCell ⟨b, 4, none⟩ (.int .i64 0)).setCell ⟨b, 5, none⟩ (.int .i64 0)).setCell ⟨b, 6, none⟩ (.string { data := #[] })).setCell ⟨b, 7, none⟩ (.string { data := #[] })).setCell ⟨b, 8, none⟩ (.string { data := #[] })) = w9 at hbx hbl ⊢
  clear d0 d1 d2 d3 d4 d5 d6 d7 d8 f0 f1 f2 f3 f4 f5 f6 f7 f8
  obtain ⟨d0, d1, d2, d3, d4, d5, d6, d7, d8⟩ := hbx.all
  exact bodyPost_ret (v := .tuple #[Jb.none_.val, .int .i64 9]) (by simp [results, Tryz.results45, go_sem, d0, d1, d2, d3, d4, d5, d6, d7, d8]; rfl) rfl ⟨rfl, hbl⟩
 ·rw [if_neg hd] at hR HS
  rw [find_idx] at hR
  clear hd
  cases hf : x.q.jobs.findIdx? (fun j => decide ((j.id : Int) = id)) with
  | none =>
   rw [hf] at hR HI
   dsimp only [Option.bind_none] at hR
   subst hR
   clear hf
   rw [show placeI none = -1 from rfl] at HI
   go_enter Tryz.func45, Tryz.ntmps45
   go_upto_region 1 with (fail)
   rw [← HW1.out, ← HBW.out]
   go_wp2_with fail
   refine HS.out.mono ?_
   rintro e w1 ⟨rfl, rfl⟩
   go_wp2_with fail
   refine HI.out.mono ?_
   rintro e w2 ⟨rfl, hb2⟩
   have hg2 := HG.out.below hb2
   have hb02 := HB0.out.trans (hb2.mono HB0.out.size)
   obtain ⟨d0, d1, d2, d3, d4, d5, d6, d7, d8⟩ := hg2.all
   obtain ⟨f0, f1, f2, f3, f4, f5, f6, f7, f8⟩ := hg2.free
   go_wp2_with fail
   have hbx : BoxAt (((((((((w2.setCell ⟨b, 0, none⟩ (.int .i64 0)).setCell ⟨b, 1, none⟩ (.string { data := #[] })).setCell ⟨b, 2, none⟩ (.string { data := #[] })).setCell ⟨b, 3, none⟩ (.int .i64 0)).setCell ⟨b, 4, none⟩ (.int .i64 0)).setCell ⟨b, 5, none⟩ (.int .i64 0)).setCell ⟨b, 6, none⟩ (.string { data := #[] })).setCell ⟨b, 7, none⟩ (.string { data := #[] })).setCell ⟨b, 8, none⟩ (.string { data := #[] })) b Jb.none_ := nine_heap hg2 rfl _ _ _ _ _ _ _ _ _
   have hbl : Below w.heap.size w (((((((((w2.setCell ⟨b, 0, none⟩ (.int .i64 0)).setCell ⟨b, 1, none⟩ (.string { data := #[] })).setCell ⟨b, 2, none⟩ (.string { data := #[] })).setCell ⟨b, 3, none⟩ (.int .i64 0)).setCell ⟨b, 4, none⟩ (.int .i64 0)).setCell ⟨b, 5, none⟩ (.int .i64 0)).setCell ⟨b, 6, none⟩ (.string { data := #[] })).setCell ⟨b, 7, none⟩ (.string { data := #[] })).setCell ⟨b, 8, none⟩ (.string { data := #[] })) := nine_below hb02 (Nat.le_of_eq HBW.out.symm) _ _ _ _ _ _ _ _ _
   generalize (((((((((w2.setCell ⟨b, 0, none⟩ (.int .i64 0)).setCell ⟨b, 1, none⟩ (.string { data := #[] })).setCell ⟨b, 2, none⟩ (.string { data := #[] })).setCell ⟨b, 3, none⟩ (.int .i64 0)).setCell ⟨b, 4, none⟩ (.int .i64 0)).setCell ⟨b, 5, none⟩ (.int .i64 0)).setCell ⟨b, 6, none⟩ (.string { data := #[] })).setCell ⟨b, 7, none⟩ (.string { data := #[] })).setCell ⟨b, 8, none⟩ (.string { data := #[] })) = w9 at hbx hbl ⊢
   clear d0 d1 d2 d3 d4 d5 d6 d7 d8 f0 f1 f2 f3 f4 f5 f6 f7 f8
   obtain ⟨d0, d1, d2, d3, d4, d5, d6, d7, d8⟩ := hbx.all
   exact bodyPost_ret (v := .tuple #[Jb.none_.val, .int .i64 4]) (by simp [results, Tryz.results45, go_sem, d0, d1, d2, d3, d4, d5, d6, d7, d8]; rfl) rfl ⟨rfl, hbl⟩
  | some k =>
   obtain ⟨j, hj, hjid⟩ := findIdx_get hf
   rw [hf] at hR HI
   dsimp only [Option.bind_some] at hR
   rw [hj] at hR
   dsimp only at hR
   subst hR
   rw [show placeI (some k) = (k : Int) from rfl] at HI
   have HJ := Lib.hid hj
   obtain ⟨g, cap, rfl, -, hk, -⟩ := HQ.out.job hj
   clear hf hjid hj
   go_enter Tryz.func45, Tryz.ntmps45
   go_upto_region 1 with (fail)
   rw [← HW1.out, ← HBW.out]
   go_wp2_with fail
   refine HS.out.mono ?_
   rintro e w1 ⟨rfl, rfl⟩
   go_wp2_with fail
   refine HI.out.mono ?_
   rintro e w2 ⟨rfl, hb2⟩
   have hg2 := HG.out.below hb2
   have hb02 := HB0.out.trans (hb2.mono HB0.out.size)
   have hq2 := HQ.out.below hb2
   obtain ⟨-, y1, -⟩ := hq2.qa.cells
   obtain ⟨g', cap', hge, -, c0, c1, c2, c3, c4, c5, c6, c7, c8⟩ := JobsAt.cells hq2.ja k j HJ.out
   injection hge with hge _ _
   injection hge with hge
   injection hge with hge
   subst hge
   unfold strV at c1 c2 c6 c7 c8
   have HG2 := Lib.hid hg2
   have HB02 := Lib.hid hb02
   obtain ⟨d0, d1, d2, d3, d4, d5, d6, d7, d8⟩ := hg2.all
   obtain ⟨f0, f1, f2, f3, f4, f5, f6, f7, f8⟩ := hg2.free
   clear hg2 hq2 hb02 hb2
   go_wp2_with fail
   clear c0 c1 c2 c3 c4 c5 c6 c7 c8
   have hbx : BoxAt (((((((((w2.setCell ⟨b, 0, none⟩ (.int .i64 j.id)).setCell ⟨b, 1, none⟩ (.string (bytesOf j.client))).setCell ⟨b, 2, none⟩ (.string (bytesOf j.token))).setCell ⟨b, 3, none⟩ (.int .i64 j.prio)).setCell ⟨b, 4, none⟩ (.int .i64 j.state)).setCell ⟨b, 5, none⟩ (.int .i64 j.tries)).setCell ⟨b, 6, none⟩ (.string (bytesOf j.work))).setCell ⟨b, 7, none⟩ (.string (bytesOf j.point))).setCell ⟨b, 8, none⟩ (.string (bytesOf j.result))) b j := nine_heap HG2.out rfl _ _ _ _ _ _ _ _ _
   have hbl : Below w.heap.size w (((((((((w2.setCell ⟨b, 0, none⟩ (.int .i64 j.id)).setCell ⟨b, 1, none⟩ (.string (bytesOf j.client))).setCell ⟨b, 2, none⟩ (.string (bytesOf j.token))).setCell ⟨b, 3, none⟩ (.int .i64 j.prio)).setCell ⟨b, 4, none⟩ (.int .i64 j.state)).setCell ⟨b, 5, none⟩ (.int .i64 j.tries)).setCell ⟨b, 6, none⟩ (.string (bytesOf j.work))).setCell ⟨b, 7, none⟩ (.string (bytesOf j.point))).setCell ⟨b, 8, none⟩ (.string (bytesOf j.result))) := nine_below HB02.out (Nat.le_of_eq HBW.out.symm) _ _ _ _ _ _ _ _ _
   generalize (((((((((w2.setCell ⟨b, 0, none⟩ (.int .i64 j.id)).setCell ⟨b, 1, none⟩ (.string (bytesOf j.client))).setCell ⟨b, 2, none⟩ (.string (bytesOf j.token))).setCell ⟨b, 3, none⟩ (.int .i64 j.prio)).setCell ⟨b, 4, none⟩ (.int .i64 j.state)).setCell ⟨b, 5, none⟩ (.int .i64 j.tries)).setCell ⟨b, 6, none⟩ (.string (bytesOf j.work))).setCell ⟨b, 7, none⟩ (.string (bytesOf j.point))).setCell ⟨b, 8, none⟩ (.string (bytesOf j.result))) = w9 at hbx hbl ⊢
   clear d0 d1 d2 d3 d4 d5 d6 d7 d8 f0 f1 f2 f3 f4 f5 f6 f7 f8
   obtain ⟨d0, d1, d2, d3, d4, d5, d6, d7, d8⟩ := hbx.all
   exact bodyPost_ret (v := .tuple #[j.val, .int .i64 0]) (by simp [results, Tryz.results45, go_sem, d0, d1, d2, d3, d4, d5, d6, d7, d8]; rfl) rfl ⟨rfl, hbl⟩
end
/- As HeldD, with what every operation keeps, the late ones too. -/
end Go.Proofs.YtoggmplkbiidhaaGreatDoor
namespace Go
open RowKit
section
variable {P : Program} {ops : Array Oper} {Q : Exit → Act → World → Prop} {S T : World → Prop} {late : Nat → Bool}
/-- As in a held region; what is late need not keep S. -/
def wpAnyU (P : Program) (ops : Array Oper) (Q : Exit → Act → World → Prop) (S T : World → Prop) (late : Nat → Bool) : Nat → Array Bool → Act → World → Prop
 | 0, listed, a, w => Region.ready .any ops listed = [] ∧ Q .normal a w
 | fuel + 1, listed, a, w =>
  (Region.ready .any ops listed = [] → Q .normal a w) ∧
  ∀ i ∈ Region.ready .any ops listed, wpOp P ops Q i (fun a' w' => ((late i = false → S w → S w') ∧ (T w → T w')) ∧ wpAnyU P ops Q S T late fuel (listed.setIfInBounds i true) a' w') a w
theorem wpAny_of_U : ∀ (fuel : Nat) (listed : Array Bool) (a : Act) (w : World), wpAnyU P ops Q S T late fuel listed a w → wpAny P .any ops Q fuel listed a w
 | 0, _, _, _, h => h
 | fuel + 1, _, _, _, h => ⟨h.1, fun i hi => wpOp_mono (fun a' w' h' => wpAny_of_U fuel _ a' w' h'.2) (h.2 i hi)⟩
theorem wpAnyU_first {i : Nat} {oi : Oper} {v : Value} (hw : waitsB ops late i = true) (hi : ops[i]? = some oi) (hsel : ∀ (j : Nat) (o : Oper) cs b, ops[j]? = some o → o.op ≠ .select cs b)
  (hQ : ∀ c a w, Q (.panic c) (a.put oi.dst v) w → Q (.panic c) a w) :
  ∀ (fuel : Nat) (listed : Array Bool) (a : Act) (w : World),
   (∀ j oj, ops[j]? = some oj → j ≠ i → listed.getD j true = false → (∀ e ∈ oj.after, Region.binds .any e = true → e.on ≠ i) → oi.apart ops oj = true) →
   i ∈ Region.ready .any ops listed → YieldsIf P ops S oi v a → S w →
   wpAnyU P ops Q S T late fuel (listed.setIfInBounds i true) (a.put oi.dst v) w → wpAnyU P ops Q S T late (fuel + 1) listed a w := by
 intro fuel
 induction fuel with
 | zero =>
  intro listed a w _ hr hy hS H
  refine ⟨fun h => (by rw [h] at hr; cases hr), fun j hj => ?_⟩
  by_cases hji : j = i
  ·subst hji; exact hy.wpOp hi hS ⟨⟨fun _ h => h, fun h => h⟩, H⟩
  ·have := ready_mono hj hji
   rw [H.1] at this
   cases this
 | succ fuel ih =>
  intro listed a w hfree hr hy hS H
  refine ⟨fun h => (by rw [h] at hr; cases hr), fun j hj => ?_⟩
  by_cases hji : j = i
  ·subst hji; exact hy.wpOp hi hS ⟨⟨fun _ h => h, fun h => h⟩, H⟩
  ·have hjL : late j = false := by
    cases hl : late j with
    | false => rfl
    | true => exact (unlisted_not (mem_ready.1 hr).1 (late_listed hw hl hj)).elim
   have h1 := H.2 j (ready_mono hj hji)
   obtain ⟨hjun, oj, hoj, hall⟩ := mem_ready.1 hj
   have hnot : ∀ e ∈ oj.after, Region.binds .any e = true → e.on ≠ i := fun e he hb heq => by
    have h1 := hall e he hb
    rw [heq] at h1
    exact unlisted_not (mem_ready.1 hr).1 h1
   have h2 := wpOp_putIf hoj (hfree j oj hoj hji hjun hnot) (fun cs b => hsel i oi cs b hi) (fun cs b => hsel j oj cs b hoj) hQ hy h1
   have hfree' : ∀ k ok, ops[k]? = some ok → k ≠ i → (listed.setIfInBounds j true).getD k true = false →
     (∀ e ∈ ok.after, Region.binds .any e = true → e.on ≠ i) → oi.apart ops ok = true := fun k ok hk hki hun hno => by
    refine hfree k ok hk hki ?_ hno
    by_cases hjk : j = k
    ·subst hjk; exact hjun
    ·rw [getD_set_ne true hjk] at hun; exact hun
   refine wpOp_mono (fun a' w' h3 => ⟨h3.2.1, ih (listed.setIfInBounds j true) a' w' hfree' (ready_mono hr (Ne.symm hji)) h3.1 (h3.2.1.1 hjL hS) ?_⟩) h2
   rw [Array.setIfInBounds_comm _ _ hji]
   exact h3.2.2
/-- An operation that yields in every world. -/
theorem wpAnyU_firstW {i : Nat} {oi : Oper} {v : Value} (hi : ops[i]? = some oi) (hsel : ∀ (j : Nat) (o : Oper) cs b, ops[j]? = some o → o.op ≠ .select cs b)
  (hQ : ∀ c a w, Q (.panic c) (a.put oi.dst v) w → Q (.panic c) a w) :
  ∀ (fuel : Nat) (listed : Array Bool) (a : Act) (w : World),
   (∀ j oj, ops[j]? = some oj → j ≠ i → listed.getD j true = false → (∀ e ∈ oj.after, Region.binds .any e = true → e.on ≠ i) → oi.apart ops oj = true) →
   i ∈ Region.ready .any ops listed → YieldsIf P ops T oi v a → T w →
   wpAnyU P ops Q S T late fuel (listed.setIfInBounds i true) (a.put oi.dst v) w → wpAnyU P ops Q S T late (fuel + 1) listed a w := by
 intro fuel
 induction fuel with
 | zero =>
  intro listed a w _ hr hy hT H
  refine ⟨fun h => (by rw [h] at hr; cases hr), fun j hj => ?_⟩
  by_cases hji : j = i
  ·subst hji; exact hy.wpOp hi hT ⟨⟨fun _ h => h, fun h => h⟩, H⟩
  ·have := ready_mono hj hji
   rw [H.1] at this
   cases this
 | succ fuel ih =>
  intro listed a w hfree hr hy hT H
  refine ⟨fun h => (by rw [h] at hr; cases hr), fun j hj => ?_⟩
  by_cases hji : j = i
  ·subst hji; exact hy.wpOp hi hT ⟨⟨fun _ h => h, fun h => h⟩, H⟩
  ·have h1 := H.2 j (ready_mono hj hji)
   obtain ⟨hjun, oj, hoj, hall⟩ := mem_ready.1 hj
   have hnot : ∀ e ∈ oj.after, Region.binds .any e = true → e.on ≠ i := fun e he hb heq => by
    have h1 := hall e he hb
    rw [heq] at h1
    exact unlisted_not (mem_ready.1 hr).1 h1
   have h2 := wpOp_putIf (S := T) hoj (hfree j oj hoj hji hjun hnot) (fun cs b => hsel i oi cs b hi) (fun cs b => hsel j oj cs b hoj) hQ hy h1
   have hfree' : ∀ k ok, ops[k]? = some ok → k ≠ i → (listed.setIfInBounds j true).getD k true = false →
     (∀ e ∈ ok.after, Region.binds .any e = true → e.on ≠ i) → oi.apart ops ok = true := fun k ok hk hki hun hno => by
    refine hfree k ok hk hki ?_ hno
    by_cases hjk : j = k
    ·subst hjk; exact hjun
    ·rw [getD_set_ne true hjk] at hun; exact hun
   refine wpOp_mono (fun a' w' h3 => ⟨h3.2.1, ih (listed.setIfInBounds j true) a' w' hfree' (ready_mono hr (Ne.symm hji)) h3.1 (h3.2.1.2 hT) ?_⟩) h2
   rw [Array.setIfInBounds_comm _ _ hji]
   exact h3.2.2
theorem wpAnyU_take (i : Nat) {oi : Oper} {v : Value} {fuel : Nat} {listed : Array Bool} {a : Act} {w : World} (hr : (Region.ready .any ops listed).contains i = true) (hw : waitsB ops late i = true) (hi : ops.toList[i]? = some oi)
  (hs : Region.noSelect ops = true) (hf : Region.free .any ops listed i = true)
  (hQ : ∀ c a w, Q (.panic c) (a.put oi.dst v) w → Q (.panic c) a w) (hy : YieldsIf P ops S oi v a) (hS : S w)
  (h : wpAnyU P ops Q S T late fuel (listed.setIfInBounds i true) (a.put oi.dst v) w) : wpAnyU P ops Q S T late (fuel + 1) listed a w :=
 wpAnyU_first hw (by simpa using hi) (Region.noSelect_spec hs) hQ fuel listed a w (Region.free_spec (by simpa using hi) hf) (by simpa using hr) hy hS h
theorem wpAnyU_takeW (i : Nat) {oi : Oper} {v : Value} {fuel : Nat} {listed : Array Bool} {a : Act} {w : World} (hr : (Region.ready .any ops listed).contains i = true) (hi : ops.toList[i]? = some oi)
  (hs : Region.noSelect ops = true) (hf : Region.free .any ops listed i = true)
  (hQ : ∀ c a w, Q (.panic c) (a.put oi.dst v) w → Q (.panic c) a w) (hy : YieldsIf P ops T oi v a) (hT : T w)
  (h : wpAnyU P ops Q S T late fuel (listed.setIfInBounds i true) (a.put oi.dst v) w) : wpAnyU P ops Q S T late (fuel + 1) listed a w :=
 wpAnyU_firstW (by simpa using hi) (Region.noSelect_spec hs) hQ fuel listed a w (Region.free_spec (by simpa using hi) hf) (by simpa using hr) hy hT h
/-- The one operation that may come up; it is late. -/
theorem wpAnyU_step (i : Nat) {o : Oper} {fuel : Nat} {listed : Array Bool} {a : Act} {w : World} (hr : Region.ready .any ops listed = [i]) (hl : late i = true) (ho : ops.toList[i]? = some o)
  (h : ∀ K' : Act → World → Prop, Shut (∀ a w, T w → (T w → wpAnyU P ops Q S T late fuel (listed.setIfInBounds i true) a w) → K' a w) → if Region.wanted o (yielded ops a.tmps) = true then Oper.wp P o a w K' Q else K' (a.put o.dst undef) w) :
  wpAnyU P ops Q S T late (fuel + 1) listed a w := by
 refine ⟨fun h0 => (by rw [hr] at h0; cases h0), fun j hj => ?_⟩
 rw [hr] at hj
 obtain rfl : j = i := by simpa using hj
 exact wpOp_step (by simpa using ho) (fun K' hK => h K' (fun a w hT hW => hK a w ⟨⟨fun h => (by rw [hl] at h; cases h), fun _ => hT⟩, hW hT⟩))
theorem wpAnyU_end {fuel : Nat} {listed : Array Bool} {a : Act} {w : World} (hr : Region.ready .any ops listed = []) (h : Q .normal a w) : wpAnyU P ops Q S T late fuel listed a w := by
 cases fuel with
 | zero => exact ⟨hr, h⟩
 | succ fuel => exact ⟨fun _ => h, by rw [hr]; simp⟩
theorem wp_region_lateU {id : Nat} {a : Act} {w : World} (S T : World → Prop) (late : Nat → Bool) (hm : P.follows .mixedOrders = true) (hS : S w.drew) (hT : T w.drew)
  (h : S w.drew → T w.drew → wpAnyU P ops Q S T late ops.size (Array.replicate ops.size false) a w.drew) : (Code.region id ops true).wp P Q a w :=
 wp_region_any hm (wpAny_of_U _ _ _ _ (h hS hT))
/-- The one operation that may come up; S is shown again behind it. -/
theorem wpAnyU_keep (i : Nat) {o : Oper} {fuel : Nat} {listed : Array Bool} {a : Act} {w : World} (hr : Region.ready .any ops listed = [i]) (ho : ops.toList[i]? = some o)
  (h : ∀ K' : Act → World → Prop, Shut (∀ a w, S w → T w → (S w → T w → wpAnyU P ops Q S T late fuel (listed.setIfInBounds i true) a w) → K' a w) → if Region.wanted o (yielded ops a.tmps) = true then Oper.wp P o a w K' Q else K' (a.put o.dst undef) w) :
  wpAnyU P ops Q S T late (fuel + 1) listed a w := by
 refine ⟨fun h0 => (by rw [hr] at h0; cases h0), fun j hj => ?_⟩
 rw [hr] at hj
 obtain rfl : j = i := by simpa using hj
 exact wpOp_step (by simpa using ho) (fun K' hK => h K' (fun a w hS hT hW => hK a w ⟨⟨fun _ _ => hS, fun _ => hT⟩, hW hS hT⟩))
end
end Go
/- Walks: a queue of jobs: a record of the first kind is read. -/
namespace Go.Proofs.YtoggmplkbiidhaaGreatDoor
section
open Go.RowKit Go.Shelf
theorem label_any (s : List UInt8) (w : World) : Calls Tryz.prog 52 #[strV s] w fun e w' => e = .returned (.bool (labelB s)) ∧ w' = w := by
 unfold labelB strV
 have hz := bytesOf_size s
 by_cases h : 0 < s.length
 ·have h1 : 0 < (bytesOf s).size := by omega
  rw [decide_eq_true h, Bool.true_and]
  by_cases h2 : s.length ≤ 32
  ·have h3 : ((bytesOf s).size : Int) ≤ 32 := by omega
   rw [decide_eq_true h2]
   clear hz
   go_enter Tryz.func52, Tryz.ntmps52
   go_wp2
   go_ret
   exact ⟨rfl, rfl⟩
  ·have h3 : ¬ ((bytesOf s).size : Int) ≤ 32 := by omega
   rw [decide_eq_false h2]
   clear hz
   go_enter Tryz.func52, Tryz.ntmps52
   go_wp2
   go_ret
   exact ⟨rfl, rfl⟩
 ·have h1 : ¬ 0 < (bytesOf s).size := by omega
  rw [decide_eq_false h, Bool.false_and]
  clear hz
  go_enter Tryz.func52, Tryz.ntmps52
  go_wp2
  go_ret
  exact ⟨rfl, rfl⟩
theorem takeT_len {s t r : List UInt8} {m : Nat} (h : takeT s m = some (t, r)) : t.length ≤ m ∧ r.length ≤ s.length := by
 unfold takeT at h
 cases hn : takeN s 4 with
 | none => rw [hn] at h; cases h
 | some x =>
  obtain ⟨n, r0⟩ := x
  rw [hn, Option.bind_some] at h
  obtain ⟨-, hr0, -⟩ := takeN_lt hn
  split at h
  ·rename_i hc
   injection h with h; injection h with h1 h2
   rw [← h1, ← h2, List.length_take, List.length_drop, hr0, List.length_drop]
   exact ⟨by have := hc.1; dsimp only at this; omega, by omega⟩
  ·cases h
/-- What holds while a record of the first kind is read. -/
structure Und (B p pr b : Nat) (dp v : Value) (down : Bool) (q : Qs) (w W : World) (s : List UInt8) (j : Jb) : Prop where
 (qa : QueueAt W p dp v q.last down)
 (ow : W.owns B 48 9 v q.jobs.length (jobsL q.jobs))
 (rs : RestAt W pr s)
 (bx : BoxAt W b j)
 (bl : Kp (PB p B) w W)
 (np : ¬ b = p)
 (nr : ¬ b = pr)
 (nv : v.ownBlock ≠ some b)
 (hb : B ≤ b)
 (hr : B ≤ pr)
theorem Und.kp {B p pr b : Nat} {dp v : Value} {down : Bool} {q : Qs} {w W W' : World} {s s' : List UInt8} {j : Jb} (h : Und B p pr b dp v down q w W s j) (hk : Kp (fun k => k = pr) W W') (hr' : RestAt W' pr s') : Und B p pr b dp v down q w W' s' j :=
 ⟨h.qa.kp hk (h.qa.rest h.rs), owns_kp h.ow hk (h.rs.ne h.ow), hr', (hk.block b (lt_of_heap h.bx) h.nr).trans h.bx, h.bl.trans (kp_below hk h.hr (lt_of_heap h.rs)), h.np, h.nr, h.nv, h.hb, h.hr⟩
theorem Und.below {B p pr b : Nat} {dp v : Value} {down : Bool} {q : Qs} {w W W' : World} {s : List UInt8} {j : Jb} (h : Und B p pr b dp v down q w W s j) (hb : Below W.heap.size W W') : Und B p pr b dp v down q w W' s j :=
 ⟨(hb.block _ (lt_of_heap h.qa)).trans h.qa, h.ow.below hb, (hb.block _ (lt_of_heap h.rs)).trans h.rs, (hb.block _ (lt_of_heap h.bx)).trans h.bx, h.bl.trans (Kp.of_below hb), h.np, h.nr, h.nv, h.hb, h.hr⟩
theorem Und.le {B p pr b : Nat} {dp v : Value} {down : Bool} {q : Qs} {w W : World} {s : List UInt8} {j : Jb} (h : Und B p pr b dp v down q w W s j) : B ≤ W.heap.size := Nat.le_of_lt (Nat.lt_of_le_of_lt h.hb (lt_of_heap h.bx))
/-- What holds behind the append. -/
theorem Und.grown {B p pr b : Nat} {dp v : Value} {down : Bool} {q : Qs} {w W W' : World} {s : List UInt8} {j : Jb} (h : Und B p pr b dp v down q w W s j) (hg : W.grownBy W' v.ownBlock) :
  QueueAt W' p dp v q.last down ∧ RestAt W' pr s ∧ BoxAt W' b j ∧ Kp (PB p B) w W' :=
 ⟨(hg.block _ (lt_of_heap h.qa) (fun e => h.qa.ne h.ow e.symm)).trans h.qa, (hg.block _ (lt_of_heap h.rs) (fun e => h.rs.ne h.ow e.symm)).trans h.rs, (hg.block _ (lt_of_heap h.bx) (fun e => h.nv e.symm)).trans h.bx,
  h.bl.trans ⟨hg.os, hg.tape, hg.output, hg.size, fun k hk hn => hg.block k hk (fun e => hn (.inr (h.ow.lt k e.symm).1))⟩⟩
theorem Und.set {B p pr b i : Nat} {dp v : Value} {down : Bool} {q : Qs} {w W : World} {s : List UInt8} {j : Jb} (h : Und B p pr b dp v down q w W s j) (u : Value) (j' : Jb) (hc : j'.cells = j.cells.set i u) : Und B p pr b dp v down q w (W.setCell ⟨b, i, none⟩ u) s j' :=
 ⟨h.qa.other h.np _, h.ow.setCell_ne h.nv _, h.rs.other h.nr _, by
  have := h.bx
  unfold BoxAt at this ⊢
  rw [hc]
  simp [World.setCell, Array.getElem?_modify, this], h.bl.setCell (a := ⟨b, i, none⟩) (.inr h.hb) _, h.np, h.nr, h.nv, h.hb, h.hr⟩
theorem rdr1_any (B p pr : Nat) (dp : Value) (down : Bool) (q : Qs) (r : List UInt8) (id : Nat) (at_ : Int) (w : World) (hq : QIn B w p dp q down) (ho : q.ok) (hr : RestAt w pr r) (hB : B ≤ pr) (hrl : r.length ≤ 1000000) (hid : id < 9223372036854775808) :
  Calls Tryz.prog 141 #[.pointer (some ⟨p, 0, none⟩), .pointer (some ⟨pr, 0, none⟩), .int .i64 (id : Int), .int .i64 at_] w fun e w' =>
   match rd1 q r id with
   | some x => e = .returned (.tuple #[]) ∧ QIn B w' p dp x.1 down ∧ RestAt w' pr x.2 ∧ Kp (PB p B) w w'
   | none => e = .panicked wrongs ∧ Kp (PB p B) w w' := by
 obtain ⟨⟨v, hqa, hv⟩, hBp⟩ := hq
 unfold rd1
 generalize hX : Option.bind (takeN r 1) _ = X
 have HX := Lib.hid hX
 have HBp := Lib.hid hBp
 have HQA := Lib.hid hqa
 have HV := Lib.hid hv
 have HR := Lib.hid hr
 clear hX hqa hv
 go_enter Tryz.func141, Tryz.ntmps141
 obtain ⟨b, hb⟩ : ∃ b, b = w.heap.size := ⟨_, rfl⟩
 obtain ⟨W0, hW0⟩ : ∃ W0, W0 = w.alloc (.cells #[.int .i64 (id : Int), .string { data := #[] }, .string { data := #[] }, .int .i64 0, .int .i64 1, .int .i64 0, .string { data := #[] }, .string { data := #[] }, .string { data := #[] }] 48) := ⟨_, rfl⟩
 have hbw : Below w.heap.size w W0 := by rw [hW0]; exact (Below.refl _ w).alloc (Nat.le_refl _) _
 have hpl : p < w.heap.size := lt_of_heap HQA.out
 have hprl : pr < w.heap.size := lt_of_heap hr
 have U0 : Und B p pr b dp v down q w W0 r ⟨id, [], [], 0, 1, 0, [], [], []⟩ :=
  ⟨(hbw.block _ hpl).trans HQA.out, HV.out.below hbw, (hbw.block _ hprl).trans hr, by rw [hW0, hb]; exact alloc_last _ _ rfl, Kp.of_below hbw, by omega, by omega, fun e => by have := (HV.out.lt _ e).2; omega, by omega, hB⟩
 have HU0 := Lib.hid U0
 have HW0 := Lib.hid hW0
 obtain ⟨T1, hT1⟩ : ∃ T, T = takeN r 1 := ⟨_, rfl⟩
 have hT1l : ∀ x, T1 = some x → x.1 < 256 ∧ x.2.length ≤ 1000000 := by
  rintro ⟨n, s⟩ rfl
  obtain ⟨h1, h2, -⟩ := takeN_lt hT1.symm
  exact ⟨h1, by rw [h2, List.length_drop]; omega⟩
 have HN := Lib.hid (rnum_any pr 1 r (by omega) hrl W0 U0.rs)
 rw [← hT1] at HN HX
 have HBW := Lib.hid hb
 clear U0 hbw hr hT1 hW0 hb
 go_wp2_with fail
 rw [← HW0.out, ← HBW.out]
 clear HW0 HBW
 refine (show Calls Tryz.prog 98 #[.pointer (some ⟨pr, 0, none⟩), .int .i64 1] W0 _ from HN.out).mono ?_
 clear HN
 cases T1 with
 | none =>
  rintro e w1 ⟨rfl, hk1⟩
  obtain rfl := HX.out
  exact ⟨rfl, rfl, HU0.out.bl.trans (kp_below hk1 hB (lt_of_heap HU0.out.rs))⟩
 | some x1 =>
  obtain ⟨n1, r1⟩ := x1
  obtain ⟨hn1, hl1⟩ := hT1l _ rfl
  rintro e w1 ⟨rfl, hr1, hk1⟩
  have U1 := HU0.out.kp hk1 hr1
  have hX1 := HX.out
  rw [Option.bind_some] at hX1
  have hid1 : idI n1 = (n1 : Int) := by unfold idI; rw [if_pos (by omega)]
  dsimp only at hX1 U1 hn1 hl1 ⊢
  rw [hid1]
  obtain ⟨x3, y3⟩ := U1.bx.cell (i := 3) rfl
  have U1b := U1.set (i := 3) (.int .i64 (n1 : Int)) ⟨id, [], [], n1, 1, 0, [], [], []⟩ rfl
  obtain ⟨T2, hT2⟩ : ∃ T, T = takeT r1 32 := ⟨_, rfl⟩
  have HN2 := Lib.hid (rtext_any pr 32 r1 (by omega) hl1 _ U1b.rs)
  rw [← hT2] at HN2 hX1
  have HX1 := Lib.hid hX1
  have HU1 := Lib.hid U1b
  clear U1b U1 hX1 HX hr1 hk1
  go_wp2_with fail
  refine (show Calls Tryz.prog 142 #[.pointer (some ⟨pr, 0, none⟩), .int .i64 32] _ _ from HN2.out).mono ?_
  clear HN2
  cases T2 with
  | none =>
   rintro e w2 ⟨rfl, hk2⟩
   obtain rfl := HX1.out
   exact ⟨rfl, rfl, HU1.out.bl.trans (kp_below hk2 hB (lt_of_heap HU1.out.rs))⟩
  | some x2 =>
   obtain ⟨t2, r2⟩ := x2
   obtain ⟨hm2, hl2⟩ := takeT_len hT2.symm
   rintro e w2 ⟨rfl, hr2, hk2⟩
   have U2 := HU1.out.kp hk2 hr2
   have hX2 := HX1.out
   rw [Option.bind_some] at hX2
   dsimp only at hX2 U2 ⊢
   obtain ⟨T3, hT3⟩ : ∃ T, T = takeT r2 32 := ⟨_, rfl⟩
   have HN3 := Lib.hid (rtext_any pr 32 r2 (by omega) (by omega) _ U2.rs)
   rw [← hT3] at HN3 hX2
   have HX2 := Lib.hid hX2
   have HU2 := Lib.hid U2
   clear U2 hX2 HX1 hr2 hk2 hT2 HU1
   go_wp2_with fail
   refine (show Calls Tryz.prog 142 #[.pointer (some ⟨pr, 0, none⟩), .int .i64 32] w2 _ from HN3.out).mono ?_
   clear HN3
   cases T3 with
   | none =>
    rintro e w3 ⟨rfl, hk3⟩
    obtain rfl := HX2.out
    exact ⟨rfl, rfl, HU2.out.bl.trans (kp_below hk3 hB (lt_of_heap HU2.out.rs))⟩
   | some x3' =>
    obtain ⟨t3, r3⟩ := x3'
    obtain ⟨hm3, hl3⟩ := takeT_len hT3.symm
    rintro e w3 ⟨rfl, hr3, hk3⟩
    have U3 := HU2.out.kp hk3 hr3
    have hX3 := HX2.out
    rw [Option.bind_some] at hX3
    dsimp only at hX3 U3 ⊢
    obtain ⟨T4, hT4⟩ : ∃ T, T = takeT r3 60000 := ⟨_, rfl⟩
    have HN4 := Lib.hid (rtext_any pr 60000 r3 (by omega) (by omega) _ U3.rs)
    rw [← hT4] at HN4 hX3
    have HX3 := Lib.hid hX3
    have HU3 := Lib.hid U3
    clear U3 hX3 HX2 hr3 hk3 hT3 HU2
    go_wp2_with fail
    refine (show Calls Tryz.prog 142 #[.pointer (some ⟨pr, 0, none⟩), .int .i64 60000] w3 _ from HN4.out).mono ?_
    clear HN4
    cases T4 with
    | none =>
     rintro e w4 ⟨rfl, hk4⟩
     obtain rfl := HX3.out
     exact ⟨rfl, rfl, HU3.out.bl.trans (kp_below hk4 hB (lt_of_heap HU3.out.rs))⟩
    | some x4 =>
     obtain ⟨t4, r4⟩ := x4
     obtain ⟨hm4, hl4⟩ := takeT_len hT4.symm
     rintro e w4 ⟨rfl, hr4, hk4⟩
     have U4 := HU3.out.kp hk4 hr4
     have hX4 := HX3.out
     rw [Option.bind_some] at hX4
     dsimp only at hX4 U4 ⊢
     obtain ⟨x1, y1⟩ := U4.bx.cell (i := 1) rfl
     obtain ⟨x2, y2⟩ := U4.bx.cell (i := 2) rfl
     obtain ⟨x6, y6⟩ := U4.bx.cell (i := 6) rfl
     have U5 := ((U4.set (i := 1) (strV t2) ⟨id, t2, [], n1, 1, 0, [], [], []⟩ rfl).set (i := 2) (strV t3) ⟨id, t2, t3, n1, 1, 0, [], [], []⟩ rfl).set (i := 6) (strV t4) ⟨id, t2, t3, n1, 1, 0, t4, [], []⟩ rfl
     have HU5 := Lib.hid U5
     have HX4 := Lib.hid hX4
     obtain ⟨W5, hW5⟩ : ∃ W, W = ((w4.setCell ⟨b, 1, none⟩ (strV t2)).setCell ⟨b, 2, none⟩ (strV t3)).setCell ⟨b, 6, none⟩ (strV t4) := ⟨_, rfl⟩
     rw [← hW5] at HU5
     have HW5 := Lib.hid hW5
     clear hW5 U5 U4 hX4 HX3 hr4 hk4 hT4 HU3
     unfold strV at HW5 x1 x2 x6 ⊢
     go_upto_region 3 with (fail)
     rw [← HW5.out]
     clear HW5 x1 x2 x6 y1 y2 y6 x3 y3
     have U := HU5.out
     obtain ⟨k0, k1, k2, k3, -, -, -⟩ := U.qa.cells
     obtain ⟨b1, -⟩ := U.bx.cell (i := 1) rfl
     obtain ⟨b2, -⟩ := U.bx.cell (i := 2) rfl
     obtain ⟨b3, -⟩ := U.bx.cell (i := 3) rfl
     have hlen := ho.len
     have HL2 := Lib.hid (label_any t2 W5)
     have HL3 := Lib.hid (label_any t3 W5)
     have HNM : Hid (Calls Tryz.prog 53 #[.pointer (some ⟨p, 0, none⟩), strV t2, strV t3] W5 fun e w' => e = .returned (.int .i64 (placeI (q.named t2 t3))) ∧ Below W5.heap.size W5 w') := Lib.hid (named_any p dp v q.last down q.jobs t2 t3 W5 U.qa (World.owns.mono U.ow (Nat.zero_le _)) (by omega))
     obtain ⟨va, vc, rfl⟩ : ∃ a c, v = .slice a q.jobs.length c := by
      rcases U.ow.2 with ⟨e, h0⟩ | ⟨g, c, _, _, e, _⟩
      ·exact ⟨none, 0, by rw [e, h0]⟩
      ·exact ⟨_, c, e⟩
     unfold strV at b1 b2 HL2 HL3 HNM
     clear U
     by_cases h1 : n1 ≤ 9
     ·have h1' : (n1 : Int) ≤ 9 := by omega
      by_cases h2 : labelB t2 = true
      ·rw [h2] at HL2
       by_cases h3 : labelB t3 = true
       ·rw [h3] at HL3
        by_cases h4 : q.last < id
        ·have h4' : (q.last : Int) < (id : Int) := by omega
         cases hnm : q.named t2 t3 with
         | some kk =>
          rw [hnm] at HNM
          obtain rfl : X = none := by rw [← HX4.out, if_neg (by rintro ⟨-, -, -, -, q, -⟩; rw [hnm] at q; cases q)]
          have hkk : ¬ (kk : Int) < 0 := by omega
          go_wp2_with fail
          refine HL2.out.mono ?_
          rintro e wl ⟨rfl, rfl⟩
          go_wp2_with fail
          refine HL3.out.mono ?_
          rintro e wl ⟨rfl, rfl⟩
          go_wp2_with fail
          refine HNM.out.mono ?_
          rintro e W6 ⟨rfl, hb6⟩
          have hb6' := HU5.out.bl.trans (Kp.of_below hb6)
          rw [show placeI (some kk) = (kk : Int) from rfl]
          go_wp2_with fail
          refine (need_no _).mono ?_
          rintro e wn ⟨rfl, rfl⟩
          exact ⟨rfl, rfl, hb6'⟩
         | none =>
          rw [hnm] at HNM
          by_cases h6 : q.jobs.length < 100
          ·obtain rfl : X = some (⟨q.jobs ++ [⟨id, t2, t3, n1, 1, 0, t4, [], []⟩], id⟩, r4) := by rw [← HX4.out, if_pos ⟨h1, h2, h3, h4, hnm, h6⟩]
           have h6' : (q.jobs.length : Int) < 100 := by omega
           have hB5 : B ≤ W5.heap.size := Nat.le_of_lt (Nat.lt_of_le_of_lt HU5.out.hb (lt_of_heap HU5.out.bx))
           have hpl5 : p < W5.heap.size := lt_of_heap HU5.out.qa
           clear hnm
           go_wp2_with fail
           refine HL2.out.mono ?_
           rintro e wl ⟨rfl, rfl⟩
           go_wp2_with fail
           refine HL3.out.mono ?_
           rintro e wl ⟨rfl, rfl⟩
           go_wp2_with fail
           refine HNM.out.mono ?_
           rintro e W6 ⟨rfl, hb6⟩
           have hb6' := HU5.out.bl.trans (Kp.of_below hb6)
           have U6 := HU5.out.below hb6
           have k16 := (hb6.cell (p := ⟨p, 1, none⟩) hpl5).trans k1
           rw [show placeI none = -1 from rfl]
           go_wp2_with fail
           refine (need_ok _).mono ?_
           rintro e wn ⟨rfl, rfl⟩
           go_upto_region 4 with (fail)
           have HU6 := Lib.hid U6
           have hbx : ∀ i u, (Jb.cells ⟨id, t2, t3, n1, 1, 0, t4, [], []⟩)[i]? = some u → wn.cell? ⟨b, i, none⟩ = some u := fun i u hu => (U6.bx.cell hu).1
           clear b1 b2 b3 k0 k1 k2 k3 hb6 U6
           refine wp_region_late (fun w' => w'.cell? ⟨p, 1, none⟩ = some (.slice va q.jobs.length vc) ∧ w'.cell? ⟨b, 0, none⟩ = some (.int .i64 (id : Int)) ∧ w'.cell? ⟨b, 1, none⟩ = some (.string (bytesOf t2)) ∧ w'.cell? ⟨b, 2, none⟩ = some (.string (bytesOf t3)) ∧ w'.cell? ⟨b, 3, none⟩ = some (.int .i64 (n1 : Int)) ∧ w'.cell? ⟨b, 4, none⟩ = some (.int .i64 1) ∧ w'.cell? ⟨b, 5, none⟩ = some (.int .i64 0) ∧ w'.cell? ⟨b, 6, none⟩ = some (.string (bytesOf t4)) ∧ w'.cell? ⟨b, 7, none⟩ = some (.string (bytesOf [])) ∧ w'.cell? ⟨b, 8, none⟩ = some (.string (bytesOf []))) (fun j => decide (j = 12 ∨ j = 15)) (by kernel_rfl) ⟨k16, hbx 0 _ rfl, hbx 1 _ rfl, hbx 2 _ rfl, hbx 3 _ rfl, hbx 4 _ rfl, hbx 5 _ rfl, hbx 6 _ rfl, hbx 7 _ rfl, hbx 8 _ rfl⟩ (fun hS => ?_)
           refine tkD 0 (v := ?_) rfl ?_ ?_
           rotate_left
           ·(intro wq hSq; (try dsimp only at hSq); go_simp; try with_reducible rfl)
           try simp only [q0P, q0Q, q0R, q0S]
           refine tkD 2 (v := ?_) rfl ?_ ?_
           rotate_left
           ·(intro wq hSq; (try dsimp only at hSq); go_simp; try with_reducible rfl)
           try simp only [q0P, q0Q, q0R, q0S]
           refine tkD 3 (v := ?_) rfl ?_ ?_
           rotate_left
           ·(intro wq hSq; (try dsimp only at hSq); go_simp; try with_reducible rfl)
           try simp only [q0P, q0Q, q0R, q0S]
           refine tkD 4 (v := ?_) rfl ?_ ?_
           rotate_left
           ·(intro wq hSq; (try dsimp only at hSq); go_simp; try with_reducible rfl)
           try simp only [q0P, q0Q, q0R, q0S]
           refine tkD 5 (v := ?_) rfl ?_ ?_
           rotate_left
           ·(intro wq hSq; (try dsimp only at hSq); go_simp; try with_reducible rfl)
           try simp only [q0P, q0Q, q0R, q0S]
           refine tkD 6 (v := ?_) rfl ?_ ?_
           rotate_left
           ·(intro wq hSq; (try dsimp only at hSq); go_simp; try with_reducible rfl)
           try simp only [q0P, q0Q, q0R, q0S]
           refine tkW 1 (v := ?_) rfl ?_ ?_
           rotate_left
           ·(intro wq hSq; (try dsimp only at hSq); go_simp; try with_reducible rfl)
           try simp only [q0P, q0Q, q0R, q0S]
           refine tkW 9 (v := ?_) rfl ?_ ?_
           rotate_left
           ·(intro wq hSq; (try dsimp only at hSq); go_simp; try with_reducible rfl)
           try simp only [q0P, q0Q, q0R, q0S]
           have hbd : ∀ o, Below wn.heap.size wn (wn.drew.alloc o) := fun o => (Below.refl wn.heap.size wn).drew.alloc (by simp) o
           refine wpAnyD_keep 7 (by kernel_rfl) rfl (fun K hK => ?_)
           go_simp
           have hbA := hbd (.cells (Jb.cells ⟨id, t2, t3, n1, 1, 0, t4, [], []⟩).toArray 48)
           have UA := HU6.out.below hbA
           have gA : BoxAt (wn.drew.alloc (.cells (Jb.cells ⟨id, t2, t3, n1, 1, 0, t4, [], []⟩).toArray 48)) wn.heap.size ⟨id, t2, t3, n1, 1, 0, t4, [], []⟩ := alloc_last _ _ rfl
           have hbx2 : ∀ i u, (Jb.cells ⟨id, t2, t3, n1, 1, 0, t4, [], []⟩)[i]? = some u → (wn.drew.alloc (.cells (Jb.cells ⟨id, t2, t3, n1, 1, 0, t4, [], []⟩).toArray 48)).cell? ⟨b, i, none⟩ = some u := fun i u hu => (UA.bx.cell hu).1
           obtain ⟨-, kA, -⟩ := UA.qa.cells
           have hszA : wn.heap.size < (wn.drew.alloc (.cells (Jb.cells ⟨id, t2, t3, n1, 1, 0, t4, [], []⟩).toArray 48)).heap.size := by simp
           have HUA := Lib.hid UA
           have HGA := Lib.hid gA
           refine hK.out _ _ ⟨kA, hbx2 0 _ rfl, hbx2 1 _ rfl, hbx2 2 _ rfl, hbx2 3 _ rfl, hbx2 4 _ rfl, hbx2 5 _ rfl, hbx2 6 _ rfl, hbx2 7 _ rfl, hbx2 8 _ rfl⟩ (fun hS2 => ?_)
           clear hK K hS
           try simp only [q0P, q0Q, q0R, q0S]
           refine wpAnyD_keep 8 (by kernel_rfl) rfl (fun K hK => ?_)
           refine step_append9 (by rfl) (.tmp 67) (.tmp 69) (by rfl) B q.jobs.length wn.heap.size 1 (.slice va q.jobs.length vc) (jobsL q.jobs) ⟨id, t2, t3, n1, 1, 0, t4, [], []⟩ (by rfl) (by rfl) HUA.out.ow HGA.out (by omega) HUA.out.le ?_
           intro v7 w7 ho7 hg7 hm7
           obtain ⟨qa7, rs7, bx7, bl7⟩ := HUA.out.grown hg7
           obtain ⟨va7, vc7, rfl⟩ : ∃ a c, v7 = .slice a (q.jobs.length + 1) c := by
            rcases ho7.2 with ⟨e, h0⟩ | ⟨g, c, _, _, e, _⟩
            ·exact absurd h0 (by omega)
            ·exact ⟨_, c, e⟩
           obtain ⟨-, k7, -, -, y7, -, -⟩ := qa7.cells
           have hbx3 : ∀ i u, (Jb.cells ⟨id, t2, t3, n1, 1, 0, t4, [], []⟩)[i]? = some u → w7.cell? ⟨b, i, none⟩ = some u := fun i u hu => (bx7.cell hu).1
           have hv7 := World.owns.ne ho7 qa7 (by decide)
           have hBp' := HBp.out
           have rs8 := (rs7.other (a := ⟨p, 1, none⟩) (qa7.rest rs7) (.slice va7 (q.jobs.length + 1) vc7)).other (a := ⟨p, 2, none⟩) (qa7.rest rs7) (.int .i64 (id : Int))
           have qa8 := (qa7.set1 (.slice va7 (q.jobs.length + 1) vc7)).set2 id
           have ow8 := (ho7.setCell_ne (a := ⟨p, 1, none⟩) hv7 (.slice va7 (q.jobs.length + 1) vc7)).setCell_ne (a := ⟨p, 2, none⟩) hv7 (.int .i64 (id : Int))
           have bl8 := (bl7.setCell (a := ⟨p, 1, none⟩) (.inl rfl) (.slice va7 (q.jobs.length + 1) vc7)).setCell (a := ⟨p, 2, none⟩) (.inl rfl) (.int .i64 (id : Int))
           have RS8 := Lib.hid rs8
           have QA8 := Lib.hid qa8
           have OW8 := Lib.hid ow8
           have BL8 := Lib.hid bl8
           obtain ⟨-, -, k8, -, -, z8, -⟩ := (qa7.set1 (.slice va7 (q.jobs.length + 1) vc7)).cells
           refine hK.out _ _ ⟨k7, hbx3 0 _ rfl, hbx3 1 _ rfl, hbx3 2 _ rfl, hbx3 3 _ rfl, hbx3 4 _ rfl, hbx3 5 _ rfl, hbx3 6 _ rfl, hbx3 7 _ rfl, hbx3 8 _ rfl⟩ (fun hS3 => ?_)
           clear hK K hS2 rs8 qa8 ow8 bl8 hg7 ho7 rs7 bx7 bl7 qa7 hm7 hv7 hbx3
           try simp only [q0P, q0Q, q0R, q0S]
           refine tkW 10 (v := ?_) rfl ?_ ?_
           rotate_left
           ·(intro wq hSq; (try dsimp only at hSq); go_simp; try with_reducible rfl)
           try simp only [q0P, q0Q, q0R, q0S]
           refine tkW 11 (v := ?_) rfl ?_ ?_
           rotate_left
           ·(intro wq hSq; (try dsimp only at hSq); go_simp; try with_reducible rfl)
           try simp only [q0P, q0Q, q0R, q0S]
           refine wpAnyD_step 12 (by kernel_rfl) rfl rfl (fun K hK => ?_)
           go_simp
           refine hK.out _ _ ?_
           clear hK K hS3
           try simp only [q0P, q0Q, q0R, q0S]
           refine tkW 13 (v := ?_) rfl ?_ ?_
           rotate_left
           ·(intro wq hSq; (try dsimp only at hSq); go_simp; try with_reducible rfl)
           try simp only [q0P, q0Q, q0R, q0S]
           refine tkW 14 (v := ?_) rfl ?_ ?_
           rotate_left
           ·(intro wq hSq; (try dsimp only at hSq); go_simp; try with_reducible rfl)
           try simp only [q0P, q0Q, q0R, q0S]
           refine wpAnyD_step 15 (by kernel_rfl) rfl rfl (fun K hK => ?_)
           go_simp
           refine hK.out _ _ ?_
           clear hK K
           refine wpAnyD_end (by kernel_rfl) ?_
           go_wp2_with fail
           go_end0
           refine ⟨rfl, ⟨⟨_, QA8.out, ?_⟩, hBp'⟩, RS8.out, BL8.out⟩
           show World.owns _ _ _ _ _ (q.jobs ++ [_]).length _
           rw [List.length_append, jobsL_append]
           exact OW8.out
          ·obtain rfl : X = none := by rw [← HX4.out, if_neg (by rintro ⟨-, -, -, -, -, q⟩; exact h6 q)]
           have h6' : decide ((q.jobs.length : Int) < 100) = false := decide_eq_false (by omega)
           have hB5 : B ≤ W5.heap.size := Nat.le_of_lt (Nat.lt_of_le_of_lt HU5.out.hb (lt_of_heap HU5.out.bx))
           have hpl5 : p < W5.heap.size := lt_of_heap HU5.out.qa
           go_wp2_with fail
           refine HL2.out.mono ?_
           rintro e wl ⟨rfl, rfl⟩
           go_wp2_with fail
           refine HL3.out.mono ?_
           rintro e wl ⟨rfl, rfl⟩
           go_wp2_with fail
           refine HNM.out.mono ?_
           rintro e W6 ⟨rfl, hb6⟩
           have hb6' := HU5.out.bl.trans (Kp.of_below hb6)
           have k16 := (hb6.cell (p := ⟨p, 1, none⟩) hpl5).trans k1
           rw [show placeI none = -1 from rfl]
           go_wp2_with fail
           refine (need_no _).mono ?_
           rintro e wn ⟨rfl, rfl⟩
           exact ⟨rfl, rfl, hb6'⟩
        ·have h4' : ¬ (q.last : Int) < (id : Int) := by omega
         obtain rfl : X = none := by rw [← HX4.out, if_neg (by rintro ⟨-, -, -, q, -⟩; exact h4 q)]
         go_wp2_with fail
         refine HL2.out.mono ?_
         rintro e wl ⟨rfl, rfl⟩
         go_wp2_with fail
         refine HL3.out.mono ?_
         rintro e wl ⟨rfl, rfl⟩
         go_wp2_with fail
         refine (need_no _).mono ?_
         rintro e wn ⟨rfl, rfl⟩
         exact ⟨rfl, rfl, HU5.out.bl⟩
       ·rw [show labelB t3 = false by simpa using h3] at HL3
        obtain rfl : X = none := by rw [← HX4.out, if_neg (by rintro ⟨-, -, q, -⟩; exact h3 q)]
        go_wp2_with fail
        refine HL2.out.mono ?_
        rintro e wl ⟨rfl, rfl⟩
        go_wp2_with fail
        refine HL3.out.mono ?_
        rintro e wl ⟨rfl, rfl⟩
        go_wp2_with fail
        refine (need_no _).mono ?_
        rintro e wn ⟨rfl, rfl⟩
        exact ⟨rfl, rfl, HU5.out.bl⟩
      ·rw [show labelB t2 = false by simpa using h2] at HL2
       obtain rfl : X = none := by rw [← HX4.out, if_neg (by rintro ⟨-, q, -⟩; exact h2 q)]
       go_wp2_with (first | (refine HL2.out.mono ?_; rintro e wl ⟨rfl, rfl⟩))
       refine (need_no _).mono ?_
       rintro e wn ⟨rfl, rfl⟩
       exact ⟨rfl, rfl, HU5.out.bl⟩
     ·have h1' : ¬ (n1 : Int) ≤ 9 := by omega
      obtain rfl : X = none := by rw [← HX4.out, if_neg (by rintro ⟨q, -⟩; exact h1 q)]
      go_wp2_with fail
      refine (need_no _).mono ?_
      rintro e wn ⟨rfl, rfl⟩
      exact ⟨rfl, rfl, HU5.out.bl⟩
end
/- Walks: a queue of jobs: Submit. Printed by gen_jc4.py. -/
section
open Go.RowKit Go.Shelf
/-- A job is appended to the row, in its cell. -/
theorem QD.pushed {P : QP} {v v' : Value} {x : Qst} {w w' : World} {j : Jb} (h : QD P v x w) (hv : w'.owns 0 48 9 v' (x.q.jobs.length + 1) (jobsL x.q.jobs ++ j.cells)) (hg : w.grownBy w' v.ownBlock) (hm : Moved w v v') (hf : (Qs.mk (x.q.jobs ++ [j]) j.id).fine) :
  QD P v' { x with q := ⟨x.q.jobs ++ [j], j.id⟩ } ((w'.setCell ⟨P.p, 1, none⟩ v').setCell ⟨P.p, 2, none⟩ (.int .i64 j.id)) ∧ Stp P v v' w ((w'.setCell ⟨P.p, 1, none⟩ v').setCell ⟨P.p, 2, none⟩ (.int .i64 j.id)) := by
 have hpl := lt_of_heap h.qa
 have hqa : QueueAt w' P.p (.pointer (some ⟨P.d, 0, none⟩)) v x.q.last x.down := (hg.block _ hpl (fun e => h.qa.ne h.ja e.symm)).trans h.qa
 have hne : ∀ k, v.ownBlock ≠ some k → k < w.heap.size → v'.ownBlock ≠ some k := fun k h1 h2 e => by
  rcases hm with hm | hm
  ·rw [hm] at e; exact h1 e
  ·have := hm k e; omega
 have hd : DiskAt w' P.d P.b0 P.b1 x.d := by
  refine ⟨(hg.block _ (lt_of_heap h.dk.at_) (fun e => h.nv.1 e.symm)).trans h.dk.at_, ?_, ?_, h.dk.n01, h.dk.n0, h.dk.n1⟩
  ·obtain ⟨t, ht⟩ := h.dk.a0
   exact ⟨t, (hg.block _ (lt_of_heap ht) (fun e => h.nv.2.1 e.symm)).trans ht⟩
  ·obtain ⟨t, ht⟩ := h.dk.a1
   exact ⟨t, (hg.block _ (lt_of_heap ht) (fun e => h.nv.2.2 e.symm)).trans ht⟩
 have hpv := hne _ (h.qa.ne h.ja) hpl
 refine ⟨⟨(hqa.set1 v').set2 _, ?_, (hd.other h.np.1 h.np.2.1 h.np.2.2 _).other h.np.1 h.np.2.1 h.np.2.2 _, h.np, ⟨hne _ h.nv.1 (lt_of_heap h.dk.at_), hne _ h.nv.2.1 h.dk.a0.lt, hne _ h.nv.2.2 h.dk.a1.lt⟩, hf, h.good⟩, ?_, fun k e => ?_⟩
 ·show World.owns _ _ _ _ _ (x.q.jobs ++ [j]).length (jobsL (x.q.jobs ++ [j]))
  rw [List.length_append, jobsL_append]
  have e : jobsL [j] = j.cells := by unfold jobsL; simp
  rw [e]
  exact (hv.setCell_ne (a := ⟨P.p, 1, none⟩) hpv _).setCell_ne (a := ⟨P.p, 2, none⟩) hpv _
 ·have hk : Kp (Mine P v) w w' := ⟨hg.os, hg.tape, hg.output, hg.size, fun k hk hn => hg.block k hk (fun e => hn (.inr (.inr (.inr (.inr e.symm)))))⟩
  exact (hk.setCell (a := ⟨P.p, 1, none⟩) (.inl rfl) _).setCell (a := ⟨P.p, 2, none⟩) (.inl rfl) _
 ·rcases hm with hm | hm
  ·exact .inl (hm ▸ e)
  ·exact .inr (hm k e)
theorem QD.lt {P : QP} {v : Value} {x : Qst} {w : World} (h : QD P v x w) (k : Nat) (hm : Mine P v k) : k < w.heap.size := by
 rcases hm with rfl | rfl | rfl | rfl | e
 ·exact lt_of_heap h.qa
 ·exact lt_of_heap h.dk.at_
 ·exact h.dk.a0.lt
 ·exact h.dk.a1.lt
 ·exact (h.ja.lt k e).2
theorem grown_box {W W' : World} {B n b : Nat} {v : Value} {xs : List Value} {j : Jb} (h : BoxAt W b j) (hg : W.grownBy W' v.ownBlock) (hn : v.ownBlock ≠ some b) : BoxAt W' b j := (hg.block _ (lt_of_heap h) (fun e => hn e.symm)).trans h
theorem Submit_did (P : QP) (v : Value) (x : Qst) (c t : List UInt8) (p : Int) (work : List UInt8) (w : World) (h : QD P v x w) :
  Calls Tryz.prog 13 #[.pointer (some ⟨P.p, 0, none⟩), strV c, strV t, .int .i64 p, strV work] w fun e w' => Did P v (.tuple #[.int .i64 ((x.submit c t p work).1.1 : Int), .int .i64 (x.submit c t p work).1.2]) (x.submit c t p work).2 w e w' := by
 have HS := Lib.hid (shut_any P.p P.d v x.q.last x.down w h.qa)
 have HQ := Lib.hid h
 obtain ⟨R, hR⟩ : ∃ R, R = x.submit c t p work := ⟨_, rfl⟩
 rw [← hR]
 unfold Qst.submit at hR
 have HL1 := Lib.hid (label_any c)
 have HL2 := Lib.hid (label_any t)
 unfold strV at HL1 HL2 ⊢
 by_cases hd : x.down = true
 ·rw [if_pos hd] at hR HS
  have HR := Lib.hid hR
  clear hd h hR
  go_enter Tryz.func13, Tryz.ntmps13
  go_wp2_with fail
  refine HS.out.mono ?_
  rintro e w1 ⟨rfl, rfl⟩
  go_wp2_with fail
  go_ret2
  rw [HR.out]
  exact ⟨rfl, v, HQ.out, Stp.refl _ _ _⟩
 rw [if_neg hd] at hR HS
 by_cases hc : labelB c = true
 case neg =>
  have hc' : labelB c = false := by simpa using hc
  rw [if_pos (.inl hc')] at hR
  rw [hc'] at HL1
  have HR := Lib.hid hR
  clear hd h hR hc hc'
  go_enter Tryz.func13, Tryz.ntmps13
  go_wp2_with fail
  refine HS.out.mono ?_
  rintro e w1 ⟨rfl, rfl⟩
  go_wp2_with fail
  refine (HL1.out w1).mono ?_
  rintro e wl ⟨rfl, rfl⟩
  go_wp2_with fail
  go_ret2
  rw [HR.out]
  exact ⟨rfl, v, HQ.out, Stp.refl _ _ _⟩
 rw [hc] at HL1
 by_cases ht : labelB t = true
 case neg =>
  have ht' : labelB t = false := by simpa using ht
  rw [if_pos (.inr (.inl ht'))] at hR
  rw [ht'] at HL2
  have HR := Lib.hid hR
  clear hd h hR hc ht ht'
  go_enter Tryz.func13, Tryz.ntmps13
  go_wp2_with fail
  refine HS.out.mono ?_
  rintro e w1 ⟨rfl, rfl⟩
  go_wp2_with fail
  refine (HL1.out w1).mono ?_
  rintro e wl ⟨rfl, rfl⟩
  go_wp2_with fail
  refine (HL2.out wl).mono ?_
  rintro e wm ⟨rfl, rfl⟩
  go_wp2_with fail
  go_ret2
  rw [HR.out]
  exact ⟨rfl, v, HQ.out, Stp.refl _ _ _⟩
 rw [ht] at HL2
 by_cases hp : p < 0
 ·rw [if_pos (.inr (.inr (.inl hp)))] at hR
  have HR := Lib.hid hR
  clear hd h hR hc ht
  go_enter Tryz.func13, Tryz.ntmps13
  go_wp2_with fail
  refine HS.out.mono ?_
  rintro e w1 ⟨rfl, rfl⟩
  go_wp2_with fail
  refine (HL1.out w1).mono ?_
  rintro e wl ⟨rfl, rfl⟩
  go_wp2_with fail
  refine (HL2.out wl).mono ?_
  rintro e wm ⟨rfl, rfl⟩
  go_wp2_with fail
  go_ret2
  rw [HR.out]
  exact ⟨rfl, v, HQ.out, Stp.refl _ _ _⟩
 by_cases hp9 : 9 < p
 ·rw [if_pos (.inr (.inr (.inr hp9)))] at hR
  have HR := Lib.hid hR
  clear hd h hR hc ht
  go_enter Tryz.func13, Tryz.ntmps13
  go_wp2_with fail
  refine HS.out.mono ?_
  rintro e w1 ⟨rfl, rfl⟩
  go_wp2_with fail
  refine (HL1.out w1).mono ?_
  rintro e wl ⟨rfl, rfl⟩
  go_wp2_with fail
  refine (HL2.out wl).mono ?_
  rintro e wm ⟨rfl, rfl⟩
  go_wp2_with fail
  go_ret2
  rw [HR.out]
  exact ⟨rfl, v, HQ.out, Stp.refl _ _ _⟩
 rw [if_neg (by rintro (q | q | q | q); rw [hc] at q; cases q; rw [ht] at q; cases q; exact hp q; exact hp9 q)] at hR
 obtain ⟨n, rfl⟩ : ∃ n : Nat, p = n := ⟨p.toNat, by omega⟩
 have hn9 : n ≤ 9 := by omega
 have hwl : (bytesOf work).size = work.length := bytesOf_size work
 have hcl : c.length ≤ 32 := by unfold labelB at hc; simp at hc; omega
 have htl : t.length ≤ 32 := by unfold labelB at ht; simp at ht; omega
 have HLC := Lib.hid hc
 have HLT := Lib.hid ht
 have hp9' : ¬ (9 : Int) < (n : Int) := hp9
 clear hc ht
 by_cases hw : 60000 < work.length
 ·rw [if_pos hw] at hR
  have hw' : (60000 : Int) < (work.length : Int) := by omega
  have HR := Lib.hid hR
  clear hd h hR
  go_enter Tryz.func13, Tryz.ntmps13
  go_wp2_with fail
  refine HS.out.mono ?_
  rintro e w1 ⟨rfl, rfl⟩
  go_wp2_with fail
  refine (HL1.out w1).mono ?_
  rintro e wl ⟨rfl, rfl⟩
  go_wp2_with fail
  refine (HL2.out wl).mono ?_
  rintro e wm ⟨rfl, rfl⟩
  go_wp2_with fail
  go_ret2
  rw [HR.out]
  exact ⟨rfl, v, HQ.out, Stp.refl _ _ _⟩
 rw [if_neg hw] at hR
 have hw' : ¬ (60000 : Int) < (work.length : Int) := by omega
 have hlen := h.fine.ok.len
 have hlast := h.fine.ok.last
 have HNM : Hid (∀ W, QD P v x W → Calls Tryz.prog 53 #[.pointer (some ⟨P.p, 0, none⟩), .string (bytesOf c), .string (bytesOf t)] W fun e w' => e = .returned (.int .i64 (placeI (x.q.named c t))) ∧ Below W.heap.size W w') := Lib.hid (fun W hW => named_any P.p _ v x.q.last x.down x.q.jobs c t W hW.qa hW.ja (by omega))
 cases hnm : x.q.named c t with
 | some k =>
  rw [hnm] at hR HNM
  obtain ⟨j, hj, -⟩ := findIdx_get hnm
  dsimp only at hR
  rw [hj] at hR
  rw [show placeI (some k) = (k : Int) from rfl] at HNM
  have HR := Lib.hid hR
  have HJ := Lib.hid hj
  obtain ⟨g, cap, rfl, -, hk, -⟩ := h.job hj
  have hk0 : (0 : Int) ≤ (k : Int) := by omega
  clear hd h hR hnm hj
  go_enter Tryz.func13, Tryz.ntmps13
  go_wp2_with fail
  refine HS.out.mono ?_
  rintro e w1 ⟨rfl, rfl⟩
  go_wp2_with fail
  refine (HL1.out w1).mono ?_
  rintro e wl ⟨rfl, rfl⟩
  go_wp2_with fail
  refine (HL2.out wl).mono ?_
  rintro e wm ⟨rfl, rfl⟩
  go_wp2_with fail
  refine (HNM.out _ HQ.out).mono ?_
  rintro e w2 ⟨rfl, hb2⟩
  have hq2 := HQ.out.below hb2
  have HQ2 := Lib.hid hq2
  obtain ⟨-, y1, -⟩ := hq2.qa.cells
  have c0 : w2.cell? ⟨g, k * 9, none⟩ = some (.int .i64 j.id) := (job_cell hq2.ja HJ.out (by omega : 0 < 9) rfl).1
  clear hq2
  go_wp2_with fail
  go_ret2
  rw [HR.out]
  exact ⟨rfl, _, HQ2.out, Stp.of_below hb2⟩
 | none =>
  rw [hnm] at hR HNM
  dsimp only at hR
  rw [show placeI none = -1 from rfl] at HNM
  obtain ⟨va, vc, rfl⟩ : ∃ a c, v = .slice a x.q.jobs.length c := by
   rcases h.ja.2 with ⟨e, h0⟩ | ⟨g, c, _, _, e, _⟩
   ·exact ⟨none, 0, by rw [e, h0]⟩
   ·exact ⟨_, c, e⟩
  have HNN := Lib.hid hnm
  clear hnm
  by_cases h100 : 100 ≤ x.q.jobs.length
  ·rw [if_pos (.inl h100)] at hR
   have h100' : (100 : Int) ≤ (x.q.jobs.length : Int) := by omega
   have HR := Lib.hid hR
   clear hd h hR
   go_enter Tryz.func13, Tryz.ntmps13
   go_wp2_with fail
   refine HS.out.mono ?_
   rintro e w1 ⟨rfl, rfl⟩
   go_wp2_with fail
   refine (HL1.out w1).mono ?_
   rintro e wl ⟨rfl, rfl⟩
   go_wp2_with fail
   refine (HL2.out wl).mono ?_
   rintro e wm ⟨rfl, rfl⟩
   go_wp2_with fail
   refine (HNM.out _ HQ.out).mono ?_
   rintro e w2 ⟨rfl, hb2⟩
   have HQ2 := Lib.hid (HQ.out.below hb2)
   obtain ⟨-, y1, -⟩ := HQ2.out.qa.cells
   go_wp2_with fail
   go_ret2
   rw [HR.out]
   exact ⟨rfl, _, HQ2.out, Stp.of_below hb2⟩
  have h100' : ¬ (100 : Int) ≤ (x.q.jobs.length : Int) := by omega
  by_cases hmx : x.q.last = 9223372036854775807
  ·rw [if_pos (.inr hmx)] at hR
   have hmx' : ((x.q.last : Int) == 9223372036854775807) = true := by rw [hmx]; rfl
   have HR := Lib.hid hR
   clear hd h hR hmx
   go_enter Tryz.func13, Tryz.ntmps13
   go_wp2_with fail
   refine HS.out.mono ?_
   rintro e w1 ⟨rfl, rfl⟩
   go_wp2_with fail
   refine (HL1.out w1).mono ?_
   rintro e wl ⟨rfl, rfl⟩
   go_wp2_with fail
   refine (HL2.out wl).mono ?_
   rintro e wm ⟨rfl, rfl⟩
   go_wp2_with fail
   refine (HNM.out _ HQ.out).mono ?_
   rintro e w2 ⟨rfl, hb2⟩
   have HQ2 := Lib.hid (HQ.out.below hb2)
   obtain ⟨-, y1, y2, -⟩ := HQ2.out.qa.cells
   go_wp2_with fail
   go_ret2
   rw [HR.out]
   exact ⟨rfl, _, HQ2.out, Stp.of_below hb2⟩
  rw [if_neg (by rintro (q | q); exact h100 q; exact hmx q)] at hR
  have hmx' : ((x.q.last : Int) == 9223372036854775807) = false := by rw [beq_eq_false_iff_ne]; omega
  obtain ⟨j, hj⟩ : ∃ j : Jb, j = ⟨x.q.last + 1, c, t, (n : Int).toNat, 1, 0, work, [], []⟩ := ⟨_, rfl⟩
  rw [← hj] at hR
  obtain ⟨L, hL⟩ : ∃ L, L = x.q.last + 1 := ⟨_, rfl⟩
  have hLi : (x.q.last : Int) + 1 = (L : Int) := by omega
  have hL63 : L < 9223372036854775808 := by omega
  have hjo : j.ok j.id := by
   rw [hj]
   exact ⟨by show 0 < x.q.last + 1; omega, Nat.le_refl _, by show (n : Int).toNat ≤ 9; omega, HLC.out, HLT.out, by show 0 ≤ 8; omega, by show 1 ≤ 1; omega, by show 1 ≤ 5; omega, by show work.length ≤ 60000; omega, by simp, by simp⟩
  have hjf : j.fine := by rw [hj]; exact ⟨by simp, by simp, by simp⟩
  have hfx : (Qs.mk (x.q.jobs ++ [j]) j.id).fine := h.fine.push hjo hjf (by rw [hj]; show x.q.last < x.q.last + 1; omega) (by rw [hj]; show x.q.last + 1 < _; omega) (by rw [hj]; exact HNN.out) (by omega)
  have HSB := Lib.hid (submitted_any j (by rw [hj]; show x.q.last + 1 < _; omega) (by have := hjo.prio; omega) (by rw [hj]; show c.length ≤ _; omega) (by rw [hj]; show t.length ≤ _; omega) (by have := hjo.wk; omega))
  have hsl : (subB j).length ≤ 100000000 := by
   have e1 : j.client = c := by rw [hj]
   have e2 : j.token = t := by rw [hj]
   have e3 := hjo.wk
   unfold subB
   simp only [List.length_append, recB_length, numB_length, textB_length, e1, e2]; omega
  have hcells : j.cells = [.int .i64 (L : Int), .string (bytesOf c), .string (bytesOf t), .int .i64 (n : Int), .int .i64 1, .int .i64 0, .string (bytesOf work), .string (bytesOf []), .string (bytesOf [])] := by
   rw [hj, hL]; unfold Jb.cells strV; simp
  have hjid : j.id = L := by rw [hj, hL]
  obtain ⟨T, hT⟩ : ∃ T, T = subB j := ⟨_, rfl⟩
  rw [← hT] at hR HSB hsl
  unfold Jb.val at HSB
  unfold strV at HSB
  rw [hcells] at HSB
  have hq1 := note_q x T
  have HN := Lib.hid (fun W (hW : QD P (.slice va x.q.jobs.length vc) x W) => note_any P _ x T hsl W hW)
  obtain ⟨N, hN⟩ : ∃ N, N = x.note T := ⟨_, rfl⟩
  rw [← hN] at hR HN hq1
  obtain ⟨n1, n2⟩ := N
  dsimp only at hR HN hq1
  unfold strV at HN
  have HE := Lib.hid hq1
  have HC := Lib.hid hcells
  have HID := Lib.hid hjid
  have HF := Lib.hid hfx
  have HLE := Lib.hid hLi
  have HL := Lib.hid hL
  have hLi' : Tryz.prog.follows .mixedOrders = true := by kernel_rfl
  clear hj hL hjo hjf hfx hT hN hq1 hcells hjid
  by_cases h0 : n1 = 0
  ·rw [if_pos h0] at hR
   subst h0
   have HR := Lib.hid hR
   clear hd h hR hLi' hmx
   go_enter Tryz.func13, Tryz.ntmps13
   go_wp2_with fail
   refine HS.out.mono ?_
   rintro e w1 ⟨rfl, rfl⟩
   go_wp2_with fail
   refine (HL1.out w1).mono ?_
   rintro e wl ⟨rfl, rfl⟩
   go_wp2_with fail
   refine (HL2.out wl).mono ?_
   rintro e wm ⟨rfl, rfl⟩
   go_wp2_with fail
   refine (HNM.out _ HQ.out).mono ?_
   rintro e w2 ⟨rfl, hb2⟩
   have HQ2 := Lib.hid (HQ.out.below hb2)
   obtain ⟨-, y1, y2, -⟩ := HQ2.out.qa.cells
   go_upto_region 14 with (fail)
   obtain ⟨b, hb⟩ : ∃ b, b = w2.heap.size := ⟨_, rfl⟩
   obtain ⟨W3, hW3⟩ : ∃ W, W = w2.alloc (.cells #[.int .i64 (L : Int), .string (bytesOf c), .string (bytesOf t), .int .i64 (n : Int), .int .i64 1, .int .i64 0, .string (bytesOf work), .string { data := #[] }, .string { data := #[] }] 48) := ⟨_, rfl⟩
   have hb3 : Below w2.heap.size w2 W3 := by rw [hW3]; exact (Below.refl _ w2).alloc (Nat.le_refl _) _
   have bx3 : BoxAt W3 b j := by unfold BoxAt; rw [HC.out, hW3, hb]; exact alloc_last _ _ rfl
   have HQ3 := Lib.hid (HQ2.out.below hb3)
   have HB3 := Lib.hid (hb2.trans (hb3.mono hb2.size))
   have HNB : Hid (¬ Mine P (.slice va x.q.jobs.length vc) b) := Lib.hid (fun hm => by have := HQ2.out.lt b hm; omega)
   rw [← hW3, ← hb]
   have HBX3 := Lib.hid bx3
   obtain ⟨d0, d1, d2, d3, d4, d5, d6, d7, d8⟩ : W3.cell? ⟨b, 0, none⟩ = some (.int .i64 (L : Int)) ∧ W3.cell? ⟨b, 1, none⟩ = some (.string (bytesOf c)) ∧ W3.cell? ⟨b, 2, none⟩ = some (.string (bytesOf t)) ∧ W3.cell? ⟨b, 3, none⟩ = some (.int .i64 (n : Int)) ∧ W3.cell? ⟨b, 4, none⟩ = some (.int .i64 1) ∧ W3.cell? ⟨b, 5, none⟩ = some (.int .i64 0) ∧ W3.cell? ⟨b, 6, none⟩ = some (.string (bytesOf work)) ∧ W3.cell? ⟨b, 7, none⟩ = some (.string (bytesOf [])) ∧ W3.cell? ⟨b, 8, none⟩ = some (.string (bytesOf [])) := ⟨(bx3.cell (i := 0) (by rw [HC.out]; rfl)).1, (bx3.cell (i := 1) (by rw [HC.out]; rfl)).1, (bx3.cell (i := 2) (by rw [HC.out]; rfl)).1, (bx3.cell (i := 3) (by rw [HC.out]; rfl)).1, (bx3.cell (i := 4) (by rw [HC.out]; rfl)).1, (bx3.cell (i := 5) (by rw [HC.out]; rfl)).1, (bx3.cell (i := 6) (by rw [HC.out]; rfl)).1, (bx3.cell (i := 7) (by rw [HC.out]; rfl)).1, (bx3.cell (i := 8) (by rw [HC.out]; rfl)).1⟩
   clear hb3 bx3 hW3 hb hb2 y1 y2
   go_wp2_with fail
   refine (HSB.out W3).mono ?_
   rintro e w4 ⟨rfl, hb4⟩
   have HQ4 := Lib.hid (HQ3.out.below hb4)
   have HBX4 := Lib.hid (HBX3.out.below hb4)
   have HST4 := Lib.hid ((Stp.of_below (P := P) (v := .slice va x.q.jobs.length vc) HB3.out).below hb4)
   clear hb4 d0 d1 d2 d3 d4 d5 d6 d7 d8
   go_wp2_with fail
   refine (HN.out w4 HQ4.out).mono ?_
   rintro e w5 ⟨rfl, hq5, hk5⟩
   have bx5 : BoxAt w5 b j := (hk5.block _ (lt_of_heap HBX4.out) HNB.out).trans HBX4.out
   have HQ5 := Lib.hid hq5
   have HBX5 := Lib.hid bx5
   have HST5 := Lib.hid (HST4.out.trans (Stp.of_kp hk5))
   obtain ⟨-, y1, y2, -⟩ := hq5.qa.cells
   have dd : w5.cell? ⟨b, 0, none⟩ = some (.int .i64 (L : Int)) ∧ w5.cell? ⟨b, 1, none⟩ = some (.string (bytesOf c)) ∧ w5.cell? ⟨b, 2, none⟩ = some (.string (bytesOf t)) ∧ w5.cell? ⟨b, 3, none⟩ = some (.int .i64 (n : Int)) ∧ w5.cell? ⟨b, 4, none⟩ = some (.int .i64 1) ∧ w5.cell? ⟨b, 5, none⟩ = some (.int .i64 0) ∧ w5.cell? ⟨b, 6, none⟩ = some (.string (bytesOf work)) ∧ w5.cell? ⟨b, 7, none⟩ = some (.string (bytesOf [])) ∧ w5.cell? ⟨b, 8, none⟩ = some (.string (bytesOf [])) := ⟨(bx5.cell (i := 0) (by rw [HC.out]; rfl)).1, (bx5.cell (i := 1) (by rw [HC.out]; rfl)).1, (bx5.cell (i := 2) (by rw [HC.out]; rfl)).1, (bx5.cell (i := 3) (by rw [HC.out]; rfl)).1, (bx5.cell (i := 4) (by rw [HC.out]; rfl)).1, (bx5.cell (i := 5) (by rw [HC.out]; rfl)).1, (bx5.cell (i := 6) (by rw [HC.out]; rfl)).1, (bx5.cell (i := 7) (by rw [HC.out]; rfl)).1, (bx5.cell (i := 8) (by rw [HC.out]; rfl)).1⟩
   have HEL : Hid (n2.q.jobs.length = x.q.jobs.length) := Lib.hid (by rw [HE.out])
   clear hq5 hk5 bx5 y2
   go_upto_region 17 with (fail)
   refine wp_region_lateU (fun w' => w'.cell? ⟨P.p, 1, none⟩ = some (.slice va x.q.jobs.length vc)) (fun w' => w'.cell? ⟨b, 0, none⟩ = some (.int .i64 (L : Int)) ∧ w'.cell? ⟨b, 1, none⟩ = some (.string (bytesOf c)) ∧ w'.cell? ⟨b, 2, none⟩ = some (.string (bytesOf t)) ∧ w'.cell? ⟨b, 3, none⟩ = some (.int .i64 (n : Int)) ∧ w'.cell? ⟨b, 4, none⟩ = some (.int .i64 1) ∧ w'.cell? ⟨b, 5, none⟩ = some (.int .i64 0) ∧ w'.cell? ⟨b, 6, none⟩ = some (.string (bytesOf work)) ∧ w'.cell? ⟨b, 7, none⟩ = some (.string (bytesOf [])) ∧ w'.cell? ⟨b, 8, none⟩ = some (.string (bytesOf []))) (fun j => decide (j = 13 ∨ j = 16)) (by kernel_rfl) y1 dd (fun hS hT => ?_)
   refine wpAnyU_take 0 (v := ?_) (by kernel_rfl) (by kernel_rfl) rfl (by kernel_rfl) (by kernel_rfl) (fun _ _ _ h => h) (Or.inl ⟨by rfl, ?_⟩) (by assumption) ?_
   rotate_left
   ·(intro wq hSq; (try dsimp only at hSq); go_simp; try with_reducible rfl)
   try simp only [q0P, q0Q, q0R, q0S]
   refine wpAnyU_take 2 (v := ?_) (by kernel_rfl) (by kernel_rfl) rfl (by kernel_rfl) (by kernel_rfl) (fun _ _ _ h => h) (Or.inl ⟨by rfl, ?_⟩) (by assumption) ?_
   rotate_left
   ·(intro wq hSq; (try dsimp only at hSq); go_simp; try with_reducible rfl)
   try simp only [q0P, q0Q, q0R, q0S]
   refine wpAnyU_take 3 (v := ?_) (by kernel_rfl) (by kernel_rfl) rfl (by kernel_rfl) (by kernel_rfl) (fun _ _ _ h => h) (Or.inl ⟨by rfl, ?_⟩) (by assumption) ?_
   rotate_left
   ·(intro wq hSq; (try dsimp only at hSq); go_simp; try with_reducible rfl)
   try simp only [q0P, q0Q, q0R, q0S]
   refine wpAnyU_take 4 (v := ?_) (by kernel_rfl) (by kernel_rfl) rfl (by kernel_rfl) (by kernel_rfl) (fun _ _ _ h => h) (Or.inl ⟨by rfl, ?_⟩) (by assumption) ?_
   rotate_left
   ·(intro wq hSq; (try dsimp only at hSq); go_simp; try with_reducible rfl)
   try simp only [q0P, q0Q, q0R, q0S]
   refine wpAnyU_take 5 (v := ?_) (by kernel_rfl) (by kernel_rfl) rfl (by kernel_rfl) (by kernel_rfl) (fun _ _ _ h => h) (Or.inl ⟨by rfl, ?_⟩) (by assumption) ?_
   rotate_left
   ·(intro wq hSq; (try dsimp only at hSq); go_simp; try with_reducible rfl)
   try simp only [q0P, q0Q, q0R, q0S]
   refine wpAnyU_takeW 1 (v := ?_) (by kernel_rfl) rfl (by kernel_rfl) (by kernel_rfl) (fun _ _ _ h => h) (Or.inl ⟨by rfl, ?_⟩) (by assumption) ?_
   rotate_left
   ·(intro wq hSq; (try dsimp only at hSq); go_simp; try with_reducible rfl)
   try simp only [q0P, q0Q, q0R, q0S]
   refine wpAnyU_takeW 6 (v := ?_) (by kernel_rfl) rfl (by kernel_rfl) (by kernel_rfl) (fun _ _ _ h => h) (Or.inl ⟨by rfl, ?_⟩) (by assumption) ?_
   rotate_left
   ·(intro wq hSq; (try dsimp only at hSq); go_simp; try with_reducible rfl)
   try simp only [q0P, q0Q, q0R, q0S]
   refine wpAnyU_takeW 9 (v := ?_) (by kernel_rfl) rfl (by kernel_rfl) (by kernel_rfl) (fun _ _ _ h => h) (Or.inl ⟨by rfl, ?_⟩) (by assumption) ?_
   rotate_left
   ·(intro wq hSq; (try dsimp only at hSq); go_simp; try with_reducible rfl)
   try simp only [q0P, q0Q, q0R, q0S]
   refine wpAnyU_takeW 10 (v := ?_) (by kernel_rfl) rfl (by kernel_rfl) (by kernel_rfl) (fun _ _ _ h => h) (Or.inl ⟨by rfl, ?_⟩) (by assumption) ?_
   rotate_left
   ·(intro wq hSq; (try dsimp only at hSq); go_simp; try with_reducible rfl)
   try simp only [q0P, q0Q, q0R, q0S]
   have hbd : Below w5.heap.size w5 (w5.drew.alloc (.cells #[.int .i64 (L : Int), .string (bytesOf c), .string (bytesOf t), .int .i64 (n : Int), .int .i64 1, .int .i64 0, .string (bytesOf work), .string { data := #[] }, .string { data := #[] }] 48)) := (Below.refl w5.heap.size w5).drew.alloc (by simp) _
   refine wpAnyU_keep 7 (by kernel_rfl) rfl (fun K hK => ?_)
   go_simp
   have qA := HQ5.out.below hbd
   have bA := HBX5.out.below hbd
   have gA : BoxAt (w5.drew.alloc (.cells #[.int .i64 (L : Int), .string (bytesOf c), .string (bytesOf t), .int .i64 (n : Int), .int .i64 1, .int .i64 0, .string (bytesOf work), .string { data := #[] }, .string { data := #[] }] 48)) w5.heap.size j := by unfold BoxAt; rw [HC.out]; exact alloc_last _ _ rfl
   obtain ⟨-, kA, -⟩ := qA.qa.cells
   have hszA : 0 ≤ (w5.drew.alloc (.cells #[.int .i64 (L : Int), .string (bytesOf c), .string (bytesOf t), .int .i64 (n : Int), .int .i64 1, .int .i64 0, .string (bytesOf work), .string { data := #[] }, .string { data := #[] }] 48)).heap.size := Nat.zero_le _
   have HQA := Lib.hid qA
   have HBA := Lib.hid bA
   have HGA := Lib.hid gA
   have HSTA := Lib.hid (HST5.out.below hbd)
   refine hK.out _ _ kA ⟨(bA.cell (i := 0) (by rw [HC.out]; rfl)).1, (bA.cell (i := 1) (by rw [HC.out]; rfl)).1, (bA.cell (i := 2) (by rw [HC.out]; rfl)).1, (bA.cell (i := 3) (by rw [HC.out]; rfl)).1, (bA.cell (i := 4) (by rw [HC.out]; rfl)).1, (bA.cell (i := 5) (by rw [HC.out]; rfl)).1, (bA.cell (i := 6) (by rw [HC.out]; rfl)).1, (bA.cell (i := 7) (by rw [HC.out]; rfl)).1, (bA.cell (i := 8) (by rw [HC.out]; rfl)).1⟩ (fun hS2 hT2 => ?_)
   clear hK K hS hT y1 dd hbd qA bA gA kA
   try simp only [q0P, q0Q, q0R, q0S]
   refine wpAnyU_keep 8 (by kernel_rfl) rfl (fun K hK => ?_)
   refine step_append9 (by rfl) (.tmp 91) (.tmp 93) (by rfl) 0 x.q.jobs.length w5.heap.size 1 (.slice va x.q.jobs.length vc) (jobsL x.q.jobs) j (by rfl) (by rfl) (by have h := HQA.out.ja; rw [HE.out] at h; exact h) HGA.out (by omega) hszA ?_
   intro v7 w7 ho7 hg7 hm7
   obtain ⟨va7, vc7, rfl⟩ : ∃ a c, v7 = .slice a (x.q.jobs.length + 1) c := by
    rcases ho7.2 with ⟨e, h0⟩ | ⟨g, c, _, _, e, _⟩
    ·exact absurd h0 (by omega)
    ·exact ⟨_, c, e⟩
   have hnb : (Value.slice va x.q.jobs.length vc).ownBlock ≠ some b := fun e => HNB.out (.inr (.inr (.inr (.inr e))))
   have bx7 : BoxAt w7 b j := grown_box (B := 0) (n := 0) (xs := []) HBA.out hg7 hnb
   have qa7 : QueueAt w7 P.p (.pointer (some ⟨P.d, 0, none⟩)) (.slice va x.q.jobs.length vc) n2.q.last n2.down := (hg7.block _ (lt_of_heap HQA.out.qa) (fun e => HQA.out.qa.ne HQA.out.ja e.symm)).trans HQA.out.qa
   obtain ⟨-, k7, -, -, z7, z8, -⟩ := qa7.cells
   obtain ⟨s1, s2⟩ := HQA.out.pushed (j := j) (by rw [HE.out]; exact ho7) hg7 hm7 (by rw [HE.out]; exact HF.out)
   have hpb : ¬ P.p = b := fun e => HNB.out (.inl e.symm)
   have bx9 : BoxAt ((w7.setCell ⟨P.p, 1, none⟩ (.slice va7 (x.q.jobs.length + 1) vc7)).setCell ⟨P.p, 2, none⟩ (.int .i64 (L : Int))) b j := by
    unfold BoxAt
    rw [Below.heap_setCell _ _ _ _ (fun q => hpb q.symm), Below.heap_setCell _ _ _ _ (fun q => hpb q.symm)]; exact bx7
   have bx8 : BoxAt (w7.setCell ⟨P.p, 1, none⟩ (.slice va7 (x.q.jobs.length + 1) vc7)) b j := by
    unfold BoxAt
    rw [Below.heap_setCell _ _ _ _ (fun q => hpb q.symm)]; exact bx7
   rw [HID.out] at s1 s2
   obtain ⟨-, -, k8, -, -, z9, -⟩ := (qa7.set1 (.slice va7 (x.q.jobs.length + 1) vc7)).cells
   have HS1 := Lib.hid s1
   have HS2 := Lib.hid (HSTA.out.trans s2)
   have HBX8 := Lib.hid bx8
   have HBX9 := Lib.hid bx9
   refine hK.out _ _ k7 ⟨(bx7.cell (i := 0) (by rw [HC.out]; rfl)).1, (bx7.cell (i := 1) (by rw [HC.out]; rfl)).1, (bx7.cell (i := 2) (by rw [HC.out]; rfl)).1, (bx7.cell (i := 3) (by rw [HC.out]; rfl)).1, (bx7.cell (i := 4) (by rw [HC.out]; rfl)).1, (bx7.cell (i := 5) (by rw [HC.out]; rfl)).1, (bx7.cell (i := 6) (by rw [HC.out]; rfl)).1, (bx7.cell (i := 7) (by rw [HC.out]; rfl)).1, (bx7.cell (i := 8) (by rw [HC.out]; rfl)).1⟩ (fun hS3 hT3 => ?_)
   clear hK K hS2 hT2 ho7 hg7 hm7 s1 s2 qa7 bx7 bx8 bx9 hnb
   try simp only [q0P, q0Q, q0R, q0S]
   refine wpAnyU_takeW 11 (v := ?_) (by kernel_rfl) rfl (by kernel_rfl) (by kernel_rfl) (fun _ _ _ h => h) (Or.inl ⟨by rfl, ?_⟩) (by assumption) ?_
   rotate_left
   ·(intro wq hSq; (try dsimp only at hSq); go_simp; try with_reducible rfl)
   try simp only [q0P, q0Q, q0R, q0S]
   refine wpAnyU_takeW 12 (v := ?_) (by kernel_rfl) rfl (by kernel_rfl) (by kernel_rfl) (fun _ _ _ h => h) (Or.inl ⟨by rfl, ?_⟩) (by assumption) ?_
   rotate_left
   ·(intro wq hSq; (try dsimp only at hSq); go_simp; try with_reducible rfl)
   try simp only [q0P, q0Q, q0R, q0S]
   refine wpAnyU_step 13 (by kernel_rfl) rfl rfl (fun K hK => ?_)
   go_simp
   refine hK.out _ _ ⟨(HBX8.out.cell (i := 0) (by rw [HC.out]; rfl)).1, (HBX8.out.cell (i := 1) (by rw [HC.out]; rfl)).1, (HBX8.out.cell (i := 2) (by rw [HC.out]; rfl)).1, (HBX8.out.cell (i := 3) (by rw [HC.out]; rfl)).1, (HBX8.out.cell (i := 4) (by rw [HC.out]; rfl)).1, (HBX8.out.cell (i := 5) (by rw [HC.out]; rfl)).1, (HBX8.out.cell (i := 6) (by rw [HC.out]; rfl)).1, (HBX8.out.cell (i := 7) (by rw [HC.out]; rfl)).1, (HBX8.out.cell (i := 8) (by rw [HC.out]; rfl)).1⟩ (fun hT4 => ?_)
   clear hK K hS3 hT3
   try simp only [q0P, q0Q, q0R, q0S]
   refine wpAnyU_takeW 14 (v := ?_) (by kernel_rfl) rfl (by kernel_rfl) (by kernel_rfl) (fun _ _ _ h => h) (Or.inl ⟨by rfl, ?_⟩) (by assumption) ?_
   rotate_left
   ·(intro wq hSq; (try dsimp only at hSq); go_simp; try with_reducible rfl)
   try simp only [q0P, q0Q, q0R, q0S]
   refine wpAnyU_takeW 15 (v := ?_) (by kernel_rfl) rfl (by kernel_rfl) (by kernel_rfl) (fun _ _ _ h => h) (Or.inl ⟨by rfl, ?_⟩) (by assumption) ?_
   rotate_left
   ·(intro wq hSq; (try dsimp only at hSq); go_simp; try with_reducible rfl)
   try simp only [q0P, q0Q, q0R, q0S]
   refine wpAnyU_step 16 (by kernel_rfl) rfl rfl (fun K hK => ?_)
   go_simp
   refine hK.out _ _ ⟨(HBX9.out.cell (i := 0) (by rw [HC.out]; rfl)).1, (HBX9.out.cell (i := 1) (by rw [HC.out]; rfl)).1, (HBX9.out.cell (i := 2) (by rw [HC.out]; rfl)).1, (HBX9.out.cell (i := 3) (by rw [HC.out]; rfl)).1, (HBX9.out.cell (i := 4) (by rw [HC.out]; rfl)).1, (HBX9.out.cell (i := 5) (by rw [HC.out]; rfl)).1, (HBX9.out.cell (i := 6) (by rw [HC.out]; rfl)).1, (HBX9.out.cell (i := 7) (by rw [HC.out]; rfl)).1, (HBX9.out.cell (i := 8) (by rw [HC.out]; rfl)).1⟩ (fun hT5 => ?_)
   clear hK K hT4
   refine wpAnyU_end (by kernel_rfl) ?_
   obtain ⟨d0, -, -, -, -, -, -, -, -⟩ := hT5
   clear HBX8 HBX9
   go_wp2_with fail
   go_ret2
   rw [HR.out, ← HL.out]
   refine ⟨rfl, _, ?_, HS2.out⟩
   have e := HE.out
   have s := HS1.out
   rw [e] at s
   exact s
  ·rw [if_neg h0] at hR
   have h0' : (n1 == 0) = false := by rw [beq_eq_false_iff_ne]; exact h0
   have HR := Lib.hid hR
   clear hd h hR hLi' hmx h0
   go_enter Tryz.func13, Tryz.ntmps13
   go_wp2_with fail
   refine HS.out.mono ?_
   rintro e w1 ⟨rfl, rfl⟩
   go_wp2_with fail
   refine (HL1.out w1).mono ?_
   rintro e wl ⟨rfl, rfl⟩
   go_wp2_with fail
   refine (HL2.out wl).mono ?_
   rintro e wm ⟨rfl, rfl⟩
   go_wp2_with fail
   refine (HNM.out _ HQ.out).mono ?_
   rintro e w2 ⟨rfl, hb2⟩
   have HQ2 := Lib.hid (HQ.out.below hb2)
   obtain ⟨-, y1, y2, -⟩ := HQ2.out.qa.cells
   go_upto_region 14 with (fail)
   obtain ⟨b, hb⟩ : ∃ b, b = w2.heap.size := ⟨_, rfl⟩
   obtain ⟨W3, hW3⟩ : ∃ W, W = w2.alloc (.cells #[.int .i64 (L : Int), .string (bytesOf c), .string (bytesOf t), .int .i64 (n : Int), .int .i64 1, .int .i64 0, .string (bytesOf work), .string { data := #[] }, .string { data := #[] }] 48) := ⟨_, rfl⟩
   have hb3 : Below w2.heap.size w2 W3 := by rw [hW3]; exact (Below.refl _ w2).alloc (Nat.le_refl _) _
   have bx3 : BoxAt W3 b j := by unfold BoxAt; rw [HC.out, hW3, hb]; exact alloc_last _ _ rfl
   have HQ3 := Lib.hid (HQ2.out.below hb3)
   have HB3 := Lib.hid (hb2.trans (hb3.mono hb2.size))
   have HNB : Hid (¬ Mine P (.slice va x.q.jobs.length vc) b) := Lib.hid (fun hm => by have := HQ2.out.lt b hm; omega)
   rw [← hW3, ← hb]
   have HBX3 := Lib.hid bx3
   obtain ⟨d0, d1, d2, d3, d4, d5, d6, d7, d8⟩ : W3.cell? ⟨b, 0, none⟩ = some (.int .i64 (L : Int)) ∧ W3.cell? ⟨b, 1, none⟩ = some (.string (bytesOf c)) ∧ W3.cell? ⟨b, 2, none⟩ = some (.string (bytesOf t)) ∧ W3.cell? ⟨b, 3, none⟩ = some (.int .i64 (n : Int)) ∧ W3.cell? ⟨b, 4, none⟩ = some (.int .i64 1) ∧ W3.cell? ⟨b, 5, none⟩ = some (.int .i64 0) ∧ W3.cell? ⟨b, 6, none⟩ = some (.string (bytesOf work)) ∧ W3.cell? ⟨b, 7, none⟩ = some (.string (bytesOf [])) ∧ W3.cell? ⟨b, 8, none⟩ = some (.string (bytesOf [])) := ⟨(bx3.cell (i := 0) (by rw [HC.out]; rfl)).1, (bx3.cell (i := 1) (by rw [HC.out]; rfl)).1, (bx3.cell (i := 2) (by rw [HC.out]; rfl)).1, (bx3.cell (i := 3) (by rw [HC.out]; rfl)).1, (bx3.cell (i := 4) (by rw [HC.out]; rfl)).1, (bx3.cell (i := 5) (by rw [HC.out]; rfl)).1, (bx3.cell (i := 6) (by rw [HC.out]; rfl)).1, (bx3.cell (i := 7) (by rw [HC.out]; rfl)).1, (bx3.cell (i := 8) (by rw [HC.out]; rfl)).1⟩
   clear hb3 bx3 hW3 hb hb2 y1 y2
   go_wp2_with fail
   refine (HSB.out W3).mono ?_
   rintro e w4 ⟨rfl, hb4⟩
   have HQ4 := Lib.hid (HQ3.out.below hb4)
   have HBX4 := Lib.hid (HBX3.out.below hb4)
   have HST4 := Lib.hid ((Stp.of_below (P := P) (v := .slice va x.q.jobs.length vc) HB3.out).below hb4)
   clear hb4 d0 d1 d2 d3 d4 d5 d6 d7 d8
   go_wp2_with fail
   refine (HN.out w4 HQ4.out).mono ?_
   rintro e w5 ⟨rfl, hq5, hk5⟩
   have bx5 : BoxAt w5 b j := (hk5.block _ (lt_of_heap HBX4.out) HNB.out).trans HBX4.out
   have HQ5 := Lib.hid hq5
   have HBX5 := Lib.hid bx5
   have HST5 := Lib.hid (HST4.out.trans (Stp.of_kp hk5))
   clear hq5 hk5 bx5
   go_wp2_with fail
   go_ret2
   rw [HR.out]
   exact ⟨rfl, _, HQ5.out, HST5.out⟩
end
/- Plain: a queue of jobs: the job that is taken next. -/
section
def stepF (n : Nat) (b : Option (Nat × Nat)) (j : Jb) : Option (Nat × Nat) := if j.state = 1 ∧ j.tries < 8 ∧ (∀ x, b = some x → x.2 < j.prio) then some (n, j.prio) else b
theorem bestF_cons (j : Jb) (l : List Jb) (i : Nat) (b : Option (Nat × Nat)) : bestF (j :: l) i b = bestF l (i + 1) (stepF i b j) := by
 unfold stepF
 conv => lhs; unfold bestF
theorem bestF_snoc (l : List Jb) (j : Jb) : ∀ (i : Nat) (b : Option (Nat × Nat)), bestF (l ++ [j]) i b = stepF (i + l.length) (bestF l i b) j := by
 induction l with
 | nil =>
  intro i b
  rw [List.nil_append, bestF_cons]
  rfl
 | cons a l ih =>
  intro i b
  rw [List.cons_append, bestF_cons, bestF_cons, ih, List.length_cons]
  congr 1
  omega
theorem bestF_take (js : List Jb) (k : Nat) (j : Jb) (h : js[k]? = some j) : bestF (js.take (k + 1)) 0 none = stepF k (bestF (js.take k) 0 none) j := by
 have hk := (List.getElem?_eq_some_iff.1 h).1
 rw [List.take_add_one, h]
 show bestF (js.take k ++ [j]) 0 none = _
 rw [bestF_snoc, List.length_take, Nat.min_eq_left (Nat.le_of_lt hk), Nat.zero_add]
/-- What the best place is. -/
structure BestOk (js : List Jb) (b : Option (Nat × Nat)) : Prop where
 (get : ∀ m p, b = some (m, p) → ∃ j, js[m]? = some j ∧ j.prio = p ∧ j.state = 1 ∧ j.tries < 8)
 (top : ∀ i j, js[i]? = some j → j.state = 1 → j.tries < 8 → ∃ m p, b = some (m, p) ∧ (j.prio < p ∨ (j.prio = p ∧ m ≤ i)))
theorem best_step {js : List Jb} {j : Jb} {b : Option (Nat × Nat)} (h : BestOk js b) : BestOk (js ++ [j]) (stepF js.length b j) := by
 have get' : ∀ (i : Nat) (x : Jb), js[i]? = some x → (js ++ [j])[i]? = some x := fun i x hx => by
  rw [List.getElem?_append_left (List.getElem?_eq_some_iff.1 hx).1]; exact hx
 unfold stepF
 by_cases hc : j.state = 1 ∧ j.tries < 8 ∧ (∀ x, b = some x → x.2 < j.prio)
 ·rw [if_pos hc]
  refine ⟨fun m p e => ?_, fun i x hx h1 h8 => ?_⟩
  ·injection e with e; injection e with e1 e2
   subst e1 e2
   exact ⟨j, by simp, rfl, hc.1, hc.2.1⟩
  ·refine ⟨_, _, rfl, ?_⟩
   rcases Nat.lt_or_ge i js.length with hi | hi
   ·rw [List.getElem?_append_left hi] at hx
    obtain ⟨m, p, hb, hmp⟩ := h.top i x hx h1 h8
    have := hc.2.2 _ hb
    dsimp only at this
    left
    rcases hmp with q | q <;> omega
   ·right
    have hii : i = js.length := by
     have := (List.getElem?_eq_some_iff.1 hx).1
     rw [List.length_append, List.length_singleton] at this
     omega
    subst hii
    simp at hx
    exact ⟨by rw [hx], Nat.le_refl _⟩
 ·rw [if_neg hc]
  refine ⟨fun m p e => ?_, fun i x hx h1 h8 => ?_⟩
  ·obtain ⟨y, hy, q⟩ := h.get m p e
   exact ⟨y, get' m y hy, q⟩
  ·rcases Nat.lt_or_ge i js.length with hi | hi
   ·rw [List.getElem?_append_left hi] at hx
    exact h.top i x hx h1 h8
   ·have hii : i = js.length := by
     have := (List.getElem?_eq_some_iff.1 hx).1
     rw [List.length_append, List.length_singleton] at this
     omega
    subst hii
    simp at hx
    subst hx
    have hno : ¬ ∀ x, b = some x → x.2 < j.prio := fun q => hc ⟨h1, h8, q⟩
    have hex : ∃ x, b = some x ∧ ¬ x.2 < j.prio := by
     refine Classical.byContradiction fun hne => hno fun x hx => ?_
     exact Classical.byContradiction fun hn => hne ⟨x, hx, hn⟩
    obtain ⟨⟨m, p⟩, hb, hp⟩ := hex
    obtain ⟨y, hy, -⟩ := h.get m p hb
    have := (List.getElem?_eq_some_iff.1 hy).1
    dsimp only at hp
    refine ⟨m, p, hb, ?_⟩
    rcases Nat.lt_or_ge j.prio p with q | q
    ·exact .inl q
    ·exact .inr ⟨by omega, by omega⟩
theorem best_ok (js : List Jb) : BestOk js (bestF js 0 none) := by
 induction js using rev_ind with
 | h0 => exact ⟨fun m p e => (by cases e), fun i j hj => (by simp at hj)⟩
 | h1 l x ih =>
  have := best_step (j := x) ih
  rw [bestF_snoc, Nat.zero_add]
  exact this
def bestI (b : Option (Nat × Nat)) : Int := placeI (b.map (·.1))
end
/- Walks: a queue of jobs: Take. Printed by gen_jc5.py. -/
section
open Go.RowKit Go.Shelf
/-- A block that is new: what is written there changes nothing that was. -/
theorem stp_new {P : QP} {v v' : Value} {w w1 : World} (h : Stp P v v' w w1) (b : Nat) (hb : w.heap.size ≤ b) (a : Addr) (ha : a.block = b) (u : Value) : Stp P v v' w (w1.setCell a u) :=
 ⟨⟨h.kp.os, h.kp.tape, h.kp.output, by simpa using h.kp.size, fun k hk hn => (Below.heap_setCell _ _ _ _ (by omega)).trans (h.kp.block k hk hn)⟩, h.mv⟩
theorem qd_new {P : QP} {v : Value} {x : Qst} {w : World} (h : QD P v x w) (b : Nat) (hb : ¬ Mine P v b) (a : Addr) (ha : a.block = b) (u : Value) : QD P v x (w.setCell a u) :=
 ⟨h.qa.other (by rw [ha]; exact fun e => hb (.inl e)) u, h.ja.setCell_ne (by rw [ha]; exact fun e => hb (.inr (.inr (.inr (.inr e))))) u,
  h.dk.other (by rw [ha]; exact fun e => hb (.inr (.inl e))) (by rw [ha]; exact fun e => hb (.inr (.inr (.inl e)))) (by rw [ha]; exact fun e => hb (.inr (.inr (.inr (.inl e))))) u, h.np, h.nv, h.fine, h.good⟩
/-- What a call leaves, the result's box aside. -/
structure Left (P : QP) (v : Value) (x' : Qst) (w : World) (b : Nat) (W : World) : Prop where
 (qd : QD P v x' W)
 (st : Stp P v v w W)
 (nb : ¬ Mine P v b)
 (wb : w.heap.size ≤ b)
theorem Left.set {P : QP} {v : Value} {x' : Qst} {w : World} {b : Nat} {W : World} (h : Left P v x' w b W) (a : Addr) (ha : a.block = b) (u : Value) : Left P v x' w b (W.setCell a u) :=
 ⟨qd_new h.qd b h.nb a ha u, stp_new h.st b h.wb a ha u, h.nb, h.wb⟩
theorem Left.nine {P : QP} {v : Value} {x' : Qst} {w : World} {b : Nat} {W : World} (h : Left P v x' w b W) (v0 v1 v2 v3 v4 v5 v6 v7 v8 : Value) : Left P v x' w b (((((((((W.setCell ⟨b, 0, none⟩ v0).setCell ⟨b, 1, none⟩ v1).setCell ⟨b, 2, none⟩ v2).setCell ⟨b, 3, none⟩ v3).setCell ⟨b, 4, none⟩ v4).setCell ⟨b, 5, none⟩ v5).setCell ⟨b, 6, none⟩ v6).setCell ⟨b, 7, none⟩ v7).setCell ⟨b, 8, none⟩ v8) :=
 ((((((((h.set ⟨b, 0, none⟩ rfl v0).set ⟨b, 1, none⟩ rfl v1).set ⟨b, 2, none⟩ rfl v2).set ⟨b, 3, none⟩ rfl v3).set ⟨b, 4, none⟩ rfl v4).set ⟨b, 5, none⟩ rfl v5).set ⟨b, 6, none⟩ rfl v6).set ⟨b, 7, none⟩ rfl v7).set ⟨b, 8, none⟩ rfl v8
theorem Left.below {P : QP} {v : Value} {x' : Qst} {w : World} {b : Nat} {W W' : World} (h : Left P v x' w b W) (hb : Below W.heap.size W W') : Left P v x' w b W' := ⟨h.qd.below hb, h.st.below hb, h.nb, h.wb⟩
theorem Take_did (P : QP) (v : Value) (x : Qst) (w : World) (h : QD P v x w) :
  Calls Tryz.prog 14 #[.pointer (some ⟨P.p, 0, none⟩)] w fun e w' => Did P v (.tuple #[x.take.1.1.val, .bool x.take.1.2.1, .int .i64 x.take.1.2.2]) x.take.2 w e w' := by
 obtain ⟨R, hR⟩ : ∃ R, R = x.take := ⟨_, rfl⟩
 rw [← hR]
 unfold Qst.take at hR
 obtain ⟨W1, hW1⟩ : ∃ W, W = w.alloc (.cells #[.int .i64 0, .string { data := #[] }, .string { data := #[] }, .int .i64 0, .int .i64 0, .int .i64 0, .string { data := #[] }, .string { data := #[] }, .string { data := #[] }] 48) := ⟨_, rfl⟩
 have hb0 : Below w.heap.size w W1 := by rw [hW1]; exact (Below.refl _ w).alloc (Nat.le_refl _) _
 have g1 : BoxAt W1 w.heap.size Jb.none_ := by rw [hW1]; exact alloc_last _ _ rfl
 have h1 := h.below hb0
 have HS := Lib.hid (shut_any P.p P.d v x.q.last x.down _ h1.qa)
 have hlen := h.fine.ok.len
 obtain ⟨b, hb⟩ : ∃ b, b = w.heap.size := ⟨_, rfl⟩
 have L1 : Left P v x w b W1 := ⟨h1, Stp.of_below hb0, fun hm => by have := h.lt b hm; omega, by omega⟩
 rw [← hb] at g1
 have HL1 := Lib.hid L1
 have HG := Lib.hid g1
 have HW1 := Lib.hid hW1
 have HBW := Lib.hid hb
 have HFI := Lib.hid h.fine
 clear h1 hW1 hb0 g1 hb L1 h
 by_cases hd : x.down = true
 ·rw [if_pos hd] at hR HS
  have HR := Lib.hid hR
  clear hd hR
  go_enter Tryz.func14, Tryz.ntmps14
  go_upto_region 1 with (fail)
  rw [← HW1.out, ← HBW.out]
  go_wp2_with fail
  refine HS.out.mono ?_
  rintro e w1 ⟨rfl, rfl⟩
  obtain ⟨d0, d1, d2, d3, d4, d5, d6, d7, d8⟩ := HG.out.all
  obtain ⟨f0, f1, f2, f3, f4, f5, f6, f7, f8⟩ := HG.out.free
  go_wp2_with fail
  have hbx : BoxAt (((((((((w1.setCell ⟨b, 0, none⟩ (.int .i64 0)).setCell ⟨b, 1, none⟩ (.string { data := #[] })).setCell ⟨b, 2, none⟩ (.string { data := #[] })).setCell ⟨b, 3, none⟩ (.int .i64 0)).setCell ⟨b, 4, none⟩ (.int .i64 0)).setCell ⟨b, 5, none⟩ (.int .i64 0)).setCell ⟨b, 6, none⟩ (.string { data := #[] })).setCell ⟨b, 7, none⟩ (.string { data := #[] })).setCell ⟨b, 8, none⟩ (.string { data := #[] })) b Jb.none_ := nine_heap HG.out rfl _ _ _ _ _ _ _ _ _
  have hll := HL1.out.nine (.int .i64 0) (.string { data := #[] }) (.string { data := #[] }) (.int .i64 0) (.int .i64 0) (.int .i64 0) (.string { data := #[] }) (.string { data := #[] }) (.string { data := #[] })
  generalize (((((((((w1.setCell ⟨b, 0, none⟩ (.int .i64 0)).setCell ⟨b, 1, none⟩ (.string { data := #[] })).setCell ⟨b, 2, none⟩ (.string { data := #[] })).setCell ⟨b, 3, none⟩ (.int .i64 0)).setCell ⟨b, 4, none⟩ (.int .i64 0)).setCell ⟨b, 5, none⟩ (.int .i64 0)).setCell ⟨b, 6, none⟩ (.string { data := #[] })).setCell ⟨b, 7, none⟩ (.string { data := #[] })).setCell ⟨b, 8, none⟩ (.string { data := #[] })) = w9 at hbx hll ⊢
  clear d0 d1 d2 d3 d4 d5 d6 d7 d8 f0 f1 f2 f3 f4 f5 f6 f7 f8
  obtain ⟨d0, d1, d2, d3, d4, d5, d6, d7, d8⟩ := hbx.all
  rw [HR.out]
  exact bodyPost_ret (v := .tuple #[Jb.none_.val, .bool false, .int .i64 9]) (by simp [results, Tryz.results14, go_sem, d0, d1, d2, d3, d4, d5, d6, d7, d8]; rfl) rfl ⟨rfl, _, hll.qd, hll.st⟩
 rw [if_neg hd] at hR HS
 have HR := Lib.hid hR
 clear hd hR
 obtain ⟨va, vc, rfl⟩ : ∃ a c, v = .slice a x.q.jobs.length c := by
  rcases HL1.out.qd.ja.2 with ⟨e, h0⟩ | ⟨g, c, _, _, e, _⟩
  ·exact ⟨none, 0, by rw [e, h0]⟩
  ·exact ⟨_, c, e⟩
 obtain ⟨n, hn⟩ : ∃ n, n = x.q.jobs.length := ⟨_, rfl⟩
 have HN := Lib.hid hn
 rw [← hn] at hlen
 clear hn
 go_enter Tryz.func14, Tryz.ntmps14
 go_upto_region 1 with (fail)
 rw [← HW1.out, ← HBW.out]
 go_wp2_with fail
 refine HS.out.mono ?_
 rintro e w1 ⟨rfl, rfl⟩
 obtain ⟨-, y1, -⟩ := HL1.out.qd.qa.cells
 rw [← HN.out] at y1
 go_wp2_with fail
 clear y1
 go_loopw [6, 7, 8, 22] (fun bb _ _ ii wr => ∃ k : Nat, k ≤ n ∧ ii = .int .i64 (k : Int) ∧ bb = .int .i64 (bestI (bestF (x.q.jobs.take k) 0 none)) ∧ Hid (Left P (.slice va x.q.jobs.length vc) x w b wr) ∧ Hid (BoxAt wr b Jb.none_)) (fun _ _ _ ii _ => n - (intOf ii).toNat)
 case atStart => exact ⟨0, Nat.zero_le _, rfl, rfl, HL1.out, HG.out⟩
 case round =>
  obtain ⟨k, hk, rfl, rfl, hL, hX⟩ := hrel
  by_cases hlt : k < n
  ·skip
   obtain ⟨j, hj⟩ : ∃ j, x.q.jobs[k]? = some j := ⟨_, List.getElem?_eq_getElem (by rw [← HN.out]; exact hlt)⟩
   obtain ⟨g, cap', hgc, hgl, c0, c1, c2, c3, c4, c5, c6, c7, c8⟩ := JobsAt.cells (w := wr) hL.out.qd.ja k j hj
   injection hgc with ha hnn hcc
   clear hnn hcc
   subst ha
   have HBT := Lib.hid (bestF_take x.q.jobs k j hj)
   have hbo := best_ok (x.q.jobs.take k)
   have hpre : ∀ m y, (x.q.jobs.take k)[m]? = some y → x.q.jobs[m]? = some y ∧ m < k := fun m y hy => by
    rw [List.getElem?_take] at hy
    split at hy
    ·exact ⟨hy, by assumption⟩
    ·cases hy
   obtain ⟨B, hB⟩ : ∃ B, B = bestF (x.q.jobs.take k) 0 none := ⟨_, rfl⟩
   rw [← hB] at hbo HBT ⊢
   obtain ⟨bk, hbk⟩ : ∃ bk, bk = wr.heap.size := ⟨_, rfl⟩
   obtain ⟨W2, hW2⟩ : ∃ W, W = wr.alloc (.cells j.cells.toArray 48) := ⟨_, rfl⟩
   have hb2 : Below wr.heap.size wr W2 := by rw [hW2]; exact (Below.refl _ wr).alloc (Nat.le_refl _) _
   have bx2 : BoxAt W2 bk j := by rw [hW2, hbk]; exact alloc_last _ _ rfl
   have HL2 := Lib.hid (hL.out.below hb2)
   have HX2 := Lib.hid (hX.out.below hb2)
   have HBX := Lib.hid bx2
   have HW2 := Lib.hid hW2
   have HBK := Lib.hid hbk
   have HJ := Lib.hid hj
   have HPRE := Lib.hid hpre
   clear hb2 bx2 hW2 hbk hB hj hL hX hpre
   unfold strV at c1 c2 c6 c7 c8
   unfold Jb.cells strV at HW2
   go_upto_region 8 with (fail)
   rw [← HW2.out, ← HBK.out]
   clear HW2 HBK c0 c1 c2 c3 c4 c5 c6 c7 c8
   obtain ⟨-, -, -, d3, d4, d5, -, -, -⟩ := HBX.out.all
   obtain ⟨-, y1, -⟩ := HL2.out.qd.qa.cells
   rw [← HN.out] at y1
   by_cases hs1 : j.state = 1
   case neg =>
    have e1 : ((j.state : Int) == 1) = false := by rw [beq_eq_false_iff_ne]; omega
    refine wp_region_heldL (fun w' => w'.cell? ⟨bk, 3, none⟩ = some (.int .i64 j.prio) ∧ w'.cell? ⟨bk, 4, none⟩ = some (.int .i64 j.state) ∧ w'.cell? ⟨bk, 5, none⟩ = some (.int .i64 j.tries)) (by kernel_rfl) ⟨d3, d4, d5⟩ (fun hHeld => ?_)
    clear d3 d4 d5 y1
    refine tkH 0 (v := ?_) rfl ?_ ?_
    rotate_left
    ·(intro wq hSq; (try dsimp only at hSq); go_simp; try with_reducible rfl)
    try simp only [q0P, q0Q, q0R, q0S]
    refine tkH 1 (v := ?_) rfl ?_ ?_
    rotate_left
    ·(intro wq hSq; (try dsimp only at hSq); go_simp; try with_reducible rfl)
    try simp only [q0P, q0Q, q0R, q0S]
    refine tkH 2 (v := ?_) rfl ?_ ?_
    rotate_left
    ·(intro wq hSq; (try dsimp only at hSq); go_simp; try with_reducible rfl)
    try simp only [q0P, q0Q, q0R, q0S]
    refine tkH 3 (v := ?_) rfl ?_ ?_
    rotate_left
    ·(intro wq hSq; (try dsimp only at hSq); go_simp; try with_reducible rfl)
    try simp only [q0P, q0Q, q0R, q0S]
    refine tkS 4 rfl ?_
    try simp only [q0P, q0Q, q0R, q0S]
    refine tkS 5 rfl ?_
    try simp only [q0P, q0Q, q0R, q0S]
    refine tkS 6 rfl ?_
    try simp only [q0P, q0Q, q0R, q0S]
    refine tkH 7 (v := ?_) rfl ?_ ?_
    rotate_left
    ·(intro wq hSq; (try dsimp only at hSq); go_simp; try with_reducible rfl)
    try simp only [q0P, q0Q, q0R, q0S]
    refine tkH 8 (v := ?_) rfl ?_ ?_
    rotate_left
    ·(intro wq hSq; (try dsimp only at hSq); go_simp; try with_reducible rfl)
    try simp only [q0P, q0Q, q0R, q0S]
    refine tkS 9 rfl ?_
    try simp only [q0P, q0Q, q0R, q0S]
    refine tkS 10 rfl ?_
    try simp only [q0P, q0Q, q0R, q0S]
    refine tkS 11 rfl ?_
    try simp only [q0P, q0Q, q0R, q0S]
    refine tkS 12 rfl ?_
    try simp only [q0P, q0Q, q0R, q0S]
    refine tkS 13 rfl ?_
    try simp only [q0P, q0Q, q0R, q0S]
    refine tkS 14 rfl ?_
    try simp only [q0P, q0Q, q0R, q0S]
    refine tkS 15 rfl ?_
    try simp only [q0P, q0Q, q0R, q0S]
    refine tkS 16 rfl ?_
    try simp only [q0P, q0Q, q0R, q0S]
    refine tkS 17 rfl ?_
    try simp only [q0P, q0Q, q0R, q0S]
    refine tkS 18 rfl ?_
    try simp only [q0P, q0Q, q0R, q0S]
    refine tkS 19 rfl ?_
    try simp only [q0P, q0Q, q0R, q0S]
    refine tkS 20 rfl ?_
    try simp only [q0P, q0Q, q0R, q0S]
    refine tkS 21 rfl ?_
    try simp only [q0P, q0Q, q0R, q0S]
    refine tkS 22 rfl ?_
    try simp only [q0P, q0Q, q0R, q0S]
    refine tkS 23 rfl ?_
    try simp only [q0P, q0Q, q0R, q0S]
    refine tkH 24 (v := ?_) rfl ?_ ?_
    rotate_left
    ·(intro wq hSq; (try dsimp only at hSq); go_simp; try with_reducible rfl)
    try simp only [q0P, q0Q, q0R, q0S]
    refine wpAnyH_end (by kernel_rfl) ?_
    go_wp2_with fail
    go_roundw
    case rel => exact ⟨k + 1, by omega, by go_num, by rw [HBT.out]; unfold stepF; rw [if_neg (by rintro ⟨q, -⟩; exact hs1 q)], HL2.out.below (Below.refl _ _).drew, HX2.out.below (Below.refl _ _).drew⟩
    case measure => simp [intOf]; omega
   have e1 : ((j.state : Int) == 1) = true := by rw [hs1]; rfl
   by_cases ht8 : j.tries < 8
   case neg =>
    have e2 : ¬ (j.tries : Int) < 8 := by omega
    refine wp_region_heldL (fun w' => w'.cell? ⟨bk, 3, none⟩ = some (.int .i64 j.prio) ∧ w'.cell? ⟨bk, 4, none⟩ = some (.int .i64 j.state) ∧ w'.cell? ⟨bk, 5, none⟩ = some (.int .i64 j.tries)) (by kernel_rfl) ⟨d3, d4, d5⟩ (fun hHeld => ?_)
    clear d3 d4 d5 y1
    refine tkH 0 (v := ?_) rfl ?_ ?_
    rotate_left
    ·(intro wq hSq; (try dsimp only at hSq); go_simp; try with_reducible rfl)
    try simp only [q0P, q0Q, q0R, q0S]
    refine tkH 1 (v := ?_) rfl ?_ ?_
    rotate_left
    ·(intro wq hSq; (try dsimp only at hSq); go_simp; try with_reducible rfl)
    try simp only [q0P, q0Q, q0R, q0S]
    refine tkH 2 (v := ?_) rfl ?_ ?_
    rotate_left
    ·(intro wq hSq; (try dsimp only at hSq); go_simp; try with_reducible rfl)
    try simp only [q0P, q0Q, q0R, q0S]
    refine tkH 3 (v := ?_) rfl ?_ ?_
    rotate_left
    ·(intro wq hSq; (try dsimp only at hSq); go_simp; try with_reducible rfl)
    try simp only [q0P, q0Q, q0R, q0S]
    refine tkH 4 (v := ?_) rfl ?_ ?_
    rotate_left
    ·(intro wq hSq; (try dsimp only at hSq); go_simp; try with_reducible rfl)
    try simp only [q0P, q0Q, q0R, q0S]
    refine tkH 5 (v := ?_) rfl ?_ ?_
    rotate_left
    ·(intro wq hSq; (try dsimp only at hSq); go_simp; try with_reducible rfl)
    try simp only [q0P, q0Q, q0R, q0S]
    refine tkH 6 (v := ?_) rfl ?_ ?_
    rotate_left
    ·(intro wq hSq; (try dsimp only at hSq); go_simp; try with_reducible rfl)
    try simp only [q0P, q0Q, q0R, q0S]
    refine tkH 7 (v := ?_) rfl ?_ ?_
    rotate_left
    ·(intro wq hSq; (try dsimp only at hSq); go_simp; try with_reducible rfl)
    try simp only [q0P, q0Q, q0R, q0S]
    refine tkH 8 (v := ?_) rfl ?_ ?_
    rotate_left
    ·(intro wq hSq; (try dsimp only at hSq); go_simp; try with_reducible rfl)
    try simp only [q0P, q0Q, q0R, q0S]
    refine tkS 9 rfl ?_
    try simp only [q0P, q0Q, q0R, q0S]
    refine tkS 10 rfl ?_
    try simp only [q0P, q0Q, q0R, q0S]
    refine tkS 11 rfl ?_
    try simp only [q0P, q0Q, q0R, q0S]
    refine tkS 12 rfl ?_
    try simp only [q0P, q0Q, q0R, q0S]
    refine tkS 13 rfl ?_
    try simp only [q0P, q0Q, q0R, q0S]
    refine tkS 14 rfl ?_
    try simp only [q0P, q0Q, q0R, q0S]
    refine tkS 15 rfl ?_
    try simp only [q0P, q0Q, q0R, q0S]
    refine tkS 16 rfl ?_
    try simp only [q0P, q0Q, q0R, q0S]
    refine tkS 17 rfl ?_
    try simp only [q0P, q0Q, q0R, q0S]
    refine tkS 18 rfl ?_
    try simp only [q0P, q0Q, q0R, q0S]
    refine tkS 19 rfl ?_
    try simp only [q0P, q0Q, q0R, q0S]
    refine tkS 20 rfl ?_
    try simp only [q0P, q0Q, q0R, q0S]
    refine tkS 21 rfl ?_
    try simp only [q0P, q0Q, q0R, q0S]
    refine tkS 22 rfl ?_
    try simp only [q0P, q0Q, q0R, q0S]
    refine tkS 23 rfl ?_
    try simp only [q0P, q0Q, q0R, q0S]
    refine tkH 24 (v := ?_) rfl ?_ ?_
    rotate_left
    ·(intro wq hSq; (try dsimp only at hSq); go_simp; try with_reducible rfl)
    try simp only [q0P, q0Q, q0R, q0S]
    refine wpAnyH_end (by kernel_rfl) ?_
    go_wp2_with fail
    go_roundw
    case rel => exact ⟨k + 1, by omega, by go_num, by rw [HBT.out]; unfold stepF; rw [if_neg (by rintro ⟨-, q, -⟩; exact ht8 q)], HL2.out.below (Below.refl _ _).drew, HX2.out.below (Below.refl _ _).drew⟩
    case measure => simp [intOf]; omega
   have e2 : (j.tries : Int) < 8 := by omega
   cases B with
   | none =>
    rw [show bestI none = -1 from rfl]
    refine wp_region_heldL (fun w' => w'.cell? ⟨bk, 3, none⟩ = some (.int .i64 j.prio) ∧ w'.cell? ⟨bk, 4, none⟩ = some (.int .i64 j.state) ∧ w'.cell? ⟨bk, 5, none⟩ = some (.int .i64 j.tries)) (by kernel_rfl) ⟨d3, d4, d5⟩ (fun hHeld => ?_)
    clear d3 d4 d5 y1
    refine tkH 0 (v := ?_) rfl ?_ ?_
    rotate_left
    ·(intro wq hSq; (try dsimp only at hSq); go_simp; try with_reducible rfl)
    try simp only [q0P, q0Q, q0R, q0S]
    refine tkH 1 (v := ?_) rfl ?_ ?_
    rotate_left
    ·(intro wq hSq; (try dsimp only at hSq); go_simp; try with_reducible rfl)
    try simp only [q0P, q0Q, q0R, q0S]
    refine tkH 2 (v := ?_) rfl ?_ ?_
    rotate_left
    ·(intro wq hSq; (try dsimp only at hSq); go_simp; try with_reducible rfl)
    try simp only [q0P, q0Q, q0R, q0S]
    refine tkH 3 (v := ?_) rfl ?_ ?_
    rotate_left
    ·(intro wq hSq; (try dsimp only at hSq); go_simp; try with_reducible rfl)
    try simp only [q0P, q0Q, q0R, q0S]
    refine tkH 4 (v := ?_) rfl ?_ ?_
    rotate_left
    ·(intro wq hSq; (try dsimp only at hSq); go_simp; try with_reducible rfl)
    try simp only [q0P, q0Q, q0R, q0S]
    refine tkH 5 (v := ?_) rfl ?_ ?_
    rotate_left
    ·(intro wq hSq; (try dsimp only at hSq); go_simp; try with_reducible rfl)
    try simp only [q0P, q0Q, q0R, q0S]
    refine tkH 6 (v := ?_) rfl ?_ ?_
    rotate_left
    ·(intro wq hSq; (try dsimp only at hSq); go_simp; try with_reducible rfl)
    try simp only [q0P, q0Q, q0R, q0S]
    refine tkH 7 (v := ?_) rfl ?_ ?_
    rotate_left
    ·(intro wq hSq; (try dsimp only at hSq); go_simp; try with_reducible rfl)
    try simp only [q0P, q0Q, q0R, q0S]
    refine tkH 8 (v := ?_) rfl ?_ ?_
    rotate_left
    ·(intro wq hSq; (try dsimp only at hSq); go_simp; try with_reducible rfl)
    try simp only [q0P, q0Q, q0R, q0S]
    refine tkH 9 (v := ?_) rfl ?_ ?_
    rotate_left
    ·(intro wq hSq; (try dsimp only at hSq); go_simp; try with_reducible rfl)
    try simp only [q0P, q0Q, q0R, q0S]
    refine tkH 10 (v := ?_) rfl ?_ ?_
    rotate_left
    ·(intro wq hSq; (try dsimp only at hSq); go_simp; try with_reducible rfl)
    try simp only [q0P, q0Q, q0R, q0S]
    refine tkH 11 (v := ?_) rfl ?_ ?_
    rotate_left
    ·(intro wq hSq; (try dsimp only at hSq); go_simp; try with_reducible rfl)
    try simp only [q0P, q0Q, q0R, q0S]
    refine tkS 12 rfl ?_
    try simp only [q0P, q0Q, q0R, q0S]
    refine tkS 13 rfl ?_
    try simp only [q0P, q0Q, q0R, q0S]
    refine tkS 14 rfl ?_
    try simp only [q0P, q0Q, q0R, q0S]
    refine tkS 15 rfl ?_
    try simp only [q0P, q0Q, q0R, q0S]
    refine tkS 16 rfl ?_
    try simp only [q0P, q0Q, q0R, q0S]
    refine tkS 17 rfl ?_
    try simp only [q0P, q0Q, q0R, q0S]
    refine tkS 18 rfl ?_
    try simp only [q0P, q0Q, q0R, q0S]
    refine tkS 19 rfl ?_
    try simp only [q0P, q0Q, q0R, q0S]
    refine tkS 20 rfl ?_
    try simp only [q0P, q0Q, q0R, q0S]
    refine tkS 21 rfl ?_
    try simp only [q0P, q0Q, q0R, q0S]
    refine tkS 22 rfl ?_
    try simp only [q0P, q0Q, q0R, q0S]
    refine tkH 23 (v := ?_) rfl ?_ ?_
    rotate_left
    ·(intro wq hSq; (try dsimp only at hSq); go_simp; try with_reducible rfl)
    try simp only [q0P, q0Q, q0R, q0S]
    refine tkH 24 (v := ?_) rfl ?_ ?_
    rotate_left
    ·(intro wq hSq; (try dsimp only at hSq); go_simp; try with_reducible rfl)
    try simp only [q0P, q0Q, q0R, q0S]
    refine wpAnyH_end (by kernel_rfl) ?_
    go_wp2_with fail
    go_roundw
    case rel => exact ⟨k + 1, by omega, by go_num, by rw [HBT.out]; unfold stepF; rw [if_pos ⟨hs1, ht8, fun x hx => by cases hx⟩]; rfl, HL2.out.below (Below.refl _ _).drew, HX2.out.below (Below.refl _ _).drew⟩
    case measure => simp [intOf]; omega
   | some y =>
    obtain ⟨m, pr⟩ := y
    obtain ⟨jm, hjm, rfl, -, -⟩ := hbo.get m pr rfl
    obtain ⟨hjm2, hmk⟩ := HPRE.out m jm hjm
    rw [show bestI (some (m, jm.prio)) = (m : Int) from rfl]
    have hm0 : ¬ (m : Int) < 0 := by omega
    have hmn : m < n := by omega
    have dm : W2.cell? ⟨g, m * 9 + 3, none⟩ = some (.int .i64 jm.prio) := (job_cell HL2.out.qd.ja hjm2 (by omega : 3 < 9) rfl).1
    clear hjm hjm2 hbo
    refine wp_region_heldL (fun w' => w'.cell? ⟨bk, 3, none⟩ = some (.int .i64 j.prio) ∧ w'.cell? ⟨bk, 4, none⟩ = some (.int .i64 j.state) ∧ w'.cell? ⟨bk, 5, none⟩ = some (.int .i64 j.tries) ∧ w'.cell? ⟨P.p, 1, none⟩ = some (.slice (some ⟨g, 0, none⟩) n vc) ∧ w'.cell? ⟨g, m * 9 + 3, none⟩ = some (.int .i64 jm.prio)) (by kernel_rfl) ⟨d3, d4, d5, y1, dm⟩ (fun hHeld => ?_)
    clear d3 d4 d5 y1 dm
    by_cases hpr : jm.prio < j.prio
    ·have e3 : (jm.prio : Int) < (j.prio : Int) := by omega
     refine tkH 0 (v := ?_) rfl ?_ ?_
     rotate_left
     ·(intro wq hSq; (try dsimp only at hSq); go_simp; try with_reducible rfl)
     try simp only [q0P, q0Q, q0R, q0S]
     refine tkH 1 (v := ?_) rfl ?_ ?_
     rotate_left
     ·(intro wq hSq; (try dsimp only at hSq); go_simp; try with_reducible rfl)
     try simp only [q0P, q0Q, q0R, q0S]
     refine tkH 2 (v := ?_) rfl ?_ ?_
     rotate_left
     ·(intro wq hSq; (try dsimp only at hSq); go_simp; try with_reducible rfl)
     try simp only [q0P, q0Q, q0R, q0S]
     refine tkH 3 (v := ?_) rfl ?_ ?_
     rotate_left
     ·(intro wq hSq; (try dsimp only at hSq); go_simp; try with_reducible rfl)
     try simp only [q0P, q0Q, q0R, q0S]
     refine tkH 4 (v := ?_) rfl ?_ ?_
     rotate_left
     ·(intro wq hSq; (try dsimp only at hSq); go_simp; try with_reducible rfl)
     try simp only [q0P, q0Q, q0R, q0S]
     refine tkH 5 (v := ?_) rfl ?_ ?_
     rotate_left
     ·(intro wq hSq; (try dsimp only at hSq); go_simp; try with_reducible rfl)
     try simp only [q0P, q0Q, q0R, q0S]
     refine tkH 6 (v := ?_) rfl ?_ ?_
     rotate_left
     ·(intro wq hSq; (try dsimp only at hSq); go_simp; try with_reducible rfl)
     try simp only [q0P, q0Q, q0R, q0S]
     refine tkH 7 (v := ?_) rfl ?_ ?_
     rotate_left
     ·(intro wq hSq; (try dsimp only at hSq); go_simp; try with_reducible rfl)
     try simp only [q0P, q0Q, q0R, q0S]
     refine tkH 8 (v := ?_) rfl ?_ ?_
     rotate_left
     ·(intro wq hSq; (try dsimp only at hSq); go_simp; try with_reducible rfl)
     try simp only [q0P, q0Q, q0R, q0S]
     refine tkH 9 (v := ?_) rfl ?_ ?_
     rotate_left
     ·(intro wq hSq; (try dsimp only at hSq); go_simp; try with_reducible rfl)
     try simp only [q0P, q0Q, q0R, q0S]
     refine tkH 10 (v := ?_) rfl ?_ ?_
     rotate_left
     ·(intro wq hSq; (try dsimp only at hSq); go_simp; try with_reducible rfl)
     try simp only [q0P, q0Q, q0R, q0S]
     refine tkH 11 (v := ?_) rfl ?_ ?_
     rotate_left
     ·(intro wq hSq; (try dsimp only at hSq); go_simp; try with_reducible rfl)
     try simp only [q0P, q0Q, q0R, q0S]
     refine tkH 12 (v := ?_) rfl ?_ ?_
     rotate_left
     ·(intro wq hSq; (try dsimp only at hSq); go_simp; try with_reducible rfl)
     try simp only [q0P, q0Q, q0R, q0S]
     refine tkH 13 (v := ?_) rfl ?_ ?_
     rotate_left
     ·(intro wq hSq; (try dsimp only at hSq); go_simp; try with_reducible rfl)
     try simp only [q0P, q0Q, q0R, q0S]
     refine tkH 14 (v := ?_) rfl ?_ ?_
     rotate_left
     ·(intro wq hSq; (try dsimp only at hSq); go_simp; try with_reducible rfl)
     try simp only [q0P, q0Q, q0R, q0S]
     refine tkH 15 (v := ?_) rfl ?_ ?_
     rotate_left
     ·(intro wq hSq; (try dsimp only at hSq); go_simp; try with_reducible rfl)
     try simp only [q0P, q0Q, q0R, q0S]
     refine tkH 16 (v := ?_) rfl ?_ ?_
     rotate_left
     ·(intro wq hSq; (try dsimp only at hSq); go_simp; try with_reducible rfl)
     try simp only [q0P, q0Q, q0R, q0S]
     refine tkH 17 (v := ?_) rfl ?_ ?_
     rotate_left
     ·(intro wq hSq; (try dsimp only at hSq); go_simp; try with_reducible rfl)
     try simp only [q0P, q0Q, q0R, q0S]
     refine tkH 18 (v := ?_) rfl ?_ ?_
     rotate_left
     ·(intro wq hSq; (try dsimp only at hSq); go_simp; try with_reducible rfl)
     try simp only [q0P, q0Q, q0R, q0S]
     refine tkH 19 (v := ?_) rfl ?_ ?_
     rotate_left
     ·(intro wq hSq; (try dsimp only at hSq); go_simp; try with_reducible rfl)
     try simp only [q0P, q0Q, q0R, q0S]
     refine tkH 20 (v := ?_) rfl ?_ ?_
     rotate_left
     ·(intro wq hSq; (try dsimp only at hSq); go_simp; try with_reducible rfl)
     try simp only [q0P, q0Q, q0R, q0S]
     refine tkH 21 (v := ?_) rfl ?_ ?_
     rotate_left
     ·(intro wq hSq; (try dsimp only at hSq); go_simp; try with_reducible rfl)
     try simp only [q0P, q0Q, q0R, q0S]
     refine tkH 22 (v := ?_) rfl ?_ ?_
     rotate_left
     ·(intro wq hSq; (try dsimp only at hSq); go_simp; try with_reducible rfl)
     try simp only [q0P, q0Q, q0R, q0S]
     refine tkH 23 (v := ?_) rfl ?_ ?_
     rotate_left
     ·(intro wq hSq; (try dsimp only at hSq); go_simp; try with_reducible rfl)
     try simp only [q0P, q0Q, q0R, q0S]
     refine tkH 24 (v := ?_) rfl ?_ ?_
     rotate_left
     ·(intro wq hSq; (try dsimp only at hSq); go_simp; try with_reducible rfl)
     try simp only [q0P, q0Q, q0R, q0S]
     refine wpAnyH_end (by kernel_rfl) ?_
     go_wp2_with fail
     go_roundw
     case rel => exact ⟨k + 1, by omega, by go_num, by rw [HBT.out]; unfold stepF; rw [if_pos ⟨hs1, ht8, fun x hx => by injection hx with hx; subst hx; exact hpr⟩]; rfl, HL2.out.below (Below.refl _ _).drew, HX2.out.below (Below.refl _ _).drew⟩
     case measure => simp [intOf]; omega
    ·have e3 : ¬ (jm.prio : Int) < (j.prio : Int) := by omega
     refine tkH 0 (v := ?_) rfl ?_ ?_
     rotate_left
     ·(intro wq hSq; (try dsimp only at hSq); go_simp; try with_reducible rfl)
     try simp only [q0P, q0Q, q0R, q0S]
     refine tkH 1 (v := ?_) rfl ?_ ?_
     rotate_left
     ·(intro wq hSq; (try dsimp only at hSq); go_simp; try with_reducible rfl)
     try simp only [q0P, q0Q, q0R, q0S]
     refine tkH 2 (v := ?_) rfl ?_ ?_
     rotate_left
     ·(intro wq hSq; (try dsimp only at hSq); go_simp; try with_reducible rfl)
     try simp only [q0P, q0Q, q0R, q0S]
     refine tkH 3 (v := ?_) rfl ?_ ?_
     rotate_left
     ·(intro wq hSq; (try dsimp only at hSq); go_simp; try with_reducible rfl)
     try simp only [q0P, q0Q, q0R, q0S]
     refine tkH 4 (v := ?_) rfl ?_ ?_
     rotate_left
     ·(intro wq hSq; (try dsimp only at hSq); go_simp; try with_reducible rfl)
     try simp only [q0P, q0Q, q0R, q0S]
     refine tkH 5 (v := ?_) rfl ?_ ?_
     rotate_left
     ·(intro wq hSq; (try dsimp only at hSq); go_simp; try with_reducible rfl)
     try simp only [q0P, q0Q, q0R, q0S]
     refine tkH 6 (v := ?_) rfl ?_ ?_
     rotate_left
     ·(intro wq hSq; (try dsimp only at hSq); go_simp; try with_reducible rfl)
     try simp only [q0P, q0Q, q0R, q0S]
     refine tkH 7 (v := ?_) rfl ?_ ?_
     rotate_left
     ·(intro wq hSq; (try dsimp only at hSq); go_simp; try with_reducible rfl)
     try simp only [q0P, q0Q, q0R, q0S]
     refine tkH 8 (v := ?_) rfl ?_ ?_
     rotate_left
     ·(intro wq hSq; (try dsimp only at hSq); go_simp; try with_reducible rfl)
     try simp only [q0P, q0Q, q0R, q0S]
     refine tkH 9 (v := ?_) rfl ?_ ?_
     rotate_left
     ·(intro wq hSq; (try dsimp only at hSq); go_simp; try with_reducible rfl)
     try simp only [q0P, q0Q, q0R, q0S]
     refine tkH 10 (v := ?_) rfl ?_ ?_
     rotate_left
     ·(intro wq hSq; (try dsimp only at hSq); go_simp; try with_reducible rfl)
     try simp only [q0P, q0Q, q0R, q0S]
     refine tkH 11 (v := ?_) rfl ?_ ?_
     rotate_left
     ·(intro wq hSq; (try dsimp only at hSq); go_simp; try with_reducible rfl)
     try simp only [q0P, q0Q, q0R, q0S]
     refine tkH 12 (v := ?_) rfl ?_ ?_
     rotate_left
     ·(intro wq hSq; (try dsimp only at hSq); go_simp; try with_reducible rfl)
     try simp only [q0P, q0Q, q0R, q0S]
     refine tkH 13 (v := ?_) rfl ?_ ?_
     rotate_left
     ·(intro wq hSq; (try dsimp only at hSq); go_simp; try with_reducible rfl)
     try simp only [q0P, q0Q, q0R, q0S]
     refine tkH 14 (v := ?_) rfl ?_ ?_
     rotate_left
     ·(intro wq hSq; (try dsimp only at hSq); go_simp; try with_reducible rfl)
     try simp only [q0P, q0Q, q0R, q0S]
     refine tkH 15 (v := ?_) rfl ?_ ?_
     rotate_left
     ·(intro wq hSq; (try dsimp only at hSq); go_simp; try with_reducible rfl)
     try simp only [q0P, q0Q, q0R, q0S]
     refine tkH 16 (v := ?_) rfl ?_ ?_
     rotate_left
     ·(intro wq hSq; (try dsimp only at hSq); go_simp; try with_reducible rfl)
     try simp only [q0P, q0Q, q0R, q0S]
     refine tkH 17 (v := ?_) rfl ?_ ?_
     rotate_left
     ·(intro wq hSq; (try dsimp only at hSq); go_simp; try with_reducible rfl)
     try simp only [q0P, q0Q, q0R, q0S]
     refine tkH 18 (v := ?_) rfl ?_ ?_
     rotate_left
     ·(intro wq hSq; (try dsimp only at hSq); go_simp; try with_reducible rfl)
     try simp only [q0P, q0Q, q0R, q0S]
     refine tkH 19 (v := ?_) rfl ?_ ?_
     rotate_left
     ·(intro wq hSq; (try dsimp only at hSq); go_simp; try with_reducible rfl)
     try simp only [q0P, q0Q, q0R, q0S]
     refine tkH 20 (v := ?_) rfl ?_ ?_
     rotate_left
     ·(intro wq hSq; (try dsimp only at hSq); go_simp; try with_reducible rfl)
     try simp only [q0P, q0Q, q0R, q0S]
     refine tkH 21 (v := ?_) rfl ?_ ?_
     rotate_left
     ·(intro wq hSq; (try dsimp only at hSq); go_simp; try with_reducible rfl)
     try simp only [q0P, q0Q, q0R, q0S]
     refine tkH 22 (v := ?_) rfl ?_ ?_
     rotate_left
     ·(intro wq hSq; (try dsimp only at hSq); go_simp; try with_reducible rfl)
     try simp only [q0P, q0Q, q0R, q0S]
     refine tkH 23 (v := ?_) rfl ?_ ?_
     rotate_left
     ·(intro wq hSq; (try dsimp only at hSq); go_simp; try with_reducible rfl)
     try simp only [q0P, q0Q, q0R, q0S]
     refine tkH 24 (v := ?_) rfl ?_ ?_
     rotate_left
     ·(intro wq hSq; (try dsimp only at hSq); go_simp; try with_reducible rfl)
     try simp only [q0P, q0Q, q0R, q0S]
     refine wpAnyH_end (by kernel_rfl) ?_
     go_wp2_with fail
     go_roundw
     case rel => exact ⟨k + 1, by omega, by go_num, by rw [HBT.out]; unfold stepF; rw [if_neg (by rintro ⟨-, -, q⟩; exact hpr (q _ rfl))]; rfl, HL2.out.below (Below.refl _ _).drew, HX2.out.below (Below.refl _ _).drew⟩
     case measure => simp [intOf]; omega
  ·obtain rfl : k = n := by omega
   have hA : x.q.jobs.take k = x.q.jobs := by rw [HN.out, List.take_length]
   rw [hA]
   obtain ⟨B, hB⟩ : ∃ B, B = bestF x.q.jobs 0 none := ⟨_, rfl⟩
   have hR2 := HR.out
   rw [← hB] at hR2 ⊢
   have hbo : BestOk x.q.jobs B := by rw [hB]; exact best_ok x.q.jobs
   clear hA hB HR
   cases B with
   | none =>
    dsimp only at hR2
    have HR := Lib.hid hR2
    clear hR2 hbo
    rw [show bestI none = -1 from rfl]
    obtain ⟨d0, d1, d2, d3, d4, d5, d6, d7, d8⟩ := hX.out.all
    obtain ⟨f0, f1, f2, f3, f4, f5, f6, f7, f8⟩ := hX.out.free
    go_wp2_with fail
    have hbx : BoxAt (((((((((wr.setCell ⟨b, 0, none⟩ (.int .i64 0)).setCell ⟨b, 1, none⟩ (.string { data := #[] })).setCell ⟨b, 2, none⟩ (.string { data := #[] })).setCell ⟨b, 3, none⟩ (.int .i64 0)).setCell ⟨b, 4, none⟩ (.int .i64 0)).setCell ⟨b, 5, none⟩ (.int .i64 0)).setCell ⟨b, 6, none⟩ (.string { data := #[] })).setCell ⟨b, 7, none⟩ (.string { data := #[] })).setCell ⟨b, 8, none⟩ (.string { data := #[] })) b Jb.none_ := nine_heap hX.out rfl _ _ _ _ _ _ _ _ _
    have hll := hL.out.nine (.int .i64 0) (.string { data := #[] }) (.string { data := #[] }) (.int .i64 0) (.int .i64 0) (.int .i64 0) (.string { data := #[] }) (.string { data := #[] }) (.string { data := #[] })
    generalize (((((((((wr.setCell ⟨b, 0, none⟩ (.int .i64 0)).setCell ⟨b, 1, none⟩ (.string { data := #[] })).setCell ⟨b, 2, none⟩ (.string { data := #[] })).setCell ⟨b, 3, none⟩ (.int .i64 0)).setCell ⟨b, 4, none⟩ (.int .i64 0)).setCell ⟨b, 5, none⟩ (.int .i64 0)).setCell ⟨b, 6, none⟩ (.string { data := #[] })).setCell ⟨b, 7, none⟩ (.string { data := #[] })).setCell ⟨b, 8, none⟩ (.string { data := #[] })) = w9 at hbx hll ⊢
    clear d0 d1 d2 d3 d4 d5 d6 d7 d8 f0 f1 f2 f3 f4 f5 f6 f7 f8
    obtain ⟨d0, d1, d2, d3, d4, d5, d6, d7, d8⟩ := hbx.all
    rw [HR.out]
    exact bodyPost_ret (v := .tuple #[Jb.none_.val, .bool false, .int .i64 0]) (by simp [results, Tryz.results14, go_sem, d0, d1, d2, d3, d4, d5, d6, d7, d8]; rfl) rfl ⟨rfl, _, hll.qd, hll.st⟩
   | some y =>
    obtain ⟨m, pr⟩ := y
    obtain ⟨j, hj, -, hs1, ht8⟩ := hbo.get m pr rfl
    dsimp only at hR2
    rw [hj] at hR2
    dsimp only at hR2
    rw [show bestI (some (m, pr)) = (m : Int) from rfl]
    have HS2 := Lib.hid hs1
    have hjo := HFI.out.ok.job j (List.mem_of_getElem? hj)
    have hjf := HFI.out.job j (List.mem_of_getElem? hj)
    have hlast := HFI.out.ok.last
    have HRC := Lib.hid (record_any 2 j.id (by omega) (by have := hjo.id1; omega))
    have htl : (recB 2 j.id).length ≤ 100000000 := by rw [recB_length]; omega
    obtain ⟨T, hT⟩ : ∃ T, T = recB 2 j.id := ⟨_, rfl⟩
    rw [← hT] at hR2 htl HRC
    have hq1 := note_q x T
    obtain ⟨g, cap', hge, -, hmk, -⟩ := hL.out.qd.job hj
    injection hge with ha hnn hcc
    clear hnn hcc
    subst ha
    have HN2 := Lib.hid (fun W (hW : QD P (.slice (some ⟨g, 0, none⟩) x.q.jobs.length vc) x W) => note_any P _ x T htl W hW)
    obtain ⟨N, hN⟩ : ∃ N, N = x.note T := ⟨_, rfl⟩
    rw [← hN] at hR2 HN2 hq1
    obtain ⟨n1, n2⟩ := N
    dsimp only at hR2 HN2 hq1
    have HJ := Lib.hid hj
    have HE := Lib.hid hq1
    have HJO := Lib.hid hjo
    have HJF := Lib.hid hjf
    unfold strV at HRC HN2
    have hm0 : ¬ (m : Int) < 0 := by omega
    obtain ⟨-, y1, -⟩ := hL.out.qd.qa.cells
    have c0 : wr.cell? ⟨g, m * 9, none⟩ = some (.int .i64 j.id) := (job_cell hL.out.qd.ja hj (by omega : 0 < 9) rfl).1
    clear hT hN hq1 hjo hjf hj hbo htl hs1
    by_cases h0 : n1 = 0
    ·rw [if_pos h0] at hR2
     subst h0
     have HR := Lib.hid hR2
     clear hR2
     go_wp2_with fail
     refine (show Calls Tryz.prog 56 #[.int .u8 2, .int .i64 (j.id : Int)] wr _ from HRC.out wr).mono ?_
     rintro e w2 ⟨rfl, hb2⟩
     have HL2 := Lib.hid (hL.out.below hb2)
     have HX2 := Lib.hid (hX.out.below hb2)
     clear hb2 c0 y1
     go_wp2_with fail
     refine (HN2.out w2 HL2.out.qd).mono ?_
     rintro e w3 ⟨rfl, hq3, hk3⟩
     have hx3 : BoxAt w3 b Jb.none_ := (hk3.block _ (lt_of_heap HX2.out) HL2.out.nb).trans HX2.out
     have hst3 := HL2.out.st.trans (Stp.of_kp hk3)
     have hjq : n2.q.jobs[m]? = some j := by rw [HE.out]; exact HJ.out
     have hll : x.q.jobs.length = n2.q.jobs.length := by rw [HE.out]
     rw [hll] at hq3 hst3
     obtain ⟨c5, f5⟩ := job_cell hq3.ja hjq (by omega : 5 < 9) rfl
     obtain ⟨s1, s2⟩ := hq3.set hjq (by omega : 5 < 9) (.int .i64 ((j.tries : Int) + 1)) (j' := { j with tries := j.tries + 1 }) (by rfl) rfl rfl rfl
      (by rw [HE.out]; exact ⟨HJO.out.id0, HJO.out.id1, HJO.out.prio, HJO.out.cl, HJO.out.tk, by show j.tries + 1 ≤ 8; omega, HJO.out.s1, HJO.out.s5, HJO.out.wk, HJO.out.pt, HJO.out.rs⟩)
      ⟨fun _ => Nat.succ_pos _, fun _ => Nat.succ_pos _, HJF.out.rs0⟩
     have hj2 : (n2.q.put m { j with tries := j.tries + 1 }).jobs[m]? = some { j with tries := j.tries + 1 } := put_get hjq
     obtain ⟨c4, f4⟩ := job_cell s1.ja hj2 (by omega : 4 < 9) rfl
     obtain ⟨t1, t2⟩ := QD.set (x := { n2 with q := n2.q.put m { j with tries := j.tries + 1 } }) s1 hj2 (by omega : 4 < 9) (.int .i64 2) (j' := { j with tries := j.tries + 1, state := 2 }) rfl rfl rfl rfl
      (by show Jb.ok _ n2.q.last; rw [HE.out]; exact ⟨HJO.out.id0, HJO.out.id1, HJO.out.prio, HJO.out.cl, HJO.out.tk, by show j.tries + 1 ≤ 8; omega, by show 1 ≤ 2; omega, by show 2 ≤ 5; omega, HJO.out.wk, HJO.out.pt, HJO.out.rs⟩)
      ⟨fun _ => Nat.succ_pos _, fun _ => Nat.succ_pos _, fun _ => HJF.out.rs0 (by have h := HS2.out; show endedB j.state = false; rw [h]; rfl)⟩
     rw [length_put] at t2
     have hj3 : ((n2.q.put m { j with tries := j.tries + 1 }).put m { j with tries := j.tries + 1, state := 2 }).jobs[m]? = some { j with tries := j.tries + 1, state := 2 } := put_get hj2
     obtain ⟨g', cap', hge, -, e0, e1, e2, e3, e4, e5, e6, e7, e8⟩ := JobsAt.cells t1.ja m _ hj3
     injection hge with hge _ _
     injection hge with hge
     injection hge with hge
     subst hge
     unfold strV at e1 e2 e6 e7 e8
     have hbg : ¬ g = b := fun e => HL2.out.nb (.inr (.inr (.inr (.inr (by show some g = some b; rw [e])))))
     have hx5 : BoxAt ((w3.setCell ⟨g, m * 9 + 5, none⟩ (.int .i64 ((j.tries : Int) + 1))).setCell ⟨g, m * 9 + 4, none⟩ (.int .i64 2)) b Jb.none_ := by
      unfold BoxAt
      rw [Below.heap_setCell _ _ _ _ (fun q => hbg q.symm), Below.heap_setCell _ _ _ _ (fun q => hbg q.symm)]; exact hx3
     obtain ⟨d0, d1, d2, d3, d4, d5, d6, d7, d8⟩ := hx5.all
     obtain ⟨f0, f1, f2, f3, f4', f5', f6, f7, f8⟩ := hx5.free
     have hl5 : Left P (.slice (some ⟨g, 0, none⟩) n2.q.jobs.length vc) { n2 with q := x.q.put m { j with tries := j.tries + 1, state := 2 } } w b ((w3.setCell ⟨g, m * 9 + 5, none⟩ (.int .i64 ((j.tries : Int) + 1))).setCell ⟨g, m * 9 + 4, none⟩ (.int .i64 2)) :=
      ⟨by
       have t := t1
       rw [put_put, length_put, HE.out] at t
       rw [HE.out]
       exact t, (hst3.trans (Stp.of_kp s2)).trans (Stp.of_kp t2), by rw [← hll]; exact HL2.out.nb, HL2.out.wb⟩
     have HL5 := Lib.hid hl5
     have HX5 := Lib.hid hx5
     have HLL := Lib.hid hll
     obtain ⟨W5, hW5⟩ : ∃ W, W = (w3.setCell ⟨g, m * 9 + 5, none⟩ (.int .i64 ((j.tries : Int) + 1))).setCell ⟨g, m * 9 + 4, none⟩ (.int .i64 2) := ⟨_, rfl⟩
     rw [← hW5] at HL5 HX5 e0 e1 e2 e3 e4 e5 e6 e7 e8 d0 d1 d2 d3 d4 d5 d6 d7 d8 f0 f1 f2 f3 f4' f5' f6 f7 f8
     have HW5 := Lib.hid hW5
     clear hq3 hk3 hst3 s1 s2 t1 t2 hj2 hj3 hjq hx3 hx5 hl5 hll hW5 hbg
     go_upto_region 19 with (fail)
     rw [← HW5.out]
     clear HW5 c4 c5 f4 f5
     go_wp2_with fail
     have hbx : BoxAt (((((((((W5.setCell ⟨b, 0, none⟩ (.int .i64 j.id)).setCell ⟨b, 1, none⟩ (.string (bytesOf j.client))).setCell ⟨b, 2, none⟩ (.string (bytesOf j.token))).setCell ⟨b, 3, none⟩ (.int .i64 j.prio)).setCell ⟨b, 4, none⟩ (.int .i64 2)).setCell ⟨b, 5, none⟩ (.int .i64 ((j.tries : Int) + 1))).setCell ⟨b, 6, none⟩ (.string (bytesOf j.work))).setCell ⟨b, 7, none⟩ (.string (bytesOf j.point))).setCell ⟨b, 8, none⟩ (.string (bytesOf j.result))) b { j with tries := j.tries + 1, state := 2 } := nine_heap HX5.out rfl _ _ _ _ _ _ _ _ _
     have hll := HL5.out.nine (.int .i64 j.id) (.string (bytesOf j.client)) (.string (bytesOf j.token)) (.int .i64 j.prio) (.int .i64 2) (.int .i64 ((j.tries : Int) + 1)) (.string (bytesOf j.work)) (.string (bytesOf j.point)) (.string (bytesOf j.result))
     generalize (((((((((W5.setCell ⟨b, 0, none⟩ (.int .i64 j.id)).setCell ⟨b, 1, none⟩ (.string (bytesOf j.client))).setCell ⟨b, 2, none⟩ (.string (bytesOf j.token))).setCell ⟨b, 3, none⟩ (.int .i64 j.prio)).setCell ⟨b, 4, none⟩ (.int .i64 2)).setCell ⟨b, 5, none⟩ (.int .i64 ((j.tries : Int) + 1))).setCell ⟨b, 6, none⟩ (.string (bytesOf j.work))).setCell ⟨b, 7, none⟩ (.string (bytesOf j.point))).setCell ⟨b, 8, none⟩ (.string (bytesOf j.result))) = w9 at hbx hll ⊢
     clear d0 d1 d2 d3 d4 d5 d6 d7 d8 f0 f1 f2 f3 f4' f5' f6 f7 f8 e0 e1 e2 e3 e4 e5 e6 e7 e8
     obtain ⟨d0, d1, d2, d3, d4, d5, d6, d7, d8⟩ := hbx.all
     rw [HR.out, HLL.out]
     exact bodyPost_ret (v := .tuple #[Jb.val { j with tries := j.tries + 1, state := 2 }, .bool true, .int .i64 0]) (by simp [results, Tryz.results14, go_sem, d0, d1, d2, d3, d4, d5, d6, d7, d8]; rfl) rfl ⟨rfl, _, hll.qd, hll.st⟩
    ·rw [if_neg h0] at hR2
     have HR := Lib.hid hR2
     have h0' : (n1 == 0) = false := by rw [beq_eq_false_iff_ne]; exact h0
     clear hR2 h0
     go_wp2_with fail
     refine (show Calls Tryz.prog 56 #[.int .u8 2, .int .i64 (j.id : Int)] wr _ from HRC.out wr).mono ?_
     rintro e w2 ⟨rfl, hb2⟩
     have HL2 := Lib.hid (hL.out.below hb2)
     have HX2 := Lib.hid (hX.out.below hb2)
     clear hb2 c0 y1
     go_wp2_with fail
     refine (HN2.out w2 HL2.out.qd).mono ?_
     rintro e w3 ⟨rfl, hq3, hk3⟩
     have hx3 : BoxAt w3 b Jb.none_ := (hk3.block _ (lt_of_heap HX2.out) HL2.out.nb).trans HX2.out
     have hst3 := HL2.out.st.trans (Stp.of_kp hk3)
     have HX3 := Lib.hid hx3
     have HL3 : Hid (Left P (.slice (some ⟨g, 0, none⟩) x.q.jobs.length vc) n2 w b w3) := ⟨hq3, hst3, HL2.out.nb, HL2.out.wb⟩
     obtain ⟨d0, d1, d2, d3, d4, d5, d6, d7, d8⟩ := hx3.all
     obtain ⟨f0, f1, f2, f3, f4, f5, f6, f7, f8⟩ := hx3.free
     clear hq3 hk3 hst3 hx3
     go_wp2_with fail
     have hbx : BoxAt (((((((((w3.setCell ⟨b, 0, none⟩ (.int .i64 0)).setCell ⟨b, 1, none⟩ (.string { data := #[] })).setCell ⟨b, 2, none⟩ (.string { data := #[] })).setCell ⟨b, 3, none⟩ (.int .i64 0)).setCell ⟨b, 4, none⟩ (.int .i64 0)).setCell ⟨b, 5, none⟩ (.int .i64 0)).setCell ⟨b, 6, none⟩ (.string { data := #[] })).setCell ⟨b, 7, none⟩ (.string { data := #[] })).setCell ⟨b, 8, none⟩ (.string { data := #[] })) b Jb.none_ := nine_heap HX3.out rfl _ _ _ _ _ _ _ _ _
     have hll := HL3.out.nine (.int .i64 0) (.string { data := #[] }) (.string { data := #[] }) (.int .i64 0) (.int .i64 0) (.int .i64 0) (.string { data := #[] }) (.string { data := #[] }) (.string { data := #[] })
     generalize (((((((((w3.setCell ⟨b, 0, none⟩ (.int .i64 0)).setCell ⟨b, 1, none⟩ (.string { data := #[] })).setCell ⟨b, 2, none⟩ (.string { data := #[] })).setCell ⟨b, 3, none⟩ (.int .i64 0)).setCell ⟨b, 4, none⟩ (.int .i64 0)).setCell ⟨b, 5, none⟩ (.int .i64 0)).setCell ⟨b, 6, none⟩ (.string { data := #[] })).setCell ⟨b, 7, none⟩ (.string { data := #[] })).setCell ⟨b, 8, none⟩ (.string { data := #[] })) = w9 at hbx hll ⊢
     clear d0 d1 d2 d3 d4 d5 d6 d7 d8 f0 f1 f2 f3 f4 f5 f6 f7 f8
     obtain ⟨d0, d1, d2, d3, d4, d5, d6, d7, d8⟩ := hbx.all
     rw [HR.out]
     exact bodyPost_ret (v := .tuple #[Jb.none_.val, .bool false, .int .i64 n1]) (by simp [results, Tryz.results14, go_sem, d0, d1, d2, d3, d4, d5, d6, d7, d8]; rfl) rfl ⟨rfl, _, hll.qd, hll.st⟩
end
/- Walks: a queue of jobs: a journal is read: what is deferred. -/
section
open Go.RowKit Go.Shelf
theorem catch_wrong (b : Nat) (x : Int) (w : World) (hc : w.cell? ⟨b, 0, none⟩ = some (.int .i64 x)) (hz : w.frozen? ⟨b, 0, none⟩ = false) :
  CallsD Tryz.prog 97 #[.pointer (some ⟨b, 0, none⟩)] (.panicking wrongs) w fun e u' w' =>
   e = .returned (.tuple #[]) ∧ u' = .panicking [{ v := .iface 119 (.agg #[]), recovered := true }] ∧ w' = (w.alloc (.cells #[] 119)).setCell ⟨b, 0, none⟩ (.int .i64 6) := by
 have hcl := World.block_lt_of_cell? w ⟨b, 0, none⟩ hc
 have hc2 : (w.alloc (.cells #[] 119)).cell? ⟨b, 0, none⟩ = some (.int .i64 x) := (World.cell?_alloc_lt w _ ⟨b, 0, none⟩ hcl).trans hc
 have hz2 : (w.alloc (.cells #[] 119)).frozen? ⟨b, 0, none⟩ = false := by
  have h0 : (w.alloc (.cells #[] 119)).heap[b]? = w.heap[b]? := Below.heap_alloc w _ b hcl
  unfold World.frozen? at hz ⊢
  rw [h0]; exact hz
 have hta : ∀ W : World, (Instr.typeAssert (.iface 119 (.agg #[])) 20 119 true).run Tryz.prog W = .ok (.tuple #[.agg #[], .bool true]) W := fun W => by kernel_rfl
 refine callsD_of_wpS Tryz.func97 rfl fun c₀ cs hu => ?_
 apply wpS_seq
 apply wpS_region
 simp [wpOpsS, go_sem, recoverD, hu, wrongs, Tryz.ntmps97, Exit.thenS]
 refine wpS_of_wp ?_
 show Code.wp _ _ _ { tmps := #[.pointer (some ⟨b, 0, none⟩), (.iface 119 (.agg #[])), undef, undef, (.iface 119 (.agg #[])), undef, undef, undef, undef, undef, undef, undef, undef, undef, undef], defers := [] } w
 go_wp2_with fail
 simp [bodyPostS, results, Tryz.results97]
theorem catch_idle (b : Nat) (w : World) :
  CallsD Tryz.prog 97 #[.pointer (some ⟨b, 0, none⟩)] .returning w fun e u' w' => e = .returned (.tuple #[]) ∧ u' = .returning ∧ w' = w := by
 refine callsD_of_wpS Tryz.func97 rfl fun c₀ cs hu => ?_
 apply wpS_seq
 apply wpS_region
 simp [wpOpsS, go_sem, recoverD, hu, Tryz.ntmps97, Exit.thenS]
 refine wpS_of_wp ?_
 show Code.wp _ _ _ { tmps := #[.pointer (some ⟨b, 0, none⟩), .nilIface, undef, undef, .nilIface, undef, undef, undef, undef, undef, undef, undef, undef, undef, undef], defers := [] } w
 go_wp2_with fail
 cases c₀
 simp_all [bodyPostS, results, Tryz.results97]
end
/- Walks: a queue of jobs: a journal is read. Printed by gen_jc7.py. -/
section
open Go.RowKit Go.Shelf
/-- The readers by the first byte. -/
def rdF : Nat → Nat
 | 1 => 141
 | 2 => 143
 | 3 => 144
 | 4 => 145
 | 5 => 146
 | _ => 147
/-- The table of readers. -/
def TabAt (w : World) : Prop := ∀ k, 1 ≤ k → k ≤ 6 → w.cell? ⟨0, k, none⟩ = some (.func (.func (rdF k)) #[] #[])
theorem TabAt.lt {w : World} (h : TabAt w) : 0 < w.heap.size := World.block_lt_of_cell? w ⟨0, 1, none⟩ (h 1 (by omega) (by omega))
theorem TabAt.block {w w' : World} (h : TabAt w) (hb : w'.heap[0]? = w.heap[0]?) : TabAt w' := fun k h1 h6 => by
 have := h k h1 h6
 unfold World.cell? at this ⊢
 rw [hb]; exact this
theorem rd_enter (k : Nat) (args : Array Value) (W : World) : (callFunc (rdF k) args).run Tryz.prog W = .ok (.enter (rdF k) args) W := by
 unfold rdF
 split <;> rfl
theorem rdK_any (kind : Nat) (h1 : 1 ≤ kind) (h6 : kind ≤ 6) (B p pr : Nat) (dp : Value) (down : Bool) (q : Qs) (r : List UInt8) (id : Nat) (w : World) (hq : QIn B w p dp q down) (ho : q.ok) (hr : RestAt w pr r) (hB : B ≤ pr) (hrl : r.length ≤ 1000000) (hid : id < 9223372036854775808) :
  Calls Tryz.prog (rdF kind) #[.pointer (some ⟨p, 0, none⟩), .pointer (some ⟨pr, 0, none⟩), .int .i64 (id : Int), .int .i64 (placeI (q.at id))] w fun e w' =>
   match rdK kind q r id with
   | some x => e = .returned (.tuple #[]) ∧ QIn B w' p dp x.1 down ∧ RestAt w' pr x.2 ∧ Kp (PB p B) w w'
   | none => e = .panicked wrongs ∧ Kp (PB p B) w w' := by
 obtain rfl | rfl | rfl | rfl | rfl | rfl : kind = 1 ∨ kind = 2 ∨ kind = 3 ∨ kind = 4 ∨ kind = 5 ∨ kind = 6 := by omega
 ·exact rdr1_any B p pr dp down q r id _ w hq ho hr hB hrl hid
 ·exact rdr2_any B p pr dp down q r id w hq ho hr hB
 ·exact rdr3_any B p pr dp down q r id w hq ho hr hB hrl
 ·exact rdr4_any B p pr dp down q r id w hq ho hr hB hrl
 ·exact rdr5_any B p pr dp down q r id w hq ho hr hB
 ·exact rdr6_any B p pr dp down q r id _ w hq hr hB
theorem box_kp {B p c : Nat} {w w' : World} {v : Value} {T : TypeId} (h : w.heap[c]? = some (.cells #[v] T)) (hk : Kp (PB p B) w w') (hc : c < B) (hn : ¬ c = p) : w'.heap[c]? = some (.cells #[v] T) :=
 (hk.block c (lt_of_heap h) (fun e => by rcases e with e | e; exact hn e; omega)).trans h
theorem one_cell {w : World} {c : Nat} {v : Value} {T : TypeId} (h : w.heap[c]? = some (.cells #[v] T)) : w.cell? ⟨c, 0, none⟩ = some v ∧ w.frozen? ⟨c, 0, none⟩ = false := by
 simp [World.cell?, World.frozen?, h]
end
/- Walks: a queue of jobs: a journal is read. Printed by gen_jc8.py. -/
section
open Go.RowKit Go.Shelf
def readP (p : Nat) (dp : Value) (B : Nat) (R : Option Qs) (e : Ending) (w' : World) : Prop := match R with
 | some q => e = .returned (.int .i64 0) ∧ QIn B w' p dp q false
 | none => e = .returned (.int .i64 6)
theorem QIn.below {B p : Nat} {dp : Value} {q : Qs} {down : Bool} {w w' : World} (h : QIn B w p dp q down) (hb : Below w.heap.size w w') : QIn B w' p dp q down := by
 obtain ⟨⟨v, hqa, hv⟩, hle⟩ := h
 exact ⟨⟨v, (hb.block _ (lt_of_heap hqa)).trans hqa, hv.below hb⟩, hle⟩
theorem qin_rest {B p pr : Nat} {dp : Value} {q : Qs} {down : Bool} {s : List UInt8} {w w' : World} (h : QIn B w p dp q down) (hr : RestAt w pr s) (hk : Kp (fun k => k = pr) w w') : QIn B w' p dp q down := by
 obtain ⟨⟨v, hqa, hv⟩, hle⟩ := h
 exact ⟨⟨v, hqa.kp hk (hqa.rest hr), owns_kp hv hk (hr.ne hv)⟩, hle⟩
theorem leaves_congr {P : Program} {fn : Func} {t t' : Array Value} {R : Ending → World → Prop} (h : ∀ w, (results fn t).run P w = (results fn t').run P w) : ∀ (ds : List Deferred) (u : FrameMode) (w : World), Leaves P fn t R ds u w → Leaves P fn t' R ds u w
 | [], .returning, w, ⟨v, h1, h2⟩ => ⟨v, (h w).symm.trans h1, h2⟩
 | [], .panicking _, _, h1 => h1
 | [], .run, _, h1 => h1
 | d :: ds, u, w, ⟨h1, fv, cap, f, args, h2, h3, h4⟩ => ⟨h1, fv, cap, f, args, h2, h3, h4.mono (fun e u' w' h5 => by
   cases e with
   | returned v => exact leaves_congr h ds _ _ h5
   | panicked ch => exact leaves_congr h ds _ _ h5
   | outgrown => exact h5)⟩
theorem read_put {R : Ending → World → Prop} {c : List PanicEntry} {a : Act} {w : World} {d : Nat} {v : Value} (hd : d ≠ 4) (h : bodyPostD Tryz.prog Tryz.f50 R (.panic c) (a.put (some d) v) w) : bodyPostD Tryz.prog Tryz.f50 R (.panic c) a w := by
 have e4 : (a.tmps.setIfInBounds d v)[4]? = a.tmps[4]? := by
  rw [Array.getElem?_setIfInBounds, if_neg hd]
 refine leaves_congr (t := (a.put (some d) v).tmps) (fun w => ?_) _ _ _ h
 show (results Tryz.f50 (a.tmps.setIfInBounds d v)).run Tryz.prog w = _
 simp [results, Tryz.results50, e4]
theorem kp_less {p c : Nat} {w w' : World} (h : Kp (PB p (c + 1)) w w') : Kp (PB p c) w w' := h.mono (fun k e => by
 rcases e with e | e
 ·exact .inl e
 ·exact .inr (by omega))
theorem kp_end {p c : Nat} {w W1 w' : World} (hc : c = w.heap.size) (hb : Below w.heap.size w W1) (h : Kp (PB p c) W1 w') : Kp (fun k => k = p) w w' := by
 have hs := hb.size
 refine ⟨h.os.trans hb.os, h.tape.trans hb.tape, h.output.trans hb.output, Nat.le_trans hs h.size, fun k hk hn => (h.block k (by omega) (fun e => ?_)).trans (hb.block k hk)⟩
 rcases e with e | e
 ·exact hn e
 ·omega
theorem set_one {w : World} {c : Nat} {v : Value} {T : TypeId} (h : w.heap[c]? = some (.cells #[v] T)) (u : Value) : (w.setCell ⟨c, 0, none⟩ u).heap[c]? = some (.cells #[u] T) := by
 simp [World.setCell, Array.getElem?_modify, h]
theorem qin_box {p c : Nat} {dp u : Value} {q : Qs} {down : Bool} {w : World} (h : QIn (c + 1) w p dp q down) (hc : w.heap[c]? = some (.cells #[u] 27)) (hn : ¬ c = p) (u' : Value) : QIn c (w.setCell ⟨c, 0, none⟩ u') p dp q down := by
 obtain ⟨⟨v, hqa, hv⟩, hle⟩ := h
 exact ⟨⟨v, hqa.other hn _, World.owns.mono (hv.setCell_ne (World.owns.ne hv hc (by decide)) _) (Nat.le_succ c)⟩, hle⟩
theorem catch_end {p c : Nat} {w W1 w' : World} {v : Value} (g : W1.heap[c]? = some (.cells #[v] 27)) (hc : c = w.heap.size) (hb : Below w.heap.size w W1) (h : Kp (PB p (c + 1)) W1 w') (hn : ¬ c = p) :
  Kp (fun k => k = p) w ((w'.alloc (.cells #[] 119)).setCell ⟨c, 0, none⟩ (.int .i64 6)) ∧ ((w'.alloc (.cells #[] 119)).setCell ⟨c, 0, none⟩ (.int .i64 6)).cell? ⟨c, 0, none⟩ = some (.int .i64 6) := by
 have h2 : Kp (PB p (c + 1)) W1 (w'.alloc (.cells #[] 119)) := h.trans (Kp.of_below ((Below.refl _ w').alloc (Nat.le_refl _) _))
 have g2 := box_kp g h2 (Nat.lt_succ_self _) hn
 exact ⟨kp_end hc hb ((kp_less h2).setCell (a := ⟨c, 0, none⟩) (.inr (Nat.le_refl c)) _), (one_cell (set_one g2 _)).1⟩
theorem read_any (p : Nat) (dp : Value) (l : List (List UInt8)) (v : Value) (w : World) (hq : QueueAt w p dp (.slice none 0 0) 0 false) (hr : w.reads p v (l.map strV)) (hl : ∀ s ∈ l, s.length ≤ 1000000) (ht : TabAt w) (hp0 : 0 < p) :
  Calls Tryz.prog 50 #[.pointer (some ⟨p, 0, none⟩), v] w fun e w' => readP p dp w.heap.size (replay l) e w' ∧ Kp (fun k => k = p) w w' := by
 have hmf : ∀ (fn : Fn) (first cap : Array Value) (w : World), (Instr.makeFunc fn first cap).run Tryz.prog w = .ok (.func fn first cap) w := fun _ _ _ _ => rfl
 obtain ⟨R, hR⟩ : ∃ R, R = replay l := ⟨_, rfl⟩
 rw [← hR]
 have HR := Lib.hid hR
 obtain ⟨va, vc, rfl, -, hvc, hvm, hcells⟩ := hr
 have hln : (l.map strV).length = l.length := List.length_map ..
 rw [hln] at hvc
 obtain ⟨n, hn⟩ : ∃ n, n = l.length := ⟨_, rfl⟩
 rw [hln, ← hn]
 have HN := Lib.hid hn
 have HCL := Lib.hid hcells
 have HLL := Lib.hid hl
 have hn63 : n ≤ 9223372036854775807 := by unfold maxLen at hvm; omega
 obtain ⟨c, hc⟩ : ∃ c, c = w.heap.size := ⟨_, rfl⟩
 have hpl := lt_of_heap hq
 obtain ⟨W1, hW1⟩ : ∃ W, W = w.alloc (.cells #[.int .i64 0] 27) := ⟨_, rfl⟩
 have hb1 : Below w.heap.size w W1 := by rw [hW1]; exact (Below.refl _ w).alloc (Nat.le_refl _) _
 have g1 : W1.heap[c]? = some (.cells #[.int .i64 0] 27) := by rw [hW1, hc]; exact alloc_last _ _ rfl
 have HC := Lib.hid g1
 have HQ1 : Hid (QIn (c + 1) W1 p dp ⟨[], 0⟩ false) := ⟨⟨_, (hb1.block _ hpl).trans hq, World.owns_nil _ _ _ _⟩, trivial⟩
 have HT1_ : Hid (TabAt W1) := Lib.hid (ht.block (hb1.block _ ht.lt))
 have HBL := Lib.hid hb1
 have HCE := Lib.hid hc
 have HNE : Hid (¬ c = p) := Lib.hid (by omega)
 have HP0 := Lib.hid hp0
 have HPL := Lib.hid hpl
 have HW1 := Lib.hid hW1
 rw [← hc]
 clear hR hcells hn hl hb1 g1 hW1 hq ht hvm hpl hp0 hc hln
 go_enter_defers Tryz.func50, Tryz.ntmps50
 go_upto_region 1 with (fail)
 rw [← HW1.out, ← HCE.out]
 clear HW1
 go_wp2_with fail
 go_loopw [6, 7, 8, 9, 13] (fun _ _ _ _ ii wr => ∃ (k : Nat) (qk : Qs), k ≤ n ∧ ii = .int .i64 (k : Int) ∧ Hid ((Qs.mk [] 0).all (l.take k) = some qk) ∧ Hid (QIn (c + 1) wr p dp qk false) ∧ Hid (Kp (PB p (c + 1)) W1 wr)) (fun _ _ _ _ ii _ => n - (intOf ii).toNat)
 case atStart => exact ⟨0, _, Nat.zero_le _, rfl, rfl, HQ1.out, Kp.refl _ _⟩
 case round =>
  obtain ⟨k, qk, hk, rfl, hA, hQ, hK⟩ := hrel
  by_cases hlt : k < n
  ·skip
   obtain ⟨s, hs⟩ : ∃ s, l[k]? = some s := ⟨_, List.getElem?_eq_getElem (by rw [← HN.out]; exact hlt)⟩
   obtain ⟨bl, ol, hva, hblp, hcell⟩ := HCL.out k (strV s) (by rw [List.getElem?_map, hs]; rfl)
   subst hva
   have hsl := HLL.out s (List.mem_of_getElem? hs)
   have hdrop : l.drop k = s :: l.drop (k + 1) := by
    obtain ⟨h1, h2⟩ := List.getElem?_eq_some_iff.1 hs
    rw [List.drop_eq_getElem_cons h1, h2]
   have hRK : R = (qk.one s).bind fun q' => q'.all (l.drop (k + 1)) := by
    have h := HR.out
    unfold replay at h
    rw [← List.take_append_drop k l, all_append, hA.out, hdrop] at h
    exact h
   have HRK := Lib.hid hRK
   have HDR := Lib.hid hdrop
   have HS := Lib.hid hs
   have hlist : wr.cell? ⟨bl, ol + k, none⟩ = some (.string (bytesOf s)) := by
    have h1 := hcell
    unfold World.cell? at h1 ⊢
    have hbw : bl < w.heap.size := by have := HPL.out; omega
    rw [hK.out.block bl (by have := HBL.out.size; omega) (fun e => by rcases e with e | e; omega; have := HCE.out; omega), HBL.out.block bl hbw]
    exact h1
   obtain ⟨pr, hpr⟩ : ∃ pr, pr = wr.heap.size := ⟨_, rfl⟩
   obtain ⟨W2, hW2⟩ : ∃ W, W = wr.alloc (.cells #[.string (bytesOf s)] 121) := ⟨_, rfl⟩
   have hb2 : Below wr.heap.size wr W2 := by rw [hW2]; exact (Below.refl _ wr).alloc (Nat.le_refl _) _
   have rs2 : RestAt W2 pr s := by unfold RestAt; rw [hW2, hpr]; exact alloc_last _ _ rfl
   have hprc : c + 1 ≤ pr := by
    have h1 := HBL.out.size
    have h2 := hK.out.size
    have h3 := lt_of_heap (box_kp HC.out hK.out (Nat.lt_succ_self _) HNE.out)
    omega
   have HQ2 := Lib.hid (hQ.out.below hb2)
   have HK2 := Lib.hid (hK.out.trans (Kp.of_below hb2))
   have HRS := Lib.hid rs2
   have HQF := Lib.hid (all_fine _ Qs.fine.nil hA.out)
   have HW2 := Lib.hid hW2
   have HPR := Lib.hid hpr
   clear hs hdrop hRK hcell hb2 rs2 hW2 hpr hQ hK
   go_upto_region 6 with (fail)
   rw [← HW2.out, ← HPR.out]
   clear HW2 HPR hlist
   obtain ⟨T1, hT1⟩ : ∃ T, T = takeN s 1 := ⟨_, rfl⟩
   have HN1 := Lib.hid (rnum_any pr 1 s (by omega) hsl W2 HRS.out)
   rw [← hT1] at HN1
   go_wp2_with fail
   refine (show Calls Tryz.prog 98 #[.pointer (some ⟨pr, 0, none⟩), .int .i64 1] W2 _ from HN1.out).mono ?_
   clear HN1
   cases T1 with
   | none =>
    rintro e w3 ⟨rfl, hk3⟩
    refine leaves_cons (f := 97) (args := #[.pointer (some ⟨c, 0, none⟩)]) (by simp) (by simp [go_sem]) ?_
    have hkp := HK2.out.trans (kp_below hk3 hprc (lt_of_heap HRS.out))
    have hcw := box_kp HC.out hkp (Nat.lt_succ_self _) HNE.out
    obtain ⟨cc, cf⟩ := one_cell hcw
    refine (catch_wrong c 0 _ cc cf).mono ?_
    rintro e u' w'' ⟨rfl, rfl, rfl⟩
    obtain rfl : R = none := by
     have hone : qk.one s = none := by
      unfold Qs.one
      rw [← hT1]; rfl
     rw [HRK.out, hone]; rfl
    obtain ⟨hfin, hc9⟩ := catch_end HC.out HCE.out HBL.out hkp HNE.out
    generalize (World.alloc _ (.cells #[] 119)).setCell ⟨c, 0, none⟩ (.int .i64 6) = w9 at hfin hc9 ⊢
    simp [Leaves, settle, results, Tryz.results50, go_sem, hc9]
    exact ⟨rfl, hfin⟩
   | some x1 =>
    skip
    obtain ⟨kd, r1⟩ := x1
    obtain ⟨hkd, hr1, -⟩ := takeN_lt hT1.symm
    have hr1l : r1.length ≤ 1000000 := by rw [hr1, List.length_drop]; omega
    have HT1 := Lib.hid hT1
    clear hr1 hT1
    rintro e w3 ⟨rfl, hr3, hk3⟩
    have hid1 : idI kd = (kd : Int) := by unfold idI; rw [if_pos (by omega)]
    dsimp only at hr3 hk3 hkd ⊢
    rw [hid1]
    clear hid1
    have HK3 := Lib.hid (HK2.out.trans (kp_below hk3 hprc (lt_of_heap HRS.out)))
    have HQ3 : Hid (QIn (c + 1) w3 p dp qk false) := qin_rest HQ2.out HRS.out hk3
    have HR3 := Lib.hid hr3
    clear hk3 hr3 HQ2 HK2 HRS
    by_cases hk1 : 1 ≤ kd
    case neg =>
     have hk1' : ¬ (1 : Int) ≤ (kd : Int) := by omega
     go_wp2_with fail
     refine (need_no _).mono ?_
     rintro e w4 ⟨rfl, rfl⟩
     refine leaves_cons (f := 97) (args := #[.pointer (some ⟨c, 0, none⟩)]) (by simp) (by simp [go_sem]) ?_
     have hkp := HK3.out
     have hcw := box_kp HC.out hkp (Nat.lt_succ_self _) HNE.out
     obtain ⟨cc, cf⟩ := one_cell hcw
     refine (catch_wrong c 0 _ cc cf).mono ?_
     rintro e u' w'' ⟨rfl, rfl, rfl⟩
     obtain rfl : R = none := by
      have hone : qk.one s = none := by
       unfold Qs.one
       rw [← HT1.out, Option.bind_some]; dsimp only; rw [if_neg (by rintro ⟨q, -⟩; exact hk1 q)]
      rw [HRK.out, hone]; rfl
     obtain ⟨hfin, hc9⟩ := catch_end HC.out HCE.out HBL.out hkp HNE.out
     generalize (World.alloc _ (.cells #[] 119)).setCell ⟨c, 0, none⟩ (.int .i64 6) = w9 at hfin hc9 ⊢
     simp [Leaves, settle, results, Tryz.results50, go_sem, hc9]
     exact ⟨rfl, hfin⟩
    by_cases hk6 : kd ≤ 6
    case neg =>
     have hk1' : (1 : Int) ≤ (kd : Int) := by omega
     have hk6' : ¬ (kd : Int) ≤ 6 := by omega
     go_wp2_with fail
     refine (need_no _).mono ?_
     rintro e w4 ⟨rfl, rfl⟩
     refine leaves_cons (f := 97) (args := #[.pointer (some ⟨c, 0, none⟩)]) (by simp) (by simp [go_sem]) ?_
     have hkp := HK3.out
     have hcw := box_kp HC.out hkp (Nat.lt_succ_self _) HNE.out
     obtain ⟨cc, cf⟩ := one_cell hcw
     refine (catch_wrong c 0 _ cc cf).mono ?_
     rintro e u' w'' ⟨rfl, rfl, rfl⟩
     obtain rfl : R = none := by
      have hone : qk.one s = none := by
       unfold Qs.one
       rw [← HT1.out, Option.bind_some]; dsimp only; rw [if_neg (by rintro ⟨-, q⟩; exact hk6 q)]
      rw [HRK.out, hone]; rfl
     obtain ⟨hfin, hc9⟩ := catch_end HC.out HCE.out HBL.out hkp HNE.out
     generalize (World.alloc _ (.cells #[] 119)).setCell ⟨c, 0, none⟩ (.int .i64 6) = w9 at hfin hc9 ⊢
     simp [Leaves, settle, results, Tryz.results50, go_sem, hc9]
     exact ⟨rfl, hfin⟩
    have hk1' : (1 : Int) ≤ (kd : Int) := by omega
    have hk6' : (kd : Int) ≤ 6 := by omega
    obtain ⟨T2, hT2⟩ : ∃ T, T = takeN r1 8 := ⟨_, rfl⟩
    have HN2 := Lib.hid (rnum_any pr 8 r1 (by omega) hr1l w3 HR3.out)
    rw [← hT2] at HN2
    go_wp2_with fail
    refine (need_ok _).mono ?_
    rintro e w4 ⟨rfl, rfl⟩
    go_wp2_with fail
    refine (show Calls Tryz.prog 98 #[.pointer (some ⟨pr, 0, none⟩), .int .i64 8] w4 _ from HN2.out).mono ?_
    clear HN2
    cases T2 with
    | none =>
     rintro e w5 ⟨rfl, hk5⟩
     refine leaves_cons (f := 97) (args := #[.pointer (some ⟨c, 0, none⟩)]) (by simp) (by simp [go_sem]) ?_
     have hkp := HK3.out.trans (kp_below hk5 hprc (lt_of_heap HR3.out))
     have hcw := box_kp HC.out hkp (Nat.lt_succ_self _) HNE.out
     obtain ⟨cc, cf⟩ := one_cell hcw
     refine (catch_wrong c 0 _ cc cf).mono ?_
     rintro e u' w'' ⟨rfl, rfl, rfl⟩
     obtain rfl : R = none := by
      have hone : qk.one s = none := by
       unfold Qs.one
       rw [← HT1.out, Option.bind_some]; dsimp only; rw [if_pos ⟨hk1, hk6⟩, ← hT2]; rfl
      rw [HRK.out, hone]; rfl
     obtain ⟨hfin, hc9⟩ := catch_end HC.out HCE.out HBL.out hkp HNE.out
     generalize (World.alloc _ (.cells #[] 119)).setCell ⟨c, 0, none⟩ (.int .i64 6) = w9 at hfin hc9 ⊢
     simp [Leaves, settle, results, Tryz.results50, go_sem, hc9]
     exact ⟨rfl, hfin⟩
    | some x2 =>
     obtain ⟨id, r2⟩ := x2
     obtain ⟨hid8, hr2, -⟩ := takeN_lt hT2.symm
     have hr2l : r2.length ≤ 1000000 := by rw [hr2, List.length_drop]; omega
     have hid64 : id < 18446744073709551616 := hid8
     have HT2 := Lib.hid hT2
     clear hr2 hT2 hid8
     rintro e w5 ⟨rfl, hr5, hk5⟩
     dsimp only at hr5 hk5 ⊢
     have HK5 := Lib.hid (HK3.out.trans (kp_below hk5 hprc (lt_of_heap HR3.out)))
     have HQ5 : Hid (QIn (c + 1) w5 p dp qk false) := qin_rest HQ3.out HR3.out hk5
     have HR5 := Lib.hid hr5
     clear hk5 hr5 HQ3 HK3 HR3
     by_cases hi : id < 9223372036854775808
     case neg =>
      obtain ⟨z, hz⟩ : ∃ z : Int, z = idI id := ⟨_, rfl⟩
      have hz0 : z < 0 := by rw [hz]; unfold idI; rw [if_neg hi]; omega
      rw [← hz]
      clear hz
      have hz1 : ¬ (0 : Int) < z := by omega
      have hz2 : (z == 0) = false := by rw [beq_eq_false_iff_ne]; omega
      clear hid64
      go_wp2_with fail
      refine (need_no _).mono ?_
      rintro e w6 ⟨rfl, rfl⟩
      refine leaves_cons (f := 97) (args := #[.pointer (some ⟨c, 0, none⟩)]) (by simp) (by simp [go_sem]) ?_
      have hkp := HK5.out
      have hcw := box_kp HC.out hkp (Nat.lt_succ_self _) HNE.out
      obtain ⟨cc, cf⟩ := one_cell hcw
      refine (catch_wrong c 0 _ cc cf).mono ?_
      rintro e u' w'' ⟨rfl, rfl, rfl⟩
      obtain rfl : R = none := by
       have hone : qk.one s = none := by
        unfold Qs.one
        rw [← HT1.out, Option.bind_some]; dsimp only; rw [if_pos ⟨hk1, hk6⟩, ← HT2.out, Option.bind_some]; dsimp only; rw [if_neg (by rintro ⟨q, -⟩; exact hi q)]
       rw [HRK.out, hone]; rfl
      obtain ⟨hfin, hc9⟩ := catch_end HC.out HCE.out HBL.out hkp HNE.out
      generalize (World.alloc _ (.cells #[] 119)).setCell ⟨c, 0, none⟩ (.int .i64 6) = w9 at hfin hc9 ⊢
      simp [Leaves, settle, results, Tryz.results50, go_sem, hc9]
      exact ⟨rfl, hfin⟩
     have hid2 : idI id = (id : Int) := by unfold idI; rw [if_pos hi]
     rw [hid2]
     clear hid2 hid64
     by_cases hcd : 0 < id ∨ kd = 6
     case neg =>
      have hid0 : id = 0 := by omega
      subst hid0
      have hk66 : ((kd : Int) == 6) = false := by rw [beq_eq_false_iff_ne]; omega
      go_wp2_with fail
      refine (need_no _).mono ?_
      rintro e w6 ⟨rfl, rfl⟩
      refine leaves_cons (f := 97) (args := #[.pointer (some ⟨c, 0, none⟩)]) (by simp) (by simp [go_sem]) ?_
      have hkp := HK5.out
      have hcw := box_kp HC.out hkp (Nat.lt_succ_self _) HNE.out
      obtain ⟨cc, cf⟩ := one_cell hcw
      refine (catch_wrong c 0 _ cc cf).mono ?_
      rintro e u' w'' ⟨rfl, rfl, rfl⟩
      obtain rfl : R = none := by
       have hone : qk.one s = none := by
        unfold Qs.one
        rw [← HT1.out, Option.bind_some]; dsimp only; rw [if_pos ⟨hk1, hk6⟩, ← HT2.out, Option.bind_some]; dsimp only; rw [if_neg (by rintro ⟨-, q⟩; exact hcd q)]
       rw [HRK.out, hone]; rfl
      obtain ⟨hfin, hc9⟩ := catch_end HC.out HCE.out HBL.out hkp HNE.out
      generalize (World.alloc _ (.cells #[] 119)).setCell ⟨c, 0, none⟩ (.int .i64 6) = w9 at hfin hc9 ⊢
      simp [Leaves, settle, results, Tryz.results50, go_sem, hc9]
      exact ⟨rfl, hfin⟩
     have HCD := Lib.hid hcd
     have HT1b := HT1_
     by_cases h0 : 0 < id
     ·have h0' : (0 : Int) < (id : Int) := by omega
      clear hcd h0
      go_wp2_with fail
      refine (need_ok _).mono ?_
      rintro e w6 ⟨rfl, rfl⟩
      go_upto_region 10 with (fail)
      have hT5 : TabAt w6 := HT1b.out.block (HK5.out.block 0 HT1b.out.lt (fun e => by rcases e with e | e; have := HP0.out; omega; omega))
      have hf5 := hT5 kd hk1 hk6
      obtain ⟨fn, hfn⟩ : ∃ fn, fn = rdF kd := ⟨_, rfl⟩
      have HFN := Lib.hid hfn
      rw [← hfn] at hf5
      have hcf : ∀ (args : Array Value) (W : World), (callFunc fn args).run Tryz.prog W = .ok (.enter fn args) W := by rw [hfn]; exact rd_enter kd
      have hkd7 : kd < 7 := by omega
      have hkd7' : (kd : Int) < 7 := by omega
      clear hfn hT5
      refine wp_region_heldL (fun w' => w'.cell? ⟨0, kd, none⟩ = some (.func (.func fn) #[] #[])) (by kernel_rfl) hf5 (fun hHeld => ?_)
      refine wpAnyH_takeL 0 (v := ?_) (by kernel_rfl) rfl (by kernel_rfl) (by kernel_rfl) (fun _ _ _ h => read_put (by decide) h) (Or.inl ⟨by rfl, ?_⟩) (by assumption) ?_
      rotate_left
      ·(intro wq hSq; (try dsimp only at hSq); go_simp; try with_reducible rfl)
      try simp only [q0P, q0Q, q0R, q0S]
      refine wpAnyH_takeL 1 (v := ?_) (by kernel_rfl) rfl (by kernel_rfl) (by kernel_rfl) (fun _ _ _ h => read_put (by decide) h) (Or.inl ⟨by rfl, ?_⟩) (by assumption) ?_
      rotate_left
      ·(intro wq hSq; (try dsimp only at hSq); go_simp; try with_reducible rfl)
      try simp only [q0P, q0Q, q0R, q0S]
      refine wpAnyH_takeL 2 (v := ?_) (by kernel_rfl) rfl (by kernel_rfl) (by kernel_rfl) (fun _ _ _ h => read_put (by decide) h) (Or.inl ⟨by rfl, ?_⟩) (by assumption) ?_
      rotate_left
      ·(intro wq hSq; (try dsimp only at hSq); go_simp; try with_reducible rfl)
      try simp only [q0P, q0Q, q0R, q0S]
      refine wpAnyH_takeL 3 (v := ?_) (by kernel_rfl) rfl (by kernel_rfl) (by kernel_rfl) (fun _ _ _ h => read_put (by decide) h) (Or.inl ⟨by rfl, ?_⟩) (by assumption) ?_
      rotate_left
      ·(intro wq hSq; (try dsimp only at hSq); go_simp; try with_reducible rfl)
      try simp only [q0P, q0Q, q0R, q0S]
      refine wpAnyH_takeL 4 (v := ?_) (by kernel_rfl) rfl (by kernel_rfl) (by kernel_rfl) (fun _ _ _ h => read_put (by decide) h) (Or.inl ⟨by rfl, ?_⟩) (by assumption) ?_
      rotate_left
      ·(intro wq hSq; (try dsimp only at hSq); go_simp; try with_reducible rfl)
      try simp only [q0P, q0Q, q0R, q0S]
      refine wpAnyH_takeL 5 (v := ?_) (by kernel_rfl) rfl (by kernel_rfl) (by kernel_rfl) (fun _ _ _ h => read_put (by decide) h) (Or.inl ⟨by rfl, ?_⟩) (by assumption) ?_
      rotate_left
      ·(intro wq hSq; (try dsimp only at hSq); go_simp; try with_reducible rfl)
      try simp only [q0P, q0Q, q0R, q0S]
      refine wpAnyH_takeL 6 (v := ?_) (by kernel_rfl) rfl (by kernel_rfl) (by kernel_rfl) (fun _ _ _ h => read_put (by decide) h) (Or.inl ⟨by rfl, ?_⟩) (by assumption) ?_
      rotate_left
      ·(intro wq hSq; (try dsimp only at hSq); go_simp; try with_reducible rfl)
      try simp only [q0P, q0Q, q0R, q0S]
      refine wpAnyH_stepL 7 (by kernel_rfl) rfl (fun K hK => ?_)
      go_simp
      go_at_call 96
      have HI : Hid (Calls Tryz.prog 96 #[.pointer (some ⟨p, 0, none⟩), .int .i64 (id : Int)] w6.drew fun e w' => e = .returned (.int .i64 (placeI (qk.at id))) ∧ Below w6.drew.heap.size w6.drew w') := by
       obtain ⟨⟨v, hqa, hv⟩, -⟩ := HQ5.out
       have h := index_any p dp v qk.last false qk.jobs (id : Int) w6.drew hqa (World.owns.mono hv (Nat.zero_le _)) (by have := HQF.out.ok.len; omega)
       have e : (fun j : Jb => decide ((j.id : Int) = (id : Int))) = fun j => decide (j.id = id) := by funext j; exact decide_eq_decide.2 (by omega)
       rw [e] at h
       exact h
      refine HI.out.mono ?_
      clear HI
      rintro e w7 ⟨rfl, hb7d⟩
      have hb7 : Below w6.heap.size w6 w7 := (Below.refl _ w6).drew.trans hb7d
      have HQ7 := Lib.hid (HQ5.out.below hb7)
      have HR7 := Lib.hid (show RestAt w7 pr r2 from (hb7.block _ (lt_of_heap HR5.out)).trans HR5.out)
      have HK7 := Lib.hid (HK5.out.trans (Kp.of_below hb7))
      have hf7 : w7.cell? ⟨0, kd, none⟩ = some (.func (.func fn) #[] #[]) := (hb7.cell (p := ⟨0, kd, none⟩) (World.block_lt_of_cell? w6 ⟨0, kd, none⟩ hf5)).trans hf5
      refine hK.out _ _ hf7 (fun hS2 => ?_)
      clear hK K hHeld hf5 hb7 hb7d
      try simp only [q0P, q0Q, q0R, q0S]
      refine wpAnyH_stepL 8 (by kernel_rfl) rfl (fun K hK => ?_)
      go_simp
      obtain ⟨X, hX⟩ : ∃ X, X = rdK kd qk r2 id := ⟨_, rfl⟩
      have h := rdK_any kd hk1 hk6 (c + 1) p pr dp false qk r2 id w7 HQ7.out HQF.out.ok HR7.out hprc hr2l hi
      rw [← hX, ← HFN.out] at h
      have HRD := Lib.hid h
      have HX := Lib.hid hX
      clear hX hcf h
      refine HRD.out.mono ?_
      clear HRD
      cases X with
      | none =>
       rintro e w8 ⟨rfl, hk8⟩
       refine leaves_cons (f := 97) (args := #[.pointer (some ⟨c, 0, none⟩)]) (by simp) (by simp [go_sem]) ?_
       have hkp := HK7.out.trans hk8
       have hcw := box_kp HC.out hkp (Nat.lt_succ_self _) HNE.out
       obtain ⟨cc, cf⟩ := one_cell hcw
       refine (catch_wrong c 0 _ cc cf).mono ?_
       rintro e u' w'' ⟨rfl, rfl, rfl⟩
       obtain rfl : R = none := by
        have hone : qk.one s = none := by
         unfold Qs.one
         rw [← HT1.out, Option.bind_some]; dsimp only; rw [if_pos ⟨hk1, hk6⟩, ← HT2.out, Option.bind_some]; dsimp only; rw [if_pos ⟨hi, HCD.out⟩, ← HX.out]; rfl
        rw [HRK.out, hone]; rfl
       obtain ⟨hfin, hc9⟩ := catch_end HC.out HCE.out HBL.out hkp HNE.out
       generalize (World.alloc _ (.cells #[] 119)).setCell ⟨c, 0, none⟩ (.int .i64 6) = w9 at hfin hc9 ⊢
       simp [Leaves, settle, results, Tryz.results50, go_sem, hc9]
       exact ⟨rfl, hfin⟩
      | some x3 =>
       obtain ⟨q9, r9⟩ := x3
       rintro e w8 ⟨rfl, hq8, hr8, hk8⟩
       dsimp only at hq8 hr8
       have HK8 := Lib.hid (HK7.out.trans hk8)
       have HQ8 := Lib.hid hq8
       have HR8 := Lib.hid hr8
       have hf8 : w8.cell? ⟨0, kd, none⟩ = some (.func (.func fn) #[] #[]) := hk8.cell (fun e => by rcases e with e | e; have := HP0.out; omega; omega) hf7
       refine hK.out _ _ hf8 (fun hS3 => ?_)
       clear hK K hS2 hf7 hq8 hr8 hk8
       try simp only [q0P, q0Q, q0R, q0S]
       refine wpAnyH_end (by kernel_rfl) ?_
       clear hf8 hS3
       obtain ⟨u0, -⟩ := HR8.out.cell
       by_cases hr9 : r9 = []
       ·have hz9 : (bytesOf r9).toList.isEmpty = true := by rw [hr9, ByteArray.toList_eq]; rfl
        have HR9 := Lib.hid hr9
        clear hr9
        go_wp2_with fail
        refine (need_ok _).mono ?_
        rintro e w9 ⟨rfl, rfl⟩
        go_wp2_with fail
        go_roundw
        case rel =>
         refine ⟨k + 1, q9, by omega, by go_num, ?_, HQ8.out, HK8.out⟩
         have hone : qk.one s = some q9 := by
          unfold Qs.one
          rw [← HT1.out, Option.bind_some]; dsimp only; rw [if_pos ⟨hk1, hk6⟩, ← HT2.out, Option.bind_some]; dsimp only; rw [if_pos ⟨hi, HCD.out⟩, ← HX.out]; rw [Option.bind_some]; dsimp only; rw [if_pos HR9.out]
         show (Qs.mk [] 0).all (l.take (k + 1)) = some q9
         rw [List.take_add_one, HS.out, all_append, hA.out]
         show (qk.one s).bind (fun q' => some q') = _
         rw [hone]; rfl
        case measure => simp [intOf]; omega
       ·have hz9 : (bytesOf r9).toList.isEmpty = false := by
         rw [Bool.eq_false_iff]
         intro h
         exact hr9 (by
          have h2 : (bytesOf r9).toList = [] := by simpa using h
          rw [ByteArray.toList_eq] at h2
          simpa [bytesOf] using h2)
        have HR9 := Lib.hid hr9
        clear hr9
        go_wp2_with fail
        refine (need_no _).mono ?_
        rintro e w9 ⟨rfl, rfl⟩
        refine leaves_cons (f := 97) (args := #[.pointer (some ⟨c, 0, none⟩)]) (by simp) (by simp [go_sem]) ?_
        have hkp := HK8.out
        have hcw := box_kp HC.out hkp (Nat.lt_succ_self _) HNE.out
        obtain ⟨cc, cf⟩ := one_cell hcw
        refine (catch_wrong c 0 _ cc cf).mono ?_
        rintro e u' w'' ⟨rfl, rfl, rfl⟩
        obtain rfl : R = none := by
         have hone : qk.one s = none := by
          unfold Qs.one
          rw [← HT1.out, Option.bind_some]; dsimp only; rw [if_pos ⟨hk1, hk6⟩, ← HT2.out, Option.bind_some]; dsimp only; rw [if_pos ⟨hi, HCD.out⟩, ← HX.out]; rw [Option.bind_some]; dsimp only; rw [if_neg HR9.out]
         rw [HRK.out, hone]; rfl
        obtain ⟨hfin, hc9⟩ := catch_end HC.out HCE.out HBL.out hkp HNE.out
        generalize (World.alloc _ (.cells #[] 119)).setCell ⟨c, 0, none⟩ (.int .i64 6) = w9 at hfin hc9 ⊢
        simp [Leaves, settle, results, Tryz.results50, go_sem, hc9]
        exact ⟨rfl, hfin⟩
     ·obtain rfl : id = 0 := by omega
      have hk66 : (kd : Int) = 6 := by omega
      have hz3 : ((kd : Int) == 6) = true := by rw [hk66]; rfl
      clear hcd h0 hk66
      go_wp2_with fail
      refine (need_ok _).mono ?_
      rintro e w6 ⟨rfl, rfl⟩
      go_upto_region 10 with (fail)
      have hT5 : TabAt w6 := HT1b.out.block (HK5.out.block 0 HT1b.out.lt (fun e => by rcases e with e | e; have := HP0.out; omega; omega))
      have hf5 := hT5 kd hk1 hk6
      obtain ⟨fn, hfn⟩ : ∃ fn, fn = rdF kd := ⟨_, rfl⟩
      have HFN := Lib.hid hfn
      rw [← hfn] at hf5
      have hcf : ∀ (args : Array Value) (W : World), (callFunc fn args).run Tryz.prog W = .ok (.enter fn args) W := by rw [hfn]; exact rd_enter kd
      have hkd7 : kd < 7 := by omega
      have hkd7' : (kd : Int) < 7 := by omega
      clear hfn hT5
      refine wp_region_heldL (fun w' => w'.cell? ⟨0, kd, none⟩ = some (.func (.func fn) #[] #[])) (by kernel_rfl) hf5 (fun hHeld => ?_)
      refine wpAnyH_takeL 0 (v := ?_) (by kernel_rfl) rfl (by kernel_rfl) (by kernel_rfl) (fun _ _ _ h => read_put (by decide) h) (Or.inl ⟨by rfl, ?_⟩) (by assumption) ?_
      rotate_left
      ·(intro wq hSq; (try dsimp only at hSq); go_simp; try with_reducible rfl)
      try simp only [q0P, q0Q, q0R, q0S]
      refine wpAnyH_takeL 1 (v := ?_) (by kernel_rfl) rfl (by kernel_rfl) (by kernel_rfl) (fun _ _ _ h => read_put (by decide) h) (Or.inl ⟨by rfl, ?_⟩) (by assumption) ?_
      rotate_left
      ·(intro wq hSq; (try dsimp only at hSq); go_simp; try with_reducible rfl)
      try simp only [q0P, q0Q, q0R, q0S]
      refine wpAnyH_takeL 2 (v := ?_) (by kernel_rfl) rfl (by kernel_rfl) (by kernel_rfl) (fun _ _ _ h => read_put (by decide) h) (Or.inl ⟨by rfl, ?_⟩) (by assumption) ?_
      rotate_left
      ·(intro wq hSq; (try dsimp only at hSq); go_simp; try with_reducible rfl)
      try simp only [q0P, q0Q, q0R, q0S]
      refine wpAnyH_takeL 3 (v := ?_) (by kernel_rfl) rfl (by kernel_rfl) (by kernel_rfl) (fun _ _ _ h => read_put (by decide) h) (Or.inl ⟨by rfl, ?_⟩) (by assumption) ?_
      rotate_left
      ·(intro wq hSq; (try dsimp only at hSq); go_simp; try with_reducible rfl)
      try simp only [q0P, q0Q, q0R, q0S]
      refine wpAnyH_takeL 4 (v := ?_) (by kernel_rfl) rfl (by kernel_rfl) (by kernel_rfl) (fun _ _ _ h => read_put (by decide) h) (Or.inl ⟨by rfl, ?_⟩) (by assumption) ?_
      rotate_left
      ·(intro wq hSq; (try dsimp only at hSq); go_simp; try with_reducible rfl)
      try simp only [q0P, q0Q, q0R, q0S]
      refine wpAnyH_takeL 5 (v := ?_) (by kernel_rfl) rfl (by kernel_rfl) (by kernel_rfl) (fun _ _ _ h => read_put (by decide) h) (Or.inl ⟨by rfl, ?_⟩) (by assumption) ?_
      rotate_left
      ·(intro wq hSq; (try dsimp only at hSq); go_simp; try with_reducible rfl)
      try simp only [q0P, q0Q, q0R, q0S]
      refine wpAnyH_takeL 6 (v := ?_) (by kernel_rfl) rfl (by kernel_rfl) (by kernel_rfl) (fun _ _ _ h => read_put (by decide) h) (Or.inl ⟨by rfl, ?_⟩) (by assumption) ?_
      rotate_left
      ·(intro wq hSq; (try dsimp only at hSq); go_simp; try with_reducible rfl)
      try simp only [q0P, q0Q, q0R, q0S]
      refine wpAnyH_stepL 7 (by kernel_rfl) rfl (fun K hK => ?_)
      go_simp
      go_at_call 96
      have HI : Hid (Calls Tryz.prog 96 #[.pointer (some ⟨p, 0, none⟩), .int .i64 ((0 : Nat) : Int)] w6.drew fun e w' => e = .returned (.int .i64 (placeI (qk.at 0))) ∧ Below w6.drew.heap.size w6.drew w') := by
       obtain ⟨⟨v, hqa, hv⟩, -⟩ := HQ5.out
       have h := index_any p dp v qk.last false qk.jobs ((0 : Nat) : Int) w6.drew hqa (World.owns.mono hv (Nat.zero_le _)) (by have := HQF.out.ok.len; omega)
       have e : (fun j : Jb => decide ((j.id : Int) = ((0 : Nat) : Int))) = fun j => decide (j.id = 0) := by funext j; exact decide_eq_decide.2 (by omega)
       rw [e] at h
       exact h
      refine HI.out.mono ?_
      clear HI
      rintro e w7 ⟨rfl, hb7d⟩
      have hb7 : Below w6.heap.size w6 w7 := (Below.refl _ w6).drew.trans hb7d
      have HQ7 := Lib.hid (HQ5.out.below hb7)
      have HR7 := Lib.hid (show RestAt w7 pr r2 from (hb7.block _ (lt_of_heap HR5.out)).trans HR5.out)
      have HK7 := Lib.hid (HK5.out.trans (Kp.of_below hb7))
      have hf7 : w7.cell? ⟨0, kd, none⟩ = some (.func (.func fn) #[] #[]) := (hb7.cell (p := ⟨0, kd, none⟩) (World.block_lt_of_cell? w6 ⟨0, kd, none⟩ hf5)).trans hf5
      refine hK.out _ _ hf7 (fun hS2 => ?_)
      clear hK K hHeld hf5 hb7 hb7d
      try simp only [q0P, q0Q, q0R, q0S]
      refine wpAnyH_stepL 8 (by kernel_rfl) rfl (fun K hK => ?_)
      go_simp
      obtain ⟨X, hX⟩ : ∃ X, X = rdK kd qk r2 0 := ⟨_, rfl⟩
      have h := rdK_any kd hk1 hk6 (c + 1) p pr dp false qk r2 0 w7 HQ7.out HQF.out.ok HR7.out hprc hr2l hi
      rw [← hX, ← HFN.out] at h
      have HRD := Lib.hid h
      have HX := Lib.hid hX
      clear hX hcf h
      refine HRD.out.mono ?_
      clear HRD
      cases X with
      | none =>
       rintro e w8 ⟨rfl, hk8⟩
       refine leaves_cons (f := 97) (args := #[.pointer (some ⟨c, 0, none⟩)]) (by simp) (by simp [go_sem]) ?_
       have hkp := HK7.out.trans hk8
       have hcw := box_kp HC.out hkp (Nat.lt_succ_self _) HNE.out
       obtain ⟨cc, cf⟩ := one_cell hcw
       refine (catch_wrong c 0 _ cc cf).mono ?_
       rintro e u' w'' ⟨rfl, rfl, rfl⟩
       obtain rfl : R = none := by
        have hone : qk.one s = none := by
         unfold Qs.one
         rw [← HT1.out, Option.bind_some]; dsimp only; rw [if_pos ⟨hk1, hk6⟩, ← HT2.out, Option.bind_some]; dsimp only; rw [if_pos ⟨hi, HCD.out⟩, ← HX.out]; rfl
        rw [HRK.out, hone]; rfl
       obtain ⟨hfin, hc9⟩ := catch_end HC.out HCE.out HBL.out hkp HNE.out
       generalize (World.alloc _ (.cells #[] 119)).setCell ⟨c, 0, none⟩ (.int .i64 6) = w9 at hfin hc9 ⊢
       simp [Leaves, settle, results, Tryz.results50, go_sem, hc9]
       exact ⟨rfl, hfin⟩
      | some x3 =>
       obtain ⟨q9, r9⟩ := x3
       rintro e w8 ⟨rfl, hq8, hr8, hk8⟩
       dsimp only at hq8 hr8
       have HK8 := Lib.hid (HK7.out.trans hk8)
       have HQ8 := Lib.hid hq8
       have HR8 := Lib.hid hr8
       have hf8 : w8.cell? ⟨0, kd, none⟩ = some (.func (.func fn) #[] #[]) := hk8.cell (fun e => by rcases e with e | e; have := HP0.out; omega; omega) hf7
       refine hK.out _ _ hf8 (fun hS3 => ?_)
       clear hK K hS2 hf7 hq8 hr8 hk8
       try simp only [q0P, q0Q, q0R, q0S]
       refine wpAnyH_end (by kernel_rfl) ?_
       clear hf8 hS3
       obtain ⟨u0, -⟩ := HR8.out.cell
       by_cases hr9 : r9 = []
       ·have hz9 : (bytesOf r9).toList.isEmpty = true := by rw [hr9, ByteArray.toList_eq]; rfl
        have HR9 := Lib.hid hr9
        clear hr9
        go_wp2_with fail
        refine (need_ok _).mono ?_
        rintro e w9 ⟨rfl, rfl⟩
        go_wp2_with fail
        go_roundw
        case rel =>
         refine ⟨k + 1, q9, by omega, by go_num, ?_, HQ8.out, HK8.out⟩
         have hone : qk.one s = some q9 := by
          unfold Qs.one
          rw [← HT1.out, Option.bind_some]; dsimp only; rw [if_pos ⟨hk1, hk6⟩, ← HT2.out, Option.bind_some]; dsimp only; rw [if_pos ⟨hi, HCD.out⟩, ← HX.out]; rw [Option.bind_some]; dsimp only; rw [if_pos HR9.out]
         show (Qs.mk [] 0).all (l.take (k + 1)) = some q9
         rw [List.take_add_one, HS.out, all_append, hA.out]
         show (qk.one s).bind (fun q' => some q') = _
         rw [hone]; rfl
        case measure => simp [intOf]; omega
       ·have hz9 : (bytesOf r9).toList.isEmpty = false := by
         rw [Bool.eq_false_iff]
         intro h
         exact hr9 (by
          have h2 : (bytesOf r9).toList = [] := by simpa using h
          rw [ByteArray.toList_eq] at h2
          simpa [bytesOf] using h2)
        have HR9 := Lib.hid hr9
        clear hr9
        go_wp2_with fail
        refine (need_no _).mono ?_
        rintro e w9 ⟨rfl, rfl⟩
        refine leaves_cons (f := 97) (args := #[.pointer (some ⟨c, 0, none⟩)]) (by simp) (by simp [go_sem]) ?_
        have hkp := HK8.out
        have hcw := box_kp HC.out hkp (Nat.lt_succ_self _) HNE.out
        obtain ⟨cc, cf⟩ := one_cell hcw
        refine (catch_wrong c 0 _ cc cf).mono ?_
        rintro e u' w'' ⟨rfl, rfl, rfl⟩
        obtain rfl : R = none := by
         have hone : qk.one s = none := by
          unfold Qs.one
          rw [← HT1.out, Option.bind_some]; dsimp only; rw [if_pos ⟨hk1, hk6⟩, ← HT2.out, Option.bind_some]; dsimp only; rw [if_pos ⟨hi, HCD.out⟩, ← HX.out]; rw [Option.bind_some]; dsimp only; rw [if_neg HR9.out]
         rw [HRK.out, hone]; rfl
        obtain ⟨hfin, hc9⟩ := catch_end HC.out HCE.out HBL.out hkp HNE.out
        generalize (World.alloc _ (.cells #[] 119)).setCell ⟨c, 0, none⟩ (.int .i64 6) = w9 at hfin hc9 ⊢
        simp [Leaves, settle, results, Tryz.results50, go_sem, hc9]
        exact ⟨rfl, hfin⟩
  ·obtain rfl : k = n := by omega
   have hcw := box_kp HC.out hK.out (Nat.lt_succ_self _) HNE.out
   obtain ⟨cc, cf⟩ := one_cell hcw
   go_wp2_with fail
   refine leaves_cons (f := 97) (args := #[.pointer (some ⟨c, 0, none⟩)]) (by simp) (by simp [go_sem]) ?_
   refine (catch_idle c _).mono ?_
   rintro e u' w'' ⟨rfl, rfl, rfl⟩
   obtain rfl : R = some qk := by
    rw [HR.out]
    have h := hA.out
    rw [HN.out, List.take_length] at h
    exact h
   have hq9 := qin_box hQ.out hcw HNE.out (.int .i64 0)
   have hk9 := kp_end HCE.out HBL.out ((kp_less hK.out).setCell (a := ⟨c, 0, none⟩) (.inr (Nat.le_refl c)) (.int .i64 0))
   have hc9 : (wr.setCell ⟨c, 0, none⟩ (.int .i64 0)).cell? ⟨c, 0, none⟩ = some (.int .i64 0) := (one_cell (set_one hcw (.int .i64 0))).1
   generalize wr.setCell ⟨c, 0, none⟩ (.int .i64 0) = w9 at hq9 hk9 hc9 ⊢
   simp [Leaves, settle, results, Tryz.results50, go_sem, hc9]
   exact ⟨⟨rfl, hq9⟩, hk9⟩
end
/- Walks: a queue of jobs: Open. -/
section
open Go.RowKit Go.Shelf
theorem recF_short {h : List UInt8} {g : Nat} : ∀ (f k : Nat) (x : Nat × List UInt8), x ∈ recF h g f k → x.2.length ≤ 65535 := by
 intro f
 induction f with
 | zero => intro k x hx; simp [recF] at hx
 | succ f ih =>
  intro k x hx
  cases hn : nextR h g k with
  | none => rw [recF_none hn] at hx; simp at hx
  | some y =>
   obtain ⟨e, d⟩ := y
   rw [recF_some hn] at hx
   obtain ⟨-, -, q, -, -⟩ := nextR_bounds hn
   rcases List.mem_cons.1 hx with rfl | hx
   ·exact q
   ·exact ih e x hx
theorem texts_short (d : Dk) : ∀ s ∈ d.texts, s.length ≤ 65535 := by
 intro s hs
 unfold Dk.texts at hs
 split at hs
 ·simp at hs
 ·obtain ⟨x, hx, rfl⟩ := List.mem_map.1 hs
  exact recF_short _ _ x hx
/-- What Open answers. -/
def OpenP (dp b0 b1 : Nat) (d : Dk) (w : World) (r : Int ⊕ Qs) (e : Ending) (w' : World) : Prop := match r with
 | .inl er => e = .returned (.tuple #[.pointer none, .int .i64 er]) ∧ DiskAt w' dp b0 b1 d
 | .inr q => ∃ p v, e = .returned (.tuple #[.pointer (some ⟨p, 0, none⟩), .int .i64 0]) ∧ w.heap.size ≤ p ∧ QD ⟨p, dp, b0, b1⟩ v ⟨q, d, false⟩ w' ∧ ∀ k, v.ownBlock = some k → w.heap.size ≤ k
theorem seen_good {d : Dk} (ho : d.ok) (h : d.seenErr = 0) : d.good := ⟨ho, by
 unfold Dk.seenErr at h
 split at h
 ·cases h
 ·omega⟩
theorem Open_any (dp b0 b1 : Nat) (d : Dk) (w : World) (hd : DiskAt w dp b0 b1 d) (ho : d.ok) (ht : TabAt w) :
  Calls Tryz.prog 12 #[.pointer (some ⟨dp, 0, none⟩)] w fun e w' => OpenP dp b0 b1 d w (openD d) e w' ∧ Below w.heap.size w w' := by
 obtain ⟨R, hR⟩ : ∃ R, R = openD d := ⟨_, rfl⟩
 rw [← hR]
 unfold openD at hR
 have HRE := Lib.hid (Records_any dp b0 b1 d w hd ho)
 have HD := Lib.hid hd
 have HT := Lib.hid ht
 obtain ⟨er, her⟩ : ∃ er, er = d.seenErr := ⟨_, rfl⟩
 rw [← her] at hR HRE
 by_cases h0 : er = 0
 case neg =>
  rw [if_pos h0] at hR
  have h0' : (er == 0) = false := by rw [beq_eq_false_iff_ne]; exact h0
  have HR := Lib.hid hR
  clear hR h0 her hd ht
  go_enter Tryz.func12, Tryz.ntmps12
  go_wp2_with fail
  refine HRE.out.mono ?_
  rintro e w1 ⟨⟨v, rfl, hr1, hv1⟩, hb1⟩
  go_wp2_with fail
  go_ret2
  rw [HR.out]
  exact ⟨⟨rfl, HD.out.kept hb1⟩, hb1⟩
 rw [if_neg (by simpa using h0)] at hR
 subst h0
 have hgood := seen_good ho her.symm
 have HG := Lib.hid hgood
 have HR := Lib.hid hR
 clear hR her hd ht hgood
 go_enter Tryz.func12, Tryz.ntmps12
 go_wp2_with fail
 refine HRE.out.mono ?_
 rintro e w1 ⟨⟨v, rfl, hr1, hv1⟩, hb1⟩
 obtain ⟨p, hp⟩ : ∃ p, p = w1.heap.size := ⟨_, rfl⟩
 obtain ⟨W2, hW2⟩ : ∃ W, W = w1.alloc (.cells #[.pointer (some ⟨dp, 0, none⟩), .slice none 0 0, .int .i64 0, .bool false] 78) := ⟨_, rfl⟩
 have hb2 : Below w1.heap.size w1 W2 := by rw [hW2]; exact (Below.refl _ w1).alloc (Nat.le_refl _) _
 have q2 : QueueAt W2 p (.pointer (some ⟨dp, 0, none⟩)) (.slice none 0 0) 0 false := by unfold QueueAt; rw [hW2, hp]; exact alloc_last _ _ rfl
 have hb12 : Below w.heap.size w W2 := hb1.trans (hb2.mono hb1.size)
 have ht2 : TabAt W2 := HT.out.block (hb12.block _ HT.out.lt)
 have hp0 : 0 < p := by have := HT.out.lt; have := hb1.size; omega
 have hd2 := HD.out.kept hb12
 have hr2 : W2.reads p v (d.texts.map strV) := by rw [hp]; exact hr1.below hb2
 have HRD := Lib.hid (read_any p _ d.texts v W2 q2 hr2 (fun s hs => by have := texts_short d s hs; omega) ht2 hp0)
 have HD2 := Lib.hid hd2
 have HB12 := Lib.hid hb12
 have HPW : Hid (w.heap.size ≤ p) := Lib.hid (by have := hb1.size; omega)
 have HPS : Hid (p < W2.heap.size) := Lib.hid (lt_of_heap q2)
 have HW2 := Lib.hid hW2
 have HP := Lib.hid hp
 obtain ⟨va, vn, vc, rfl⟩ : ∃ a n c, v = .slice a n c := by obtain ⟨a, c, h, -⟩ := hr1; exact ⟨a, _, c, h⟩
 clear hb1 hr1 hv1 hW2 hp hb2 q2 hb12 ht2 hd2 hr2 hp0 HRE
 obtain ⟨T, hT⟩ : ∃ T, T = replay d.texts := ⟨_, rfl⟩
 have hR := HR.out
 rw [← hT] at HRD hR
 have HTT := Lib.hid hT
 have HR2 := Lib.hid hR
 clear hT hR HR
 go_upto_region 5 with (fail)
 rw [← HW2.out, ← HP.out]
 clear HW2 HP
 go_wp2_with fail
 refine HRD.out.mono ?_
 have hdp : ¬ dp = p := fun e => by have := lt_of_heap HD.out.at_; have := HPW.out; omega
 have hp0 : ¬ b0 = p := fun e => by have := HD.out.a0.lt; have := HPW.out; omega
 have hp1 : ¬ b1 = p := fun e => by have := HD.out.a1.lt; have := HPW.out; omega
 cases T with
 | none =>
  dsimp only at HR2
  rintro e w3 ⟨he, hk3⟩
  unfold readP at he
  dsimp only at he
  subst he
  have hd3 : DiskAt w3 dp b0 b1 d := ⟨(hk3.block _ (lt_of_heap HD2.out.at_) hdp).trans HD2.out.at_, HD2.out.a0.kp hk3 hp0, HD2.out.a1.kp hk3 hp1, HD2.out.n01, HD2.out.n0, HD2.out.n1⟩
  have hb3 : Below w.heap.size w w3 := HB12.out.trans (hk3.below (Nat.le_trans HB12.out.size (Nat.le_refl _)) (fun k e => by have := HPW.out; omega))
  go_wp2_with fail
  go_ret2
  rw [HR2.out]
  exact ⟨⟨rfl, hd3⟩, hb3⟩
 | some q =>
  dsimp only at HR2
  rintro e w3 ⟨he, hk3⟩
  unfold readP at he
  dsimp only at he
  obtain ⟨he, ⟨v3, hqa3, hv3⟩, -⟩ := he
  subst he
  have hd3 : DiskAt w3 dp b0 b1 d := ⟨(hk3.block _ (lt_of_heap HD2.out.at_) hdp).trans HD2.out.at_, HD2.out.a0.kp hk3 hp0, HD2.out.a1.kp hk3 hp1, HD2.out.n01, HD2.out.n0, HD2.out.n1⟩
  have hb3 : Below w.heap.size w w3 := HB12.out.trans (hk3.below (Nat.le_trans HB12.out.size (Nat.le_refl _)) (fun k e => by have := HPW.out; omega))
  have hnew : ∀ k, v3.ownBlock = some k → w.heap.size ≤ k := fun k e => by have := (hv3.lt k e).1; have := HB12.out.size; omega
  have hqd : QD ⟨p, dp, b0, b1⟩ v3 ⟨q, d, false⟩ w3 := ⟨hqa3, World.owns.mono hv3 (Nat.zero_le _), hd3, ⟨fun e => hdp e.symm, fun e => hp0 e.symm, fun e => hp1 e.symm⟩,
   ⟨fun e => by have := (hv3.lt _ e).1; have := lt_of_heap HD2.out.at_; dsimp only at *; omega, fun e => by have := (hv3.lt _ e).1; have := HD2.out.a0.lt; dsimp only at *; omega, fun e => by have := (hv3.lt _ e).1; have := HD2.out.a1.lt; dsimp only at *; omega⟩, replay_fine HTT.out.symm, HG.out⟩
  go_wp2_with fail
  go_ret2
  rw [HR2.out]
  exact ⟨⟨p, v3, rfl, HPW.out, hqd, hnew⟩, hb3⟩
end
/- Walks: the reference's queue of jobs: Cancel, Get, Compact. Printed by gen_rd7.py. -/
section
open Go.RowKit Go.Shelf
theorem rfCancel_did (P : RQP) (v : Value) (x : Qst) (id : Int) (w : World) (h : RQD P v x w) :
  Calls Tryz.prog 34 #[.pointer (some ⟨P.p, 0, none⟩), .int .i64 id] w fun e w' => RDid P v (.int .i64 (x.cancel id).1) (x.cancel id).2 w e w' := by
 have HQ := Lib.hid h
 obtain ⟨R, hR⟩ : ∃ R, R = x.cancel id := ⟨_, rfl⟩
 rw [← hR]
 unfold Qst.cancel Qst.some_ at hR
 obtain ⟨-, k1, -, k3, -, -, -⟩ := h.qa.cells
 by_cases hd : x.down = true
 ·rw [if_pos hd] at hR
  dsimp only at hR
  subst hR
  rw [hd] at k3
  clear hd h
  go_enter Tryz.func34, Tryz.ntmps34
  go_wp2_with fail
  go_ret
  exact ⟨rfl, v, HQ.out, RStp.refl _ _ _⟩
 rw [if_neg hd] at hR
 have hd' : x.down = false := by simpa using hd
 rw [hd'] at k3
 have hlen := h.fine.ok.len
 have HI := Lib.hid (rfat_any P.p _ v x.q.last x.down x.q.jobs id w h.qa h.ja (by omega))
 clear hd hd'
 cases hf : x.q.jobs.findIdx? (fun j => decide ((j.id : Int) = id)) with
 | none =>
  rw [hf] at hR HI
  dsimp only at hR
  subst hR
  clear hf h
  rw [show placeI none = -1 from rfl] at HI
  go_enter Tryz.func34, Tryz.ntmps34
  go_wp2_with fail
  refine HI.out.mono ?_
  rintro e w2 ⟨rfl, rfl⟩
  go_wp2_with fail
  go_ret
  exact ⟨rfl, v, HQ.out, RStp.refl _ _ _⟩
 | some k =>
  obtain ⟨j, hj, hjid⟩ := findIdx_get hf
  rw [hf] at hR HI
  dsimp only at hR
  rw [hj] at hR
  dsimp only at hR
  rw [show placeI (some k) = (k : Int) from rfl] at HI
  have HJ := Lib.hid hj
  have hjo := h.fine.ok.job j (List.mem_of_getElem? hj)
  have HE := Lib.hid (fun W => rfended_any j.state W)
  obtain ⟨g, cap, rfl, -, hk, -⟩ := h.job hj
  obtain ⟨c4, -⟩ := job_cell h.ja hj (by omega : 4 < 9) rfl
  have HID := Lib.hid (show (j.id : Int) = id by simpa using hjid)
  by_cases hst : endedB j.state = false
  case neg =>
   rw [if_pos hst] at hR
   dsimp only at hR
   subst hR
   have hst' : endedB j.state = true := by simpa using hst
   rw [hst'] at HE
   clear hst hst' hf hjid h hj hjo
   go_enter Tryz.func34, Tryz.ntmps34
   go_wp2_with fail
   refine HI.out.mono ?_
   rintro e w2 ⟨rfl, rfl⟩
   go_wp2_with fail
   refine (HE.out w2).mono ?_
   rintro e w3 ⟨rfl, rfl⟩
   go_wp2_with fail
   go_ret
   exact ⟨rfl, _, HQ.out, RStp.refl _ _ _⟩
  rw [if_neg (by simpa using hst)] at hR
  dsimp only at hR
  rw [hst] at HE
  have HST := Lib.hid hst
  have HF := Lib.hid (fun W (hW : RQD P (.slice (some ⟨g, 0, none⟩) x.q.jobs.length cap) x W) => rfend_any P g cap k x j 5 [] (by omega) (by omega) (by simp) W hW hj)
  rw [← hR] at HF
  clear hst hf hjid h hj hjo hR
  go_enter Tryz.func34, Tryz.ntmps34
  go_wp2_with fail
  refine HI.out.mono ?_
  rintro e w2 ⟨rfl, rfl⟩
  go_wp2_with fail
  refine (HE.out w2).mono ?_
  rintro e w3 ⟨rfl, rfl⟩
  go_wp2_with fail
  refine (show Calls Tryz.prog 73 #[.pointer (some ⟨P.p, 0, none⟩), .pointer (some ⟨g, k * 9, none⟩), .int .i64 5, .string { data := #[] }] w3 _ from HF.out w3 HQ.out).mono ?_
  rintro e w4 ⟨rfl, hq2, hk2⟩
  go_wp2_with fail
  go_ret
  exact ⟨rfl, _, hq2, RStp.of_kp hk2⟩
theorem rfGet_did (P : RQP) (v : Value) (x : Qst) (id : Int) (w : World) (h : RQD P v x w) :
  Calls Tryz.prog 46 #[.pointer (some ⟨P.p, 0, none⟩), .int .i64 id] w fun e w' => e = .returned (.tuple #[(x.get id).1.val, .int .i64 (x.get id).2]) ∧ Below w.heap.size w w' := by
 obtain ⟨R, hR⟩ : ∃ R, R = x.get id := ⟨_, rfl⟩
 rw [← hR]
 unfold Qst.get at hR
 have hb0 : Below w.heap.size w (w.alloc (.cells #[.int .i64 0, .string { data := #[] }, .string { data := #[] }, .int .i64 0, .int .i64 0, .int .i64 0, .string { data := #[] }, .string { data := #[] }, .string { data := #[] }] 48)) := (Below.refl _ w).alloc (Nat.le_refl _) _
 have h1 := h.below hb0
 have hlen := h.fine.ok.len
 have HI := Lib.hid (rfat_any P.p _ v x.q.last x.down x.q.jobs id _ h1.qa h1.ja (by omega))
 obtain ⟨W1, hW1⟩ : ∃ W, W = w.alloc (.cells #[.int .i64 0, .string { data := #[] }, .string { data := #[] }, .int .i64 0, .int .i64 0, .int .i64 0, .string { data := #[] }, .string { data := #[] }, .string { data := #[] }] 48) := ⟨_, rfl⟩
 have g1 : BoxAt W1 w.heap.size Jb.none_ := by rw [hW1]; exact alloc_last _ _ rfl
 rw [← hW1] at HI h1 hb0
 obtain ⟨-, k1, -, k3, -, -, -⟩ := h1.qa.cells
 have HQ := Lib.hid h1
 have HW1 := Lib.hid hW1
 have HB0 := Lib.hid hb0
 have HG := Lib.hid g1
 obtain ⟨b, hb⟩ : ∃ b, b = w.heap.size := ⟨_, rfl⟩
 rw [← hb] at HG
 have HBW := Lib.hid hb
 clear h1 hW1 hb0 g1 hb
 by_cases hd : x.down = true
 ·rw [if_pos hd] at hR
  rw [hd] at k3
  subst hR
  clear hd
  go_enter Tryz.func46, Tryz.ntmps46
  go_upto_region 1 with (fail)
  rw [← HW1.out, ← HBW.out]
  obtain ⟨d0, d1, d2, d3, d4, d5, d6, d7, d8⟩ := HG.out.all
  obtain ⟨f0, f1, f2, f3, f4, f5, f6, f7, f8⟩ := HG.out.free
  go_wp2_with fail
  have hbx : BoxAt (((((((((W1.setCell ⟨b, 0, none⟩ (.int .i64 0)).setCell ⟨b, 1, none⟩ (.string { data := #[] })).setCell ⟨b, 2, none⟩ (.string { data := #[] })).setCell ⟨b, 3, none⟩ (.int .i64 0)).setCell ⟨b, 4, none⟩ (.int .i64 0)).setCell ⟨b, 5, none⟩ (.int .i64 0)).setCell ⟨b, 6, none⟩ (.string { data := #[] })).setCell ⟨b, 7, none⟩ (.string { data := #[] })).setCell ⟨b, 8, none⟩ (.string { data := #[] })) b Jb.none_ := nine_heap HG.out rfl _ _ _ _ _ _ _ _ _
  have hbl : Below w.heap.size w (((((((((W1.setCell ⟨b, 0, none⟩ (.int .i64 0)).setCell ⟨b, 1, none⟩ (.string { data := #[] })).setCell ⟨b, 2, none⟩ (.string { data := #[] })).setCell ⟨b, 3, none⟩ (.int .i64 0)).setCell ⟨b, 4, none⟩ (.int .i64 0)).setCell ⟨b, 5, none⟩ (.int .i64 0)).setCell ⟨b, 6, none⟩ (.string { data := #[] })).setCell ⟨b, 7, none⟩ (.string { data := #[] })).setCell ⟨b, 8, none⟩ (.string { data := #[] })) := nine_below HB0.out (Nat.le_of_eq HBW.out.symm) _ _ _ _ _ _ _ _ _
  generalize (((((((((W1.setCell ⟨b, 0, none⟩ (.int .i64 0)).setCell ⟨b, 1, none⟩ (.string { data := #[] })).setCell ⟨b, 2, none⟩ (.string { data := #[] })).setCell ⟨b, 3, none⟩ (.int .i64 0)).setCell ⟨b, 4, none⟩ (.int .i64 0)).setCell ⟨b, 5, none⟩ (.int .i64 0)).setCell ⟨b, 6, none⟩ (.string { data := #[] })).setCell ⟨b, 7, none⟩ (.string { data := #[] })).setCell ⟨b, 8, none⟩ (.string { data := #[] })) = w9 at hbx hbl ⊢
  clear d0 d1 d2 d3 d4 d5 d6 d7 d8 f0 f1 f2 f3 f4 f5 f6 f7 f8
  obtain ⟨d0, d1, d2, d3, d4, d5, d6, d7, d8⟩ := hbx.all
  exact bodyPost_ret (v := .tuple #[Jb.none_.val, .int .i64 9]) (by simp [results, Tryz.results46, go_sem, d0, d1, d2, d3, d4, d5, d6, d7, d8]; rfl) rfl ⟨rfl, hbl⟩
 ·rw [if_neg hd] at hR
  have hd' : x.down = false := by simpa using hd
  rw [hd'] at k3
  clear hd'
  rw [find_idx] at hR
  clear hd
  cases hf : x.q.jobs.findIdx? (fun j => decide ((j.id : Int) = id)) with
  | none =>
   rw [hf] at hR HI
   dsimp only [Option.bind_none] at hR
   subst hR
   clear hf
   rw [show placeI none = -1 from rfl] at HI
   go_enter Tryz.func46, Tryz.ntmps46
   go_upto_region 1 with (fail)
   rw [← HW1.out, ← HBW.out]
   go_wp2_with fail
   refine HI.out.mono ?_
   rintro e w2 ⟨rfl, hw2⟩
   have hb2 : Below W1.heap.size W1 w2 := by rw [hw2]; exact Below.refl _ _
   clear hw2 k1 k3
   have hg2 := HG.out.below hb2
   have hb02 := HB0.out.trans (hb2.mono HB0.out.size)
   obtain ⟨d0, d1, d2, d3, d4, d5, d6, d7, d8⟩ := hg2.all
   obtain ⟨f0, f1, f2, f3, f4, f5, f6, f7, f8⟩ := hg2.free
   go_wp2_with fail
   have hbx : BoxAt (((((((((w2.setCell ⟨b, 0, none⟩ (.int .i64 0)).setCell ⟨b, 1, none⟩ (.string { data := #[] })).setCell ⟨b, 2, none⟩ (.string { data := #[] })).setCell ⟨b, 3, none⟩ (.int .i64 0)).setCell ⟨b, 4, none⟩ (.int .i64 0)).setCell ⟨b, 5, none⟩ (.int .i64 0)).setCell ⟨b, 6, none⟩ (.string { data := #[] })).setCell ⟨b, 7, none⟩ (.string { data := #[] })).setCell ⟨b, 8, none⟩ (.string { data := #[] })) b Jb.none_ := nine_heap hg2 rfl _ _ _ _ _ _ _ _ _
   have hbl : Below w.heap.size w (((((((((w2.setCell ⟨b, 0, none⟩ (.int .i64 0)).setCell ⟨b, 1, none⟩ (.string { data := #[] })).setCell ⟨b, 2, none⟩ (.string { data := #[] })).setCell ⟨b, 3, none⟩ (.int .i64 0)).setCell ⟨b, 4, none⟩ (.int .i64 0)).setCell ⟨b, 5, none⟩ (.int .i64 0)).setCell ⟨b, 6, none⟩ (.string { data := #[] })).setCell ⟨b, 7, none⟩ (.string { data := #[] })).setCell ⟨b, 8, none⟩ (.string { data := #[] })) := nine_below hb02 (Nat.le_of_eq HBW.out.symm) _ _ _ _ _ _ _ _ _
   generalize (((((((((w2.setCell ⟨b, 0, none⟩ (.int .i64 0)).setCell ⟨b, 1, none⟩ (.string { data := #[] })).setCell ⟨b, 2, none⟩ (.string { data := #[] })).setCell ⟨b, 3, none⟩ (.int .i64 0)).setCell ⟨b, 4, none⟩ (.int .i64 0)).setCell ⟨b, 5, none⟩ (.int .i64 0)).setCell ⟨b, 6, none⟩ (.string { data := #[] })).setCell ⟨b, 7, none⟩ (.string { data := #[] })).setCell ⟨b, 8, none⟩ (.string { data := #[] })) = w9 at hbx hbl ⊢
   clear d0 d1 d2 d3 d4 d5 d6 d7 d8 f0 f1 f2 f3 f4 f5 f6 f7 f8
   obtain ⟨d0, d1, d2, d3, d4, d5, d6, d7, d8⟩ := hbx.all
   exact bodyPost_ret (v := .tuple #[Jb.none_.val, .int .i64 4]) (by simp [results, Tryz.results46, go_sem, d0, d1, d2, d3, d4, d5, d6, d7, d8]; rfl) rfl ⟨rfl, hbl⟩
  | some k =>
   obtain ⟨j, hj, hjid⟩ := findIdx_get hf
   rw [hf] at hR HI
   dsimp only [Option.bind_some] at hR
   rw [hj] at hR
   dsimp only at hR
   subst hR
   rw [show placeI (some k) = (k : Int) from rfl] at HI
   have HJ := Lib.hid hj
   obtain ⟨g, cap, rfl, -, hk, -⟩ := HQ.out.job hj
   clear hf hjid hj
   go_enter Tryz.func46, Tryz.ntmps46
   go_upto_region 1 with (fail)
   rw [← HW1.out, ← HBW.out]
   go_wp2_with fail
   refine HI.out.mono ?_
   rintro e w2 ⟨rfl, hw2⟩
   have hb2 : Below W1.heap.size W1 w2 := by rw [hw2]; exact Below.refl _ _
   clear hw2 k1 k3
   have hg2 := HG.out.below hb2
   have hb02 := HB0.out.trans (hb2.mono HB0.out.size)
   have hq2 := HQ.out.below hb2
   obtain ⟨-, y1, -⟩ := hq2.qa.cells
   obtain ⟨g', cap', hge, -, c0, c1, c2, c3, c4, c5, c6, c7, c8⟩ := JobsAt.cells hq2.ja k j HJ.out
   injection hge with hge _ _
   injection hge with hge
   injection hge with hge
   subst hge
   unfold strV at c1 c2 c6 c7 c8
   have HG2 := Lib.hid hg2
   have HB02 := Lib.hid hb02
   obtain ⟨d0, d1, d2, d3, d4, d5, d6, d7, d8⟩ := hg2.all
   obtain ⟨f0, f1, f2, f3, f4, f5, f6, f7, f8⟩ := hg2.free
   clear hg2 hq2 hb02 hb2
   go_wp2_with fail
   clear c0 c1 c2 c3 c4 c5 c6 c7 c8
   have hbx : BoxAt (((((((((w2.setCell ⟨b, 0, none⟩ (.int .i64 j.id)).setCell ⟨b, 1, none⟩ (.string (bytesOf j.client))).setCell ⟨b, 2, none⟩ (.string (bytesOf j.token))).setCell ⟨b, 3, none⟩ (.int .i64 j.prio)).setCell ⟨b, 4, none⟩ (.int .i64 j.state)).setCell ⟨b, 5, none⟩ (.int .i64 j.tries)).setCell ⟨b, 6, none⟩ (.string (bytesOf j.work))).setCell ⟨b, 7, none⟩ (.string (bytesOf j.point))).setCell ⟨b, 8, none⟩ (.string (bytesOf j.result))) b j := nine_heap HG2.out rfl _ _ _ _ _ _ _ _ _
   have hbl : Below w.heap.size w (((((((((w2.setCell ⟨b, 0, none⟩ (.int .i64 j.id)).setCell ⟨b, 1, none⟩ (.string (bytesOf j.client))).setCell ⟨b, 2, none⟩ (.string (bytesOf j.token))).setCell ⟨b, 3, none⟩ (.int .i64 j.prio)).setCell ⟨b, 4, none⟩ (.int .i64 j.state)).setCell ⟨b, 5, none⟩ (.int .i64 j.tries)).setCell ⟨b, 6, none⟩ (.string (bytesOf j.work))).setCell ⟨b, 7, none⟩ (.string (bytesOf j.point))).setCell ⟨b, 8, none⟩ (.string (bytesOf j.result))) := nine_below HB02.out (Nat.le_of_eq HBW.out.symm) _ _ _ _ _ _ _ _ _
   generalize (((((((((w2.setCell ⟨b, 0, none⟩ (.int .i64 j.id)).setCell ⟨b, 1, none⟩ (.string (bytesOf j.client))).setCell ⟨b, 2, none⟩ (.string (bytesOf j.token))).setCell ⟨b, 3, none⟩ (.int .i64 j.prio)).setCell ⟨b, 4, none⟩ (.int .i64 j.state)).setCell ⟨b, 5, none⟩ (.int .i64 j.tries)).setCell ⟨b, 6, none⟩ (.string (bytesOf j.work))).setCell ⟨b, 7, none⟩ (.string (bytesOf j.point))).setCell ⟨b, 8, none⟩ (.string (bytesOf j.result))) = w9 at hbx hbl ⊢
   clear d0 d1 d2 d3 d4 d5 d6 d7 d8 f0 f1 f2 f3 f4 f5 f6 f7 f8
   obtain ⟨d0, d1, d2, d3, d4, d5, d6, d7, d8⟩ := hbx.all
   exact bodyPost_ret (v := .tuple #[j.val, .int .i64 0]) (by simp [results, Tryz.results46, go_sem, d0, d1, d2, d3, d4, d5, d6, d7, d8]; rfl) rfl ⟨rfl, hbl⟩
theorem rfCompact_did (P : RQP) (v : Value) (x : Qst) (w : World) (h : RQD P v x w) :
  Calls Tryz.prog 38 #[.pointer (some ⟨P.p, 0, none⟩)] w fun e w' => RDid P v (.int .i64 x.compact.1) x.compact.2 w e w' := by
 have HQ := Lib.hid h
 obtain ⟨k0, -, -, k3, -, -, -⟩ := h.qa.cells
 obtain ⟨R, hR⟩ : ∃ R, R = x.compact := ⟨_, rfl⟩
 rw [← hR]
 unfold Qst.compact at hR
 by_cases hd : x.down = true
 ·rw [if_pos hd] at hR
  rw [hd] at k3
  subst hR
  clear hd h
  go_enter Tryz.func38, Tryz.ntmps38
  go_wp2_with fail
  go_ret
  exact ⟨rfl, v, HQ.out, RStp.refl _ _ _⟩
 ·rw [if_neg hd] at hR
  have hdf : x.down = false := by simpa using hd
  rw [hdf] at k3
  have HDF := Lib.hid hdf
  have HR := Lib.hid hR
  clear hd h hR hdf
  go_enter Tryz.func38, Tryz.ntmps38
  go_upto_region 3 with (fail)
  refine wp_region_heldL (fun w' => w'.cell? ⟨P.p, 0, none⟩ = some (.pointer (some ⟨P.d, 0, none⟩))) (by kernel_rfl) k0 (fun hHeld => ?_)
  refine tkH 0 (v := ?_) rfl ?_ ?_
  rotate_left
  ·(intro wq hSq; (try dsimp only at hSq); go_simp; try with_reducible rfl)
  try simp only [q0P, q0Q, q0R, q0S]
  refine tkH 1 (v := ?_) rfl ?_ ?_
  rotate_left
  ·(intro wq hSq; (try dsimp only at hSq); go_simp; try with_reducible rfl)
  try simp only [q0P, q0Q, q0R, q0S]
  refine tkH 2 (v := ?_) rfl ?_ ?_
  rotate_left
  ·(intro wq hSq; (try dsimp only at hSq); go_simp; try with_reducible rfl)
  try simp only [q0P, q0Q, q0R, q0S]
  refine tkH 3 (v := ?_) rfl ?_ ?_
  rotate_left
  ·(intro wq hSq; (try dsimp only at hSq); go_simp; try with_reducible rfl)
  try simp only [q0P, q0Q, q0R, q0S]
  refine tkH 4 (v := ?_) rfl ?_ ?_
  rotate_left
  ·(intro wq hSq; (try dsimp only at hSq); go_simp; try with_reducible rfl)
  try simp only [q0P, q0Q, q0R, q0S]
  refine tkH 5 (v := ?_) rfl ?_ ?_
  rotate_left
  ·(intro wq hSq; (try dsimp only at hSq); go_simp; try with_reducible rfl)
  try simp only [q0P, q0Q, q0R, q0S]
  refine wpAnyH_stepL 6 (by kernel_rfl) rfl (fun K hK => ?_)
  go_simp
  go_at_call 84
  have hqd := HQ.out.drew
  refine (show Calls Tryz.prog 84 #[.pointer (some ⟨P.p, 0, none⟩)] w.drew _ from rfshort_any P.p _ v x.down x.q w.drew hqd.qa hqd.ja hqd.fine.ok).mono ?_
  rintro e w2 ⟨⟨u, rfl, hu⟩, hb2d⟩
  have hq2 := hqd.below hb2d
  have hk2 : Kp (RMine P v) w w2 := Kp.of_below ((Below.refl _ w).drew.trans hb2d)
  have HQ2 := Lib.hid hq2
  have HK2 := Lib.hid hk2
  obtain ⟨m0, -⟩ := hq2.qa.cells
  have HRW := Lib.hid (rRewrite_any P.d P.b x.d x.q.short u w2 hu.reads hq2.dk hq2.good.ok)
  have HPR := Lib.hid (rewritten_post hq2.good x.q.short)
  clear hqd hb2d hq2 hk2 hu
  refine hK.out _ _ m0 (fun hS2 => ?_)
  clear hK K hHeld k0
  try simp only [q0P, q0Q, q0R, q0S]
  refine wpAnyH_stepL 7 (by kernel_rfl) rfl (fun K hK => ?_)
  go_simp
  go_at_call 83
  refine HRW.out.mono ?_
  obtain ⟨B, hB⟩ : ∃ B, B = x.d.rewritten x.q.short := ⟨_, rfl⟩
  have hR2 := HR.out
  rw [← hB] at hR2 HPR ⊢
  have HR2 := Lib.hid hR2
  clear hB hR2 HR HRW
  obtain ⟨b1, b2⟩ := B
  dsimp only at HR2 HPR ⊢
  rintro e w3 ⟨rfl, hd3, hk3⟩
  have hq3 := HQ2.out.disk hk3 hd3 HPR.out.good
  have HQ3 := Lib.hid hq3
  have HK3 := Lib.hid (HK2.out.trans (rkp_two (v := v) hk3))
  obtain ⟨m0, -⟩ := hq3.qa.cells
  have HM := Lib.hid (rfmet_any P v _ b1 w3 hq3)
  refine hK.out _ _ m0 (fun hS3 => ?_)
  clear hK K hS2 hd3 hk3 hq3
  try simp only [q0P, q0Q, q0R, q0S]
  refine wpAnyH_stepL 8 (by kernel_rfl) rfl (fun K hK => ?_)
  go_simp
  go_at_call 82
  refine HM.out.mono ?_
  rintro e w4 ⟨rfl, hq4, hk4⟩
  obtain ⟨m0, -⟩ := hq4.qa.cells
  have HQ4 := Lib.hid hq4
  have HK4 := Lib.hid (HK3.out.trans hk4)
  refine hK.out _ _ m0 (fun hS4 => ?_)
  clear hK K hS3 hq4 hk4
  try simp only [q0P, q0Q, q0R, q0S]
  refine tkH 9 (v := ?_) rfl ?_ ?_
  rotate_left
  ·(intro wq hSq; (try dsimp only at hSq); go_simp; try with_reducible rfl)
  try simp only [q0P, q0Q, q0R, q0S]
  refine wpAnyH_end (by kernel_rfl) ?_
  go_wp2_with fail
  go_ret
  rw [HR2.out]
  have hq := HQ4.out
  rw [HDF.out, Bool.false_or] at hq
  exact ⟨rfl, _, hq, RStp.of_kp HK4.out⟩
end
/- Walks: the reference's queue of jobs: List, Forget. Printed by gen_rd8.py. -/
section
open Go.RowKit Go.Shelf
theorem jobsL_erase (js : List Jb) (k : Nat) : jobsL (js.eraseIdx k) = jobsL (js.take k) ++ jobsL (js.drop (k + 1)) := by
 rw [List.eraseIdx_eq_take_drop_succ, jobsL_append]
/-- 'append(s, t...)' of a piece of jobs to a row that is owned. -/
theorem run_appJ (w : World) (B n m c : Nat) (ty : TypeId) (ad : Addr) (v : Value) (xs news : List Value) (hown : w.owns B 48 9 v n xs) (hl : news.length = m * 9)
  (hcells : ∀ j u, news[j]? = some u → w.cell? (ad.add j) = some u) (h1 : ∀ u ∈ news, u.oneCell' = true) (hn : n + m ≤ 100000) (hB : B ≤ w.heap.size) :
  ∃ v' w', (Builtin.append_ #[52, 52] ty #[v, .slice (some ad) m c]).run Tryz.prog w = .ok v' w' ∧ w'.owns B 48 9 v' (n + m) (xs ++ news) ∧ w.grownBy w' v.ownBlock := by
 obtain ⟨i0, hi0, hi1, hi2, hi3⟩ : ∃ i0, Tryz.prog.info? 48 = some i0 ∧ i0.zero = some jobZero ∧ i0.size = 9 ∧ i0.bytes = 112 := by
  have := infoJob3
  cases h : Tryz.prog.info? 48 with
  | none => rw [h] at this; cases this
  | some i0 => rw [h] at this; simp at this; exact ⟨i0, rfl, this.1, this.2.1, this.2.2⟩
 obtain ⟨v', w', h2, h3, h4, -⟩ := run_append_owns (P := Tryz.prog) w B 52 ty 48 i0 jobZero 9 112 Tryz.underlying52 hi0 hi1 hi2 hi3 rfl (by decide) v n xs hown ad m c news hl hcells h1 (by unfold maxLen; omega) (by omega) hB
 exact ⟨v', w', h2, h3, h4⟩
theorem step_appJ {w : World} {ops : Array Oper} {o : Oper} {a : Act} {K : Act → World → Prop} {Q : Exit → Act → World → Prop} {E : Prop} (hgd : o.guard = none) (s x : Operand)
  (ho : o.op = .call { callee := .builtin .append, args := #[s, x], argTypes := #[52, 52] })
  (B n m c : Nat) (ad : Addr) (v : Value) (xs news : List Value) (hs : a.eval s = v) (hx : a.eval x = .slice (some ad) m c) (hown : w.owns B 48 9 v n xs) (hl : news.length = m * 9)
  (hcells : ∀ j u, news[j]? = some u → w.cell? (ad.add j) = some u) (h1 : ∀ u ∈ news, u.oneCell' = true) (hn : n + m ≤ 100000) (hB : B ≤ w.heap.size)
  (h : ∀ v' w', w'.owns B 48 9 v' (n + m) (xs ++ news) → w.grownBy w' v.ownBlock → K (a.put o.dst v') w') :
  if Region.wanted o (yielded ops a.tmps) = true then Oper.wp Tryz.prog o a w K Q else E := by
 have hw : Region.wanted o (yielded ops a.tmps) = true := by simp [Region.wanted, hgd]
 rw [if_pos hw]
 obtain ⟨v', w', hr, h2, h3⟩ := run_appJ w B n m c o.type ad v xs news hown hl hcells h1 hn hB
 unfold Oper.wp execOp
 simp only [ho, resolve, invoke, builtin, Sem.run_bind, Sem.run_pure, Result.andThen_ok, List.map_toArray, List.map_cons, List.map_nil, hs, hx, hr]
 exact h v' w' h2 h3
/-- 'append([]Job{}, l...)': all jobs, in a row of their own. -/
theorem run_allJ (w : World) (ty : TypeId) (js : List Jb) (v : Value) (B : Nat) (hv : w.owns B 48 9 v js.length (jobsL js)) (hl : js.length ≤ 1000) :
  ∃ v' w', (Builtin.append_ #[52, 52] ty #[.slice (some ⟨w.heap.size, 0, none⟩) 0 0, v]).run Tryz.prog (w.alloc (.cells #[] 48)) = .ok v' w' ∧ w'.owns w.heap.size 48 9 v' js.length (jobsL js) ∧ Below w.heap.size w w' := by
 obtain ⟨i0, hi0, hi1⟩ : ∃ i0, Tryz.prog.info? 48 = some i0 ∧ i0.size = 9 := by
  have := infoJob3
  cases h : Tryz.prog.info? 48 with
  | none => rw [h] at this; cases this
  | some i0 => rw [h] at this; simp at this; exact ⟨i0, rfl, this.2.1⟩
 have hbb : Below w.heap.size w (w.alloc (.cells #[] 48)) := (Below.refl _ w).alloc (Nat.le_refl _) _
 rcases hv.2 with ⟨rfl, h0⟩ | ⟨g, c, cur, fz, rfl, _, _, _, hnc, hcm, _, _⟩
 ·have hjs : js = [] := List.eq_nil_of_length_eq_zero h0
  subst hjs
  exact ⟨_, _, run_append_nothing _ 52 52 ty 48 i0 Tryz.underlying52 hi0 _ 0 0 (Nat.le_refl _) _ (Src.ofNil _ Tryz.underlying52 0), owns_empty9 w, hbb⟩
 ·obtain ⟨v', w', h2, h3, h4⟩ := run_appJ (w.alloc (.cells #[] 48)) w.heap.size 0 js.length c ty ⟨g, 0, none⟩ (.slice (some ⟨w.heap.size, 0, none⟩) 0 0) [] (jobsL js) (owns_empty9 w) (jobsL_length js) (fun i u hu => by
   rw [addr_add, Nat.zero_add]
   exact World.owns.cell (hv.alloc _) _ _ hu) (jobsL_one js) (by omega) (by simp)
  rw [List.nil_append, Nat.zero_add] at h3
  exact ⟨v', w', h2, h3, hbb.trans (below_grown (owns_empty9 w) h4 w.heap.size (Nat.le_refl _) (by simp))⟩
theorem rfList_did (P : RQP) (v : Value) (x : Qst) (w : World) (h : RQD P v x w) :
  Calls Tryz.prog 48 #[.pointer (some ⟨P.p, 0, none⟩)] w (OwnJobs w x.list) := by
 obtain ⟨HPOST, hpost⟩ : ∃ R, R = OwnJobs w x.list := ⟨_, rfl⟩
 rw [← hpost]
 have HP := Lib.hid hpost
 clear hpost
 obtain ⟨-, k1, -, k3, -, -, -⟩ := h.qa.cells
 have hlen := h.fine.ok.len
 by_cases hd : x.down = true
 ·have HL : Hid (x.list = []) := by show _ = _; unfold Qst.list; rw [if_pos hd]
  rw [hd] at k3
  clear hd h
  go_enter Tryz.func48, Tryz.ntmps48
  go_wp2_with fail
  rw [HP.out, HL.out]
  exact ⟨⟨_, rfl, World.owns_nil _ _ _ _⟩, Below.refl _ _⟩
 ·have HL : Hid (x.list = x.q.jobs) := by show _ = _; unfold Qst.list; rw [if_neg hd]
  have hd' : x.down = false := by simpa using hd
  rw [hd'] at k3
  have k1a : (w.alloc (.cells #[] 48)).cell? ⟨P.p, 1, none⟩ = some v := (World.cell?_alloc_lt w _ ⟨P.p, 1, none⟩ (lt_of_heap h.qa)).trans k1
  obtain ⟨v4, w4, hr4, ho4, hb4⟩ := run_allJ w 52 x.q.jobs v 0 h.ja (by omega)
  have HR4 := Lib.hid hr4
  have HO4 := Lib.hid ho4
  have HB4 := Lib.hid hb4
  clear hd hd' h k1 hr4 ho4 hb4
  go_enter Tryz.func48, Tryz.ntmps48
  go_wp2_with (at_builtin; refine wpList_app_run _ rfl (.tmp 7) (.tmp 11) 52 52 rfl _ _ rfl rfl HR4.out ?_)
  rw [HP.out, HL.out]
  exact ⟨⟨_, rfl, HO4.out⟩, HB4.out⟩
/-- The jobs' row is a new one. -/
theorem RQD.newRow {P : RQP} {v v' : Value} {x : Qst} {w w' : World} {q' : Qs} (h : RQD P v x w) (hb : Below w.heap.size w w') (hv : w'.owns w.heap.size 48 9 v' q'.jobs.length (jobsL q'.jobs)) (hf : q'.fine) (hl : q'.last = x.q.last) :
  RQD P v' { x with q := q' } (w'.setCell ⟨P.p, 1, none⟩ v') ∧ RStp P v v' w (w'.setCell ⟨P.p, 1, none⟩ v') := by
 have h1 := h.below hb
 have hlp : P.p < w.heap.size := lt_of_heap h.qa
 have hld : P.d < w.heap.size := lt_of_heap h.dk.at_
 have hlb : P.b < w.heap.size := h.dk.half.lt
 have hne : ∀ k, k < w.heap.size → v'.ownBlock ≠ some k := fun k hk e => by have := (hv.lt k e).1; omega
 refine ⟨⟨?_, (World.owns.mono hv (Nat.zero_le _)).setCell_ne (a := ⟨P.p, 1, none⟩) (hne _ hlp) _, h1.dk.other h.np.1 h.np.2 _, h.np, ⟨hne _ hld, hne _ hlb⟩, hf, h.good⟩, ⟨(Kp.of_below hb).setCell (a := ⟨P.p, 1, none⟩) (.inl rfl) _, fun k e => .inr (hv.lt k e).1⟩⟩
 have := h1.qa.set1 v'
 rw [← hl] at this
 exact this
theorem pieces (js : List Jb) (k n : Nat) (hn : n = js.length) (hk : k < n) (hl : n ≤ 100000) :
  (jobsL (js.take k)).length = k * 9 ∧ (jobsL (js.drop (k + 1))).length = (n - (k + 1)) * 9 ∧ (∀ (i : Nat) (u : Value), (jobsL (js.take k))[i]? = some u → (jobsL js)[i]? = some u) ∧ (∀ (i : Nat) (u : Value), (jobsL (js.drop (k + 1)))[i]? = some u → (jobsL js)[(k + 1) * 9 + i]? = some u) ∧ 0 + k ≤ 100000 := by
 subst hn
 refine ⟨by rw [jobsL_length, List.length_take]; congr 1; omega, by rw [jobsL_length, List.length_drop], fun i u h => ?_, fun i u h => ?_, by omega⟩
 ·rw [← jobsL_take js k (by omega), List.getElem?_take] at h
  split at h
  ·exact h
  ·cases h
 ·rw [← jobsL_drop js (k + 1) (by omega), List.getElem?_drop] at h
  exact h
theorem rfForget_did (P : RQP) (v : Value) (x : Qst) (id : Int) (w : World) (h : RQD P v x w) :
  Calls Tryz.prog 36 #[.pointer (some ⟨P.p, 0, none⟩), .int .i64 id] w fun e w' => RDid P v (.int .i64 (x.forget id).1) (x.forget id).2 w e w' := by
 have HQ := Lib.hid h
 obtain ⟨R, hR⟩ : ∃ R, R = x.forget id := ⟨_, rfl⟩
 rw [← hR]
 unfold Qst.forget Qst.some_ at hR
 obtain ⟨-, k1, -, k3, -, -, -⟩ := h.qa.cells
 by_cases hd : x.down = true
 ·rw [if_pos hd] at hR
  dsimp only at hR
  subst hR
  rw [hd] at k3
  clear hd h
  go_enter Tryz.func36, Tryz.ntmps36
  go_wp2_with fail
  go_ret
  exact ⟨rfl, v, HQ.out, RStp.refl _ _ _⟩
 rw [if_neg hd] at hR
 have hd' : x.down = false := by simpa using hd
 rw [hd'] at k3
 have hlen := h.fine.ok.len
 have HI := Lib.hid (rfat_any P.p _ v x.q.last x.down x.q.jobs id w h.qa h.ja (by omega))
 clear hd hd'
 cases hf : x.q.jobs.findIdx? (fun j => decide ((j.id : Int) = id)) with
 | none =>
  rw [hf] at hR HI
  dsimp only at hR
  subst hR
  clear hf h
  rw [show placeI none = -1 from rfl] at HI
  go_enter Tryz.func36, Tryz.ntmps36
  go_wp2_with fail
  refine HI.out.mono ?_
  rintro e w2 ⟨rfl, rfl⟩
  go_wp2_with fail
  go_ret
  exact ⟨rfl, v, HQ.out, RStp.refl _ _ _⟩
 | some k =>
  obtain ⟨j, hj, hjid⟩ := findIdx_get hf
  rw [hf] at hR HI
  dsimp only at hR
  rw [hj] at hR
  dsimp only at hR
  rw [show placeI (some k) = (k : Int) from rfl] at HI
  have HJ := Lib.hid hj
  have hjo := h.fine.ok.job j (List.mem_of_getElem? hj)
  have HE := Lib.hid (fun W => rfended_any j.state W)
  obtain ⟨g, cap, rfl, -, hk, -⟩ := h.job hj
  obtain ⟨c4, -⟩ := job_cell h.ja hj (by omega : 4 < 9) rfl
  have HID := Lib.hid (show (j.id : Int) = id by simpa using hjid)
  by_cases hst : endedB j.state = true
  case neg =>
   rw [if_pos hst] at hR
   dsimp only at hR
   subst hR
   have hst' : endedB j.state = false := by simpa using hst
   rw [hst'] at HE
   clear hst hst' hf hjid h hj hjo
   go_enter Tryz.func36, Tryz.ntmps36
   go_wp2_with fail
   refine HI.out.mono ?_
   rintro e w2 ⟨rfl, rfl⟩
   go_wp2_with fail
   refine (HE.out w2).mono ?_
   rintro e w3 ⟨rfl, rfl⟩
   go_wp2_with fail
   go_ret
   exact ⟨rfl, _, HQ.out, RStp.refl _ _ _⟩
  rw [if_neg (by simpa using hst)] at hR
  dsimp only at hR
  rw [hst] at HE
  have HST := Lib.hid hst
  subst HID
  have hjo2 := h.fine.ok.job j (List.mem_of_getElem? hj)
  have hlast := h.fine.ok.last
  have HN8 := Lib.hid (fun W => rfbytes_any j.id 8 (by have := hjo2.id1; omega) (by omega) (by omega) W)
  have f1 := rec_fold 5 5 rfl j.id
  have z0 : (bytesOf (numB j.id 8)).size = 8 := numB_length _ _
  have htl : (recB 5 j.id).length ≤ 100000000 := by rw [recB_length]; omega
  obtain ⟨T, hT⟩ : ∃ T, T = recB 5 j.id := ⟨_, rfl⟩
  rw [← hT] at hR htl f1
  have hq1 := note_q x T
  have HNT := Lib.hid (fun v W (hW : RQD P v x W) => rfnote_any P v x T htl W hW)
  unfold Qst.noted at hR
  obtain ⟨N, hN⟩ : ∃ N, N = x.note T := ⟨_, rfl⟩
  rw [← hN] at hR HNT hq1
  obtain ⟨n1, n2⟩ := N
  dsimp only at hR HNT hq1
  have HEQ := Lib.hid hq1
  unfold strV at HNT
  generalize numB j.id 8 = R0 at HN8 z0 f1
  have HFX := Lib.hid (h.fine.erase k)
  by_cases h0 : n1 = 0
  ·rw [if_pos h0] at hR
   subst h0
   have HR := Lib.hid hR
   clear hst hf hjid h hj hjo hR hT hN htl hq1 hjo2 c4
   go_enter Tryz.func36, Tryz.ntmps36
   go_wp2_with fail
   refine HI.out.mono ?_
   rintro e w2 ⟨rfl, rfl⟩
   obtain ⟨c4, -⟩ := job_cell HQ.out.ja HJ.out (by omega : 4 < 9) rfl
   go_wp2_with fail
   refine (HE.out w2).mono ?_
   rintro e w3 ⟨rfl, rfl⟩
   go_wp2_with fail
   refine (show Calls Tryz.prog 78 #[.int .i64 (j.id : Int), .int .i64 8] w3 _ from HN8.out w3).mono ?_
   rintro e w4 ⟨rfl, hb4⟩
   have HB4 := Lib.hid hb4
   clear hb4
   go_wp2_with fail
   refine (HNT.out _ w4 (HQ.out.below HB4.out)).mono ?_
   rintro e w5 ⟨rfl, hq5, hk5⟩
   have HQ5 := Lib.hid hq5
   have HK5 := Lib.hid ((RStp.of_below (P := P) (v := .slice (some ⟨g, 0, none⟩) x.q.jobs.length cap) HB4.out).trans (RStp.of_kp hk5))
   obtain ⟨js, hjs⟩ : ∃ js, js = x.q.jobs := ⟨_, rfl⟩
   have RQ : Hid (RQueueAt w5 P.p (.pointer (some ⟨P.d, 0, none⟩)) (.slice (some ⟨g, 0, none⟩) x.q.jobs.length cap) n2.q.last n2.down) := hq5.qa
   have OWN : Hid (w5.owns 0 48 9 (.slice (some ⟨g, 0, none⟩) x.q.jobs.length cap) x.q.jobs.length (jobsL js)) := by
    have := hq5.ja
    rw [HEQ.out] at this
    rw [hjs]; exact this
   obtain ⟨n, hn⟩ : ∃ n, n = x.q.jobs.length := ⟨_, rfl⟩
   rw [← hn] at RQ OWN hk hlen HK5 HQ5 ⊢
   have HN : Hid (n = js.length) := by show _ = _; rw [hjs]; exact hn
   have hcap : n ≤ cap := by
    rcases OWN.out.2 with ⟨e, _⟩ | ⟨_, _, _, _, e, _, _, _, hnc, _⟩
    ·cases e
    ·injection e with _ _ e; omega
   have hkn : k < n := hk
   obtain ⟨kq, hkq⟩ : ∃ kq, kq = k + 1 := ⟨_, rfl⟩
   have HKQ := Lib.hid hkq
   have HPC : Hid ((jobsL (js.take k)).length = k * 9 ∧ (jobsL (js.drop kq)).length = (n - kq) * 9 ∧ (∀ (i : Nat) (u : Value), (jobsL (js.take k))[i]? = some u → (jobsL js)[i]? = some u) ∧ (∀ (i : Nat) (u : Value), (jobsL (js.drop kq))[i]? = some u → (jobsL js)[kq * 9 + i]? = some u) ∧ 0 + k ≤ 100000) := Lib.hid (by rw [hkq]; exact pieces js k n HN.out hkn (by omega))
   have HPD : Hid (k + (n - kq) ≤ 100000) := Lib.hid (by omega)
   have HPE : Hid (k + (n - kq) = (js.eraseIdx k).length) := Lib.hid (by rw [List.length_eraseIdx, if_pos (by rw [← HN.out]; exact hkn), ← HN.out]; omega)
   obtain ⟨A, hA⟩ : ∃ A : Addr, (if cap = kq then some (⟨g, 0, none⟩ : Addr) else some ⟨g, kq * 9, none⟩) = some A := by
    by_cases h : cap = kq
    ·exact ⟨_, if_pos h⟩
    ·exact ⟨_, if_neg h⟩
   have HPA : Hid (∀ (i : Nat) (u : Value), (jobsL (js.drop kq))[i]? = some u → A.add i = ⟨g, kq * 9 + i, none⟩) := Lib.hid (fun i u hu => by
    have hi := (List.getElem?_eq_some_iff.1 hu).1
    rw [HPC.out.2.1] at hi
    rw [if_neg (by omega)] at hA
    injection hA with hA
    rw [← hA, addr_add])
   have hki : (k : Int) + 1 = (kq : Int) := by omega
   have hkw : IntKind.i64.wrap (kq : Int) = (kq : Int) := IntWalk.i64_in _ ⟨by omega, by have := HPD.out; have := HPC.out.2.2.2.2; omega⟩
   have hkc : (k : Int) ≤ (cap : Int) := by omega
   have hkn1 : (kq : Int) ≤ (n : Int) := by omega
   have hkn2 : kq ≤ n := by omega
   have hkn3 : k ≤ cap := by omega
   clear hkq
   have HJS := Lib.hid hjs
   have HNN := Lib.hid hn
   obtain ⟨-, y1, -⟩ := RQ.out.cells
   have hwk : Hid (∃ z : Nat, z = w5.heap.size) := ⟨_, rfl⟩
   clear hq5 hk5 c4 k1 k3 hjs hn z0 f1
   go_upto_region 10 with (fail)
   refine wp_region_late (fun w' => w'.cell? ⟨P.p, 1, none⟩ = some (.slice (some ⟨g, 0, none⟩) n cap)) (fun j => decide (j = 19)) (by kernel_rfl) y1 (fun hS => ?_)
   refine tkD 0 (v := ?_) rfl ?_ ?_
   rotate_left
   ·(intro wq hSq; (try dsimp only at hSq); go_simp; try with_reducible rfl)
   try simp only [q0P, q0Q, q0R, q0S]
   refine tkD 2 (v := ?_) rfl ?_ ?_
   rotate_left
   ·(intro wq hSq; (try dsimp only at hSq); go_simp; try with_reducible rfl)
   try simp only [q0P, q0Q, q0R, q0S]
   refine tkD 3 (v := ?_) rfl ?_ ?_
   rotate_left
   ·(intro wq hSq; (try dsimp only at hSq); go_simp; try with_reducible rfl)
   try simp only [q0P, q0Q, q0R, q0S]
   refine tkD 4 (v := ?_) rfl ?_ ?_
   rotate_left
   ·(intro wq hSq; (try dsimp only at hSq); go_simp; try with_reducible rfl)
   try simp only [q0P, q0Q, q0R, q0S]
   refine tkD 5 (v := ?_) rfl ?_ ?_
   rotate_left
   ·(intro wq hSq; (try dsimp only at hSq); go_simp; try with_reducible rfl)
   try simp only [q0P, q0Q, q0R, q0S]
   refine tkD 6 (v := ?_) rfl ?_ ?_
   rotate_left
   ·(intro wq hSq; (try dsimp only at hSq); go_simp; try with_reducible rfl)
   try simp only [q0P, q0Q, q0R, q0S]
   refine tkD 7 (v := ?_) rfl ?_ ?_
   rotate_left
   ·(intro wq hSq; (try dsimp only at hSq); go_simp; try with_reducible rfl)
   try simp only [q0P, q0Q, q0R, q0S]
   refine tkD 9 (v := ?_) rfl ?_ ?_
   rotate_left
   ·(intro wq hSq; (try dsimp only at hSq); go_simp; try with_reducible rfl)
   try simp only [q0P, q0Q, q0R, q0S]
   refine tkD 10 (v := ?_) rfl ?_ ?_
   rotate_left
   ·(intro wq hSq; (try dsimp only at hSq); go_simp; try with_reducible rfl)
   try simp only [q0P, q0Q, q0R, q0S]
   refine tkD 11 (v := ?_) rfl ?_ ?_
   rotate_left
   ·(intro wq hSq; (try dsimp only at hSq); go_simp; try with_reducible rfl)
   try simp only [q0P, q0Q, q0R, q0S]
   refine tkD 12 (v := ?_) rfl ?_ ?_
   rotate_left
   ·(intro wq hSq; (try dsimp only at hSq); go_simp; try with_reducible rfl)
   try simp only [q0P, q0Q, q0R, q0S]
   refine tkD 13 (v := ?_) rfl ?_ ?_
   rotate_left
   ·(intro wq hSq; (try dsimp only at hSq); go_simp; try with_reducible rfl)
   try simp only [q0P, q0Q, q0R, q0S]
   refine tkD 14 (v := ?_) rfl ?_ ?_
   rotate_left
   ·(intro wq hSq; (try dsimp only at hSq); go_simp; try with_reducible rfl)
   try simp only [q0P, q0Q, q0R, q0S]
   refine tkD 15 (v := ?_) rfl ?_ ?_
   rotate_left
   ·(intro wq hSq; (try dsimp only at hSq); go_simp; try with_reducible rfl)
   try simp only [q0P, q0Q, q0R, q0S]
   refine wpAnyD_keep 1 (by kernel_rfl) rfl (fun K hK => ?_)
   go_simp
   have hbA : Below w5.heap.size w5 (w5.alloc (.cells #[] 48)).drew := ((Below.refl w5.heap.size w5).alloc (Nat.le_refl _) _).drew
   have hoA : (w5.alloc (.cells #[] 48)).drew.owns w5.heap.size 48 9 (.slice (some ⟨w5.heap.size, 0, none⟩) 0 0) 0 [] := owns_empty9 w5
   have OWA := Lib.hid (OWN.out.below hbA)
   have RQA := Lib.hid (RQ.out.below hbA)
   obtain ⟨-, kA, -⟩ := RQA.out.cells
   have HBA := Lib.hid hbA
   have HOA := Lib.hid hoA
   have HZA : Hid (w5.heap.size ≤ (w5.alloc (.cells #[] 48)).drew.heap.size) := hbA.size
   refine hK.out _ _ kA (fun hS2 => ?_)
   clear hK K hS hbA hoA kA
   try simp only [q0P, q0Q, q0R, q0S]
   refine wpAnyD_keep 8 (by kernel_rfl) rfl (fun K hK => ?_)
   refine step_appJ (by rfl) (.tmp 34) (.tmp 40) (by rfl) w5.heap.size 0 k cap ⟨g, 0, none⟩ (.slice (some ⟨w5.heap.size, 0, none⟩) 0 0) [] (jobsL (js.take k)) (by rfl) (by rfl) HOA.out HPC.out.1 (fun i u hu => by
    rw [addr_add, Nat.zero_add]
    exact World.owns.cell OWA.out _ _ (HPC.out.2.2.1 i u hu)) (jobsL_one _) HPC.out.2.2.2.2 HZA.out ?_
   intro v7 w7 ho7 hg7
   rw [List.nil_append, Nat.zero_add] at ho7
   have hb7 : Below w5.heap.size w5 w7 := HBA.out.trans (below_grown HOA.out hg7 w5.heap.size (Nat.le_refl _) HZA.out)
   have OW7 := Lib.hid (OWN.out.below hb7)
   have RQ7 := Lib.hid (RQ.out.below hb7)
   obtain ⟨-, k7, -⟩ := RQ7.out.cells
   have HO7 := Lib.hid ho7
   have HB7 := Lib.hid hb7
   obtain ⟨a7, c7, hv7⟩ : ∃ a c, v7 = .slice a k c := by
    rcases ho7.2 with ⟨e, h0⟩ | ⟨g, c, _, _, e, _⟩
    ·exact ⟨none, 0, by rw [e, h0]⟩
    ·exact ⟨_, c, e⟩
   subst hv7
   refine hK.out _ _ k7 (fun hS3 => ?_)
   clear hK K hS2 hb7 ho7 hg7 k7
   try simp only [q0P, q0Q, q0R, q0S]
   refine wpAnyD_keep 16 (by kernel_rfl) rfl (fun K hK => ?_)
   refine step_appJ (by rfl) (.tmp 41) (.tmp 48) (by rfl) w5.heap.size k (n - kq) (cap - kq) A (.slice a7 k c7) (jobsL (js.take k)) (jobsL (js.drop kq)) (by rfl) (by rfl) HO7.out HPC.out.2.1 (fun i u hu => by
    rw [HPA.out i u hu]
    exact World.owns.cell OW7.out _ _ (HPC.out.2.2.2.1 i u hu)) (jobsL_one _) HPD.out HB7.out.size ?_
   intro v8 w8 ho8 hg8
   rw [HKQ.out, ← jobsL_erase, ← HKQ.out, HPE.out] at ho8
   have hb8 : Below w5.heap.size w5 w8 := HB7.out.trans (below_grown HO7.out hg8 w5.heap.size (Nat.le_refl _) HB7.out.size)
   have RQ8 := Lib.hid (RQ.out.below hb8)
   obtain ⟨-, k8, -, -, z8, -, -⟩ := RQ8.out.cells
   have HO8 := Lib.hid ho8
   have HB8 := Lib.hid hb8
   obtain ⟨a8, l8, c8, hv8⟩ : ∃ a l c, v8 = .slice a l c := by
    rcases ho8.2 with ⟨e, h0⟩ | ⟨g, c, _, _, e, _⟩
    ·exact ⟨none, _, 0, e⟩
    ·exact ⟨_, _, c, e⟩
   subst hv8
   refine hK.out _ _ k8 (fun hS4 => ?_)
   clear hK K hS3 hb8 ho8 hg8
   try simp only [q0P, q0Q, q0R, q0S]
   refine tkW 17 (v := ?_) rfl ?_ ?_
   rotate_left
   ·(intro wq hSq; (try dsimp only at hSq); go_simp; try with_reducible rfl)
   try simp only [q0P, q0Q, q0R, q0S]
   refine tkW 18 (v := ?_) rfl ?_ ?_
   rotate_left
   ·(intro wq hSq; (try dsimp only at hSq); go_simp; try with_reducible rfl)
   try simp only [q0P, q0Q, q0R, q0S]
   refine wpAnyD_step 19 (by kernel_rfl) rfl rfl (fun K hK => ?_)
   go_simp
   refine hK.out _ _ ?_
   clear hK K hS4
   try simp only [q0P, q0Q, q0R, q0S]
   refine wpAnyD_end (by kernel_rfl) ?_
   obtain ⟨r1, r2⟩ := HQ5.out.newRow (q' := { x.q with jobs := x.q.jobs.eraseIdx k }) HB8.out (by have := HO8.out; rw [HJS.out] at this; exact this) HFX.out (by rw [HEQ.out])
   have HR1 := Lib.hid r1
   have HR2 := Lib.hid (HK5.out.trans r2)
   clear r1 r2
   go_wp2_with fail
   go_ret
   rw [HR.out]
   have h2 := HR2.out
   rw [HNN.out] at h2
   exact ⟨rfl, _, HR1.out, h2⟩
  ·rw [if_neg h0] at hR
   have HR := Lib.hid hR
   have h0' : (n1 == 0) = false := by rw [beq_eq_false_iff_ne]; exact h0
   clear hst hf hjid h hj hjo hR hT hN htl hq1 hjo2 c4 h0
   go_enter Tryz.func36, Tryz.ntmps36
   go_wp2_with fail
   refine HI.out.mono ?_
   rintro e w2 ⟨rfl, rfl⟩
   obtain ⟨c4, -⟩ := job_cell HQ.out.ja HJ.out (by omega : 4 < 9) rfl
   go_wp2_with fail
   refine (HE.out w2).mono ?_
   rintro e w3 ⟨rfl, rfl⟩
   go_wp2_with fail
   refine (show Calls Tryz.prog 78 #[.int .i64 (j.id : Int), .int .i64 8] w3 _ from HN8.out w3).mono ?_
   rintro e w4 ⟨rfl, hb4⟩
   have HB4 := Lib.hid hb4
   clear hb4
   go_wp2_with fail
   refine (HNT.out _ w4 (HQ.out.below HB4.out)).mono ?_
   rintro e w5 ⟨rfl, hq5, hk5⟩
   have hk := (RStp.of_below (P := P) (v := .slice (some ⟨g, 0, none⟩) x.q.jobs.length cap) HB4.out).trans (RStp.of_kp hk5)
   go_wp2_with fail
   go_ret
   rw [HR.out]
   exact ⟨rfl, _, hq5, hk⟩
end
/- Walks: the reference's queue of jobs: Submit. Printed by gen_rd9.py. -/
section
open Go.RowKit Go.Shelf
/-- A job is appended to the row, in its cell. -/
theorem RQD.pushed {P : RQP} {v v' : Value} {x : Qst} {w w' : World} {j : Jb} (h : RQD P v x w) (hv : w'.owns 0 48 9 v' (x.q.jobs.length + 1) (jobsL x.q.jobs ++ j.cells)) (hg : w.grownBy w' v.ownBlock) (hm : Moved w v v') (hf : (Qs.mk (x.q.jobs ++ [j]) j.id).fine) :
  RQD P v' { x with q := ⟨x.q.jobs ++ [j], j.id⟩ } ((w'.setCell ⟨P.p, 1, none⟩ v').setCell ⟨P.p, 2, none⟩ (.int .i64 j.id)) ∧ RStp P v v' w ((w'.setCell ⟨P.p, 1, none⟩ v').setCell ⟨P.p, 2, none⟩ (.int .i64 j.id)) := by
 have hpl := lt_of_heap h.qa
 have hqa : RQueueAt w' P.p (.pointer (some ⟨P.d, 0, none⟩)) v x.q.last x.down := (hg.block _ hpl (fun e => h.qa.ne h.ja e.symm)).trans h.qa
 have hne : ∀ k, v.ownBlock ≠ some k → k < w.heap.size → v'.ownBlock ≠ some k := fun k h1 h2 e => by
  rcases hm with hm | hm
  ·rw [hm] at e; exact h1 e
  ·have := hm k e; omega
 have hd : RDiskAt w' P.d P.b x.d := by
  refine ⟨(hg.block _ (lt_of_heap h.dk.at_) (fun e => h.nv.1 e.symm)).trans h.dk.at_, ?_, h.dk.ne⟩
  obtain ⟨t, ht⟩ := h.dk.half
  exact ⟨t, (hg.block _ (lt_of_heap ht) (fun e => h.nv.2 e.symm)).trans ht⟩
 have hpv := hne _ (h.qa.ne h.ja) hpl
 refine ⟨⟨(hqa.set1 v').set2 _, ?_, (hd.other h.np.1 h.np.2 _).other h.np.1 h.np.2 _, h.np, ⟨hne _ h.nv.1 (lt_of_heap h.dk.at_), hne _ h.nv.2 h.dk.half.lt⟩, hf, h.good⟩, ?_, fun k e => ?_⟩
 ·show World.owns _ _ _ _ _ (x.q.jobs ++ [j]).length (jobsL (x.q.jobs ++ [j]))
  rw [List.length_append, jobsL_append]
  have e : jobsL [j] = j.cells := by unfold jobsL; simp
  rw [e]
  exact (hv.setCell_ne (a := ⟨P.p, 1, none⟩) hpv _).setCell_ne (a := ⟨P.p, 2, none⟩) hpv _
 ·have hk : Kp (RMine P v) w w' := ⟨hg.os, hg.tape, hg.output, hg.size, fun k hk hn => hg.block k hk (fun e => hn (.inr (.inr (.inr e.symm))))⟩
  exact (hk.setCell (a := ⟨P.p, 1, none⟩) (.inl rfl) _).setCell (a := ⟨P.p, 2, none⟩) (.inl rfl) _
 ·rcases hm with hm | hm
  ·exact .inl (hm ▸ e)
  ·exact .inr (hm k e)
theorem RQD.lt {P : RQP} {v : Value} {x : Qst} {w : World} (h : RQD P v x w) (k : Nat) (hm : RMine P v k) : k < w.heap.size := by
 rcases hm with rfl | rfl | rfl | e
 ·exact lt_of_heap h.qa
 ·exact lt_of_heap h.dk.at_
 ·exact h.dk.half.lt
 ·exact (h.ja.lt k e).2
theorem rfSubmit_did (P : RQP) (v : Value) (x : Qst) (c t : List UInt8) (p : Int) (work : List UInt8) (w : World) (h : RQD P v x w) :
  Calls Tryz.prog 25 #[.pointer (some ⟨P.p, 0, none⟩), strV c, strV t, .int .i64 p, strV work] w fun e w' => RDid P v (.tuple #[.int .i64 ((x.submit c t p work).1.1 : Int), .int .i64 (x.submit c t p work).1.2]) (x.submit c t p work).2 w e w' := by
 obtain ⟨-, k1, k2, k3, -, -, -⟩ := h.qa.cells
 have HQ := Lib.hid h
 obtain ⟨R, hR⟩ : ∃ R, R = x.submit c t p work := ⟨_, rfl⟩
 rw [← hR]
 unfold Qst.submit at hR
 have HL1 := Lib.hid (rflabel_any c)
 have HL2 := Lib.hid (rflabel_any t)
 unfold strV at HL1 HL2 ⊢
 by_cases hd : x.down = true
 ·rw [if_pos hd] at hR
  rw [hd] at k3
  have HR := Lib.hid hR
  clear hd h hR
  go_enter Tryz.func25, Tryz.ntmps25
  go_wp2_with fail
  go_ret2
  rw [HR.out]
  exact ⟨rfl, v, HQ.out, RStp.refl _ _ _⟩
 rw [if_neg hd] at hR
 have hd' : x.down = false := by simpa using hd
 rw [hd'] at k3
 clear hd'
 by_cases hc : labelB c = true
 case neg =>
  have hc' : labelB c = false := by simpa using hc
  rw [if_pos (.inl hc')] at hR
  rw [hc'] at HL1
  have HR := Lib.hid hR
  clear hd h hR hc hc'
  go_enter Tryz.func25, Tryz.ntmps25
  go_wp2_with fail
  refine (HL1.out _).mono ?_
  rintro e wl ⟨rfl, rfl⟩
  go_wp2_with fail
  go_ret2
  rw [HR.out]
  exact ⟨rfl, v, HQ.out, RStp.refl _ _ _⟩
 rw [hc] at HL1
 by_cases ht : labelB t = true
 case neg =>
  have ht' : labelB t = false := by simpa using ht
  rw [if_pos (.inr (.inl ht'))] at hR
  rw [ht'] at HL2
  have HR := Lib.hid hR
  clear hd h hR hc ht ht'
  go_enter Tryz.func25, Tryz.ntmps25
  go_wp2_with fail
  refine (HL1.out _).mono ?_
  rintro e wl ⟨rfl, rfl⟩
  go_wp2_with fail
  refine (HL2.out _).mono ?_
  rintro e wm ⟨rfl, rfl⟩
  go_wp2_with fail
  go_ret2
  rw [HR.out]
  exact ⟨rfl, v, HQ.out, RStp.refl _ _ _⟩
 rw [ht] at HL2
 by_cases hp : p < 0
 ·rw [if_pos (.inr (.inr (.inl hp)))] at hR
  have HR := Lib.hid hR
  clear hd h hR hc ht
  go_enter Tryz.func25, Tryz.ntmps25
  go_wp2_with fail
  refine (HL1.out _).mono ?_
  rintro e wl ⟨rfl, rfl⟩
  go_wp2_with fail
  refine (HL2.out _).mono ?_
  rintro e wm ⟨rfl, rfl⟩
  go_wp2_with fail
  go_ret2
  rw [HR.out]
  exact ⟨rfl, v, HQ.out, RStp.refl _ _ _⟩
 by_cases hp9 : 9 < p
 ·rw [if_pos (.inr (.inr (.inr hp9)))] at hR
  have HR := Lib.hid hR
  clear hd h hR hc ht
  go_enter Tryz.func25, Tryz.ntmps25
  go_wp2_with fail
  refine (HL1.out _).mono ?_
  rintro e wl ⟨rfl, rfl⟩
  go_wp2_with fail
  refine (HL2.out _).mono ?_
  rintro e wm ⟨rfl, rfl⟩
  go_wp2_with fail
  go_ret2
  rw [HR.out]
  exact ⟨rfl, v, HQ.out, RStp.refl _ _ _⟩
 rw [if_neg (by rintro (q | q | q | q); rw [hc] at q; cases q; rw [ht] at q; cases q; exact hp q; exact hp9 q)] at hR
 obtain ⟨n, rfl⟩ : ∃ n : Nat, p = n := ⟨p.toNat, by omega⟩
 have hn9 : n ≤ 9 := by omega
 have hwl : (bytesOf work).size = work.length := bytesOf_size work
 have hcl : c.length ≤ 32 := by unfold labelB at hc; simp at hc; omega
 have htl : t.length ≤ 32 := by unfold labelB at ht; simp at ht; omega
 have HLC := Lib.hid hc
 have HLT := Lib.hid ht
 have hp9' : ¬ (9 : Int) < (n : Int) := hp9
 clear hc ht
 by_cases hw : 60000 < work.length
 ·rw [if_pos hw] at hR
  have hw' : (60000 : Int) < (work.length : Int) := by omega
  have HR := Lib.hid hR
  clear hd h hR
  go_enter Tryz.func25, Tryz.ntmps25
  go_wp2_with fail
  refine (HL1.out _).mono ?_
  rintro e wl ⟨rfl, rfl⟩
  go_wp2_with fail
  refine (HL2.out _).mono ?_
  rintro e wm ⟨rfl, rfl⟩
  go_wp2_with fail
  go_ret2
  rw [HR.out]
  exact ⟨rfl, v, HQ.out, RStp.refl _ _ _⟩
 rw [if_neg hw] at hR
 have hw' : ¬ (60000 : Int) < (work.length : Int) := by omega
 have hlen := h.fine.ok.len
 have hlast := h.fine.ok.last
 have HNM : Hid (∀ W, RQD P v x W → Calls Tryz.prog 66 #[.pointer (some ⟨P.p, 0, none⟩), .string (bytesOf c), .string (bytesOf t)] W fun e w' => e = .returned (.int .i64 (placeI (x.q.named c t))) ∧ Below W.heap.size W w') := Lib.hid (fun W hW => (rfnamed_any P.p _ v x.q.last x.down x.q.jobs c t W hW.qa hW.ja (by omega)).mono (fun e w' h => ⟨h.1, by rw [h.2]; exact Below.refl _ _⟩))
 cases hnm : x.q.named c t with
 | some k =>
  rw [hnm] at hR HNM
  obtain ⟨j, hj, -⟩ := findIdx_get hnm
  dsimp only at hR
  rw [hj] at hR
  rw [show placeI (some k) = (k : Int) from rfl] at HNM
  have HR := Lib.hid hR
  have HJ := Lib.hid hj
  obtain ⟨g, cap, rfl, -, hk, -⟩ := h.job hj
  have hk0 : (0 : Int) ≤ (k : Int) := by omega
  clear hd h hR hnm hj
  go_enter Tryz.func25, Tryz.ntmps25
  go_wp2_with fail
  refine (HL1.out _).mono ?_
  rintro e wl ⟨rfl, rfl⟩
  go_wp2_with fail
  refine (HL2.out _).mono ?_
  rintro e wm ⟨rfl, rfl⟩
  go_wp2_with fail
  refine (HNM.out _ HQ.out).mono ?_
  rintro e w2 ⟨rfl, hb2⟩
  have hq2 := HQ.out.below hb2
  have HQ2 := Lib.hid hq2
  obtain ⟨-, y1, -⟩ := hq2.qa.cells
  have c0 : w2.cell? ⟨g, k * 9, none⟩ = some (.int .i64 j.id) := (job_cell hq2.ja HJ.out (by omega : 0 < 9) rfl).1
  clear hq2
  go_wp2_with fail
  go_ret2
  rw [HR.out]
  exact ⟨rfl, _, HQ2.out, RStp.of_below hb2⟩
 | none =>
  rw [hnm] at hR HNM
  dsimp only at hR
  rw [show placeI none = -1 from rfl] at HNM
  obtain ⟨va, vc, rfl⟩ : ∃ a c, v = .slice a x.q.jobs.length c := by
   rcases h.ja.2 with ⟨e, h0⟩ | ⟨g, c, _, _, e, _⟩
   ·exact ⟨none, 0, by rw [e, h0]⟩
   ·exact ⟨_, c, e⟩
  have HNN := Lib.hid hnm
  clear hnm
  by_cases h100 : 100 ≤ x.q.jobs.length
  ·rw [if_pos (.inl h100)] at hR
   have h100' : (100 : Int) ≤ (x.q.jobs.length : Int) := by omega
   have HR := Lib.hid hR
   clear hd h hR
   go_enter Tryz.func25, Tryz.ntmps25
   go_wp2_with fail
   refine (HL1.out _).mono ?_
   rintro e wl ⟨rfl, rfl⟩
   go_wp2_with fail
   refine (HL2.out _).mono ?_
   rintro e wm ⟨rfl, rfl⟩
   go_wp2_with fail
   refine (HNM.out _ HQ.out).mono ?_
   rintro e w2 ⟨rfl, hb2⟩
   have HQ2 := Lib.hid (HQ.out.below hb2)
   obtain ⟨-, y1, -⟩ := HQ2.out.qa.cells
   go_wp2_with fail
   go_ret2
   rw [HR.out]
   exact ⟨rfl, _, HQ2.out, RStp.of_below hb2⟩
  have h100' : ¬ (100 : Int) ≤ (x.q.jobs.length : Int) := by omega
  by_cases hmx : x.q.last = 9223372036854775807
  ·rw [if_pos (.inr hmx)] at hR
   have hmx' : ((x.q.last : Int) == 9223372036854775807) = true := by rw [hmx]; rfl
   have HR := Lib.hid hR
   clear hd h hR hmx
   go_enter Tryz.func25, Tryz.ntmps25
   go_wp2_with fail
   refine (HL1.out _).mono ?_
   rintro e wl ⟨rfl, rfl⟩
   go_wp2_with fail
   refine (HL2.out _).mono ?_
   rintro e wm ⟨rfl, rfl⟩
   go_wp2_with fail
   refine (HNM.out _ HQ.out).mono ?_
   rintro e w2 ⟨rfl, hb2⟩
   have HQ2 := Lib.hid (HQ.out.below hb2)
   obtain ⟨-, y1, y2, -⟩ := HQ2.out.qa.cells
   go_wp2_with fail
   go_ret2
   rw [HR.out]
   exact ⟨rfl, _, HQ2.out, RStp.of_below hb2⟩
  rw [if_neg (by rintro (q | q); exact h100 q; exact hmx q)] at hR
  have hmx' : ((x.q.last : Int) == 9223372036854775807) = false := by rw [beq_eq_false_iff_ne]; omega
  obtain ⟨j, hj⟩ : ∃ j : Jb, j = ⟨x.q.last + 1, c, t, (n : Int).toNat, 1, 0, work, [], []⟩ := ⟨_, rfl⟩
  rw [← hj] at hR
  obtain ⟨L, hL⟩ : ∃ L, L = x.q.last + 1 := ⟨_, rfl⟩
  have hLi : (x.q.last : Int) + 1 = (L : Int) := by omega
  have hL63 : L < 9223372036854775808 := by omega
  have hjo : j.ok j.id := by
   rw [hj]
   exact ⟨by show 0 < x.q.last + 1; omega, Nat.le_refl _, by show (n : Int).toNat ≤ 9; omega, HLC.out, HLT.out, by show 0 ≤ 8; omega, by show 1 ≤ 1; omega, by show 1 ≤ 5; omega, by show work.length ≤ 60000; omega, by simp, by simp⟩
  have hjf : j.fine := by rw [hj]; exact ⟨by simp, by simp, by simp⟩
  have hfx : (Qs.mk (x.q.jobs ++ [j]) j.id).fine := h.fine.push hjo hjf (by rw [hj]; show x.q.last < x.q.last + 1; omega) (by rw [hj]; show x.q.last + 1 < _; omega) (by rw [hj]; exact HNN.out) (by omega)
  have HSB := Lib.hid (rfsubmitted_any j (by rw [hj]; show x.q.last + 1 < _; omega) (by have := hjo.prio; omega) (by rw [hj]; show c.length ≤ _; omega) (by rw [hj]; show t.length ≤ _; omega) (by have := hjo.wk; omega))
  have hsl : (subB j).length ≤ 100000000 := by
   have e1 : j.client = c := by rw [hj]
   have e2 : j.token = t := by rw [hj]
   have e3 := hjo.wk
   unfold subB
   simp only [List.length_append, recB_length, numB_length, textB_length, e1, e2]; omega
  have hcells : j.cells = [.int .i64 (L : Int), .string (bytesOf c), .string (bytesOf t), .int .i64 (n : Int), .int .i64 1, .int .i64 0, .string (bytesOf work), .string (bytesOf []), .string (bytesOf [])] := by
   rw [hj, hL]; unfold Jb.cells strV; simp
  have hjid : j.id = L := by rw [hj, hL]
  obtain ⟨T, hT⟩ : ∃ T, T = subB j := ⟨_, rfl⟩
  rw [← hT] at hR HSB hsl
  unfold Jb.val at HSB
  unfold strV at HSB
  rw [hcells] at HSB
  have hq1 := note_q x T
  have HN := Lib.hid (fun W (hW : RQD P (.slice va x.q.jobs.length vc) x W) => rfnote_any P _ x T hsl W hW)
  obtain ⟨N, hN⟩ : ∃ N, N = x.note T := ⟨_, rfl⟩
  rw [← hN] at hR HN hq1
  obtain ⟨n1, n2⟩ := N
  dsimp only at hR HN hq1
  unfold strV at HN
  have HE := Lib.hid hq1
  have HC := Lib.hid hcells
  have HID := Lib.hid hjid
  have HF := Lib.hid hfx
  have HLE := Lib.hid hLi
  have HL := Lib.hid hL
  have hLi' : Tryz.prog.follows .mixedOrders = true := by kernel_rfl
  clear hj hL hjo hjf hfx hT hN hq1 hcells hjid
  by_cases h0 : n1 = 0
  ·rw [if_pos h0] at hR
   subst h0
   have HR := Lib.hid hR
   clear hd h hR hLi' hmx
   go_enter Tryz.func25, Tryz.ntmps25
   go_wp2_with fail
   refine (HL1.out _).mono ?_
   rintro e wl ⟨rfl, rfl⟩
   go_wp2_with fail
   refine (HL2.out _).mono ?_
   rintro e wm ⟨rfl, rfl⟩
   go_wp2_with fail
   refine (HNM.out _ HQ.out).mono ?_
   rintro e w2 ⟨rfl, hb2⟩
   have HQ2 := Lib.hid (HQ.out.below hb2)
   obtain ⟨-, y1, y2, -⟩ := HQ2.out.qa.cells
   go_upto_region 13 with (fail)
   obtain ⟨b, hb⟩ : ∃ b, b = w2.heap.size := ⟨_, rfl⟩
   obtain ⟨W3, hW3⟩ : ∃ W, W = w2.alloc (.cells #[.int .i64 (L : Int), .string (bytesOf c), .string (bytesOf t), .int .i64 (n : Int), .int .i64 1, .int .i64 0, .string (bytesOf work), .string { data := #[] }, .string { data := #[] }] 48) := ⟨_, rfl⟩
   have hb3 : Below w2.heap.size w2 W3 := by rw [hW3]; exact (Below.refl _ w2).alloc (Nat.le_refl _) _
   have bx3 : BoxAt W3 b j := by unfold BoxAt; rw [HC.out, hW3, hb]; exact alloc_last _ _ rfl
   have HQ3 := Lib.hid (HQ2.out.below hb3)
   have HB3 := Lib.hid (hb2.trans (hb3.mono hb2.size))
   have HNB : Hid (¬ RMine P (.slice va x.q.jobs.length vc) b) := Lib.hid (fun hm => by have := HQ2.out.lt b hm; omega)
   rw [← hW3, ← hb]
   have HBX3 := Lib.hid bx3
   obtain ⟨d0, d1, d2, d3, d4, d5, d6, d7, d8⟩ : W3.cell? ⟨b, 0, none⟩ = some (.int .i64 (L : Int)) ∧ W3.cell? ⟨b, 1, none⟩ = some (.string (bytesOf c)) ∧ W3.cell? ⟨b, 2, none⟩ = some (.string (bytesOf t)) ∧ W3.cell? ⟨b, 3, none⟩ = some (.int .i64 (n : Int)) ∧ W3.cell? ⟨b, 4, none⟩ = some (.int .i64 1) ∧ W3.cell? ⟨b, 5, none⟩ = some (.int .i64 0) ∧ W3.cell? ⟨b, 6, none⟩ = some (.string (bytesOf work)) ∧ W3.cell? ⟨b, 7, none⟩ = some (.string (bytesOf [])) ∧ W3.cell? ⟨b, 8, none⟩ = some (.string (bytesOf [])) := ⟨(bx3.cell (i := 0) (by rw [HC.out]; rfl)).1, (bx3.cell (i := 1) (by rw [HC.out]; rfl)).1, (bx3.cell (i := 2) (by rw [HC.out]; rfl)).1, (bx3.cell (i := 3) (by rw [HC.out]; rfl)).1, (bx3.cell (i := 4) (by rw [HC.out]; rfl)).1, (bx3.cell (i := 5) (by rw [HC.out]; rfl)).1, (bx3.cell (i := 6) (by rw [HC.out]; rfl)).1, (bx3.cell (i := 7) (by rw [HC.out]; rfl)).1, (bx3.cell (i := 8) (by rw [HC.out]; rfl)).1⟩
   clear hb3 bx3 hW3 hb hb2 y1 y2 k1 k2 k3
   go_wp2_with fail
   refine (HSB.out W3).mono ?_
   rintro e w4 ⟨rfl, hb4⟩
   have HQ4 := Lib.hid (HQ3.out.below hb4)
   have HBX4 := Lib.hid (HBX3.out.below hb4)
   have HST4 := Lib.hid ((RStp.of_below (P := P) (v := .slice va x.q.jobs.length vc) HB3.out).below hb4)
   clear hb4 d0 d1 d2 d3 d4 d5 d6 d7 d8
   go_wp2_with fail
   refine (HN.out w4 HQ4.out).mono ?_
   rintro e w5 ⟨rfl, hq5, hk5⟩
   have bx5 : BoxAt w5 b j := (hk5.block _ (lt_of_heap HBX4.out) HNB.out).trans HBX4.out
   have HQ5 := Lib.hid hq5
   have HBX5 := Lib.hid bx5
   have HST5 := Lib.hid (HST4.out.trans (RStp.of_kp hk5))
   obtain ⟨-, y1, y2, -⟩ := hq5.qa.cells
   have dd : w5.cell? ⟨b, 0, none⟩ = some (.int .i64 (L : Int)) ∧ w5.cell? ⟨b, 1, none⟩ = some (.string (bytesOf c)) ∧ w5.cell? ⟨b, 2, none⟩ = some (.string (bytesOf t)) ∧ w5.cell? ⟨b, 3, none⟩ = some (.int .i64 (n : Int)) ∧ w5.cell? ⟨b, 4, none⟩ = some (.int .i64 1) ∧ w5.cell? ⟨b, 5, none⟩ = some (.int .i64 0) ∧ w5.cell? ⟨b, 6, none⟩ = some (.string (bytesOf work)) ∧ w5.cell? ⟨b, 7, none⟩ = some (.string (bytesOf [])) ∧ w5.cell? ⟨b, 8, none⟩ = some (.string (bytesOf [])) := ⟨(bx5.cell (i := 0) (by rw [HC.out]; rfl)).1, (bx5.cell (i := 1) (by rw [HC.out]; rfl)).1, (bx5.cell (i := 2) (by rw [HC.out]; rfl)).1, (bx5.cell (i := 3) (by rw [HC.out]; rfl)).1, (bx5.cell (i := 4) (by rw [HC.out]; rfl)).1, (bx5.cell (i := 5) (by rw [HC.out]; rfl)).1, (bx5.cell (i := 6) (by rw [HC.out]; rfl)).1, (bx5.cell (i := 7) (by rw [HC.out]; rfl)).1, (bx5.cell (i := 8) (by rw [HC.out]; rfl)).1⟩
   have HEL : Hid (n2.q.jobs.length = x.q.jobs.length) := Lib.hid (by rw [HE.out])
   clear hq5 hk5 bx5 y2
   go_upto_region 16 with (fail)
   refine wp_region_lateU (fun w' => w'.cell? ⟨P.p, 1, none⟩ = some (.slice va x.q.jobs.length vc)) (fun w' => w'.cell? ⟨b, 0, none⟩ = some (.int .i64 (L : Int)) ∧ w'.cell? ⟨b, 1, none⟩ = some (.string (bytesOf c)) ∧ w'.cell? ⟨b, 2, none⟩ = some (.string (bytesOf t)) ∧ w'.cell? ⟨b, 3, none⟩ = some (.int .i64 (n : Int)) ∧ w'.cell? ⟨b, 4, none⟩ = some (.int .i64 1) ∧ w'.cell? ⟨b, 5, none⟩ = some (.int .i64 0) ∧ w'.cell? ⟨b, 6, none⟩ = some (.string (bytesOf work)) ∧ w'.cell? ⟨b, 7, none⟩ = some (.string (bytesOf [])) ∧ w'.cell? ⟨b, 8, none⟩ = some (.string (bytesOf []))) (fun j => decide (j = 13 ∨ j = 16)) (by kernel_rfl) y1 dd (fun hS hT => ?_)
   refine wpAnyU_take 0 (v := ?_) (by kernel_rfl) (by kernel_rfl) rfl (by kernel_rfl) (by kernel_rfl) (fun _ _ _ h => h) (Or.inl ⟨by rfl, ?_⟩) (by assumption) ?_
   rotate_left
   ·(intro wq hSq; (try dsimp only at hSq); go_simp; try with_reducible rfl)
   try simp only [q0P, q0Q, q0R, q0S]
   refine wpAnyU_take 2 (v := ?_) (by kernel_rfl) (by kernel_rfl) rfl (by kernel_rfl) (by kernel_rfl) (fun _ _ _ h => h) (Or.inl ⟨by rfl, ?_⟩) (by assumption) ?_
   rotate_left
   ·(intro wq hSq; (try dsimp only at hSq); go_simp; try with_reducible rfl)
   try simp only [q0P, q0Q, q0R, q0S]
   refine wpAnyU_take 3 (v := ?_) (by kernel_rfl) (by kernel_rfl) rfl (by kernel_rfl) (by kernel_rfl) (fun _ _ _ h => h) (Or.inl ⟨by rfl, ?_⟩) (by assumption) ?_
   rotate_left
   ·(intro wq hSq; (try dsimp only at hSq); go_simp; try with_reducible rfl)
   try simp only [q0P, q0Q, q0R, q0S]
   refine wpAnyU_take 4 (v := ?_) (by kernel_rfl) (by kernel_rfl) rfl (by kernel_rfl) (by kernel_rfl) (fun _ _ _ h => h) (Or.inl ⟨by rfl, ?_⟩) (by assumption) ?_
   rotate_left
   ·(intro wq hSq; (try dsimp only at hSq); go_simp; try with_reducible rfl)
   try simp only [q0P, q0Q, q0R, q0S]
   refine wpAnyU_take 5 (v := ?_) (by kernel_rfl) (by kernel_rfl) rfl (by kernel_rfl) (by kernel_rfl) (fun _ _ _ h => h) (Or.inl ⟨by rfl, ?_⟩) (by assumption) ?_
   rotate_left
   ·(intro wq hSq; (try dsimp only at hSq); go_simp; try with_reducible rfl)
   try simp only [q0P, q0Q, q0R, q0S]
   refine wpAnyU_takeW 1 (v := ?_) (by kernel_rfl) rfl (by kernel_rfl) (by kernel_rfl) (fun _ _ _ h => h) (Or.inl ⟨by rfl, ?_⟩) (by assumption) ?_
   rotate_left
   ·(intro wq hSq; (try dsimp only at hSq); go_simp; try with_reducible rfl)
   try simp only [q0P, q0Q, q0R, q0S]
   refine wpAnyU_takeW 6 (v := ?_) (by kernel_rfl) rfl (by kernel_rfl) (by kernel_rfl) (fun _ _ _ h => h) (Or.inl ⟨by rfl, ?_⟩) (by assumption) ?_
   rotate_left
   ·(intro wq hSq; (try dsimp only at hSq); go_simp; try with_reducible rfl)
   try simp only [q0P, q0Q, q0R, q0S]
   refine wpAnyU_takeW 9 (v := ?_) (by kernel_rfl) rfl (by kernel_rfl) (by kernel_rfl) (fun _ _ _ h => h) (Or.inl ⟨by rfl, ?_⟩) (by assumption) ?_
   rotate_left
   ·(intro wq hSq; (try dsimp only at hSq); go_simp; try with_reducible rfl)
   try simp only [q0P, q0Q, q0R, q0S]
   refine wpAnyU_takeW 10 (v := ?_) (by kernel_rfl) rfl (by kernel_rfl) (by kernel_rfl) (fun _ _ _ h => h) (Or.inl ⟨by rfl, ?_⟩) (by assumption) ?_
   rotate_left
   ·(intro wq hSq; (try dsimp only at hSq); go_simp; try with_reducible rfl)
   try simp only [q0P, q0Q, q0R, q0S]
   have hbd : Below w5.heap.size w5 (w5.drew.alloc (.cells #[.int .i64 (L : Int), .string (bytesOf c), .string (bytesOf t), .int .i64 (n : Int), .int .i64 1, .int .i64 0, .string (bytesOf work), .string { data := #[] }, .string { data := #[] }] 48)) := (Below.refl w5.heap.size w5).drew.alloc (by simp) _
   refine wpAnyU_keep 7 (by kernel_rfl) rfl (fun K hK => ?_)
   go_simp
   have qA := HQ5.out.below hbd
   have bA := HBX5.out.below hbd
   have gA : BoxAt (w5.drew.alloc (.cells #[.int .i64 (L : Int), .string (bytesOf c), .string (bytesOf t), .int .i64 (n : Int), .int .i64 1, .int .i64 0, .string (bytesOf work), .string { data := #[] }, .string { data := #[] }] 48)) w5.heap.size j := by unfold BoxAt; rw [HC.out]; exact alloc_last _ _ rfl
   obtain ⟨-, kA, -⟩ := qA.qa.cells
   have hszA : 0 ≤ (w5.drew.alloc (.cells #[.int .i64 (L : Int), .string (bytesOf c), .string (bytesOf t), .int .i64 (n : Int), .int .i64 1, .int .i64 0, .string (bytesOf work), .string { data := #[] }, .string { data := #[] }] 48)).heap.size := Nat.zero_le _
   have HQA := Lib.hid qA
   have HBA := Lib.hid bA
   have HGA := Lib.hid gA
   have HSTA := Lib.hid (HST5.out.below hbd)
   refine hK.out _ _ kA ⟨(bA.cell (i := 0) (by rw [HC.out]; rfl)).1, (bA.cell (i := 1) (by rw [HC.out]; rfl)).1, (bA.cell (i := 2) (by rw [HC.out]; rfl)).1, (bA.cell (i := 3) (by rw [HC.out]; rfl)).1, (bA.cell (i := 4) (by rw [HC.out]; rfl)).1, (bA.cell (i := 5) (by rw [HC.out]; rfl)).1, (bA.cell (i := 6) (by rw [HC.out]; rfl)).1, (bA.cell (i := 7) (by rw [HC.out]; rfl)).1, (bA.cell (i := 8) (by rw [HC.out]; rfl)).1⟩ (fun hS2 hT2 => ?_)
   clear hK K hS hT y1 dd hbd qA bA gA kA
   try simp only [q0P, q0Q, q0R, q0S]
   refine wpAnyU_keep 8 (by kernel_rfl) rfl (fun K hK => ?_)
   refine step_append9 (by rfl) (.tmp 87) (.tmp 89) (by rfl) 0 x.q.jobs.length w5.heap.size 1 (.slice va x.q.jobs.length vc) (jobsL x.q.jobs) j (by rfl) (by rfl) (by have h := HQA.out.ja; rw [HE.out] at h; exact h) HGA.out (by omega) hszA ?_
   intro v7 w7 ho7 hg7 hm7
   obtain ⟨va7, vc7, rfl⟩ : ∃ a c, v7 = .slice a (x.q.jobs.length + 1) c := by
    rcases ho7.2 with ⟨e, h0⟩ | ⟨g, c, _, _, e, _⟩
    ·exact absurd h0 (by omega)
    ·exact ⟨_, c, e⟩
   have hnb : (Value.slice va x.q.jobs.length vc).ownBlock ≠ some b := fun e => HNB.out (.inr (.inr (.inr e)))
   have bx7 : BoxAt w7 b j := grown_box (B := 0) (n := 0) (xs := []) HBA.out hg7 hnb
   have qa7 : RQueueAt w7 P.p (.pointer (some ⟨P.d, 0, none⟩)) (.slice va x.q.jobs.length vc) n2.q.last n2.down := (hg7.block _ (lt_of_heap HQA.out.qa) (fun e => HQA.out.qa.ne HQA.out.ja e.symm)).trans HQA.out.qa
   obtain ⟨-, k7, -, -, z7, z8, -⟩ := qa7.cells
   obtain ⟨s1, s2⟩ := HQA.out.pushed (j := j) (by rw [HE.out]; exact ho7) hg7 hm7 (by rw [HE.out]; exact HF.out)
   have hpb : ¬ P.p = b := fun e => HNB.out (.inl e.symm)
   have bx9 : BoxAt ((w7.setCell ⟨P.p, 1, none⟩ (.slice va7 (x.q.jobs.length + 1) vc7)).setCell ⟨P.p, 2, none⟩ (.int .i64 (L : Int))) b j := by
    unfold BoxAt
    rw [Below.heap_setCell _ _ _ _ (fun q => hpb q.symm), Below.heap_setCell _ _ _ _ (fun q => hpb q.symm)]; exact bx7
   have bx8 : BoxAt (w7.setCell ⟨P.p, 1, none⟩ (.slice va7 (x.q.jobs.length + 1) vc7)) b j := by
    unfold BoxAt
    rw [Below.heap_setCell _ _ _ _ (fun q => hpb q.symm)]; exact bx7
   rw [HID.out] at s1 s2
   obtain ⟨-, -, k8, -, -, z9, -⟩ := (qa7.set1 (.slice va7 (x.q.jobs.length + 1) vc7)).cells
   have HS1 := Lib.hid s1
   have HS2 := Lib.hid (HSTA.out.trans s2)
   have HBX8 := Lib.hid bx8
   have HBX9 := Lib.hid bx9
   refine hK.out _ _ k7 ⟨(bx7.cell (i := 0) (by rw [HC.out]; rfl)).1, (bx7.cell (i := 1) (by rw [HC.out]; rfl)).1, (bx7.cell (i := 2) (by rw [HC.out]; rfl)).1, (bx7.cell (i := 3) (by rw [HC.out]; rfl)).1, (bx7.cell (i := 4) (by rw [HC.out]; rfl)).1, (bx7.cell (i := 5) (by rw [HC.out]; rfl)).1, (bx7.cell (i := 6) (by rw [HC.out]; rfl)).1, (bx7.cell (i := 7) (by rw [HC.out]; rfl)).1, (bx7.cell (i := 8) (by rw [HC.out]; rfl)).1⟩ (fun hS3 hT3 => ?_)
   clear hK K hS2 hT2 ho7 hg7 hm7 s1 s2 qa7 bx7 bx8 bx9 hnb
   try simp only [q0P, q0Q, q0R, q0S]
   refine wpAnyU_takeW 11 (v := ?_) (by kernel_rfl) rfl (by kernel_rfl) (by kernel_rfl) (fun _ _ _ h => h) (Or.inl ⟨by rfl, ?_⟩) (by assumption) ?_
   rotate_left
   ·(intro wq hSq; (try dsimp only at hSq); go_simp; try with_reducible rfl)
   try simp only [q0P, q0Q, q0R, q0S]
   refine wpAnyU_takeW 12 (v := ?_) (by kernel_rfl) rfl (by kernel_rfl) (by kernel_rfl) (fun _ _ _ h => h) (Or.inl ⟨by rfl, ?_⟩) (by assumption) ?_
   rotate_left
   ·(intro wq hSq; (try dsimp only at hSq); go_simp; try with_reducible rfl)
   try simp only [q0P, q0Q, q0R, q0S]
   refine wpAnyU_step 13 (by kernel_rfl) rfl rfl (fun K hK => ?_)
   go_simp
   refine hK.out _ _ ⟨(HBX8.out.cell (i := 0) (by rw [HC.out]; rfl)).1, (HBX8.out.cell (i := 1) (by rw [HC.out]; rfl)).1, (HBX8.out.cell (i := 2) (by rw [HC.out]; rfl)).1, (HBX8.out.cell (i := 3) (by rw [HC.out]; rfl)).1, (HBX8.out.cell (i := 4) (by rw [HC.out]; rfl)).1, (HBX8.out.cell (i := 5) (by rw [HC.out]; rfl)).1, (HBX8.out.cell (i := 6) (by rw [HC.out]; rfl)).1, (HBX8.out.cell (i := 7) (by rw [HC.out]; rfl)).1, (HBX8.out.cell (i := 8) (by rw [HC.out]; rfl)).1⟩ (fun hT4 => ?_)
   clear hK K hS3 hT3
   try simp only [q0P, q0Q, q0R, q0S]
   refine wpAnyU_takeW 14 (v := ?_) (by kernel_rfl) rfl (by kernel_rfl) (by kernel_rfl) (fun _ _ _ h => h) (Or.inl ⟨by rfl, ?_⟩) (by assumption) ?_
   rotate_left
   ·(intro wq hSq; (try dsimp only at hSq); go_simp; try with_reducible rfl)
   try simp only [q0P, q0Q, q0R, q0S]
   refine wpAnyU_takeW 15 (v := ?_) (by kernel_rfl) rfl (by kernel_rfl) (by kernel_rfl) (fun _ _ _ h => h) (Or.inl ⟨by rfl, ?_⟩) (by assumption) ?_
   rotate_left
   ·(intro wq hSq; (try dsimp only at hSq); go_simp; try with_reducible rfl)
   try simp only [q0P, q0Q, q0R, q0S]
   refine wpAnyU_step 16 (by kernel_rfl) rfl rfl (fun K hK => ?_)
   go_simp
   refine hK.out _ _ ⟨(HBX9.out.cell (i := 0) (by rw [HC.out]; rfl)).1, (HBX9.out.cell (i := 1) (by rw [HC.out]; rfl)).1, (HBX9.out.cell (i := 2) (by rw [HC.out]; rfl)).1, (HBX9.out.cell (i := 3) (by rw [HC.out]; rfl)).1, (HBX9.out.cell (i := 4) (by rw [HC.out]; rfl)).1, (HBX9.out.cell (i := 5) (by rw [HC.out]; rfl)).1, (HBX9.out.cell (i := 6) (by rw [HC.out]; rfl)).1, (HBX9.out.cell (i := 7) (by rw [HC.out]; rfl)).1, (HBX9.out.cell (i := 8) (by rw [HC.out]; rfl)).1⟩ (fun hT5 => ?_)
   clear hK K hT4
   refine wpAnyU_end (by kernel_rfl) ?_
   obtain ⟨d0, -, -, -, -, -, -, -, -⟩ := hT5
   clear HBX8 HBX9
   go_wp2_with fail
   go_ret2
   rw [HR.out, ← HL.out]
   refine ⟨rfl, _, ?_, HS2.out⟩
   have e := HE.out
   have s := HS1.out
   rw [e] at s
   exact s
  ·rw [if_neg h0] at hR
   have h0' : (n1 == 0) = false := by rw [beq_eq_false_iff_ne]; exact h0
   have HR := Lib.hid hR
   clear hd h hR hLi' hmx h0
   go_enter Tryz.func25, Tryz.ntmps25
   go_wp2_with fail
   refine (HL1.out _).mono ?_
   rintro e wl ⟨rfl, rfl⟩
   go_wp2_with fail
   refine (HL2.out _).mono ?_
   rintro e wm ⟨rfl, rfl⟩
   go_wp2_with fail
   refine (HNM.out _ HQ.out).mono ?_
   rintro e w2 ⟨rfl, hb2⟩
   have HQ2 := Lib.hid (HQ.out.below hb2)
   obtain ⟨-, y1, y2, -⟩ := HQ2.out.qa.cells
   go_upto_region 13 with (fail)
   obtain ⟨b, hb⟩ : ∃ b, b = w2.heap.size := ⟨_, rfl⟩
   obtain ⟨W3, hW3⟩ : ∃ W, W = w2.alloc (.cells #[.int .i64 (L : Int), .string (bytesOf c), .string (bytesOf t), .int .i64 (n : Int), .int .i64 1, .int .i64 0, .string (bytesOf work), .string { data := #[] }, .string { data := #[] }] 48) := ⟨_, rfl⟩
   have hb3 : Below w2.heap.size w2 W3 := by rw [hW3]; exact (Below.refl _ w2).alloc (Nat.le_refl _) _
   have bx3 : BoxAt W3 b j := by unfold BoxAt; rw [HC.out, hW3, hb]; exact alloc_last _ _ rfl
   have HQ3 := Lib.hid (HQ2.out.below hb3)
   have HB3 := Lib.hid (hb2.trans (hb3.mono hb2.size))
   have HNB : Hid (¬ RMine P (.slice va x.q.jobs.length vc) b) := Lib.hid (fun hm => by have := HQ2.out.lt b hm; omega)
   rw [← hW3, ← hb]
   have HBX3 := Lib.hid bx3
   obtain ⟨d0, d1, d2, d3, d4, d5, d6, d7, d8⟩ : W3.cell? ⟨b, 0, none⟩ = some (.int .i64 (L : Int)) ∧ W3.cell? ⟨b, 1, none⟩ = some (.string (bytesOf c)) ∧ W3.cell? ⟨b, 2, none⟩ = some (.string (bytesOf t)) ∧ W3.cell? ⟨b, 3, none⟩ = some (.int .i64 (n : Int)) ∧ W3.cell? ⟨b, 4, none⟩ = some (.int .i64 1) ∧ W3.cell? ⟨b, 5, none⟩ = some (.int .i64 0) ∧ W3.cell? ⟨b, 6, none⟩ = some (.string (bytesOf work)) ∧ W3.cell? ⟨b, 7, none⟩ = some (.string (bytesOf [])) ∧ W3.cell? ⟨b, 8, none⟩ = some (.string (bytesOf [])) := ⟨(bx3.cell (i := 0) (by rw [HC.out]; rfl)).1, (bx3.cell (i := 1) (by rw [HC.out]; rfl)).1, (bx3.cell (i := 2) (by rw [HC.out]; rfl)).1, (bx3.cell (i := 3) (by rw [HC.out]; rfl)).1, (bx3.cell (i := 4) (by rw [HC.out]; rfl)).1, (bx3.cell (i := 5) (by rw [HC.out]; rfl)).1, (bx3.cell (i := 6) (by rw [HC.out]; rfl)).1, (bx3.cell (i := 7) (by rw [HC.out]; rfl)).1, (bx3.cell (i := 8) (by rw [HC.out]; rfl)).1⟩
   clear hb3 bx3 hW3 hb hb2 y1 y2 k1 k2 k3
   go_wp2_with fail
   refine (HSB.out W3).mono ?_
   rintro e w4 ⟨rfl, hb4⟩
   have HQ4 := Lib.hid (HQ3.out.below hb4)
   have HBX4 := Lib.hid (HBX3.out.below hb4)
   have HST4 := Lib.hid ((RStp.of_below (P := P) (v := .slice va x.q.jobs.length vc) HB3.out).below hb4)
   clear hb4 d0 d1 d2 d3 d4 d5 d6 d7 d8
   go_wp2_with fail
   refine (HN.out w4 HQ4.out).mono ?_
   rintro e w5 ⟨rfl, hq5, hk5⟩
   have bx5 : BoxAt w5 b j := (hk5.block _ (lt_of_heap HBX4.out) HNB.out).trans HBX4.out
   have HQ5 := Lib.hid hq5
   have HBX5 := Lib.hid bx5
   have HST5 := Lib.hid (HST4.out.trans (RStp.of_kp hk5))
   clear hq5 hk5 bx5
   go_wp2_with fail
   go_ret2
   rw [HR.out]
   exact ⟨rfl, _, HQ5.out, HST5.out⟩
end
end Go.Proofs.YtoggmplkbiidhaaGreatDoor
