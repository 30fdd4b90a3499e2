/- Helpers and walks, in one text. -/
import Derived.Test.YtoggmplkbiidhaaDoorPY3
import Derived.Laws.StructEq
import Derived.ProofKit
import Derived.OpenShut
import Derived.ShutString
import Derived.ChangeOld
import Derived.SliceStrings
import Derived.Deep.Matrix
import Derived.Test.YtoggmplkbiidhaaDoorRows
import Derived.WideShapes
import Derived.LaidMore
import Derived.Stop.Joined
/- Plain: a queue of jobs: the calls that every law shows. -/
namespace Go.Proofs.YtoggmplkbiidhaaDoor
set_option linter.all false
theorem note_room {x : Qst} (h : x.up) (s : List UInt8) (hs : s.length ≤ 65535) (hfit : x.d.used + 13 + s.length ≤ x.d.size) :
    (x.note s).1 = 0 ∧ (x.note s).2.q = x.q ∧ (x.note s).2.d.used = x.d.used + 13 + s.length ∧ (x.note s).2.d.size = x.d.size ∧ (x.note s).2.up := by
  have h0 := appended_ok h.free.good s h.free.nf hs hfit (.inl h.free.fu)
  have hp := appended_post h.free.good s
  obtain ⟨f1, -⟩ := appended_free h.free s hs
  have e : noteD x.q x.d s = x.d.appended s := by unfold noteD; rw [if_neg (by rw [h0]; decide)]
  have e1 : (x.note s).1 = 0 := by show (noteD x.q x.d s).1 = 0; rw [e]; exact h0
  have e2 : (x.note s).2.d = (x.d.appended s).2 := by show (noteD x.q x.d s).2 = _; rw [e]
  refine ⟨e1, rfl, by rw [e2]; exact (hp.ok0 h0).2.1, by rw [e2]; exact hp.size, ⟨h.fine, by rw [e2]; exact f1, ?_⟩⟩
  show (x.down || decide ((noteD x.q x.d s).1 = 9)) = false
  rw [h.nd, e, h0]; rfl
/-- What a call with enough room leaves. -/
structure Room (x : Qst) (used : Nat) (q : Qs) : Prop where
  (up : x.up)
  (q_ : x.q = q)
  (used_ : x.d.used ≤ used)
  (size : x.d.size = 4000)
theorem room_noted {x : Qst} {u : Nat} {q : Qs} (h : Room x u q) (s : List UInt8) (hs : u + 13 + s.length ≤ 4000) (q' : Qs) (hq : q'.fine) : (x.noted s q').1 = 0 ∧ Room (x.noted s q').2 (u + 13 + s.length) q' := by
  obtain ⟨n1, n2, n3, n4, n5⟩ := note_room h.up s (by omega) (by have := h.used_; have := h.size; omega)
  unfold Qst.noted
  rw [if_pos n1]
  exact ⟨rfl, ⟨hq, n5.free, n5.nd⟩, rfl, by have := h.used_; show (x.note s).2.d.used ≤ _; omega, by show (x.note s).2.d.size = 4000; rw [n4]; exact h.size⟩
def jA : Jb := ⟨1, [97], [116], 3, 1, 0, [119], [], []⟩
def jB : Jb := ⟨2, [97], [117], 5, 1, 0, [119], [], []⟩
def jB2 : Jb := ⟨2, [97], [117], 5, 2, 1, [119], [], []⟩
def jB3 : Jb := ⟨2, [97], [117], 5, 3, 1, [119], [], [100, 111, 110, 101]⟩
theorem jA_ok (n : Nat) (h : 1 ≤ n) : jA.ok n := ⟨by decide, h, by decide, by decide, by decide, by decide, by decide, by decide, by decide, by decide, by decide⟩
theorem jB_ok (n : Nat) (h : 2 ≤ n) : jB.ok n := ⟨by decide, h, by decide, by decide, by decide, by decide, by decide, by decide, by decide, by decide, by decide⟩
theorem jB2_ok (n : Nat) (h : 2 ≤ n) : jB2.ok n := ⟨by decide, h, by decide, by decide, by decide, by decide, by decide, by decide, by decide, by decide, by decide⟩
theorem jB3_ok (n : Nat) (h : 2 ≤ n) : jB3.ok n := ⟨by decide, h, by decide, by decide, by decide, by decide, by decide, by decide, by decide, by decide, by decide⟩
def qA : Qs := ⟨[jA], 1⟩
def qB : Qs := ⟨[jA, jB], 2⟩
def qC : Qs := ⟨[jA, jB2], 2⟩
def qD : Qs := ⟨[jA, jB3], 2⟩
theorem qA_fine : qA.fine := Qs.fine.nil.push (j := jA) (jA_ok 1 (by omega)) ⟨by decide, by decide, by decide⟩ (by decide) (by decide) rfl (by decide)
theorem qB_fine : qB.fine := qA_fine.push (j := jB) (jB_ok 2 (by omega)) ⟨by decide, by decide, by decide⟩ (by decide) (by decide) (by unfold qA Qs.named jA jB; simp) (by decide)
theorem qC_fine : qC.fine := qB_fine.put (k := 1) (j := jB) (j' := jB2) rfl rfl rfl rfl (jB2_ok 2 (by omega)) ⟨by decide, by decide, by decide⟩
theorem qD_fine : qD.fine := qC_fine.put (k := 1) (j := jB2) (j' := jB3) rfl rfl rfl rfl (jB3_ok 2 (by omega)) ⟨by decide, by decide, by decide⟩
theorem show_new : Room ⟨⟨[], 0⟩, newDk 4000, false⟩ 17 ⟨[], 0⟩ ∧ openD (newDk 4000) = .inr ⟨[], 0⟩ := by
  obtain ⟨h1, h2, h3, h4⟩ := newDk_post 4000 (by omega) (by omega)
  refine ⟨⟨⟨Qs.fine.nil, ⟨h1, rfl, rfl⟩, rfl⟩, rfl, by show (newDk 4000).used ≤ 17; omega, rfl⟩, ?_⟩
  unfold openD
  have hs : (newDk 4000).seenErr = 0 := by unfold Dk.seenErr; rw [if_neg (by have := h1.half; omega)]
  rw [if_neg (by rw [hs]; simp), h2]
  rfl
theorem submit_new {x : Qst} {u : Nat} {q : Qs} (h : Room x u q) (c t work : List UInt8) (p : Nat) (hc : labelB c = true) (ht : labelB t = true) (hp : p ≤ 9) (hw : work.length ≤ 60000) (hn : q.named c t = none) (hl : q.jobs.length < 100) (hm : q.last < 9223372036854775807)
    (hf : (Qs.mk (q.jobs ++ [⟨q.last + 1, c, t, p, 1, 0, work, [], []⟩]) (q.last + 1)).fine) (hfit : u + 13 + (subB ⟨q.last + 1, c, t, p, 1, 0, work, [], []⟩).length ≤ 4000) :
    ∃ x', x.submit c t (p : Int) work = ((q.last + 1, 0), x') ∧ Room x' (u + 13 + (subB ⟨q.last + 1, c, t, p, 1, 0, work, [], []⟩).length) ⟨q.jobs ++ [⟨q.last + 1, c, t, p, 1, 0, work, [], []⟩], q.last + 1⟩ := by
  have hq := h.q_
  obtain ⟨r1, r2⟩ := room_noted h (subB ⟨q.last + 1, c, t, p, 1, 0, work, [], []⟩) hfit _ hf
  refine ⟨_, ?_, r2⟩
  unfold Qst.noted at *
  obtain ⟨n1, -⟩ := note_room h.up (subB ⟨q.last + 1, c, t, p, 1, 0, work, [], []⟩) (by omega) (by have := h.used_; have := h.size; omega)
  rw [if_pos n1]
  unfold Qst.submit
  rw [hq, if_neg (by rw [h.up.nd]; simp), if_neg (by rw [hc, ht]; simp; omega), if_neg (by omega), hn]
  dsimp only
  rw [if_neg (by omega), Int.toNat_natCast, if_pos n1]
theorem show_all : ∃ x1 x2 x4 x5 : Qst, (Qst.mk ⟨[], 0⟩ (newDk 4000) false).submit [97] [116] 3 [119] = ((1, 0), x1) ∧ x1.submit [97] [117] 5 [119] = ((2, 0), x2) ∧ x2.submit [97] [116] 0 [] = ((1, 0), x2) ∧
    x2.take = ((jB2, true, 0), x4) ∧ x4.save 1 [120] = (2, x4) ∧ x4.finish 2 3 [100, 111, 110, 101] = (0, x5) ∧ x5.list.length = 2 := by
  obtain ⟨r0, -⟩ := show_new
  obtain ⟨x1, s1, r1⟩ := submit_new r0 [97] [116] [119] 3 (by decide) (by decide) (by decide) (by decide) rfl (by decide) (by decide) qA_fine (by decide)
  obtain ⟨x2, s2, r2⟩ := submit_new r1 [97] [117] [119] 5 (by decide) (by decide) (by decide) (by decide) (by unfold Qs.named; simp) (by decide) (by decide) qB_fine (by decide)
  have hq2 : x2.q = qB := r2.q_
  have hbest : bestF qB.jobs 0 none = some (1, 5) := by
    show bestF [jA, jB] 0 none = _
    rw [bestF_cons, bestF_cons]
    unfold stepF jA jB
    simp [bestF]
  obtain ⟨n1, t4⟩ := room_noted r2 (recB 2 2) (by decide) qC qC_fine
  have t4' : (x2.note (recB 2 2)).1 = 0 := by
    unfold Qst.noted at n1
    split at n1
    · assumption
    · exact n1
  have s4 : x2.take = ((jB2, true, 0), (x2.noted (recB 2 2) qC).2) := by
    unfold Qst.take
    rw [hq2, hbest, if_neg (by rw [r2.up.nd]; simp)]
    show (if (x2.note (recB 2 2)).1 = 0 then _ else _) = _
    unfold Qst.noted
    rw [if_pos t4', if_pos t4']
    rfl
  have hq4 : (x2.noted (recB 2 2) qC).2.q = qC := t4.q_
  have nd4 := t4.up.nd
  obtain ⟨n5, t5⟩ := room_noted t4 (overB 2 3 [100, 111, 110, 101]) (by decide) qD qD_fine
  refine ⟨x1, x2, (x2.noted (recB 2 2) qC).2, ((x2.noted (recB 2 2) qC).2.noted (overB 2 3 [100, 111, 110, 101]) qD).2, s1, s2, ?_, s4, ?_, ?_, ?_⟩
  · unfold Qst.submit
    rw [hq2, if_neg (by rw [r2.up.nd]; simp), if_neg (by decide), if_neg (by decide)]
    have : qB.named [97] [116] = some 0 := by unfold Qs.named qB jA jB; simp [List.findIdx?_cons]
    rw [this]; rfl
  · generalize (x2.noted (recB 2 2) qC).2 = x4 at hq4 nd4
    unfold Qst.save Qst.held
    rw [hq4, if_neg (by rw [nd4]; simp)]
    have : qC.jobs.findIdx? (fun j => decide ((j.id : Int) = 1)) = some 0 := by unfold qC jA jB2; simp [List.findIdx?_cons]
    rw [this]; rfl
  · generalize (x2.noted (recB 2 2) qC).2 = x4 at hq4 nd4 n5
    unfold Qst.finish Qst.held
    rw [hq4, if_neg (by rw [nd4]; simp)]
    have : qC.jobs.findIdx? (fun j => decide ((j.id : Int) = 2)) = some 1 := by unfold qC jA jB2; simp [List.findIdx?_cons]
    rw [this]
    show x4.over 1 jB2 3 _ = _
    unfold Qst.over
    rw [hq4]
    show x4.noted (overB 2 3 [100, 111, 110, 101]) qD = _
    exact Prod.ext n5 rfl
  · unfold Qst.list
    rw [if_neg (by rw [t5.up.nd]; simp), t5.q_]
    rfl
end Go.Proofs.YtoggmplkbiidhaaDoor

/- Laws of the jobs: what every law shows. -/
namespace Go.Proofs.YtoggmplkbiidhaaDoor
set_option linter.all false
open Go.RowKit Go.Shelf
set_option maxRecDepth 100000 in
set_option maxHeartbeats 4000000 in
theorem shown_any (w : World) (ht : TabAt w) : Calls Tryd.prog 7 #[] w fun e w' => e = .returned (.bool true) ∧ Below w.heap.size w w' := by
  obtain ⟨x1, x2, x4, x5, s1, s2, s3, s4, s5, s6, s7⟩ := show_all
  obtain ⟨-, ho⟩ := show_new
  have hok : (newDk 4000).ok := (newDk_post 4000 (by omega) (by omega)).1.ok
  have HN := Lib.hid (New_any 4000 (by omega) (by omega) w)
  have HT := Lib.hid ht
  have HOK := Lib.hid hok
  have HO := Lib.hid ho
  have H1 := Lib.hid s1
  have H2 := Lib.hid s2
  have H3 := Lib.hid s3
  have H4 := Lib.hid s4
  have H5 := Lib.hid s5
  have H6 := Lib.hid s6
  have H7 := Lib.hid s7
  clear s1 s2 s3 s4 s5 s6 s7 ht hok ho
  go_enter Tryd.func7, Tryd.ntmps7
  go_wp2_with fail
  refine (show Calls Tryd.prog 8 #[.int .i64 4000] w _ from HN.out).mono ?_
  rintro e wa ⟨⟨dp, b0, b1, rfl, hd, hp1, hp2, hp3⟩, hba⟩
  have HOP := Lib.hid (Open_any dp b0 b1 (newDk 4000) wa hd HOK.out (HT.out.block (hba.block _ HT.out.lt)))
  have HBA := Lib.hid hba
  have HPP : Hid (w.heap.size ≤ dp ∧ w.heap.size ≤ b0 ∧ w.heap.size ≤ b1) := Lib.hid ⟨hp1, hp2, hp3⟩
  rw [HO.out] at HOP
  clear hd hba hp1 hp2 hp3 HN
  go_wp2_with fail
  refine HOP.out.mono ?_
  rintro e wb ⟨hop, hbb⟩
  unfold OpenP at hop
  dsimp only at hop
  obtain ⟨p, v, rfl, hpp, hqd, hvv⟩ := hop
  have hsz := HBA.out.size
  have HB0 : Hid (Below w.heap.size w wb ∧ ∀ k, Mine ⟨p, dp, b0, b1⟩ v k → w.heap.size ≤ k) := Lib.hid ⟨HBA.out.trans (hbb.mono hsz), fun k hm => by
    obtain ⟨h1, h2, h3⟩ := HPP.out
    rcases hm with e | e | e | e | e
    · have : k = p := e
      omega
    · have : k = dp := e
      omega
    · have : k = b0 := e
      omega
    · have : k = b1 := e
      omega
    · have := hvv k e; omega⟩
  have HQ0 := Lib.hid hqd
  have HS1 := Lib.hid (Submit_did ⟨p, dp, b0, b1⟩ v _ [97] [116] 3 [119] wb hqd)
  rw [H1.out] at HS1
  clear hbb hqd hpp hvv hsz
  go_wp2_with fail
  refine (show Calls Tryd.prog 14 #[.pointer (some ⟨p, 0, none⟩), .string { data := #[97] }, .string { data := #[116] }, .int .i64 3, .string { data := #[119] }] wb _ from HS1.out).mono ?_
  rintro e wc ⟨rfl, v1, hq1, hs1⟩
  have HSt1 := Lib.hid hs1
  have HS2 := Lib.hid (Submit_did ⟨p, dp, b0, b1⟩ v1 _ [97] [117] 5 [119] wc hq1)
  rw [H2.out] at HS2
  clear hs1 hq1 HS1
  go_wp2_with fail
  refine (show Calls Tryd.prog 14 #[.pointer (some ⟨p, 0, none⟩), .string { data := #[97] }, .string { data := #[117] }, .int .i64 5, .string { data := #[119] }] wc _ from HS2.out).mono ?_
  rintro e wd ⟨rfl, v2, hq2, hs2⟩
  have HSt2 := Lib.hid (HSt1.out.trans hs2)
  have HS3 := Lib.hid (Submit_did ⟨p, dp, b0, b1⟩ v2 _ [97] [116] 0 [] wd hq2)
  rw [H3.out] at HS3
  clear hs2 hq2 HS2
  go_wp2_with fail
  refine (show Calls Tryd.prog 14 #[.pointer (some ⟨p, 0, none⟩), .string { data := #[97] }, .string { data := #[116] }, .int .i64 0, .string { data := #[] }] wd _ from HS3.out).mono ?_
  rintro e we ⟨rfl, v3, hq3, hs3⟩
  have HSt3 := Lib.hid (HSt2.out.trans hs3)
  have HS4 := Lib.hid (Take_did ⟨p, dp, b0, b1⟩ v3 _ we hq3)
  rw [H4.out] at HS4
  clear hs3 hq3 HS3
  go_wp2_with fail
  refine HS4.out.mono ?_
  rintro e wf ⟨rfl, v4, hq4, hs4⟩
  have HSt4 := Lib.hid (HSt3.out.trans hs4)
  have HQ4 := Lib.hid hq4
  clear hs4 hq4 HS4
  unfold Jb.val Jb.cells jB2 strV
  go_upto_region 9 with (fail)
  obtain ⟨W5, hW5⟩ : ∃ W, W = wf.alloc (.cells #[.int .i64 2, .string (bytesOf [97]), .string (bytesOf [117]), .int .i64 5, .int .i64 2, .int .i64 1, .string (bytesOf [119]), .string (bytesOf []), .string (bytesOf [])] 38) := ⟨_, rfl⟩
  have g5 : W5.heap[wf.heap.size]? = some (.cells #[.int .i64 2, .string (bytesOf [97]), .string (bytesOf [117]), .int .i64 5, .int .i64 2, .int .i64 1, .string (bytesOf [119]), .string (bytesOf []), .string (bytesOf [])] 38) := by rw [hW5]; exact alloc_last _ _ rfl
  have hb5 : Below wf.heap.size wf W5 := by rw [hW5]; exact (Below.refl _ wf).alloc (Nat.le_refl _) _
  have k0 : W5.cell? ⟨wf.heap.size, 0, none⟩ = some (.int .i64 2) := by simp [World.cell?, g5]
  have k5 : W5.cell? ⟨wf.heap.size, 5, none⟩ = some (.int .i64 1) := by simp [World.cell?, g5]
  have hq5 := HQ4.out.below hb5
  have HSt5 := Lib.hid (HSt4.out.below hb5)
  have HS5 := Lib.hid (Save_did ⟨p, dp, b0, b1⟩ v4 _ 1 [120] W5 hq5)
  rw [H5.out] at HS5
  rw [← hW5]
  clear hq5 hb5 g5 hW5
  go_wp2_with fail
  refine (show Calls Tryd.prog 15 #[.pointer (some ⟨p, 0, none⟩), .int .i64 1, .string { data := #[120] }] W5 _ from HS5.out).mono ?_
  rintro e wg ⟨rfl, v5, hq5, hs5⟩
  have HSt6 := Lib.hid (HSt5.out.trans hs5)
  have HS6 := Lib.hid (Finish_did ⟨p, dp, b0, b1⟩ v5 _ 2 [100, 111, 110, 101] wg hq5)
  rw [H6.out] at HS6
  clear hq5 hs5 HS5 k0 k5
  go_wp2_with fail
  refine (show Calls Tryd.prog 17 #[.pointer (some ⟨p, 0, none⟩), .int .i64 2, .string { data := #[100, 111, 110, 101] }] wg _ from HS6.out).mono ?_
  rintro e wh ⟨rfl, v6, hq6, hs6⟩
  have HSt7 := Lib.hid (HSt6.out.trans hs6)
  have HS7 := Lib.hid (List_did ⟨p, dp, b0, b1⟩ v6 _ wh hq6)
  clear hq6 hs6 HS6
  go_wp2_with fail
  refine HS7.out.mono ?_
  rintro e wi ⟨⟨u, rfl, hu⟩, hbi⟩
  rw [H7.out] at hu
  obtain ⟨gu, cu, rfl⟩ := World.owns.succ hu
  have HSt8 := Lib.hid (HSt7.out.below hbi)
  clear hu hbi HS7
  go_wp2_with fail
  go_ret
  refine ⟨rfl, HB0.out.1.trans (HSt8.out.kp.below HB0.out.1.size HB0.out.2)⟩
end Go.Proofs.YtoggmplkbiidhaaDoor

/- Laws of the jobs: one of the calls of the queue. Printed by gen_lj3.py. -/
namespace Go.Proofs.YtoggmplkbiidhaaDoor
set_option linter.all false
open Go.RowKit Go.Shelf
def JAct.val (a : JAct) : Value := .agg #[.int .u8 (a.what : Int), .int .i64 a.id, .int .i64 a.prio, .string (bytesOf a.client), .string (bytesOf a.token), .string (bytesOf a.text)]
set_option maxRecDepth 100000 in
set_option maxHeartbeats 4000000 in
theorem call_any (P : QP) (v : Value) (x : Qst) (a : JAct) (w : World) (h : QD P v x w) :
    Calls Tryd.prog 11 #[.pointer (some ⟨P.p, 0, none⟩), a.val] w fun e w' => Did P v (.int .i64 (x.call a).1) (x.call a).2 w e w' := by
  obtain ⟨R, hR⟩ : ∃ R, R = x.call a := ⟨_, rfl⟩
  rw [← hR]
  unfold Qst.call at hR
  obtain ⟨m, hm⟩ : ∃ m, m = a.what % 14 := ⟨_, rfl⟩
  rw [← hm] at hR
  have hm14 : m < 14 := by omega
  obtain ⟨b, hb⟩ : ∃ b, b = w.heap.size := ⟨_, rfl⟩
  obtain ⟨W1, hW1⟩ : ∃ W, W = w.alloc (.cells #[.int .u8 (a.what : Int), .int .i64 a.id, .int .i64 a.prio, .string (bytesOf a.client), .string (bytesOf a.token), .string (bytesOf a.text)] 35) := ⟨_, rfl⟩
  have g1 : W1.heap[b]? = some (.cells #[.int .u8 (a.what : Int), .int .i64 a.id, .int .i64 a.prio, .string (bytesOf a.client), .string (bytesOf a.token), .string (bytesOf a.text)] 35) := by rw [hW1, hb]; exact alloc_last _ _ rfl
  have hb1 : Below w.heap.size w W1 := by rw [hW1]; exact (Below.refl _ w).alloc (Nat.le_refl _) _
  have k0 : W1.cell? ⟨b, 0, none⟩ = some (.int .u8 (a.what : Int)) := by simp [World.cell?, g1]
  have k1 : W1.cell? ⟨b, 1, none⟩ = some (.int .i64 a.id) := by simp [World.cell?, g1]
  have k2 : W1.cell? ⟨b, 2, none⟩ = some (.int .i64 a.prio) := by simp [World.cell?, g1]
  have k3 : W1.cell? ⟨b, 3, none⟩ = some (.string (bytesOf a.client)) := by simp [World.cell?, g1]
  have k4 : W1.cell? ⟨b, 4, none⟩ = some (.string (bytesOf a.token)) := by simp [World.cell?, g1]
  have k5 : W1.cell? ⟨b, 5, none⟩ = some (.string (bytesOf a.text)) := by simp [World.cell?, g1]
  have HQ := Lib.hid (h.below hb1)
  have HST := Lib.hid (Stp.of_below (P := P) (v := v) hb1)
  have HW1 := Lib.hid hW1
  have HBW := Lib.hid hb
  have hmi : ((a.what : Int)).tmod 14 = (m : Int) := by
    rw [hm, Int.tmod_eq_emod_of_nonneg (by omega)]; omega
  have hmi2 : (a.what : Int) % 14 = (m : Int) := by omega
  have HR := Lib.hid hR
  clear g1 hb1 hW1 hb hR h hm
  unfold JAct.val
  by_cases h0 : m = 0
  · subst h0
    have hR := HR.out
    simp (decide := true) only [if_true, if_false, true_or, or_true] at hR
    have HR2 := Lib.hid hR
    have HC := Lib.hid (Submit_did P v x a.client a.token a.prio a.text W1 HQ.out)
    clear hR HR
    go_enter Tryd.func11, Tryd.ntmps11
    go_upto_region 1 with (fail)
    rw [← HW1.out, ← HBW.out]
    go_wp2_with fail
    refine HC.out.mono ?_
    rintro e w2 ⟨rfl, v2, hq2, hs2⟩
    have HQ2 := Lib.hid hq2
    have HS2 := Lib.hid (HST.out.trans hs2)
    clear hq2 hs2
    go_wp2_with fail
    go_ret
    rw [HR2.out]
    exact ⟨rfl, v2, HQ2.out, HS2.out⟩
  by_cases h1 : m = 1
  · subst h1
    have hR := HR.out
    simp (decide := true) only [if_true, if_false, true_or, or_true] at hR
    have HR2 := Lib.hid hR
    have HC := Lib.hid (Submit_did P v x a.client a.token a.prio a.text W1 HQ.out)
    clear hR HR
    go_enter Tryd.func11, Tryd.ntmps11
    go_upto_region 1 with (fail)
    rw [← HW1.out, ← HBW.out]
    go_wp2_with fail
    refine HC.out.mono ?_
    rintro e w2 ⟨rfl, v2, hq2, hs2⟩
    have HQ2 := Lib.hid hq2
    have HS2 := Lib.hid (HST.out.trans hs2)
    clear hq2 hs2
    go_wp2_with fail
    go_ret
    rw [HR2.out]
    exact ⟨rfl, v2, HQ2.out, HS2.out⟩
  by_cases h2 : m = 2
  · subst h2
    have hR := HR.out
    simp (decide := true) only [if_true, if_false, true_or, or_true] at hR
    have HR2 := Lib.hid hR
    have HC := Lib.hid (Take_did P v x W1 HQ.out)
    clear hR HR
    go_enter Tryd.func11, Tryd.ntmps11
    go_upto_region 1 with (fail)
    rw [← HW1.out, ← HBW.out]
    go_wp2_with fail
    refine HC.out.mono ?_
    rintro e w2 ⟨rfl, v2, hq2, hs2⟩
    have HQ2 := Lib.hid hq2
    have HS2 := Lib.hid (HST.out.trans hs2)
    clear hq2 hs2
    go_wp2_with fail
    go_ret
    rw [HR2.out]
    exact ⟨rfl, v2, HQ2.out, HS2.out⟩
  by_cases h3 : m = 3
  · subst h3
    have hR := HR.out
    simp (decide := true) only [if_true, if_false, true_or, or_true] at hR
    have HR2 := Lib.hid hR
    have HC := Lib.hid (Take_did P v x W1 HQ.out)
    clear hR HR
    go_enter Tryd.func11, Tryd.ntmps11
    go_upto_region 1 with (fail)
    rw [← HW1.out, ← HBW.out]
    go_wp2_with fail
    refine HC.out.mono ?_
    rintro e w2 ⟨rfl, v2, hq2, hs2⟩
    have HQ2 := Lib.hid hq2
    have HS2 := Lib.hid (HST.out.trans hs2)
    clear hq2 hs2
    go_wp2_with fail
    go_ret
    rw [HR2.out]
    exact ⟨rfl, v2, HQ2.out, HS2.out⟩
  by_cases h4 : m = 4
  · subst h4
    have hR := HR.out
    simp (decide := true) only [if_true, if_false, true_or, or_true] at hR
    have HR2 := Lib.hid hR
    have HC := Lib.hid (Save_did P v x a.id a.text W1 HQ.out)
    clear hR HR
    go_enter Tryd.func11, Tryd.ntmps11
    go_upto_region 1 with (fail)
    rw [← HW1.out, ← HBW.out]
    go_wp2_with fail
    refine HC.out.mono ?_
    rintro e w2 ⟨rfl, v2, hq2, hs2⟩
    have HQ2 := Lib.hid hq2
    have HS2 := Lib.hid (HST.out.trans hs2)
    clear hq2 hs2
    go_wp2_with fail
    go_ret
    rw [HR2.out]
    exact ⟨rfl, v2, HQ2.out, HS2.out⟩
  by_cases h5 : m = 5
  · subst h5
    have hR := HR.out
    simp (decide := true) only [if_true, if_false, true_or, or_true] at hR
    have HR2 := Lib.hid hR
    have HC := Lib.hid (Give_did P v x a.id W1 HQ.out)
    clear hR HR
    go_enter Tryd.func11, Tryd.ntmps11
    go_upto_region 1 with (fail)
    rw [← HW1.out, ← HBW.out]
    go_wp2_with fail
    refine HC.out.mono ?_
    rintro e w2 ⟨rfl, v2, hq2, hs2⟩
    have HQ2 := Lib.hid hq2
    have HS2 := Lib.hid (HST.out.trans hs2)
    clear hq2 hs2
    go_wp2_with fail
    go_ret
    rw [HR2.out]
    exact ⟨rfl, v2, HQ2.out, HS2.out⟩
  by_cases h6 : m = 6
  · subst h6
    have hR := HR.out
    simp (decide := true) only [if_true, if_false, true_or, or_true] at hR
    have HR2 := Lib.hid hR
    have HC := Lib.hid (Finish_did P v x a.id a.text W1 HQ.out)
    clear hR HR
    go_enter Tryd.func11, Tryd.ntmps11
    go_upto_region 1 with (fail)
    rw [← HW1.out, ← HBW.out]
    go_wp2_with fail
    refine HC.out.mono ?_
    rintro e w2 ⟨rfl, v2, hq2, hs2⟩
    have HQ2 := Lib.hid hq2
    have HS2 := Lib.hid (HST.out.trans hs2)
    clear hq2 hs2
    go_wp2_with fail
    go_ret
    rw [HR2.out]
    exact ⟨rfl, v2, HQ2.out, HS2.out⟩
  by_cases h7 : m = 7
  · subst h7
    have hR := HR.out
    simp (decide := true) only [if_true, if_false, true_or, or_true] at hR
    have HR2 := Lib.hid hR
    have HC := Lib.hid (Fail_did P v x a.id a.text W1 HQ.out)
    clear hR HR
    go_enter Tryd.func11, Tryd.ntmps11
    go_upto_region 1 with (fail)
    rw [← HW1.out, ← HBW.out]
    go_wp2_with fail
    refine HC.out.mono ?_
    rintro e w2 ⟨rfl, v2, hq2, hs2⟩
    have HQ2 := Lib.hid hq2
    have HS2 := Lib.hid (HST.out.trans hs2)
    clear hq2 hs2
    go_wp2_with fail
    go_ret
    rw [HR2.out]
    exact ⟨rfl, v2, HQ2.out, HS2.out⟩
  by_cases h8 : m = 8
  · subst h8
    have hR := HR.out
    simp (decide := true) only [if_true, if_false, true_or, or_true] at hR
    have HR2 := Lib.hid hR
    have HC := Lib.hid (Cancel_did P v x a.id W1 HQ.out)
    clear hR HR
    go_enter Tryd.func11, Tryd.ntmps11
    go_upto_region 1 with (fail)
    rw [← HW1.out, ← HBW.out]
    go_wp2_with fail
    refine HC.out.mono ?_
    rintro e w2 ⟨rfl, v2, hq2, hs2⟩
    have HQ2 := Lib.hid hq2
    have HS2 := Lib.hid (HST.out.trans hs2)
    clear hq2 hs2
    go_wp2_with fail
    go_ret
    rw [HR2.out]
    exact ⟨rfl, v2, HQ2.out, HS2.out⟩
  by_cases h9 : m = 9
  · subst h9
    have hR := HR.out
    simp (decide := true) only [if_true, if_false, true_or, or_true] at hR
    have HR2 := Lib.hid hR
    have HC := Lib.hid (Forget_did P v x a.id W1 HQ.out)
    clear hR HR
    go_enter Tryd.func11, Tryd.ntmps11
    go_upto_region 1 with (fail)
    rw [← HW1.out, ← HBW.out]
    go_wp2_with fail
    refine HC.out.mono ?_
    rintro e w2 ⟨rfl, v2, hq2, hs2⟩
    have HQ2 := Lib.hid hq2
    have HS2 := Lib.hid (HST.out.trans hs2)
    clear hq2 hs2
    go_wp2_with fail
    go_ret
    rw [HR2.out]
    exact ⟨rfl, v2, HQ2.out, HS2.out⟩
  by_cases h10 : m = 10
  · subst h10
    have hR := HR.out
    simp (decide := true) only [if_true, if_false, true_or, or_true] at hR
    have HR2 := Lib.hid hR
    have HC := Lib.hid (Compact_did P v x W1 HQ.out)
    clear hR HR
    go_enter Tryd.func11, Tryd.ntmps11
    go_upto_region 1 with (fail)
    rw [← HW1.out, ← HBW.out]
    go_wp2_with fail
    refine HC.out.mono ?_
    rintro e w2 ⟨rfl, v2, hq2, hs2⟩
    have HQ2 := Lib.hid hq2
    have HS2 := Lib.hid (HST.out.trans hs2)
    clear hq2 hs2
    go_wp2_with fail
    go_ret
    rw [HR2.out]
    exact ⟨rfl, v2, HQ2.out, HS2.out⟩
  have hR := HR.out
  rw [if_neg (by omega), if_neg (by omega), if_neg h4, if_neg h5, if_neg h6, if_neg h7, if_neg h8, if_neg h9, if_neg h10] at hR
  have HR2 := Lib.hid hR
  have e0 : ((m : Int) == 0) = false := by rw [beq_eq_false_iff_ne]; omega
  have e1 : ((m : Int) == 1) = false := by rw [beq_eq_false_iff_ne]; omega
  have e2 : ((m : Int) == 2) = false := by rw [beq_eq_false_iff_ne]; omega
  have e3 : ((m : Int) == 3) = false := by rw [beq_eq_false_iff_ne]; omega
  have e4 : ((m : Int) == 4) = false := by rw [beq_eq_false_iff_ne]; omega
  have e5 : ((m : Int) == 5) = false := by rw [beq_eq_false_iff_ne]; omega
  have e6 : ((m : Int) == 6) = false := by rw [beq_eq_false_iff_ne]; omega
  have e7 : ((m : Int) == 7) = false := by rw [beq_eq_false_iff_ne]; omega
  have e8 : ((m : Int) == 8) = false := by rw [beq_eq_false_iff_ne]; omega
  have e9 : ((m : Int) == 9) = false := by rw [beq_eq_false_iff_ne]; omega
  have e10 : ((m : Int) == 10) = false := by rw [beq_eq_false_iff_ne]; omega
  clear hR HR h0 h1 h2 h3 h4 h5 h6 h7 h8 h9 h10
  go_enter Tryd.func11, Tryd.ntmps11
  go_upto_region 1 with (fail)
  rw [← HW1.out, ← HBW.out]
  go_wp2_with fail
  go_ret
  rw [HR2.out]
  exact ⟨rfl, v, HQ.out, HST.out⟩
end Go.Proofs.YtoggmplkbiidhaaDoor

/- Laws of the jobs: jobs are compared. -/
namespace Go.Proofs.YtoggmplkbiidhaaDoor
set_option linter.all false
open Go.RowKit Go.Shelf
set_option maxRecDepth 100000 in
set_option maxHeartbeats 4000000 in
theorem job_equalIn (a b : Jb) (W : World) : (Op.equalIn 10000 38 a.val b.val).run Tryd.prog W = .ok (decide (a = b)) W := by
  unfold Jb.val
  rw [run_equalIn_agg W 9999 38 _ _ (by kernel_rfl) (by kernel_rfl)]
  unfold Jb.cells strV
  go_simp
  by_cases h : a = b
  · subst h
    simp
  · rw [decide_eq_false h]
    have inj : ∀ x y : List UInt8, (bytesOf x).toList = (bytesOf y).toList → x = y := fun x y e => bytesOf_inj (toList_inj e)
    repeat' split
    all_goals first
      | rfl
      | (exfalso
         rename_i h1 h2 h3 h4 h5 h6 h7 h8 h9
         refine h ?_
         obtain ⟨a1, a2, a3, a4, a5, a6, a7, a8, a9⟩ := a
         obtain ⟨b1, b2, b3, b4, b5, b6, b7, b8, b9⟩ := b
         dsimp only at *
         rw [show a1 = b1 by omega, inj _ _ h2, inj _ _ h3, show a4 = b4 by omega, show a5 = b5 by omega, show a6 = b6 by omega, inj _ _ h7, inj _ _ h8, inj _ _ h9])
theorem job_neq (a b : Jb) (W : World) : (binOp .neq 38 a.val b.val).run Tryd.prog W = .ok (.bool (!decide (a = b))) W := by
  have h := job_equalIn a b W
  unfold Jb.val at h ⊢
  rw [run_neq_struct, h]; rfl
theorem job_guard (op : BinOp) (x y : Operand) (a b : Jb) (W : World) : (eqGuard op 38 x y a.val b.val).run Tryd.prog W = .ok () W := by
  unfold Jb.val
  exact run_eqGuard_agg W op 38 x y _ _ (by kernel_rfl)
noncomputable def sameB (a b : List Jb) : Bool := decide (a = b)
theorem take_same {a b : List Jb} (h : a.length = b.length) (hk : ∀ (i : Nat) (x y : Jb), a[i]? = some x → b[i]? = some y → x = y) : a = b := by
  apply List.ext_getElem? 
  intro i
  rcases Nat.lt_or_ge i a.length with hi | hi
  · have h1 := List.getElem?_eq_getElem hi
    have h2 := List.getElem?_eq_getElem (show i < b.length by omega)
    rw [h1, h2, hk i _ _ h1 h2]
  · rw [List.getElem?_eq_none hi, List.getElem?_eq_none (by omega)]
set_option maxRecDepth 100000 in
set_option maxHeartbeats 4000000 in
theorem same_any (A B : List Jb) (u v : Value) (w : World) (hu : w.owns 0 38 9 u A.length (jobsL A)) (hv : w.owns 0 38 9 v B.length (jobsL B)) (hA : A.length ≤ 100000) (hB : B.length ≤ 100000) :
    Calls Tryd.prog 28 #[u, v] w fun e w' => e = .returned (.bool (sameB A B)) ∧ Below w.heap.size w w' := by
  obtain ⟨ua, uc, rfl⟩ : ∃ a c, u = .slice a A.length c := by
    rcases hu.2 with ⟨e, h0⟩ | ⟨g, c, _, _, e, _⟩
    · exact ⟨none, 0, by rw [e, h0]⟩
    · exact ⟨_, c, e⟩
  obtain ⟨va, vc, rfl⟩ : ∃ a c, v = .slice a B.length c := by
    rcases hv.2 with ⟨e, h0⟩ | ⟨g, c, _, _, e, _⟩
    · exact ⟨none, 0, by rw [e, h0]⟩
    · exact ⟨_, c, e⟩
  have HU := Lib.hid hu
  have HV := Lib.hid hv
  obtain ⟨R, hR⟩ : ∃ R, R = sameB A B := ⟨_, rfl⟩
  rw [← hR]
  unfold sameB at hR
  have HR := Lib.hid hR
  obtain ⟨n, hn⟩ : ∃ n, n = A.length := ⟨_, rfl⟩
  obtain ⟨m, hm⟩ : ∃ m, m = B.length := ⟨_, rfl⟩
  rw [← hn] at hA ⊢
  rw [← hm] at hB ⊢
  have HN := Lib.hid hn
  have HM := Lib.hid hm
  rw [← hn] at HU
  rw [← hm] at HV
  clear hR hn hm hu hv
  by_cases hnm : n = m
  case neg =>
    obtain rfl : R = false := by
      rw [HR.out]
      refine decide_eq_false (fun e => hnm ?_)
      rw [HN.out, HM.out, e]
    have hnm' : ((n : Int) == (m : Int)) = false := by rw [beq_eq_false_iff_ne]; omega
    clear hnm
    go_enter Tryd.func28, Tryd.ntmps28
    go_wp2_with fail
    go_ret
    exact ⟨rfl, Below.refl _ _⟩
  subst hnm
  go_enter Tryd.func28, Tryd.ntmps28
  go_wp2_with fail
  go_loopw [5] (fun iv wr => ∃ k : Nat, k ≤ n ∧ iv = .int .i64 (k : Int) ∧ Hid (∀ (i : Nat) (x y : Jb), i < k → A[i]? = some x → B[i]? = some y → x = y) ∧ Hid (Below w.heap.size w wr)) (fun iv _ => n - (intOf iv).toNat)
  case atStart => exact ⟨0, Nat.zero_le _, rfl, fun i x y hi => by omega, Below.refl _ _⟩
  case round =>
    obtain ⟨k, hk, rfl, hS, hB2⟩ := hrel
    by_cases hlt : k < n
    · obtain ⟨x, hx⟩ : ∃ x, A[k]? = some x := ⟨A[k]'(by rw [← HN.out]; exact hlt), List.getElem?_eq_getElem _⟩
      obtain ⟨y, hy⟩ : ∃ y, B[k]? = some y := ⟨B[k]'(by rw [← HM.out]; exact hlt), List.getElem?_eq_getElem _⟩
      obtain ⟨g, c1, hg1, hg2, c0, d1, d2, d3, d4, d5, d6, d7, d8⟩ := JobsAt.cells (w := wr) (v := .slice ua A.length uc) (by have h := HU.out.below (show Below w.heap.size w wr from hB2.out); rw [HN.out] at h; exact h) k x hx
      obtain ⟨g', c2, hg3, hg4, e0, e1, e2, e3, e4, e5, e6, e7, e8⟩ := JobsAt.cells (w := wr) (v := .slice va B.length vc) (by have h := HV.out.below (show Below w.heap.size w wr from hB2.out); rw [HM.out] at h; exact h) k y hy
      injection hg1 with hg1 _ _
      injection hg3 with hg3 _ _
      subst hg1 hg3
      unfold strV at d1 d2 d6 d7 d8 e1 e2 e6 e7 e8
      have hq := fun W => job_neq x y W
      have hg := fun op a b W => job_guard op a b x y W
      unfold Jb.val Jb.cells strV at hq hg
      have HX := Lib.hid hx
      have HY := Lib.hid hy
      clear hx hy
      go_upto_region 6 with (fail)
      refine wp_region_heldL (fun w' => w'.cell? ⟨g, k * 9, none⟩ = some (.int .i64 x.id) ∧ w'.cell? ⟨g, k * 9 + 1, none⟩ = some (.string (bytesOf x.client)) ∧ w'.cell? ⟨g, k * 9 + 2, none⟩ = some (.string (bytesOf x.token)) ∧ w'.cell? ⟨g, k * 9 + 3, none⟩ = some (.int .i64 x.prio) ∧ w'.cell? ⟨g, k * 9 + 4, none⟩ = some (.int .i64 x.state) ∧ w'.cell? ⟨g, k * 9 + 5, none⟩ = some (.int .i64 x.tries) ∧ w'.cell? ⟨g, k * 9 + 6, none⟩ = some (.string (bytesOf x.work)) ∧ w'.cell? ⟨g, k * 9 + 7, none⟩ = some (.string (bytesOf x.point)) ∧ w'.cell? ⟨g, k * 9 + 8, none⟩ = some (.string (bytesOf x.result)) ∧
        w'.cell? ⟨g', k * 9, none⟩ = some (.int .i64 y.id) ∧ w'.cell? ⟨g', k * 9 + 1, none⟩ = some (.string (bytesOf y.client)) ∧ w'.cell? ⟨g', k * 9 + 2, none⟩ = some (.string (bytesOf y.token)) ∧ w'.cell? ⟨g', k * 9 + 3, none⟩ = some (.int .i64 y.prio) ∧ w'.cell? ⟨g', k * 9 + 4, none⟩ = some (.int .i64 y.state) ∧ w'.cell? ⟨g', k * 9 + 5, none⟩ = some (.int .i64 y.tries) ∧ w'.cell? ⟨g', k * 9 + 6, none⟩ = some (.string (bytesOf y.work)) ∧ w'.cell? ⟨g', k * 9 + 7, none⟩ = some (.string (bytesOf y.point)) ∧ w'.cell? ⟨g', k * 9 + 8, none⟩ = some (.string (bytesOf y.result))) (by kernel_rfl) ⟨c0, d1, d2, d3, d4, d5, d6, d7, d8, e0, e1, e2, e3, e4, e5, e6, e7, e8⟩ (fun hHeld => ?_)
      refine wpAnyH_takeL 0 (v := ?_) (by kernel_rfl) rfl (by kernel_rfl) (by kernel_rfl) (fun _ _ _ h => h) (Or.inl ⟨by rfl, ?_⟩) (by assumption) ?_
      rotate_left
      · (intro wq hSq; (try dsimp only at hSq); go_simp; try with_reducible rfl)
      try simp only [Act.put, List.setIfInBounds_toArray, List.set_cons_zero, List.set_cons_succ]
      refine wpAnyH_takeL 1 (v := ?_) (by kernel_rfl) rfl (by kernel_rfl) (by kernel_rfl) (fun _ _ _ h => h) (Or.inl ⟨by rfl, ?_⟩) (by assumption) ?_
      rotate_left
      · (intro wq hSq; (try dsimp only at hSq); go_simp; try with_reducible rfl)
      try simp only [Act.put, List.setIfInBounds_toArray, List.set_cons_zero, List.set_cons_succ]
      refine wpAnyH_takeL 2 (v := ?_) (by kernel_rfl) rfl (by kernel_rfl) (by kernel_rfl) (fun _ _ _ h => h) (Or.inl ⟨by rfl, ?_⟩) (by assumption) ?_
      rotate_left
      · (intro wq hSq; (try dsimp only at hSq); go_simp; try with_reducible rfl)
      try simp only [Act.put, List.setIfInBounds_toArray, List.set_cons_zero, List.set_cons_succ]
      refine wpAnyH_takeL 3 (v := ?_) (by kernel_rfl) rfl (by kernel_rfl) (by kernel_rfl) (fun _ _ _ h => h) (Or.inl ⟨by rfl, ?_⟩) (by assumption) ?_
      rotate_left
      · (intro wq hSq; (try dsimp only at hSq); go_simp; try with_reducible rfl)
      try simp only [Act.put, List.setIfInBounds_toArray, List.set_cons_zero, List.set_cons_succ]
      refine wpAnyH_takeL 4 (v := ?_) (by kernel_rfl) rfl (by kernel_rfl) (by kernel_rfl) (fun _ _ _ h => h) (Or.inl ⟨by rfl, ?_⟩) (by assumption) ?_
      rotate_left
      · (intro wq hSq; (try dsimp only at hSq); go_simp; try with_reducible rfl)
      try simp only [Act.put, List.setIfInBounds_toArray, List.set_cons_zero, List.set_cons_succ]
      refine wpAnyH_takeL 5 (v := ?_) (by kernel_rfl) rfl (by kernel_rfl) (by kernel_rfl) (fun _ _ _ h => h) (Or.inl ⟨by rfl, ?_⟩) (by assumption) ?_
      rotate_left
      · (intro wq hSq; (try dsimp only at hSq); go_simp; try with_reducible rfl)
      try simp only [Act.put, List.setIfInBounds_toArray, List.set_cons_zero, List.set_cons_succ]
      refine wpAnyH_takeL 6 (v := ?_) (by kernel_rfl) rfl (by kernel_rfl) (by kernel_rfl) (fun _ _ _ h => h) (Or.inl ⟨by rfl, ?_⟩) (by assumption) ?_
      rotate_left
      · (intro wq hSq; (try dsimp only at hSq); go_simp; try with_reducible rfl)
      try simp only [Act.put, List.setIfInBounds_toArray, List.set_cons_zero, List.set_cons_succ]
      refine wpAnyH_takeL 7 (v := ?_) (by kernel_rfl) rfl (by kernel_rfl) (by kernel_rfl) (fun _ _ _ h => h) (Or.inl ⟨by rfl, ?_⟩) (by assumption) ?_
      rotate_left
      · (intro wq hSq; (try dsimp only at hSq); go_simp; try with_reducible rfl)
      try simp only [Act.put, List.setIfInBounds_toArray, List.set_cons_zero, List.set_cons_succ]
      refine wpAnyH_takeL 8 (v := ?_) (by kernel_rfl) rfl (by kernel_rfl) (by kernel_rfl) (fun _ _ _ h => h) (Or.inl ⟨by rfl, ?_⟩) (by assumption) ?_
      rotate_left
      · (intro wq hSq; (try dsimp only at hSq); go_simp; try with_reducible rfl)
      try simp only [Act.put, List.setIfInBounds_toArray, List.set_cons_zero, List.set_cons_succ]
      refine wpAnyH_end (by kernel_rfl) ?_
      clear c0 d1 d2 d3 d4 d5 d6 d7 d8 e0 e1 e2 e3 e4 e5 e6 e7 e8 hHeld hq hg
      by_cases hxy : x = y
      · have HXY := Lib.hid hxy
        rw [decide_eq_true hxy]
        clear hxy
        go_wp2_with fail
        go_roundw
        case rel =>
          refine ⟨k + 1, by omega, by go_num, fun i a b hi ha hb => ?_, hB2.out.trans ((Below.refl wr.heap.size wr).drew.mono hB2.out.size)⟩
          rcases Nat.lt_or_ge i k with hik | hik
          · exact hS.out i a b hik ha hb
          · obtain rfl : i = k := by omega
            have h1 := HX.out.symm.trans ha
            have h2 := HY.out.symm.trans hb
            injection h1 with h1
            injection h2 with h2
            rw [← h1, ← h2]; exact HXY.out
        case measure => simp [intOf]; omega
      · obtain rfl : R = false := by
          rw [HR.out]
          refine decide_eq_false (fun e => hxy ?_)
          have h1 := HX.out
          rw [e, HY.out] at h1
          injection h1 with h1
          exact h1.symm
        rw [decide_eq_false hxy]
        clear hxy
        go_wp2_with fail
        go_ret
        exact ⟨rfl, hB2.out.trans ((Below.refl wr.heap.size wr).drew.mono hB2.out.size)⟩
    · obtain rfl : k = n := by omega
      obtain rfl : R = true := by
        rw [HR.out]
        refine decide_eq_true (take_same (by rw [← HN.out, ← HM.out]) (fun i x y hx hy => hS.out i x y (by have := (List.getElem?_eq_some_iff.1 hx).1; rw [HN.out]; omega) hx hy))
      go_wp2_with fail
      go_ret
      exact ⟨rfl, hB2.out⟩
end Go.Proofs.YtoggmplkbiidhaaDoor

/- Laws of the jobs: what a call of the queue leaves alone. Printed by gen_lj5.py. -/
namespace Go.Proofs.YtoggmplkbiidhaaDoor
set_option linter.all false
open Go.RowKit Go.Shelf
/-- A list of jobs that a call of the queue leaves alone. -/
structure Aside (P : QP) (v u : Value) (js : List Jb) (W : World) : Prop where
  (ow : W.owns 0 38 9 u js.length (jobsL js))
  (na : ∀ k, u.ownBlock = some k → ¬ Mine P v k)
theorem mine_stp {P : QP} {v v' : Value} {W W' : World} (h : Stp P v v' W W') (k : Nat) (hk : k < W.heap.size) (hm : Mine P v' k) : Mine P v k := by
  rcases hm with e | e | e | e | e
  · exact .inl e
  · exact .inr (.inl e)
  · exact .inr (.inr (.inl e))
  · exact .inr (.inr (.inr (.inl e)))
  · rcases h.mv k e with e | e
    · exact .inr (.inr (.inr (.inr e)))
    · omega
theorem Aside.stp {P : QP} {v v' u : Value} {js : List Jb} {W W' : World} (h : Aside P v u js W) (hs : Stp P v v' W W') : Aside P v' u js W' :=
  ⟨World.owns.keptBy h.ow (fun g c fz hg hh => hs.kp.block g (lt_of_heap hh) (h.na g hg)), fun k e hm => h.na k e (mine_stp hs k (h.ow.lt k e).2 hm)⟩
theorem Aside.below {P : QP} {v u : Value} {js : List Jb} {W W' : World} (h : Aside P v u js W) (hb : Below W.heap.size W W') : Aside P v u js W' := h.stp (Stp.of_below hb)
/-- The queue of a law, behind B. -/
structure Ord (B : Nat) (P : QP) (v : Value) (x : Qst) (w W : World) : Prop where
  (qd : QD P v x W)
  (up : x.up)
  (bl : Below B w W)
  (mn : ∀ k, Mine P v k → B ≤ k)
  (le : B ≤ W.heap.size)
theorem Ord.below {B : Nat} {P : QP} {v : Value} {x : Qst} {w W W' : World} (h : Ord B P v x w W) (hb : Below W.heap.size W W') : Ord B P v x w W' :=
  ⟨h.qd.below hb, h.up, h.bl.trans (hb.mono h.le), h.mn, Nat.le_trans h.le hb.size⟩
theorem Ord.stp {B : Nat} {P : QP} {v v' : Value} {x x' : Qst} {w W W' : World} (h : Ord B P v x w W) (hq : QD P v' x' W') (hs : Stp P v v' W W') (hu : x'.up) : Ord B P v' x' w W' := by
  refine ⟨hq, hu, h.bl.trans (hs.kp.below h.le h.mn), fun k hm => ?_, Nat.le_trans h.le hs.kp.size⟩
  rcases Nat.lt_or_ge k W.heap.size with hk | hk
  · exact h.mn k (mine_stp hs k hk hm)
  · exact Nat.le_trans h.le hk
theorem aside_new {P : QP} {v u : Value} {x : Qst} {js : List Jb} {W W' : World} (hq : QD P v x W) (h : W'.owns W.heap.size 38 9 u js.length (jobsL js)) : Aside P v u js W' :=
  ⟨World.owns.mono h (Nat.zero_le _), fun k e hm => by have := (h.lt k e).1; have := hq.lt k hm; omega⟩
theorem Aside.job {P : QP} {v : Value} {a : Option Addr} {c : Nat} {js : List Jb} {W : World} (h : Aside P v (.slice a js.length c) js W) (k : Nat) (j : Jb) (hj : js[k]? = some j) :
    ∃ g, a = some ⟨g, 0, none⟩ ∧ ∀ i u, i < 9 → j.cells[i]? = some u → W.cell? ⟨g, k * 9 + i, none⟩ = some u := by
  have hk : k < js.length := (List.getElem?_eq_some_iff.1 hj).1
  obtain ⟨g, cap, e⟩ := World.owns.pos h.ow (by omega)
  injection e with e1 e2 e3
  subst e1 e3
  exact ⟨g, rfl, fun i u hi hu => (job_cell h.ow hj hi hu).1⟩
end Go.Proofs.YtoggmplkbiidhaaDoor

/- Plain: a queue of jobs: the journal tells the queue. -/
namespace Go.Proofs.YtoggmplkbiidhaaDoor
set_option linter.all false
theorem rdK1 (q : Qs) (r : List UInt8) (id : Nat) : rdK 1 q r id = rd1 q r id := by unfold rdK; rw [if_pos rfl]
theorem rdK2 (q : Qs) (r : List UInt8) (id : Nat) : rdK 2 q r id = rd2 q r id := by unfold rdK; rw [if_neg (by decide), if_pos rfl]
theorem rdK3 (q : Qs) (r : List UInt8) (id : Nat) : rdK 3 q r id = rd3 q r id := by unfold rdK; rw [if_neg (by decide), if_neg (by decide), if_pos rfl]
theorem rdK4 (q : Qs) (r : List UInt8) (id : Nat) : rdK 4 q r id = rd4 q r id := by unfold rdK; rw [if_neg (by decide), if_neg (by decide), if_neg (by decide), if_pos rfl]
theorem rdK5 (q : Qs) (r : List UInt8) (id : Nat) : rdK 5 q r id = rd5 q r id := by unfold rdK; rw [if_neg (by decide), if_neg (by decide), if_neg (by decide), if_neg (by decide), if_pos rfl]
theorem rdK6 (q : Qs) (r : List UInt8) (id : Nat) : rdK 6 q r id = rd6 q r id := by unfold rdK; rw [if_neg (by decide), if_neg (by decide), if_neg (by decide), if_neg (by decide), if_neg (by decide), if_pos rfl]
/-- A record of a new job. -/
theorem one_sub (q : Qs) (j : Jb) (h0 : 0 < j.id) (h63 : j.id < 9223372036854775808) (hp : j.prio ≤ 9) (hc : labelB j.client = true) (ht : labelB j.token = true) (hw : j.work.length ≤ 60000) (hl : q.last < j.id) (hn : q.named j.client j.token = none) (h100 : q.jobs.length < 100) :
    q.one (subB j) = some ⟨q.jobs ++ [⟨j.id, j.client, j.token, j.prio, 1, 0, j.work, [], []⟩], j.id⟩ := by
  have hcl : j.client.length ≤ 32 := by unfold labelB at hc; simp at hc; omega
  have htl : j.token.length ≤ 32 := by unfold labelB at ht; simp at ht; omega
  have e : subB j = recB 1 j.id ++ (numB j.prio 1 ++ (textB j.client ++ (textB j.token ++ (textB j.work ++ [])))) := by unfold subB; simp [List.append_assoc]
  rw [e, one_rec q 1 j.id _ (by decide) (by decide) h63 (.inl h0), rdK1]
  unfold rd1
  rw [takeN_numB j.prio 1 _ (by show _ < 256; omega), Option.bind_some]
  dsimp only
  rw [takeT_textB j.client _ 32 hcl (by decide), Option.bind_some]
  dsimp only
  rw [takeT_textB j.token _ 32 htl (by decide), Option.bind_some]
  dsimp only
  rw [takeT_textB j.work _ 60000 hw (by decide), Option.bind_some]
  dsimp only
  rw [if_pos ⟨hp, hc, ht, hl, hn, h100⟩, Option.bind_some]
  rfl
theorem one_take (q : Qs) (id k : Nat) (j : Jb) (h0 : 0 < id) (h63 : id < 9223372036854775808) (hat : q.at id = some k) (hj : q.jobs[k]? = some j) (he : endedB j.state = false) (h8 : j.tries < 8) :
    q.one (recB 2 id) = some (q.put k { j with tries := j.tries + 1 }) := by
  have := one_rec q 2 id [] (by decide) (by decide) h63 (.inl h0)
  rw [List.append_nil] at this
  rw [this, rdK2]
  unfold rd2
  rw [hat, Option.bind_some, hj, Option.bind_some, if_pos ⟨he, h8⟩, Option.bind_some]
  rfl
theorem one_save (q : Qs) (id k : Nat) (j : Jb) (s : List UInt8) (h0 : 0 < id) (h63 : id < 9223372036854775808) (hat : q.at id = some k) (hj : q.jobs[k]? = some j) (he : endedB j.state = false) (ht : 0 < j.tries) (hs : s.length ≤ 60000) :
    q.one (recB 3 id ++ textB s) = some (q.put k { j with point := s }) := by
  rw [one_rec q 3 id _ (by decide) (by decide) h63 (.inl h0), rdK3]
  unfold rd3
  have e : textB s = textB s ++ [] := (List.append_nil _).symm
  rw [hat, Option.bind_some, hj, Option.bind_some, if_pos ⟨he, ht⟩, e, takeT_textB s [] 60000 hs (by decide), Option.bind_some, Option.bind_some]
  rfl
theorem one_over (q : Qs) (id k st : Nat) (j : Jb) (s : List UInt8) (h0 : 0 < id) (h63 : id < 9223372036854775808) (hat : q.at id = some k) (hj : q.jobs[k]? = some j) (he : endedB j.state = false) (hst : endedB st = true) (hs : s.length ≤ 60000) :
    q.one (overB id st s) = some (q.put k { j with state := st, result := s }) := by
  have h5 := ended_of hst
  have e : overB id st s = recB 4 id ++ (numB st 1 ++ (textB s ++ [])) := by unfold overB; simp [List.append_assoc]
  rw [e, one_rec q 4 id _ (by decide) (by decide) h63 (.inl h0), rdK4]
  unfold rd4
  rw [hat, Option.bind_some, hj, Option.bind_some, if_pos he, takeN_numB st 1 _ (by show _ < 256; omega), Option.bind_some]
  dsimp only
  rw [takeT_textB s [] 60000 hs (by decide), Option.bind_some]
  dsimp only
  rw [if_pos hst, Option.bind_some]
  rfl
theorem one_forget (q : Qs) (id k : Nat) (j : Jb) (h0 : 0 < id) (h63 : id < 9223372036854775808) (hat : q.at id = some k) (hj : q.jobs[k]? = some j) (he : endedB j.state = true) :
    q.one (recB 5 id) = some { q with jobs := q.jobs.eraseIdx k } := by
  have := one_rec q 5 id [] (by decide) (by decide) h63 (.inl h0)
  rw [List.append_nil] at this
  rw [this, rdK5]
  unfold rd5
  rw [hat, Option.bind_some, hj, Option.bind_some, if_pos he, Option.bind_some]
  rfl
theorem one_last (q : Qs) (id : Nat) (h63 : id < 9223372036854775808) (hl : q.last ≤ id) : q.one (recB 6 id) = some { q with last := id } := by
  have := one_rec q 6 id [] (by decide) (by decide) h63 (.inr rfl)
  rw [List.append_nil] at this
  rw [this, rdK6]
  unfold rd6
  rw [if_pos hl, Option.bind_some]
  rfl
/-! ### the short journal -/
theorem at_end (js : List Jb) (j : Jb) (last : Nat) (h : ∀ x ∈ js, x.id < j.id) : (Qs.mk (js ++ [j]) last).at j.id = some js.length := by
  unfold Qs.at
  rw [List.findIdx?_eq_some_iff_getElem]
  refine ⟨by simp, by simp, fun i hi => ?_⟩
  have hi' : i < js.length := hi
  rw [List.getElem_append_left hi']
  have := h _ (List.getElem_mem hi')
  simp; omega
theorem get_end (js : List Jb) (j : Jb) : (js ++ [j])[js.length]? = some j := by simp
theorem put_end (js : List Jb) (j j' : Jb) (last : Nat) : (Qs.mk (js ++ [j]) last).put js.length j' = ⟨js ++ [j'], last⟩ := by
  unfold Qs.put
  simp
theorem all_takes (js : List Jb) (j : Jb) (last : Nat) (hid : ∀ x ∈ js, x.id < j.id) (h0 : 0 < j.id) (h63 : j.id < 9223372036854775808) (he : endedB j.state = false) : ∀ n, j.tries + n ≤ 8 →
    (Qs.mk (js ++ [j]) last).all (List.replicate n (recB 2 j.id)) = some ⟨js ++ [{ j with tries := j.tries + n }], last⟩ := by
  intro n
  induction n generalizing j with
  | zero => intro _; rfl
  | succ n ih =>
    intro hn
    show ((Qs.mk (js ++ [j]) last).one (recB 2 j.id)).bind (fun q' => q'.all (List.replicate n (recB 2 j.id))) = _
    rw [one_take _ j.id js.length j h0 h63 (at_end js j last hid) (get_end js j) he (by omega), put_end, Option.bind_some]
    have := ih { j with tries := j.tries + 1 } hid h0 h63 he (by show j.tries + 1 + n ≤ 8; omega)
    rw [show j.tries + (n + 1) = j.tries + 1 + n by omega]
    exact this
theorem asleep_of {j : Jb} (hs : 1 ≤ j.state) (he : endedB j.state = false) (h5 : j.state ≤ 5) : j.asleep = { j with state := 1 } := by
  unfold Jb.asleep
  split
  · rfl
  · have := not_ended he
    have : j.state = 1 := by omega
    rw [← this]
theorem asleep_same {j : Jb} (he : endedB j.state = true) : j.asleep = j := by
  unfold Jb.asleep
  rw [if_neg]
  intro h
  rw [h] at he
  cases he
theorem all_shortJ (js : List Jb) (j : Jb) (last : Nat) (ho : j.ok j.id) (hf : j.fine) (h63 : j.id < 9223372036854775808) (hid : ∀ x ∈ js, x.id < j.id) (hl : last < j.id) (hn : (Qs.mk js last).named j.client j.token = none) (h100 : js.length < 100) :
    (Qs.mk js last).all (shortJ j) = some ⟨js ++ [j.asleep], j.id⟩ := by
  show ((Qs.mk js last).one (subB j)).bind (fun q' => q'.all _) = _
  rw [one_sub _ j ho.id0 h63 ho.prio ho.cl ho.tk ho.wk hl hn h100, Option.bind_some]
  have ht := all_takes js ⟨j.id, j.client, j.token, j.prio, 1, 0, j.work, [], []⟩ j.id hid ho.id0 h63 rfl j.tries (by show 0 + j.tries ≤ 8; have := ho.tr; omega)
  rw [all_append, ht, Option.bind_some, all_append]
  dsimp only
  rw [Nat.zero_add]
  have hpt : (Qs.mk (js ++ [⟨j.id, j.client, j.token, j.prio, 1, j.tries, j.work, [], []⟩]) j.id).all (if j.point = [] then [] else [recB 3 j.id ++ textB j.point]) = some ⟨js ++ [⟨j.id, j.client, j.token, j.prio, 1, j.tries, j.work, j.point, []⟩], j.id⟩ := by
    by_cases hp : j.point = []
    · rw [if_pos hp, hp]; rfl
    · rw [if_neg hp]
      show (Qs.one _ _).bind (fun q' => some q') = _
      rw [one_save (Qs.mk (js ++ [(Jb.mk j.id j.client j.token j.prio 1 j.tries j.work [] [])]) j.id) j.id js.length (Jb.mk j.id j.client j.token j.prio 1 j.tries j.work [] []) j.point ho.id0 h63 (at_end js (Jb.mk j.id j.client j.token j.prio 1 j.tries j.work [] []) j.id hid) (get_end js (Jb.mk j.id j.client j.token j.prio 1 j.tries j.work [] [])) rfl (hf.pt0 hp) ho.pt, put_end]
      rfl
  rw [hpt, Option.bind_some]
  by_cases he : endedB j.state = true
  · rw [if_pos he]
    show (Qs.one _ _).bind (fun q' => some q') = _
    rw [one_over (Qs.mk (js ++ [(Jb.mk j.id j.client j.token j.prio 1 j.tries j.work j.point [])]) j.id) j.id js.length j.state (Jb.mk j.id j.client j.token j.prio 1 j.tries j.work j.point []) j.result ho.id0 h63 (at_end js (Jb.mk j.id j.client j.token j.prio 1 j.tries j.work j.point []) j.id hid) (get_end js (Jb.mk j.id j.client j.token j.prio 1 j.tries j.work j.point [])) rfl he ho.rs, put_end, asleep_same he]
    rfl
  · have he' : endedB j.state = false := by simpa using he
    rw [if_neg he, asleep_of ho.s1 he' ho.s5]
    have hr := hf.rs0 he'
    show some _ = some _
    obtain ⟨a1, a2, a3, a4, a5, a6, a7, a8, a9⟩ := j
    dsimp only at hr ⊢
    rw [hr]
theorem named_asleep_none (js : List Jb) (last : Nat) (c t : List UInt8) (h : ∀ j ∈ js, ¬ (j.client = c ∧ j.token = t)) : (Qs.mk (js.map Jb.asleep) last).named c t = none := by
  unfold Qs.named
  rw [List.findIdx?_eq_none_iff]
  intro x hx
  obtain ⟨j, hj, rfl⟩ := List.mem_map.1 hx
  have := h j hj
  rw [asleep_client, asleep_token]
  simpa using this
/-- The short journal tells the queue. -/
theorem replay_jobs (q : Qs) (hq : q.fine) : ∀ k, k ≤ q.jobs.length → ∃ last, last ≤ q.last ∧ (∀ j, q.jobs[k]? = some j → last < j.id) ∧ replay ((q.jobs.take k).flatMap shortJ) = some ⟨(q.jobs.take k).map Jb.asleep, last⟩ := by
  intro k
  induction k with
  | zero => intro _; exact ⟨0, Nat.zero_le _, fun j hj => (hq.ok.job j (List.mem_of_getElem? hj)).id0, rfl⟩
  | succ k ih =>
    intro hk
    obtain ⟨last, h1, h2, h3⟩ := ih (by omega)
    have hk' : k < q.jobs.length := by omega
    have hj := List.getElem?_eq_getElem hk'
    have hp := List.pairwise_iff_getElem.1 hq.ok.asc
    have hpn := List.pairwise_iff_getElem.1 hq.names
    have ho := hq.ok.job _ (List.getElem_mem hk')
    refine ⟨q.jobs[k].id, ho.id1, fun j hj' => ?_, ?_⟩
    · obtain ⟨h4, h5⟩ := List.getElem?_eq_some_iff.1 hj'
      have := hp k (k + 1) hk' h4 (by omega)
      rw [h5] at this
      exact this
    · rw [List.take_add_one, hj, List.flatMap_append]
      show replay (_ ++ (shortJ q.jobs[k] ++ [])) = _
      rw [List.append_nil]
      unfold replay at h3 ⊢
      rw [all_append, h3, Option.bind_some]
      have hpre : ∀ x ∈ q.jobs.take k, x.id < q.jobs[k].id ∧ ¬ (x.client = q.jobs[k].client ∧ x.token = q.jobs[k].token) := fun x hx => by
        obtain ⟨i, hi⟩ := List.getElem?_of_mem hx
        rw [List.getElem?_take] at hi
        split at hi
        · rename_i hik
          obtain ⟨h4, h5⟩ := List.getElem?_eq_some_iff.1 hi
          have a1 := hp i k h4 hk' hik
          have a2 := hpn i k h4 hk' hik
          rw [h5] at a1 a2
          exact ⟨a1, a2⟩
        · cases hi
      rw [all_shortJ _ _ last ⟨ho.id0, Nat.le_refl _, ho.prio, ho.cl, ho.tk, ho.tr, ho.s1, ho.s5, ho.wk, ho.pt, ho.rs⟩ (hq.job _ (List.getElem_mem hk')) (by have := ho.id1; have := hq.ok.last; omega)
        (fun x hx => by
          obtain ⟨y, hy, rfl⟩ := List.mem_map.1 hx
          rw [asleep_id]; exact (hpre y hy).1) (h2 _ hj) (named_asleep_none _ _ _ _ (fun x hx => (hpre x hx).2)) (by rw [List.length_map, List.length_take]; have := hq.ok.len; omega)]
      rw [List.map_append]
      rfl
theorem replay_short (q : Qs) (hq : q.fine) : replay q.short = some q.asleep := by
  obtain ⟨last, h1, -, h3⟩ := replay_jobs q hq q.jobs.length (Nat.le_refl _)
  rw [List.take_length] at h3
  unfold Qs.short replay at *
  rw [all_append, h3, Option.bind_some]
  by_cases h0 : 0 < q.last
  · rw [if_pos h0]
    show (Qs.one _ _).bind (fun q' => some q') = _
    rw [one_last _ q.last hq.ok.last h1]
    rfl
  · rw [if_neg h0]
    have : last = q.last := by omega
    rw [this]; rfl
end Go.Proofs.YtoggmplkbiidhaaDoor

/- Plain: a queue of jobs: two queues, one on a disk that may fail. -/
namespace Go.Proofs.YtoggmplkbiidhaaDoor
set_option linter.all false
/-- Two disks with the same records. -/
structure Same2 (d t : Dk) : Prop where
  (sz : d.size = t.size)
  (us : d.used = t.used)
  (gn : d.gen = t.gen)
  (tx : d.texts = t.texts)
  (gd : d.good)
  (nf : d.failed = false)
  (ft : t.free)
theorem app2 {d t : Dk} (h : Same2 d t) (r : List UInt8) (hr : r.length ≤ 65535) :
    ((d.appended r).1 ≠ 9 → (d.appended r).1 = (t.appended r).1 ∧ Same2 (d.appended r).2 (t.appended r).2 ∧ ((d.appended r).1 = 0 → (d.appended r).2.texts = d.texts ++ [r]) ∧ ((d.appended r).1 ≠ 0 → (d.appended r).2.texts = d.texts)) ∧
    ((d.appended r).1 = 9 → (d.appended r).2.good ∧ (d.appended r).2.texts = d.texts) := by
  have hd := appended_post h.gd r
  have ht := appended_post h.ft.good r
  obtain ⟨f1, f2⟩ := appended_free h.ft r hr
  refine ⟨fun h9 => ?_, fun h9 => ⟨hd.good, hd.down h9⟩⟩
  by_cases hfit : d.used + 13 + r.length ≤ d.size
  · have e1 := appended_err h.gd r h.nf hr hfit
    have e2 := appended_err h.ft.good r h.ft.nf hr (by rw [← h.us, ← h.sz]; exact hfit)
    have a0 : (d.appended r).1 = 0 := by
      rcases e1 with q | q
      · exact q
      · exact absurd q h9
    have b0 : (t.appended r).1 = 0 := by
      rcases e2 with q | q
      · exact q
      · rcases f2 with z | z
        · exact z
        · rw [z] at q; cases q
    obtain ⟨a1, a2, a3⟩ := hd.ok0 a0
    obtain ⟨b1, b2, b3⟩ := ht.ok0 b0
    refine ⟨by rw [a0, b0], ⟨by rw [hd.size, ht.size]; exact h.sz, by rw [a2, b2, h.us], by rw [hd.gen, ht.gen]; exact h.gn, by rw [a1, b1, h.tx], hd.good, a3, f1⟩, fun _ => a1, fun q => absurd a0 q⟩
  · have e1 := appended_full h.gd r h.nf hr (by omega)
    have e2 := appended_full h.ft.good r h.ft.nf hr (by rw [← h.us, ← h.sz]; omega)
    rw [e1, e2]
    exact ⟨rfl, h, (fun q => absurd (show (5 : Int) = 0 from q) (by decide)), fun _ => rfl⟩
theorem rew2 {d t : Dk} (h : Same2 d t) (l : List (List UInt8)) (hl : longAny l = false) :
    ((d.rewritten l).1 ≠ 9 → (d.rewritten l).1 = (t.rewritten l).1 ∧ Same2 (d.rewritten l).2 (t.rewritten l).2 ∧ ((d.rewritten l).1 = 0 → (d.rewritten l).2.texts = l) ∧ ((d.rewritten l).1 ≠ 0 → (d.rewritten l).2.texts = d.texts)) ∧
    ((d.rewritten l).1 = 9 → (d.rewritten l).2.good ∧ (d.rewritten l).2.texts = d.texts) := by
  have hd := rewritten_post h.gd l
  have ht := rewritten_post h.ft.good l
  obtain ⟨f1, f2⟩ := rewritten_free h.ft l hl
  refine ⟨fun h9 => ?_, fun h9 => ⟨hd.good, hd.down h9⟩⟩
  by_cases hfit : sumR l ≤ d.size ∧ d.gen ≠ 9223372036854775807
  · have e1 := rewritten_err l h.nf hl hfit.1 hfit.2
    have e2 := rewritten_err (d := t) l h.ft.nf hl (by rw [← h.sz]; exact hfit.1) (by rw [← h.gn]; exact hfit.2)
    have a0 : (d.rewritten l).1 = 0 := by
      rcases e1 with q | q
      · exact q
      · exact absurd q h9
    have b0 : (t.rewritten l).1 = 0 := by
      rcases e2 with q | q
      · exact q
      · rcases f2 with z | z
        · exact z
        · rw [z] at q; cases q
    obtain ⟨a1, a2, a3, a4⟩ := hd.ok0 a0
    obtain ⟨b1, b2, b3, b4⟩ := ht.ok0 b0
    exact ⟨by rw [a0, b0], ⟨by rw [hd.size, ht.size]; exact h.sz, by rw [a2, b2], by rw [a4, b4, h.gn], by rw [a1, b1], hd.good, a3, f1⟩, fun _ => a1, fun q => absurd a0 q⟩
  · have hbad : d.size < sumR l ∨ d.gen = 9223372036854775807 := by
      rcases Classical.em (d.gen = 9223372036854775807) with q | q
      · exact .inr q
      · left
        rcases Nat.lt_or_ge d.size (sumR l) with z | z
        · exact z
        · exact absurd ⟨z, q⟩ hfit
    have e1 : d.rewritten l = (5, d) := by
      unfold Dk.rewritten
      rw [if_neg (by rw [h.nf]; simp), if_neg (by rw [hl]; simp), if_pos hbad]
    have e2 : t.rewritten l = (5, t) := by
      unfold Dk.rewritten
      rw [if_neg (by rw [h.ft.nf]; simp), if_neg (by rw [hl]; simp), if_pos (by rw [← h.sz, ← h.gn]; exact hbad)]
    rw [e1, e2]
    exact ⟨rfl, h, (fun q => absurd (show (5 : Int) = 0 from q) (by decide)), fun _ => rfl⟩
/-- Two queues with the same jobs, and the same records. -/
structure Pair (x y : Qst) : Prop where
  (q : x.q = y.q)
  (d2 : Same2 x.d y.d)
  (nd : x.down = false)
  (up : y.up)
  (rep : replay x.d.texts = some x.q.asleep)
structure Outc (x : Qst) (r s : Int × Qst) : Prop where
  (go : r.1 ≠ 9 → r.1 = s.1 ∧ Pair r.2 s.2 ∧ x.q.last ≤ r.2.q.last)
  (stop : r.1 = 9 → r.2.d.good ∧ replay r.2.d.texts = some x.q.asleep)
  (up : s.2.up)
theorem note2 {x y : Qst} (h : Pair x y) (s : List UInt8) (hs : s.length ≤ 65535) :
    ((noteD x.q x.d s).1 ≠ 9 → (noteD x.q x.d s).1 = (noteD y.q y.d s).1 ∧ Same2 (noteD x.q x.d s).2 (noteD y.q y.d s).2 ∧
      ((noteD x.q x.d s).1 = 0 → replay (noteD x.q x.d s).2.texts = x.q.asleep.one s) ∧ ((noteD x.q x.d s).1 ≠ 0 → replay (noteD x.q x.d s).2.texts = some x.q.asleep)) ∧
    ((noteD x.q x.d s).1 = 9 → (noteD x.q x.d s).2.good ∧ replay (noteD x.q x.d s).2.texts = some x.q.asleep) := by
  have hf := h.up.fine
  rw [← h.q] at hf
  obtain ⟨a1, a2⟩ := app2 h.d2 s hs
  have rs := replay_short x.q hf
  have h0 : ∀ t, t = x.d.texts ++ [s] → replay t = x.q.asleep.one s := fun t e => by rw [e, replay_append, h.rep]; rfl
  unfold noteD
  rw [← h.q]
  by_cases h5 : (x.d.appended s).1 = 5
  · obtain ⟨b1, b2, b3, b4⟩ := a1 (by rw [h5]; decide)
    rw [if_pos h5, if_pos (b1.symm.trans h5)]
    obtain ⟨c1, c2⟩ := rew2 b2 x.q.short (short_long hf.ok)
    have b5 := b4 (by rw [h5]; decide)
    by_cases h00 : ((x.d.appended s).2.rewritten x.q.short).1 = 0
    · obtain ⟨d1, d2, d3, -⟩ := c1 (by rw [h00]; decide)
      rw [if_pos h00, if_pos (d1.symm.trans h00)]
      obtain ⟨e1, e2⟩ := app2 d2 s hs
      have d5 := d3 h00
      refine ⟨fun h9 => ?_, fun h9 => ?_⟩
      · obtain ⟨g1, g2, g3, g4⟩ := e1 h9
        exact ⟨g1, g2, fun z => by rw [g3 z, d5, replay_append, rs]; rfl, fun z => by rw [g4 z, d5, rs]⟩
      · obtain ⟨g1, g2⟩ := e2 h9
        exact ⟨g1, by rw [g2, d5, rs]⟩
    · rw [if_neg h00]
      refine ⟨fun h9 => ?_, fun h9 => ?_⟩
      · obtain ⟨d1, d2, d3, d4⟩ := c1 h9
        rw [if_neg (by rw [← d1]; exact h00)]
        exact ⟨d1, d2, fun z => absurd z h00, fun z => by rw [d4 z, b5, h.rep]⟩
      · obtain ⟨g1, g2⟩ := c2 h9
        exact ⟨g1, by rw [g2, b5, h.rep]⟩
  · rw [if_neg h5]
    refine ⟨fun h9 => ?_, fun h9 => ?_⟩
    · obtain ⟨b1, b2, b3, b4⟩ := a1 h9
      rw [if_neg (by rw [← b1]; exact h5)]
      exact ⟨b1, b2, fun z => h0 _ (b3 z), fun z => by rw [b4 z, h.rep]⟩
    · obtain ⟨g1, g2⟩ := a2 h9
      exact ⟨g1, by rw [g2, h.rep]⟩
theorem out_same {x y : Qst} (h : Pair x y) (e : Int) (he : e ≠ 9) : Outc x (e, x) (e, y) := ⟨fun _ => ⟨rfl, h, Nat.le_refl _⟩, fun q => absurd q he, h.up⟩
theorem out_noted {x y : Qst} (h : Pair x y) (s : List UInt8) (hs : s.length ≤ 65535) (q' : Qs) (hq : q'.fine) (hl : x.q.last ≤ q'.last) (ho : x.q.asleep.one s = some q'.asleep) : Outc x (x.noted s q') (y.noted s q') := by
  obtain ⟨a1, a2⟩ := note2 h s hs
  obtain ⟨u1, u2⟩ := noted_up h.up s hs q' hq
  refine ⟨fun h9 => ?_, fun h9 => ?_, u1⟩
  · have n9 : (noteD x.q x.d s).1 ≠ 9 := fun e => h9 (by
      unfold Qst.noted
      have e' : (x.note s).1 = 9 := e
      rw [if_neg (by rw [e']; decide)]; exact e')
    obtain ⟨b1, b2, b3, b4⟩ := a1 n9
    have hnd : (x.note s).2.down = false := by
      show (x.down || decide ((noteD x.q x.d s).1 = 9)) = false
      rw [h.nd, Bool.false_or, decide_eq_false n9]
    by_cases h0 : (noteD x.q x.d s).1 = 0
    · have x0 : (x.note s).1 = 0 := h0
      have y0 : (y.note s).1 = 0 := b1.symm.trans h0
      have ex : x.noted s q' = (0, { (x.note s).2 with q := q' }) := by unfold Qst.noted; rw [if_pos x0]
      have ey : y.noted s q' = (0, { (y.note s).2 with q := q' }) := by unfold Qst.noted; rw [if_pos y0]
      rw [ey] at u1
      rw [ex, ey]
      exact ⟨rfl, ⟨rfl, b2, hnd, u1, (b3 h0).trans ho⟩, hl⟩
    · have x0 : ¬ (x.note s).1 = 0 := h0
      have y0 : ¬ (y.note s).1 = 0 := fun e => h0 (b1.trans e)
      have ex : x.noted s q' = x.note s := by unfold Qst.noted; rw [if_neg x0]
      have ey : y.noted s q' = y.note s := by unfold Qst.noted; rw [if_neg y0]
      rw [ey] at u1
      rw [ex, ey]
      exact ⟨b1, ⟨h.q, b2, hnd, u1, b4 h0⟩, Nat.le_refl _⟩
  · have n9 : (noteD x.q x.d s).1 = 9 := by
      unfold Qst.noted at h9
      split at h9
      · cases h9
      · exact h9
    obtain ⟨b1, b2⟩ := a2 n9
    have e' : (x.note s).1 = 9 := n9
    have ex : x.noted s q' = x.note s := by unfold Qst.noted; rw [if_neg (by rw [e']; decide)]
    rw [ex]
    exact ⟨b1, b2⟩
end Go.Proofs.YtoggmplkbiidhaaDoor

/- Plain: a queue of jobs: two queues: each call. -/
namespace Go.Proofs.YtoggmplkbiidhaaDoor
set_option linter.all false
theorem erase_map {α β : Type} (f : α → β) : ∀ (l : List α) (k : Nat), (l.eraseIdx k).map f = (l.map f).eraseIdx k
  | [], k => by simp
  | a :: l, 0 => by simp
  | a :: l, k + 1 => by simp [erase_map f l k]
/-- What a call can be. -/
inductive CallIs (q : Qs) (f : Qst → Int × Qst) : Prop where
  | same (e : Int) (he : e ≠ 9) (h : ∀ y : Qst, y.q = q → y.down = false → f y = (e, y))
  | mute (q' : Qs) (hf : q'.fine) (ha : q'.asleep = q.asleep) (hl : q'.last = q.last) (h : ∀ y : Qst, y.q = q → y.down = false → f y = (0, { y with q := q' }))
  | noted (s : List UInt8) (q' : Qs) (hs : s.length ≤ 65535) (hf : q'.fine) (hl : q.last ≤ q'.last) (ho : q.asleep.one s = some q'.asleep) (h : ∀ y : Qst, y.q = q → y.down = false → f y = y.noted s q')
  | compact (h : ∀ y : Qst, y.q = q → y.down = false → f y = y.compact)
theorem out_of {x y : Qst} (h : Pair x y) {f : Qst → Int × Qst} (hc : CallIs x.q f) : Outc x (f x) (f y) := by
  cases hc with
  | same e he hh =>
    rw [hh x rfl h.nd, hh y h.q.symm h.up.nd]
    exact out_same h e he
  | mute q' hf ha hl hh =>
    rw [hh x rfl h.nd, hh y h.q.symm h.up.nd]
    exact ⟨fun _ => ⟨rfl, ⟨rfl, h.d2, h.nd, ⟨hf, h.up.free, h.up.nd⟩, h.rep.trans (by rw [← ha])⟩, Nat.le_of_eq hl.symm⟩, (fun q => absurd (show (0 : Int) = 9 from q) (by decide)), ⟨hf, h.up.free, h.up.nd⟩⟩
  | noted s q' hs hf hl ho hh =>
    rw [hh x rfl h.nd, hh y h.q.symm h.up.nd]
    exact out_noted h s hs q' hf hl ho
  | compact hh =>
    rw [hh x rfl h.nd, hh y h.q.symm h.up.nd]
    have hf := h.up.fine
    rw [← h.q] at hf
    obtain ⟨a1, a2⟩ := rew2 h.d2 x.q.short (short_long hf.ok)
    have ex : x.compact = ((x.d.rewritten x.q.short).1, { x with d := (x.d.rewritten x.q.short).2, down := decide ((x.d.rewritten x.q.short).1 = 9) }) := by unfold Qst.compact; rw [if_neg (by rw [h.nd]; simp)]
    have ey : y.compact = ((y.d.rewritten x.q.short).1, { y with d := (y.d.rewritten x.q.short).2, down := decide ((y.d.rewritten x.q.short).1 = 9) }) := by unfold Qst.compact; rw [if_neg (by rw [h.up.nd]; simp), h.q]
    obtain ⟨f1, f2⟩ := rewritten_free h.up.free x.q.short (short_long hf.ok)
    have uy : y.compact.2.up := by
      rw [ey]
      exact ⟨h.up.fine, f1, by show decide ((y.d.rewritten x.q.short).1 = 9) = false; rw [decide_eq_false_iff_not]; omega⟩
    rw [ey] at uy
    rw [ex, ey]
    refine ⟨fun h9 => ?_, fun h9 => ?_, uy⟩
    · obtain ⟨b1, b2, b3, b4⟩ := a1 h9
      refine ⟨b1, ⟨h.q, b2, decide_eq_false h9, uy, ?_⟩, Nat.le_refl _⟩
      by_cases h0 : (x.d.rewritten x.q.short).1 = 0
      · show replay (x.d.rewritten x.q.short).2.texts = _
        rw [b3 h0]; exact replay_short x.q hf
      · show replay (x.d.rewritten x.q.short).2.texts = _
        rw [b4 h0]; exact h.rep
    · obtain ⟨b1, b2⟩ := a2 h9
      exact ⟨b1, by show replay (x.d.rewritten x.q.short).2.texts = _; rw [b2]; exact h.rep⟩
theorem submit_is (q : Qs) (hf : q.fine) (c t : List UInt8) (p : Int) (work : List UInt8) : CallIs q (fun y => ((y.submit c t p work).1.2, (y.submit c t p work).2)) := by
  by_cases hbad : labelB c = false ∨ labelB t = false ∨ p < 0 ∨ 9 < p
  · refine .same 2 (by decide) (fun y hq hd => ?_)
    unfold Qst.submit
    rw [if_neg (by rw [hd]; simp), if_pos hbad]
  by_cases hw : 60000 < work.length
  · refine .same 3 (by decide) (fun y hq hd => ?_)
    unfold Qst.submit
    rw [if_neg (by rw [hd]; simp), if_neg hbad, if_pos hw]
  cases hn : q.named c t with
  | some k =>
    refine .same 0 (by decide) (fun y hq hd => ?_)
    unfold Qst.submit
    rw [if_neg (by rw [hd]; simp), if_neg hbad, if_neg hw, hq, hn]
  | none =>
    by_cases hfull : 100 ≤ q.jobs.length ∨ q.last = 9223372036854775807
    · refine .same 5 (by decide) (fun y hq hd => ?_)
      unfold Qst.submit
      rw [if_neg (by rw [hd]; simp), if_neg hbad, if_neg hw, hq, hn]
      dsimp only
      rw [if_pos hfull]
    have hc : labelB c = true := by
      cases hl : labelB c with
      | true => rfl
      | false => exact absurd (.inl hl) hbad
    have ht : labelB t = true := by
      cases hl : labelB t with
      | true => rfl
      | false => exact absurd (.inr (.inl hl)) hbad
    have hp0 : ¬ p < 0 := fun q => hbad (.inr (.inr (.inl q)))
    have hp9 : ¬ 9 < p := fun q => hbad (.inr (.inr (.inr q)))
    have hlast := hf.ok.last
    have hjo : (Jb.mk (q.last + 1) c t p.toNat 1 0 work [] []).ok (q.last + 1) := ⟨by show 0 < q.last + 1; omega, Nat.le_refl _, by show p.toNat ≤ 9; omega, hc, ht, by show 0 ≤ 8; omega, by show 1 ≤ 1; omega, by show 1 ≤ 5; omega, by show work.length ≤ 60000; omega, by simp, by simp⟩
    have hfx : (Qs.mk (q.jobs ++ [Jb.mk (q.last + 1) c t p.toNat 1 0 work [] []]) (q.last + 1)).fine :=
      hf.push (j := Jb.mk (q.last + 1) c t p.toNat 1 0 work [] []) hjo ⟨by simp, by simp, by simp⟩ (by show q.last < q.last + 1; omega) (by show q.last + 1 < _; omega) hn (by omega)
    refine .noted (subB (Jb.mk (q.last + 1) c t p.toNat 1 0 work [] [])) _ (by have := subB_len hjo; omega) hfx (by show q.last ≤ q.last + 1; omega) ?_ (fun y hq hd => ?_)
    · rw [one_sub q.asleep (Jb.mk (q.last + 1) c t p.toNat 1 0 work [] []) (Nat.succ_pos _) (by show q.last + 1 < _; omega) (by show p.toNat ≤ 9; omega) hc ht (by show work.length ≤ 60000; omega) (by show q.last < q.last + 1; omega) (by rw [asleep_named]; exact hn) (by show (q.jobs.map Jb.asleep).length < 100; rw [List.length_map]; omega)]
      unfold Qs.asleep
      dsimp only
      rw [List.map_append]
      rfl
    · unfold Qst.submit Qst.noted
      rw [if_neg (by rw [hd]; simp), if_neg hbad, if_neg hw, hq, hn]
      dsimp only
      rw [if_neg hfull]
      by_cases h0 : (y.note (subB (Jb.mk (q.last + 1) c t p.toNat 1 0 work [] []))).1 = 0
      · rw [if_pos h0, if_pos h0]
      · rw [if_neg h0, if_neg h0]
theorem asleep_of_ended {j : Jb} {q : Qs} (hf : q.fine) {k : Nat} (hj : q.jobs[k]? = some j) : q.asleep.at j.id = some k ∧ q.asleep.jobs[k]? = some j.asleep ∧ endedB j.asleep.state = endedB j.state ∧ j.asleep.tries = j.tries ∧ 0 < j.id ∧ j.id < 9223372036854775808 :=
  ⟨asleep_at hf.ok.asc hj, asleep_get hj, asleep_ended j, asleep_tries j, (hf.ok.job j (List.mem_of_getElem? hj)).id0, by have := (hf.ok.job j (List.mem_of_getElem? hj)).id1; have := hf.ok.last; omega⟩
theorem take_is (q : Qs) (hf : q.fine) : CallIs q (fun y => (y.take.1.2.2, y.take.2)) := by
  have hbo := best_ok q.jobs
  cases hb : bestF q.jobs 0 none with
  | none =>
    refine .same 0 (by decide) (fun y hq hd => ?_)
    unfold Qst.take
    rw [if_neg (by rw [hd]; simp), hq, hb]
  | some z =>
    obtain ⟨k, p⟩ := z
    obtain ⟨j, hj, -, hs1, ht8⟩ := hbo.get k p hb
    have hjo := hf.ok.job j (List.mem_of_getElem? hj)
    have hjf := hf.job j (List.mem_of_getElem? hj)
    have hen : endedB j.state = false := by rw [hs1]; rfl
    have hfx : (q.put k { j with tries := j.tries + 1, state := 2 }).fine := hf.put hj rfl rfl rfl ⟨hjo.id0, hjo.id1, hjo.prio, hjo.cl, hjo.tk, by show j.tries + 1 ≤ 8; omega, by show 1 ≤ 2; omega, by show 2 ≤ 5; omega, hjo.wk, hjo.pt, hjo.rs⟩ ⟨fun _ => Nat.succ_pos _, fun _ => Nat.succ_pos _, fun _ => hjf.rs0 hen⟩
    obtain ⟨a1, a2, a3, a4, a5, a6⟩ := asleep_of_ended hf hj
    refine .noted (recB 2 j.id) _ (by rw [recB_len]; omega) hfx (Nat.le_refl _) ?_ (fun y hq hd => ?_)
    · rw [one_take q.asleep j.id k j.asleep a5 a6 a1 a2 (by rw [a3]; exact hen) (by rw [a4]; exact ht8), asleep_put]
      have e : j.asleep = j := by unfold Jb.asleep; rw [if_neg (by omega)]
      rw [e]
      have e2 : Jb.asleep { j with tries := j.tries + 1, state := 2 } = { j with tries := j.tries + 1 } := by
        unfold Jb.asleep
        rw [if_pos rfl, ← hs1]
      rw [e2]
    · unfold Qst.take Qst.noted
      rw [if_neg (by rw [hd]; simp), hq, hb]
      dsimp only
      rw [hj]
      dsimp only
      by_cases h0 : (y.note (recB 2 j.id)).1 = 0
      · rw [if_pos h0, if_pos h0]
      · rw [if_neg h0, if_neg h0]
theorem held_eq {x y : Qst} (hq : x.q = y.q) (hd : x.down = y.down) (id : Int) (n : Nat) : x.held id n = y.held id n := by unfold Qst.held; rw [hq, hd]
theorem some_eq {x y : Qst} (hq : x.q = y.q) (hd : x.down = y.down) (id : Int) (o : Bool) : x.some_ id o = y.some_ id o := by unfold Qst.some_; rw [hq, hd]
theorem held_nine {x : Qst} (hd : x.down = false) {id : Int} {n : Nat} {e : Int} (h : x.held id n = .inl e) : e ≠ 9 := by
  unfold Qst.held at h
  rw [if_neg (by rw [hd]; simp)] at h
  split at h
  · injection h with h; omega
  split at h
  · injection h with h; omega
  split at h
  · injection h with h; omega
  split at h
  · injection h with h; omega
  · cases h
theorem some_nine {x : Qst} (hd : x.down = false) {id : Int} {o : Bool} {e : Int} (h : x.some_ id o = .inl e) : e ≠ 9 := by
  unfold Qst.some_ at h
  rw [if_neg (by rw [hd]; simp)] at h
  split at h
  · injection h with h; omega
  split at h
  · injection h with h; omega
  split at h
  · injection h with h; omega
  · cases h
theorem over_is {q : Qs} (hf : q.fine) {k : Nat} {j : Jb} (hj : q.jobs[k]? = some j) (hen : endedB j.state = false) (st : Nat) (hst : 3 ≤ st ∧ st ≤ 5) (s : List UInt8) (hs : s.length ≤ 60000) {f : Qst → Int × Qst} (h : ∀ y : Qst, y.q = q → y.down = false → f y = y.over k j st s) : CallIs q f := by
  have hjo := hf.ok.job j (List.mem_of_getElem? hj)
  have hjf := hf.job j (List.mem_of_getElem? hj)
  have hstB : endedB st = true := by unfold endedB; simp; omega
  have hfx : (q.put k { j with state := st, result := s }).fine := hf.put hj rfl rfl rfl ⟨hjo.id0, hjo.id1, hjo.prio, hjo.cl, hjo.tk, hjo.tr, by show 1 ≤ st; omega, hst.2, hjo.wk, hjo.pt, hs⟩ ⟨hjf.pt0, fun e => by dsimp only at e; omega, fun e => by have := not_ended e; dsimp only at this; omega⟩
  obtain ⟨a1, a2, a3, a4, a5, a6⟩ := asleep_of_ended hf hj
  refine .noted (overB j.id st s) (q.put k { j with state := st, result := s }) (by rw [overB_len]; omega) hfx (Nat.le_refl _) ?_ (fun y hq hd => ?_)
  · rw [one_over q.asleep j.id k st j.asleep s a5 a6 a1 a2 (by rw [a3]; exact hen) hstB hs, asleep_put]
    have e : ({ j.asleep with state := st, result := s } : Jb) = { j with state := st, result := s } := by
      unfold Jb.asleep; split <;> rfl
    rw [e, asleep_same (j := { j with state := st, result := s }) hstB]
  · rw [h y hq hd]
    unfold Qst.over
    rw [hq]
theorem call_is (q : Qs) (hf : q.fine) (a : JAct) : CallIs q (fun y => y.call a) := by
  obtain ⟨x, hxq, hxd⟩ : ∃ x : Qst, x.q = q ∧ x.down = false := ⟨⟨q, newDk 4000, false⟩, rfl, rfl⟩
  have h2e : ∀ {j : Jb}, j.state = 2 → endedB j.state = false := fun e => by rw [e]; rfl
  unfold Qst.call
  split
  · exact submit_is q hf _ _ _ _
  split
  · exact take_is q hf
  split
  · cases hh : x.held a.id a.text.length with
    | inl e =>
      refine .same e (held_nine hxd hh) (fun y hq hd => ?_)
      unfold Qst.save
      rw [held_eq (hq.trans hxq.symm) (hd.trans hxd.symm), hh]
    | inr z =>
      obtain ⟨k, j⟩ := z
      obtain ⟨hj, hs2, hn⟩ := held_job2 hh
      rw [hxq] at hj
      have hjo := hf.ok.job j (List.mem_of_getElem? hj)
      have hjf := hf.job j (List.mem_of_getElem? hj)
      have hfx : (q.put k { j with point := a.text }).fine := hf.put hj rfl rfl rfl ⟨hjo.id0, hjo.id1, hjo.prio, hjo.cl, hjo.tk, hjo.tr, hjo.s1, hjo.s5, hjo.wk, hn, hjo.rs⟩ ⟨fun _ => hjf.st2 hs2, hjf.st2, hjf.rs0⟩
      obtain ⟨a1, a2, a3, a4, a5, a6⟩ := asleep_of_ended hf hj
      refine .noted (recB 3 j.id ++ textB a.text) (q.put k { j with point := a.text }) (by rw [List.length_append, recB_len, textB_len]; omega) hfx (Nat.le_refl _) ?_ (fun y hq hd => ?_)
      · rw [one_save q.asleep j.id k j.asleep a.text a5 a6 a1 a2 (by rw [a3]; exact h2e hs2) (by rw [a4]; exact hjf.st2 hs2) hn, asleep_put]
        have e : ({ j.asleep with point := a.text } : Jb) = Jb.asleep { j with point := a.text } := by
          unfold Jb.asleep; split <;> rfl
        rw [e]
      · unfold Qst.save
        rw [held_eq (hq.trans hxq.symm) (hd.trans hxd.symm), hh]
        dsimp only
        rw [hq]
  split
  · cases hh : x.held a.id 0 with
    | inl e =>
      refine .same e (held_nine hxd hh) (fun y hq hd => ?_)
      unfold Qst.give
      rw [held_eq (hq.trans hxq.symm) (hd.trans hxd.symm), hh]
    | inr z =>
      obtain ⟨k, j⟩ := z
      obtain ⟨hj, hs2, hn⟩ := held_job2 hh
      rw [hxq] at hj
      have hjo := hf.ok.job j (List.mem_of_getElem? hj)
      have hjf := hf.job j (List.mem_of_getElem? hj)
      have hfx : (q.put k { j with state := 1 }).fine := hf.put hj rfl rfl rfl ⟨hjo.id0, hjo.id1, hjo.prio, hjo.cl, hjo.tk, hjo.tr, by show 1 ≤ 1; omega, by show 1 ≤ 5; omega, hjo.wk, hjo.pt, hjo.rs⟩ ⟨hjf.pt0, fun e => by dsimp only at e; omega, fun _ => hjf.rs0 (h2e hs2)⟩
      refine .mute (q.put k { j with state := 1 }) hfx ?_ rfl (fun y hq hd => ?_)
      · rw [asleep_put]
        have e : Jb.asleep { j with state := 1 } = j.asleep := by
          unfold Jb.asleep
          rw [if_pos hs2, if_neg (by show ¬ (1 : Nat) = 2; decide)]
        have hg := asleep_get hj
        rw [e]
        unfold Qs.put
        have : q.asleep.jobs.set k j.asleep = q.asleep.jobs := by
          apply List.ext_getElem?
          intro i
          rw [List.getElem?_set]
          split
          · rename_i hik
            subst hik
            rw [if_pos (List.getElem?_eq_some_iff.1 hg).1, hg]
          · rfl
        rw [this]
      · unfold Qst.give
        rw [held_eq (hq.trans hxq.symm) (hd.trans hxd.symm), hh]
        dsimp only
        rw [hq]
  split
  · cases hh : x.held a.id a.text.length with
    | inl e =>
      refine .same e (held_nine hxd hh) (fun y hq hd => ?_)
      unfold Qst.finish
      rw [held_eq (hq.trans hxq.symm) (hd.trans hxd.symm), hh]
    | inr z =>
      obtain ⟨k, j⟩ := z
      obtain ⟨hj, hs2, hn⟩ := held_job2 hh
      rw [hxq] at hj
      refine over_is hf hj (h2e hs2) 3 (by omega) a.text hn (fun y hq hd => ?_)
      unfold Qst.finish
      rw [held_eq (hq.trans hxq.symm) (hd.trans hxd.symm), hh]
  split
  · cases hh : x.held a.id a.text.length with
    | inl e =>
      refine .same e (held_nine hxd hh) (fun y hq hd => ?_)
      unfold Qst.finish
      rw [held_eq (hq.trans hxq.symm) (hd.trans hxd.symm), hh]
    | inr z =>
      obtain ⟨k, j⟩ := z
      obtain ⟨hj, hs2, hn⟩ := held_job2 hh
      rw [hxq] at hj
      refine over_is hf hj (h2e hs2) 4 (by omega) a.text hn (fun y hq hd => ?_)
      unfold Qst.finish
      rw [held_eq (hq.trans hxq.symm) (hd.trans hxd.symm), hh]
  split
  · cases hh : x.some_ a.id false with
    | inl e =>
      refine .same e (some_nine hxd hh) (fun y hq hd => ?_)
      unfold Qst.cancel
      rw [some_eq (hq.trans hxq.symm) (hd.trans hxd.symm), hh]
    | inr z =>
      obtain ⟨k, j⟩ := z
      obtain ⟨hj, hs2⟩ := some_job2 hh
      rw [hxq] at hj
      refine over_is hf hj hs2 5 (by omega) [] (by simp) (fun y hq hd => ?_)
      unfold Qst.cancel
      rw [some_eq (hq.trans hxq.symm) (hd.trans hxd.symm), hh]
  split
  · cases hh : x.some_ a.id true with
    | inl e =>
      refine .same e (some_nine hxd hh) (fun y hq hd => ?_)
      unfold Qst.forget
      rw [some_eq (hq.trans hxq.symm) (hd.trans hxd.symm), hh]
    | inr z =>
      obtain ⟨k, j⟩ := z
      obtain ⟨hj, hs2⟩ := some_job2 hh
      rw [hxq] at hj
      obtain ⟨a1, a2, a3, a4, a5, a6⟩ := asleep_of_ended hf hj
      refine .noted (recB 5 j.id) { q with jobs := q.jobs.eraseIdx k } (by rw [recB_len]; omega) (hf.erase k) (Nat.le_refl _) ?_ (fun y hq hd => ?_)
      · rw [one_forget q.asleep j.id k j.asleep a5 a6 a1 a2 (by rw [a3]; exact hs2)]
        unfold Qs.asleep
        dsimp only
        rw [erase_map]
      · unfold Qst.forget
        rw [some_eq (hq.trans hxq.symm) (hd.trans hxd.symm), hh]
        dsimp only
        rw [hq]
  split
  · exact .compact (fun y hq hd => rfl)
  · exact .same 0 (by decide) (fun y hq hd => rfl)
theorem call_out {x y : Qst} (h : Pair x y) (a : JAct) : Outc x (x.call a) (y.call a) := out_of h (call_is x.q (by rw [h.q]; exact h.up.fine) a)
end Go.Proofs.YtoggmplkbiidhaaDoor

/- Plain: a queue of jobs: what a restart finds again. -/
namespace Go.Proofs.YtoggmplkbiidhaaDoor
set_option linter.all false
theorem fuse_good {d : Dk} (h : d.good) (f : Int) (h1 : -1 ≤ f) (h2 : f ≤ 9223372036854775807) (b : Bool) : Dk.good { d with fuse := f, failed := b } :=
  ⟨⟨h.ok.l0, h.ok.l1, h.ok.lo, h.ok.hi, h1, h2⟩, h.half⟩
/-- The two queues at the beginning. -/
theorem pair_new (n : Nat) (h : 64 ≤ n) (h2 : n ≤ 262144) (f : Int) (h3 : 0 ≤ f) (h4 : f ≤ 9223372036854775807) :
    openD (newDk n) = .inr ⟨[], 0⟩ ∧ (newDk n).fused f = (0, { newDk n with fuse := f }) ∧ Dk.good { newDk n with fuse := f } ∧ Pair ⟨⟨[], 0⟩, { newDk n with fuse := f }, false⟩ ⟨⟨[], 0⟩, newDk n, false⟩ := by
  obtain ⟨a1, a2, a3, a4⟩ := newDk_post n h h2
  have hg := fuse_good a1 f (by omega) h4 (newDk n).failed
  have ht : Dk.texts { newDk n with fuse := f } = [] := a2
  refine ⟨?_, by unfold Dk.fused; rw [if_neg (by omega)], hg, ⟨rfl, ⟨rfl, rfl, rfl, rfl, hg, rfl, ⟨a1, rfl, rfl⟩⟩, rfl, ⟨Qs.fine.nil, ⟨a1, rfl, rfl⟩, rfl⟩, ?_⟩⟩
  · unfold openD
    have hs : (newDk n).seenErr = 0 := by unfold Dk.seenErr; rw [if_neg (by have := a1.half; omega)]
    rw [if_neg (by rw [hs]; simp), a2]
    rfl
  · show replay (Dk.texts { newDk n with fuse := f }) = _
    rw [ht]
    rfl
/-- What the disk of the law holds at the end. -/
structure Ended (d : Dk) (q : Qs) : Prop where
  (good : d.good)
  (rep : replay d.texts = some q.asleep)
  (fine : q.fine)
theorem Pair.ended {x y : Qst} (h : Pair x y) : Ended x.d x.q := ⟨h.d2.gd, h.rep, by rw [h.q]; exact h.up.fine⟩
theorem Outc.ended {x : Qst} {r s : Int × Qst} (h : Outc x r s) (hf : x.q.fine) (h9 : r.1 = 9) : Ended r.2.d x.q := ⟨(h.stop h9).1, (h.stop h9).2, hf⟩
theorem Ended.opened {d : Dk} {q : Qs} (h : Ended d q) : Dk.good { d with fuse := -1, failed := false } ∧ openD { d with fuse := -1, failed := false } = .inr q.asleep := by
  refine ⟨fuse_good h.good _ (by decide) (by decide) _, ?_⟩
  unfold openD
  have hs : Dk.seenErr { d with fuse := -1, failed := false } = 0 := by
    show d.seenErr = 0
    unfold Dk.seenErr; rw [if_neg (by have := h.good.half; omega)]
  rw [if_neg (by rw [hs]; simp)]
  show (match replay d.texts with | none => (.inl 6 : Int ⊕ Qs) | some q => .inr q) = _
  rw [h.rep]
/-- A new name's number is greater than all before. -/
theorem submit_last {x : Qst} {c t work : List UInt8} {p : Int} (hn : x.q.named c t = none) (h0 : (x.submit c t p work).1.2 = 0) (hd : x.down = false) : x.q.last < (x.submit c t p work).1.1 := by
  unfold Qst.submit at h0 ⊢
  rw [if_neg (by rw [hd]; simp)] at h0 ⊢
  split
  · rename_i h; rw [if_pos h] at h0; exact absurd (show (2 : Int) = 0 from h0) (by decide)
  rename_i h; rw [if_neg h] at h0
  split
  · rename_i h; rw [if_pos h] at h0; exact absurd (show (3 : Int) = 0 from h0) (by decide)
  rename_i h; rw [if_neg h] at h0
  rw [hn] at h0 ⊢
  dsimp only at h0 ⊢
  split
  · rename_i h; rw [if_pos h] at h0; exact absurd (show (5 : Int) = 0 from h0) (by decide)
  rename_i h; rw [if_neg h] at h0
  split
  · show _ < x.q.last + 1
    omega
  · rename_i h; rw [if_neg h] at h0; exact absurd h0 h
theorem named_not {q : Qs} {c t : List UInt8} (h : ∀ (i : Nat) (j : Jb), q.jobs[i]? = some j → ¬ (j.client = c ∧ j.token = t)) : q.named c t = none := by
  unfold Qs.named
  rw [List.findIdx?_eq_none_iff]
  intro j hj
  obtain ⟨i, hi⟩ := List.getElem?_of_mem hj
  have := h i j hi
  simpa using this
/-- The greatest number among the first k. -/
theorem id_last {q : Qs} (h : q.fine) {i : Nat} {j : Jb} (hj : q.jobs[i]? = some j) : j.id ≤ q.last := by
  exact (h.ok.job j (List.mem_of_getElem? hj)).id1
end Go.Proofs.YtoggmplkbiidhaaDoor

/- Laws of the jobs: what waits again after a restart. -/
namespace Go.Proofs.YtoggmplkbiidhaaDoor
set_option linter.all false
open Go.RowKit Go.Shelf
/-- A job is appended to a list of jobs. -/
theorem wpList_push9 {W : World} {ops : Array Oper} {rest : List Oper} {o : Oper} {a : Act} {Q : Exit → Act → World → Prop} (hg : o.guard = none) (s x : Operand)
    (hop : o.op = .call { callee := .builtin .append, args := #[s, x], argTypes := #[32, 32] })
    (B n : Nat) (v : Value) (l : List Value) (hs : a.eval s = v) (hown : W.owns B 38 9 v n l) (j : Jb) (H : Nat) (hH : W.heap.size = H) (hx : a.eval x = .slice (some ⟨H, 0, none⟩) 1 1)
    (hl : n ≤ 100000) (hB : B ≤ W.heap.size)
    (h : ∀ v' w', w'.owns B 38 9 v' (n + 1) (l ++ j.cells) → Below B W w' → wpList Tryd.prog ops Q rest (a.put o.dst v') w') : wpList Tryd.prog ops Q (o :: rest) a (W.alloc (.cells j.cells.toArray 38)) := by
  obtain ⟨i0, hi0, hi1, hi2, hi3⟩ : ∃ i0, Tryd.prog.info? 38 = some i0 ∧ i0.zero = some jobZero ∧ i0.size = 9 ∧ i0.bytes = 112 := by
    have := infoJob3
    cases h : Tryd.prog.info? 38 with
    | none => rw [h] at this; cases this
    | some i0 => rw [h] at this; simp at this; exact ⟨i0, rfl, this.1, this.2.1, this.2.2⟩
  have hbox : BoxAt (W.alloc (.cells j.cells.toArray 38)) H j := by
    unfold BoxAt
    rw [← hH]
    exact alloc_last _ _ rfl
  refine wpList_append_owns _ hg s x 32 hop B 38 i0 jobZero 9 112 Tryd.underlying32 hi0 hi1 hi2 hi3 rfl (by decide) v n l hs (hown.alloc _) ⟨H, 0, none⟩ 1 1 j.cells hx rfl
    (fun i u hu => by rw [addr_add, Nat.zero_add]; exact (hbox.cell hu).1)
    (by unfold Jb.cells strV; intro u hu; simp only [List.mem_cons, List.not_mem_nil, or_false] at hu; rcases hu with rfl | rfl | rfl | rfl | rfl | rfl | rfl | rfl | rfl <;> rfl) (by unfold maxLen; omega) (by omega) (by simp; omega) ?_
  intro v4 w4 ho4 hg4 _
  exact h v4 w4 ho4 (((Below.refl _ W).alloc hB _).trans (below_grown (hown.alloc _) hg4 B (Nat.le_refl _) (by simp; omega)))
set_option maxRecDepth 100000 in
set_option maxHeartbeats 4000000 in
theorem waiting_any (A : List Jb) (u : Value) (w : World) (hu : w.owns 0 38 9 u A.length (jobsL A)) (hA : A.length ≤ 1000) :
    Calls Tryd.prog 30 #[u] w fun e w' => (∃ r, e = .returned r ∧ w'.owns w.heap.size 38 9 r A.length (jobsL (A.map Jb.asleep))) ∧ Below w.heap.size w w' := by
  obtain ⟨ua, uc, rfl⟩ : ∃ a c, u = .slice a A.length c := by
    rcases hu.2 with ⟨e, h0⟩ | ⟨g, c, _, _, e, _⟩
    · exact ⟨none, 0, by rw [e, h0]⟩
    · exact ⟨_, c, e⟩
  have HU := Lib.hid hu
  obtain ⟨n, hn⟩ : ∃ n, n = A.length := ⟨_, rfl⟩
  rw [← hn] at hA ⊢
  have HN := Lib.hid hn
  clear hn hu
  go_enter Tryd.func30, Tryd.ntmps30
  go_wp2_with fail
  go_loopw [3, 4, 5] (fun sv iv _ wr => ∃ k : Nat, k ≤ n ∧ iv = .int .i64 (k : Int) ∧ Hid (wr.owns w.heap.size 38 9 sv k (jobsL ((A.map Jb.asleep).take k))) ∧ Hid (Below w.heap.size w wr)) (fun _ iv _ _ => n - (intOf iv).toNat)
  case atStart => exact ⟨0, Nat.zero_le _, rfl, World.owns_nil _ _ _ _, Below.refl _ _⟩
  case round =>
    obtain ⟨k, hk, rfl, hS, hB⟩ := hrel
    by_cases hlt : k < n
    · obtain ⟨x, hx⟩ : ∃ x, A[k]? = some x := ⟨A[k]'(by rw [← HN.out]; exact hlt), List.getElem?_eq_getElem _⟩
      obtain ⟨g, c1, hg1, hg2, c0, d1, d2, d3, d4, d5, d6, d7, d8⟩ := JobsAt.cells (w := wr) (v := .slice ua A.length uc) (HU.out.below (show Below w.heap.size w wr from hB.out)) k x hx
      injection hg1 with hg1 _ _
      subst hg1
      have HX := Lib.hid hx
      unfold strV at d1 d2 d6 d7 d8
      clear hx
      have hsz := hB.out.size
      have HAS : Hid ((A.map Jb.asleep).take (k + 1) = (A.map Jb.asleep).take k ++ [x.asleep]) := by
        show _ = _
        rw [List.take_add_one, List.getElem?_map, HX.out]
        rfl
      by_cases hst : x.state = 2
      · have HJ : Hid (x.asleep = ⟨x.id, x.client, x.token, x.prio, 1, x.tries, x.work, x.point, x.result⟩) := by show _ = _; unfold Jb.asleep; rw [if_pos hst]
        have hst' : ((x.state : Int) == 2) = true := by rw [hst]; rfl
        clear hst
        go_wp2_with (at_builtin; refine wpList_push9 rfl (.tmp 20) (.tmp 22) rfl w.heap.size k _ (jobsL ((A.map Jb.asleep).take k)) rfl (hS.out.alloc _) ⟨x.id, x.client, x.token, x.prio, 1, x.tries, x.work, x.point, x.result⟩ (wr.heap.size + 1) (by simp) rfl (by omega) (by simp; omega) ?_; intro v4 w4 ho4 hb4; have HO4 := Lib.hid ho4; have HB4 := Lib.hid (((Below.refl _ wr).alloc hsz _).trans hb4); clear ho4 hb4)
        go_roundw
        case rel =>
          refine ⟨k + 1, by omega, by go_num, ?_, hB.out.trans HB4.out⟩
          show World.owns _ _ _ _ _ _ _
          rw [HAS.out, HJ.out]
          have h := HO4.out
          rw [show jobsL ((A.map Jb.asleep).take k ++ [⟨x.id, x.client, x.token, x.prio, 1, x.tries, x.work, x.point, x.result⟩]) = jobsL ((A.map Jb.asleep).take k) ++ Jb.cells ⟨x.id, x.client, x.token, x.prio, 1, x.tries, x.work, x.point, x.result⟩ by unfold jobsL; simp]
          exact h
        case measure => simp [intOf]; omega
      · have HJ : Hid (x.asleep = x) := by show _ = _; unfold Jb.asleep; rw [if_neg hst]
        have hst' : ((x.state : Int) == 2) = false := by rw [beq_eq_false_iff_ne]; omega
        clear hst
        go_wp2_with (at_builtin; refine wpList_push9 rfl (.tmp 20) (.tmp 22) rfl w.heap.size k _ (jobsL ((A.map Jb.asleep).take k)) rfl (hS.out.alloc _) x (wr.heap.size + 1) (by simp) rfl (by omega) (by simp; omega) ?_; intro v4 w4 ho4 hb4; have HO4 := Lib.hid ho4; have HB4 := Lib.hid (((Below.refl _ wr).alloc hsz _).trans hb4); clear ho4 hb4)
        go_roundw
        case rel =>
          refine ⟨k + 1, by omega, by go_num, ?_, hB.out.trans HB4.out⟩
          show World.owns _ _ _ _ _ _ _
          rw [HAS.out, HJ.out]
          have h := HO4.out
          rw [show jobsL ((A.map Jb.asleep).take k ++ [x]) = jobsL ((A.map Jb.asleep).take k) ++ Jb.cells x by unfold jobsL; simp]
          exact h
        case measure => simp [intOf]; omega
    · have hlt' : ¬ (k : Int) < (n : Int) := by omega
      have HKN : Hid (k = n) := by show k = n; omega
      clear hlt
      go_wp2_with fail
      go_ret
      refine ⟨⟨_, rfl, ?_⟩, hB.out⟩
      have h := hS.out
      rw [HKN.out] at h
      rw [List.take_of_length_le (by rw [List.length_map, ← HN.out]; exact Nat.le_refl _)] at h
      exact h
end Go.Proofs.YtoggmplkbiidhaaDoor

/- Laws of the jobs: two queues that lie apart. -/
namespace Go.Proofs.YtoggmplkbiidhaaDoor
set_option linter.all false
open Go.RowKit Go.Shelf
theorem DiskAt.apart {K : Nat → Prop} {w w' : World} {p b0 b1 : Nat} {d : Dk} (h : DiskAt w p b0 b1 d) (hk : Kp K w w') (n0 : ¬ K p) (n1 : ¬ K b0) (n2 : ¬ K b1) : DiskAt w' p b0 b1 d :=
  ⟨(hk.block _ (lt_of_heap h.at_) n0).trans h.at_, (by obtain ⟨t, ht⟩ := h.a0; exact ⟨t, (hk.block _ h.a0.lt n1).trans ht⟩), (by obtain ⟨t, ht⟩ := h.a1; exact ⟨t, (hk.block _ h.a1.lt n2).trans ht⟩), h.n01, h.n0, h.n1⟩
theorem QD.apart {K : Nat → Prop} {R : QP} {u : Value} {y : Qst} {w w' : World} (h : QD R u y w) (hk : Kp K w w') (hn : ∀ k, Mine R u k → ¬ K k) : QD R u y w' :=
  ⟨(hk.block _ (lt_of_heap h.qa) (hn _ (.inl rfl))).trans h.qa, World.owns.keptBy h.ja (fun g c fz hg hh => hk.block g (lt_of_heap hh) (hn _ (.inr (.inr (.inr (.inr hg)))))),
    h.dk.apart hk (hn _ (.inr (.inl rfl))) (hn _ (.inr (.inr (.inl rfl)))) (hn _ (.inr (.inr (.inr (.inl rfl))))), h.np, h.nv, h.fine, h.good⟩
/-- Two queues of a law, behind B. -/
structure Two (B : Nat) (P R : QP) (u v : Value) (x y : Qst) (w W : World) : Prop where
  (xa : QD P u x W)
  (ya : QD R v y W)
  (ap : ∀ k, Mine P u k → ¬ Mine R v k)
  (bl : Below B w W)
  (mx : ∀ k, Mine P u k → B ≤ k)
  (my : ∀ k, Mine R v k → B ≤ k)
  (le : B ≤ W.heap.size)
theorem Two.swap {B : Nat} {P R : QP} {u v : Value} {x y : Qst} {w W : World} (h : Two B P R u v x y w W) : Two B R P v u y x w W :=
  ⟨h.ya, h.xa, fun k a b => h.ap k b a, h.bl, h.my, h.mx, h.le⟩
theorem Two.below {B : Nat} {P R : QP} {u v : Value} {x y : Qst} {w W W' : World} (h : Two B P R u v x y w W) (hb : Below W.heap.size W W') : Two B P R u v x y w W' :=
  ⟨h.xa.below hb, h.ya.below hb, h.ap, h.bl.trans (hb.mono h.le), h.mx, h.my, Nat.le_trans h.le hb.size⟩
theorem Two.left {B : Nat} {P R : QP} {u u' v : Value} {x x' y : Qst} {w W W' : World} (h : Two B P R u v x y w W) (hq : QD P u' x' W') (hs : Stp P u u' W W') : Two B P R u' v x' y w W' := by
  refine ⟨hq, h.ya.apart hs.kp (fun k a b => h.ap k b a), fun k a b => ?_, h.bl.trans (hs.kp.below h.le h.mx), fun k a => ?_, h.my, Nat.le_trans h.le hs.kp.size⟩
  · exact h.ap k (mine_stp hs k (h.ya.lt k b) a) b
  · rcases Nat.lt_or_ge k W.heap.size with hk | hk
    · exact h.mx k (mine_stp hs k hk a)
    · exact Nat.le_trans h.le hk
theorem Two.right {B : Nat} {P R : QP} {u v v' : Value} {x y y' : Qst} {w W W' : World} (h : Two B P R u v x y w W) (hq : QD R v' y' W') (hs : Stp R v v' W W') : Two B P R u v' x y' w W' := (h.swap.left hq hs).swap
/-- A list of jobs that no call of the two queues changes. -/
structure Lst (P R : QP) (u v s : Value) (js : List Jb) (W : World) : Prop where
  (a : Aside P u s js W)
  (b : Aside R v s js W)
theorem Lst.below {P R : QP} {u v s : Value} {js : List Jb} {W W' : World} (h : Lst P R u v s js W) (hb : Below W.heap.size W W') : Lst P R u v s js W' := ⟨h.a.below hb, h.b.below hb⟩
theorem Lst.left {P R : QP} {u u' v s : Value} {js : List Jb} {W W' : World} (h : Lst P R u v s js W) (hs : Stp P u u' W W') : Lst P R u' v s js W' := ⟨h.a.stp hs, ⟨(h.a.stp hs).ow, h.b.na⟩⟩
theorem Lst.right {P R : QP} {u v v' s : Value} {js : List Jb} {W W' : World} (h : Lst P R u v s js W) (hs : Stp R v v' W W') : Lst P R u v' s js W' := ⟨⟨(h.b.stp hs).ow, h.a.na⟩, h.b.stp hs⟩
theorem Lst.new {B : Nat} {P R : QP} {u v s : Value} {x y : Qst} {js : List Jb} {w W W' : World} (h : Two B P R u v x y w W) (ho : W'.owns W.heap.size 38 9 s js.length (jobsL js)) : Lst P R u v s js W' := ⟨aside_new h.xa ho, aside_new h.ya ho⟩
/-- What the law holds before the restart. -/
structure Fin (B : Nat) (P : QP) (s : Value) (l : Int) (w W : World) : Prop where
  (ex : ∃ (d : Dk) (q : Qs) (L : Nat), l = (L : Int) ∧ L ≤ q.last ∧ DiskAt W P.d P.b0 P.b1 d ∧ Ended d q ∧ W.owns 0 38 9 s q.jobs.length (jobsL q.jobs))
  (na : ∀ k, s.ownBlock = some k → ¬ three P.d P.b0 P.b1 k)
  (bl : Below B w W)
  (mn : ∀ k, three P.d P.b0 P.b1 k → B ≤ k)
  (le : B ≤ W.heap.size)
theorem three_mine {P : QP} {v : Value} {k : Nat} (h : three P.d P.b0 P.b1 k) : Mine P v k := by
  rcases h with h | h | h
  · exact .inr (.inl h)
  · exact .inr (.inr (.inl h))
  · exact .inr (.inr (.inr (.inl h)))
theorem Two.fin {B : Nat} {P R : QP} {u v s : Value} {x y : Qst} {q : Qs} {w W : World} (h : Two B P R u v x y w W) (he : Ended x.d q) (hs : Lst P R u v s q.jobs W) (L : Nat) (hL : L ≤ q.last) : Fin B P s (L : Int) w W :=
  ⟨⟨x.d, q, L, rfl, hL, h.xa.dk, he, hs.a.ow⟩, fun k e t => hs.a.na k e (three_mine t), h.bl, fun k t => h.mx k (three_mine t), h.le⟩
set_option maxRecDepth 100000 in
theorem Pick_3800 (n : Int) (hn : -9223372036854775808 ≤ n ∧ n ≤ 9223372036854775807) (w : World) :
    Calls Tryd.prog 26 #[.int .i64 n, .int .i64 3800] w fun e w' => (∃ k : Nat, k < 3800 ∧ e = .returned (.int .i64 (k : Int))) ∧ w = w' := by
  obtain ⟨q, hq⟩ : ∃ q, q = n.tmod 3800 := ⟨_, rfl⟩
  have h1 : -3800 < q ∧ q < 3800 := by
    rw [hq]
    rcases Int.le_total 0 n with h | h
    · have := Int.tmod_nonneg 3800 h
      have := Int.tmod_lt_of_pos n (show (0 : Int) < 3800 by omega)
      omega
    · have h2 := Int.tmod_nonneg 3800 (show 0 ≤ -n by omega)
      have h3 := Int.tmod_lt_of_pos (-n) (show (0 : Int) < 3800 by omega)
      rw [Int.neg_tmod] at h2 h3
      omega
  have HQ := Lib.hid hq
  have H1 := Lib.hid h1
  clear hq h1
  by_cases h0 : n.tmod 3800 < 0
  · have H0 := Lib.hid h0
    go_enter Tryd.func26, Tryd.ntmps26
    go_wp2
    go_ret
    have h1 := H1.out
    have h0 := H0.out
    rw [← HQ.out] at h0
    refine ⟨⟨(q + 3800).toNat, by omega, ?_⟩, rfl⟩
    show Ending.returned (.int .i64 (wrap64 (n.tmod 3800 + 3800))) = _
    rw [← HQ.out, IntWalk.wrap64_in _ ⟨by omega, by omega⟩, Int.toNat_of_nonneg (by omega)]
  · have H0 := Lib.hid h0
    go_enter Tryd.func26, Tryd.ntmps26
    go_wp2
    go_ret
    have h1 := H1.out
    have h0 := H0.out
    rw [← HQ.out] at h0
    refine ⟨⟨q.toNat, by omega, ?_⟩, rfl⟩
    show Ending.returned (.int .i64 (n.tmod 3800)) = _
    rw [← HQ.out, Int.toNat_of_nonneg (by omega)]
set_option maxRecDepth 100000 in
theorem Pick_20000 (n : Int) (hn : -9223372036854775808 ≤ n ∧ n ≤ 9223372036854775807) (w : World) :
    Calls Tryd.prog 26 #[.int .i64 n, .int .i64 20000] w fun e w' => (∃ k : Nat, k < 20000 ∧ e = .returned (.int .i64 (k : Int))) ∧ w = w' := by
  obtain ⟨q, hq⟩ : ∃ q, q = n.tmod 20000 := ⟨_, rfl⟩
  have h1 : -20000 < q ∧ q < 20000 := by
    rw [hq]
    rcases Int.le_total 0 n with h | h
    · have := Int.tmod_nonneg 20000 h
      have := Int.tmod_lt_of_pos n (show (0 : Int) < 20000 by omega)
      omega
    · have h2 := Int.tmod_nonneg 20000 (show 0 ≤ -n by omega)
      have h3 := Int.tmod_lt_of_pos (-n) (show (0 : Int) < 20000 by omega)
      rw [Int.neg_tmod] at h2 h3
      omega
  have HQ := Lib.hid hq
  have H1 := Lib.hid h1
  clear hq h1
  by_cases h0 : n.tmod 20000 < 0
  · have H0 := Lib.hid h0
    go_enter Tryd.func26, Tryd.ntmps26
    go_wp2
    go_ret
    have h1 := H1.out
    have h0 := H0.out
    rw [← HQ.out] at h0
    refine ⟨⟨(q + 20000).toNat, by omega, ?_⟩, rfl⟩
    show Ending.returned (.int .i64 (wrap64 (n.tmod 20000 + 20000))) = _
    rw [← HQ.out, IntWalk.wrap64_in _ ⟨by omega, by omega⟩, Int.toNat_of_nonneg (by omega)]
  · have H0 := Lib.hid h0
    go_enter Tryd.func26, Tryd.ntmps26
    go_wp2
    go_ret
    have h1 := H1.out
    have h0 := H0.out
    rw [← HQ.out] at h0
    refine ⟨⟨q.toNat, by omega, ?_⟩, rfl⟩
    show Ending.returned (.int .i64 (n.tmod 20000)) = _
    rw [← HQ.out, Int.toNat_of_nonneg (by omega)]
end Go.Proofs.YtoggmplkbiidhaaDoor

/- Laws of the jobs: two queues at the beginning; a list after a restart. -/
namespace Go.Proofs.YtoggmplkbiidhaaDoor
set_option linter.all false
open Go.RowKit Go.Shelf
theorem two_begin {w wa wb wc wd : World} {p dp b0 b1 r dq c0 c1 : Nat} {u v : Value} {x y : Qst} {D1 D2 : Dk}
    (hd1 : DiskAt wa dp b0 b1 D1) (hp : w.heap.size ≤ dp ∧ w.heap.size ≤ b0 ∧ w.heap.size ≤ b1) (hba : Below w.heap.size w wa)
    (hd2 : DiskAt wb dq c0 c1 D2) (hq : wa.heap.size ≤ dq ∧ wa.heap.size ≤ c0 ∧ wa.heap.size ≤ c1) (hbb : Below wa.heap.size wa wb)
    (hx : QD ⟨p, dp, b0, b1⟩ u x wc) (hpp : wb.heap.size ≤ p) (hu : ∀ k, u.ownBlock = some k → wb.heap.size ≤ k) (hbc : Below wb.heap.size wb wc)
    (hy : QD ⟨r, dq, c0, c1⟩ v y wd) (hrr : wc.heap.size ≤ r) (hv : ∀ k, v.ownBlock = some k → wc.heap.size ≤ k) (hbd : Below wc.heap.size wc wd) :
    Two w.heap.size ⟨p, dp, b0, b1⟩ ⟨r, dq, c0, c1⟩ u v x y w wd := by
  have s1 := hba.size
  have s2 := hbb.size
  have s3 := hbc.size
  have s4 := hbd.size
  have l1 := lt_of_heap hd1.at_
  have l2 := hd1.a0.lt
  have l3 := hd1.a1.lt
  have l4 := lt_of_heap hd2.at_
  have l5 := hd2.a0.lt
  have l6 := hd2.a1.lt
  have mx : ∀ k, Mine ⟨p, dp, b0, b1⟩ u k → w.heap.size ≤ k ∧ k < wc.heap.size ∧ (k < wa.heap.size ∨ wb.heap.size ≤ k) := fun k hm => by
    have h1 := hx.lt k hm
    rcases hm with e | e | e | e | e
    · have e : k = p := e
      omega
    · have e : k = dp := e
      omega
    · have e : k = b0 := e
      omega
    · have e : k = b1 := e
      omega
    · have := hu k e; omega
  have my : ∀ k, Mine ⟨r, dq, c0, c1⟩ v k → wa.heap.size ≤ k ∧ (k < wb.heap.size ∨ wc.heap.size ≤ k) := fun k hm => by
    rcases hm with e | e | e | e | e
    · have e : k = r := e
      omega
    · have e : k = dq := e
      omega
    · have e : k = c0 := e
      omega
    · have e : k = c1 := e
      omega
    · have := hv k e; omega
  refine ⟨hx.below hbd, hy, fun k a b => ?_, hba.trans ((hbb.mono s1).trans ((hbc.mono (by omega)).trans (hbd.mono (by omega)))), fun k a => (mx k a).1, fun k a => ?_, by omega⟩
  · have := mx k a
    have := my k b
    omega
  · have := my k a
    omega
/-- What an Open behind the restart finds. -/
structure Back (B : Nat) (P : QP) (v : Value) (q : Qs) (d : Dk) (w W : World) : Prop where
  (qd : QD P v ⟨q.asleep, d, false⟩ W)
  (bl : Below B w W)
  (mn : ∀ k, Mine P v k → B ≤ k)
  (le : B ≤ W.heap.size)
theorem Back.below {B : Nat} {P : QP} {v : Value} {q : Qs} {d : Dk} {w W W' : World} (h : Back B P v q d w W) (hb : Below W.heap.size W W') : Back B P v q d w W' :=
  ⟨h.qd.below hb, h.bl.trans (hb.mono h.le), h.mn, Nat.le_trans h.le hb.size⟩
def newC : List UInt8 := [110, 101, 119, 32, 99, 108, 105, 101, 110, 116]
def newT : List UInt8 := [110, 101, 119, 32, 116, 111, 107, 101, 110]
theorem text_eq {s l : List UInt8} (h : s = l) : (bytesOf s).toList = l ∧ ((bytesOf s).toList == l) = true := by
  have e : (bytesOf s).toList = l := by rw [ByteArray.toList_eq]; exact h
  exact ⟨e, by rw [e]; exact beq_self_eq_true l⟩
theorem text_ne {s l : List UInt8} (h : ¬ s = l) : ¬ (bytesOf s).toList = l ∧ ((bytesOf s).toList == l) = false := by
  have e : ¬ (bytesOf s).toList = l := by rw [ByteArray.toList_eq]; exact h
  exact ⟨e, by rw [beq_eq_false_iff_ne]; exact e⟩
end Go.Proofs.YtoggmplkbiidhaaDoor

/- What the reading of an argument tells of its value. -/

/- What the reading of an argument tells of its value: slices of integers, and slices of these. -/
namespace Go
open RowKit ChangeShapes
section
variable {H : Type} {enc : TypeId × Value → H} {P : Program} {w : World} {held : Bool} {fuel : Nat} {t e q : TypeId} {cs : List Value} {x : DataW H × List MemPlace}
theorem addr_none {a : Addr} {v : Value} {w : World} (h : w.cell? (a.add 0) = some v) : ∃ b off, a = ⟨b, off, none⟩ ∧ b < w.heap.size := by
  obtain ⟨b, off, spot⟩ := a
  obtain rfl : spot = none := by
    have := World.cell?_spot h
    simpa [Addr.add] using this
  exact ⟨b, off, rfl, by have := World.block_lt_of_cell? w _ h; simpa [Addr.add] using this⟩
theorem add_none (b off j : Nat) : (⟨b, off, none⟩ : Addr).add j = ⟨b, off + j, none⟩ := by unfold Addr.add; split <;> simp_all
/-- A field of a struct. -/
theorem trod_field {fs : Array Field} (ht : P.underlying t = some (.struct fs)) (h : DataW.trod enc P w 0 (fun _ => true) held fuel t cs = some x) (j : Nat) (f : Field) (hj : fs[j]? = some f) :
    ∃ n y, DataW.trod enc P w 0 (fun _ => true) held n f.type ((cs.drop f.offset).take (P.cellsOf f.type)) = some y := by
  obtain ⟨xs, m, rfl, hx, hl, hlen, hget⟩ := DataW.trod_struct ht h
  have hj' := (Array.getElem?_eq_some_iff.1 hj).1
  exact ⟨m, _, (hget j f hj).trans (List.getElem?_eq_getElem (by omega))⟩
end
end Go

/- What the reading of an argument tells of its value: the acts of the jobs' laws; the table of readers. -/
namespace Go.Proofs.YtoggmplkbiidhaaDoor
set_option linter.all false
open Go.RowKit Go.WideShapes Go.ChangeShapes
theorem six_take (cs : List Value) (h : cs.length = 6) : ∃ a b c d e f, cs = [a, b, c, d, e, f] := by
  match cs, h with
  | [a, b, c, d, e, f], _ => exact ⟨a, b, c, d, e, f, rfl⟩
def listOf (s : ByteArray) : List UInt8 := s.data.toList
theorem bytesOf_listOf (s : ByteArray) : bytesOf (listOf s) = s := by
  apply ByteArray.ext
  simp [bytesOf, listOf]
set_option maxRecDepth 100000 in
theorem open_jacts {H : Type} {enc : TypeId × Value → H} {W : World} {base : Nat} {v : Value} {d : DataW H} {p : List MemPlace} (hv : Value.okWide Tryd.prog W .any base 22 v) (h : DataW.Trod enc Tryd.prog W 0 (fun _ => true) true 22 v d p) :
    ∃ (l : List JAct) (a : Option Addr) (cap : Nat), v = .slice a l.length cap ∧ l.length ≤ maxLen ∧ JActsAt W W.heap.size a l := by
  have cA : Tryd.prog.cellsOf 35 = 6 := by kernel_rfl
  have cS : Tryd.prog.cellsOf 9 = 1 := by kernel_rfl
  have c3 : Tryd.prog.cellsOf 3 = 1 := by kernel_rfl
  have c2 : Tryd.prog.cellsOf 2 = 1 := by kernel_rfl
  have c5 : Tryd.prog.cellsOf 5 = 1 := by kernel_rfl
  obtain ⟨a, len, cap, rfl⟩ := WideShapes.okWide_slice Tryd.underlying22 hv
  obtain ⟨fuel, hf⟩ := h
  rcases DataW.trod_slice Tryd.underlying22 hf with ⟨hcs, _⟩ | ⟨ad, len', cap', elems, rest, n, -, hcs, -, -, hl, hm, hel, hget, -, -⟩
  · simp [Value.cells] at hcs
    obtain ⟨rfl, rfl, rfl⟩ := hcs
    exact ⟨[], none, 0, rfl, by simp, fun j x hj => by simp at hj⟩
  · simp [Value.cells] at hcs
    obtain ⟨rfl, rfl, rfl⟩ := hcs
    have key : ∀ i, i < len → ∃ x : JAct, ∃ b off, ad = ⟨b, off, none⟩ ∧ b < W.heap.size ∧ JActAt W b (off + i * 6) x ∧ x.wf := by
      intro i hi
      have had : ∃ b off, ad = ⟨b, off, none⟩ ∧ b < W.heap.size := by
        have hg0 := hget 0 (by omega)
        rw [List.getElem?_eq_getElem (show 0 < elems.length by omega), cA] at hg0
        obtain ⟨cs0, hcs0, -⟩ := Option.bind_eq_some_iff.1 hg0
        obtain ⟨-, hlen0, hcell0⟩ := World.cells?_some hcs0
        obtain ⟨y0, y1, y2, y3, y4, y5, rfl⟩ := six_take cs0 hlen0
        have := hcell0 0 (by omega)
        have e : ad.add (0 * 6) = ad := by unfold Addr.add; simp
        rw [e] at this
        exact addr_none (v := y0) (this.trans rfl)
      have hg := hget i hi
      rw [List.getElem?_eq_getElem (by omega), cA] at hg
      obtain ⟨cs, hcs, htr⟩ := Option.bind_eq_some_iff.1 hg
      obtain ⟨-, hlen, hcell⟩ := World.cells?_some hcs
      obtain ⟨x0, x1, x2, x3, x4, x5, rfl⟩ := six_take cs hlen
      obtain ⟨_, _, f0⟩ := trod_field Tryd.underlying35 htr 0 _ rfl
      obtain ⟨_, _, f1⟩ := trod_field Tryd.underlying35 htr 1 _ rfl
      obtain ⟨_, _, f2⟩ := trod_field Tryd.underlying35 htr 2 _ rfl
      obtain ⟨_, _, f3⟩ := trod_field Tryd.underlying35 htr 3 _ rfl
      obtain ⟨_, _, f4⟩ := trod_field Tryd.underlying35 htr 4 _ rfl
      obtain ⟨_, _, f5⟩ := trod_field Tryd.underlying35 htr 5 _ rfl
      obtain ⟨z0, e0, -, w0⟩ := DataW.trod_int Tryd.underlying5 f0
      obtain ⟨z1, e1, -, w1⟩ := DataW.trod_int Tryd.underlying2 f1
      obtain ⟨z2, e2, -, w2⟩ := DataW.trod_int Tryd.underlying3 f2
      obtain ⟨z3, e3, -, w3⟩ := DataW.trod_string Tryd.underlying9 f3
      obtain ⟨z4, e4, -, w4⟩ := DataW.trod_string Tryd.underlying9 f4
      obtain ⟨z5, e5, -, w5⟩ := DataW.trod_string Tryd.underlying9 f5
      have g0 := hcell 0 (by omega)
      have g1 := hcell 1 (by omega)
      have g2 := hcell 2 (by omega)
      have g3 := hcell 3 (by omega)
      have g4 := hcell 4 (by omega)
      have g5 := hcell 5 (by omega)
      obtain ⟨b, off, rfl, -⟩ := had
      rw [add_none, add_none] at g0 g1 g2 g3 g4 g5
      simp [c5, c3, c2, cS] at e0 e1 e2 e3 e4 e5
      simp at g0 g1 g2 g3 g4 g5
      subst e0 e1 e2 e3 e4 e5
      have b0 := bounds_u8 w0
      have b1 := bounds_i64 w1
      have b2 := bounds_i64 w2
      have hz0 : ((z0.toNat : Nat) : Int) = z0 := Int.toNat_of_nonneg (by omega)
      refine ⟨⟨z0.toNat, z1, z2, listOf z3, listOf z4, listOf z5⟩, b, off, rfl, World.block_lt_of_cell? W ⟨b, off + i * 6, none⟩ g0, ⟨by rw [hz0]; exact g0, g1, g2, by rw [bytesOf_listOf]; exact g3, by rw [bytesOf_listOf]; exact g4, by rw [bytesOf_listOf]; exact g5⟩, ⟨by show z0.toNat < 256; omega, b1, b2⟩⟩
    have hch : ∃ f : Nat → JAct, ∀ i, i < len → ∃ b off, ad = ⟨b, off, none⟩ ∧ b < W.heap.size ∧ JActAt W b (off + i * 6) (f i) ∧ (f i).wf :=
      ⟨fun i => if h : i < len then Classical.choose (key i h) else ⟨0, 0, 0, [], [], []⟩, fun i hi => by simpa only [dif_pos hi] using Classical.choose_spec (key i hi)⟩
    obtain ⟨f, hf2⟩ := hch
    refine ⟨(List.range len).map f, some ad, cap, by simp, by simp; omega, fun j x hj => ?_⟩
    have hjl : j < len := by
      have := (List.getElem?_eq_some_iff.1 hj).1
      simpa using this
    obtain rfl : x = f j := by simpa [hjl] using hj.symm
    obtain ⟨b, off, h1, h2, h3, h4⟩ := hf2 j hjl
    exact ⟨b, off, by rw [h1], h2, h3, h4⟩
end Go.Proofs.YtoggmplkbiidhaaDoor

/- What the row's condition on the table of readers gives the walks. -/
namespace Go.Proofs.YtoggmplkbiidhaaDoor
set_option linter.all false
open Go.RowKit Go.WideShapes Go.ChangeShapes
def laid1 : List (String × DataW Unit) := [("obscura/jobs.readers", Rows.laid_obscura_jobs_readers)]
theorem gReaders : Tryd.prog.globalNamed "obscura/jobs.readers" = some 0 := by kernel_rfl
theorem tReaders : (Tryd.prog.globals[0]?).map (·.type) = some 117 := by kernel_rfl
theorem cellsF : Tryd.prog.cellsOf 116 = 1 := by kernel_rfl
theorem cellsA : Tryd.prog.cellsOf 117 = 7 := by kernel_rfl
set_option maxRecDepth 100000 in
theorem of_laid {W : World} (h : laidMetH Tryd.prog laid1 W) : TabAt W := by
  obtain ⟨g, t, cs, fuel, p, hg, ht, hv, hd⟩ := h.funcs (List.mem_singleton.2 rfl)
  obtain rfl := Option.some.inj (gReaders.symm.trans hg)
  obtain rfl := Option.some.inj (tReaders.symm.trans ht)
  obtain ⟨xs, m, hfu, hx, hl, hxl, hel⟩ := DataW.trod_array Tryd.underlying117 hd
  have hmap : xs.map (·.1) = [DataW.nil, .held [111, 98, 115, 99, 117, 114, 97, 47, 106, 111, 98, 115, 46, 114, 101, 97, 100, 101, 114, 115, 36, 49], .held [111, 98, 115, 99, 117, 114, 97, 47, 106, 111, 98, 115, 46, 114, 101, 97, 100, 101, 114, 115, 36, 50], .held [111, 98, 115, 99, 117, 114, 97, 47, 106, 111, 98, 115, 46, 114, 101, 97, 100, 101, 114, 115, 36, 51], .held [111, 98, 115, 99, 117, 114, 97, 47, 106, 111, 98, 115, 46, 114, 101, 97, 100, 101, 114, 115, 36, 52], .held [111, 98, 115, 99, 117, 114, 97, 47, 106, 111, 98, 115, 46, 114, 101, 97, 100, 101, 114, 115, 36, 53], .held [111, 98, 115, 99, 117, 114, 97, 47, 106, 111, 98, 115, 46, 114, 101, 97, 100, 101, 114, 115, 36, 54]] := by
    injection hx with hx _
    injection hx with hx
    exact hx.symm
  rw [cellsA] at hl
  have key : ∀ i nm, (xs.map (·.1))[i]? = some (.held nm) → ∃ v m q, W.cell? ⟨0, i, none⟩ = some v ∧ DataW.trod (funcToken Tryd.prog) Tryd.prog W 0 (fun _ => true) true m 116 [v] = some (.held nm, q) := fun i nm hi => by
    rw [List.getElem?_map] at hi
    cases hy : xs[i]? with
    | none => rw [hy] at hi; cases hi
    | some y =>
      rw [hy] at hi
      have hi7 : i < 7 := by have := (List.getElem?_eq_some_iff.1 hy).1; omega
      have he := hel i hi7
      rw [cellsF, Nat.mul_one, hy] at he
      have hc : (cs.toList.drop i).take 1 = [cs.toList[i]'(by omega)] := by
        rw [List.drop_eq_getElem_cons (by omega)]; rfl
      rw [hc] at he
      refine ⟨_, m, y.2, ?_, he.trans ?_⟩
      · rw [World.var?_cell gReaders hv i]
        rw [← Array.getElem?_toList, List.getElem?_eq_getElem (by omega)]
      · have : y.1 = .held nm := by simpa using hi
        rw [← this]
  obtain ⟨v1, m1, q1, hc1, hr1⟩ := key 1 _ (by rw [hmap]; rfl)
  obtain rfl := Go.func_of_trod (f0 := 117) Tryd.underlying116 (by kernel_rfl) hr1
  obtain ⟨v2, m2, q2, hc2, hr2⟩ := key 2 _ (by rw [hmap]; rfl)
  obtain rfl := Go.func_of_trod (f0 := 119) Tryd.underlying116 (by kernel_rfl) hr2
  obtain ⟨v3, m3, q3, hc3, hr3⟩ := key 3 _ (by rw [hmap]; rfl)
  obtain rfl := Go.func_of_trod (f0 := 120) Tryd.underlying116 (by kernel_rfl) hr3
  obtain ⟨v4, m4, q4, hc4, hr4⟩ := key 4 _ (by rw [hmap]; rfl)
  obtain rfl := Go.func_of_trod (f0 := 121) Tryd.underlying116 (by kernel_rfl) hr4
  obtain ⟨v5, m5, q5, hc5, hr5⟩ := key 5 _ (by rw [hmap]; rfl)
  obtain rfl := Go.func_of_trod (f0 := 122) Tryd.underlying116 (by kernel_rfl) hr5
  obtain ⟨v6, m6, q6, hc6, hr6⟩ := key 6 _ (by rw [hmap]; rfl)
  obtain rfl := Go.func_of_trod (f0 := 123) Tryd.underlying116 (by kernel_rfl) hr6
  intro k h1 h6
  obtain rfl | rfl | rfl | rfl | rfl | rfl : k = 1 ∨ k = 2 ∨ k = 3 ∨ k = 4 ∨ k = 5 ∨ k = 6 := by omega
  · exact hc1
  · exact hc2
  · exact hc3
  · exact hc4
  · exact hc5
  · exact hc6
theorem door_met (os : Os) (args : Array Value) : laidMetH Tryd.prog laid1 ((World.doorLaid Tryd.prog 600 os).forCall (fun _ _ => 0) ⟨#[], args, []⟩).memory :=
  laidMetH_of_parts3 (fuel := 8) (laidMet_of_run' 8 (by kernel_rfl) (by kernel_rfl)) (by kernel_rfl) (by kernel_rfl)
end Go.Proofs.YtoggmplkbiidhaaDoor
