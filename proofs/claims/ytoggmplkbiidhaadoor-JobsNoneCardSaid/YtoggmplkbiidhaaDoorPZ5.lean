/- Helpers and walks, in one text. -/
import Derived.Test.YtoggmplkbiidhaaDoorPZ4
import Derived.Laws.StructEq
import Derived.ProofKit
import Derived.OpenShut
import Derived.ShutString
import Derived.ChangeOld
import Derived.SliceStrings
import Derived.Deep.Matrix
import Derived.Test.YtoggmplkbiidhaaDoorRows
import Derived.WideShapes
import Derived.LaidMore
import Derived.Stop.Joined
/- Laws of the jobs: what every law shows. -/
namespace Go.Proofs.YtoggmplkbiidhaaDoor
set_option linter.all false
open Go.RowKit Go.Shelf
set_option maxRecDepth 100000 in
set_option maxHeartbeats 4000000 in
theorem shown_any (w : World) (ht : TabAt w) : Calls Tryd.prog 7 #[] w fun e w' => e = .returned (.bool true) ∧ Below w.heap.size w w' := by
  obtain ⟨x1, x2, x4, x5, s1, s2, s3, s4, s5, s6, s7⟩ := show_all
  obtain ⟨-, ho⟩ := show_new
  have hok : (newDk 4000).ok := (newDk_post 4000 (by omega) (by omega)).1.ok
  have HN := Lib.hid (New_any 4000 (by omega) (by omega) w)
  have HT := Lib.hid ht
  have HOK := Lib.hid hok
  have HO := Lib.hid ho
  have H1 := Lib.hid s1
  have H2 := Lib.hid s2
  have H3 := Lib.hid s3
  have H4 := Lib.hid s4
  have H5 := Lib.hid s5
  have H6 := Lib.hid s6
  have H7 := Lib.hid s7
  clear s1 s2 s3 s4 s5 s6 s7 ht hok ho
  go_enter Tryd.func7, Tryd.ntmps7
  go_wp2_with fail
  refine (show Calls Tryd.prog 8 #[.int .i64 4000] w _ from HN.out).mono ?_
  rintro e wa ⟨⟨dp, b0, b1, rfl, hd, hp1, hp2, hp3⟩, hba⟩
  have HOP := Lib.hid (Open_any dp b0 b1 (newDk 4000) wa hd HOK.out (HT.out.block (hba.block _ HT.out.lt)))
  have HBA := Lib.hid hba
  have HPP : Hid (w.heap.size ≤ dp ∧ w.heap.size ≤ b0 ∧ w.heap.size ≤ b1) := Lib.hid ⟨hp1, hp2, hp3⟩
  rw [HO.out] at HOP
  clear hd hba hp1 hp2 hp3 HN
  go_wp2_with fail
  refine HOP.out.mono ?_
  rintro e wb ⟨hop, hbb⟩
  unfold OpenP at hop
  dsimp only at hop
  obtain ⟨p, v, rfl, hpp, hqd, hvv⟩ := hop
  have hsz := HBA.out.size
  have HB0 : Hid (Below w.heap.size w wb ∧ ∀ k, Mine ⟨p, dp, b0, b1⟩ v k → w.heap.size ≤ k) := Lib.hid ⟨HBA.out.trans (hbb.mono hsz), fun k hm => by
    obtain ⟨h1, h2, h3⟩ := HPP.out
    rcases hm with e | e | e | e | e
    · have : k = p := e
      omega
    · have : k = dp := e
      omega
    · have : k = b0 := e
      omega
    · have : k = b1 := e
      omega
    · have := hvv k e; omega⟩
  have HQ0 := Lib.hid hqd
  have HS1 := Lib.hid (Submit_did ⟨p, dp, b0, b1⟩ v _ [97] [116] 3 [119] wb hqd)
  rw [H1.out] at HS1
  clear hbb hqd hpp hvv hsz
  go_wp2_with fail
  refine (show Calls Tryd.prog 14 #[.pointer (some ⟨p, 0, none⟩), .string { data := #[97] }, .string { data := #[116] }, .int .i64 3, .string { data := #[119] }] wb _ from HS1.out).mono ?_
  rintro e wc ⟨rfl, v1, hq1, hs1⟩
  have HSt1 := Lib.hid hs1
  have HS2 := Lib.hid (Submit_did ⟨p, dp, b0, b1⟩ v1 _ [97] [117] 5 [119] wc hq1)
  rw [H2.out] at HS2
  clear hs1 hq1 HS1
  go_wp2_with fail
  refine (show Calls Tryd.prog 14 #[.pointer (some ⟨p, 0, none⟩), .string { data := #[97] }, .string { data := #[117] }, .int .i64 5, .string { data := #[119] }] wc _ from HS2.out).mono ?_
  rintro e wd ⟨rfl, v2, hq2, hs2⟩
  have HSt2 := Lib.hid (HSt1.out.trans hs2)
  have HS3 := Lib.hid (Submit_did ⟨p, dp, b0, b1⟩ v2 _ [97] [116] 0 [] wd hq2)
  rw [H3.out] at HS3
  clear hs2 hq2 HS2
  go_wp2_with fail
  refine (show Calls Tryd.prog 14 #[.pointer (some ⟨p, 0, none⟩), .string { data := #[97] }, .string { data := #[116] }, .int .i64 0, .string { data := #[] }] wd _ from HS3.out).mono ?_
  rintro e we ⟨rfl, v3, hq3, hs3⟩
  have HSt3 := Lib.hid (HSt2.out.trans hs3)
  have HS4 := Lib.hid (Take_did ⟨p, dp, b0, b1⟩ v3 _ we hq3)
  rw [H4.out] at HS4
  clear hs3 hq3 HS3
  go_wp2_with fail
  refine HS4.out.mono ?_
  rintro e wf ⟨rfl, v4, hq4, hs4⟩
  have HSt4 := Lib.hid (HSt3.out.trans hs4)
  have HQ4 := Lib.hid hq4
  clear hs4 hq4 HS4
  unfold Jb.val Jb.cells jB2 strV
  go_upto_region 9 with (fail)
  obtain ⟨W5, hW5⟩ : ∃ W, W = wf.alloc (.cells #[.int .i64 2, .string (bytesOf [97]), .string (bytesOf [117]), .int .i64 5, .int .i64 2, .int .i64 1, .string (bytesOf [119]), .string (bytesOf []), .string (bytesOf [])] 38) := ⟨_, rfl⟩
  have g5 : W5.heap[wf.heap.size]? = some (.cells #[.int .i64 2, .string (bytesOf [97]), .string (bytesOf [117]), .int .i64 5, .int .i64 2, .int .i64 1, .string (bytesOf [119]), .string (bytesOf []), .string (bytesOf [])] 38) := by rw [hW5]; exact alloc_last _ _ rfl
  have hb5 : Below wf.heap.size wf W5 := by rw [hW5]; exact (Below.refl _ wf).alloc (Nat.le_refl _) _
  have k0 : W5.cell? ⟨wf.heap.size, 0, none⟩ = some (.int .i64 2) := by simp [World.cell?, g5]
  have k5 : W5.cell? ⟨wf.heap.size, 5, none⟩ = some (.int .i64 1) := by simp [World.cell?, g5]
  have hq5 := HQ4.out.below hb5
  have HSt5 := Lib.hid (HSt4.out.below hb5)
  have HS5 := Lib.hid (Save_did ⟨p, dp, b0, b1⟩ v4 _ 1 [120] W5 hq5)
  rw [H5.out] at HS5
  rw [← hW5]
  clear hq5 hb5 g5 hW5
  go_wp2_with fail
  refine (show Calls Tryd.prog 15 #[.pointer (some ⟨p, 0, none⟩), .int .i64 1, .string { data := #[120] }] W5 _ from HS5.out).mono ?_
  rintro e wg ⟨rfl, v5, hq5, hs5⟩
  have HSt6 := Lib.hid (HSt5.out.trans hs5)
  have HS6 := Lib.hid (Finish_did ⟨p, dp, b0, b1⟩ v5 _ 2 [100, 111, 110, 101] wg hq5)
  rw [H6.out] at HS6
  clear hq5 hs5 HS5 k0 k5
  go_wp2_with fail
  refine (show Calls Tryd.prog 17 #[.pointer (some ⟨p, 0, none⟩), .int .i64 2, .string { data := #[100, 111, 110, 101] }] wg _ from HS6.out).mono ?_
  rintro e wh ⟨rfl, v6, hq6, hs6⟩
  have HSt7 := Lib.hid (HSt6.out.trans hs6)
  have HS7 := Lib.hid (List_did ⟨p, dp, b0, b1⟩ v6 _ wh hq6)
  clear hq6 hs6 HS6
  go_wp2_with fail
  refine HS7.out.mono ?_
  rintro e wi ⟨⟨u, rfl, hu⟩, hbi⟩
  rw [H7.out] at hu
  obtain ⟨gu, cu, rfl⟩ := World.owns.succ hu
  have HSt8 := Lib.hid (HSt7.out.below hbi)
  clear hu hbi HS7
  go_wp2_with fail
  go_ret
  refine ⟨rfl, HB0.out.1.trans (HSt8.out.kp.below HB0.out.1.size HB0.out.2)⟩
end Go.Proofs.YtoggmplkbiidhaaDoor

/- Laws of the jobs: one of the calls of the queue. Printed by gen_lj3.py. -/
namespace Go.Proofs.YtoggmplkbiidhaaDoor
set_option linter.all false
open Go.RowKit Go.Shelf
def JAct.val (a : JAct) : Value := .agg #[.int .u8 (a.what : Int), .int .i64 a.id, .int .i64 a.prio, .string (bytesOf a.client), .string (bytesOf a.token), .string (bytesOf a.text)]
end Go.Proofs.YtoggmplkbiidhaaDoor

/- Laws of the jobs: jobs are compared. -/

/- Laws of the jobs: what a call of the queue leaves alone. Printed by gen_lj5.py. -/
namespace Go.Proofs.YtoggmplkbiidhaaDoor
set_option linter.all false
open Go.RowKit Go.Shelf
/-- A list of jobs that a call of the queue leaves alone. -/
structure Aside (P : QP) (v u : Value) (js : List Jb) (W : World) : Prop where
  (ow : W.owns 0 38 9 u js.length (jobsL js))
  (na : ∀ k, u.ownBlock = some k → ¬ Mine P v k)
theorem mine_stp {P : QP} {v v' : Value} {W W' : World} (h : Stp P v v' W W') (k : Nat) (hk : k < W.heap.size) (hm : Mine P v' k) : Mine P v k := by
  rcases hm with e | e | e | e | e
  · exact .inl e
  · exact .inr (.inl e)
  · exact .inr (.inr (.inl e))
  · exact .inr (.inr (.inr (.inl e)))
  · rcases h.mv k e with e | e
    · exact .inr (.inr (.inr (.inr e)))
    · omega
theorem Aside.stp {P : QP} {v v' u : Value} {js : List Jb} {W W' : World} (h : Aside P v u js W) (hs : Stp P v v' W W') : Aside P v' u js W' :=
  ⟨World.owns.keptBy h.ow (fun g c fz hg hh => hs.kp.block g (lt_of_heap hh) (h.na g hg)), fun k e hm => h.na k e (mine_stp hs k (h.ow.lt k e).2 hm)⟩
theorem Aside.below {P : QP} {v u : Value} {js : List Jb} {W W' : World} (h : Aside P v u js W) (hb : Below W.heap.size W W') : Aside P v u js W' := h.stp (Stp.of_below hb)
/-- The queue of a law, behind B. -/
structure Ord (B : Nat) (P : QP) (v : Value) (x : Qst) (w W : World) : Prop where
  (qd : QD P v x W)
  (up : x.up)
  (bl : Below B w W)
  (mn : ∀ k, Mine P v k → B ≤ k)
  (le : B ≤ W.heap.size)
theorem Ord.below {B : Nat} {P : QP} {v : Value} {x : Qst} {w W W' : World} (h : Ord B P v x w W) (hb : Below W.heap.size W W') : Ord B P v x w W' :=
  ⟨h.qd.below hb, h.up, h.bl.trans (hb.mono h.le), h.mn, Nat.le_trans h.le hb.size⟩
theorem Ord.stp {B : Nat} {P : QP} {v v' : Value} {x x' : Qst} {w W W' : World} (h : Ord B P v x w W) (hq : QD P v' x' W') (hs : Stp P v v' W W') (hu : x'.up) : Ord B P v' x' w W' := by
  refine ⟨hq, hu, h.bl.trans (hs.kp.below h.le h.mn), fun k hm => ?_, Nat.le_trans h.le hs.kp.size⟩
  rcases Nat.lt_or_ge k W.heap.size with hk | hk
  · exact h.mn k (mine_stp hs k hk hm)
  · exact Nat.le_trans h.le hk
theorem aside_new {P : QP} {v u : Value} {x : Qst} {js : List Jb} {W W' : World} (hq : QD P v x W) (h : W'.owns W.heap.size 38 9 u js.length (jobsL js)) : Aside P v u js W' :=
  ⟨World.owns.mono h (Nat.zero_le _), fun k e hm => by have := (h.lt k e).1; have := hq.lt k hm; omega⟩
theorem Aside.job {P : QP} {v : Value} {a : Option Addr} {c : Nat} {js : List Jb} {W : World} (h : Aside P v (.slice a js.length c) js W) (k : Nat) (j : Jb) (hj : js[k]? = some j) :
    ∃ g, a = some ⟨g, 0, none⟩ ∧ ∀ i u, i < 9 → j.cells[i]? = some u → W.cell? ⟨g, k * 9 + i, none⟩ = some u := by
  have hk : k < js.length := (List.getElem?_eq_some_iff.1 hj).1
  obtain ⟨g, cap, e⟩ := World.owns.pos h.ow (by omega)
  injection e with e1 e2 e3
  subst e1 e3
  exact ⟨g, rfl, fun i u hi hu => (job_cell h.ow hj hi hu).1⟩
end Go.Proofs.YtoggmplkbiidhaaDoor

/- Plain: a queue of jobs: the journal tells the queue. -/

/- Plain: a queue of jobs: two queues, one on a disk that may fail. -/

/- Plain: a queue of jobs: two queues: each call. -/

/- Plain: a queue of jobs: what a restart finds again. -/
namespace Go.Proofs.YtoggmplkbiidhaaDoor
set_option linter.all false
theorem fuse_good {d : Dk} (h : d.good) (f : Int) (h1 : -1 ≤ f) (h2 : f ≤ 9223372036854775807) (b : Bool) : Dk.good { d with fuse := f, failed := b } :=
  ⟨⟨h.ok.l0, h.ok.l1, h.ok.lo, h.ok.hi, h1, h2⟩, h.half⟩
/-- What the disk of the law holds at the end. -/
structure Ended (d : Dk) (q : Qs) : Prop where
  (good : d.good)
  (rep : replay d.texts = some q.asleep)
  (fine : q.fine)
theorem Ended.opened {d : Dk} {q : Qs} (h : Ended d q) : Dk.good { d with fuse := -1, failed := false } ∧ openD { d with fuse := -1, failed := false } = .inr q.asleep := by
  refine ⟨fuse_good h.good _ (by decide) (by decide) _, ?_⟩
  unfold openD
  have hs : Dk.seenErr { d with fuse := -1, failed := false } = 0 := by
    show d.seenErr = 0
    unfold Dk.seenErr; rw [if_neg (by have := h.good.half; omega)]
  rw [if_neg (by rw [hs]; simp)]
  show (match replay d.texts with | none => (.inl 6 : Int ⊕ Qs) | some q => .inr q) = _
  rw [h.rep]
end Go.Proofs.YtoggmplkbiidhaaDoor

/- Laws of the jobs: what waits again after a restart. -/

/- Laws of the jobs: two queues that lie apart. -/
namespace Go.Proofs.YtoggmplkbiidhaaDoor
set_option linter.all false
open Go.RowKit Go.Shelf
theorem DiskAt.apart {K : Nat → Prop} {w w' : World} {p b0 b1 : Nat} {d : Dk} (h : DiskAt w p b0 b1 d) (hk : Kp K w w') (n0 : ¬ K p) (n1 : ¬ K b0) (n2 : ¬ K b1) : DiskAt w' p b0 b1 d :=
  ⟨(hk.block _ (lt_of_heap h.at_) n0).trans h.at_, (by obtain ⟨t, ht⟩ := h.a0; exact ⟨t, (hk.block _ h.a0.lt n1).trans ht⟩), (by obtain ⟨t, ht⟩ := h.a1; exact ⟨t, (hk.block _ h.a1.lt n2).trans ht⟩), h.n01, h.n0, h.n1⟩
theorem QD.apart {K : Nat → Prop} {R : QP} {u : Value} {y : Qst} {w w' : World} (h : QD R u y w) (hk : Kp K w w') (hn : ∀ k, Mine R u k → ¬ K k) : QD R u y w' :=
  ⟨(hk.block _ (lt_of_heap h.qa) (hn _ (.inl rfl))).trans h.qa, World.owns.keptBy h.ja (fun g c fz hg hh => hk.block g (lt_of_heap hh) (hn _ (.inr (.inr (.inr (.inr hg)))))),
    h.dk.apart hk (hn _ (.inr (.inl rfl))) (hn _ (.inr (.inr (.inl rfl)))) (hn _ (.inr (.inr (.inr (.inl rfl))))), h.np, h.nv, h.fine, h.good⟩
/-- Two queues of a law, behind B. -/
structure Two (B : Nat) (P R : QP) (u v : Value) (x y : Qst) (w W : World) : Prop where
  (xa : QD P u x W)
  (ya : QD R v y W)
  (ap : ∀ k, Mine P u k → ¬ Mine R v k)
  (bl : Below B w W)
  (mx : ∀ k, Mine P u k → B ≤ k)
  (my : ∀ k, Mine R v k → B ≤ k)
  (le : B ≤ W.heap.size)
theorem Two.swap {B : Nat} {P R : QP} {u v : Value} {x y : Qst} {w W : World} (h : Two B P R u v x y w W) : Two B R P v u y x w W :=
  ⟨h.ya, h.xa, fun k a b => h.ap k b a, h.bl, h.my, h.mx, h.le⟩
theorem Two.below {B : Nat} {P R : QP} {u v : Value} {x y : Qst} {w W W' : World} (h : Two B P R u v x y w W) (hb : Below W.heap.size W W') : Two B P R u v x y w W' :=
  ⟨h.xa.below hb, h.ya.below hb, h.ap, h.bl.trans (hb.mono h.le), h.mx, h.my, Nat.le_trans h.le hb.size⟩
theorem Two.left {B : Nat} {P R : QP} {u u' v : Value} {x x' y : Qst} {w W W' : World} (h : Two B P R u v x y w W) (hq : QD P u' x' W') (hs : Stp P u u' W W') : Two B P R u' v x' y w W' := by
  refine ⟨hq, h.ya.apart hs.kp (fun k a b => h.ap k b a), fun k a b => ?_, h.bl.trans (hs.kp.below h.le h.mx), fun k a => ?_, h.my, Nat.le_trans h.le hs.kp.size⟩
  · exact h.ap k (mine_stp hs k (h.ya.lt k b) a) b
  · rcases Nat.lt_or_ge k W.heap.size with hk | hk
    · exact h.mx k (mine_stp hs k hk a)
    · exact Nat.le_trans h.le hk
theorem Two.right {B : Nat} {P R : QP} {u v v' : Value} {x y y' : Qst} {w W W' : World} (h : Two B P R u v x y w W) (hq : QD R v' y' W') (hs : Stp R v v' W W') : Two B P R u v' x y' w W' := (h.swap.left hq hs).swap
/-- A list of jobs that no call of the two queues changes. -/
structure Lst (P R : QP) (u v s : Value) (js : List Jb) (W : World) : Prop where
  (a : Aside P u s js W)
  (b : Aside R v s js W)
theorem Lst.below {P R : QP} {u v s : Value} {js : List Jb} {W W' : World} (h : Lst P R u v s js W) (hb : Below W.heap.size W W') : Lst P R u v s js W' := ⟨h.a.below hb, h.b.below hb⟩
theorem Lst.left {P R : QP} {u u' v s : Value} {js : List Jb} {W W' : World} (h : Lst P R u v s js W) (hs : Stp P u u' W W') : Lst P R u' v s js W' := ⟨h.a.stp hs, ⟨(h.a.stp hs).ow, h.b.na⟩⟩
theorem Lst.right {P R : QP} {u v v' s : Value} {js : List Jb} {W W' : World} (h : Lst P R u v s js W) (hs : Stp R v v' W W') : Lst P R u v' s js W' := ⟨⟨(h.b.stp hs).ow, h.a.na⟩, h.b.stp hs⟩
theorem Lst.new {B : Nat} {P R : QP} {u v s : Value} {x y : Qst} {js : List Jb} {w W W' : World} (h : Two B P R u v x y w W) (ho : W'.owns W.heap.size 38 9 s js.length (jobsL js)) : Lst P R u v s js W' := ⟨aside_new h.xa ho, aside_new h.ya ho⟩
/-- What the law holds before the restart. -/
structure Fin (B : Nat) (P : QP) (s : Value) (l : Int) (w W : World) : Prop where
  (ex : ∃ (d : Dk) (q : Qs) (L : Nat), l = (L : Int) ∧ L ≤ q.last ∧ DiskAt W P.d P.b0 P.b1 d ∧ Ended d q ∧ W.owns 0 38 9 s q.jobs.length (jobsL q.jobs))
  (na : ∀ k, s.ownBlock = some k → ¬ three P.d P.b0 P.b1 k)
  (bl : Below B w W)
  (mn : ∀ k, three P.d P.b0 P.b1 k → B ≤ k)
  (le : B ≤ W.heap.size)
end Go.Proofs.YtoggmplkbiidhaaDoor

/- What the reading of an argument tells of its value. -/

/- What the reading of an argument tells of its value: slices of integers, and slices of these. -/

/- What the reading of an argument tells of its value: the acts of the jobs' laws; the table of readers. -/
namespace Go.Proofs.YtoggmplkbiidhaaDoor
set_option linter.all false
open Go.RowKit Go.WideShapes Go.ChangeShapes
def listOf (s : ByteArray) : List UInt8 := s.data.toList
theorem bytesOf_listOf (s : ByteArray) : bytesOf (listOf s) = s := by
  apply ByteArray.ext
  simp [bytesOf, listOf]
end Go.Proofs.YtoggmplkbiidhaaDoor

/- What the row's condition on the table of readers gives the walks. -/
namespace Go.Proofs.YtoggmplkbiidhaaDoor
set_option linter.all false
open Go.RowKit Go.WideShapes Go.ChangeShapes
def laid1 : List (String × DataW Unit) := [("obscura/jobs.readers", Rows.laid_obscura_jobs_readers)]
theorem gReaders : Tryd.prog.globalNamed "obscura/jobs.readers" = some 0 := by kernel_rfl
theorem tReaders : (Tryd.prog.globals[0]?).map (·.type) = some 117 := by kernel_rfl
theorem cellsF : Tryd.prog.cellsOf 116 = 1 := by kernel_rfl
theorem cellsA : Tryd.prog.cellsOf 117 = 7 := by kernel_rfl
set_option maxRecDepth 100000 in
theorem of_laid {W : World} (h : laidMetH Tryd.prog laid1 W) : TabAt W := by
  obtain ⟨g, t, cs, fuel, p, hg, ht, hv, hd⟩ := h.funcs (List.mem_singleton.2 rfl)
  obtain rfl := Option.some.inj (gReaders.symm.trans hg)
  obtain rfl := Option.some.inj (tReaders.symm.trans ht)
  obtain ⟨xs, m, hfu, hx, hl, hxl, hel⟩ := DataW.trod_array Tryd.underlying117 hd
  have hmap : xs.map (·.1) = [DataW.nil, .held [111, 98, 115, 99, 117, 114, 97, 47, 106, 111, 98, 115, 46, 114, 101, 97, 100, 101, 114, 115, 36, 49], .held [111, 98, 115, 99, 117, 114, 97, 47, 106, 111, 98, 115, 46, 114, 101, 97, 100, 101, 114, 115, 36, 50], .held [111, 98, 115, 99, 117, 114, 97, 47, 106, 111, 98, 115, 46, 114, 101, 97, 100, 101, 114, 115, 36, 51], .held [111, 98, 115, 99, 117, 114, 97, 47, 106, 111, 98, 115, 46, 114, 101, 97, 100, 101, 114, 115, 36, 52], .held [111, 98, 115, 99, 117, 114, 97, 47, 106, 111, 98, 115, 46, 114, 101, 97, 100, 101, 114, 115, 36, 53], .held [111, 98, 115, 99, 117, 114, 97, 47, 106, 111, 98, 115, 46, 114, 101, 97, 100, 101, 114, 115, 36, 54]] := by
    injection hx with hx _
    injection hx with hx
    exact hx.symm
  rw [cellsA] at hl
  have key : ∀ i nm, (xs.map (·.1))[i]? = some (.held nm) → ∃ v m q, W.cell? ⟨0, i, none⟩ = some v ∧ DataW.trod (funcToken Tryd.prog) Tryd.prog W 0 (fun _ => true) true m 116 [v] = some (.held nm, q) := fun i nm hi => by
    rw [List.getElem?_map] at hi
    cases hy : xs[i]? with
    | none => rw [hy] at hi; cases hi
    | some y =>
      rw [hy] at hi
      have hi7 : i < 7 := by have := (List.getElem?_eq_some_iff.1 hy).1; omega
      have he := hel i hi7
      rw [cellsF, Nat.mul_one, hy] at he
      have hc : (cs.toList.drop i).take 1 = [cs.toList[i]'(by omega)] := by
        rw [List.drop_eq_getElem_cons (by omega)]; rfl
      rw [hc] at he
      refine ⟨_, m, y.2, ?_, he.trans ?_⟩
      · rw [World.var?_cell gReaders hv i]
        rw [← Array.getElem?_toList, List.getElem?_eq_getElem (by omega)]
      · have : y.1 = .held nm := by simpa using hi
        rw [← this]
  obtain ⟨v1, m1, q1, hc1, hr1⟩ := key 1 _ (by rw [hmap]; rfl)
  obtain rfl := Go.func_of_trod (f0 := 117) Tryd.underlying116 (by kernel_rfl) hr1
  obtain ⟨v2, m2, q2, hc2, hr2⟩ := key 2 _ (by rw [hmap]; rfl)
  obtain rfl := Go.func_of_trod (f0 := 119) Tryd.underlying116 (by kernel_rfl) hr2
  obtain ⟨v3, m3, q3, hc3, hr3⟩ := key 3 _ (by rw [hmap]; rfl)
  obtain rfl := Go.func_of_trod (f0 := 120) Tryd.underlying116 (by kernel_rfl) hr3
  obtain ⟨v4, m4, q4, hc4, hr4⟩ := key 4 _ (by rw [hmap]; rfl)
  obtain rfl := Go.func_of_trod (f0 := 121) Tryd.underlying116 (by kernel_rfl) hr4
  obtain ⟨v5, m5, q5, hc5, hr5⟩ := key 5 _ (by rw [hmap]; rfl)
  obtain rfl := Go.func_of_trod (f0 := 122) Tryd.underlying116 (by kernel_rfl) hr5
  obtain ⟨v6, m6, q6, hc6, hr6⟩ := key 6 _ (by rw [hmap]; rfl)
  obtain rfl := Go.func_of_trod (f0 := 123) Tryd.underlying116 (by kernel_rfl) hr6
  intro k h1 h6
  obtain rfl | rfl | rfl | rfl | rfl | rfl : k = 1 ∨ k = 2 ∨ k = 3 ∨ k = 4 ∨ k = 5 ∨ k = 6 := by omega
  · exact hc1
  · exact hc2
  · exact hc3
  · exact hc4
  · exact hc5
  · exact hc6
theorem door_met (os : Os) (args : Array Value) : laidMetH Tryd.prog laid1 ((World.doorLaid Tryd.prog 600 os).forCall (fun _ _ => 0) ⟨#[], args, []⟩).memory :=
  laidMetH_of_parts3 (fuel := 8) (laidMet_of_run' 8 (by kernel_rfl) (by kernel_rfl)) (by kernel_rfl) (by kernel_rfl)
end Go.Proofs.YtoggmplkbiidhaaDoor
