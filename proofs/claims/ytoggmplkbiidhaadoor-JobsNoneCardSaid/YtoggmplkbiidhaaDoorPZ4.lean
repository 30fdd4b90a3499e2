/- Helpers and walks, in one text. -/
import Derived.Test.YtoggmplkbiidhaaDoorPZ3
import Derived.Test.YtoggmplkbiidhaaDoorProg
/- Walks: the reference's queue of jobs: a record is read. Printed by gen_rc4.py. -/
namespace Go.Proofs.YtoggmplkbiidhaaDoor
set_option linter.all false
open Go.RowKit Go.Shelf
/-- What the reading of a record answers. -/
def RdP (B p : Nat) (dp : Value) (w : World) (r : Option Qs) (e : Ending) (w' : World) : Prop := Below B w w' ∧ match r with
  | some q => e = .returned (.bool true) ∧ ∃ v, RQueueAt w' p dp v q.last false ∧ w'.owns B 38 9 v q.jobs.length (jobsL q.jobs)
  | none => e = .returned (.bool false)
theorem RQueueAt.below {w w' : World} {p : Nat} {dp v : Value} {last : Int} {down : Bool} (h : RQueueAt w p dp v last down) (hb : Below w.heap.size w w') : RQueueAt w' p dp v last down := (hb.block _ (lt_of_heap h)).trans h
theorem RQueueAt.set2 {w : World} {p : Nat} {dp v : Value} {last : Int} {down : Bool} (h : RQueueAt w p dp v last down) (n : Int) : RQueueAt (w.setCell ⟨p, 2, none⟩ (.int .i64 n)) p dp v n down := by
  unfold RQueueAt at h ⊢
  simp [World.setCell, Array.getElem?_modify, h]
theorem RQueueAt.set1 {w : World} {p : Nat} {dp v : Value} {last : Int} {down : Bool} (h : RQueueAt w p dp v last down) (v' : Value) : RQueueAt (w.setCell ⟨p, 1, none⟩ v') p dp v' last down := by
  unfold RQueueAt at h ⊢
  simp [World.setCell, Array.getElem?_modify, h]
theorem RQueueAt.ne {w : World} {p B n : Nat} {dp v : Value} {last : Int} {down : Bool} {xs : List Value} (h : RQueueAt w p dp v last down) (hv : w.owns B 38 9 v n xs) : v.ownBlock ≠ some p := World.owns.ne hv h (by decide)
/-- A reader that begins. -/
theorem rd_new (w : World) (s : List UInt8) : RdAt (w.alloc (.cells #[.string (bytesOf s), .bool false] 128)) w.heap.size s false ∧ Below w.heap.size w (w.alloc (.cells #[.string (bytesOf s), .bool false] 128)) :=
  ⟨alloc_last _ _ rfl, (Below.refl _ w).alloc (Nat.le_refl _) _⟩
theorem rd_kp {B pr : Nat} {w w1 w2 : World} (h : Below B w w1) (hk : Kp (fun k => k = pr) w1 w2) (h1 : B ≤ w1.heap.size) (h2 : B ≤ pr) : Below B w w2 := h.trans (hk.below h1 (fun k e => by omega))
set_option maxRecDepth 100000 in
set_option maxHeartbeats 4000000 in
theorem rfread_no1 (B p : Nat) (dp v : Value) (q : Qs) (s : List UInt8) (w : World) (hq : RQueueAt w p dp v q.last false) (hv : w.owns B 38 9 v q.jobs.length (jobsL q.jobs)) (hB : B ≤ p) (hB2 : B ≤ w.heap.size) (ho : q.ok) (hs : s.length ≤ 1000000) (h1 : takeN s 1 = none) (hone : q.one s = none) :
    Calls Tryd.prog 65 #[.pointer (some ⟨p, 0, none⟩), strV s] w (RdP B p dp w (q.one s)) := by
  have e1 : numR s 1 = (0, [], true) := by unfold numR; rw [h1]
  have e2 : numR ([] : List UInt8) 8 = (0, [], true) := rfl
  have HQ := Lib.hid hq
  have HV := Lib.hid hv
  obtain ⟨r0, b0⟩ := rd_new w s
  obtain ⟨W0, hW0⟩ : ∃ W, W = w.alloc (.cells #[.string (bytesOf s), .bool false] 128) := ⟨_, rfl⟩
  rw [← hW0] at r0 b0
  have HW0 := Lib.hid hW0
  have HN1 := Lib.hid (rfnum_any w.heap.size 1 s false (by omega) (by omega) W0 r0)
  rw [e1] at HN1
  have HB0 := Lib.hid b0
  have HO := Lib.hid hone
  have HOK := Lib.hid ho
  have hpw : p < w.heap.size := lt_of_heap hq
  have HLEN : Hid (p < w.heap.size ∧ B ≤ p ∧ s.length ≤ 1000000) := ⟨hpw, hB, hs⟩
  obtain ⟨pr, hpr⟩ : ∃ pr, pr = w.heap.size := ⟨_, rfl⟩
  rw [← hpr] at HN1
  have HPR := Lib.hid hpr
  clear hq hv r0 b0 hW0 hone ho hpw hpr hB hs
  unfold strV
  go_enter Tryd.func65, Tryd.ntmps65
  go_upto_region 2 with fail
  rw [← HW0.out, ← HPR.out]
  go_wp2_with fail
  refine (show Calls Tryd.prog 82 #[.pointer (some ⟨pr, 0, none⟩), .int .i64 1] W0 _ from HN1.out).mono ?_
  rintro e w1 ⟨rfl, hr1, hk1⟩
  have HB1 : Hid (Below w.heap.size w w1) := rd_kp HB0.out hk1 HB0.out.size (by rw [HPR.out]; exact Nat.le_refl _)
  have HN2 := Lib.hid (rfnum_any pr 8 _ _ (by omega) (by have := HLEN.out; exact Nat.zero_le _) w1 hr1)
  rw [e2] at HN2
  clear hr1 hk1 HN1
  go_wp2_with fail
  refine (show Calls Tryd.prog 82 #[.pointer (some ⟨pr, 0, none⟩), .int .i64 8] w1 _ from HN2.out).mono ?_
  rintro e w2 ⟨rfl, hr2, hk2⟩
  have HB2 : Hid (Below w.heap.size w w2) := rd_kp HB1.out hk2 HB1.out.size (by rw [HPR.out]; exact Nat.le_refl _)
  obtain ⟨c0, c1, f0, f1⟩ := hr2.cells
  have HR2 := Lib.hid hr2
  clear hk2 HN2 hr2
  go_wp2_with fail
  go_ret
  rw [HO.out]
  exact ⟨HB2.out.mono hB2, rfl⟩
set_option maxRecDepth 100000 in
set_option maxHeartbeats 4000000 in
theorem rfread_no2 (B p : Nat) (dp v : Value) (q : Qs) (s : List UInt8) (w : World) (hq : RQueueAt w p dp v q.last false) (hv : w.owns B 38 9 v q.jobs.length (jobsL q.jobs)) (hB : B ≤ p) (hB2 : B ≤ w.heap.size) (ho : q.ok) (hs : s.length ≤ 1000000) {k : Nat} {s1 : List UInt8} (h1 : takeN s 1 = some (k, s1)) (h2 : takeN s1 8 = none) (hone : q.one s = none) :
    Calls Tryd.prog 65 #[.pointer (some ⟨p, 0, none⟩), strV s] w (RdP B p dp w (q.one s)) := by
  have hk256 := (takeN_lt h1).1
  have hl1 : s1.length ≤ 1000000 := by rw [(takeN_lt h1).2.1, List.length_drop]; omega
  have hid1 : idI k = (k : Int) := by unfold idI; rw [if_pos (by omega)]
  have e1 : numR s 1 = ((k : Int), s1, false) := by unfold numR; rw [h1]; dsimp only; rw [hid1]
  have e2 : numR s1 8 = (0, [], true) := by unfold numR; rw [h2]
  have HQ := Lib.hid hq
  have HV := Lib.hid hv
  obtain ⟨r0, b0⟩ := rd_new w s
  obtain ⟨W0, hW0⟩ : ∃ W, W = w.alloc (.cells #[.string (bytesOf s), .bool false] 128) := ⟨_, rfl⟩
  rw [← hW0] at r0 b0
  have HW0 := Lib.hid hW0
  have HN1 := Lib.hid (rfnum_any w.heap.size 1 s false (by omega) (by omega) W0 r0)
  rw [e1] at HN1
  have HB0 := Lib.hid b0
  have HO := Lib.hid hone
  have HOK := Lib.hid ho
  have hpw : p < w.heap.size := lt_of_heap hq
  have HLEN : Hid (p < w.heap.size ∧ B ≤ p ∧ s.length ≤ 1000000) := ⟨hpw, hB, hs⟩
  obtain ⟨pr, hpr⟩ : ∃ pr, pr = w.heap.size := ⟨_, rfl⟩
  rw [← hpr] at HN1
  have HPR := Lib.hid hpr
  clear hq hv r0 b0 hW0 hone ho hpw hpr hB hs
  unfold strV
  go_enter Tryd.func65, Tryd.ntmps65
  go_upto_region 2 with fail
  rw [← HW0.out, ← HPR.out]
  go_wp2_with fail
  refine (show Calls Tryd.prog 82 #[.pointer (some ⟨pr, 0, none⟩), .int .i64 1] W0 _ from HN1.out).mono ?_
  rintro e w1 ⟨rfl, hr1, hk1⟩
  have HB1 : Hid (Below w.heap.size w w1) := rd_kp HB0.out hk1 HB0.out.size (by rw [HPR.out]; exact Nat.le_refl _)
  have HN2 := Lib.hid (rfnum_any pr 8 _ _ (by omega) (by have := HLEN.out; omega) w1 hr1)
  rw [e2] at HN2
  clear hr1 hk1 HN1
  go_wp2_with fail
  refine (show Calls Tryd.prog 82 #[.pointer (some ⟨pr, 0, none⟩), .int .i64 8] w1 _ from HN2.out).mono ?_
  rintro e w2 ⟨rfl, hr2, hk2⟩
  have HB2 : Hid (Below w.heap.size w w2) := rd_kp HB1.out hk2 HB1.out.size (by rw [HPR.out]; exact Nat.le_refl _)
  obtain ⟨c0, c1, f0, f1⟩ := hr2.cells
  have HR2 := Lib.hid hr2
  clear hk2 HN2 hr2
  go_wp2_with fail
  go_ret
  rw [HO.out]
  exact ⟨HB2.out.mono hB2, rfl⟩
set_option maxRecDepth 100000 in
set_option maxHeartbeats 4000000 in
theorem rfread_no3 (B p : Nat) (dp v : Value) (q : Qs) (s : List UInt8) (w : World) (hq : RQueueAt w p dp v q.last false) (hv : w.owns B 38 9 v q.jobs.length (jobsL q.jobs)) (hB : B ≤ p) (hB2 : B ≤ w.heap.size) (ho : q.ok) (hs : s.length ≤ 1000000) {k id : Nat} {s1 s2 : List UInt8} (h1 : takeN s 1 = some (k, s1)) (h2 : takeN s1 8 = some (id, s2)) (hlo : k < 1) (hone : q.one s = none) :
    Calls Tryd.prog 65 #[.pointer (some ⟨p, 0, none⟩), strV s] w (RdP B p dp w (q.one s)) := by
  have hk256 := (takeN_lt h1).1
  have hl1 : s1.length ≤ 1000000 := by rw [(takeN_lt h1).2.1, List.length_drop]; omega
  have hl2 : s2.length ≤ 1000000 := by rw [(takeN_lt h2).2.1, List.length_drop]; omega
  have hid1 : idI k = (k : Int) := by unfold idI; rw [if_pos (by omega)]
  have e1 : numR s 1 = ((k : Int), s1, false) := by unfold numR; rw [h1]; dsimp only; rw [hid1]
  have e2 : numR s1 8 = (idI id, s2, false) := by unfold numR; rw [h2]
  have hlo' : (k : Int) < 1 := by omega
  have HQ := Lib.hid hq
  have HV := Lib.hid hv
  obtain ⟨r0, b0⟩ := rd_new w s
  obtain ⟨W0, hW0⟩ : ∃ W, W = w.alloc (.cells #[.string (bytesOf s), .bool false] 128) := ⟨_, rfl⟩
  rw [← hW0] at r0 b0
  have HW0 := Lib.hid hW0
  have HN1 := Lib.hid (rfnum_any w.heap.size 1 s false (by omega) (by omega) W0 r0)
  rw [e1] at HN1
  have HB0 := Lib.hid b0
  have HO := Lib.hid hone
  have HOK := Lib.hid ho
  have hpw : p < w.heap.size := lt_of_heap hq
  have HLEN : Hid (p < w.heap.size ∧ B ≤ p ∧ s.length ≤ 1000000) := ⟨hpw, hB, hs⟩
  obtain ⟨pr, hpr⟩ : ∃ pr, pr = w.heap.size := ⟨_, rfl⟩
  rw [← hpr] at HN1
  have HPR := Lib.hid hpr
  clear hq hv r0 b0 hW0 hone ho hpw hpr hB hs
  unfold strV
  go_enter Tryd.func65, Tryd.ntmps65
  go_upto_region 2 with fail
  rw [← HW0.out, ← HPR.out]
  go_wp2_with fail
  refine (show Calls Tryd.prog 82 #[.pointer (some ⟨pr, 0, none⟩), .int .i64 1] W0 _ from HN1.out).mono ?_
  rintro e w1 ⟨rfl, hr1, hk1⟩
  have HB1 : Hid (Below w.heap.size w w1) := rd_kp HB0.out hk1 HB0.out.size (by rw [HPR.out]; exact Nat.le_refl _)
  have HN2 := Lib.hid (rfnum_any pr 8 _ _ (by omega) (by have := HLEN.out; omega) w1 hr1)
  rw [e2] at HN2
  clear hr1 hk1 HN1
  go_wp2_with fail
  refine (show Calls Tryd.prog 82 #[.pointer (some ⟨pr, 0, none⟩), .int .i64 8] w1 _ from HN2.out).mono ?_
  rintro e w2 ⟨rfl, hr2, hk2⟩
  have HB2 : Hid (Below w.heap.size w w2) := rd_kp HB1.out hk2 HB1.out.size (by rw [HPR.out]; exact Nat.le_refl _)
  obtain ⟨c0, c1, f0, f1⟩ := hr2.cells
  have HR2 := Lib.hid hr2
  clear hk2 HN2 hr2
  go_wp2_with fail
  go_ret
  rw [HO.out]
  exact ⟨HB2.out.mono hB2, rfl⟩
set_option maxRecDepth 100000 in
set_option maxHeartbeats 4000000 in
theorem rfread_no4 (B p : Nat) (dp v : Value) (q : Qs) (s : List UInt8) (w : World) (hq : RQueueAt w p dp v q.last false) (hv : w.owns B 38 9 v q.jobs.length (jobsL q.jobs)) (hB : B ≤ p) (hB2 : B ≤ w.heap.size) (ho : q.ok) (hs : s.length ≤ 1000000) {k id : Nat} {s1 s2 : List UInt8} (h1 : takeN s 1 = some (k, s1)) (h2 : takeN s1 8 = some (id, s2)) (hlo : ¬ k < 1) (hhi : 6 < k) (hone : q.one s = none) :
    Calls Tryd.prog 65 #[.pointer (some ⟨p, 0, none⟩), strV s] w (RdP B p dp w (q.one s)) := by
  have hk256 := (takeN_lt h1).1
  have hl1 : s1.length ≤ 1000000 := by rw [(takeN_lt h1).2.1, List.length_drop]; omega
  have hl2 : s2.length ≤ 1000000 := by rw [(takeN_lt h2).2.1, List.length_drop]; omega
  have hid1 : idI k = (k : Int) := by unfold idI; rw [if_pos (by omega)]
  have e1 : numR s 1 = ((k : Int), s1, false) := by unfold numR; rw [h1]; dsimp only; rw [hid1]
  have e2 : numR s1 8 = (idI id, s2, false) := by unfold numR; rw [h2]
  have hlo' : ¬ (k : Int) < 1 := by omega
  have hhi' : (6 : Int) < (k : Int) := by omega
  have HQ := Lib.hid hq
  have HV := Lib.hid hv
  obtain ⟨r0, b0⟩ := rd_new w s
  obtain ⟨W0, hW0⟩ : ∃ W, W = w.alloc (.cells #[.string (bytesOf s), .bool false] 128) := ⟨_, rfl⟩
  rw [← hW0] at r0 b0
  have HW0 := Lib.hid hW0
  have HN1 := Lib.hid (rfnum_any w.heap.size 1 s false (by omega) (by omega) W0 r0)
  rw [e1] at HN1
  have HB0 := Lib.hid b0
  have HO := Lib.hid hone
  have HOK := Lib.hid ho
  have hpw : p < w.heap.size := lt_of_heap hq
  have HLEN : Hid (p < w.heap.size ∧ B ≤ p ∧ s.length ≤ 1000000) := ⟨hpw, hB, hs⟩
  obtain ⟨pr, hpr⟩ : ∃ pr, pr = w.heap.size := ⟨_, rfl⟩
  rw [← hpr] at HN1
  have HPR := Lib.hid hpr
  clear hq hv r0 b0 hW0 hone ho hpw hpr hB hs
  unfold strV
  go_enter Tryd.func65, Tryd.ntmps65
  go_upto_region 2 with fail
  rw [← HW0.out, ← HPR.out]
  go_wp2_with fail
  refine (show Calls Tryd.prog 82 #[.pointer (some ⟨pr, 0, none⟩), .int .i64 1] W0 _ from HN1.out).mono ?_
  rintro e w1 ⟨rfl, hr1, hk1⟩
  have HB1 : Hid (Below w.heap.size w w1) := rd_kp HB0.out hk1 HB0.out.size (by rw [HPR.out]; exact Nat.le_refl _)
  have HN2 := Lib.hid (rfnum_any pr 8 _ _ (by omega) (by have := HLEN.out; omega) w1 hr1)
  rw [e2] at HN2
  clear hr1 hk1 HN1
  go_wp2_with fail
  refine (show Calls Tryd.prog 82 #[.pointer (some ⟨pr, 0, none⟩), .int .i64 8] w1 _ from HN2.out).mono ?_
  rintro e w2 ⟨rfl, hr2, hk2⟩
  have HB2 : Hid (Below w.heap.size w w2) := rd_kp HB1.out hk2 HB1.out.size (by rw [HPR.out]; exact Nat.le_refl _)
  obtain ⟨c0, c1, f0, f1⟩ := hr2.cells
  have HR2 := Lib.hid hr2
  clear hk2 HN2 hr2
  go_wp2_with fail
  go_ret
  rw [HO.out]
  exact ⟨HB2.out.mono hB2, rfl⟩
set_option maxRecDepth 100000 in
set_option maxHeartbeats 4000000 in
theorem rfread_no5 (B p : Nat) (dp v : Value) (q : Qs) (s : List UInt8) (w : World) (hq : RQueueAt w p dp v q.last false) (hv : w.owns B 38 9 v q.jobs.length (jobsL q.jobs)) (hB : B ≤ p) (hB2 : B ≤ w.heap.size) (ho : q.ok) (hs : s.length ≤ 1000000) {k id : Nat} {s1 s2 : List UInt8} (h1 : takeN s 1 = some (k, s1)) (h2 : takeN s1 8 = some (id, s2)) (hlo : ¬ k < 1) (hhi : ¬ 6 < k) (hid : ¬ id < 9223372036854775808) (hone : q.one s = none) :
    Calls Tryd.prog 65 #[.pointer (some ⟨p, 0, none⟩), strV s] w (RdP B p dp w (q.one s)) := by
  have hk256 := (takeN_lt h1).1
  have hl1 : s1.length ≤ 1000000 := by rw [(takeN_lt h1).2.1, List.length_drop]; omega
  have hl2 : s2.length ≤ 1000000 := by rw [(takeN_lt h2).2.1, List.length_drop]; omega
  have hid1 : idI k = (k : Int) := by unfold idI; rw [if_pos (by omega)]
  have e1 : numR s 1 = ((k : Int), s1, false) := by unfold numR; rw [h1]; dsimp only; rw [hid1]
  have e2 : numR s1 8 = (idI id, s2, false) := by unfold numR; rw [h2]
  have hlo' : ¬ (k : Int) < 1 := by omega
  have hhi' : ¬ (6 : Int) < (k : Int) := by omega
  have hid2 : id < 18446744073709551616 := (takeN_lt h2).1
  have hneg : idI id < 0 := by unfold idI; rw [if_neg hid]; omega
  have HQ := Lib.hid hq
  have HV := Lib.hid hv
  obtain ⟨r0, b0⟩ := rd_new w s
  obtain ⟨W0, hW0⟩ : ∃ W, W = w.alloc (.cells #[.string (bytesOf s), .bool false] 128) := ⟨_, rfl⟩
  rw [← hW0] at r0 b0
  have HW0 := Lib.hid hW0
  have HN1 := Lib.hid (rfnum_any w.heap.size 1 s false (by omega) (by omega) W0 r0)
  rw [e1] at HN1
  have HB0 := Lib.hid b0
  have HO := Lib.hid hone
  have HOK := Lib.hid ho
  have hpw : p < w.heap.size := lt_of_heap hq
  have HLEN : Hid (p < w.heap.size ∧ B ≤ p ∧ s.length ≤ 1000000) := ⟨hpw, hB, hs⟩
  obtain ⟨pr, hpr⟩ : ∃ pr, pr = w.heap.size := ⟨_, rfl⟩
  rw [← hpr] at HN1
  have HPR := Lib.hid hpr
  clear hq hv r0 b0 hW0 hone ho hpw hpr hB hs
  unfold strV
  go_enter Tryd.func65, Tryd.ntmps65
  go_upto_region 2 with fail
  rw [← HW0.out, ← HPR.out]
  go_wp2_with fail
  refine (show Calls Tryd.prog 82 #[.pointer (some ⟨pr, 0, none⟩), .int .i64 1] W0 _ from HN1.out).mono ?_
  rintro e w1 ⟨rfl, hr1, hk1⟩
  have HB1 : Hid (Below w.heap.size w w1) := rd_kp HB0.out hk1 HB0.out.size (by rw [HPR.out]; exact Nat.le_refl _)
  have HN2 := Lib.hid (rfnum_any pr 8 _ _ (by omega) (by have := HLEN.out; omega) w1 hr1)
  rw [e2] at HN2
  clear hr1 hk1 HN1
  go_wp2_with fail
  refine (show Calls Tryd.prog 82 #[.pointer (some ⟨pr, 0, none⟩), .int .i64 8] w1 _ from HN2.out).mono ?_
  rintro e w2 ⟨rfl, hr2, hk2⟩
  have HB2 : Hid (Below w.heap.size w w2) := rd_kp HB1.out hk2 HB1.out.size (by rw [HPR.out]; exact Nat.le_refl _)
  obtain ⟨c0, c1, f0, f1⟩ := hr2.cells
  have HR2 := Lib.hid hr2
  clear hk2 HN2 hr2
  go_wp2_with fail
  go_ret
  rw [HO.out]
  exact ⟨HB2.out.mono hB2, rfl⟩
set_option maxRecDepth 100000 in
set_option maxHeartbeats 4000000 in
theorem rfread_no6 (B p : Nat) (dp v : Value) (q : Qs) (s : List UInt8) (w : World) (hq : RQueueAt w p dp v q.last false) (hv : w.owns B 38 9 v q.jobs.length (jobsL q.jobs)) (hB : B ≤ p) (hB2 : B ≤ w.heap.size) (ho : q.ok) (hs : s.length ≤ 1000000) {k id : Nat} {s1 s2 : List UInt8} (h1 : takeN s 1 = some (k, s1)) (h2 : takeN s1 8 = some (id, s2)) (hlo : ¬ k < 1) (hhi : ¬ 6 < k) (hid : id = 0) (h6 : ¬ k = 6) (hone : q.one s = none) :
    Calls Tryd.prog 65 #[.pointer (some ⟨p, 0, none⟩), strV s] w (RdP B p dp w (q.one s)) := by
  have hk256 := (takeN_lt h1).1
  have hl1 : s1.length ≤ 1000000 := by rw [(takeN_lt h1).2.1, List.length_drop]; omega
  have hl2 : s2.length ≤ 1000000 := by rw [(takeN_lt h2).2.1, List.length_drop]; omega
  have hid1 : idI k = (k : Int) := by unfold idI; rw [if_pos (by omega)]
  have e1 : numR s 1 = ((k : Int), s1, false) := by unfold numR; rw [h1]; dsimp only; rw [hid1]
  have e2 : numR s1 8 = (idI id, s2, false) := by unfold numR; rw [h2]
  have hlo' : ¬ (k : Int) < 1 := by omega
  have hhi' : ¬ (6 : Int) < (k : Int) := by omega
  subst hid
  have hneg : idI 0 = 0 := rfl
  rw [hneg] at e2
  have h6' : ¬ (k : Int) = 6 := by omega
  have h6b : ((k : Int) != 6) = true := by simp; omega
  have HQ := Lib.hid hq
  have HV := Lib.hid hv
  obtain ⟨r0, b0⟩ := rd_new w s
  obtain ⟨W0, hW0⟩ : ∃ W, W = w.alloc (.cells #[.string (bytesOf s), .bool false] 128) := ⟨_, rfl⟩
  rw [← hW0] at r0 b0
  have HW0 := Lib.hid hW0
  have HN1 := Lib.hid (rfnum_any w.heap.size 1 s false (by omega) (by omega) W0 r0)
  rw [e1] at HN1
  have HB0 := Lib.hid b0
  have HO := Lib.hid hone
  have HOK := Lib.hid ho
  have hpw : p < w.heap.size := lt_of_heap hq
  have HLEN : Hid (p < w.heap.size ∧ B ≤ p ∧ s.length ≤ 1000000) := ⟨hpw, hB, hs⟩
  obtain ⟨pr, hpr⟩ : ∃ pr, pr = w.heap.size := ⟨_, rfl⟩
  rw [← hpr] at HN1
  have HPR := Lib.hid hpr
  clear hq hv r0 b0 hW0 hone ho hpw hpr hB hs
  unfold strV
  go_enter Tryd.func65, Tryd.ntmps65
  go_upto_region 2 with fail
  rw [← HW0.out, ← HPR.out]
  go_wp2_with fail
  refine (show Calls Tryd.prog 82 #[.pointer (some ⟨pr, 0, none⟩), .int .i64 1] W0 _ from HN1.out).mono ?_
  rintro e w1 ⟨rfl, hr1, hk1⟩
  have HB1 : Hid (Below w.heap.size w w1) := rd_kp HB0.out hk1 HB0.out.size (by rw [HPR.out]; exact Nat.le_refl _)
  have HN2 := Lib.hid (rfnum_any pr 8 _ _ (by omega) (by have := HLEN.out; omega) w1 hr1)
  rw [e2] at HN2
  clear hr1 hk1 HN1
  go_wp2_with fail
  refine (show Calls Tryd.prog 82 #[.pointer (some ⟨pr, 0, none⟩), .int .i64 8] w1 _ from HN2.out).mono ?_
  rintro e w2 ⟨rfl, hr2, hk2⟩
  have HB2 : Hid (Below w.heap.size w w2) := rd_kp HB1.out hk2 HB1.out.size (by rw [HPR.out]; exact Nat.le_refl _)
  obtain ⟨c0, c1, f0, f1⟩ := hr2.cells
  have HR2 := Lib.hid hr2
  clear hk2 HN2 hr2
  go_wp2_with fail
  go_ret
  rw [HO.out]
  exact ⟨HB2.out.mono hB2, rfl⟩
end Go.Proofs.YtoggmplkbiidhaaDoor

/- Walks: the reference's queue of jobs: a record is read. Printed by gen_rc4.py. -/
namespace Go.Proofs.YtoggmplkbiidhaaDoor
set_option linter.all false
open Go.RowKit Go.Shelf
theorem one_of {q : Qs} {s s1 s2 : List UInt8} {k id : Nat} (h1 : takeN s 1 = some (k, s1)) (h2 : takeN s1 8 = some (id, s2)) (hk : 1 ≤ k ∧ k ≤ 6) (hid : id < 9223372036854775808) (h0 : 0 < id ∨ k = 6) :
    q.one s = (rdK k q s2 id).bind fun x => if x.2 = [] then some x.1 else none := by
  unfold Qs.one
  rw [h1, Option.bind_some]
  dsimp only
  rw [if_pos hk, h2, Option.bind_some]
  dsimp only
  rw [if_pos ⟨hid, h0⟩]
theorem empty_eq {s : List UInt8} (h : s = []) : (bytesOf s).toList = [] ∧ ((bytesOf s).toList == []) = true := by
  have e : (bytesOf s).toList = [] := by rw [ByteArray.toList_eq]; exact h
  exact ⟨e, by rw [e]; rfl⟩
theorem empty_ne {s : List UInt8} (h : ¬ s = []) : ¬ (bytesOf s).toList = [] ∧ ((bytesOf s).toList == []) = false := by
  have e : ¬ (bytesOf s).toList = [] := by rw [ByteArray.toList_eq]; exact h
  exact ⟨e, by rw [beq_eq_false_iff_ne]; exact e⟩
set_option maxRecDepth 100000 in
set_option maxHeartbeats 4000000 in
theorem rfread_6z (B p : Nat) (dp v : Value) (q : Qs) (s : List UInt8) (w : World) (hq : RQueueAt w p dp v q.last false) (hv : w.owns B 38 9 v q.jobs.length (jobsL q.jobs)) (hB : B ≤ p) (hB2 : B ≤ w.heap.size) (ho : q.ok) (hs : s.length ≤ 1000000) {id : Nat} {s1 s2 : List UInt8} (h1 : takeN s 1 = some (6, s1)) (h2 : takeN s1 8 = some (id, s2)) (hid : id < 9223372036854775808) (hz : id = 0) :
    Calls Tryd.prog 65 #[.pointer (some ⟨p, 0, none⟩), strV s] w (RdP B p dp w (q.one s)) := by
  have hl1 : s1.length ≤ 1000000 := by rw [(takeN_lt h1).2.1, List.length_drop]; omega
  have hl2 : s2.length ≤ 1000000 := by rw [(takeN_lt h2).2.1, List.length_drop]; omega
  have hidp : idI id = (id : Int) := by unfold idI; rw [if_pos hid]
  have hid1 : idI 6 = (6 : Int) := rfl
  have e1 : numR s 1 = ((6 : Int), s1, false) := by unfold numR; rw [h1]; dsimp only; rw [hid1]
  have e2 : numR s1 8 = ((id : Int), s2, false) := by unfold numR; rw [h2]; dsimp only; rw [hidp]
  have hone0 := one_of (q := q) h1 h2 (by omega) hid (.inr rfl)
  have hn0 : ¬ (id : Int) < 0 := by omega
  have hz' : ((id : Int) == 0) = true := by rw [hz]; rfl
  clear hz
  by_cases he : s2 = []
  · obtain ⟨t1, t2⟩ := empty_eq he
    by_cases hlt : q.last ≤ id
    · have hone : q.one s = some { q with last := id } := by
        rw [hone0]
        unfold rdK rd6
        simp [hlt, he]
      have hlt' : ¬ (id : Int) < (q.last : Int) := by omega
      clear hone0 hlt he
      have HQ := Lib.hid hq
      have HV := Lib.hid hv
      obtain ⟨r0, b0⟩ := rd_new w s
      obtain ⟨W0, hW0⟩ : ∃ W, W = w.alloc (.cells #[.string (bytesOf s), .bool false] 128) := ⟨_, rfl⟩
      rw [← hW0] at r0 b0
      have HW0 := Lib.hid hW0
      have HN1 := Lib.hid (rfnum_any w.heap.size 1 s false (by omega) (by omega) W0 r0)
      rw [e1] at HN1
      have HB0 := Lib.hid b0
      have HO := Lib.hid hone
      have HOK := Lib.hid ho
      have hpw : p < w.heap.size := lt_of_heap hq
      have HLEN : Hid (p < w.heap.size ∧ B ≤ p ∧ s.length ≤ 1000000) := ⟨hpw, hB, hs⟩
      obtain ⟨pr, hpr⟩ : ∃ pr, pr = w.heap.size := ⟨_, rfl⟩
      rw [← hpr] at HN1
      have HPR := Lib.hid hpr
      clear hq hv r0 b0 hW0 hone ho hpw hpr hB hs
      unfold strV
      go_enter Tryd.func65, Tryd.ntmps65
      go_upto_region 2 with fail
      rw [← HW0.out, ← HPR.out]
      go_wp2_with fail
      refine (show Calls Tryd.prog 82 #[.pointer (some ⟨pr, 0, none⟩), .int .i64 1] W0 _ from HN1.out).mono ?_
      rintro e w1 ⟨rfl, hr1, hk1⟩
      have HB1 : Hid (Below w.heap.size w w1) := rd_kp HB0.out hk1 HB0.out.size (by rw [HPR.out]; exact Nat.le_refl _)
      have HN2 := Lib.hid (rfnum_any pr 8 _ _ (by omega) (by have := HLEN.out; omega) w1 hr1)
      rw [e2] at HN2
      clear hr1 hk1 HN1
      go_wp2_with fail
      refine (show Calls Tryd.prog 82 #[.pointer (some ⟨pr, 0, none⟩), .int .i64 8] w1 _ from HN2.out).mono ?_
      rintro e w2 ⟨rfl, hr2, hk2⟩
      have HB2 : Hid (Below w.heap.size w w2) := rd_kp HB1.out hk2 HB1.out.size (by rw [HPR.out]; exact Nat.le_refl _)
      obtain ⟨c0, c1, f0, f1⟩ := hr2.cells
      have HR2 := Lib.hid hr2
      clear hk2 HN2 hr2
      obtain ⟨k0, k1, k2, k3, g1, g2, g3⟩ := (HQ.out.below HB2.out).cells
      have HQ3 := Lib.hid ((HQ.out.below HB2.out).set2 (id : Int))
      have HV3 := Lib.hid ((HV.out.below HB2.out).setCell_ne (a := ⟨p, 2, none⟩) ((HQ.out.below HB2.out).ne (HV.out.below HB2.out)) (.int .i64 (id : Int)))
      go_wp2_with fail
      go_ret
      rw [HO.out]
      exact ⟨(HB2.out.mono hB2).setCell (p := ⟨p, 2, none⟩) HLEN.out.2.1 _, rfl, v, HQ3.out, HV3.out⟩
    · have hone : q.one s = none := by
        rw [hone0]
        unfold rdK rd6
        simp [hlt]
      have hlt' : (id : Int) < (q.last : Int) := by omega
      clear hone0 hlt he
      have HQ := Lib.hid hq
      have HV := Lib.hid hv
      obtain ⟨r0, b0⟩ := rd_new w s
      obtain ⟨W0, hW0⟩ : ∃ W, W = w.alloc (.cells #[.string (bytesOf s), .bool false] 128) := ⟨_, rfl⟩
      rw [← hW0] at r0 b0
      have HW0 := Lib.hid hW0
      have HN1 := Lib.hid (rfnum_any w.heap.size 1 s false (by omega) (by omega) W0 r0)
      rw [e1] at HN1
      have HB0 := Lib.hid b0
      have HO := Lib.hid hone
      have HOK := Lib.hid ho
      have hpw : p < w.heap.size := lt_of_heap hq
      have HLEN : Hid (p < w.heap.size ∧ B ≤ p ∧ s.length ≤ 1000000) := ⟨hpw, hB, hs⟩
      obtain ⟨pr, hpr⟩ : ∃ pr, pr = w.heap.size := ⟨_, rfl⟩
      rw [← hpr] at HN1
      have HPR := Lib.hid hpr
      clear hq hv r0 b0 hW0 hone ho hpw hpr hB hs
      unfold strV
      go_enter Tryd.func65, Tryd.ntmps65
      go_upto_region 2 with fail
      rw [← HW0.out, ← HPR.out]
      go_wp2_with fail
      refine (show Calls Tryd.prog 82 #[.pointer (some ⟨pr, 0, none⟩), .int .i64 1] W0 _ from HN1.out).mono ?_
      rintro e w1 ⟨rfl, hr1, hk1⟩
      have HB1 : Hid (Below w.heap.size w w1) := rd_kp HB0.out hk1 HB0.out.size (by rw [HPR.out]; exact Nat.le_refl _)
      have HN2 := Lib.hid (rfnum_any pr 8 _ _ (by omega) (by have := HLEN.out; omega) w1 hr1)
      rw [e2] at HN2
      clear hr1 hk1 HN1
      go_wp2_with fail
      refine (show Calls Tryd.prog 82 #[.pointer (some ⟨pr, 0, none⟩), .int .i64 8] w1 _ from HN2.out).mono ?_
      rintro e w2 ⟨rfl, hr2, hk2⟩
      have HB2 : Hid (Below w.heap.size w w2) := rd_kp HB1.out hk2 HB1.out.size (by rw [HPR.out]; exact Nat.le_refl _)
      obtain ⟨c0, c1, f0, f1⟩ := hr2.cells
      have HR2 := Lib.hid hr2
      clear hk2 HN2 hr2
      obtain ⟨k0, k1, k2, k3, g1, g2, g3⟩ := (HQ.out.below HB2.out).cells
      go_wp2_with fail
      go_ret
      rw [HO.out]
      exact ⟨HB2.out.mono hB2, rfl⟩
  · obtain ⟨t1, t2⟩ := empty_ne he
    have hone : q.one s = none := by
      rw [hone0]
      unfold rdK rd6
      by_cases hlt : q.last ≤ id <;> simp [hlt, he]
    clear hone0 he
    have HQ := Lib.hid hq
    have HV := Lib.hid hv
    obtain ⟨r0, b0⟩ := rd_new w s
    obtain ⟨W0, hW0⟩ : ∃ W, W = w.alloc (.cells #[.string (bytesOf s), .bool false] 128) := ⟨_, rfl⟩
    rw [← hW0] at r0 b0
    have HW0 := Lib.hid hW0
    have HN1 := Lib.hid (rfnum_any w.heap.size 1 s false (by omega) (by omega) W0 r0)
    rw [e1] at HN1
    have HB0 := Lib.hid b0
    have HO := Lib.hid hone
    have HOK := Lib.hid ho
    have hpw : p < w.heap.size := lt_of_heap hq
    have HLEN : Hid (p < w.heap.size ∧ B ≤ p ∧ s.length ≤ 1000000) := ⟨hpw, hB, hs⟩
    obtain ⟨pr, hpr⟩ : ∃ pr, pr = w.heap.size := ⟨_, rfl⟩
    rw [← hpr] at HN1
    have HPR := Lib.hid hpr
    clear hq hv r0 b0 hW0 hone ho hpw hpr hB hs
    unfold strV
    go_enter Tryd.func65, Tryd.ntmps65
    go_upto_region 2 with fail
    rw [← HW0.out, ← HPR.out]
    go_wp2_with fail
    refine (show Calls Tryd.prog 82 #[.pointer (some ⟨pr, 0, none⟩), .int .i64 1] W0 _ from HN1.out).mono ?_
    rintro e w1 ⟨rfl, hr1, hk1⟩
    have HB1 : Hid (Below w.heap.size w w1) := rd_kp HB0.out hk1 HB0.out.size (by rw [HPR.out]; exact Nat.le_refl _)
    have HN2 := Lib.hid (rfnum_any pr 8 _ _ (by omega) (by have := HLEN.out; omega) w1 hr1)
    rw [e2] at HN2
    clear hr1 hk1 HN1
    go_wp2_with fail
    refine (show Calls Tryd.prog 82 #[.pointer (some ⟨pr, 0, none⟩), .int .i64 8] w1 _ from HN2.out).mono ?_
    rintro e w2 ⟨rfl, hr2, hk2⟩
    have HB2 : Hid (Below w.heap.size w w2) := rd_kp HB1.out hk2 HB1.out.size (by rw [HPR.out]; exact Nat.le_refl _)
    obtain ⟨c0, c1, f0, f1⟩ := hr2.cells
    have HR2 := Lib.hid hr2
    clear hk2 HN2 hr2
    obtain ⟨k0, k1, k2, k3, g1, g2, g3⟩ := (HQ.out.below HB2.out).cells
    go_wp2_with fail
    go_ret
    rw [HO.out]
    exact ⟨HB2.out.mono hB2, rfl⟩
set_option maxRecDepth 100000 in
set_option maxHeartbeats 4000000 in
theorem rfread_6n (B p : Nat) (dp v : Value) (q : Qs) (s : List UInt8) (w : World) (hq : RQueueAt w p dp v q.last false) (hv : w.owns B 38 9 v q.jobs.length (jobsL q.jobs)) (hB : B ≤ p) (hB2 : B ≤ w.heap.size) (ho : q.ok) (hs : s.length ≤ 1000000) {id : Nat} {s1 s2 : List UInt8} (h1 : takeN s 1 = some (6, s1)) (h2 : takeN s1 8 = some (id, s2)) (hid : id < 9223372036854775808) (hz : ¬ id = 0) :
    Calls Tryd.prog 65 #[.pointer (some ⟨p, 0, none⟩), strV s] w (RdP B p dp w (q.one s)) := by
  have hl1 : s1.length ≤ 1000000 := by rw [(takeN_lt h1).2.1, List.length_drop]; omega
  have hl2 : s2.length ≤ 1000000 := by rw [(takeN_lt h2).2.1, List.length_drop]; omega
  have hidp : idI id = (id : Int) := by unfold idI; rw [if_pos hid]
  have hid1 : idI 6 = (6 : Int) := rfl
  have e1 : numR s 1 = ((6 : Int), s1, false) := by unfold numR; rw [h1]; dsimp only; rw [hid1]
  have e2 : numR s1 8 = ((id : Int), s2, false) := by unfold numR; rw [h2]; dsimp only; rw [hidp]
  have hone0 := one_of (q := q) h1 h2 (by omega) hid (.inr rfl)
  have hn0 : ¬ (id : Int) < 0 := by omega
  have hz' : ((id : Int) == 0) = false := by rw [beq_eq_false_iff_ne]; omega
  clear hz
  by_cases he : s2 = []
  · obtain ⟨t1, t2⟩ := empty_eq he
    by_cases hlt : q.last ≤ id
    · have hone : q.one s = some { q with last := id } := by
        rw [hone0]
        unfold rdK rd6
        simp [hlt, he]
      have hlt' : ¬ (id : Int) < (q.last : Int) := by omega
      clear hone0 hlt he
      have HQ := Lib.hid hq
      have HV := Lib.hid hv
      obtain ⟨r0, b0⟩ := rd_new w s
      obtain ⟨W0, hW0⟩ : ∃ W, W = w.alloc (.cells #[.string (bytesOf s), .bool false] 128) := ⟨_, rfl⟩
      rw [← hW0] at r0 b0
      have HW0 := Lib.hid hW0
      have HN1 := Lib.hid (rfnum_any w.heap.size 1 s false (by omega) (by omega) W0 r0)
      rw [e1] at HN1
      have HB0 := Lib.hid b0
      have HO := Lib.hid hone
      have HOK := Lib.hid ho
      have hpw : p < w.heap.size := lt_of_heap hq
      have HLEN : Hid (p < w.heap.size ∧ B ≤ p ∧ s.length ≤ 1000000) := ⟨hpw, hB, hs⟩
      obtain ⟨pr, hpr⟩ : ∃ pr, pr = w.heap.size := ⟨_, rfl⟩
      rw [← hpr] at HN1
      have HPR := Lib.hid hpr
      clear hq hv r0 b0 hW0 hone ho hpw hpr hB hs
      unfold strV
      go_enter Tryd.func65, Tryd.ntmps65
      go_upto_region 2 with fail
      rw [← HW0.out, ← HPR.out]
      go_wp2_with fail
      refine (show Calls Tryd.prog 82 #[.pointer (some ⟨pr, 0, none⟩), .int .i64 1] W0 _ from HN1.out).mono ?_
      rintro e w1 ⟨rfl, hr1, hk1⟩
      have HB1 : Hid (Below w.heap.size w w1) := rd_kp HB0.out hk1 HB0.out.size (by rw [HPR.out]; exact Nat.le_refl _)
      have HN2 := Lib.hid (rfnum_any pr 8 _ _ (by omega) (by have := HLEN.out; omega) w1 hr1)
      rw [e2] at HN2
      clear hr1 hk1 HN1
      go_wp2_with fail
      refine (show Calls Tryd.prog 82 #[.pointer (some ⟨pr, 0, none⟩), .int .i64 8] w1 _ from HN2.out).mono ?_
      rintro e w2 ⟨rfl, hr2, hk2⟩
      have HB2 : Hid (Below w.heap.size w w2) := rd_kp HB1.out hk2 HB1.out.size (by rw [HPR.out]; exact Nat.le_refl _)
      obtain ⟨c0, c1, f0, f1⟩ := hr2.cells
      have HR2 := Lib.hid hr2
      clear hk2 HN2 hr2
      obtain ⟨k0, k1, k2, k3, g1, g2, g3⟩ := (HQ.out.below HB2.out).cells
      have HQ3 := Lib.hid ((HQ.out.below HB2.out).set2 (id : Int))
      have HV3 := Lib.hid ((HV.out.below HB2.out).setCell_ne (a := ⟨p, 2, none⟩) ((HQ.out.below HB2.out).ne (HV.out.below HB2.out)) (.int .i64 (id : Int)))
      go_wp2_with fail
      go_ret
      rw [HO.out]
      exact ⟨(HB2.out.mono hB2).setCell (p := ⟨p, 2, none⟩) HLEN.out.2.1 _, rfl, v, HQ3.out, HV3.out⟩
    · have hone : q.one s = none := by
        rw [hone0]
        unfold rdK rd6
        simp [hlt]
      have hlt' : (id : Int) < (q.last : Int) := by omega
      clear hone0 hlt he
      have HQ := Lib.hid hq
      have HV := Lib.hid hv
      obtain ⟨r0, b0⟩ := rd_new w s
      obtain ⟨W0, hW0⟩ : ∃ W, W = w.alloc (.cells #[.string (bytesOf s), .bool false] 128) := ⟨_, rfl⟩
      rw [← hW0] at r0 b0
      have HW0 := Lib.hid hW0
      have HN1 := Lib.hid (rfnum_any w.heap.size 1 s false (by omega) (by omega) W0 r0)
      rw [e1] at HN1
      have HB0 := Lib.hid b0
      have HO := Lib.hid hone
      have HOK := Lib.hid ho
      have hpw : p < w.heap.size := lt_of_heap hq
      have HLEN : Hid (p < w.heap.size ∧ B ≤ p ∧ s.length ≤ 1000000) := ⟨hpw, hB, hs⟩
      obtain ⟨pr, hpr⟩ : ∃ pr, pr = w.heap.size := ⟨_, rfl⟩
      rw [← hpr] at HN1
      have HPR := Lib.hid hpr
      clear hq hv r0 b0 hW0 hone ho hpw hpr hB hs
      unfold strV
      go_enter Tryd.func65, Tryd.ntmps65
      go_upto_region 2 with fail
      rw [← HW0.out, ← HPR.out]
      go_wp2_with fail
      refine (show Calls Tryd.prog 82 #[.pointer (some ⟨pr, 0, none⟩), .int .i64 1] W0 _ from HN1.out).mono ?_
      rintro e w1 ⟨rfl, hr1, hk1⟩
      have HB1 : Hid (Below w.heap.size w w1) := rd_kp HB0.out hk1 HB0.out.size (by rw [HPR.out]; exact Nat.le_refl _)
      have HN2 := Lib.hid (rfnum_any pr 8 _ _ (by omega) (by have := HLEN.out; omega) w1 hr1)
      rw [e2] at HN2
      clear hr1 hk1 HN1
      go_wp2_with fail
      refine (show Calls Tryd.prog 82 #[.pointer (some ⟨pr, 0, none⟩), .int .i64 8] w1 _ from HN2.out).mono ?_
      rintro e w2 ⟨rfl, hr2, hk2⟩
      have HB2 : Hid (Below w.heap.size w w2) := rd_kp HB1.out hk2 HB1.out.size (by rw [HPR.out]; exact Nat.le_refl _)
      obtain ⟨c0, c1, f0, f1⟩ := hr2.cells
      have HR2 := Lib.hid hr2
      clear hk2 HN2 hr2
      obtain ⟨k0, k1, k2, k3, g1, g2, g3⟩ := (HQ.out.below HB2.out).cells
      go_wp2_with fail
      go_ret
      rw [HO.out]
      exact ⟨HB2.out.mono hB2, rfl⟩
  · obtain ⟨t1, t2⟩ := empty_ne he
    have hone : q.one s = none := by
      rw [hone0]
      unfold rdK rd6
      by_cases hlt : q.last ≤ id <;> simp [hlt, he]
    clear hone0 he
    have HQ := Lib.hid hq
    have HV := Lib.hid hv
    obtain ⟨r0, b0⟩ := rd_new w s
    obtain ⟨W0, hW0⟩ : ∃ W, W = w.alloc (.cells #[.string (bytesOf s), .bool false] 128) := ⟨_, rfl⟩
    rw [← hW0] at r0 b0
    have HW0 := Lib.hid hW0
    have HN1 := Lib.hid (rfnum_any w.heap.size 1 s false (by omega) (by omega) W0 r0)
    rw [e1] at HN1
    have HB0 := Lib.hid b0
    have HO := Lib.hid hone
    have HOK := Lib.hid ho
    have hpw : p < w.heap.size := lt_of_heap hq
    have HLEN : Hid (p < w.heap.size ∧ B ≤ p ∧ s.length ≤ 1000000) := ⟨hpw, hB, hs⟩
    obtain ⟨pr, hpr⟩ : ∃ pr, pr = w.heap.size := ⟨_, rfl⟩
    rw [← hpr] at HN1
    have HPR := Lib.hid hpr
    clear hq hv r0 b0 hW0 hone ho hpw hpr hB hs
    unfold strV
    go_enter Tryd.func65, Tryd.ntmps65
    go_upto_region 2 with fail
    rw [← HW0.out, ← HPR.out]
    go_wp2_with fail
    refine (show Calls Tryd.prog 82 #[.pointer (some ⟨pr, 0, none⟩), .int .i64 1] W0 _ from HN1.out).mono ?_
    rintro e w1 ⟨rfl, hr1, hk1⟩
    have HB1 : Hid (Below w.heap.size w w1) := rd_kp HB0.out hk1 HB0.out.size (by rw [HPR.out]; exact Nat.le_refl _)
    have HN2 := Lib.hid (rfnum_any pr 8 _ _ (by omega) (by have := HLEN.out; omega) w1 hr1)
    rw [e2] at HN2
    clear hr1 hk1 HN1
    go_wp2_with fail
    refine (show Calls Tryd.prog 82 #[.pointer (some ⟨pr, 0, none⟩), .int .i64 8] w1 _ from HN2.out).mono ?_
    rintro e w2 ⟨rfl, hr2, hk2⟩
    have HB2 : Hid (Below w.heap.size w w2) := rd_kp HB1.out hk2 HB1.out.size (by rw [HPR.out]; exact Nat.le_refl _)
    obtain ⟨c0, c1, f0, f1⟩ := hr2.cells
    have HR2 := Lib.hid hr2
    clear hk2 HN2 hr2
    obtain ⟨k0, k1, k2, k3, g1, g2, g3⟩ := (HQ.out.below HB2.out).cells
    go_wp2_with fail
    go_ret
    rw [HO.out]
    exact ⟨HB2.out.mono hB2, rfl⟩
end Go.Proofs.YtoggmplkbiidhaaDoor

/- Walks: the reference's queue of jobs: a record is read. Printed by gen_rc4.py. -/
namespace Go.Proofs.YtoggmplkbiidhaaDoor
set_option linter.all false
open Go.RowKit Go.Shelf
theorem RdAt.below {w w' : World} {p : Nat} {s : List UInt8} {bad : Bool} (h : RdAt w p s bad) (hb : Below w.heap.size w w') : RdAt w' p s bad := (hb.block _ h.lt).trans h
theorem at_int (js : List Jb) (id : Nat) : (js.findIdx? fun j => decide ((j.id : Int) = (id : Int))) = js.findIdx? fun j => decide (j.id = id) := by
  congr 1
  funext j
  by_cases h : j.id = id
  · rw [decide_eq_true h, decide_eq_true (by omega)]
  · rw [decide_eq_false h, decide_eq_false (by omega)]
set_option maxRecDepth 100000 in
set_option maxHeartbeats 4000000 in
theorem rfread_at (B p : Nat) (dp v : Value) (q : Qs) (s : List UInt8) (w : World) (hq : RQueueAt w p dp v q.last false) (hv : w.owns B 38 9 v q.jobs.length (jobsL q.jobs)) (hB : B ≤ p) (hB2 : B ≤ w.heap.size) (ho : q.ok) (hs : s.length ≤ 1000000) {k id : Nat} {s1 s2 : List UInt8} (h1 : takeN s 1 = some (k, s1)) (h2 : takeN s1 8 = some (id, s2)) (hid : id < 9223372036854775808) (hz : ¬ id = 0) (hlo : 1 < k) (hhi : k < 6) (hat : q.at id = none) :
    Calls Tryd.prog 65 #[.pointer (some ⟨p, 0, none⟩), strV s] w (RdP B p dp w (q.one s)) := by
  have hk256 := (takeN_lt h1).1
  have hl1 : s1.length ≤ 1000000 := by rw [(takeN_lt h1).2.1, List.length_drop]; omega
  have hl2 : s2.length ≤ 1000000 := by rw [(takeN_lt h2).2.1, List.length_drop]; omega
  have hidp : idI id = (id : Int) := by unfold idI; rw [if_pos hid]
  have hid1 : idI k = (k : Int) := by unfold idI; rw [if_pos (by omega)]
  have e1 : numR s 1 = ((k : Int), s1, false) := by unfold numR; rw [h1]; dsimp only; rw [hid1]
  have e2 : numR s1 8 = ((id : Int), s2, false) := by unfold numR; rw [h2]; dsimp only; rw [hidp]
  have hn0 : ¬ (id : Int) < 0 := by omega
  have hz' : ((id : Int) == 0) = false := by rw [beq_eq_false_iff_ne]; omega
  have hone : q.one s = none := by
    rw [one_of (q := q) h1 h2 (by omega) hid (.inl (by omega))]
    unfold rdK rd2 rd3 rd4 rd5
    rw [if_neg (show ¬ k = 1 by omega), if_neg (show ¬ k = 6 by omega), hat]
    simp only [Option.bind_none]
    split <;> (try split) <;> (try split) <;> (try split) <;> rfl
  have hlo' : ¬ (k : Int) < 1 := by omega
  have hhi' : ¬ (6 : Int) < (k : Int) := by omega
  have hk1' : ((k : Int) == 1) = false := by rw [beq_eq_false_iff_ne]; omega
  have hk6' : ((k : Int) == 6) = false := by rw [beq_eq_false_iff_ne]; omega
  have HAT := Lib.hid hat
  clear hlo hhi hz hat
  have HQ := Lib.hid hq
  have HV := Lib.hid hv
  obtain ⟨r0, b0⟩ := rd_new w s
  obtain ⟨W0, hW0⟩ : ∃ W, W = w.alloc (.cells #[.string (bytesOf s), .bool false] 128) := ⟨_, rfl⟩
  rw [← hW0] at r0 b0
  have HW0 := Lib.hid hW0
  have HN1 := Lib.hid (rfnum_any w.heap.size 1 s false (by omega) (by omega) W0 r0)
  rw [e1] at HN1
  have HB0 := Lib.hid b0
  have HO := Lib.hid hone
  have HOK := Lib.hid ho
  have hpw : p < w.heap.size := lt_of_heap hq
  have HLEN : Hid (p < w.heap.size ∧ B ≤ p ∧ s.length ≤ 1000000) := ⟨hpw, hB, hs⟩
  obtain ⟨pr, hpr⟩ : ∃ pr, pr = w.heap.size := ⟨_, rfl⟩
  rw [← hpr] at HN1
  have HPR := Lib.hid hpr
  clear hq hv r0 b0 hW0 hone ho hpw hpr hB hs
  unfold strV
  go_enter Tryd.func65, Tryd.ntmps65
  go_upto_region 2 with fail
  rw [← HW0.out, ← HPR.out]
  go_wp2_with fail
  refine (show Calls Tryd.prog 82 #[.pointer (some ⟨pr, 0, none⟩), .int .i64 1] W0 _ from HN1.out).mono ?_
  rintro e w1 ⟨rfl, hr1, hk1⟩
  have HB1 : Hid (Below w.heap.size w w1) := rd_kp HB0.out hk1 HB0.out.size (by rw [HPR.out]; exact Nat.le_refl _)
  have HN2 := Lib.hid (rfnum_any pr 8 _ _ (by omega) (by have := HLEN.out; omega) w1 hr1)
  rw [e2] at HN2
  clear hr1 hk1 HN1
  go_wp2_with fail
  refine (show Calls Tryd.prog 82 #[.pointer (some ⟨pr, 0, none⟩), .int .i64 8] w1 _ from HN2.out).mono ?_
  rintro e w2 ⟨rfl, hr2, hk2⟩
  have HB2 : Hid (Below w.heap.size w w2) := rd_kp HB1.out hk2 HB1.out.size (by rw [HPR.out]; exact Nat.le_refl _)
  obtain ⟨c0, c1, f0, f1⟩ := hr2.cells
  have HR2 := Lib.hid hr2
  clear hk2 HN2 hr2
  obtain ⟨k0, k1, k2, k3, g1, g2, g3⟩ := (HQ.out.below HB2.out).cells
  have HA := Lib.hid (rfat_any p dp v q.last false q.jobs (id : Int) w2 (HQ.out.below HB2.out) (World.owns.mono (HV.out.below HB2.out) (Nat.zero_le _)) (by have := HOK.out.len; omega))
  rw [at_int, show (q.jobs.findIdx? fun j => decide (j.id = id)) = none from HAT.out] at HA
  rw [show placeI none = -1 from rfl] at HA
  go_wp2_with fail
  refine HA.out.mono ?_
  rintro e w3 ⟨rfl, rfl⟩
  go_wp2_with fail
  go_ret
  rw [HO.out]
  exact ⟨HB2.out.mono hB2, rfl⟩
theorem numR_len (s : List UInt8) (m : Nat) : (numR s m).2.1.length ≤ s.length := by
  unfold numR takeN
  split <;> rename_i h
  · split at h
    · injection h with h; subst h; show (s.drop m).length ≤ _; rw [List.length_drop]; omega
    · cases h
  · exact Nat.zero_le _
theorem textR_len (s : List UInt8) (m : Nat) : (textR s m).2.1.length ≤ s.length := by
  unfold textR takeT
  cases h : takeN s 4 with
  | none => exact Nat.zero_le _
  | some x =>
    have := (takeN_lt (n := x.1) (r := x.2) (by rw [h])).2.1
    rw [Option.bind_some]
    split <;> rename_i h2
    · split at h2
      · injection h2 with h2; subst h2; show (x.2.drop x.1).length ≤ _; rw [List.length_drop, this, List.length_drop]; omega
      · cases h2
    · exact Nat.zero_le _
end Go.Proofs.YtoggmplkbiidhaaDoor

/- Walks: the reference's queue of jobs: a record is read. Printed by gen_rc4.py. -/
namespace Go.Proofs.YtoggmplkbiidhaaDoor
set_option linter.all false
open Go.RowKit Go.Shelf
theorem rd1_of {q : Qs} {s2 : List UInt8} {id : Nat} {n1 : Int} {r1 c r2 t r3 wk r4 : List UInt8} {b1 b2 b3 b4 : Bool} (h1 : (n1, r1, b1) = numR s2 1) (h2 : (c, r2, b2) = textR r1 32) (h3 : (t, r3, b3) = textR r2 32) (h4 : (wk, r4, b4) = textR r3 60000) :
    ((b1 || b2 || b3 || b4) = true → rd1 q s2 id = none) ∧ ((b1 || b2 || b3 || b4) = false → ∃ n : Nat, n1 = (n : Int) ∧ rd1 q s2 id =
      if n ≤ 9 ∧ labelB c = true ∧ labelB t = true ∧ q.last < id ∧ q.named c t = none ∧ q.jobs.length < 100 then some (⟨q.jobs ++ [⟨id, c, t, n, 1, 0, wk, [], []⟩], id⟩, r4) else none) := by
  unfold rd1
  unfold numR at h1
  cases e1 : takeN s2 1 with
  | none =>
    rw [e1] at h1
    injection h1 with h11 h12
    injection h12 with h12 h13
    subst h13
    exact ⟨fun _ => rfl, fun z => by simp at z⟩
  | some x1 =>
    obtain ⟨n, ra⟩ := x1
    rw [e1] at h1
    have hn := (takeN_lt e1).1
    injection h1 with h11 h12
    injection h12 with h12 h13
    dsimp only at h11 h12
    subst h12 h13
    have hn1 : n1 = (n : Int) := by rw [h11]; unfold idI; rw [if_pos (by omega)]
    unfold textR at h2
    dsimp only [Option.bind_some]
    cases e2 : takeT r1 32 with
    | none =>
      rw [e2] at h2
      injection h2 with h21 h22
      injection h22 with h22 h23
      subst h23
      exact ⟨fun _ => rfl, fun z => by simp at z⟩
    | some x2 =>
      obtain ⟨ca, rb⟩ := x2
      rw [e2] at h2
      injection h2 with h21 h22
      injection h22 with h22 h23
      dsimp only at h21 h22
      subst h21 h22 h23
      unfold textR at h3
      dsimp only [Option.bind_some]
      cases e3 : takeT r2 32 with
      | none =>
        rw [e3] at h3
        injection h3 with h31 h32
        injection h32 with h32 h33
        subst h33
        exact ⟨fun _ => rfl, fun z => by simp at z⟩
      | some x3 =>
        obtain ⟨ta, rc⟩ := x3
        rw [e3] at h3
        injection h3 with h31 h32
        injection h32 with h32 h33
        dsimp only at h31 h32
        subst h31 h32 h33
        unfold textR at h4
        dsimp only [Option.bind_some]
        cases e4 : takeT r3 60000 with
        | none =>
          rw [e4] at h4
          injection h4 with h41 h42
          injection h42 with h42 h43
          subst h43
          exact ⟨fun _ => rfl, fun z => by simp at z⟩
        | some x4 =>
          obtain ⟨ka, rd⟩ := x4
          rw [e4] at h4
          injection h4 with h41 h42
          injection h42 with h42 h43
          dsimp only at h41 h42
          subst h41 h42 h43
          exact ⟨fun z => by simp at z, fun _ => ⟨n, hn1, rfl⟩⟩
end Go.Proofs.YtoggmplkbiidhaaDoor

/- Walks: the reference's queue of jobs: a record is read. Printed by gen_rc4.py. -/
namespace Go.Proofs.YtoggmplkbiidhaaDoor
set_option linter.all false
open Go.RowKit Go.Shelf
set_option maxRecDepth 100000 in
set_option maxHeartbeats 4000000 in
theorem rfread_1 (B p : Nat) (dp v : Value) (q : Qs) (s : List UInt8) (w : World) (hq : RQueueAt w p dp v q.last false) (hv : w.owns B 38 9 v q.jobs.length (jobsL q.jobs)) (hB : B ≤ p) (hB2 : B ≤ w.heap.size) (ho : q.ok) (hs : s.length ≤ 1000000) {id : Nat} {s1 s2 : List UInt8} (h1 : takeN s 1 = some (1, s1)) (h2 : takeN s1 8 = some (id, s2)) (hid : id < 9223372036854775808) (hz : ¬ id = 0) :
    Calls Tryd.prog 65 #[.pointer (some ⟨p, 0, none⟩), strV s] w (RdP B p dp w (q.one s)) := by
  have hl1 : s1.length ≤ 1000000 := by rw [(takeN_lt h1).2.1, List.length_drop]; omega
  have hl2 : s2.length ≤ 1000000 := by rw [(takeN_lt h2).2.1, List.length_drop]; omega
  have hidp : idI id = (id : Int) := by unfold idI; rw [if_pos hid]
  have hid1 : idI 1 = (1 : Int) := rfl
  have e1 : numR s 1 = ((1 : Int), s1, false) := by unfold numR; rw [h1]; dsimp only; rw [hid1]
  have e2 : numR s1 8 = ((id : Int), s2, false) := by unfold numR; rw [h2]; dsimp only; rw [hidp]
  have hn0 : ¬ (id : Int) < 0 := by omega
  have hz' : ((id : Int) == 0) = false := by rw [beq_eq_false_iff_ne]; omega
  have hone := one_of (q := q) h1 h2 (by omega) hid (.inl (by omega))
  obtain ⟨⟨n1, r1, b1⟩, hx1⟩ : ∃ x, x = numR s2 1 := ⟨_, rfl⟩
  obtain ⟨⟨c, r2, b2⟩, hx2⟩ : ∃ x, x = textR r1 32 := ⟨_, rfl⟩
  obtain ⟨⟨t, r3, b3⟩, hx3⟩ : ∃ x, x = textR r2 32 := ⟨_, rfl⟩
  obtain ⟨⟨wk, r4, b4⟩, hx4⟩ : ∃ x, x = textR r3 60000 := ⟨_, rfl⟩
  have HXL : Hid (r1.length ≤ 1000000 ∧ r2.length ≤ 1000000 ∧ r3.length ≤ 1000000 ∧ r4.length ≤ 1000000) := by
    have a1 := numR_len s2 1
    have a2 := textR_len r1 32
    have a3 := textR_len r2 32
    have a4 := textR_len r3 60000
    rw [← hx1] at a1
    rw [← hx2] at a2
    rw [← hx3] at a3
    rw [← hx4] at a4
    dsimp only at a1 a2 a3 a4
    exact ⟨by omega, by omega, by omega, by omega⟩
  have HX1 := Lib.hid hx1
  have HX2 := Lib.hid hx2
  have HX3 := Lib.hid hx3
  have HX4 := Lib.hid hx4
  clear hx1 hx2 hx3 hx4
  have HQ := Lib.hid hq
  have HV := Lib.hid hv
  obtain ⟨r0, b0⟩ := rd_new w s
  obtain ⟨W0, hW0⟩ : ∃ W, W = w.alloc (.cells #[.string (bytesOf s), .bool false] 128) := ⟨_, rfl⟩
  rw [← hW0] at r0 b0
  have HW0 := Lib.hid hW0
  have HN1 := Lib.hid (rfnum_any w.heap.size 1 s false (by omega) (by omega) W0 r0)
  rw [e1] at HN1
  have HB0 := Lib.hid b0
  have HOK := Lib.hid ho
  have hpw : p < w.heap.size := lt_of_heap hq
  have HLEN : Hid (p < w.heap.size ∧ B ≤ p ∧ s.length ≤ 1000000) := ⟨hpw, hB, hs⟩
  obtain ⟨pr, hpr⟩ : ∃ pr, pr = w.heap.size := ⟨_, rfl⟩
  rw [← hpr] at HN1
  have HPR := Lib.hid hpr
  clear hq hv r0 b0 hW0 ho hpw hpr hB hs
  unfold strV
  go_enter Tryd.func65, Tryd.ntmps65
  go_upto_region 2 with fail
  rw [← HW0.out, ← HPR.out]
  go_wp2_with fail
  refine (show Calls Tryd.prog 82 #[.pointer (some ⟨pr, 0, none⟩), .int .i64 1] W0 _ from HN1.out).mono ?_
  rintro e w1 ⟨rfl, hr1, hk1⟩
  have HB1 : Hid (Below w.heap.size w w1) := rd_kp HB0.out hk1 HB0.out.size (by rw [HPR.out]; exact Nat.le_refl _)
  have HN2 := Lib.hid (rfnum_any pr 8 _ _ (by omega) (by have := HLEN.out; omega) w1 hr1)
  rw [e2] at HN2
  clear hr1 hk1 HN1
  go_wp2_with fail
  refine (show Calls Tryd.prog 82 #[.pointer (some ⟨pr, 0, none⟩), .int .i64 8] w1 _ from HN2.out).mono ?_
  rintro e w2 ⟨rfl, hr2, hk2⟩
  have HB2 : Hid (Below w.heap.size w w2) := rd_kp HB1.out hk2 HB1.out.size (by rw [HPR.out]; exact Nat.le_refl _)
  obtain ⟨c0, c1, f0, f1⟩ := hr2.cells
  have HR2 := Lib.hid hr2
  clear hk2 HN2 hr2
  have HN3 := Lib.hid (rfnum_any pr 1 s2 false (by omega) (by omega) w2 HR2.out)
  rw [← HX1.out] at HN3
  dsimp only at HN3
  go_wp2_with fail
  refine (show Calls Tryd.prog 82 #[.pointer (some ⟨pr, 0, none⟩), .int .i64 1] w2 _ from HN3.out).mono ?_
  rintro e w3 ⟨rfl, hr3, hk3⟩
  clear c0 c1 f0 f1 HR2
  have HB3 : Hid (Below w.heap.size w w3) := rd_kp HB2.out hk3 HB2.out.size (by rw [HPR.out]; exact Nat.le_refl _)
  have HN4 := Lib.hid (rftext_any pr 32 _ _ (by omega) (by have := HXL.out; omega) w3 hr3)
  rw [← HX2.out] at HN4
  unfold strV at HN4
  dsimp only at HN4
  clear hr3 hk3 HN3
  go_wp2_with fail
  refine (show Calls Tryd.prog 83 #[.pointer (some ⟨pr, 0, none⟩), .int .i64 32] w3 _ from HN4.out).mono ?_
  rintro e w4 ⟨rfl, hr4, hk4⟩
  have HB4 : Hid (Below w.heap.size w w4) := rd_kp HB3.out hk4 HB3.out.size (by rw [HPR.out]; exact Nat.le_refl _)
  have HN5 := Lib.hid (rftext_any pr 32 _ _ (by omega) (by have := HXL.out; omega) w4 hr4)
  rw [← HX3.out] at HN5
  unfold strV at HN5
  dsimp only at HN5
  clear hr4 hk4 HN4
  go_wp2_with fail
  refine (show Calls Tryd.prog 83 #[.pointer (some ⟨pr, 0, none⟩), .int .i64 32] w4 _ from HN5.out).mono ?_
  rintro e w5 ⟨rfl, hr5, hk5⟩
  have HB5 : Hid (Below w.heap.size w w5) := rd_kp HB4.out hk5 HB4.out.size (by rw [HPR.out]; exact Nat.le_refl _)
  have HN6 := Lib.hid (rftext_any pr 60000 _ _ (by omega) (by have := HXL.out; omega) w5 hr5)
  rw [← HX4.out] at HN6
  unfold strV at HN6
  dsimp only at HN6
  clear hr5 hk5 HN5
  go_wp2_with fail
  refine (show Calls Tryd.prog 83 #[.pointer (some ⟨pr, 0, none⟩), .int .i64 60000] w5 _ from HN6.out).mono ?_
  rintro e w6 ⟨rfl, hr6, hk6⟩
  have HB6 : Hid (Below w.heap.size w w6) := rd_kp HB5.out hk6 HB5.out.size (by rw [HPR.out]; exact Nat.le_refl _)
  go_upto_region 8 with fail
  obtain ⟨va, vc, rfl⟩ : ∃ a c, v = .slice a q.jobs.length c := by
    rcases HV.out.2 with ⟨e, h0⟩ | ⟨g, c, _, _, e, _⟩
    · exact ⟨none, 0, by rw [e, h0]⟩
    · exact ⟨_, c, e⟩
  obtain ⟨W7, hW7⟩ : ∃ W, W = w6.alloc (.cells #[.int .i64 (id : Int), .string (bytesOf c), .string (bytesOf t), .int .i64 n1, .int .i64 1, .int .i64 0, .string (bytesOf wk), .string { data := #[] }, .string { data := #[] }] 38) := ⟨_, rfl⟩
  rw [← hW7]
  obtain ⟨jb, hjb⟩ : ∃ jb, jb = w6.heap.size := ⟨_, rfl⟩
  rw [← hjb]
  have hb67 : Below w6.heap.size w6 W7 := by rw [hW7]; exact (Below.refl _ w6).alloc (Nat.le_refl _) _
  have g7 : W7.heap[jb]? = some (.cells #[.int .i64 (id : Int), .string (bytesOf c), .string (bytesOf t), .int .i64 n1, .int .i64 1, .int .i64 0, .string (bytesOf wk), .string { data := #[] }, .string { data := #[] }] 38) := by rw [hW7, hjb]; exact alloc_last _ _ rfl
  have HB7 : Hid (Below w.heap.size w W7) := HB6.out.trans (hb67.mono HB6.out.size)
  obtain ⟨bd, hbd⟩ : ∃ bd, bd = (b1 || b2 || b3 || b4) := ⟨_, rfl⟩
  have hr7 : RdAt W7 pr r4 bd := by
    have := hr6.below hb67
    rw [hbd]
    simpa using this
  obtain ⟨R1, R2⟩ := rd1_of (q := q) (id := id) HX1.out HX2.out HX3.out HX4.out
  rw [← hbd] at R1 R2
  have HR1 := Lib.hid R1
  have HR2 := Lib.hid R2
  have HW7 := Lib.hid hW7
  have HJB : Hid (jb = w6.heap.size ∧ w.heap.size ≤ jb) := ⟨hjb, by rw [hjb]; exact HB6.out.size⟩
  have HG7 := Lib.hid g7
  obtain ⟨c0, c1, f0, f1⟩ := hr7.cells
  obtain ⟨k0, k1, k2, k3, y1, y2, y3⟩ := (HQ.out.below HB7.out).cells
  obtain ⟨m, hm⟩ : ∃ m, m = q.jobs.length := ⟨_, rfl⟩
  rw [← hm] at k1
  have HM := Lib.hid hm
  have j0 : W7.cell? ⟨jb, 0, none⟩ = some (.int .i64 (id : Int)) := by simp [World.cell?, g7]
  have j1 : W7.cell? ⟨jb, 1, none⟩ = some (.string (bytesOf c)) := by simp [World.cell?, g7]
  have j2 : W7.cell? ⟨jb, 2, none⟩ = some (.string (bytesOf t)) := by simp [World.cell?, g7]
  have j3 : W7.cell? ⟨jb, 3, none⟩ = some (.int .i64 n1) := by simp [World.cell?, g7]
  have HHO := Lib.hid hone
  have HLB := Lib.hid (rflabel_any c W7)
  have HLT := Lib.hid (rflabel_any t W7)
  have HNM := Lib.hid (rfnamed_any p dp (.slice va q.jobs.length vc) q.last false q.jobs c t W7 (HQ.out.below HB7.out) (World.owns.mono (HV.out.below HB7.out) (Nat.zero_le _)) (by have := HOK.out.len; omega))
  rw [show (q.jobs.findIdx? fun j => decide (j.client = c) && decide (j.token = t)) = q.named c t from rfl] at HNM
  unfold strV at HLB HLT HNM
  clear hW7 hjb hb67 g7 hr7 R1 R2 hm hone hr6 hk6 hbd
  cases bd with
  | true =>
    have hone : q.one s = none := by
      rw [HHO.out]
      unfold rdK
      rw [if_pos rfl]
      rw [HR1.out rfl]
      rfl
    have HO := Lib.hid hone
    clear hone
    go_wp2_with fail
    go_ret
    rw [HO.out]
    exact ⟨HB7.out.mono hB2, rfl⟩
  | false =>
    obtain ⟨n, hn1, hE⟩ := HR2.out rfl
    subst hn1
    have HE := Lib.hid hE
    clear hE
    by_cases he : r4 = []
    case neg =>
      obtain ⟨t1, t2⟩ := empty_ne he
      have HHE := Lib.hid he
      clear he
      have hone : q.one s = none := by
        rw [HHO.out]
        unfold rdK
        rw [if_pos rfl]
        rw [HE.out]
        split
        · rw [Option.bind_some]; exact if_neg HHE.out
        · rfl
      have HO := Lib.hid hone
      clear hone
      go_wp2_with fail
      go_ret
      rw [HO.out]
      exact ⟨HB7.out.mono hB2, rfl⟩
    obtain ⟨t1, t2⟩ := empty_eq he
    have HHE := Lib.hid he
    clear he
    by_cases hp : n ≤ 9
    case neg =>
      have hp' : (9 : Int) < (n : Int) := by omega
      have HHP := Lib.hid hp
      clear hp
      have hone : q.one s = none := by
        rw [HHO.out]
        unfold rdK
        rw [if_pos rfl]
        rw [HE.out, if_neg (by rintro ⟨z, -⟩; exact HHP.out z)]
        rfl
      have HO := Lib.hid hone
      clear hone
      go_wp2_with fail
      go_ret
      rw [HO.out]
      exact ⟨HB7.out.mono hB2, rfl⟩
    have hp' : ¬ (9 : Int) < (n : Int) := by omega
    have HHP := Lib.hid hp
    clear hp
    cases hlc : labelB c with
    | false =>
      rw [hlc] at HLB
      have HC1 := Lib.hid hlc
      clear hlc
      have hone : q.one s = none := by
        rw [HHO.out]
        unfold rdK
        rw [if_pos rfl]
        rw [HE.out, if_neg (by rintro ⟨-, z, -⟩; rw [HC1.out] at z; cases z)]
        rfl
      have HO := Lib.hid hone
      clear hone
      go_wp2_with fail
      refine HLB.out.mono ?_
      rintro e wz ⟨rfl, rfl⟩
      go_wp2_with fail
      go_ret
      rw [HO.out]
      exact ⟨HB7.out.mono hB2, rfl⟩
    | true =>
      rw [hlc] at HLB
      have HC1 := Lib.hid hlc
      clear hlc
      cases hlt : labelB t with
      | false =>
        rw [hlt] at HLT
        have HC2 := Lib.hid hlt
        clear hlt
        have hone : q.one s = none := by
          rw [HHO.out]
          unfold rdK
          rw [if_pos rfl]
          rw [HE.out, if_neg (by rintro ⟨-, -, z, -⟩; rw [HC2.out] at z; cases z)]
          rfl
        have HO := Lib.hid hone
        clear hone
        go_wp2_with fail
        refine HLB.out.mono ?_
        rintro e wz ⟨rfl, rfl⟩
        go_wp2_with fail
        refine HLT.out.mono ?_
        rintro e wz ⟨rfl, rfl⟩
        go_wp2_with fail
        go_ret
        rw [HO.out]
        exact ⟨HB7.out.mono hB2, rfl⟩
      | true =>
        rw [hlt] at HLT
        have HC2 := Lib.hid hlt
        clear hlt
        by_cases hla : q.last < id
        case neg =>
          have hla' : (id : Int) ≤ (q.last : Int) := by omega
          have HHL := Lib.hid hla
          clear hla
          have hone : q.one s = none := by
            rw [HHO.out]
            unfold rdK
            rw [if_pos rfl]
            rw [HE.out, if_neg (by rintro ⟨-, -, -, z, -⟩; exact HHL.out z)]
            rfl
          have HO := Lib.hid hone
          clear hone
          go_wp2_with fail
          refine HLB.out.mono ?_
          rintro e wz ⟨rfl, rfl⟩
          go_wp2_with fail
          refine HLT.out.mono ?_
          rintro e wz ⟨rfl, rfl⟩
          go_wp2_with fail
          go_ret
          rw [HO.out]
          exact ⟨HB7.out.mono hB2, rfl⟩
        have hla' : ¬ (id : Int) ≤ (q.last : Int) := by omega
        have HHL := Lib.hid hla
        clear hla
        cases hnm : q.named c t with
        | some kk =>
          rw [hnm, show placeI (some kk) = (kk : Int) from rfl] at HNM
          have HC3 := Lib.hid hnm
          have hkk : (0 : Int) ≤ (kk : Int) := by omega
          clear hnm
          have hone : q.one s = none := by
            rw [HHO.out]
            unfold rdK
            rw [if_pos rfl]
            rw [HE.out, if_neg (by rintro ⟨-, -, -, -, z, -⟩; rw [HC3.out] at z; cases z)]
            rfl
          have HO := Lib.hid hone
          clear hone
          go_wp2_with fail
          refine HLB.out.mono ?_
          rintro e wz ⟨rfl, rfl⟩
          go_wp2_with fail
          refine HLT.out.mono ?_
          rintro e wz ⟨rfl, rfl⟩
          go_wp2_with fail
          refine HNM.out.mono ?_
          rintro e wz ⟨rfl, rfl⟩
          go_wp2_with fail
          go_ret
          rw [HO.out]
          exact ⟨HB7.out.mono hB2, rfl⟩
        | none =>
          rw [hnm, show placeI none = -1 from rfl] at HNM
          have HC3 := Lib.hid hnm
          clear hnm
          by_cases hlen : m < 100
          case neg =>
            have hlen' : (100 : Int) ≤ (m : Int) := by omega
            have HH1 : Hid (¬ q.jobs.length < 100) := by rw [← HM.out]; exact hlen
            clear hlen
            have hone : q.one s = none := by
              rw [HHO.out]
              unfold rdK
              rw [if_pos rfl]
              rw [HE.out, if_neg (by rintro ⟨-, -, -, -, -, z⟩; exact HH1.out z)]
              rfl
            have HO := Lib.hid hone
            clear hone
            go_wp2_with fail
            refine HLB.out.mono ?_
            rintro e wz ⟨rfl, rfl⟩
            go_wp2_with fail
            refine HLT.out.mono ?_
            rintro e wz ⟨rfl, rfl⟩
            go_wp2_with fail
            refine HNM.out.mono ?_
            rintro e wz ⟨rfl, rfl⟩
            go_wp2_with fail
            go_ret
            rw [HO.out]
            exact ⟨HB7.out.mono hB2, rfl⟩
          have hlen' : ¬ (100 : Int) ≤ (m : Int) := by omega
          have HH1 : Hid (q.jobs.length < 100) := by rw [← HM.out]; exact hlen
          have hone : q.one s = some ⟨q.jobs ++ [⟨id, c, t, n, 1, 0, wk, [], []⟩], id⟩ := by
            rw [HHO.out]
            unfold rdK
            rw [if_pos rfl, HE.out, if_pos ⟨HHP.out, HC1.out, HC2.out, HHL.out, HC3.out, HH1.out⟩, Option.bind_some]
            exact if_pos HHE.out
          have HO := Lib.hid hone
          have hm100 : m < 100 := hlen
          clear hone hlen
          go_wp2_with fail
          refine HLB.out.mono ?_
          rintro e wz ⟨rfl, rfl⟩
          go_wp2_with fail
          refine HLT.out.mono ?_
          rintro e wz ⟨rfl, rfl⟩
          go_wp2_with fail
          refine HNM.out.mono ?_
          rintro e wn ⟨rfl, rfl⟩
          go_upto_region 10 with (fail)
          have BX : BoxAt wn jb ⟨id, c, t, n, 1, 0, wk, [], []⟩ := HG7.out
          have HBX := Lib.hid BX
          have hbx : ∀ i u, (Jb.cells ⟨id, c, t, n, 1, 0, wk, [], []⟩)[i]? = some u → wn.cell? ⟨jb, i, none⟩ = some u := fun i u hu => (BX.cell hu).1
          have OWN : Hid (wn.owns B 38 9 (.slice va m vc) m (jobsL q.jobs)) := by
            have h := HV.out.below HB7.out
            rw [← HM.out] at h
            exact h
          have RQ : Hid (RQueueAt wn p dp (.slice va m vc) q.last false) := by
            have h := HQ.out.below HB7.out
            rw [← HM.out] at h
            exact h
          have NEJ : Hid ((Value.slice va m vc).ownBlock ≠ some jb) := by
            intro e
            have h := HV.out
            rw [← HM.out] at h
            have := (h.lt jb e).2
            have := HJB.out.2
            omega
          have hjl : jb < wn.heap.size := lt_of_heap BX
          have hpl : p < wn.heap.size := lt_of_heap RQ.out
          have hBw : B ≤ wn.heap.size := by have := hB2; have := HB7.out.size; omega
          clear j0 j1 j2 j3 c0 c1 f0 f1 k0 k2 k3 y1 y2 y3 BX
          refine wp_region_late (fun w' => w'.cell? ⟨p, 1, none⟩ = some (.slice va m vc) ∧ w'.cell? ⟨jb, 0, none⟩ = some (.int .i64 (id : Int)) ∧ w'.cell? ⟨jb, 1, none⟩ = some (.string (bytesOf c)) ∧ w'.cell? ⟨jb, 2, none⟩ = some (.string (bytesOf t)) ∧ w'.cell? ⟨jb, 3, none⟩ = some (.int .i64 (n : Int)) ∧ w'.cell? ⟨jb, 4, none⟩ = some (.int .i64 1) ∧ w'.cell? ⟨jb, 5, none⟩ = some (.int .i64 0) ∧ w'.cell? ⟨jb, 6, none⟩ = some (.string (bytesOf wk)) ∧ w'.cell? ⟨jb, 7, none⟩ = some (.string (bytesOf [])) ∧ w'.cell? ⟨jb, 8, none⟩ = some (.string (bytesOf []))) (fun j => decide (j = 12 ∨ j = 15)) (by kernel_rfl) ⟨k1, hbx 0 _ rfl, hbx 1 _ rfl, hbx 2 _ rfl, hbx 3 _ rfl, hbx 4 _ rfl, hbx 5 _ rfl, hbx 6 _ rfl, hbx 7 _ rfl, hbx 8 _ rfl⟩ (fun hS => ?_)
          refine wpAnyD_take 0 (v := ?_) (by kernel_rfl) (by kernel_rfl) rfl (by kernel_rfl) (by kernel_rfl) (fun _ _ _ h => h) (Or.inl ⟨by rfl, ?_⟩) (by assumption) ?_
          rotate_left
          · (intro wq hSq; (try dsimp only at hSq); go_simp; try with_reducible rfl)
          try simp only [Act.put, List.setIfInBounds_toArray, List.set_cons_zero, List.set_cons_succ]
          refine wpAnyD_take 2 (v := ?_) (by kernel_rfl) (by kernel_rfl) rfl (by kernel_rfl) (by kernel_rfl) (fun _ _ _ h => h) (Or.inl ⟨by rfl, ?_⟩) (by assumption) ?_
          rotate_left
          · (intro wq hSq; (try dsimp only at hSq); go_simp; try with_reducible rfl)
          try simp only [Act.put, List.setIfInBounds_toArray, List.set_cons_zero, List.set_cons_succ]
          refine wpAnyD_take 3 (v := ?_) (by kernel_rfl) (by kernel_rfl) rfl (by kernel_rfl) (by kernel_rfl) (fun _ _ _ h => h) (Or.inl ⟨by rfl, ?_⟩) (by assumption) ?_
          rotate_left
          · (intro wq hSq; (try dsimp only at hSq); go_simp; try with_reducible rfl)
          try simp only [Act.put, List.setIfInBounds_toArray, List.set_cons_zero, List.set_cons_succ]
          refine wpAnyD_take 4 (v := ?_) (by kernel_rfl) (by kernel_rfl) rfl (by kernel_rfl) (by kernel_rfl) (fun _ _ _ h => h) (Or.inl ⟨by rfl, ?_⟩) (by assumption) ?_
          rotate_left
          · (intro wq hSq; (try dsimp only at hSq); go_simp; try with_reducible rfl)
          try simp only [Act.put, List.setIfInBounds_toArray, List.set_cons_zero, List.set_cons_succ]
          refine wpAnyD_take 5 (v := ?_) (by kernel_rfl) (by kernel_rfl) rfl (by kernel_rfl) (by kernel_rfl) (fun _ _ _ h => h) (Or.inl ⟨by rfl, ?_⟩) (by assumption) ?_
          rotate_left
          · (intro wq hSq; (try dsimp only at hSq); go_simp; try with_reducible rfl)
          try simp only [Act.put, List.setIfInBounds_toArray, List.set_cons_zero, List.set_cons_succ]
          refine wpAnyD_take 6 (v := ?_) (by kernel_rfl) (by kernel_rfl) rfl (by kernel_rfl) (by kernel_rfl) (fun _ _ _ h => h) (Or.inl ⟨by rfl, ?_⟩) (by assumption) ?_
          rotate_left
          · (intro wq hSq; (try dsimp only at hSq); go_simp; try with_reducible rfl)
          try simp only [Act.put, List.setIfInBounds_toArray, List.set_cons_zero, List.set_cons_succ]
          refine wpAnyD_takeW 1 (v := ?_) (by kernel_rfl) rfl (by kernel_rfl) (by kernel_rfl) (fun _ _ _ h => h) (Or.inl ⟨by rfl, ?_⟩) ?_
          rotate_left
          · (intro wq hSq; (try dsimp only at hSq); go_simp; try with_reducible rfl)
          try simp only [Act.put, List.setIfInBounds_toArray, List.set_cons_zero, List.set_cons_succ]
          refine wpAnyD_takeW 9 (v := ?_) (by kernel_rfl) rfl (by kernel_rfl) (by kernel_rfl) (fun _ _ _ h => h) (Or.inl ⟨by rfl, ?_⟩) ?_
          rotate_left
          · (intro wq hSq; (try dsimp only at hSq); go_simp; try with_reducible rfl)
          try simp only [Act.put, List.setIfInBounds_toArray, List.set_cons_zero, List.set_cons_succ]
          have hbd : ∀ o, Below wn.heap.size wn (wn.drew.alloc o) := fun o => (Below.refl wn.heap.size wn).drew.alloc (by simp) o
          refine wpAnyD_keep 7 (by kernel_rfl) rfl (fun K hK => ?_)
          go_simp
          have hbA := hbd (.cells (Jb.cells ⟨id, c, t, n, 1, 0, wk, [], []⟩).toArray 38)
          have RQA := RQ.out.below hbA
          have OWA := OWN.out.below hbA
          have gA : BoxAt (wn.drew.alloc (.cells (Jb.cells ⟨id, c, t, n, 1, 0, wk, [], []⟩).toArray 38)) wn.heap.size ⟨id, c, t, n, 1, 0, wk, [], []⟩ := alloc_last _ _ rfl
          have gB : BoxAt (wn.drew.alloc (.cells (Jb.cells ⟨id, c, t, n, 1, 0, wk, [], []⟩).toArray 38)) jb ⟨id, c, t, n, 1, 0, wk, [], []⟩ := (hbA.block jb hjl).trans HBX.out
          have hbx2 : ∀ i u, (Jb.cells ⟨id, c, t, n, 1, 0, wk, [], []⟩)[i]? = some u → (wn.drew.alloc (.cells (Jb.cells ⟨id, c, t, n, 1, 0, wk, [], []⟩).toArray 38)).cell? ⟨jb, i, none⟩ = some u := fun i u hu => (gB.cell hu).1
          obtain ⟨-, kA, -⟩ := RQA.cells
          have hszA : wn.heap.size < (wn.drew.alloc (.cells (Jb.cells ⟨id, c, t, n, 1, 0, wk, [], []⟩).toArray 38)).heap.size := by simp
          have HRQA := Lib.hid RQA
          have HOWA := Lib.hid OWA
          have HGA := Lib.hid gA
          have HGB := Lib.hid gB
          have HBA := Lib.hid hbA
          refine hK.out _ _ ⟨kA, hbx2 0 _ rfl, hbx2 1 _ rfl, hbx2 2 _ rfl, hbx2 3 _ rfl, hbx2 4 _ rfl, hbx2 5 _ rfl, hbx2 6 _ rfl, hbx2 7 _ rfl, hbx2 8 _ rfl⟩ (fun hS2 => ?_)
          clear hK K hS RQA OWA gA gB hbA hbd hbx hbx2 kA
          try simp only [Act.put, List.setIfInBounds_toArray, List.set_cons_zero, List.set_cons_succ]
          refine wpAnyD_keep 8 (by kernel_rfl) rfl (fun K hK => ?_)
          refine step_append9 (by rfl) (.tmp 112) (.tmp 114) (by rfl) B m wn.heap.size 1 (.slice va m vc) (jobsL q.jobs) ⟨id, c, t, n, 1, 0, wk, [], []⟩ (by rfl) (by rfl) HOWA.out HGA.out (by omega) (Nat.le_trans hBw (Nat.le_of_lt hszA)) ?_
          intro v7 w7 ho7 hg7 _
          have qa7 : RQueueAt w7 p dp (.slice va m vc) q.last false := (hg7.block p (Nat.lt_trans hpl hszA) (fun e => HRQA.out.ne HOWA.out e.symm)).trans HRQA.out
          have bx7 : BoxAt w7 jb ⟨id, c, t, n, 1, 0, wk, [], []⟩ := (hg7.block jb (Nat.lt_trans hjl hszA) (fun e => NEJ.out e.symm)).trans HGB.out
          have bl7 : Below B w w7 := (HB7.out.mono hB2).trans ((HBA.out.mono hBw).trans (below_grown HOWA.out hg7 B (Nat.le_refl _) (Nat.le_trans hBw (Nat.le_of_lt hszA))))
          obtain ⟨va7, vc7, rfl⟩ : ∃ a c, v7 = .slice a (m + 1) c := by
            rcases ho7.2 with ⟨e, h0⟩ | ⟨g, c, _, _, e, _⟩
            · exact absurd h0 (by omega)
            · exact ⟨_, c, e⟩
          obtain ⟨-, k7, -, -, y7, -, -⟩ := qa7.cells
          have hbx3 : ∀ i u, (Jb.cells ⟨id, c, t, n, 1, 0, wk, [], []⟩)[i]? = some u → w7.cell? ⟨jb, i, none⟩ = some u := fun i u hu => (bx7.cell hu).1
          have hv7 : (Value.slice va7 (m + 1) vc7).ownBlock ≠ some p := World.owns.ne ho7 qa7 (by decide)
          have qa8 := (qa7.set1 (.slice va7 (m + 1) vc7)).set2 (id : Int)
          have ow8 := (ho7.setCell_ne (a := ⟨p, 1, none⟩) hv7 (.slice va7 (m + 1) vc7)).setCell_ne (a := ⟨p, 2, none⟩) hv7 (.int .i64 (id : Int))
          have bl8 := (bl7.setCell (p := ⟨p, 1, none⟩) HLEN.out.2.1 (.slice va7 (m + 1) vc7)).setCell (p := ⟨p, 2, none⟩) HLEN.out.2.1 (.int .i64 (id : Int))
          have QA8 := Lib.hid qa8
          have OW8 := Lib.hid ow8
          have BL8 := Lib.hid bl8
          obtain ⟨-, -, k8, -, -, z8, -⟩ := (qa7.set1 (.slice va7 (m + 1) vc7)).cells
          refine hK.out _ _ ⟨k7, hbx3 0 _ rfl, hbx3 1 _ rfl, hbx3 2 _ rfl, hbx3 3 _ rfl, hbx3 4 _ rfl, hbx3 5 _ rfl, hbx3 6 _ rfl, hbx3 7 _ rfl, hbx3 8 _ rfl⟩ (fun hS3 => ?_)
          clear hK K hS2 qa8 ow8 bl8 hg7 ho7 bx7 bl7 qa7 hv7 hbx3
          try simp only [Act.put, List.setIfInBounds_toArray, List.set_cons_zero, List.set_cons_succ]
          refine wpAnyD_takeW 10 (v := ?_) (by kernel_rfl) rfl (by kernel_rfl) (by kernel_rfl) (fun _ _ _ h => h) (Or.inl ⟨by rfl, ?_⟩) ?_
          rotate_left
          · (intro wq hSq; (try dsimp only at hSq); go_simp; try with_reducible rfl)
          try simp only [Act.put, List.setIfInBounds_toArray, List.set_cons_zero, List.set_cons_succ]
          refine wpAnyD_takeW 11 (v := ?_) (by kernel_rfl) rfl (by kernel_rfl) (by kernel_rfl) (fun _ _ _ h => h) (Or.inl ⟨by rfl, ?_⟩) ?_
          rotate_left
          · (intro wq hSq; (try dsimp only at hSq); go_simp; try with_reducible rfl)
          try simp only [Act.put, List.setIfInBounds_toArray, List.set_cons_zero, List.set_cons_succ]
          refine wpAnyD_step 12 (by kernel_rfl) rfl rfl (fun K hK => ?_)
          go_simp
          refine hK.out _ _ ?_
          clear hK K hS3
          try simp only [Act.put, List.setIfInBounds_toArray, List.set_cons_zero, List.set_cons_succ]
          refine wpAnyD_takeW 13 (v := ?_) (by kernel_rfl) rfl (by kernel_rfl) (by kernel_rfl) (fun _ _ _ h => h) (Or.inl ⟨by rfl, ?_⟩) ?_
          rotate_left
          · (intro wq hSq; (try dsimp only at hSq); go_simp; try with_reducible rfl)
          try simp only [Act.put, List.setIfInBounds_toArray, List.set_cons_zero, List.set_cons_succ]
          refine wpAnyD_takeW 14 (v := ?_) (by kernel_rfl) rfl (by kernel_rfl) (by kernel_rfl) (fun _ _ _ h => h) (Or.inl ⟨by rfl, ?_⟩) ?_
          rotate_left
          · (intro wq hSq; (try dsimp only at hSq); go_simp; try with_reducible rfl)
          try simp only [Act.put, List.setIfInBounds_toArray, List.set_cons_zero, List.set_cons_succ]
          refine wpAnyD_step 15 (by kernel_rfl) rfl rfl (fun K hK => ?_)
          go_simp
          refine hK.out _ _ ?_
          clear hK K
          refine wpAnyD_end (by kernel_rfl) ?_
          go_wp2_with fail
          go_ret
          rw [HO.out]
          refine ⟨BL8.out, rfl, _, QA8.out, ?_⟩
          show World.owns _ _ _ _ _ (q.jobs ++ [_]).length _
          rw [List.length_append, jobsL_append, ← HM.out]
          have h := OW8.out
          rw [show jobsL [⟨id, c, t, n, 1, 0, wk, [], []⟩] = Jb.cells ⟨id, c, t, n, 1, 0, wk, [], []⟩ from by unfold jobsL; simp]
          exact h
end Go.Proofs.YtoggmplkbiidhaaDoor

/- Walks: the reference's queue of jobs: a record is read. Printed by gen_rc4.py. -/
namespace Go.Proofs.YtoggmplkbiidhaaDoor
set_option linter.all false
open Go.RowKit Go.Shelf
theorem RdAt.other {w : World} {p : Nat} {s : List UInt8} {bad : Bool} (h : RdAt w p s bad) {a : Addr} (ha : ¬ a.block = p) (u : Value) : RdAt (w.setCell a u) p s bad := by
  unfold RdAt at h ⊢
  rw [Below.heap_setCell _ _ _ _ (fun q => ha q.symm)]; exact h
theorem RQueueAt.other {w : World} {p : Nat} {dp v : Value} {last : Int} {down : Bool} (h : RQueueAt w p dp v last down) {a : Addr} (ha : ¬ a.block = p) (u : Value) : RQueueAt (w.setCell a u) p dp v last down := by
  unfold RQueueAt at h ⊢
  rw [Below.heap_setCell _ _ _ _ (fun q => ha q.symm)]; exact h
end Go.Proofs.YtoggmplkbiidhaaDoor

/- Walks: the reference's queue of jobs: a record is read. Printed by gen_rc4.py. -/
namespace Go.Proofs.YtoggmplkbiidhaaDoor
set_option linter.all false
open Go.RowKit Go.Shelf
theorem RQueueAt.kp {w w' : World} {p r : Nat} {dp v : Value} {last : Int} {down : Bool} (h : RQueueAt w p dp v last down) (hk : Kp (fun k => k = r) w w') (hn : ¬ p = r) : RQueueAt w' p dp v last down := (hk.block p (lt_of_heap h) hn).trans h
end Go.Proofs.YtoggmplkbiidhaaDoor

/- Walks: the reference's queue of jobs: a record is read. Printed by gen_rc4.py. -/

/- Walks: the reference's queue of jobs: a record is read by a queue that has no jobs. -/
namespace Go.Proofs.YtoggmplkbiidhaaDoor
set_option linter.all false
open Go.RowKit Go.Shelf
theorem one_no {q : Qs} {s : List UInt8} (h : takeN s 1 = none ∨ ∃ k s1, takeN s 1 = some (k, s1) ∧ (k < 1 ∨ 6 < k ∨ takeN s1 8 = none ∨ ∃ id s2, takeN s1 8 = some (id, s2) ∧ (¬ id < 9223372036854775808 ∨ (id = 0 ∧ ¬ k = 6)))) : q.one s = none := by
  unfold Qs.one
  rcases h with h | ⟨k, s1, h, h2⟩
  · rw [h]; rfl
  · rw [h, Option.bind_some]
    dsimp only
    split
    · rename_i hk
      rcases h2 with h2 | h2 | h2 | ⟨id, s2, h2, h3⟩
      · omega
      · omega
      · rw [h2]; rfl
      · rw [h2, Option.bind_some]
        dsimp only
        rw [if_neg]
        rintro ⟨z1, z2⟩
        rcases h3 with h3 | ⟨h3, h4⟩
        · exact h3 z1
        · rcases z2 with z2 | z2
          · omega
          · exact h4 z2
    · rfl
theorem rfread_empty (B p : Nat) (dp v : Value) (q : Qs) (s : List UInt8) (w : World) (hq : RQueueAt w p dp v q.last false) (hv : w.owns B 38 9 v q.jobs.length (jobsL q.jobs)) (hB : B ≤ p) (hB2 : B ≤ w.heap.size) (ho : q.ok) (hs : s.length ≤ 1000000) (hat : ∀ id, q.at id = none) :
    Calls Tryd.prog 65 #[.pointer (some ⟨p, 0, none⟩), strV s] w (RdP B p dp w (q.one s)) := by
  cases h1 : takeN s 1 with
  | none => exact rfread_no1 B p dp v q s w hq hv hB hB2 ho hs h1 (one_no (.inl h1))
  | some x =>
    obtain ⟨k, s1⟩ := x
    cases h2 : takeN s1 8 with
    | none => exact rfread_no2 B p dp v q s w hq hv hB hB2 ho hs h1 h2 (one_no (.inr ⟨k, s1, h1, .inr (.inr (.inl h2))⟩))
    | some y =>
      obtain ⟨id, s2⟩ := y
      by_cases hlo : k < 1
      · exact rfread_no3 B p dp v q s w hq hv hB hB2 ho hs h1 h2 hlo (one_no (.inr ⟨k, s1, h1, .inl hlo⟩))
      by_cases hhi : 6 < k
      · exact rfread_no4 B p dp v q s w hq hv hB hB2 ho hs h1 h2 hlo hhi (one_no (.inr ⟨k, s1, h1, .inr (.inl hhi)⟩))
      by_cases hid : id < 9223372036854775808
      case neg => exact rfread_no5 B p dp v q s w hq hv hB hB2 ho hs h1 h2 hlo hhi hid (one_no (.inr ⟨k, s1, h1, .inr (.inr (.inr ⟨id, s2, h2, .inl hid⟩))⟩))
      by_cases h6 : k = 6
      · subst h6
        by_cases hz : id = 0
        · exact rfread_6z B p dp v q s w hq hv hB hB2 ho hs h1 h2 hid hz
        · exact rfread_6n B p dp v q s w hq hv hB hB2 ho hs h1 h2 hid hz
      by_cases hz : id = 0
      · exact rfread_no6 B p dp v q s w hq hv hB hB2 ho hs h1 h2 hlo hhi hz h6 (one_no (.inr ⟨k, s1, h1, .inr (.inr (.inr ⟨id, s2, h2, .inr ⟨hz, h6⟩⟩))⟩))
      by_cases hk1 : k = 1
      · subst hk1
        exact rfread_1 B p dp v q s w hq hv hB hB2 ho hs h1 h2 hid hz
      · exact rfread_at B p dp v q s w hq hv hB hB2 ho hs h1 h2 hid hz (by omega) (by omega) (hat id)
end Go.Proofs.YtoggmplkbiidhaaDoor

/- Walks: the kit's functions on lists of strings. -/
/- Walks: the small callers, and the kit's functions. -/

/- Laws of the disk: what the document's examples show. -/

/- Walks: the reference's sponge. -/
/- Walks: the reference's sponge. -/
namespace Go.Proofs.YtoggmplkbiidhaaDoor
open Go.RowKit
attribute [local go_sem] xor_wv and_wv or_wv not_wv shl_nf shr_nf shl_8 or_byte or_128
theorem init_word' (kd : Nat) (hk : kd ≤ 1) : IntKind.u64.wrap (8026104356937031936 + (kd : Int)) = wv (wof (letters + kd)) := by
  have : kd = 0 ∨ kd = 1 := by omega
  rcases this with rfl | rfl <;> decide +kernel
theorem permuted_12 (s : St) (w : World) :
    Calls Tryd.prog 92 #[s.val, .int .i64 12] w fun e w' => e = .returned (St.perm 12 s).val ∧ Below w.heap.size w w' := permuted_any s 12 (by omega) w
theorem permuted_init (x : BitVec 64) (w : World) :
    Calls Tryd.prog 92 #[.agg #[.int .u64 (wv x), .int .u64 0, .int .u64 0, .int .u64 0, .int .u64 0], .int .i64 12] w fun e w' => e = .returned (St.perm 12 ⟨x, wof 0, wof 0, wof 0, wof 0⟩).val ∧ Below w.heap.size w w' :=
  permuted_12 ⟨x, wof 0, wof 0, wof 0, wof 0⟩ w
theorem Tryd.info5' : (Tryd.prog.info? 5).map (fun i => (i.zero, i.size, i.bytes)) = some (some (.int .u8 0), 1, 1) := by kernel_rfl
set_option maxRecDepth 100000 in
set_option maxHeartbeats 4000000 in
theorem refsponge_any (s : ByteArray) (hs : s.size ≤ 1000000) (kd n : Nat) (hk : kd ≤ 1) (hn : n ≤ 1048576) (w : World) :
    Calls Tryd.prog 79 #[.string s, .int .u8 (kd : Int), .int .i64 (n : Int)] w fun e w' => e = .returned (.string (runB s kd n)) ∧ Below w.heap.size w w' := by
  have hi := init_word' kd hk
  obtain ⟨i0, hi0, hz0, hz1, hz2⟩ := info_parts Tryd.info5'
  have hmx : s.size ≤ maxLen := by unfold maxLen; omega
  go_enter Tryd.func79, Tryd.ntmps79
  go_wp2_with fail
  refine (permuted_init _ _).mono ?_
  rintro e w1 ⟨rfl, hb1⟩
  clear hi
  obtain ⟨S, hS⟩ : ∃ S : St, S = St.perm 12 ⟨wof (letters + kd), wof 0, wof 0, wof 0, wof 0⟩ := ⟨_, rfl⟩
  rw [← hS]
  have HS := Lib.hid hS
  clear hS
  have h1s := hb1.size
  go_wp2_with (first
    | (refine wpList_bytes_owns _ rfl (.tmp 19) 9 64 5 rfl s rfl Tryd.underlying9 Tryd.underlying64 Tryd.underlying5 hmx ?_; intro cap w2 hown2 hg2; simp only [World.size_alloc] at hown2)
    | (at_builtin; refine wpList_append_owns _ rfl (.tmp 20) (.tmp 21) 64 rfl _ 5 i0 (.int .u8 0) 1 1 Tryd.underlying64 hi0 hz0 hz1 hz2 rfl (by decide) _ s.size _ rfl (hown2.alloc _) ⟨w2.heap.size, 0, none⟩ 1 1 _ rfl rfl (cell_one_new _ _ _) (by simp [Value.oneCell']) (by unfold maxLen; omega) (by omega) (by have := hg2.size; simp at this ⊢; omega) ?_; intro v3 w3 hown3 hg3 _))
  have hg3' : (w2.alloc (.cells #[.int .u8 128] 5)).grownBy w3 (some (w1.heap.size + 1)) := hg3
  clear hg3
  rw [padL_zero] at hown3
  have hsz2 := hg2.size
  have hsz3 := hg3'.size
  simp only [World.size_alloc] at hsz2 hsz3
  have hB2 : Below w.heap.size w w2 := (hb1.alloc h1s _).grown hg2 (by simp; omega) (fun k e => by cases e)
  have hB3 : Below w.heap.size w w3 := (hB2.alloc hB2.size _).grown hg3' (by have := hB2.size; simp; omega) (fun k e => by cases e; omega)
  have hc3 : w3.heap[w1.heap.size]? = some (.cells S.cells 130) := by
    rw [hg3'.block _ (by simp; omega) (by simp), Below.heap_alloc _ _ _ (by omega), hg2.block _ (by simp) (by simp)]
    exact alloc_last _ _ rfl
  obtain ⟨g3, cap3, rfl⟩ := hown3.succ
  clear hown2 hg2 hg3' hb1
  go_loopw [8] (fun v wx => ∃ j g cap : Nat, s.size + 1 + j ≤ 8 * (s.size / 8 + 1) ∧ v = .slice (some ⟨g, 0, none⟩) (s.size + 1 + j) cap ∧ wx.owns (w1.heap.size + 1) 5 1 v (s.size + 1 + j) ((padL s j).map byteV) ∧
      wx.heap[w1.heap.size]? = some (.cells S.cells 130) ∧ Below w.heap.size w wx ∧ w1.heap.size + 1 < wx.heap.size) (fun v _ => s.size + 9 - lenOf v)
  case atStart => exact ⟨0, g3, cap3, by omega, rfl, hown3, hc3, hB3, by omega⟩
  case round =>
    obtain ⟨j, g, cap, hj, rfl, how, hc, hB, hz⟩ := hrel
    obtain ⟨_, hjc, hbg, hcm, hgl⟩ := how.facts
    by_cases hlt : s.size + 1 + j < 8 * (s.size / 8 + 1)
    · have hne : ¬ ((s.size : Int) + 1 + j) % 8 = 0 := by omega
      go_wp2_with (at_builtin; (refine wpList_append_owns _ rfl (.tmp 27) (.tmp 28) 64 rfl _ 5 i0 (.int .u8 0) 1 1 Tryd.underlying64 hi0 hz0 hz1 hz2 rfl (by decide) _ (s.size + 1 + j) _ rfl (how.alloc _) ⟨wr.heap.size, 0, none⟩ 1 1 _ rfl rfl (cell_one_new _ _ _) (by simp [Value.oneCell']) (by unfold maxLen; omega) (by omega) (by simp; omega) ?_; intro v4 w4 hown4 hg4 _))
      have hg4' : (wr.alloc (.cells #[.int .u8 0] 5)).grownBy w4 (some g) := hg4
      clear hg4
      have hs4 := hg4'.size
      simp only [World.size_alloc] at hs4
      obtain ⟨g4, cap4, rfl⟩ := hown4.succ
      go_roundw
      case rel =>
        refine ⟨j + 1, g4, cap4, by omega, rfl, ?_, ?_, ?_, by omega⟩
        · rw [padL_succ, List.map_append]; exact hown4
        · rw [hg4'.block _ (by simp; omega) (by simp; omega), Below.heap_alloc _ _ _ (by omega)]; exact hc
        · exact (hB.alloc hB.size _).grown hg4' (by have := hB.size; simp; omega) (fun k e => by cases e; omega)
      case measure => simp [lenOf]; omega
    · have hne : ((s.size : Int) + 1 + j) % 8 = 0 := by omega
      obtain ⟨m, hm⟩ : ∃ m, m = s.size / 8 + 1 := ⟨_, rfl⟩
      have hsj1 : s.size + 1 + j ≤ 8 * m := by omega
      have hsj2 : 8 * m ≤ s.size + 1 + j := by omega
      have hm1 : m ≤ s.size / 8 + 1 := by omega
      have hm2 : s.size / 8 + 1 ≤ m := by omega
      clear hm
      go_wp2
      clear hne
      obtain ⟨wo, rfl⟩ : ∃ wo : World, wo = wr := ⟨_, rfl⟩
      go_loopw [9] (fun v wx => ∃ q : Nat, q ≤ m ∧ v = .int .i64 (8 * (q : Int)) ∧ wx.owns (w1.heap.size + 1) 5 1 (.slice (some ⟨g, 0, none⟩) (s.size + 1 + j) cap) (s.size + 1 + j) ((padL s j).map byteV) ∧
        wx.heap[w1.heap.size]? = some (.cells (St.absorb S (uptoW s q)).cells 130) ∧ Below w.heap.size w wx ∧ w1.heap.size + 1 < wx.heap.size) (fun v _ => (8 * (m : Int) - intOf v).toNat)
      case atStart => exact ⟨0, by omega, rfl, how, hc, hB, hz⟩
      case round =>
        obtain ⟨q, hq, rfl, how, hc, hB, hz⟩ := hrel
        obtain ⟨y, hy⟩ : ∃ y, y = St.absorb S (uptoW s q) := ⟨_, rfl⟩
        rw [← hy] at hc
        have Hy := Lib.hid hy
        clear hy
        obtain ⟨c0, c1, c2, c3, c4, f0, f1, f2, f3, f4, z0⟩ := five_cells hc
        by_cases hlt2 : q < m
        · have hd : decide (8 * (q : Int) < (s.size : Int) + 1 + j) = true := by simp; omega
          go_wp2
          obtain ⟨wo2, rfl⟩ : ∃ wo2 : World, wo2 = wr := ⟨_, rfl⟩
          go_loopw [10, 11] (fun v i wx => wx = wo2 ∧ ∃ k : Nat, k ≤ 8 ∧ i = .int .i64 (k : Int) ∧ v = .int .u64 (wv (wordTo s (8 * q) k))) (fun _ i _ => (8 - intOf i).toNat)
          case atStart => exact ⟨rfl, 0, by omega, rfl, rfl⟩
          case round =>
            obtain ⟨rfl, k, hk8, rfl, rfl⟩ := hrel
            by_cases hlt3 : k < 8
            · obtain ⟨bt, hbt, hbw⟩ := padL_byte s j (8 * q + k) (by omega)
              have hcell := how.cell (8 * q + k) (byteV bt) (by simp [hbt])
              go_wp2
              go_roundw
              case rel =>
                refine ⟨trivial, k + 1, by omega, by go_num, ?_⟩
                rw [or_byte_wrap, wordTo, hbw]
              case measure => simp [intOf]; omega
            · obtain rfl : k = 8 := by omega
              go_wp2_with fail
              refine (permuted_12 { y with a := wxor y.a (wordTo s (8 * q) 8) } _).mono ?_
              rintro e w5 ⟨rfl, hb5⟩
              obtain ⟨hc5, hf5⟩ := bcell hb5
              have hq5 : w5.heap[w1.heap.size]? = some (.cells #[.int .u64 (wv (wxor y.a (wordTo s (8 * q) 8))), .int .u64 (wv y.b), .int .u64 (wv y.c), .int .u64 (wv y.d), .int .u64 (wv y.e)] 130) := by
                rw [hb5.block _ (by simpa using z0)]; simp [World.setCell, Array.getElem?_modify, hc]
              have ho5 := (how.setCell (a := ⟨w1.heap.size, 0, none⟩) (by simp) (.int .u64 (wv (wxor y.a (wordTo s (8 * q) 8))))).below hb5
              have hB5 : Below w.heap.size w w5 := (hB.setCell (p := ⟨w1.heap.size, 0, none⟩) h1s _).trans (hb5.mono (by have := hB.size; simp; omega))
              have hz5 := hb5.size
              simp only [World.size_setCell] at hz5
              clear hb5
              go_wp2
              go_roundw
              case rel =>
                refine ⟨q + 1, by omega, by go_num, ?_, ?_, ?_, ?_⟩
                · iterate 5 refine World.owns.setCell ?_ (by simp) _
                  exact ho5
                · rw [uptoW_succ, absorb_snoc', ← Hy.out]; exact set_five hq5
                · repeat (with_reducible first | apply below_drewN | apply Below.drew | refine Below.setCell ?_ (by first | (simp; done) | (simp; omega)) _ | refine Below.alloc ?_ (by first | (simp; done) | (simp; omega)) _ | assumption | exact Below.refl _ _)
                · simp; omega
              case measure => simp [intOf]; omega
        · obtain rfl : q = m := by omega
          have hd : decide (8 * (q : Int) < (s.size : Int) + 1 + j) = false := by simp; omega
          go_wp2
          have hS0 : ∃ S0, S0 = y := ⟨y, rfl⟩
          obtain ⟨S0, hS0⟩ := hS0
          rw [← hS0] at hc Hy
          clear hS0 c0 c1 c2 c3 c4 f0 f1 f2 f3 f4 z0 how
          obtain ⟨wo3, hwo3⟩ : ∃ wo3 : World, wo3 = wr := ⟨_, rfl⟩
          subst hwo3
          go_loopw [12] (fun v12 wx => ∃ t : Nat, 8 * t < n + 8 ∧ wx.owns (w1.heap.size + 1) 5 1 v12 (8 * t) ((St.squeeze S0 t).map byteV) ∧ ((∃ g cap, v12 = .slice (some ⟨g, 0, none⟩) (8 * t) cap) ∨ (v12 = .slice none 0 0 ∧ t ≤ 0)) ∧
            wx.heap[w1.heap.size]? = some (.cells (St.iter S0 t).cells 130) ∧ Below w.heap.size w wx ∧ w1.heap.size + 1 < wx.heap.size) (fun v12 _ => n + 8 - lenOf v12)
          case atStart => exact ⟨0, by omega, World.owns_nil _ _ _ _, .inr ⟨rfl, Nat.le_refl _⟩, hc, hB, hz⟩
          case round =>
            obtain ⟨t, ht, how, hv, hc, hB, hz⟩ := hrel
            obtain ⟨z, hzt⟩ : ∃ z, z = St.iter S0 t := ⟨_, rfl⟩
            rw [← hzt] at hc
            have Hz := Lib.hid hzt
            clear hzt
            by_cases hlt4 : 8 * t < n
            · rcases hv with ⟨g5, cap5, rfl⟩ | ⟨rfl, ht0⟩
              all_goals
                have hd5 : decide (8 * (t : Int) < (n : Int)) = true := by simp; omega
                have hd6 : decide ((0 : Int) < n) = true := by simp; omega
                have hd7 : decide (0 < n) = true := by simp; omega
                have hd8 : 0 < n := by omega
                go_wp2
                obtain ⟨wo4, hwo4⟩ : ∃ wo4 : World, wo4 = wr := ⟨_, rfl⟩
                subst hwo4
                go_loopw [12, 13] (fun v12 v13 wx => ∃ i : Nat, i ≤ 8 ∧ v13 = .int .i64 (7 - (i : Int)) ∧ wx.owns (w1.heap.size + 1) 5 1 v12 (8 * t + i) ((St.squeeze S0 t ++ wbytes z.a i).map byteV) ∧
                  wx.heap[w1.heap.size]? = some (.cells z.cells 130) ∧ Below w.heap.size w wx ∧ w1.heap.size + 1 < wx.heap.size) (fun _ v13 _ => (intOf v13 + 64).toNat)
                case atStart => exact ⟨0, by omega, rfl, by simpa [wbytes] using how, hc, hB, hz⟩
                case round =>
                  obtain ⟨i, hi8, rfl, how, hc, hB, hz⟩ := hrel
                  obtain ⟨c0, c1, c2, c3, c4, f0, f1, f2, f3, f4, z0⟩ := five_cells hc
                  by_cases hlt5 : i < 8
                  · go_wp2_with (at_builtin; refine wpList_append_owns _ rfl (.tmp 65) (.tmp 72) 64 rfl _ 5 i0 (.int .u8 0) 1 1 Tryd.underlying64 hi0 hz0 hz1 hz2 rfl (by decide) _ (8 * t + i) _ rfl (how.alloc _) ⟨wr.heap.size, 0, none⟩ 1 1 _ rfl rfl (cell_one_new _ _ _) (by simp [Value.oneCell']) (by unfold maxLen; omega) (by omega) (by simp; omega) ?_; intro v4 w4 hown4 hg4 _)
                    have hgr : (wr.alloc (.cells #[_] 5)).grownBy w4 u12.ownBlock := hg4
                    have hl4 := how.lt
                    have hs4 := hgr.size
                    simp only [World.size_alloc] at hs4
                    refine ⟨⟨i + 1, by omega, by go_num, ?_, ?_, ?_, by omega⟩, by simp [intOf]; omega⟩
                    · rw [wbytes_succ, ← List.append_assoc, List.map_append]
                      rw [wbyte_num' z.a i (8 * (7 - i)) (by omega)] at hown4
                      exact hown4
                    · rw [hgr.block _ (by simp; omega) (by intro e; have := hl4 _ e.symm; omega), Below.heap_alloc _ _ _ z0]; exact hc
                    · exact (hB.alloc hB.size _).grown hgr (by have := hB.size; simp; omega) (fun k e => by have := hl4 k e; omega)
                  · obtain rfl : i = 8 := by omega
                    go_wp2_with fail
                    refine (permuted_12 z _).mono ?_
                    rintro e w5 ⟨rfl, hb5⟩
                    obtain ⟨hc5, hf5⟩ := bcell hb5
                    have hq5 : w5.heap[w1.heap.size]? = some (.cells z.cells 130) := by
                      rw [hb5.block _ z0]; exact hc
                    have ho5 : w5.owns _ 5 1 _ (8 * (t + 1)) _ := how.below hb5
                    have hB5 : Below w.heap.size w w5 := hB.trans (hb5.mono hB.size)
                    have hz5 := hb5.size
                    clear hb5
                    obtain ⟨g6, cap6, rfl⟩ := ho5.pos (by omega)
                    go_wp2
                    go_roundw
                    case rel =>
                      refine ⟨t + 1, by omega, ?_, .inl ⟨g6, cap6, rfl⟩, ?_, ?_, ?_⟩
                      · iterate 5 refine World.owns.setCell ?_ (by simp) _
                        rw [St.squeeze, ← Hz.out]; exact ho5
                      · rw [St.iter, ← Hz.out]; exact set_five hq5
                      · repeat (with_reducible first | apply below_drewN | apply Below.drew | refine Below.setCell ?_ (by first | (simp; done) | (simp; omega)) _ | refine Below.alloc ?_ (by first | (simp; done) | (simp; omega)) _ | assumption | exact Below.refl _ _)
                      · simp; omega
                    case measure => simp [lenOf]; omega
            · rcases hv with ⟨g5, cap5, rfl⟩ | ⟨rfl, ht0⟩
              · obtain ⟨_, hjc, hbg, hcm, hgl⟩ := how.facts
                have hnc : n ≤ cap5 := by omega
                have hd5 : decide (8 * (t : Int) < (n : Int)) = false := by simp; omega
                have hcv := run_owns_string (P := Tryd.prog) (w := wr) (m := n) 64 9 5 Tryd.underlying64 Tryd.underlying5 Tryd.underlying9 how (by rw [squeeze_length]; omega) cap5
                go_wp2
                go_ret
                refine ⟨?_, hB⟩
                have ht' : (n + 7) / 8 = t := by omega
                show Ending.returned (.string (bytesOf ((St.squeeze S0 t).take n))) = _
                rw [runB, ht', Hy.out, HS.out]
                have hqq : q = s.size / 8 + 1 := by omega
                rw [hqq]; rfl
              · obtain rfl : n = 0 := by omega
                have hcv := run_convert_bytes_nil (P := Tryd.prog) wr 64 5 Tryd.underlying64 Tryd.underlying5 0 0 9 Tryd.underlying9
                go_wp2
                go_ret
                refine ⟨?_, hB⟩
                show Ending.returned (.string ByteArray.empty) = _
                rw [runB]; rfl
end Go.Proofs.YtoggmplkbiidhaaDoor

/- Walks: the small callers, and the kit's functions. -/
namespace Go.Proofs.YtoggmplkbiidhaaDoor
open Go.RowKit
theorem refShort_any (s : ByteArray) (hs : s.size ≤ 1000000) (w : World) :
    Calls Tryd.prog 58 #[.string s] w fun e w' => e = .returned (.string (runB s 0 8)) ∧ Below w.heap.size w w' := by
  go_enter Tryd.func58, Tryd.ntmps58
  go_wp2_with fail
  refine (refsponge_any s hs 0 8 (by omega) (by omega) _).mono ?_
  rintro e w' ⟨rfl, hb⟩
  go_wp2
  go_ret
  exact ⟨rfl, hb⟩
end Go.Proofs.YtoggmplkbiidhaaDoor

/- Walks: the reference's disk: numbers. -/
namespace Go.Proofs.YtoggmplkbiidhaaDoor
set_option linter.all false
open Go.RowKit Go.Shelf
def sgn (n : Nat) : Int := wrap64 (n : Int)
theorem sgn_small (n : Nat) (h : n < 9223372036854775808) : sgn n = (n : Int) := IntWalk.wrap64_in _ ⟨by omega, by omega⟩
theorem sgn_big (n : Nat) (h : 9223372036854775808 ≤ n) (h2 : n < 18446744073709551616) : sgn n < 0 := by unfold sgn wrap64; omega
theorem sgn_mul (n : Nat) : wrap64 (sgn n * 256) = sgn (n * 256) := by unfold sgn wrap64; omega
theorem wrap_byte (c : UInt8) : wrap64 (c.toNat : Int) = (c.toNat : Int) := IntWalk.wrap64_in _ (by have := c.toNat_lt; omega)
/-- The reference's disk. -/
structure RDiskAt (w : World) (p b : Nat) (d : Dk) : Prop where
  at_ : w.heap[p]? = some (.cells #[.int .i64 (d.size : Int), .slice (some ⟨b, 0, none⟩) (2 * d.size) (2 * d.size), .int .i64 d.fuse, .bool d.failed] 96)
  half : HalfAt w b (d.h0 ++ d.h1)
  ne : ¬ b = p
theorem RDiskAt.below {w w' : World} {p b B : Nat} {d : Dk} (h : RDiskAt w p b d) (hb : Below B w w') (hp : p < B) (h0 : b < B) : RDiskAt w' p b d :=
  ⟨(hb.block _ hp).trans h.at_, h.half.below hb h0, h.ne⟩
theorem RDiskAt.kept {w w' : World} {p b : Nat} {d : Dk} (h : RDiskAt w p b d) (hb : Below w.heap.size w w') : RDiskAt w' p b d :=
  h.below hb (lt_of_heap h.at_) h.half.lt
theorem RDiskAt.drew {w : World} {p b : Nat} {d : Dk} (h : RDiskAt w p b d) : RDiskAt w.drew p b d := ⟨h.at_, h.half, h.ne⟩
theorem both_length {d : Dk} (ho : d.ok) : (d.h0 ++ d.h1).length = 2 * d.size := by rw [List.length_append, ho.l0, ho.l1]; omega
theorem or_sgn (n : Nat) (c : UInt8) (h : n < 72057594037927936) : bits .or .i64 (sgn (n * 256)) ((c.toNat : Nat) : Int) = sgn (n * 256 + c.toNat) := by
  have hc := c.toNat_lt
  obtain ⟨m, hm⟩ : ∃ m, m = n * 256 := ⟨_, rfl⟩
  obtain ⟨k, hk⟩ : ∃ k, k = c.toNat := ⟨_, rfl⟩
  have e2 : m ||| k = m + k := by
    have := Nat.two_pow_add_eq_or_of_lt (i := 8) (b := k) (by omega) n
    rw [hm, Nat.mul_comm n 256]; exact this.symm
  rw [← hk, ← hm]
  have hm2 : m < 18446744073709551616 := by omega
  have e3 : BitVec.ofInt 64 (sgn m) = BitVec.ofNat 64 m := by
    apply BitVec.eq_of_toNat_eq
    rw [BitVec.toNat_ofInt, BitVec.toNat_ofNat]
    unfold sgn wrap64
    omega
  show IntKind.i64.wrap ((BitVec.ofInt 64 (sgn m) ||| BitVec.ofInt 64 (k : Int)).toNat : Int) = _
  rw [e3, BitVec.ofInt_natCast, BitVec.toNat_or, BitVec.toNat_ofNat, BitVec.toNat_ofNat, mod64 m hm2, mod64 k (by omega), e2]
  exact IntWalk.i64_left _
set_option maxRecDepth 100000 in
set_option maxHeartbeats 4000000 in
theorem rnumber_any (p b at_ many : Nat) (d : Dk) (w : World) (hd : RDiskAt w p b d) (ho : d.ok) (hk : at_ + many ≤ 2 * d.size) (h8 : many ≤ 8) :
    Calls Tryd.prog 81 #[.pointer (some ⟨p, 0, none⟩), .int .i64 (at_ : Int), .int .i64 (many : Int)] w fun e w' => e = .returned (.int .i64 (sgn (numL (((d.h0 ++ d.h1).drop at_).take many)))) ∧ w = w' := by
  obtain ⟨L, hL⟩ : ∃ L, L = ((d.h0 ++ d.h1).drop at_).take many := ⟨_, rfl⟩
  have hbl := both_length ho
  have hLl : L.length = many := by rw [hL, List.length_take, List.length_drop, hbl]; omega
  have HC : Hid (∀ (k : Nat) (x : UInt8), L[k]? = some x → w.cell? ⟨b, at_ + k, none⟩ = some (.int .u8 (x.toNat : Int))) := by
    intro k x hk
    refine hd.half.cell _ _ ?_
    rw [hL, List.getElem?_take] at hk
    split at hk
    · rw [List.getElem?_drop] at hk; exact hk
    · cases hk
  obtain ⟨-, k1, -, -, -, -⟩ := four_cells hd.at_
  obtain ⟨S, hS⟩ : ∃ S, S = 2 * d.size := ⟨_, rfl⟩
  have hmx : S ≤ 600000 := by have := ho.hi; omega
  rw [← hS] at k1 hk
  rw [← hL]
  have HLl := Lib.hid hLl
  clear hL hbl hd ho hS hLl
  go_enter Tryd.func81, Tryd.ntmps81
  go_wp2_with fail
  go_loop [7, 8] (fun v i => ∃ k : Nat, k ≤ many ∧ i = .int .i64 ((at_ + k : Nat) : Int) ∧ v = .int .i64 (sgn (numL (L.take k)))) (fun _ i => at_ + many - (intOf i).toNat)
  case atStart => exact ⟨0, Nat.zero_le _, rfl, by rw [show L.take 0 = [] from rfl]; exact congrArg _ (sgn_small 0 (by omega)).symm⟩
  case round =>
    obtain ⟨k, hkm, rfl, rfl⟩ := hrel
    by_cases hlt : k < many
    · obtain ⟨x, hx⟩ : ∃ x, L[k]? = some x := ⟨L[k]'(by rw [HLl.out]; exact hlt), List.getElem?_eq_getElem _⟩
      have hc := HC.out k x hx
      have HX : Hid (L.take (k + 1) = L.take k ++ [x]) := by show _ = _; rw [List.take_add_one, hx]; rfl
      have hb1 : numL (L.take k) < 256 ^ 7 := by
        have h1 := numL_lt (L.take k)
        have h2 : (256 : Nat) ^ (L.take k).length ≤ 256 ^ 7 := Nat.pow_le_pow_right (by decide) (by rw [List.length_take, HLl.out]; omega)
        omega
      obtain ⟨N, hN⟩ : ∃ N, N = numL (L.take k) := ⟨_, rfl⟩
      rw [← hN] at hb1 ⊢
      have HN := Lib.hid hN
      have h256 : (256 : Nat) ^ 7 = 72057594037927936 := by decide
      rw [h256] at hb1
      have hor := or_sgn N x hb1
      obtain ⟨j, hj⟩ : ∃ j, j = at_ + k := ⟨_, rfl⟩
      rw [← hj] at hc ⊢
      have hj1 : (j : Int) < (at_ : Int) + (many : Int) := by omega
      have hj2 : j < S := by omega
      have HJ := Lib.hid hj
      clear hx hN h256 hj
      go_wp2
      go_round
      case rel =>
        refine ⟨k + 1, by omega, by rw [HJ.out]; go_num, ?_⟩
        rw [sgn_mul, wrap_byte, hor, HX.out, numL_snoc, ← HN.out]
      case measure => simp [intOf]; omega
    · obtain rfl : k = many := by omega
      have hT : L.take k = L := by rw [List.take_of_length_le (by rw [HLl.out]; exact Nat.le_refl _)]
      rw [hT]
      clear hT
      go_wp2
      go_ret
      exact ⟨rfl, rfl⟩
end Go.Proofs.YtoggmplkbiidhaaDoor

/- Walks: the reference's disk: eight bytes of a number. -/
namespace Go.Proofs.YtoggmplkbiidhaaDoor
set_option linter.all false
open Go.RowKit Go.Shelf
attribute [local go_sem] Oper.semAt_some
theorem wbyte_nat (n k : Nat) (hn : n < 9223372036854775808) : (wbyte (wof (n : Int)) k).toNat = n / 2 ^ (56 - 8 * k) % 256 := by
  unfold wbyte
  rw [UInt8.toNat_ofNat', wof_toNat n (by omega)]
set_option maxRecDepth 100000 in
set_option maxHeartbeats 4000000 in
theorem reight_any (n : Nat) (hn : n < 9223372036854775808) (w : World) : Calls Tryd.prog 57 #[.int .i64 (n : Int)] w fun e w' => e = .returned (.string (bytesOf (eightL n))) ∧ Below w.heap.size w w' := by
  obtain ⟨i0, hi0, hiz, hiz1, hizb⟩ := info_parts infoByte
  go_enter Tryd.func57, Tryd.ntmps57
  go_wp2_with fail
  go_loopw [3, 4] (fun sv iv wr => ∃ (k : Nat) (va : Option Addr) (vc : Nat), k ≤ 8 ∧ iv = .int .i64 (56 - 8 * (k : Int)) ∧ sv = .slice va k vc ∧ Hid (wr.owns w.heap.size 5 1 (.slice va k vc) k ((wbytes (wof (n : Int)) k).map byteV)) ∧ Hid (Below w.heap.size w wr)) (fun _ iv _ => (64 + intOf iv).toNat)
  case atStart => exact ⟨0, none, 0, by omega, by go_num, rfl, World.owns_nil _ _ _ _, Below.refl _ _⟩
  case round =>
    obtain ⟨k, va, vc, hk, rfl, rfl, hO, hB⟩ := hrel
    have hz := hB.out.size
    by_cases hlt : k < 8
    · have h1 : (0 : Int) ≤ 56 - 8 * (k : Int) := by omega
      have hwb := wbytes_succ (wof (n : Int)) k
      have hwn := wbyte_nat n k hn
      have HWB := Lib.hid hwb
      obtain ⟨c, hc⟩ : ∃ c, c = wbyte (wof (n : Int)) k := ⟨_, rfl⟩
      rw [← hc] at hwn
      have HC := Lib.hid hc
      clear hwb hc
      have h8 : k = 0 ∨ k = 1 ∨ k = 2 ∨ k = 3 ∨ k = 4 ∨ k = 5 ∨ k = 6 ∨ k = 7 := by omega
      have hbt : (k = 0 → (n : Int) / 72057594037927936 = (c.toNat : Int)) ∧ (k = 1 → (n : Int) / 281474976710656 % 256 = (c.toNat : Int)) ∧ (k = 2 → (n : Int) / 1099511627776 % 256 = (c.toNat : Int)) ∧ (k = 3 → (n : Int) / 4294967296 % 256 = (c.toNat : Int)) ∧ (k = 4 → (n : Int) / 16777216 % 256 = (c.toNat : Int)) ∧ (k = 5 → (n : Int) / 65536 % 256 = (c.toNat : Int)) ∧ (k = 6 → (n : Int) / 256 % 256 = (c.toNat : Int)) ∧ (k = 7 → (n : Int) % 256 = (c.toNat : Int)) := by
        refine ⟨?_, ?_, ?_, ?_, ?_, ?_, ?_, ?_⟩ <;> (rintro rfl; simp at hwn; omega)
      obtain ⟨t0, t1, t2, t3, t4, t5, t6, t7⟩ := hbt
      rcases h8 with rfl | rfl | rfl | rfl | rfl | rfl | rfl | rfl
      · have hb := t0 rfl
        clear t0 t1 t2 t3 t4 t5 t6 t7 hwn
        go_wp2_with (at_builtin; refine wpList_append1 (W := wr) rfl (.tmp 9) (.tmp 14) 64 rfl w.heap.size 5 i0 (.int .u8 0) 1 Tryd.underlying64 hi0 hiz hiz1 hizb rfl (.slice va 0 vc) 0 ((wbytes (wof (n : Int)) 0).map byteV) rfl hO.out (byteV c) wr.heap.size rfl rfl rfl (by unfold maxLen; omega) (by omega) hz ?_; intro v5 w5 hown5 hg5a hg5 hz5; have HO5 := Lib.hid hown5; obtain ⟨g5, q5, rfl⟩ := hown5.succ; have HB5 := Lib.hid (hB.out.trans (below_grown hO.out hg5 w.heap.size (Nat.le_refl _) hz)); clear hown5 hg5a hg5)
        go_roundw
        case rel =>
          refine ⟨1, some ⟨g5, 0, none⟩, q5, by omega, by go_num, rfl, ?_, HB5.out⟩
          show w5.owns _ _ _ _ _ _
          rw [HWB.out, List.map_append, ← HC.out]
          exact HO5.out
        case measure => simp [intOf]
      · have hb := t1 rfl
        clear t0 t1 t2 t3 t4 t5 t6 t7 hwn
        go_wp2_with (at_builtin; refine wpList_append1 (W := wr) rfl (.tmp 9) (.tmp 14) 64 rfl w.heap.size 5 i0 (.int .u8 0) 1 Tryd.underlying64 hi0 hiz hiz1 hizb rfl (.slice va 1 vc) 1 ((wbytes (wof (n : Int)) 1).map byteV) rfl hO.out (byteV c) wr.heap.size rfl rfl rfl (by unfold maxLen; omega) (by omega) hz ?_; intro v5 w5 hown5 hg5a hg5 hz5; have HO5 := Lib.hid hown5; obtain ⟨g5, q5, rfl⟩ := hown5.succ; have HB5 := Lib.hid (hB.out.trans (below_grown hO.out hg5 w.heap.size (Nat.le_refl _) hz)); clear hown5 hg5a hg5)
        go_roundw
        case rel =>
          refine ⟨2, some ⟨g5, 0, none⟩, q5, by omega, by go_num, rfl, ?_, HB5.out⟩
          show w5.owns _ _ _ _ _ _
          rw [HWB.out, List.map_append, ← HC.out]
          exact HO5.out
        case measure => simp [intOf]
      · have hb := t2 rfl
        clear t0 t1 t2 t3 t4 t5 t6 t7 hwn
        go_wp2_with (at_builtin; refine wpList_append1 (W := wr) rfl (.tmp 9) (.tmp 14) 64 rfl w.heap.size 5 i0 (.int .u8 0) 1 Tryd.underlying64 hi0 hiz hiz1 hizb rfl (.slice va 2 vc) 2 ((wbytes (wof (n : Int)) 2).map byteV) rfl hO.out (byteV c) wr.heap.size rfl rfl rfl (by unfold maxLen; omega) (by omega) hz ?_; intro v5 w5 hown5 hg5a hg5 hz5; have HO5 := Lib.hid hown5; obtain ⟨g5, q5, rfl⟩ := hown5.succ; have HB5 := Lib.hid (hB.out.trans (below_grown hO.out hg5 w.heap.size (Nat.le_refl _) hz)); clear hown5 hg5a hg5)
        go_roundw
        case rel =>
          refine ⟨3, some ⟨g5, 0, none⟩, q5, by omega, by go_num, rfl, ?_, HB5.out⟩
          show w5.owns _ _ _ _ _ _
          rw [HWB.out, List.map_append, ← HC.out]
          exact HO5.out
        case measure => simp [intOf]
      · have hb := t3 rfl
        clear t0 t1 t2 t3 t4 t5 t6 t7 hwn
        go_wp2_with (at_builtin; refine wpList_append1 (W := wr) rfl (.tmp 9) (.tmp 14) 64 rfl w.heap.size 5 i0 (.int .u8 0) 1 Tryd.underlying64 hi0 hiz hiz1 hizb rfl (.slice va 3 vc) 3 ((wbytes (wof (n : Int)) 3).map byteV) rfl hO.out (byteV c) wr.heap.size rfl rfl rfl (by unfold maxLen; omega) (by omega) hz ?_; intro v5 w5 hown5 hg5a hg5 hz5; have HO5 := Lib.hid hown5; obtain ⟨g5, q5, rfl⟩ := hown5.succ; have HB5 := Lib.hid (hB.out.trans (below_grown hO.out hg5 w.heap.size (Nat.le_refl _) hz)); clear hown5 hg5a hg5)
        go_roundw
        case rel =>
          refine ⟨4, some ⟨g5, 0, none⟩, q5, by omega, by go_num, rfl, ?_, HB5.out⟩
          show w5.owns _ _ _ _ _ _
          rw [HWB.out, List.map_append, ← HC.out]
          exact HO5.out
        case measure => simp [intOf]
      · have hb := t4 rfl
        clear t0 t1 t2 t3 t4 t5 t6 t7 hwn
        go_wp2_with (at_builtin; refine wpList_append1 (W := wr) rfl (.tmp 9) (.tmp 14) 64 rfl w.heap.size 5 i0 (.int .u8 0) 1 Tryd.underlying64 hi0 hiz hiz1 hizb rfl (.slice va 4 vc) 4 ((wbytes (wof (n : Int)) 4).map byteV) rfl hO.out (byteV c) wr.heap.size rfl rfl rfl (by unfold maxLen; omega) (by omega) hz ?_; intro v5 w5 hown5 hg5a hg5 hz5; have HO5 := Lib.hid hown5; obtain ⟨g5, q5, rfl⟩ := hown5.succ; have HB5 := Lib.hid (hB.out.trans (below_grown hO.out hg5 w.heap.size (Nat.le_refl _) hz)); clear hown5 hg5a hg5)
        go_roundw
        case rel =>
          refine ⟨5, some ⟨g5, 0, none⟩, q5, by omega, by go_num, rfl, ?_, HB5.out⟩
          show w5.owns _ _ _ _ _ _
          rw [HWB.out, List.map_append, ← HC.out]
          exact HO5.out
        case measure => simp [intOf]
      · have hb := t5 rfl
        clear t0 t1 t2 t3 t4 t5 t6 t7 hwn
        go_wp2_with (at_builtin; refine wpList_append1 (W := wr) rfl (.tmp 9) (.tmp 14) 64 rfl w.heap.size 5 i0 (.int .u8 0) 1 Tryd.underlying64 hi0 hiz hiz1 hizb rfl (.slice va 5 vc) 5 ((wbytes (wof (n : Int)) 5).map byteV) rfl hO.out (byteV c) wr.heap.size rfl rfl rfl (by unfold maxLen; omega) (by omega) hz ?_; intro v5 w5 hown5 hg5a hg5 hz5; have HO5 := Lib.hid hown5; obtain ⟨g5, q5, rfl⟩ := hown5.succ; have HB5 := Lib.hid (hB.out.trans (below_grown hO.out hg5 w.heap.size (Nat.le_refl _) hz)); clear hown5 hg5a hg5)
        go_roundw
        case rel =>
          refine ⟨6, some ⟨g5, 0, none⟩, q5, by omega, by go_num, rfl, ?_, HB5.out⟩
          show w5.owns _ _ _ _ _ _
          rw [HWB.out, List.map_append, ← HC.out]
          exact HO5.out
        case measure => simp [intOf]
      · have hb := t6 rfl
        clear t0 t1 t2 t3 t4 t5 t6 t7 hwn
        go_wp2_with (at_builtin; refine wpList_append1 (W := wr) rfl (.tmp 9) (.tmp 14) 64 rfl w.heap.size 5 i0 (.int .u8 0) 1 Tryd.underlying64 hi0 hiz hiz1 hizb rfl (.slice va 6 vc) 6 ((wbytes (wof (n : Int)) 6).map byteV) rfl hO.out (byteV c) wr.heap.size rfl rfl rfl (by unfold maxLen; omega) (by omega) hz ?_; intro v5 w5 hown5 hg5a hg5 hz5; have HO5 := Lib.hid hown5; obtain ⟨g5, q5, rfl⟩ := hown5.succ; have HB5 := Lib.hid (hB.out.trans (below_grown hO.out hg5 w.heap.size (Nat.le_refl _) hz)); clear hown5 hg5a hg5)
        go_roundw
        case rel =>
          refine ⟨7, some ⟨g5, 0, none⟩, q5, by omega, by go_num, rfl, ?_, HB5.out⟩
          show w5.owns _ _ _ _ _ _
          rw [HWB.out, List.map_append, ← HC.out]
          exact HO5.out
        case measure => simp [intOf]
      · have hb := t7 rfl
        clear t0 t1 t2 t3 t4 t5 t6 t7 hwn
        go_wp2_with (at_builtin; refine wpList_append1 (W := wr) rfl (.tmp 9) (.tmp 14) 64 rfl w.heap.size 5 i0 (.int .u8 0) 1 Tryd.underlying64 hi0 hiz hiz1 hizb rfl (.slice va 7 vc) 7 ((wbytes (wof (n : Int)) 7).map byteV) rfl hO.out (byteV c) wr.heap.size rfl rfl rfl (by unfold maxLen; omega) (by omega) hz ?_; intro v5 w5 hown5 hg5a hg5 hz5; have HO5 := Lib.hid hown5; obtain ⟨g5, q5, rfl⟩ := hown5.succ; have HB5 := Lib.hid (hB.out.trans (below_grown hO.out hg5 w.heap.size (Nat.le_refl _) hz)); clear hown5 hg5a hg5)
        go_roundw
        case rel =>
          refine ⟨8, some ⟨g5, 0, none⟩, q5, by omega, by go_num, rfl, ?_, HB5.out⟩
          show w5.owns _ _ _ _ _ _
          rw [HWB.out, List.map_append, ← HC.out]
          exact HO5.out
        case measure => simp [intOf]
    · obtain rfl : k = 8 := by omega
      have h1 : ¬ (0 : Int) ≤ 56 - 8 * ((8 : Nat) : Int) := by omega
      obtain ⟨ga, cc, he⟩ := hO.out.succ
      injection he with he1 he2 he3
      subst he1
      clear he2 he3
      have hcv := run_owns_string (P := Tryd.prog) (w := wr) (m := 8) 64 9 5 Tryd.underlying64 Tryd.underlying5 Tryd.underlying9 hO.out (by rw [wbytes_length]; omega) vc
      have ht : (wbytes (wof (n : Int)) 8).take 8 = eightL n := by unfold eightL; rw [List.take_of_length_le (by rw [wbytes_length]; omega)]
      rw [ht] at hcv
      go_wp2
      go_ret
      exact ⟨rfl, hB.out⟩
end Go.Proofs.YtoggmplkbiidhaaDoor

/- Walks: the reference's disk: a record's bytes; a half's generation. -/
namespace Go.Proofs.YtoggmplkbiidhaaDoor
set_option linter.all false
open Go.RowKit Go.Shelf
theorem refShortN_any (l : List UInt8) (hl : l.length ≤ 1000000) (w : World) : Calls Tryd.prog 58 #[.string (bytesOf l)] w fun e w' => e = .returned (.string (bytesOf (shortL l))) ∧ Below w.heap.size w w' :=
  refShort_any (bytesOf l) (by rw [bytesOf_size]; omega) w
/-- The half of a number. -/
def Dk.hf (d : Dk) (half : Nat) : List UInt8 := if half = 1 then d.h1 else d.h0
theorem hf_length {d : Dk} (ho : d.ok) (half : Nat) : (d.hf half).length = d.size := by unfold Dk.hf; split; exact ho.l1; exact ho.l0
theorem both_get {d : Dk} (ho : d.ok) (half : Nat) (hh : half ≤ 1) (i : Nat) (hi : i < d.size) : (d.h0 ++ d.h1)[half * d.size + i]? = (d.hf half)[i]? := by
  have h2 : half = 0 ∨ half = 1 := by omega
  rcases h2 with rfl | rfl
  · rw [Nat.zero_mul, Nat.zero_add, List.getElem?_append_left (by rw [ho.l0]; exact hi)]; rfl
  · rw [Nat.one_mul, List.getElem?_append_right (by rw [ho.l0]; omega), ho.l0, Nat.add_sub_cancel_left]; rfl
theorem both_take {d : Dk} (ho : d.ok) (half : Nat) (hh : half ≤ 1) (o m : Nat) (hm : o + m ≤ d.size) : ((d.h0 ++ d.h1).drop (half * d.size + o)).take m = ((d.hf half).drop o).take m := by
  apply List.ext_getElem?
  intro i
  rw [List.getElem?_take, List.getElem?_take]
  split
  · rw [List.getElem?_drop, List.getElem?_drop, Nat.add_assoc, both_get ho half hh (o + i) (by omega)]
  · rfl
set_option maxRecDepth 100000 in
set_option maxHeartbeats 4000000 in
theorem rbody_any (g at_ : Nat) (data : List UInt8) (hg : g < 9223372036854775808) (hat : at_ ≤ 1000000) (hd : data.length ≤ 65535) (w : World) :
    Calls Tryd.prog 62 #[.int .i64 (g : Int), .int .i64 (at_ : Int), .string (bytesOf data)] w fun e w' => e = .returned (.string (bytesOf (bodyL g at_ data))) ∧ Below w.heap.size w w' := by
  obtain ⟨n, hn⟩ : ∃ n, n = data.length := ⟨_, rfl⟩
  have hs : (bytesOf data).size = n := by rw [hn]; rfl
  have hs1 : ((bytesOf data).size : Int) = (n : Int) := by rw [hs]
  have HN := Lib.hid hn
  have a1 := eight_size
  have a2 := eight_cut
  have a3 := bytesOf_append
  have a4 : ∀ x, (bytesOf ((eightL x).drop 4)).size = 4 := fun x => by show ((eightL x).drop 4).length = 4; rw [List.length_drop, eightL_length]
  have z2 : (bytesOf ((eightL n).drop 4 ++ data)).size = 4 + n := by show ((eightL n).drop 4 ++ data).length = _; rw [List.length_append, List.length_drop, eightL_length, ← hn]
  have z3 : (bytesOf (eightL g ++ (eightL at_).drop 4)).size = 12 := by show (eightL g ++ (eightL at_).drop 4).length = _; rw [List.length_append, List.length_drop, eightL_length, eightL_length]
  have z4 : ∀ l, (bytesOf (shortL l)).size = 8 := fun l => shortL_length l
  have c1 : ¬ 9223372036854775807 < 4 + n := by omega
  have c2 : ¬ 9223372036854775807 < 12 + n := by omega
  have c3 : ¬ 9223372036854775807 < 4 + n + 8 := by omega
  clear hn
  go_enter Tryd.func62, Tryd.ntmps62
  go_wp2_with fail
  refine (reight_any at_ (by omega) _).mono ?_
  rintro e w1 ⟨rfl, hb1⟩
  go_wp2_with fail
  refine wp_region_heldL (fun _ => True) (by kernel_rfl) trivial (fun hS => ?_)
  refine wpAnyH_takeL 0 (v := ?_) (by kernel_rfl) rfl (by kernel_rfl) (by kernel_rfl) (fun _ _ _ h => h) (Or.inl ⟨by rfl, ?_⟩) (by assumption) ?_
  rotate_left
  · (intro wq hSq; (try dsimp only at hSq); go_simp; try with_reducible rfl)
  try simp only [Act.put, List.setIfInBounds_toArray, List.set_cons_zero, List.set_cons_succ]
  refine wpAnyH_takeL 1 (v := ?_) (by kernel_rfl) rfl (by kernel_rfl) (by kernel_rfl) (fun _ _ _ h => h) (Or.inl ⟨by rfl, ?_⟩) (by assumption) ?_
  rotate_left
  · (intro wq hSq; (try dsimp only at hSq); go_simp; try with_reducible rfl)
  try simp only [Act.put, List.setIfInBounds_toArray, List.set_cons_zero, List.set_cons_succ]
  refine wpAnyH_takeL 4 (v := ?_) (by kernel_rfl) rfl (by kernel_rfl) (by kernel_rfl) (fun _ _ _ h => h) (Or.inl ⟨by rfl, ?_⟩) (by assumption) ?_
  rotate_left
  · (intro wq hSq; (try dsimp only at hSq); go_simp; try with_reducible rfl)
  try simp only [Act.put, List.setIfInBounds_toArray, List.set_cons_zero, List.set_cons_succ]
  refine wpAnyH_takeL 6 (v := ?_) (by kernel_rfl) rfl (by kernel_rfl) (by kernel_rfl) (fun _ _ _ h => h) (Or.inl ⟨by rfl, ?_⟩) (by assumption) ?_
  rotate_left
  · (intro wq hSq; (try dsimp only at hSq); go_simp; try with_reducible rfl)
  try simp only [Act.put, List.setIfInBounds_toArray, List.set_cons_zero, List.set_cons_succ]
  refine wpAnyH_takeL 8 (v := ?_) (by kernel_rfl) rfl (by kernel_rfl) (by kernel_rfl) (fun _ _ _ h => h) (Or.inl ⟨by rfl, ?_⟩) (by assumption) ?_
  rotate_left
  · (intro wq hSq; (try dsimp only at hSq); go_simp; try with_reducible rfl)
  try simp only [Act.put, List.setIfInBounds_toArray, List.set_cons_zero, List.set_cons_succ]
  refine wpAnyH_takeL 10 (v := ?_) (by kernel_rfl) rfl (by kernel_rfl) (by kernel_rfl) (fun _ _ _ h => h) (Or.inl ⟨by rfl, ?_⟩) (by assumption) ?_
  rotate_left
  · (intro wq hSq; (try dsimp only at hSq); go_simp; try with_reducible rfl)
  try simp only [Act.put, List.setIfInBounds_toArray, List.set_cons_zero, List.set_cons_succ]
  refine wpAnyH_stepL 2 (by kernel_rfl) rfl (fun K hK => ?_)
  go_simp
  go_at_call 57
  refine (reight_any n (by have := HN.out; omega) _).mono ?_
  rintro e w2 ⟨rfl, hb2d⟩
  have hb2 : Below w.heap.size w w2 := hb1.trans ((((Below.refl w1.heap.size w1).drew).trans hb2d).mono hb1.size)
  refine hK.out _ _ trivial (fun _ => ?_)
  clear hK K
  try simp only [Act.put, List.setIfInBounds_toArray, List.set_cons_zero, List.set_cons_succ]
  refine wpAnyH_takeL 3 (v := ?_) (by kernel_rfl) rfl (by kernel_rfl) (by kernel_rfl) (fun _ _ _ h => h) (Or.inl ⟨by rfl, ?_⟩) (by assumption) ?_
  rotate_left
  · (intro wq hSq; (try dsimp only at hSq); go_simp; try with_reducible rfl)
  try simp only [Act.put, List.setIfInBounds_toArray, List.set_cons_zero, List.set_cons_succ]
  refine wpAnyH_takeL 5 (v := ?_) (by kernel_rfl) rfl (by kernel_rfl) (by kernel_rfl) (fun _ _ _ h => h) (Or.inl ⟨by rfl, ?_⟩) (by assumption) ?_
  rotate_left
  · (intro wq hSq; (try dsimp only at hSq); go_simp; try with_reducible rfl)
  try simp only [Act.put, List.setIfInBounds_toArray, List.set_cons_zero, List.set_cons_succ]
  refine wpAnyH_stepL 7 (by kernel_rfl) rfl (fun K hK => ?_)
  go_simp
  go_at_call 57
  refine (reight_any g hg _).mono ?_
  rintro e w3 ⟨rfl, hb3d⟩
  have hb3 := hb2.trans (hb3d.mono hb2.size)
  refine hK.out _ _ trivial (fun _ => ?_)
  clear hK K
  try simp only [Act.put, List.setIfInBounds_toArray, List.set_cons_zero, List.set_cons_succ]
  refine wpAnyH_takeL 9 (v := ?_) (by kernel_rfl) rfl (by kernel_rfl) (by kernel_rfl) (fun _ _ _ h => h) (Or.inl ⟨by rfl, ?_⟩) (by assumption) ?_
  rotate_left
  · (intro wq hSq; (try dsimp only at hSq); go_simp; try with_reducible rfl)
  try simp only [Act.put, List.setIfInBounds_toArray, List.set_cons_zero, List.set_cons_succ]
  refine wpAnyH_takeL 11 (v := ?_) (by kernel_rfl) rfl (by kernel_rfl) (by kernel_rfl) (fun _ _ _ h => h) (Or.inl ⟨by rfl, ?_⟩) (by assumption) ?_
  rotate_left
  · (intro wq hSq; (try dsimp only at hSq); go_simp; try with_reducible rfl)
  try simp only [Act.put, List.setIfInBounds_toArray, List.set_cons_zero, List.set_cons_succ]
  refine wpAnyH_stepL 12 (by kernel_rfl) rfl (fun K hK => ?_)
  go_simp
  go_at_call 58
  refine (refShortN_any (eightL g ++ (eightL at_).drop 4 ++ data) (by rw [List.length_append, List.length_append, List.length_drop, eightL_length, eightL_length]; have := HN.out; omega) _).mono ?_
  rintro e w5 ⟨rfl, hb5d⟩
  have hb5 := hb3.trans (hb5d.mono hb3.size)
  refine hK.out _ _ trivial (fun _ => ?_)
  clear hK K
  try simp only [Act.put, List.setIfInBounds_toArray, List.set_cons_zero, List.set_cons_succ]
  refine wpAnyH_takeL 13 (v := ?_) (by kernel_rfl) rfl (by kernel_rfl) (by kernel_rfl) (fun _ _ _ h => h) (Or.inl ⟨by rfl, ?_⟩) (by assumption) ?_
  rotate_left
  · (intro wq hSq; (try dsimp only at hSq); go_simp; try with_reducible rfl)
  try simp only [Act.put, List.setIfInBounds_toArray, List.set_cons_zero, List.set_cons_succ]
  refine wpAnyH_takeL 14 (v := ?_) (by kernel_rfl) rfl (by kernel_rfl) (by kernel_rfl) (fun _ _ _ h => h) (Or.inl ⟨by rfl, ?_⟩) (by assumption) ?_
  rotate_left
  · (intro wq hSq; (try dsimp only at hSq); go_simp; try with_reducible rfl)
  try simp only [Act.put, List.setIfInBounds_toArray, List.set_cons_zero, List.set_cons_succ]
  refine wpAnyH_end (by kernel_rfl) ?_
  go_wp2
  go_ret
  refine ⟨?_, hb5⟩
  rw [HN.out]
  rfl
end Go.Proofs.YtoggmplkbiidhaaDoor

/- Walks: the reference's disk: the generation of a half; which is active. -/
namespace Go.Proofs.YtoggmplkbiidhaaDoor
set_option linter.all false
open Go.RowKit Go.Shelf
theorem sgn_low {z : Int} {g : Nat} (hz : z = sgn g) (h : g = 0 ∨ 9223372036854775808 ≤ g) (h2 : g < 18446744073709551616) : z < 1 := by
  rw [hz]
  rcases h with h | h
  · rw [h, sgn_small 0 (by omega)]; omega
  · exact Int.lt_trans (sgn_big g h h2) (by decide)
set_option maxRecDepth 100000 in
set_option maxHeartbeats 40000000 in
theorem rgeneration_any (p b half : Nat) (hh : half ≤ 1) (d : Dk) (w : World) (hd : RDiskAt w p b d) (ho : d.ok) :
    Calls Tryd.prog 80 #[.pointer (some ⟨p, 0, none⟩), .int .i64 (half : Int)] w fun e w' => e = .returned (.int .i64 (genL (d.hf half) : Int)) ∧ Below w.heap.size w w' := by
  obtain ⟨r, hr⟩ : ∃ r, r = genL (d.hf half) := ⟨_, rfl⟩
  rw [← hr]
  obtain ⟨A, hA⟩ : ∃ A, A = half * d.size := ⟨_, rfl⟩
  have hlo := ho.lo
  have hhi := ho.hi
  have hAb : A + d.size ≤ 2 * d.size := by
    rw [hA]
    rcases (show half = 0 ∨ half = 1 by omega) with rfl | rfl <;> omega
  have hmul : (half : Int) * (d.size : Int) = (A : Int) := by rw [hA]; push_cast; rfl
  have hxl := hf_length ho half
  obtain ⟨X, hX⟩ : ∃ X, X = d.hf half := ⟨_, rfl⟩
  obtain ⟨x0, hx0⟩ : ∃ x, X[0]? = some x := ⟨X[0]'(by rw [hX, hxl]; omega), List.getElem?_eq_getElem _⟩
  obtain ⟨g, hg⟩ : ∃ g, g = numL ((X.drop 1).take 8) := ⟨_, rfl⟩
  obtain ⟨t9, ht9⟩ : ∃ t, t = (X.drop 9).take 8 := ⟨_, rfl⟩
  have e8 := both_take ho half hh 1 8 (by omega)
  have e9 := both_take ho half hh 9 8 (by omega)
  have e0 := both_get ho half hh 0 (by omega)
  rw [← hA, ← hX] at e8 e9 e0
  rw [Nat.add_zero, hx0] at e0
  rw [← hX] at hr
  unfold genL genB at hr
  rw [List.getD_eq_getElem?_getD, hx0, Option.getD_some, ← hg, ← ht9] at hr
  have hg8 := numL_lt ((X.drop 1).take 8)
  rw [show ((X.drop 1).take 8).length = 8 by rw [List.length_take, List.length_drop, hX, hxl]; omega, ← hg] at hg8
  have hg64 : g < 18446744073709551616 := by
    have : (256 : Nat) ^ 8 = 18446744073709551616 := by simp
    omega
  have hbl := both_length ho
  have HNN := Lib.hid (rnumber_any p b (A + 1) 8 d w hd ho (by omega) (by omega))
  rw [e8, ← hg] at HNN
  have HT : Hid (∀ W, RDiskAt W p b d → ∀ c, (convert 64 9 (.slice (some ⟨b, A + 9, none⟩) 8 c)).run Tryd.prog W = .ok (.string (bytesOf t9)) W) := by
    intro W hW c
    have := hW.half.text (A + 9) 8 (by rw [hbl]; omega) c
    rw [e9, ← ht9] at this; exact this
  have HC : Hid (∀ W, RDiskAt W p b d → W.cell? ⟨b, A, none⟩ = some (.int .u8 (x0.toNat : Int))) := fun W hW => hW.half.cell A x0 e0
  obtain ⟨S, hS⟩ : ∃ S, S = 2 * d.size := ⟨_, rfl⟩
  have HK : Hid (∀ W, RDiskAt W p b d → W.cell? ⟨p, 1, none⟩ = some (.slice (some ⟨b, 0, none⟩) S S)) := fun W hW => by rw [hS]; exact (four_cells hW.at_).2.1
  obtain ⟨k0, -, -, -, -, -⟩ := four_cells hd.at_
  obtain ⟨A9, hA9⟩ : ∃ x, x = A + 9 := ⟨_, rfl⟩
  obtain ⟨A17, hA17⟩ : ∃ x, x = A + 17 := ⟨_, rfl⟩
  rw [← hA9] at HT
  have hw9 : IntKind.i64.wrap ((A : Int) + 9) = (A9 : Int) := by rw [IntWalk.i64_in _ ⟨by omega, by omega⟩]; omega
  have hw17 : IntKind.i64.wrap ((A : Int) + 17) = (A17 : Int) := by rw [IntWalk.i64_in _ ⟨by omega, by omega⟩]; omega
  have i1 : A9 ≤ A17 := by omega
  have i2 : A17 ≤ S := by omega
  have i3 : A17 - A9 = 8 := by omega
  have i4 : ¬ S = A9 := by omega
  have i5 : A < S := by omega
  have i6 : (A9 : Int) ≤ (A17 : Int) := by omega
  have i7 : (A17 : Int) ≤ (S : Int) := by omega
  have i8 : (A : Int) < (S : Int) := by omega
  have hAm : A ≤ 300000 := by omega
  have HD := Lib.hid hd
  have HR := Lib.hid hr
  have HG := Lib.hid hg
  clear hr hA hAb hxl hX hx0 hg ht9 e8 e9 e0 hg8 hbl hS hA9 hA17 hd
  obtain ⟨z, hz⟩ : ∃ z, z = sgn g := ⟨_, rfl⟩
  rw [← hz] at HNN
  have HZ := Lib.hid hz
  clear hz
  go_enter Tryd.func80, Tryd.ntmps80
  go_wp2_with fail
  refine HNN.out.mono ?_
  rintro e w' ⟨rfl, rfl⟩
  go_upto_region 3 with (fail)
  have k1 := HK.out w.drew HD.out.drew
  have hc := HC.out w.drew HD.out.drew
  have hS0 := HT.out w.drew HD.out.drew
  by_cases h1 : x0 = 1
  case neg =>
    have t1 : ((x0.toNat : Int) != 1) = true := by
      rw [bne_iff_ne]
      intro h
      exact h1 (UInt8.toNat_inj.1 (by show x0.toNat = 1; omega))
    obtain rfl : r = 0 := by rw [HR.out]; simp [h1]
    refine wp_region_heldL (fun w' => w'.cell? ⟨p, 1, none⟩ = some (.slice (some ⟨b, 0, none⟩) S S) ∧ w'.cell? ⟨b, A, none⟩ = some (.int .u8 (x0.toNat : Int))) (by kernel_rfl) ⟨k1, hc⟩ (fun hS => ?_)
    refine wpAnyH_takeL 0 (v := ?_) (by kernel_rfl) rfl (by kernel_rfl) (by kernel_rfl) (fun _ _ _ h => h) (Or.inl ⟨by rfl, ?_⟩) (by assumption) ?_
    rotate_left
    · (intro wq hSq; (try dsimp only at hSq); go_simp; try with_reducible rfl)
    try simp only [Act.put, List.setIfInBounds_toArray, List.set_cons_zero, List.set_cons_succ]
    refine wpAnyH_takeL 1 (v := ?_) (by kernel_rfl) rfl (by kernel_rfl) (by kernel_rfl) (fun _ _ _ h => h) (Or.inl ⟨by rfl, ?_⟩) (by assumption) ?_
    rotate_left
    · (intro wq hSq; (try dsimp only at hSq); go_simp; try with_reducible rfl)
    try simp only [Act.put, List.setIfInBounds_toArray, List.set_cons_zero, List.set_cons_succ]
    refine wpAnyH_takeL 2 (v := ?_) (by kernel_rfl) rfl (by kernel_rfl) (by kernel_rfl) (fun _ _ _ h => h) (Or.inl ⟨by rfl, ?_⟩) (by assumption) ?_
    rotate_left
    · (intro wq hSq; (try dsimp only at hSq); go_simp; try with_reducible rfl)
    try simp only [Act.put, List.setIfInBounds_toArray, List.set_cons_zero, List.set_cons_succ]
    refine wpAnyH_takeL 3 (v := ?_) (by kernel_rfl) rfl (by kernel_rfl) (by kernel_rfl) (fun _ _ _ h => h) (Or.inl ⟨by rfl, ?_⟩) (by assumption) ?_
    rotate_left
    · (intro wq hSq; (try dsimp only at hSq); go_simp; try with_reducible rfl)
    try simp only [Act.put, List.setIfInBounds_toArray, List.set_cons_zero, List.set_cons_succ]
    refine wpAnyH_takeL 4 (v := ?_) (by kernel_rfl) rfl (by kernel_rfl) (by kernel_rfl) (fun _ _ _ h => h) (Or.inl ⟨by rfl, ?_⟩) (by assumption) ?_
    rotate_left
    · (intro wq hSq; (try dsimp only at hSq); go_simp; try with_reducible rfl)
    try simp only [Act.put, List.setIfInBounds_toArray, List.set_cons_zero, List.set_cons_succ]
    refine wpAnyH_takeL 5 (v := ?_) (by kernel_rfl) rfl (by kernel_rfl) (by kernel_rfl) (fun _ _ _ h => h) (Or.inl ⟨by rfl, ?_⟩) (by assumption) ?_
    rotate_left
    · (intro wq hSq; (try dsimp only at hSq); go_simp; try with_reducible rfl)
    try simp only [Act.put, List.setIfInBounds_toArray, List.set_cons_zero, List.set_cons_succ]
    refine wpAnyH_takeL 6 (v := ?_) (by kernel_rfl) rfl (by kernel_rfl) (by kernel_rfl) (fun _ _ _ h => h) (Or.inl ⟨by rfl, ?_⟩) (by assumption) ?_
    rotate_left
    · (intro wq hSq; (try dsimp only at hSq); go_simp; try with_reducible rfl)
    try simp only [Act.put, List.setIfInBounds_toArray, List.set_cons_zero, List.set_cons_succ]
    refine wpAnyH_takeL 7 (v := ?_) (by kernel_rfl) rfl (by kernel_rfl) (by kernel_rfl) (fun _ _ _ h => h) (Or.inl ⟨by rfl, ?_⟩) (by assumption) ?_
    rotate_left
    · (intro wq hSq; (try dsimp only at hSq); go_simp; try with_reducible rfl)
    try simp only [Act.put, List.setIfInBounds_toArray, List.set_cons_zero, List.set_cons_succ]
    refine wpAnyH_takeL 8 (v := ?_) (by kernel_rfl) rfl (by kernel_rfl) (by kernel_rfl) (fun _ _ _ h => h) (Or.inl ⟨by rfl, ?_⟩) (by assumption) ?_
    rotate_left
    · (intro wq hSq; (try dsimp only at hSq); go_simp; try with_reducible rfl)
    try simp only [Act.put, List.setIfInBounds_toArray, List.set_cons_zero, List.set_cons_succ]
    refine wpAnyH_takeL 9 (v := undef) (by kernel_rfl) rfl (by kernel_rfl) (by kernel_rfl) (fun _ _ _ h => h) (Or.inr ⟨by rfl, rfl⟩) (by assumption) ?_
    try simp only [Act.put, List.setIfInBounds_toArray, List.set_cons_zero, List.set_cons_succ]
    refine wpAnyH_takeL 10 (v := undef) (by kernel_rfl) rfl (by kernel_rfl) (by kernel_rfl) (fun _ _ _ h => h) (Or.inr ⟨by rfl, rfl⟩) (by assumption) ?_
    try simp only [Act.put, List.setIfInBounds_toArray, List.set_cons_zero, List.set_cons_succ]
    refine wpAnyH_takeL 11 (v := ?_) (by kernel_rfl) rfl (by kernel_rfl) (by kernel_rfl) (fun _ _ _ h => h) (Or.inl ⟨by rfl, ?_⟩) (by assumption) ?_
    rotate_left
    · (intro wq hSq; (try dsimp only at hSq); go_simp; try with_reducible rfl)
    try simp only [Act.put, List.setIfInBounds_toArray, List.set_cons_zero, List.set_cons_succ]
    refine wpAnyH_takeL 12 (v := ?_) (by kernel_rfl) rfl (by kernel_rfl) (by kernel_rfl) (fun _ _ _ h => h) (Or.inl ⟨by rfl, ?_⟩) (by assumption) ?_
    rotate_left
    · (intro wq hSq; (try dsimp only at hSq); go_simp; try with_reducible rfl)
    try simp only [Act.put, List.setIfInBounds_toArray, List.set_cons_zero, List.set_cons_succ]
    refine wpAnyH_takeL 13 (v := undef) (by kernel_rfl) rfl (by kernel_rfl) (by kernel_rfl) (fun _ _ _ h => h) (Or.inr ⟨by rfl, rfl⟩) (by assumption) ?_
    try simp only [Act.put, List.setIfInBounds_toArray, List.set_cons_zero, List.set_cons_succ]
    refine wpAnyH_takeL 14 (v := undef) (by kernel_rfl) rfl (by kernel_rfl) (by kernel_rfl) (fun _ _ _ h => h) (Or.inr ⟨by rfl, rfl⟩) (by assumption) ?_
    try simp only [Act.put, List.setIfInBounds_toArray, List.set_cons_zero, List.set_cons_succ]
    refine wpAnyH_takeL 15 (v := undef) (by kernel_rfl) rfl (by kernel_rfl) (by kernel_rfl) (fun _ _ _ h => h) (Or.inr ⟨by rfl, rfl⟩) (by assumption) ?_
    try simp only [Act.put, List.setIfInBounds_toArray, List.set_cons_zero, List.set_cons_succ]
    refine wpAnyH_takeL 16 (v := undef) (by kernel_rfl) rfl (by kernel_rfl) (by kernel_rfl) (fun _ _ _ h => h) (Or.inr ⟨by rfl, rfl⟩) (by assumption) ?_
    try simp only [Act.put, List.setIfInBounds_toArray, List.set_cons_zero, List.set_cons_succ]
    refine wpAnyH_takeL 17 (v := undef) (by kernel_rfl) rfl (by kernel_rfl) (by kernel_rfl) (fun _ _ _ h => h) (Or.inr ⟨by rfl, rfl⟩) (by assumption) ?_
    try simp only [Act.put, List.setIfInBounds_toArray, List.set_cons_zero, List.set_cons_succ]
    refine wpAnyH_takeL 18 (v := undef) (by kernel_rfl) rfl (by kernel_rfl) (by kernel_rfl) (fun _ _ _ h => h) (Or.inr ⟨by rfl, rfl⟩) (by assumption) ?_
    try simp only [Act.put, List.setIfInBounds_toArray, List.set_cons_zero, List.set_cons_succ]
    refine wpAnyH_takeL 19 (v := undef) (by kernel_rfl) rfl (by kernel_rfl) (by kernel_rfl) (fun _ _ _ h => h) (Or.inr ⟨by rfl, rfl⟩) (by assumption) ?_
    try simp only [Act.put, List.setIfInBounds_toArray, List.set_cons_zero, List.set_cons_succ]
    refine wpAnyH_takeL 20 (v := undef) (by kernel_rfl) rfl (by kernel_rfl) (by kernel_rfl) (fun _ _ _ h => h) (Or.inr ⟨by rfl, rfl⟩) (by assumption) ?_
    try simp only [Act.put, List.setIfInBounds_toArray, List.set_cons_zero, List.set_cons_succ]
    refine wpAnyH_takeL 21 (v := undef) (by kernel_rfl) rfl (by kernel_rfl) (by kernel_rfl) (fun _ _ _ h => h) (Or.inr ⟨by rfl, rfl⟩) (by assumption) ?_
    try simp only [Act.put, List.setIfInBounds_toArray, List.set_cons_zero, List.set_cons_succ]
    refine wpAnyH_takeL 22 (v := undef) (by kernel_rfl) rfl (by kernel_rfl) (by kernel_rfl) (fun _ _ _ h => h) (Or.inr ⟨by rfl, rfl⟩) (by assumption) ?_
    try simp only [Act.put, List.setIfInBounds_toArray, List.set_cons_zero, List.set_cons_succ]
    refine wpAnyH_takeL 23 (v := undef) (by kernel_rfl) rfl (by kernel_rfl) (by kernel_rfl) (fun _ _ _ h => h) (Or.inr ⟨by rfl, rfl⟩) (by assumption) ?_
    try simp only [Act.put, List.setIfInBounds_toArray, List.set_cons_zero, List.set_cons_succ]
    refine wpAnyH_takeL 24 (v := undef) (by kernel_rfl) rfl (by kernel_rfl) (by kernel_rfl) (fun _ _ _ h => h) (Or.inr ⟨by rfl, rfl⟩) (by assumption) ?_
    try simp only [Act.put, List.setIfInBounds_toArray, List.set_cons_zero, List.set_cons_succ]
    refine wpAnyH_takeL 25 (v := undef) (by kernel_rfl) rfl (by kernel_rfl) (by kernel_rfl) (fun _ _ _ h => h) (Or.inr ⟨by rfl, rfl⟩) (by assumption) ?_
    try simp only [Act.put, List.setIfInBounds_toArray, List.set_cons_zero, List.set_cons_succ]
    refine wpAnyH_takeL 26 (v := undef) (by kernel_rfl) rfl (by kernel_rfl) (by kernel_rfl) (fun _ _ _ h => h) (Or.inr ⟨by rfl, rfl⟩) (by assumption) ?_
    try simp only [Act.put, List.setIfInBounds_toArray, List.set_cons_zero, List.set_cons_succ]
    refine wpAnyH_takeL 27 (v := ?_) (by kernel_rfl) rfl (by kernel_rfl) (by kernel_rfl) (fun _ _ _ h => h) (Or.inl ⟨by rfl, ?_⟩) (by assumption) ?_
    rotate_left
    · (intro wq hSq; (try dsimp only at hSq); go_simp; try with_reducible rfl)
    try simp only [Act.put, List.setIfInBounds_toArray, List.set_cons_zero, List.set_cons_succ]
    refine wpAnyH_end (by kernel_rfl) ?_
    go_wp2
    go_ret
    exact ⟨rfl, (Below.refl _ _).drew⟩
  have t1 : ((x0.toNat : Int) != 1) = false := by rw [h1]; rfl
  by_cases h2 : g = 0 ∨ 9223372036854775808 ≤ g
  · have t2 : z < 1 := sgn_low HZ.out h2 hg64
    have hr0 : r = 0 := by
      rw [HR.out]
      rcases h2 with h2 | h2
      · split
        · exact h2
        · rfl
      · rw [show decide (g < 9223372036854775808) = false from decide_eq_false (Nat.not_lt.2 h2), Bool.and_false, Bool.false_and]; rfl
    subst hr0
    clear h2
    refine wp_region_heldL (fun w' => w'.cell? ⟨p, 1, none⟩ = some (.slice (some ⟨b, 0, none⟩) S S) ∧ w'.cell? ⟨b, A, none⟩ = some (.int .u8 (x0.toNat : Int))) (by kernel_rfl) ⟨k1, hc⟩ (fun hS => ?_)
    refine wpAnyH_takeL 0 (v := ?_) (by kernel_rfl) rfl (by kernel_rfl) (by kernel_rfl) (fun _ _ _ h => h) (Or.inl ⟨by rfl, ?_⟩) (by assumption) ?_
    rotate_left
    · (intro wq hSq; (try dsimp only at hSq); go_simp; try with_reducible rfl)
    try simp only [Act.put, List.setIfInBounds_toArray, List.set_cons_zero, List.set_cons_succ]
    refine wpAnyH_takeL 1 (v := ?_) (by kernel_rfl) rfl (by kernel_rfl) (by kernel_rfl) (fun _ _ _ h => h) (Or.inl ⟨by rfl, ?_⟩) (by assumption) ?_
    rotate_left
    · (intro wq hSq; (try dsimp only at hSq); go_simp; try with_reducible rfl)
    try simp only [Act.put, List.setIfInBounds_toArray, List.set_cons_zero, List.set_cons_succ]
    refine wpAnyH_takeL 2 (v := ?_) (by kernel_rfl) rfl (by kernel_rfl) (by kernel_rfl) (fun _ _ _ h => h) (Or.inl ⟨by rfl, ?_⟩) (by assumption) ?_
    rotate_left
    · (intro wq hSq; (try dsimp only at hSq); go_simp; try with_reducible rfl)
    try simp only [Act.put, List.setIfInBounds_toArray, List.set_cons_zero, List.set_cons_succ]
    refine wpAnyH_takeL 3 (v := ?_) (by kernel_rfl) rfl (by kernel_rfl) (by kernel_rfl) (fun _ _ _ h => h) (Or.inl ⟨by rfl, ?_⟩) (by assumption) ?_
    rotate_left
    · (intro wq hSq; (try dsimp only at hSq); go_simp; try with_reducible rfl)
    try simp only [Act.put, List.setIfInBounds_toArray, List.set_cons_zero, List.set_cons_succ]
    refine wpAnyH_takeL 4 (v := ?_) (by kernel_rfl) rfl (by kernel_rfl) (by kernel_rfl) (fun _ _ _ h => h) (Or.inl ⟨by rfl, ?_⟩) (by assumption) ?_
    rotate_left
    · (intro wq hSq; (try dsimp only at hSq); go_simp; try with_reducible rfl)
    try simp only [Act.put, List.setIfInBounds_toArray, List.set_cons_zero, List.set_cons_succ]
    refine wpAnyH_takeL 5 (v := ?_) (by kernel_rfl) rfl (by kernel_rfl) (by kernel_rfl) (fun _ _ _ h => h) (Or.inl ⟨by rfl, ?_⟩) (by assumption) ?_
    rotate_left
    · (intro wq hSq; (try dsimp only at hSq); go_simp; try with_reducible rfl)
    try simp only [Act.put, List.setIfInBounds_toArray, List.set_cons_zero, List.set_cons_succ]
    refine wpAnyH_takeL 6 (v := ?_) (by kernel_rfl) rfl (by kernel_rfl) (by kernel_rfl) (fun _ _ _ h => h) (Or.inl ⟨by rfl, ?_⟩) (by assumption) ?_
    rotate_left
    · (intro wq hSq; (try dsimp only at hSq); go_simp; try with_reducible rfl)
    try simp only [Act.put, List.setIfInBounds_toArray, List.set_cons_zero, List.set_cons_succ]
    refine wpAnyH_takeL 7 (v := ?_) (by kernel_rfl) rfl (by kernel_rfl) (by kernel_rfl) (fun _ _ _ h => h) (Or.inl ⟨by rfl, ?_⟩) (by assumption) ?_
    rotate_left
    · (intro wq hSq; (try dsimp only at hSq); go_simp; try with_reducible rfl)
    try simp only [Act.put, List.setIfInBounds_toArray, List.set_cons_zero, List.set_cons_succ]
    refine wpAnyH_takeL 8 (v := ?_) (by kernel_rfl) rfl (by kernel_rfl) (by kernel_rfl) (fun _ _ _ h => h) (Or.inl ⟨by rfl, ?_⟩) (by assumption) ?_
    rotate_left
    · (intro wq hSq; (try dsimp only at hSq); go_simp; try with_reducible rfl)
    try simp only [Act.put, List.setIfInBounds_toArray, List.set_cons_zero, List.set_cons_succ]
    refine wpAnyH_takeL 9 (v := ?_) (by kernel_rfl) rfl (by kernel_rfl) (by kernel_rfl) (fun _ _ _ h => h) (Or.inl ⟨by rfl, ?_⟩) (by assumption) ?_
    rotate_left
    · (intro wq hSq; (try dsimp only at hSq); go_simp; try with_reducible rfl)
    try simp only [Act.put, List.setIfInBounds_toArray, List.set_cons_zero, List.set_cons_succ]
    refine wpAnyH_takeL 10 (v := ?_) (by kernel_rfl) rfl (by kernel_rfl) (by kernel_rfl) (fun _ _ _ h => h) (Or.inl ⟨by rfl, ?_⟩) (by assumption) ?_
    rotate_left
    · (intro wq hSq; (try dsimp only at hSq); go_simp; try with_reducible rfl)
    try simp only [Act.put, List.setIfInBounds_toArray, List.set_cons_zero, List.set_cons_succ]
    refine wpAnyH_takeL 11 (v := ?_) (by kernel_rfl) rfl (by kernel_rfl) (by kernel_rfl) (fun _ _ _ h => h) (Or.inl ⟨by rfl, ?_⟩) (by assumption) ?_
    rotate_left
    · (intro wq hSq; (try dsimp only at hSq); go_simp; try with_reducible rfl)
    try simp only [Act.put, List.setIfInBounds_toArray, List.set_cons_zero, List.set_cons_succ]
    refine wpAnyH_takeL 12 (v := ?_) (by kernel_rfl) rfl (by kernel_rfl) (by kernel_rfl) (fun _ _ _ h => h) (Or.inl ⟨by rfl, ?_⟩) (by assumption) ?_
    rotate_left
    · (intro wq hSq; (try dsimp only at hSq); go_simp; try with_reducible rfl)
    try simp only [Act.put, List.setIfInBounds_toArray, List.set_cons_zero, List.set_cons_succ]
    refine wpAnyH_takeL 13 (v := undef) (by kernel_rfl) rfl (by kernel_rfl) (by kernel_rfl) (fun _ _ _ h => h) (Or.inr ⟨by rfl, rfl⟩) (by assumption) ?_
    try simp only [Act.put, List.setIfInBounds_toArray, List.set_cons_zero, List.set_cons_succ]
    refine wpAnyH_takeL 14 (v := undef) (by kernel_rfl) rfl (by kernel_rfl) (by kernel_rfl) (fun _ _ _ h => h) (Or.inr ⟨by rfl, rfl⟩) (by assumption) ?_
    try simp only [Act.put, List.setIfInBounds_toArray, List.set_cons_zero, List.set_cons_succ]
    refine wpAnyH_takeL 15 (v := undef) (by kernel_rfl) rfl (by kernel_rfl) (by kernel_rfl) (fun _ _ _ h => h) (Or.inr ⟨by rfl, rfl⟩) (by assumption) ?_
    try simp only [Act.put, List.setIfInBounds_toArray, List.set_cons_zero, List.set_cons_succ]
    refine wpAnyH_takeL 16 (v := undef) (by kernel_rfl) rfl (by kernel_rfl) (by kernel_rfl) (fun _ _ _ h => h) (Or.inr ⟨by rfl, rfl⟩) (by assumption) ?_
    try simp only [Act.put, List.setIfInBounds_toArray, List.set_cons_zero, List.set_cons_succ]
    refine wpAnyH_takeL 17 (v := undef) (by kernel_rfl) rfl (by kernel_rfl) (by kernel_rfl) (fun _ _ _ h => h) (Or.inr ⟨by rfl, rfl⟩) (by assumption) ?_
    try simp only [Act.put, List.setIfInBounds_toArray, List.set_cons_zero, List.set_cons_succ]
    refine wpAnyH_takeL 18 (v := undef) (by kernel_rfl) rfl (by kernel_rfl) (by kernel_rfl) (fun _ _ _ h => h) (Or.inr ⟨by rfl, rfl⟩) (by assumption) ?_
    try simp only [Act.put, List.setIfInBounds_toArray, List.set_cons_zero, List.set_cons_succ]
    refine wpAnyH_takeL 19 (v := undef) (by kernel_rfl) rfl (by kernel_rfl) (by kernel_rfl) (fun _ _ _ h => h) (Or.inr ⟨by rfl, rfl⟩) (by assumption) ?_
    try simp only [Act.put, List.setIfInBounds_toArray, List.set_cons_zero, List.set_cons_succ]
    refine wpAnyH_takeL 20 (v := undef) (by kernel_rfl) rfl (by kernel_rfl) (by kernel_rfl) (fun _ _ _ h => h) (Or.inr ⟨by rfl, rfl⟩) (by assumption) ?_
    try simp only [Act.put, List.setIfInBounds_toArray, List.set_cons_zero, List.set_cons_succ]
    refine wpAnyH_takeL 21 (v := undef) (by kernel_rfl) rfl (by kernel_rfl) (by kernel_rfl) (fun _ _ _ h => h) (Or.inr ⟨by rfl, rfl⟩) (by assumption) ?_
    try simp only [Act.put, List.setIfInBounds_toArray, List.set_cons_zero, List.set_cons_succ]
    refine wpAnyH_takeL 22 (v := undef) (by kernel_rfl) rfl (by kernel_rfl) (by kernel_rfl) (fun _ _ _ h => h) (Or.inr ⟨by rfl, rfl⟩) (by assumption) ?_
    try simp only [Act.put, List.setIfInBounds_toArray, List.set_cons_zero, List.set_cons_succ]
    refine wpAnyH_takeL 23 (v := undef) (by kernel_rfl) rfl (by kernel_rfl) (by kernel_rfl) (fun _ _ _ h => h) (Or.inr ⟨by rfl, rfl⟩) (by assumption) ?_
    try simp only [Act.put, List.setIfInBounds_toArray, List.set_cons_zero, List.set_cons_succ]
    refine wpAnyH_takeL 24 (v := undef) (by kernel_rfl) rfl (by kernel_rfl) (by kernel_rfl) (fun _ _ _ h => h) (Or.inr ⟨by rfl, rfl⟩) (by assumption) ?_
    try simp only [Act.put, List.setIfInBounds_toArray, List.set_cons_zero, List.set_cons_succ]
    refine wpAnyH_takeL 25 (v := undef) (by kernel_rfl) rfl (by kernel_rfl) (by kernel_rfl) (fun _ _ _ h => h) (Or.inr ⟨by rfl, rfl⟩) (by assumption) ?_
    try simp only [Act.put, List.setIfInBounds_toArray, List.set_cons_zero, List.set_cons_succ]
    refine wpAnyH_takeL 26 (v := undef) (by kernel_rfl) rfl (by kernel_rfl) (by kernel_rfl) (fun _ _ _ h => h) (Or.inr ⟨by rfl, rfl⟩) (by assumption) ?_
    try simp only [Act.put, List.setIfInBounds_toArray, List.set_cons_zero, List.set_cons_succ]
    refine wpAnyH_takeL 27 (v := ?_) (by kernel_rfl) rfl (by kernel_rfl) (by kernel_rfl) (fun _ _ _ h => h) (Or.inl ⟨by rfl, ?_⟩) (by assumption) ?_
    rotate_left
    · (intro wq hSq; (try dsimp only at hSq); go_simp; try with_reducible rfl)
    try simp only [Act.put, List.setIfInBounds_toArray, List.set_cons_zero, List.set_cons_succ]
    refine wpAnyH_end (by kernel_rfl) ?_
    go_wp2
    go_ret
    exact ⟨rfl, (Below.refl _ _).drew⟩
  have hzg : z = (g : Int) := by rw [HZ.out, sgn_small g (by omega)]
  subst hzg
  have t2 : ¬ (g : Int) < 1 := by omega
  have hg63 : g < 9223372036854775808 := by omega
  refine wp_region_heldL (fun w' => w'.cell? ⟨p, 1, none⟩ = some (.slice (some ⟨b, 0, none⟩) S S) ∧ w'.cell? ⟨b, A, none⟩ = some (.int .u8 (x0.toNat : Int)) ∧ ∀ c, (convert 64 9 (.slice (some ⟨b, A9, none⟩) 8 c)).run Tryd.prog w' = .ok (.string (bytesOf t9)) w') (by kernel_rfl) ⟨k1, hc, hS0⟩ (fun hS => ?_)
  refine wpAnyH_takeL 0 (v := ?_) (by kernel_rfl) rfl (by kernel_rfl) (by kernel_rfl) (fun _ _ _ h => h) (Or.inl ⟨by rfl, ?_⟩) (by assumption) ?_
  rotate_left
  · (intro wq hSq; (try dsimp only at hSq); go_simp; try with_reducible rfl)
  try simp only [Act.put, List.setIfInBounds_toArray, List.set_cons_zero, List.set_cons_succ]
  refine wpAnyH_takeL 1 (v := ?_) (by kernel_rfl) rfl (by kernel_rfl) (by kernel_rfl) (fun _ _ _ h => h) (Or.inl ⟨by rfl, ?_⟩) (by assumption) ?_
  rotate_left
  · (intro wq hSq; (try dsimp only at hSq); go_simp; try with_reducible rfl)
  try simp only [Act.put, List.setIfInBounds_toArray, List.set_cons_zero, List.set_cons_succ]
  refine wpAnyH_takeL 2 (v := ?_) (by kernel_rfl) rfl (by kernel_rfl) (by kernel_rfl) (fun _ _ _ h => h) (Or.inl ⟨by rfl, ?_⟩) (by assumption) ?_
  rotate_left
  · (intro wq hSq; (try dsimp only at hSq); go_simp; try with_reducible rfl)
  try simp only [Act.put, List.setIfInBounds_toArray, List.set_cons_zero, List.set_cons_succ]
  refine wpAnyH_takeL 3 (v := ?_) (by kernel_rfl) rfl (by kernel_rfl) (by kernel_rfl) (fun _ _ _ h => h) (Or.inl ⟨by rfl, ?_⟩) (by assumption) ?_
  rotate_left
  · (intro wq hSq; (try dsimp only at hSq); go_simp; try with_reducible rfl)
  try simp only [Act.put, List.setIfInBounds_toArray, List.set_cons_zero, List.set_cons_succ]
  refine wpAnyH_takeL 4 (v := ?_) (by kernel_rfl) rfl (by kernel_rfl) (by kernel_rfl) (fun _ _ _ h => h) (Or.inl ⟨by rfl, ?_⟩) (by assumption) ?_
  rotate_left
  · (intro wq hSq; (try dsimp only at hSq); go_simp; try with_reducible rfl)
  try simp only [Act.put, List.setIfInBounds_toArray, List.set_cons_zero, List.set_cons_succ]
  refine wpAnyH_takeL 5 (v := ?_) (by kernel_rfl) rfl (by kernel_rfl) (by kernel_rfl) (fun _ _ _ h => h) (Or.inl ⟨by rfl, ?_⟩) (by assumption) ?_
  rotate_left
  · (intro wq hSq; (try dsimp only at hSq); go_simp; try with_reducible rfl)
  try simp only [Act.put, List.setIfInBounds_toArray, List.set_cons_zero, List.set_cons_succ]
  refine wpAnyH_takeL 6 (v := ?_) (by kernel_rfl) rfl (by kernel_rfl) (by kernel_rfl) (fun _ _ _ h => h) (Or.inl ⟨by rfl, ?_⟩) (by assumption) ?_
  rotate_left
  · (intro wq hSq; (try dsimp only at hSq); go_simp; try with_reducible rfl)
  try simp only [Act.put, List.setIfInBounds_toArray, List.set_cons_zero, List.set_cons_succ]
  refine wpAnyH_takeL 7 (v := ?_) (by kernel_rfl) rfl (by kernel_rfl) (by kernel_rfl) (fun _ _ _ h => h) (Or.inl ⟨by rfl, ?_⟩) (by assumption) ?_
  rotate_left
  · (intro wq hSq; (try dsimp only at hSq); go_simp; try with_reducible rfl)
  try simp only [Act.put, List.setIfInBounds_toArray, List.set_cons_zero, List.set_cons_succ]
  refine wpAnyH_takeL 8 (v := ?_) (by kernel_rfl) rfl (by kernel_rfl) (by kernel_rfl) (fun _ _ _ h => h) (Or.inl ⟨by rfl, ?_⟩) (by assumption) ?_
  rotate_left
  · (intro wq hSq; (try dsimp only at hSq); go_simp; try with_reducible rfl)
  try simp only [Act.put, List.setIfInBounds_toArray, List.set_cons_zero, List.set_cons_succ]
  refine wpAnyH_takeL 9 (v := ?_) (by kernel_rfl) rfl (by kernel_rfl) (by kernel_rfl) (fun _ _ _ h => h) (Or.inl ⟨by rfl, ?_⟩) (by assumption) ?_
  rotate_left
  · (intro wq hSq; (try dsimp only at hSq); go_simp; try with_reducible rfl)
  try simp only [Act.put, List.setIfInBounds_toArray, List.set_cons_zero, List.set_cons_succ]
  refine wpAnyH_takeL 10 (v := ?_) (by kernel_rfl) rfl (by kernel_rfl) (by kernel_rfl) (fun _ _ _ h => h) (Or.inl ⟨by rfl, ?_⟩) (by assumption) ?_
  rotate_left
  · (intro wq hSq; (try dsimp only at hSq); go_simp; try with_reducible rfl)
  try simp only [Act.put, List.setIfInBounds_toArray, List.set_cons_zero, List.set_cons_succ]
  refine wpAnyH_takeL 11 (v := ?_) (by kernel_rfl) rfl (by kernel_rfl) (by kernel_rfl) (fun _ _ _ h => h) (Or.inl ⟨by rfl, ?_⟩) (by assumption) ?_
  rotate_left
  · (intro wq hSq; (try dsimp only at hSq); go_simp; try with_reducible rfl)
  try simp only [Act.put, List.setIfInBounds_toArray, List.set_cons_zero, List.set_cons_succ]
  refine wpAnyH_takeL 12 (v := ?_) (by kernel_rfl) rfl (by kernel_rfl) (by kernel_rfl) (fun _ _ _ h => h) (Or.inl ⟨by rfl, ?_⟩) (by assumption) ?_
  rotate_left
  · (intro wq hSq; (try dsimp only at hSq); go_simp; try with_reducible rfl)
  try simp only [Act.put, List.setIfInBounds_toArray, List.set_cons_zero, List.set_cons_succ]
  refine wpAnyH_takeL 13 (v := ?_) (by kernel_rfl) rfl (by kernel_rfl) (by kernel_rfl) (fun _ _ _ h => h) (Or.inl ⟨by rfl, ?_⟩) (by assumption) ?_
  rotate_left
  · (intro wq hSq; (try dsimp only at hSq); go_simp; try with_reducible rfl)
  try simp only [Act.put, List.setIfInBounds_toArray, List.set_cons_zero, List.set_cons_succ]
  refine wpAnyH_takeL 14 (v := ?_) (by kernel_rfl) rfl (by kernel_rfl) (by kernel_rfl) (fun _ _ _ h => h) (Or.inl ⟨by rfl, ?_⟩) (by assumption) ?_
  rotate_left
  · (intro wq hSq; (try dsimp only at hSq); go_simp; try with_reducible rfl)
  try simp only [Act.put, List.setIfInBounds_toArray, List.set_cons_zero, List.set_cons_succ]
  refine wpAnyH_takeL 15 (v := ?_) (by kernel_rfl) rfl (by kernel_rfl) (by kernel_rfl) (fun _ _ _ h => h) (Or.inl ⟨by rfl, ?_⟩) (by assumption) ?_
  rotate_left
  · (intro wq hSq; (try dsimp only at hSq); go_simp; try with_reducible rfl)
  try simp only [Act.put, List.setIfInBounds_toArray, List.set_cons_zero, List.set_cons_succ]
  refine wpAnyH_takeL 16 (v := ?_) (by kernel_rfl) rfl (by kernel_rfl) (by kernel_rfl) (fun _ _ _ h => h) (Or.inl ⟨by rfl, ?_⟩) (by assumption) ?_
  rotate_left
  · (intro wq hSq; (try dsimp only at hSq); go_simp; try with_reducible rfl)
  try simp only [Act.put, List.setIfInBounds_toArray, List.set_cons_zero, List.set_cons_succ]
  refine wpAnyH_takeL 17 (v := ?_) (by kernel_rfl) rfl (by kernel_rfl) (by kernel_rfl) (fun _ _ _ h => h) (Or.inl ⟨by rfl, ?_⟩) (by assumption) ?_
  rotate_left
  · (intro wq hSq; (try dsimp only at hSq); go_simp; try with_reducible rfl)
  try simp only [Act.put, List.setIfInBounds_toArray, List.set_cons_zero, List.set_cons_succ]
  refine wpAnyH_takeL 18 (v := ?_) (by kernel_rfl) rfl (by kernel_rfl) (by kernel_rfl) (fun _ _ _ h => h) (Or.inl ⟨by rfl, ?_⟩) (by assumption) ?_
  rotate_left
  · (intro wq hSq; (try dsimp only at hSq); go_simp; try with_reducible rfl)
  try simp only [Act.put, List.setIfInBounds_toArray, List.set_cons_zero, List.set_cons_succ]
  refine wpAnyH_takeL 19 (v := ?_) (by kernel_rfl) rfl (by kernel_rfl) (by kernel_rfl) (fun _ _ _ h => h) (Or.inl ⟨by rfl, ?_⟩) (by assumption) ?_
  rotate_left
  · (intro wq hSq; (try dsimp only at hSq); go_simp; try with_reducible rfl)
  try simp only [Act.put, List.setIfInBounds_toArray, List.set_cons_zero, List.set_cons_succ]
  refine wpAnyH_takeL 20 (v := ?_) (by kernel_rfl) rfl (by kernel_rfl) (by kernel_rfl) (fun _ _ _ h => h) (Or.inl ⟨by rfl, ?_⟩) (by assumption) ?_
  rotate_left
  · (intro wq hSq; (try dsimp only at hSq); go_simp; try with_reducible rfl)
  try simp only [Act.put, List.setIfInBounds_toArray, List.set_cons_zero, List.set_cons_succ]
  refine wpAnyH_takeL 21 (v := ?_) (by kernel_rfl) rfl (by kernel_rfl) (by kernel_rfl) (fun _ _ _ h => h) (Or.inl ⟨by rfl, ?_⟩) (by assumption) ?_
  rotate_left
  · (intro wq hSq; (try dsimp only at hSq); go_simp; try with_reducible rfl)
  try simp only [Act.put, List.setIfInBounds_toArray, List.set_cons_zero, List.set_cons_succ]
  refine wpAnyH_takeL 22 (v := ?_) (by kernel_rfl) rfl (by kernel_rfl) (by kernel_rfl) (fun _ _ _ h => h) (Or.inl ⟨by rfl, ?_⟩) (by assumption) ?_
  rotate_left
  · (intro wq hSq; (try dsimp only at hSq); go_simp; try with_reducible rfl)
  try simp only [Act.put, List.setIfInBounds_toArray, List.set_cons_zero, List.set_cons_succ]
  refine wpAnyH_takeL 23 (v := ?_) (by kernel_rfl) rfl (by kernel_rfl) (by kernel_rfl) (fun _ _ _ h => h) (Or.inl ⟨by rfl, ?_⟩) (by assumption) ?_
  rotate_left
  · (intro wq hSq; (try dsimp only at hSq); go_simp; try with_reducible rfl)
  try simp only [Act.put, List.setIfInBounds_toArray, List.set_cons_zero, List.set_cons_succ]
  refine wpAnyH_stepL 24 (by kernel_rfl) rfl (fun K hK => ?_)
  go_simp
  go_at_call 57
  refine (reight_any g hg63 _).mono ?_
  rintro e w2 ⟨rfl, hb2d⟩
  have hb2 : Below w.heap.size w w2 := ((Below.refl w.heap.size w).drew).trans hb2d
  have hD2 := HD.out.kept hb2
  refine hK.out _ _ ⟨HK.out w2 hD2, HC.out w2 hD2, HT.out w2 hD2⟩ (fun hS2 => ?_)
  clear hK K hS
  try simp only [Act.put, List.setIfInBounds_toArray, List.set_cons_zero, List.set_cons_succ]
  refine wpAnyH_stepL 25 (by kernel_rfl) rfl (fun K hK => ?_)
  go_simp
  go_at_call 58
  refine (refShortN_any (eightL g) (by rw [eightL_length]; omega) _).mono ?_
  rintro e w3 ⟨rfl, hb3⟩
  have hb23 := hb2.trans (hb3.mono hb2.size)
  have hD3 := HD.out.kept hb23
  refine hK.out _ _ ⟨HK.out w3 hD3, HC.out w3 hD3, HT.out w3 hD3⟩ (fun hS3 => ?_)
  clear hK K hS2
  try simp only [Act.put, List.setIfInBounds_toArray, List.set_cons_zero, List.set_cons_succ]
  by_cases h4 : t9 = shortL (eightL g)
  · have t4 := str_beq (bytesOf t9) (bytesOf (shortL (eightL g))) (by rw [h4])
    obtain rfl : r = g := by rw [HR.out]; simp [h1, h4]; omega
    refine wpAnyH_takeL 26 (v := ?_) (by kernel_rfl) rfl (by kernel_rfl) (by kernel_rfl) (fun _ _ _ h => h) (Or.inl ⟨by rfl, ?_⟩) (by assumption) ?_
    rotate_left
    · (intro wq hSq; (try dsimp only at hSq); go_simp; try with_reducible rfl)
    try simp only [Act.put, List.setIfInBounds_toArray, List.set_cons_zero, List.set_cons_succ]
    refine wpAnyH_takeL 27 (v := ?_) (by kernel_rfl) rfl (by kernel_rfl) (by kernel_rfl) (fun _ _ _ h => h) (Or.inl ⟨by rfl, ?_⟩) (by assumption) ?_
    rotate_left
    · (intro wq hSq; (try dsimp only at hSq); go_simp; try with_reducible rfl)
    try simp only [Act.put, List.setIfInBounds_toArray, List.set_cons_zero, List.set_cons_succ]
    refine wpAnyH_end (by kernel_rfl) ?_
    go_wp2
    go_ret
    exact ⟨rfl, hb23⟩
  · have t4 := str_bne (bytesOf t9) (bytesOf (shortL (eightL g))) (fun h => h4 (bytesOf_inj h))
    obtain rfl : r = 0 := by rw [HR.out, if_neg]; simp [h4]
    refine wpAnyH_takeL 26 (v := ?_) (by kernel_rfl) rfl (by kernel_rfl) (by kernel_rfl) (fun _ _ _ h => h) (Or.inl ⟨by rfl, ?_⟩) (by assumption) ?_
    rotate_left
    · (intro wq hSq; (try dsimp only at hSq); go_simp; try with_reducible rfl)
    try simp only [Act.put, List.setIfInBounds_toArray, List.set_cons_zero, List.set_cons_succ]
    refine wpAnyH_takeL 27 (v := ?_) (by kernel_rfl) rfl (by kernel_rfl) (by kernel_rfl) (fun _ _ _ h => h) (Or.inl ⟨by rfl, ?_⟩) (by assumption) ?_
    rotate_left
    · (intro wq hSq; (try dsimp only at hSq); go_simp; try with_reducible rfl)
    try simp only [Act.put, List.setIfInBounds_toArray, List.set_cons_zero, List.set_cons_succ]
    refine wpAnyH_end (by kernel_rfl) ?_
    go_wp2
    go_ret
    exact ⟨rfl, hb23⟩
end Go.Proofs.YtoggmplkbiidhaaDoor

/- Walks: the reference's disk: which half is active; the smaller methods. -/
namespace Go.Proofs.YtoggmplkbiidhaaDoor
set_option linter.all false
open Go.RowKit Go.Shelf
set_option maxRecDepth 100000 in
set_option maxHeartbeats 4000000 in
theorem ractive_any (p b : Nat) (d : Dk) (w : World) (hd : RDiskAt w p b d) (ho : d.ok) :
    Calls Tryd.prog 59 #[.pointer (some ⟨p, 0, none⟩)] w fun e w' => e = .returned (.tuple #[.int .i64 d.half, .int .i64 (d.gen : Int)]) ∧ Below w.heap.size w w' := by
  have HG0 := Lib.hid (fun W (h : RDiskAt W p b d) => rgeneration_any p b 0 (by omega) d W h ho)
  have HG1 := Lib.hid (fun W (h : RDiskAt W p b d) => rgeneration_any p b 1 (by omega) d W h ho)
  have HH := Lib.hid hd
  obtain ⟨x, hx⟩ : ∃ x, x = d.half := ⟨_, rfl⟩
  obtain ⟨y, hy⟩ : ∃ y, y = d.gen := ⟨_, rfl⟩
  rw [← hx, ← hy]
  unfold Dk.half at hx
  unfold Dk.gen at hy
  obtain ⟨g0, hg0⟩ : ∃ g, g = genL d.h0 := ⟨_, rfl⟩
  obtain ⟨g1, hg1⟩ : ∃ g, g = genL d.h1 := ⟨_, rfl⟩
  rw [show d.hf 0 = d.h0 from rfl, ← hg0] at HG0
  rw [show d.hf 1 = d.h1 from rfl, ← hg1] at HG1
  rw [← hg0, ← hg1] at hx hy
  have HX := Lib.hid hx
  have HY := Lib.hid hy
  clear hx hy hg0 hg1 hd
  go_enter Tryd.func59, Tryd.ntmps59
  go_wp2_with fail
  refine (HG0.out _ HH.out).mono ?_
  rintro e w2 ⟨rfl, hb2⟩
  have HD2 := Lib.hid (HH.out.kept hb2)
  go_wp2_with fail
  refine (HG1.out _ HD2.out).mono ?_
  rintro e w3 ⟨rfl, hb3d⟩
  have hb3 : Below w.heap.size w w3 := hb2.trans (hb3d.mono hb2.size)
  clear hb2 hb3d
  by_cases c0 : g0 = 0
  · by_cases c1 : g1 = 0
    · have t0 : ((g0 : Int) == 0) = true := by simp [c0]
      have t1 : ((g1 : Int) == 0) = true := by simp [c1]
      obtain rfl : x = -1 := by rw [HX.out, if_pos ⟨c0, c1⟩]
      obtain rfl : y = 0 := by rw [HY.out, if_pos ⟨c0, c1⟩]
      go_wp2
      go_ret2
      exact ⟨rfl, hb3⟩
    · have t0 : ((g0 : Int) == 0) = true := by simp [c0]
      have t1 : ((g1 : Int) == 0) = false := by rw [beq_eq_false_iff_ne]; omega
      have t2 : (g0 : Int) < (g1 : Int) := by omega
      obtain rfl : x = 1 := by rw [HX.out, if_neg (by omega), if_pos (by omega)]
      obtain rfl : y = g1 := by rw [HY.out, if_neg (by omega), if_pos (by omega)]
      go_wp2
      go_ret2
      exact ⟨rfl, hb3⟩
  · have t0 : ((g0 : Int) == 0) = false := by rw [beq_eq_false_iff_ne]; omega
    by_cases c2 : g0 < g1
    · have t2 : (g0 : Int) < (g1 : Int) := by omega
      obtain rfl : x = 1 := by rw [HX.out, if_neg (by omega), if_pos c2]
      obtain rfl : y = g1 := by rw [HY.out, if_neg (by omega), if_pos c2]
      go_wp2
      go_ret2
      exact ⟨rfl, hb3⟩
    · have t2 : ¬ (g0 : Int) < (g1 : Int) := by omega
      obtain rfl : x = 0 := by rw [HX.out, if_neg (by omega), if_neg c2]
      obtain rfl : y = g0 := by rw [HY.out, if_neg (by omega), if_neg c2]
      go_wp2
      go_ret2
      exact ⟨rfl, hb3⟩
theorem rresult_any (p b : Nat) (d : Dk) (w : World) (hd : RDiskAt w p b d) :
    Calls Tryd.prog 63 #[.pointer (some ⟨p, 0, none⟩)] w fun e w' => e = .returned (.int .i64 (if d.failed = true then 9 else 0)) ∧ w = w' := by
  obtain ⟨-, -, -, k3, -, -⟩ := four_cells hd.at_
  cases hf : d.failed
  · rw [hf] at k3
    go_enter Tryd.func63, Tryd.ntmps63
    go_wp2
    go_ret
    exact ⟨rfl, rfl⟩
  · rw [hf] at k3
    go_enter Tryd.func63, Tryd.ntmps63
    go_wp2
    go_ret
    exact ⟨rfl, rfl⟩
end Go.Proofs.YtoggmplkbiidhaaDoor

/- Walks: the reference's disk: what writes bytes. -/
namespace Go.Proofs.YtoggmplkbiidhaaDoor
set_option linter.all false
open Go.RowKit Go.Shelf
structure RWrAt (w : World) (p b n S : Nat) (st : Wr) : Prop where
  at_ : w.heap[p]? = some (.cells #[.int .i64 (n : Int), .slice (some ⟨b, 0, none⟩) S S, .int .i64 st.fuse, .bool st.failed] 96)
  half : HalfAt w b st.h
  len : st.h.length = S
  ne : ¬ b = p
  f1 : -1 ≤ st.fuse
  f2 : st.fuse ≤ 9223372036854775807
theorem RWrAt.setFailed {w : World} {p b n S : Nat} {st : Wr} (h : RWrAt w p b n S st) (z : Bool) : RWrAt (w.setCell ⟨p, 3, none⟩ (.bool z)) p b n S ⟨st.h, st.fuse, z⟩ :=
  ⟨by simp [World.setCell, Array.getElem?_modify, h.at_], by obtain ⟨t, ht⟩ := h.half; exact ⟨t, (Below.heap_setCell w ⟨p, 3, none⟩ _ b h.ne).trans ht⟩, h.len, h.ne, h.f1, h.f2⟩
theorem RWrAt.setFuse {w : World} {p b n S : Nat} {st : Wr} (h : RWrAt w p b n S st) (z : Int) (h1 : -1 ≤ z) (h2 : z ≤ 9223372036854775807) : RWrAt (w.setCell ⟨p, 2, none⟩ (.int .i64 z)) p b n S ⟨st.h, z, st.failed⟩ :=
  ⟨by simp [World.setCell, Array.getElem?_modify, h.at_], by obtain ⟨t, ht⟩ := h.half; exact ⟨t, (Below.heap_setCell w ⟨p, 2, none⟩ _ b h.ne).trans ht⟩, h.len, h.ne, h1, h2⟩
theorem RWrAt.setByte {w : World} {p b n S : Nat} {st : Wr} (h : RWrAt w p b n S st) (k : Nat) (c : UInt8) : RWrAt (w.setCell ⟨b, k, none⟩ (byteV c)) p b n S ⟨st.h.set k c, st.fuse, st.failed⟩ :=
  ⟨(Below.heap_setCell w ⟨b, k, none⟩ _ p (Ne.symm h.ne)).trans h.at_, by obtain ⟨t, ht⟩ := h.half; exact ⟨t, half_set ht k c⟩, by rw [List.length_set]; exact h.len, h.ne, h.f1, h.f2⟩
theorem RWrAt.drew {w : World} {p b n S : Nat} {st : Wr} (h : RWrAt w p b n S st) : RWrAt w.drew p b n S st := ⟨h.at_, h.half, h.len, h.ne, h.f1, h.f2⟩
theorem RWrAt.below {w w' : World} {p b n S : Nat} {st : Wr} (h : RWrAt w p b n S st) (hb : Below w.heap.size w w') : RWrAt w' p b n S st :=
  ⟨(hb.block _ (lt_of_heap h.at_)).trans h.at_, h.half.below hb h.half.lt, h.len, h.ne, h.f1, h.f2⟩
set_option maxRecDepth 100000 in
set_option maxHeartbeats 8000000 in
theorem rwrite_any (p b n S k : Nat) (st : Wr) (s : List UInt8) (hk : k + s.length ≤ S) (hn : S ≤ 600000) (w : World) (hw : RWrAt w p b n S st) :
    Calls Tryd.prog 61 #[.pointer (some ⟨p, 0, none⟩), .int .i64 (k : Int), .string (bytesOf s)] w fun e w' => (∃ v, e = .returned v) ∧ RWrAt w' p b n S (putS st k s) ∧ Kp (two p b) w w' := by
  obtain ⟨m, hm⟩ : ∃ m, m = s.length := ⟨_, rfl⟩
  have hs : (bytesOf s).size = m := by rw [hm]; rfl
  have hs1 : ((bytesOf s).size : Int) = (m : Int) := by rw [hs]
  obtain ⟨r, hr⟩ : ∃ r, r = putS st k s := ⟨_, rfl⟩
  rw [← hr]
  have HR := Lib.hid hr
  have HM := Lib.hid hm
  rw [← hm] at hk
  have HW := Lib.hid hw
  clear hm hr hw
  have hro : Fence.wide.round = none := rfl
  refine (callsIn_wide (n := 5)).1 ?_
  refine callsIn_of_wp Tryd.func61 rfl trivial ?_ rfl
  simp only [Tryd.ntmps61, List.size_toArray, List.length_cons, List.length_nil, Nat.reduceAdd, Nat.reduceSub, Array.replicate_succ, Array.replicate_zero, List.push_toArray, List.append_toArray, List.nil_append, List.cons_append]
  gi_wp2_with fail
  gi_loopw [6] (fun ii wr => ∃ (i : Nat) (si : Wr), i ≤ m ∧ ii = .int .i64 (i : Int) ∧ Hid (r = putS si (k + i) (s.drop i)) ∧ Hid (RWrAt wr p b n S si) ∧ Hid (Kp (two p b) w wr)) (fun ii _ => m - (intOf ii).toNat)
  case atStart => exact ⟨0, st, Nat.zero_le _, rfl, HR.out, HW.out, Kp.refl _ _⟩
  case round =>
    obtain ⟨i, si, hi, rfl, hR, hWr, hKp⟩ := hrel
    have hz : s.length = m := HM.out.symm
    obtain ⟨-, -, e2, e3, f2, f3⟩ := four_cells hWr.out.at_
    by_cases hlt : i < m
    case neg =>
      obtain rfl : i = m := by omega
      have hrr : r = si := by rw [hR.out, List.drop_of_length_le (by omega)]; rfl
      have HRR := Lib.hid hrr
      clear hrr
      gi_wp2
      go_end0
      exact ⟨⟨_, rfl⟩, by rw [HRR.out]; exact hWr.out, hKp.out⟩
    obtain ⟨c, hc⟩ : ∃ c, s[i]? = some c := ⟨s[i]'(by omega), List.getElem?_eq_getElem _⟩
    have hdr : s.drop i = c :: s.drop (i + 1) := by
      rw [List.drop_eq_getElem_cons (by omega)]
      congr 1
      rw [List.getElem?_eq_getElem (by omega)] at hc
      injection hc
    have HDR := Lib.hid hdr
    have HC := Lib.hid hc
    clear hdr hc
    by_cases hf0 : si.fuse = 0
    · rw [hf0] at e2
      have hrr : r = ⟨si.h, si.fuse, true⟩ := by rw [hR.out, putS_stop (by rw [HDR.out]; simp) (Or.inr hf0)]
      have HRR := Lib.hid hrr
      have HA4 := Lib.hid (hWr.out.setFailed true)
      have HK4 := Lib.hid (hKp.out.setCell (a := ⟨p, 3, none⟩) (Or.inl rfl) (.bool true))
      clear hrr
      gi_wp2
      refine bodyPost_ret (results_none rfl _ _ _) rfl ?_
      exact ⟨⟨_, rfl⟩, by rw [HRR.out]; exact HA4.out, HK4.out⟩
    obtain ⟨fu, hfu⟩ : ∃ f, f = si.fuse := ⟨_, rfl⟩
    have hfb : (fu == 0) = false := by rw [beq_eq_false_iff_ne, hfu]; exact hf0
    rw [← hfu] at e2
    have FU := Lib.hid hfu
    cases hfd : si.failed
    case true =>
      rw [hfd] at e3
      have hrr : r = ⟨si.h, si.fuse, true⟩ := by rw [hR.out, putS_stop (by rw [HDR.out]; simp) (Or.inl hfd)]
      have hsi : (⟨si.h, si.fuse, true⟩ : Wr) = si := by rw [← hfd]
      have HRR : Hid (r = si) := hrr.trans hsi
      clear hrr hsi hfu hf0
      gi_wp2
      refine bodyPost_ret (results_none rfl _ _ _) rfl ?_
      exact ⟨⟨_, rfl⟩, by rw [HRR.out]; exact hWr.out, hKp.out⟩
    case false =>
        rw [hfd] at e3
        have hst : r = putS ⟨si.h.set (k + i) c, if 0 < si.fuse then si.fuse - 1 else si.fuse, false⟩ (k + (i + 1)) (s.drop (i + 1)) := by
          rw [hR.out, HDR.out, putS_step (by rw [hfd]; simpa using hf0)]; rfl
        have HST := Lib.hid hst
        have fb1 := hWr.out.f1
        have fb2 := hWr.out.f2
        rw [← hfu] at fb1 fb2
        have HA4 : Hid (RWrAt wr p b n S ⟨si.h, si.fuse, false⟩) := by
          have := hWr.out
          rw [← hfd]; exact this
        clear hfu hf0 hst
        obtain ⟨j, hj⟩ : ∃ j, j = k + i := ⟨_, rfl⟩
        have hk3 : j < S := by omega
        have HJ := Lib.hid hj
        have hwi : IntKind.i64.wrap ((k : Int) + (i : Int)) = (j : Int) := by rw [IntWalk.i64_in _ ⟨by omega, by omega⟩]; omega
        clear hj
        have hsi : (bytesOf s)[i]'(by rw [hs]; exact hlt) = c := by
          have := HC.out
          rw [List.getElem?_eq_getElem (by omega)] at this
          injection this
        by_cases hp : 0 < fu
        · have hw1 : IntKind.i64.wrap (fu - 1) = fu - 1 := IntWalk.i64_in _ ⟨by omega, by omega⟩
          gi_wp2_with fail
          have hA5 : Hid (RWrAt (wr.setCell ⟨p, 2, none⟩ (.int .i64 (fu - 1))) p b n S ⟨si.h, fu - 1, false⟩) := HA4.out.setFuse _ (by omega) (by omega)
          have hK5 : Hid (Kp (two p b) w (wr.setCell ⟨p, 2, none⟩ (.int .i64 (fu - 1)))) := hKp.out.setCell (Or.inl rfl) _
          generalize wr.setCell ⟨p, 2, none⟩ (.int .i64 (fu - 1)) = w5 at hA5 hK5 ⊢
          clear e2 e3 f2 f3 HA4
          have k1 : w5.cell? ⟨p, 1, none⟩ = some (.slice (some ⟨b, 0, none⟩) S S) := (four_cells hA5.out.at_).2.1
          obtain ⟨th, hth⟩ := hA5.out.half
          have hlh : si.h.length = S := hA5.out.len
          obtain ⟨b1, b2⟩ := half_cells hth j (by rw [hlh]; exact hk3)
          generalize si.h[j] = c0 at b1
          clear hth
          refine wpIn_region_K (fun w' => w'.cell? ⟨p, 1, none⟩ = some (.slice (some ⟨b, 0, none⟩) S S) ∧ w'.cell? ⟨b, j, none⟩ = some (byteV c0) ∧ w'.frozen? ⟨b, j, none⟩ = false) 11 (by kernel_rfl) ⟨k1, b1, b2⟩ (fun hS => ?_)
          refine wpAnyKC_takeL 0 20 (v := ?_) hro (by kernel_rfl) (by kernel_rfl) (by kernel_rfl) rfl (by kernel_rfl) (by kernel_rfl) (fun _ _ _ h => h) (Or.inl ⟨by rfl, ?_⟩) (fun _ => rfl) (by assumption) ?_
          rotate_left
          · (intro wq hSq; (try dsimp only at hSq); go_simp; try with_reducible rfl)
          try simp only [Act.put, List.setIfInBounds_toArray, List.set_cons_zero, List.set_cons_succ]
          refine wpAnyKC_takeL 1 20 (v := ?_) hro (by kernel_rfl) (by kernel_rfl) (by kernel_rfl) rfl (by kernel_rfl) (by kernel_rfl) (fun _ _ _ h => h) (Or.inl ⟨by rfl, ?_⟩) (fun _ => rfl) (by assumption) ?_
          rotate_left
          · (intro wq hSq; (try dsimp only at hSq); go_simp; try with_reducible rfl)
          try simp only [Act.put, List.setIfInBounds_toArray, List.set_cons_zero, List.set_cons_succ]
          refine wpAnyKC_takeL 2 20 (v := ?_) hro (by kernel_rfl) (by kernel_rfl) (by kernel_rfl) rfl (by kernel_rfl) (by kernel_rfl) (fun _ _ _ h => h) (Or.inl ⟨by rfl, ?_⟩) (fun _ => rfl) (by assumption) ?_
          rotate_left
          · (intro wq hSq; (try dsimp only at hSq); go_simp; try with_reducible rfl)
          try simp only [Act.put, List.setIfInBounds_toArray, List.set_cons_zero, List.set_cons_succ]
          refine wpAnyKC_takeL 3 20 (v := ?_) hro (by kernel_rfl) (by kernel_rfl) (by kernel_rfl) rfl (by kernel_rfl) (by kernel_rfl) (fun _ _ _ h => h) (Or.inl ⟨by rfl, ?_⟩) (fun _ => rfl) (by assumption) ?_
          rotate_left
          · (intro wq hSq; (try dsimp only at hSq); go_simp; try with_reducible rfl)
          try simp only [Act.put, List.setIfInBounds_toArray, List.set_cons_zero, List.set_cons_succ]
          refine wpAnyKC_takeL 4 20 (v := ?_) hro (by kernel_rfl) (by kernel_rfl) (by kernel_rfl) rfl (by kernel_rfl) (by kernel_rfl) (fun _ _ _ h => h) (Or.inl ⟨by rfl, ?_⟩) (fun _ => rfl) (by assumption) ?_
          rotate_left
          · (intro wq hSq; (try dsimp only at hSq); go_simp; try with_reducible rfl)
          try simp only [Act.put, List.setIfInBounds_toArray, List.set_cons_zero, List.set_cons_succ]
          refine wpAnyKC_takeL 5 20 (v := ?_) hro (by kernel_rfl) (by kernel_rfl) (by kernel_rfl) rfl (by kernel_rfl) (by kernel_rfl) (fun _ _ _ h => h) (Or.inl ⟨by rfl, ?_⟩) (fun _ => rfl) (by assumption) ?_
          rotate_left
          · (intro wq hSq; (try dsimp only at hSq); go_simp; try with_reducible rfl)
          try simp only [Act.put, List.setIfInBounds_toArray, List.set_cons_zero, List.set_cons_succ]
          refine wpAnyKC_takeL 6 20 (v := ?_) hro (by kernel_rfl) (by kernel_rfl) (by kernel_rfl) rfl (by kernel_rfl) (by kernel_rfl) (fun _ _ _ h => h) (Or.inl ⟨by rfl, ?_⟩) (fun _ => rfl) (by assumption) ?_
          rotate_left
          · (intro wq hSq; (try dsimp only at hSq); go_simp; try with_reducible rfl)
          try simp only [Act.put, List.setIfInBounds_toArray, List.set_cons_zero, List.set_cons_succ]
          refine wpAnyKC_takeL 7 20 (v := ?_) hro (by kernel_rfl) (by kernel_rfl) (by kernel_rfl) rfl (by kernel_rfl) (by kernel_rfl) (fun _ _ _ h => h) (Or.inl ⟨by rfl, ?_⟩) (fun _ => rfl) (by assumption) ?_
          rotate_left
          · (intro wq hSq; (try dsimp only at hSq); go_simp; try with_reducible rfl)
          try simp only [Act.put, List.setIfInBounds_toArray, List.set_cons_zero, List.set_cons_succ]
          refine wpAnyKC_takeL 8 20 (v := ?_) hro (by kernel_rfl) (by kernel_rfl) (by kernel_rfl) rfl (by kernel_rfl) (by kernel_rfl) (fun _ _ _ h => h) (Or.inl ⟨by rfl, ?_⟩) (fun _ => rfl) (by assumption) ?_
          rotate_left
          · (intro wq hSq; (try dsimp only at hSq); go_simp; try with_reducible rfl)
          try simp only [Act.put, List.setIfInBounds_toArray, List.set_cons_zero, List.set_cons_succ]
          refine wpAnyKC_takeL 9 20 (v := ?_) hro (by kernel_rfl) (by kernel_rfl) (by kernel_rfl) rfl (by kernel_rfl) (by kernel_rfl) (fun _ _ _ h => h) (Or.inl ⟨by rfl, ?_⟩) (fun _ => rfl) (by assumption) ?_
          rotate_left
          · (intro wq hSq; (try dsimp only at hSq); go_simp; try with_reducible rfl)
          try simp only [Act.put, List.setIfInBounds_toArray, List.set_cons_zero, List.set_cons_succ]
          refine wpAnyKC_takeL 10 20 (v := ?_) hro (by kernel_rfl) (by kernel_rfl) (by kernel_rfl) rfl (by kernel_rfl) (by kernel_rfl) (fun _ _ _ h => h) (Or.inl ⟨by rfl, ?_⟩) (fun _ => rfl) (by assumption) ?_
          rotate_left
          · (intro wq hSq; (try dsimp only at hSq); go_simp; try with_reducible rfl)
          try simp only [Act.put, List.setIfInBounds_toArray, List.set_cons_zero, List.set_cons_succ]
          refine wpAnyKC_stepL 11 (by kernel_rfl) rfl (fun K hK => ?_)
          go_simp
          refine hK.out _ _ (fun h => by cases h) ?_
          clear hK K hS
          try simp only [Act.put, List.setIfInBounds_toArray, List.set_cons_zero, List.set_cons_succ]
          refine wpAnyKC_end (by kernel_rfl) ?_
          have hA6 : Hid (RWrAt (w5.setCell ⟨b, j, none⟩ (byteV c)).drew p b n S ⟨si.h.set j c, fu - 1, false⟩) := (hA5.out.setByte _ _).drew
          have hK6 : Hid (Kp (two p b) w (w5.setCell ⟨b, j, none⟩ (byteV c)).drew) := (hK5.out.setCell (Or.inr rfl) _).drew
          try rw [hsi]
          generalize (w5.setCell ⟨b, j, none⟩ (byteV c)).drew = w6 at hA6 hK6 ⊢
          clear b1 b2 k1
          gi_wp2
          go_roundw
          case rel =>
            refine ⟨i + 1, ⟨si.h.set j c, fu - 1, false⟩, by omega, by go_num, ?_, hA6.out, hK6.out⟩
            show _ = _
            rw [HST.out, ← HJ.out]
            rw [← FU.out, if_pos hp]
          case measure => simp [intOf]; omega
        · have hpn : ¬ 0 < fu := hp
          clear hp
          gi_wp2_with fail
          clear e2 e3 f2 f3
          have k1 : wr.cell? ⟨p, 1, none⟩ = some (.slice (some ⟨b, 0, none⟩) S S) := (four_cells HA4.out.at_).2.1
          obtain ⟨th, hth⟩ := HA4.out.half
          have hlh : si.h.length = S := HA4.out.len
          obtain ⟨b1, b2⟩ := half_cells hth j (by rw [hlh]; exact hk3)
          generalize si.h[j] = c0 at b1
          clear hth
          refine wpIn_region_K (fun w' => w'.cell? ⟨p, 1, none⟩ = some (.slice (some ⟨b, 0, none⟩) S S) ∧ w'.cell? ⟨b, j, none⟩ = some (byteV c0) ∧ w'.frozen? ⟨b, j, none⟩ = false) 11 (by kernel_rfl) ⟨k1, b1, b2⟩ (fun hS => ?_)
          refine wpAnyKC_takeL 0 20 (v := ?_) hro (by kernel_rfl) (by kernel_rfl) (by kernel_rfl) rfl (by kernel_rfl) (by kernel_rfl) (fun _ _ _ h => h) (Or.inl ⟨by rfl, ?_⟩) (fun _ => rfl) (by assumption) ?_
          rotate_left
          · (intro wq hSq; (try dsimp only at hSq); go_simp; try with_reducible rfl)
          try simp only [Act.put, List.setIfInBounds_toArray, List.set_cons_zero, List.set_cons_succ]
          refine wpAnyKC_takeL 1 20 (v := ?_) hro (by kernel_rfl) (by kernel_rfl) (by kernel_rfl) rfl (by kernel_rfl) (by kernel_rfl) (fun _ _ _ h => h) (Or.inl ⟨by rfl, ?_⟩) (fun _ => rfl) (by assumption) ?_
          rotate_left
          · (intro wq hSq; (try dsimp only at hSq); go_simp; try with_reducible rfl)
          try simp only [Act.put, List.setIfInBounds_toArray, List.set_cons_zero, List.set_cons_succ]
          refine wpAnyKC_takeL 2 20 (v := ?_) hro (by kernel_rfl) (by kernel_rfl) (by kernel_rfl) rfl (by kernel_rfl) (by kernel_rfl) (fun _ _ _ h => h) (Or.inl ⟨by rfl, ?_⟩) (fun _ => rfl) (by assumption) ?_
          rotate_left
          · (intro wq hSq; (try dsimp only at hSq); go_simp; try with_reducible rfl)
          try simp only [Act.put, List.setIfInBounds_toArray, List.set_cons_zero, List.set_cons_succ]
          refine wpAnyKC_takeL 3 20 (v := ?_) hro (by kernel_rfl) (by kernel_rfl) (by kernel_rfl) rfl (by kernel_rfl) (by kernel_rfl) (fun _ _ _ h => h) (Or.inl ⟨by rfl, ?_⟩) (fun _ => rfl) (by assumption) ?_
          rotate_left
          · (intro wq hSq; (try dsimp only at hSq); go_simp; try with_reducible rfl)
          try simp only [Act.put, List.setIfInBounds_toArray, List.set_cons_zero, List.set_cons_succ]
          refine wpAnyKC_takeL 4 20 (v := ?_) hro (by kernel_rfl) (by kernel_rfl) (by kernel_rfl) rfl (by kernel_rfl) (by kernel_rfl) (fun _ _ _ h => h) (Or.inl ⟨by rfl, ?_⟩) (fun _ => rfl) (by assumption) ?_
          rotate_left
          · (intro wq hSq; (try dsimp only at hSq); go_simp; try with_reducible rfl)
          try simp only [Act.put, List.setIfInBounds_toArray, List.set_cons_zero, List.set_cons_succ]
          refine wpAnyKC_takeL 5 20 (v := ?_) hro (by kernel_rfl) (by kernel_rfl) (by kernel_rfl) rfl (by kernel_rfl) (by kernel_rfl) (fun _ _ _ h => h) (Or.inl ⟨by rfl, ?_⟩) (fun _ => rfl) (by assumption) ?_
          rotate_left
          · (intro wq hSq; (try dsimp only at hSq); go_simp; try with_reducible rfl)
          try simp only [Act.put, List.setIfInBounds_toArray, List.set_cons_zero, List.set_cons_succ]
          refine wpAnyKC_takeL 6 20 (v := ?_) hro (by kernel_rfl) (by kernel_rfl) (by kernel_rfl) rfl (by kernel_rfl) (by kernel_rfl) (fun _ _ _ h => h) (Or.inl ⟨by rfl, ?_⟩) (fun _ => rfl) (by assumption) ?_
          rotate_left
          · (intro wq hSq; (try dsimp only at hSq); go_simp; try with_reducible rfl)
          try simp only [Act.put, List.setIfInBounds_toArray, List.set_cons_zero, List.set_cons_succ]
          refine wpAnyKC_takeL 7 20 (v := ?_) hro (by kernel_rfl) (by kernel_rfl) (by kernel_rfl) rfl (by kernel_rfl) (by kernel_rfl) (fun _ _ _ h => h) (Or.inl ⟨by rfl, ?_⟩) (fun _ => rfl) (by assumption) ?_
          rotate_left
          · (intro wq hSq; (try dsimp only at hSq); go_simp; try with_reducible rfl)
          try simp only [Act.put, List.setIfInBounds_toArray, List.set_cons_zero, List.set_cons_succ]
          refine wpAnyKC_takeL 8 20 (v := ?_) hro (by kernel_rfl) (by kernel_rfl) (by kernel_rfl) rfl (by kernel_rfl) (by kernel_rfl) (fun _ _ _ h => h) (Or.inl ⟨by rfl, ?_⟩) (fun _ => rfl) (by assumption) ?_
          rotate_left
          · (intro wq hSq; (try dsimp only at hSq); go_simp; try with_reducible rfl)
          try simp only [Act.put, List.setIfInBounds_toArray, List.set_cons_zero, List.set_cons_succ]
          refine wpAnyKC_takeL 9 20 (v := ?_) hro (by kernel_rfl) (by kernel_rfl) (by kernel_rfl) rfl (by kernel_rfl) (by kernel_rfl) (fun _ _ _ h => h) (Or.inl ⟨by rfl, ?_⟩) (fun _ => rfl) (by assumption) ?_
          rotate_left
          · (intro wq hSq; (try dsimp only at hSq); go_simp; try with_reducible rfl)
          try simp only [Act.put, List.setIfInBounds_toArray, List.set_cons_zero, List.set_cons_succ]
          refine wpAnyKC_takeL 10 20 (v := ?_) hro (by kernel_rfl) (by kernel_rfl) (by kernel_rfl) rfl (by kernel_rfl) (by kernel_rfl) (fun _ _ _ h => h) (Or.inl ⟨by rfl, ?_⟩) (fun _ => rfl) (by assumption) ?_
          rotate_left
          · (intro wq hSq; (try dsimp only at hSq); go_simp; try with_reducible rfl)
          try simp only [Act.put, List.setIfInBounds_toArray, List.set_cons_zero, List.set_cons_succ]
          refine wpAnyKC_stepL 11 (by kernel_rfl) rfl (fun K hK => ?_)
          go_simp
          refine hK.out _ _ (fun h => by cases h) ?_
          clear hK K hS
          try simp only [Act.put, List.setIfInBounds_toArray, List.set_cons_zero, List.set_cons_succ]
          refine wpAnyKC_end (by kernel_rfl) ?_
          have hA6 : Hid (RWrAt (wr.setCell ⟨b, j, none⟩ (byteV c)).drew p b n S ⟨si.h.set j c, si.fuse, false⟩) := (HA4.out.setByte _ _).drew
          have hK6 : Hid (Kp (two p b) w (wr.setCell ⟨b, j, none⟩ (byteV c)).drew) := (hKp.out.setCell (Or.inr rfl) _).drew
          try rw [hsi]
          generalize (wr.setCell ⟨b, j, none⟩ (byteV c)).drew = w6 at hA6 hK6 ⊢
          clear b1 b2 k1
          gi_wp2
          go_roundw
          case rel =>
            refine ⟨i + 1, ⟨si.h.set j c, si.fuse, false⟩, by omega, by go_num, ?_, hA6.out, hK6.out⟩
            show _ = _
            rw [HST.out, ← HJ.out]
            rw [← FU.out, if_neg (by omega)]
          case measure => simp [intOf]; omega
end Go.Proofs.YtoggmplkbiidhaaDoor

/- Walks: the reference's disk: the records of a half. -/
namespace Go.Proofs.YtoggmplkbiidhaaDoor
set_option linter.all false
open Go.RowKit Go.Shelf
theorem owns_drewS {w : World} {base : Nat} {e : TypeId} {size : Nat} {v : Value} {n : Nat} {xs : List Value} (h : w.owns base e size v n xs) : w.drew.owns base e size v n xs := h
set_option maxRecDepth 100000 in
set_option maxHeartbeats 40000000 in
theorem rrecords_any (p b half g : Nat) (hh : half ≤ 1) (hg : g < 9223372036854775808) (d : Dk) (w : World) (hd : RDiskAt w p b d) (ho : d.ok) :
    Calls Tryd.prog 60 #[.pointer (some ⟨p, 0, none⟩), .int .i64 (half : Int), .int .i64 (g : Int)] w fun e w' =>
      (∃ v, e = .returned (.tuple #[v, .int .i64 (endR (d.hf half) g : Int)]) ∧ w'.reads w'.heap.size v (((recs (d.hf half) g).map (·.2)).map strV) ∧ (∀ z, v.ownBlock = some z → w.heap.size ≤ z)) ∧ Below w.heap.size w w' := by
  obtain ⟨X, hX⟩ : ∃ X, X = d.hf half := ⟨_, rfl⟩
  obtain ⟨E, hE⟩ : ∃ E, E = endR X g := ⟨_, rfl⟩
  rw [← hX, ← hE]
  obtain ⟨A, hA⟩ : ∃ A, A = half * d.size := ⟨_, rfl⟩
  obtain ⟨m, hm⟩ : ∃ m, m = d.size := ⟨_, rfl⟩
  have hlo := ho.lo
  have hhi := ho.hi
  have hAb : A + d.size ≤ 2 * d.size := by
    rw [hA]
    rcases (show half = 0 ∨ half = 1 by omega) with rfl | rfl <;> omega
  have hmul : (half : Int) * (m : Int) = (A : Int) := by rw [hA, hm]; push_cast; rfl
  have hXl : X.length = m := by rw [hX, hf_length ho half, hm]
  have hbl := both_length ho
  have BG : Hid (∀ i, i < m → (d.h0 ++ d.h1)[A + i]? = X[i]?) := fun i hi => by
    have := both_get ho half hh i (by omega)
    rw [← hA, ← hX] at this; exact this
  have BT : Hid (∀ o q, o + q ≤ m → ((d.h0 ++ d.h1).drop (A + o)).take q = (X.drop o).take q) := fun o q hq => by
    have := both_take ho half hh o q (by omega)
    rw [← hA, ← hX] at this; exact this
  obtain ⟨S, hS⟩ : ∃ S, S = 2 * d.size := ⟨_, rfl⟩
  have HK0 : Hid (∀ W, RDiskAt W p b d → W.cell? ⟨p, 0, none⟩ = some (.int .i64 (m : Int))) := fun W hW => by rw [hm]; exact (four_cells hW.at_).1
  have HK1 : Hid (∀ W, RDiskAt W p b d → W.cell? ⟨p, 1, none⟩ = some (.slice (some ⟨b, 0, none⟩) S S)) := fun W hW => by rw [hS]; exact (four_cells hW.at_).2.1
  have HNUM : Hid (∀ (W : World) (at_ : Nat), RDiskAt W p b d → at_ + 4 ≤ S → Calls Tryd.prog 81 #[.pointer (some ⟨p, 0, none⟩), .int .i64 (at_ : Int), .int .i64 4] W fun e w' => e = .returned (.int .i64 (sgn (numL (((d.h0 ++ d.h1).drop at_).take 4)))) ∧ W = w') := fun W at_ hW h4 => rnumber_any p b at_ 4 d W hW ho (by omega) (by omega)
  have HTX : Hid (∀ W, RDiskAt W p b d → ∀ o q c, o + q ≤ S → (convert 64 9 (.slice (some ⟨b, o, none⟩) q c)).run Tryd.prog W = .ok (.string (bytesOf (((d.h0 ++ d.h1).drop o).take q))) W) := fun W hW o q c hq => hW.half.text o q (by rw [hbl]; omega) c
  have hAS : A + m ≤ S := by omega
  have hSm : S ≤ 600000 := by omega
  have hm64 : 64 ≤ m := by omega
  have hmmx : m ≤ 262144 := by omega
  have HD := Lib.hid hd
  have HE := Lib.hid hE
  have HXL := Lib.hid hXl
  have HR0 : Hid (recs X g = recF X g m 17) := by show _ = _; unfold recs; rw [hXl]
  have hwm : IntKind.i64.wrap (A : Int) = (A : Int) := IntWalk.i64_in _ ⟨by omega, by omega⟩
  clear hd ho hX hE hA hm hlo hhi hAb hXl hbl hS
  obtain ⟨i0, hi0, hiz, hiz1, hizb⟩ := info_parts infoStr
  go_enter Tryd.func60, Tryd.ntmps60
  go_wp2_with fail
  go_loopw [8, 9] (fun ov kv wr => ∃ (k f : Nat) (pre : List (Nat × List UInt8)) (va : Option Addr) (L vc : Nat), kv = .int .i64 (k : Int) ∧ ov = .slice va L vc ∧ 17 + 13 * L ≤ k ∧ f + L = m ∧ k ≤ 17 + m ∧ Hid (pre.length = L) ∧ Hid (recs X g = pre ++ recF X g f k) ∧ Hid (lastE pre = k) ∧ Hid (wr.owns w.heap.size 9 1 (.slice va L vc) L ((pre.map (·.2)).map strV)) ∧ Hid (Below w.heap.size w wr)) (fun _ kv _ => 17 + m - (intOf kv).toNat)
  case atStart => exact ⟨17, m, [], none, 0, 0, rfl, rfl, by omega, by omega, by omega, rfl, HR0.out, rfl, World.owns_nil _ _ _ _, Below.refl _ _⟩
  case round =>
    obtain ⟨k, f, pre, va, L, vc, rfl, rfl, hk1, hf, hk2, hpl, hrec, hlast, hown, hB⟩ := hrel
    have HDr := Lib.hid (HD.out.kept hB.out)
    have hz := hB.out.size
    have q0 := HK0.out wr.drew HDr.out.drew
    have q1 := HK1.out wr.drew HDr.out.drew
    have hwk : IntKind.i64.wrap ((k : Int) + 13) = (k : Int) + 13 := IntWalk.i64_in _ ⟨by omega, by omega⟩
    by_cases a1 : k + 13 ≤ m
    case neg =>
      have hnx : nextR X g k = none := by unfold nextR; rw [if_neg]; rintro ⟨q, -⟩; rw [HXL.out] at q; exact a1 q
      have t1 : decide ((k : Int) + 13 ≤ (m : Int)) = false := decide_eq_false (by omega)
      go_wp2_with fail
      refine wp_region_heldL (fun w' => w'.cell? ⟨p, 0, none⟩ = some (.int .i64 (m : Int))) (by kernel_rfl) q0 (fun hS => ?_)
      refine wpAnyH_takeL 0 (v := ?_) (by kernel_rfl) rfl (by kernel_rfl) (by kernel_rfl) (fun _ _ _ h => h) (Or.inl ⟨by rfl, ?_⟩) (by assumption) ?_
      rotate_left
      · (intro wq hSq; (try dsimp only at hSq); go_simp; try with_reducible rfl)
      try simp only [Act.put, List.setIfInBounds_toArray, List.set_cons_zero, List.set_cons_succ]
      refine wpAnyH_takeL 1 (v := ?_) (by kernel_rfl) rfl (by kernel_rfl) (by kernel_rfl) (fun _ _ _ h => h) (Or.inl ⟨by rfl, ?_⟩) (by assumption) ?_
      rotate_left
      · (intro wq hSq; (try dsimp only at hSq); go_simp; try with_reducible rfl)
      try simp only [Act.put, List.setIfInBounds_toArray, List.set_cons_zero, List.set_cons_succ]
      refine wpAnyH_takeL 2 (v := ?_) (by kernel_rfl) rfl (by kernel_rfl) (by kernel_rfl) (fun _ _ _ h => h) (Or.inl ⟨by rfl, ?_⟩) (by assumption) ?_
      rotate_left
      · (intro wq hSq; (try dsimp only at hSq); go_simp; try with_reducible rfl)
      try simp only [Act.put, List.setIfInBounds_toArray, List.set_cons_zero, List.set_cons_succ]
      refine wpAnyH_takeL 3 (v := ?_) (by kernel_rfl) rfl (by kernel_rfl) (by kernel_rfl) (fun _ _ _ h => h) (Or.inl ⟨by rfl, ?_⟩) (by assumption) ?_
      rotate_left
      · (intro wq hSq; (try dsimp only at hSq); go_simp; try with_reducible rfl)
      try simp only [Act.put, List.setIfInBounds_toArray, List.set_cons_zero, List.set_cons_succ]
      refine wpAnyH_takeL 4 (v := ?_) (by kernel_rfl) rfl (by kernel_rfl) (by kernel_rfl) (fun _ _ _ h => h) (Or.inl ⟨by rfl, ?_⟩) (by assumption) ?_
      rotate_left
      · (intro wq hSq; (try dsimp only at hSq); go_simp; try with_reducible rfl)
      try simp only [Act.put, List.setIfInBounds_toArray, List.set_cons_zero, List.set_cons_succ]
      refine wpAnyH_takeL 5 (v := ?_) (by kernel_rfl) rfl (by kernel_rfl) (by kernel_rfl) (fun _ _ _ h => h) (Or.inl ⟨by rfl, ?_⟩) (by assumption) ?_
      rotate_left
      · (intro wq hSq; (try dsimp only at hSq); go_simp; try with_reducible rfl)
      try simp only [Act.put, List.setIfInBounds_toArray, List.set_cons_zero, List.set_cons_succ]
      refine wpAnyH_takeL 6 (v := ?_) (by kernel_rfl) rfl (by kernel_rfl) (by kernel_rfl) (fun _ _ _ h => h) (Or.inl ⟨by rfl, ?_⟩) (by assumption) ?_
      rotate_left
      · (intro wq hSq; (try dsimp only at hSq); go_simp; try with_reducible rfl)
      try simp only [Act.put, List.setIfInBounds_toArray, List.set_cons_zero, List.set_cons_succ]
      refine wpAnyH_takeL 7 (v := ?_) (by kernel_rfl) rfl (by kernel_rfl) (by kernel_rfl) (fun _ _ _ h => h) (Or.inl ⟨by rfl, ?_⟩) (by assumption) ?_
      rotate_left
      · (intro wq hSq; (try dsimp only at hSq); go_simp; try with_reducible rfl)
      try simp only [Act.put, List.setIfInBounds_toArray, List.set_cons_zero, List.set_cons_succ]
      refine wpAnyH_takeL 8 (v := undef) (by kernel_rfl) rfl (by kernel_rfl) (by kernel_rfl) (fun _ _ _ h => h) (Or.inr ⟨by rfl, rfl⟩) (by assumption) ?_
      try simp only [Act.put, List.setIfInBounds_toArray, List.set_cons_zero, List.set_cons_succ]
      refine wpAnyH_takeL 9 (v := undef) (by kernel_rfl) rfl (by kernel_rfl) (by kernel_rfl) (fun _ _ _ h => h) (Or.inr ⟨by rfl, rfl⟩) (by assumption) ?_
      try simp only [Act.put, List.setIfInBounds_toArray, List.set_cons_zero, List.set_cons_succ]
      refine wpAnyH_takeL 10 (v := undef) (by kernel_rfl) rfl (by kernel_rfl) (by kernel_rfl) (fun _ _ _ h => h) (Or.inr ⟨by rfl, rfl⟩) (by assumption) ?_
      try simp only [Act.put, List.setIfInBounds_toArray, List.set_cons_zero, List.set_cons_succ]
      refine wpAnyH_takeL 11 (v := undef) (by kernel_rfl) rfl (by kernel_rfl) (by kernel_rfl) (fun _ _ _ h => h) (Or.inr ⟨by rfl, rfl⟩) (by assumption) ?_
      try simp only [Act.put, List.setIfInBounds_toArray, List.set_cons_zero, List.set_cons_succ]
      refine wpAnyH_takeL 12 (v := undef) (by kernel_rfl) rfl (by kernel_rfl) (by kernel_rfl) (fun _ _ _ h => h) (Or.inr ⟨by rfl, rfl⟩) (by assumption) ?_
      try simp only [Act.put, List.setIfInBounds_toArray, List.set_cons_zero, List.set_cons_succ]
      refine wpAnyH_takeL 13 (v := undef) (by kernel_rfl) rfl (by kernel_rfl) (by kernel_rfl) (fun _ _ _ h => h) (Or.inr ⟨by rfl, rfl⟩) (by assumption) ?_
      try simp only [Act.put, List.setIfInBounds_toArray, List.set_cons_zero, List.set_cons_succ]
      refine wpAnyH_takeL 14 (v := undef) (by kernel_rfl) rfl (by kernel_rfl) (by kernel_rfl) (fun _ _ _ h => h) (Or.inr ⟨by rfl, rfl⟩) (by assumption) ?_
      try simp only [Act.put, List.setIfInBounds_toArray, List.set_cons_zero, List.set_cons_succ]
      refine wpAnyH_takeL 15 (v := undef) (by kernel_rfl) rfl (by kernel_rfl) (by kernel_rfl) (fun _ _ _ h => h) (Or.inr ⟨by rfl, rfl⟩) (by assumption) ?_
      try simp only [Act.put, List.setIfInBounds_toArray, List.set_cons_zero, List.set_cons_succ]
      refine wpAnyH_takeL 16 (v := undef) (by kernel_rfl) rfl (by kernel_rfl) (by kernel_rfl) (fun _ _ _ h => h) (Or.inr ⟨by rfl, rfl⟩) (by assumption) ?_
      try simp only [Act.put, List.setIfInBounds_toArray, List.set_cons_zero, List.set_cons_succ]
      refine wpAnyH_takeL 17 (v := undef) (by kernel_rfl) rfl (by kernel_rfl) (by kernel_rfl) (fun _ _ _ h => h) (Or.inr ⟨by rfl, rfl⟩) (by assumption) ?_
      try simp only [Act.put, List.setIfInBounds_toArray, List.set_cons_zero, List.set_cons_succ]
      refine wpAnyH_takeL 18 (v := undef) (by kernel_rfl) rfl (by kernel_rfl) (by kernel_rfl) (fun _ _ _ h => h) (Or.inr ⟨by rfl, rfl⟩) (by assumption) ?_
      try simp only [Act.put, List.setIfInBounds_toArray, List.set_cons_zero, List.set_cons_succ]
      refine wpAnyH_takeL 19 (v := undef) (by kernel_rfl) rfl (by kernel_rfl) (by kernel_rfl) (fun _ _ _ h => h) (Or.inr ⟨by rfl, rfl⟩) (by assumption) ?_
      try simp only [Act.put, List.setIfInBounds_toArray, List.set_cons_zero, List.set_cons_succ]
      refine wpAnyH_takeL 20 (v := undef) (by kernel_rfl) rfl (by kernel_rfl) (by kernel_rfl) (fun _ _ _ h => h) (Or.inr ⟨by rfl, rfl⟩) (by assumption) ?_
      try simp only [Act.put, List.setIfInBounds_toArray, List.set_cons_zero, List.set_cons_succ]
      refine wpAnyH_takeL 21 (v := undef) (by kernel_rfl) rfl (by kernel_rfl) (by kernel_rfl) (fun _ _ _ h => h) (Or.inr ⟨by rfl, rfl⟩) (by assumption) ?_
      try simp only [Act.put, List.setIfInBounds_toArray, List.set_cons_zero, List.set_cons_succ]
      refine wpAnyH_takeL 22 (v := undef) (by kernel_rfl) rfl (by kernel_rfl) (by kernel_rfl) (fun _ _ _ h => h) (Or.inr ⟨by rfl, rfl⟩) (by assumption) ?_
      try simp only [Act.put, List.setIfInBounds_toArray, List.set_cons_zero, List.set_cons_succ]
      refine wpAnyH_takeL 23 (v := ?_) (by kernel_rfl) rfl (by kernel_rfl) (by kernel_rfl) (fun _ _ _ h => h) (Or.inl ⟨by rfl, ?_⟩) (by assumption) ?_
      rotate_left
      · (intro wq hSq; (try dsimp only at hSq); go_simp; try with_reducible rfl)
      try simp only [Act.put, List.setIfInBounds_toArray, List.set_cons_zero, List.set_cons_succ]
      refine wpAnyH_end (by kernel_rfl) ?_
      have HFIN : Hid (recs X g = pre) := by show _ = _; rw [hrec.out, recF_none hnx, List.append_nil]
      obtain rfl : E = k := by rw [HE.out]; unfold endR; rw [HFIN.out]; exact hlast.out
      clear hnx
      go_wp2
      go_ret2
      refine ⟨⟨_, rfl, ?_, fun z e => (hown.out.lt _ e).1⟩, hB.out.drew⟩
      rw [HFIN.out]
      exact (owns_drewS hown.out).reads
    have t1 : decide ((k : Int) + 13 ≤ (m : Int)) = true := decide_eq_true (by omega)
    have hkm : k < m := by omega
    obtain ⟨x, hx⟩ : ∃ x, X[k]? = some x := ⟨X[k]'(by rw [HXL.out]; exact hkm), List.getElem?_eq_getElem _⟩
    obtain ⟨Ak, hAk⟩ : ∃ a, a = A + k := ⟨_, rfl⟩
    have qx : wr.drew.cell? ⟨b, Ak, none⟩ = some (.int .u8 (x.toNat : Int)) := by
      have h1 := BG.out k hkm
      rw [hx, ← hAk] at h1
      exact HDr.out.drew.half.cell Ak x h1
    have hgx : X.getD k 0 = x := by rw [List.getD_eq_getElem?_getD, hx]; rfl
    have HGX := Lib.hid hgx
    have hwa : IntKind.i64.wrap ((A : Int) + (k : Int)) = (Ak : Int) := by rw [IntWalk.i64_in _ ⟨by omega, by omega⟩]; omega
    have hAkS : Ak < S := by omega
    have hAkS' : (Ak : Int) < (S : Int) := by omega
    have HAK := Lib.hid hAk
    clear hx hgx hAk
    by_cases a2 : x = 1
    case neg =>
      have hnx : nextR X g k = none := by unfold nextR; rw [if_neg]; rintro ⟨-, q, -⟩; rw [HGX.out] at q; exact a2 q
      have t2 : ((x.toNat : Int) == 1) = false := by
        rw [beq_eq_false_iff_ne]
        intro h
        exact a2 (UInt8.toNat_inj.1 (by show x.toNat = 1; omega))
      go_wp2_with fail
      refine wp_region_heldL (fun w' => w'.cell? ⟨p, 0, none⟩ = some (.int .i64 (m : Int)) ∧ w'.cell? ⟨p, 1, none⟩ = some (.slice (some ⟨b, 0, none⟩) S S) ∧ w'.cell? ⟨b, Ak, none⟩ = some (.int .u8 (x.toNat : Int))) (by kernel_rfl) ⟨q0, q1, qx⟩ (fun hS => ?_)
      refine wpAnyH_takeL 0 (v := ?_) (by kernel_rfl) rfl (by kernel_rfl) (by kernel_rfl) (fun _ _ _ h => h) (Or.inl ⟨by rfl, ?_⟩) (by assumption) ?_
      rotate_left
      · (intro wq hSq; (try dsimp only at hSq); go_simp; try with_reducible rfl)
      try simp only [Act.put, List.setIfInBounds_toArray, List.set_cons_zero, List.set_cons_succ]
      refine wpAnyH_takeL 1 (v := ?_) (by kernel_rfl) rfl (by kernel_rfl) (by kernel_rfl) (fun _ _ _ h => h) (Or.inl ⟨by rfl, ?_⟩) (by assumption) ?_
      rotate_left
      · (intro wq hSq; (try dsimp only at hSq); go_simp; try with_reducible rfl)
      try simp only [Act.put, List.setIfInBounds_toArray, List.set_cons_zero, List.set_cons_succ]
      refine wpAnyH_takeL 2 (v := ?_) (by kernel_rfl) rfl (by kernel_rfl) (by kernel_rfl) (fun _ _ _ h => h) (Or.inl ⟨by rfl, ?_⟩) (by assumption) ?_
      rotate_left
      · (intro wq hSq; (try dsimp only at hSq); go_simp; try with_reducible rfl)
      try simp only [Act.put, List.setIfInBounds_toArray, List.set_cons_zero, List.set_cons_succ]
      refine wpAnyH_takeL 3 (v := ?_) (by kernel_rfl) rfl (by kernel_rfl) (by kernel_rfl) (fun _ _ _ h => h) (Or.inl ⟨by rfl, ?_⟩) (by assumption) ?_
      rotate_left
      · (intro wq hSq; (try dsimp only at hSq); go_simp; try with_reducible rfl)
      try simp only [Act.put, List.setIfInBounds_toArray, List.set_cons_zero, List.set_cons_succ]
      refine wpAnyH_takeL 4 (v := ?_) (by kernel_rfl) rfl (by kernel_rfl) (by kernel_rfl) (fun _ _ _ h => h) (Or.inl ⟨by rfl, ?_⟩) (by assumption) ?_
      rotate_left
      · (intro wq hSq; (try dsimp only at hSq); go_simp; try with_reducible rfl)
      try simp only [Act.put, List.setIfInBounds_toArray, List.set_cons_zero, List.set_cons_succ]
      refine wpAnyH_takeL 5 (v := ?_) (by kernel_rfl) rfl (by kernel_rfl) (by kernel_rfl) (fun _ _ _ h => h) (Or.inl ⟨by rfl, ?_⟩) (by assumption) ?_
      rotate_left
      · (intro wq hSq; (try dsimp only at hSq); go_simp; try with_reducible rfl)
      try simp only [Act.put, List.setIfInBounds_toArray, List.set_cons_zero, List.set_cons_succ]
      refine wpAnyH_takeL 6 (v := ?_) (by kernel_rfl) rfl (by kernel_rfl) (by kernel_rfl) (fun _ _ _ h => h) (Or.inl ⟨by rfl, ?_⟩) (by assumption) ?_
      rotate_left
      · (intro wq hSq; (try dsimp only at hSq); go_simp; try with_reducible rfl)
      try simp only [Act.put, List.setIfInBounds_toArray, List.set_cons_zero, List.set_cons_succ]
      refine wpAnyH_takeL 7 (v := ?_) (by kernel_rfl) rfl (by kernel_rfl) (by kernel_rfl) (fun _ _ _ h => h) (Or.inl ⟨by rfl, ?_⟩) (by assumption) ?_
      rotate_left
      · (intro wq hSq; (try dsimp only at hSq); go_simp; try with_reducible rfl)
      try simp only [Act.put, List.setIfInBounds_toArray, List.set_cons_zero, List.set_cons_succ]
      refine wpAnyH_takeL 8 (v := ?_) (by kernel_rfl) rfl (by kernel_rfl) (by kernel_rfl) (fun _ _ _ h => h) (Or.inl ⟨by rfl, ?_⟩) (by assumption) ?_
      rotate_left
      · (intro wq hSq; (try dsimp only at hSq); go_simp; try with_reducible rfl)
      try simp only [Act.put, List.setIfInBounds_toArray, List.set_cons_zero, List.set_cons_succ]
      refine wpAnyH_takeL 9 (v := ?_) (by kernel_rfl) rfl (by kernel_rfl) (by kernel_rfl) (fun _ _ _ h => h) (Or.inl ⟨by rfl, ?_⟩) (by assumption) ?_
      rotate_left
      · (intro wq hSq; (try dsimp only at hSq); go_simp; try with_reducible rfl)
      try simp only [Act.put, List.setIfInBounds_toArray, List.set_cons_zero, List.set_cons_succ]
      refine wpAnyH_takeL 10 (v := ?_) (by kernel_rfl) rfl (by kernel_rfl) (by kernel_rfl) (fun _ _ _ h => h) (Or.inl ⟨by rfl, ?_⟩) (by assumption) ?_
      rotate_left
      · (intro wq hSq; (try dsimp only at hSq); go_simp; try with_reducible rfl)
      try simp only [Act.put, List.setIfInBounds_toArray, List.set_cons_zero, List.set_cons_succ]
      refine wpAnyH_takeL 11 (v := ?_) (by kernel_rfl) rfl (by kernel_rfl) (by kernel_rfl) (fun _ _ _ h => h) (Or.inl ⟨by rfl, ?_⟩) (by assumption) ?_
      rotate_left
      · (intro wq hSq; (try dsimp only at hSq); go_simp; try with_reducible rfl)
      try simp only [Act.put, List.setIfInBounds_toArray, List.set_cons_zero, List.set_cons_succ]
      refine wpAnyH_takeL 12 (v := ?_) (by kernel_rfl) rfl (by kernel_rfl) (by kernel_rfl) (fun _ _ _ h => h) (Or.inl ⟨by rfl, ?_⟩) (by assumption) ?_
      rotate_left
      · (intro wq hSq; (try dsimp only at hSq); go_simp; try with_reducible rfl)
      try simp only [Act.put, List.setIfInBounds_toArray, List.set_cons_zero, List.set_cons_succ]
      refine wpAnyH_takeL 13 (v := ?_) (by kernel_rfl) rfl (by kernel_rfl) (by kernel_rfl) (fun _ _ _ h => h) (Or.inl ⟨by rfl, ?_⟩) (by assumption) ?_
      rotate_left
      · (intro wq hSq; (try dsimp only at hSq); go_simp; try with_reducible rfl)
      try simp only [Act.put, List.setIfInBounds_toArray, List.set_cons_zero, List.set_cons_succ]
      refine wpAnyH_takeL 14 (v := ?_) (by kernel_rfl) rfl (by kernel_rfl) (by kernel_rfl) (fun _ _ _ h => h) (Or.inl ⟨by rfl, ?_⟩) (by assumption) ?_
      rotate_left
      · (intro wq hSq; (try dsimp only at hSq); go_simp; try with_reducible rfl)
      try simp only [Act.put, List.setIfInBounds_toArray, List.set_cons_zero, List.set_cons_succ]
      refine wpAnyH_takeL 15 (v := ?_) (by kernel_rfl) rfl (by kernel_rfl) (by kernel_rfl) (fun _ _ _ h => h) (Or.inl ⟨by rfl, ?_⟩) (by assumption) ?_
      rotate_left
      · (intro wq hSq; (try dsimp only at hSq); go_simp; try with_reducible rfl)
      try simp only [Act.put, List.setIfInBounds_toArray, List.set_cons_zero, List.set_cons_succ]
      refine wpAnyH_takeL 16 (v := ?_) (by kernel_rfl) rfl (by kernel_rfl) (by kernel_rfl) (fun _ _ _ h => h) (Or.inl ⟨by rfl, ?_⟩) (by assumption) ?_
      rotate_left
      · (intro wq hSq; (try dsimp only at hSq); go_simp; try with_reducible rfl)
      try simp only [Act.put, List.setIfInBounds_toArray, List.set_cons_zero, List.set_cons_succ]
      refine wpAnyH_takeL 17 (v := ?_) (by kernel_rfl) rfl (by kernel_rfl) (by kernel_rfl) (fun _ _ _ h => h) (Or.inl ⟨by rfl, ?_⟩) (by assumption) ?_
      rotate_left
      · (intro wq hSq; (try dsimp only at hSq); go_simp; try with_reducible rfl)
      try simp only [Act.put, List.setIfInBounds_toArray, List.set_cons_zero, List.set_cons_succ]
      refine wpAnyH_takeL 18 (v := ?_) (by kernel_rfl) rfl (by kernel_rfl) (by kernel_rfl) (fun _ _ _ h => h) (Or.inl ⟨by rfl, ?_⟩) (by assumption) ?_
      rotate_left
      · (intro wq hSq; (try dsimp only at hSq); go_simp; try with_reducible rfl)
      try simp only [Act.put, List.setIfInBounds_toArray, List.set_cons_zero, List.set_cons_succ]
      refine wpAnyH_takeL 19 (v := ?_) (by kernel_rfl) rfl (by kernel_rfl) (by kernel_rfl) (fun _ _ _ h => h) (Or.inl ⟨by rfl, ?_⟩) (by assumption) ?_
      rotate_left
      · (intro wq hSq; (try dsimp only at hSq); go_simp; try with_reducible rfl)
      try simp only [Act.put, List.setIfInBounds_toArray, List.set_cons_zero, List.set_cons_succ]
      refine wpAnyH_takeL 20 (v := ?_) (by kernel_rfl) rfl (by kernel_rfl) (by kernel_rfl) (fun _ _ _ h => h) (Or.inl ⟨by rfl, ?_⟩) (by assumption) ?_
      rotate_left
      · (intro wq hSq; (try dsimp only at hSq); go_simp; try with_reducible rfl)
      try simp only [Act.put, List.setIfInBounds_toArray, List.set_cons_zero, List.set_cons_succ]
      refine wpAnyH_takeL 21 (v := ?_) (by kernel_rfl) rfl (by kernel_rfl) (by kernel_rfl) (fun _ _ _ h => h) (Or.inl ⟨by rfl, ?_⟩) (by assumption) ?_
      rotate_left
      · (intro wq hSq; (try dsimp only at hSq); go_simp; try with_reducible rfl)
      try simp only [Act.put, List.setIfInBounds_toArray, List.set_cons_zero, List.set_cons_succ]
      refine wpAnyH_takeL 22 (v := ?_) (by kernel_rfl) rfl (by kernel_rfl) (by kernel_rfl) (fun _ _ _ h => h) (Or.inl ⟨by rfl, ?_⟩) (by assumption) ?_
      rotate_left
      · (intro wq hSq; (try dsimp only at hSq); go_simp; try with_reducible rfl)
      try simp only [Act.put, List.setIfInBounds_toArray, List.set_cons_zero, List.set_cons_succ]
      refine wpAnyH_takeL 23 (v := ?_) (by kernel_rfl) rfl (by kernel_rfl) (by kernel_rfl) (fun _ _ _ h => h) (Or.inl ⟨by rfl, ?_⟩) (by assumption) ?_
      rotate_left
      · (intro wq hSq; (try dsimp only at hSq); go_simp; try with_reducible rfl)
      try simp only [Act.put, List.setIfInBounds_toArray, List.set_cons_zero, List.set_cons_succ]
      refine wpAnyH_end (by kernel_rfl) ?_
      have HFIN : Hid (recs X g = pre) := by show _ = _; rw [hrec.out, recF_none hnx, List.append_nil]
      obtain rfl : E = k := by rw [HE.out]; unfold endR; rw [HFIN.out]; exact hlast.out
      clear hnx
      go_wp2
      go_ret2
      refine ⟨⟨_, rfl, ?_, fun z e => (hown.out.lt _ e).1⟩, hB.out.drew⟩
      rw [HFIN.out]
      exact (owns_drewS hown.out).reads
    have t2 : ((x.toNat : Int) == 1) = true := by rw [a2]; rfl
    obtain ⟨v, hv⟩ : ∃ v, v = numL ((X.drop (k + 1)).take 4) := ⟨_, rfl⟩
    have hl4 : ((X.drop (k + 1)).take 4).length = 4 := by rw [List.length_take, List.length_drop, HXL.out]; omega
    have hvl := numL_lt ((X.drop (k + 1)).take 4)
    have h256 : (256 : Nat) ^ 4 = 4294967296 := by simp
    rw [hl4, ← hv, h256] at hvl
    obtain ⟨St, hSt⟩ : ∃ a, a = Ak + 1 := ⟨_, rfl⟩
    have hSt' : St = A + (k + 1) := by have := HAK.out; omega
    have HNV := Lib.hid (HNUM.out wr.drew St HDr.out.drew (by omega))
    rw [hSt', BT.out (k + 1) 4 (by omega), ← hv, sgn_small v (by omega), ← hSt'] at HNV
    have hst1 : (Ak : Int) + 1 = (St : Int) := by omega
    have HV := Lib.hid hv
    have HST' := Lib.hid hSt'
    clear hl4 hv h256 hSt hSt'
    go_wp2_with fail
    refine wp_region_heldL (fun w' => w'.cell? ⟨p, 0, none⟩ = some (.int .i64 (m : Int)) ∧ w'.cell? ⟨p, 1, none⟩ = some (.slice (some ⟨b, 0, none⟩) S S) ∧ w'.cell? ⟨b, Ak, none⟩ = some (.int .u8 (x.toNat : Int))) (by kernel_rfl) ⟨q0, q1, qx⟩ (fun hS => ?_)
    refine wpAnyH_takeL 0 (v := ?_) (by kernel_rfl) rfl (by kernel_rfl) (by kernel_rfl) (fun _ _ _ h => h) (Or.inl ⟨by rfl, ?_⟩) (by assumption) ?_
    rotate_left
    · (intro wq hSq; (try dsimp only at hSq); go_simp; try with_reducible rfl)
    try simp only [Act.put, List.setIfInBounds_toArray, List.set_cons_zero, List.set_cons_succ]
    refine wpAnyH_takeL 1 (v := ?_) (by kernel_rfl) rfl (by kernel_rfl) (by kernel_rfl) (fun _ _ _ h => h) (Or.inl ⟨by rfl, ?_⟩) (by assumption) ?_
    rotate_left
    · (intro wq hSq; (try dsimp only at hSq); go_simp; try with_reducible rfl)
    try simp only [Act.put, List.setIfInBounds_toArray, List.set_cons_zero, List.set_cons_succ]
    refine wpAnyH_takeL 2 (v := ?_) (by kernel_rfl) rfl (by kernel_rfl) (by kernel_rfl) (fun _ _ _ h => h) (Or.inl ⟨by rfl, ?_⟩) (by assumption) ?_
    rotate_left
    · (intro wq hSq; (try dsimp only at hSq); go_simp; try with_reducible rfl)
    try simp only [Act.put, List.setIfInBounds_toArray, List.set_cons_zero, List.set_cons_succ]
    refine wpAnyH_takeL 3 (v := ?_) (by kernel_rfl) rfl (by kernel_rfl) (by kernel_rfl) (fun _ _ _ h => h) (Or.inl ⟨by rfl, ?_⟩) (by assumption) ?_
    rotate_left
    · (intro wq hSq; (try dsimp only at hSq); go_simp; try with_reducible rfl)
    try simp only [Act.put, List.setIfInBounds_toArray, List.set_cons_zero, List.set_cons_succ]
    refine wpAnyH_takeL 4 (v := ?_) (by kernel_rfl) rfl (by kernel_rfl) (by kernel_rfl) (fun _ _ _ h => h) (Or.inl ⟨by rfl, ?_⟩) (by assumption) ?_
    rotate_left
    · (intro wq hSq; (try dsimp only at hSq); go_simp; try with_reducible rfl)
    try simp only [Act.put, List.setIfInBounds_toArray, List.set_cons_zero, List.set_cons_succ]
    refine wpAnyH_takeL 5 (v := ?_) (by kernel_rfl) rfl (by kernel_rfl) (by kernel_rfl) (fun _ _ _ h => h) (Or.inl ⟨by rfl, ?_⟩) (by assumption) ?_
    rotate_left
    · (intro wq hSq; (try dsimp only at hSq); go_simp; try with_reducible rfl)
    try simp only [Act.put, List.setIfInBounds_toArray, List.set_cons_zero, List.set_cons_succ]
    refine wpAnyH_takeL 6 (v := ?_) (by kernel_rfl) rfl (by kernel_rfl) (by kernel_rfl) (fun _ _ _ h => h) (Or.inl ⟨by rfl, ?_⟩) (by assumption) ?_
    rotate_left
    · (intro wq hSq; (try dsimp only at hSq); go_simp; try with_reducible rfl)
    try simp only [Act.put, List.setIfInBounds_toArray, List.set_cons_zero, List.set_cons_succ]
    refine wpAnyH_takeL 7 (v := ?_) (by kernel_rfl) rfl (by kernel_rfl) (by kernel_rfl) (fun _ _ _ h => h) (Or.inl ⟨by rfl, ?_⟩) (by assumption) ?_
    rotate_left
    · (intro wq hSq; (try dsimp only at hSq); go_simp; try with_reducible rfl)
    try simp only [Act.put, List.setIfInBounds_toArray, List.set_cons_zero, List.set_cons_succ]
    refine wpAnyH_takeL 8 (v := ?_) (by kernel_rfl) rfl (by kernel_rfl) (by kernel_rfl) (fun _ _ _ h => h) (Or.inl ⟨by rfl, ?_⟩) (by assumption) ?_
    rotate_left
    · (intro wq hSq; (try dsimp only at hSq); go_simp; try with_reducible rfl)
    try simp only [Act.put, List.setIfInBounds_toArray, List.set_cons_zero, List.set_cons_succ]
    refine wpAnyH_takeL 9 (v := ?_) (by kernel_rfl) rfl (by kernel_rfl) (by kernel_rfl) (fun _ _ _ h => h) (Or.inl ⟨by rfl, ?_⟩) (by assumption) ?_
    rotate_left
    · (intro wq hSq; (try dsimp only at hSq); go_simp; try with_reducible rfl)
    try simp only [Act.put, List.setIfInBounds_toArray, List.set_cons_zero, List.set_cons_succ]
    refine wpAnyH_takeL 10 (v := ?_) (by kernel_rfl) rfl (by kernel_rfl) (by kernel_rfl) (fun _ _ _ h => h) (Or.inl ⟨by rfl, ?_⟩) (by assumption) ?_
    rotate_left
    · (intro wq hSq; (try dsimp only at hSq); go_simp; try with_reducible rfl)
    try simp only [Act.put, List.setIfInBounds_toArray, List.set_cons_zero, List.set_cons_succ]
    refine wpAnyH_takeL 11 (v := ?_) (by kernel_rfl) rfl (by kernel_rfl) (by kernel_rfl) (fun _ _ _ h => h) (Or.inl ⟨by rfl, ?_⟩) (by assumption) ?_
    rotate_left
    · (intro wq hSq; (try dsimp only at hSq); go_simp; try with_reducible rfl)
    try simp only [Act.put, List.setIfInBounds_toArray, List.set_cons_zero, List.set_cons_succ]
    refine wpAnyH_takeL 12 (v := ?_) (by kernel_rfl) rfl (by kernel_rfl) (by kernel_rfl) (fun _ _ _ h => h) (Or.inl ⟨by rfl, ?_⟩) (by assumption) ?_
    rotate_left
    · (intro wq hSq; (try dsimp only at hSq); go_simp; try with_reducible rfl)
    try simp only [Act.put, List.setIfInBounds_toArray, List.set_cons_zero, List.set_cons_succ]
    refine wpAnyH_takeL 13 (v := ?_) (by kernel_rfl) rfl (by kernel_rfl) (by kernel_rfl) (fun _ _ _ h => h) (Or.inl ⟨by rfl, ?_⟩) (by assumption) ?_
    rotate_left
    · (intro wq hSq; (try dsimp only at hSq); go_simp; try with_reducible rfl)
    try simp only [Act.put, List.setIfInBounds_toArray, List.set_cons_zero, List.set_cons_succ]
    refine wpAnyH_takeL 14 (v := ?_) (by kernel_rfl) rfl (by kernel_rfl) (by kernel_rfl) (fun _ _ _ h => h) (Or.inl ⟨by rfl, ?_⟩) (by assumption) ?_
    rotate_left
    · (intro wq hSq; (try dsimp only at hSq); go_simp; try with_reducible rfl)
    try simp only [Act.put, List.setIfInBounds_toArray, List.set_cons_zero, List.set_cons_succ]
    refine wpAnyH_takeL 15 (v := ?_) (by kernel_rfl) rfl (by kernel_rfl) (by kernel_rfl) (fun _ _ _ h => h) (Or.inl ⟨by rfl, ?_⟩) (by assumption) ?_
    rotate_left
    · (intro wq hSq; (try dsimp only at hSq); go_simp; try with_reducible rfl)
    try simp only [Act.put, List.setIfInBounds_toArray, List.set_cons_zero, List.set_cons_succ]
    refine wpAnyH_takeL 16 (v := ?_) (by kernel_rfl) rfl (by kernel_rfl) (by kernel_rfl) (fun _ _ _ h => h) (Or.inl ⟨by rfl, ?_⟩) (by assumption) ?_
    rotate_left
    · (intro wq hSq; (try dsimp only at hSq); go_simp; try with_reducible rfl)
    try simp only [Act.put, List.setIfInBounds_toArray, List.set_cons_zero, List.set_cons_succ]
    refine wpAnyH_takeL 17 (v := ?_) (by kernel_rfl) rfl (by kernel_rfl) (by kernel_rfl) (fun _ _ _ h => h) (Or.inl ⟨by rfl, ?_⟩) (by assumption) ?_
    rotate_left
    · (intro wq hSq; (try dsimp only at hSq); go_simp; try with_reducible rfl)
    try simp only [Act.put, List.setIfInBounds_toArray, List.set_cons_zero, List.set_cons_succ]
    refine wpAnyH_takeL 18 (v := ?_) (by kernel_rfl) rfl (by kernel_rfl) (by kernel_rfl) (fun _ _ _ h => h) (Or.inl ⟨by rfl, ?_⟩) (by assumption) ?_
    rotate_left
    · (intro wq hSq; (try dsimp only at hSq); go_simp; try with_reducible rfl)
    try simp only [Act.put, List.setIfInBounds_toArray, List.set_cons_zero, List.set_cons_succ]
    refine wpAnyH_takeL 19 (v := ?_) (by kernel_rfl) rfl (by kernel_rfl) (by kernel_rfl) (fun _ _ _ h => h) (Or.inl ⟨by rfl, ?_⟩) (by assumption) ?_
    rotate_left
    · (intro wq hSq; (try dsimp only at hSq); go_simp; try with_reducible rfl)
    try simp only [Act.put, List.setIfInBounds_toArray, List.set_cons_zero, List.set_cons_succ]
    refine wpAnyH_takeL 20 (v := ?_) (by kernel_rfl) rfl (by kernel_rfl) (by kernel_rfl) (fun _ _ _ h => h) (Or.inl ⟨by rfl, ?_⟩) (by assumption) ?_
    rotate_left
    · (intro wq hSq; (try dsimp only at hSq); go_simp; try with_reducible rfl)
    try simp only [Act.put, List.setIfInBounds_toArray, List.set_cons_zero, List.set_cons_succ]
    refine wpAnyH_takeL 21 (v := ?_) (by kernel_rfl) rfl (by kernel_rfl) (by kernel_rfl) (fun _ _ _ h => h) (Or.inl ⟨by rfl, ?_⟩) (by assumption) ?_
    rotate_left
    · (intro wq hSq; (try dsimp only at hSq); go_simp; try with_reducible rfl)
    try simp only [Act.put, List.setIfInBounds_toArray, List.set_cons_zero, List.set_cons_succ]
    refine wpAnyH_takeL 22 (v := ?_) (by kernel_rfl) rfl (by kernel_rfl) (by kernel_rfl) (fun _ _ _ h => h) (Or.inl ⟨by rfl, ?_⟩) (by assumption) ?_
    rotate_left
    · (intro wq hSq; (try dsimp only at hSq); go_simp; try with_reducible rfl)
    try simp only [Act.put, List.setIfInBounds_toArray, List.set_cons_zero, List.set_cons_succ]
    refine wpAnyH_takeL 23 (v := ?_) (by kernel_rfl) rfl (by kernel_rfl) (by kernel_rfl) (fun _ _ _ h => h) (Or.inl ⟨by rfl, ?_⟩) (by assumption) ?_
    rotate_left
    · (intro wq hSq; (try dsimp only at hSq); go_simp; try with_reducible rfl)
    try simp only [Act.put, List.setIfInBounds_toArray, List.set_cons_zero, List.set_cons_succ]
    refine wpAnyH_end (by kernel_rfl) ?_
    go_wp2_with fail
    refine HNV.out.mono ?_
    rintro e w5 ⟨rfl, rfl⟩
    by_cases a3 : v ≤ 65535
    case neg =>
      have hnx : nextR X g k = none := by unfold nextR; rw [if_neg]; rintro ⟨-, -, q, -⟩; rw [← HV.out] at q; exact a3 q
      have t3 : (65535 : Int) < (v : Int) := by omega
      have HFIN : Hid (recs X g = pre) := by show _ = _; rw [hrec.out, recF_none hnx, List.append_nil]
      obtain rfl : E = k := by rw [HE.out]; unfold endR; rw [HFIN.out]; exact hlast.out
      clear hnx
      go_wp2
      go_ret2
      refine ⟨⟨_, rfl, ?_, fun z e => (hown.out.lt _ e).1⟩, hB.out.drew⟩
      rw [HFIN.out]
      exact (owns_drewS hown.out).reads
    have t3 : ¬ (65535 : Int) < (v : Int) := by omega
    by_cases a4 : k + 13 + v ≤ m
    case neg =>
      have hnx : nextR X g k = none := by unfold nextR; rw [if_neg]; rintro ⟨-, -, -, q, -⟩; rw [← HV.out, HXL.out] at q; exact a4 q
      have t4 : (m : Int) < (k : Int) + 13 + (v : Int) := by omega
      have HFIN : Hid (recs X g = pre) := by show _ = _; rw [hrec.out, recF_none hnx, List.append_nil]
      obtain rfl : E = k := by rw [HE.out]; unfold endR; rw [HFIN.out]; exact hlast.out
      clear hnx
      go_wp2
      go_ret2
      refine ⟨⟨_, rfl, ?_, fun z e => (hown.out.lt _ e).1⟩, hB.out.drew⟩
      rw [HFIN.out]
      exact (owns_drewS hown.out).reads
    have t4 : ¬ (m : Int) < (k : Int) + 13 + (v : Int) := by omega
    obtain ⟨data, hdata⟩ : ∃ d, d = (X.drop (k + 5)).take v := ⟨_, rfl⟩
    have hdl : data.length = v := by rw [hdata, List.length_take, List.length_drop, HXL.out]; omega
    obtain ⟨St4, hSt4⟩ : ∃ a, a = St + 4 := ⟨_, rfl⟩
    obtain ⟨Sv, hSv⟩ : ∃ a, a = St + 4 + v := ⟨_, rfl⟩
    obtain ⟨S12, hS12⟩ : ∃ a, a = St + 12 := ⟨_, rfl⟩
    obtain ⟨Se, hSe⟩ : ∃ a, a = St + 12 + v := ⟨_, rfl⟩
    have hSA : St = Ak + 1 := by omega
    have hAA : Ak = A + k := HAK.out
    have ht5 : ∀ c, (convert 64 9 (.slice (some ⟨b, St4, none⟩) v c)).run Tryd.prog wr.drew = .ok (.string (bytesOf data)) wr.drew := fun c => by
      have h1 := HTX.out wr.drew HDr.out.drew St4 v c (by omega)
      rw [show St4 = A + (k + 5) by omega, BT.out (k + 5) v (by omega), ← hdata] at h1
      rw [show St4 = A + (k + 5) by omega]
      exact h1
    obtain ⟨tail, htail⟩ : ∃ d, d = (X.drop (k + 1)).take (12 + v) := ⟨_, rfl⟩
    have HT1 : Hid (∀ W, RDiskAt W p b d → ∀ c, (convert 64 9 (.slice (some ⟨b, St, none⟩) (12 + v) c)).run Tryd.prog W = .ok (.string (bytesOf tail)) W) := fun W hW c => by
      have h1 := HTX.out W hW St (12 + v) c (by omega)
      rw [show St = A + (k + 1) by omega, BT.out (k + 1) (12 + v) (by omega), ← htail] at h1
      rw [show St = A + (k + 1) by omega]
      exact h1
    have s1 : (St : Int) + 4 = (St4 : Int) := by omega
    have s2 : (St4 : Int) + (v : Int) = (Sv : Int) := by omega
    have s3 : St4 ≤ Sv := by omega
    have s4 : Sv ≤ S := by omega
    have s5 : Sv - St4 = v := by omega
    have s6 : ¬ S = St4 := by omega
    have s7 : IntKind.i64.wrap ((St : Int) + 12) = (S12 : Int) := by rw [IntWalk.i64_in _ ⟨by omega, by omega⟩]; omega
    have s8 : IntKind.i64.wrap ((S12 : Int) + (v : Int)) = (Se : Int) := by rw [IntWalk.i64_in _ ⟨by omega, by omega⟩]; omega
    have s9 : St ≤ Se := by omega
    have s10 : Se ≤ S := by omega
    have s11 : Se - St = 12 + v := by omega
    have s12 : ¬ S = St := by omega
    have s13 : (St4 : Int) ≤ (Sv : Int) := by omega
    have s14 : (Sv : Int) ≤ (S : Int) := by omega
    have s15 : (St : Int) ≤ (Se : Int) := by omega
    have s16 : (Se : Int) ≤ (S : Int) := by omega
    have HDT := Lib.hid hdata
    have HTL := Lib.hid htail
    have HDL := Lib.hid hdl
    clear hdata htail hdl hSt4 hSv hS12 hSe hSA hAA
    have hnx0 : Hid (tail = bodyL g k data → nextR X g k = some (k + 13 + v, data)) := fun h => by
      unfold nextR
      rw [← HV.out, ← HDT.out, ← HTL.out, HXL.out, if_pos ⟨a1, by rw [HGX.out]; exact a2, a3, a4, h⟩]
    have hnx1 : Hid (¬ tail = bodyL g k data → nextR X g k = none) := fun h => by
      unfold nextR
      rw [if_neg]
      rintro ⟨-, -, -, -, q⟩
      rw [← HV.out, ← HDT.out, ← HTL.out] at q
      exact h q
    have hcv6 := HT1.out wr.drew.drew HDr.out.drew.drew
    have q1' : wr.drew.drew.cell? ⟨p, 1, none⟩ = some (.slice (some ⟨b, 0, none⟩) S S) := q1
    have hb3 : Hid (v ≤ 65535) := a3
    go_wp2_with fail
    refine wp_region_heldL (fun w' => w'.cell? ⟨p, 1, none⟩ = some (.slice (some ⟨b, 0, none⟩) S S) ∧ ∀ c, (convert 64 9 (.slice (some ⟨b, St, none⟩) (12 + v) c)).run Tryd.prog w' = .ok (.string (bytesOf tail)) w') (by kernel_rfl) ⟨q1', hcv6⟩ (fun hS => ?_)
    refine wpAnyH_takeL 0 (v := ?_) (by kernel_rfl) rfl (by kernel_rfl) (by kernel_rfl) (fun _ _ _ h => h) (Or.inl ⟨by rfl, ?_⟩) (by assumption) ?_
    rotate_left
    · (intro wq hSq; (try dsimp only at hSq); go_simp; try with_reducible rfl)
    try simp only [Act.put, List.setIfInBounds_toArray, List.set_cons_zero, List.set_cons_succ]
    refine wpAnyH_takeL 1 (v := ?_) (by kernel_rfl) rfl (by kernel_rfl) (by kernel_rfl) (fun _ _ _ h => h) (Or.inl ⟨by rfl, ?_⟩) (by assumption) ?_
    rotate_left
    · (intro wq hSq; (try dsimp only at hSq); go_simp; try with_reducible rfl)
    try simp only [Act.put, List.setIfInBounds_toArray, List.set_cons_zero, List.set_cons_succ]
    refine wpAnyH_takeL 2 (v := ?_) (by kernel_rfl) rfl (by kernel_rfl) (by kernel_rfl) (fun _ _ _ h => h) (Or.inl ⟨by rfl, ?_⟩) (by assumption) ?_
    rotate_left
    · (intro wq hSq; (try dsimp only at hSq); go_simp; try with_reducible rfl)
    try simp only [Act.put, List.setIfInBounds_toArray, List.set_cons_zero, List.set_cons_succ]
    refine wpAnyH_takeL 3 (v := ?_) (by kernel_rfl) rfl (by kernel_rfl) (by kernel_rfl) (fun _ _ _ h => h) (Or.inl ⟨by rfl, ?_⟩) (by assumption) ?_
    rotate_left
    · (intro wq hSq; (try dsimp only at hSq); go_simp; try with_reducible rfl)
    try simp only [Act.put, List.setIfInBounds_toArray, List.set_cons_zero, List.set_cons_succ]
    refine wpAnyH_takeL 4 (v := ?_) (by kernel_rfl) rfl (by kernel_rfl) (by kernel_rfl) (fun _ _ _ h => h) (Or.inl ⟨by rfl, ?_⟩) (by assumption) ?_
    rotate_left
    · (intro wq hSq; (try dsimp only at hSq); go_simp; try with_reducible rfl)
    try simp only [Act.put, List.setIfInBounds_toArray, List.set_cons_zero, List.set_cons_succ]
    refine wpAnyH_takeL 5 (v := ?_) (by kernel_rfl) rfl (by kernel_rfl) (by kernel_rfl) (fun _ _ _ h => h) (Or.inl ⟨by rfl, ?_⟩) (by assumption) ?_
    rotate_left
    · (intro wq hSq; (try dsimp only at hSq); go_simp; try with_reducible rfl)
    try simp only [Act.put, List.setIfInBounds_toArray, List.set_cons_zero, List.set_cons_succ]
    refine wpAnyH_takeL 6 (v := ?_) (by kernel_rfl) rfl (by kernel_rfl) (by kernel_rfl) (fun _ _ _ h => h) (Or.inl ⟨by rfl, ?_⟩) (by assumption) ?_
    rotate_left
    · (intro wq hSq; (try dsimp only at hSq); go_simp; try with_reducible rfl)
    try simp only [Act.put, List.setIfInBounds_toArray, List.set_cons_zero, List.set_cons_succ]
    refine wpAnyH_takeL 7 (v := ?_) (by kernel_rfl) rfl (by kernel_rfl) (by kernel_rfl) (fun _ _ _ h => h) (Or.inl ⟨by rfl, ?_⟩) (by assumption) ?_
    rotate_left
    · (intro wq hSq; (try dsimp only at hSq); go_simp; try with_reducible rfl)
    try simp only [Act.put, List.setIfInBounds_toArray, List.set_cons_zero, List.set_cons_succ]
    refine wpAnyH_takeL 8 (v := ?_) (by kernel_rfl) rfl (by kernel_rfl) (by kernel_rfl) (fun _ _ _ h => h) (Or.inl ⟨by rfl, ?_⟩) (by assumption) ?_
    rotate_left
    · (intro wq hSq; (try dsimp only at hSq); go_simp; try with_reducible rfl)
    try simp only [Act.put, List.setIfInBounds_toArray, List.set_cons_zero, List.set_cons_succ]
    refine wpAnyH_takeL 9 (v := ?_) (by kernel_rfl) rfl (by kernel_rfl) (by kernel_rfl) (fun _ _ _ h => h) (Or.inl ⟨by rfl, ?_⟩) (by assumption) ?_
    rotate_left
    · (intro wq hSq; (try dsimp only at hSq); go_simp; try with_reducible rfl)
    try simp only [Act.put, List.setIfInBounds_toArray, List.set_cons_zero, List.set_cons_succ]
    refine wpAnyH_takeL 10 (v := ?_) (by kernel_rfl) rfl (by kernel_rfl) (by kernel_rfl) (fun _ _ _ h => h) (Or.inl ⟨by rfl, ?_⟩) (by assumption) ?_
    rotate_left
    · (intro wq hSq; (try dsimp only at hSq); go_simp; try with_reducible rfl)
    try simp only [Act.put, List.setIfInBounds_toArray, List.set_cons_zero, List.set_cons_succ]
    refine wpAnyH_takeL 11 (v := ?_) (by kernel_rfl) rfl (by kernel_rfl) (by kernel_rfl) (fun _ _ _ h => h) (Or.inl ⟨by rfl, ?_⟩) (by assumption) ?_
    rotate_left
    · (intro wq hSq; (try dsimp only at hSq); go_simp; try with_reducible rfl)
    try simp only [Act.put, List.setIfInBounds_toArray, List.set_cons_zero, List.set_cons_succ]
    refine wpAnyH_takeL 12 (v := ?_) (by kernel_rfl) rfl (by kernel_rfl) (by kernel_rfl) (fun _ _ _ h => h) (Or.inl ⟨by rfl, ?_⟩) (by assumption) ?_
    rotate_left
    · (intro wq hSq; (try dsimp only at hSq); go_simp; try with_reducible rfl)
    try simp only [Act.put, List.setIfInBounds_toArray, List.set_cons_zero, List.set_cons_succ]
    refine wpAnyH_takeL 13 (v := ?_) (by kernel_rfl) rfl (by kernel_rfl) (by kernel_rfl) (fun _ _ _ h => h) (Or.inl ⟨by rfl, ?_⟩) (by assumption) ?_
    rotate_left
    · (intro wq hSq; (try dsimp only at hSq); go_simp; try with_reducible rfl)
    try simp only [Act.put, List.setIfInBounds_toArray, List.set_cons_zero, List.set_cons_succ]
    refine wpAnyH_stepL 14 (by kernel_rfl) rfl (fun K hK => ?_)
    go_simp
    go_at_call 62
    refine (rbody_any g k data hg (by omega) (by have := HDL.out; omega) _).mono ?_
    rintro e w6 ⟨rfl, hb6d⟩
    have hb6 : Below wr.heap.size wr w6 := (((Below.refl wr.heap.size wr).drew).drew).trans hb6d
    have hD6 := HDr.out.kept hb6
    refine hK.out _ _ ⟨HK1.out w6 hD6, HT1.out w6 hD6⟩ (fun hS6 => ?_)
    have HB6 := Lib.hid (hB.out.trans (hb6.mono hz))
    have HO6 := Lib.hid (hown.out.below hb6)
    have hz6 := hb6.size
    clear hK K hS
    try simp only [Act.put, List.setIfInBounds_toArray, List.set_cons_zero, List.set_cons_succ]
    by_cases a5 : tail = bodyL g k data
    case neg =>
      have t5 := str_bne (bytesOf tail) (bytesOf (bodyL g k data)) (fun h => a5 (bytesOf_inj h))
      have hnx := hnx1.out a5
      refine wpAnyH_takeL 15 (v := ?_) (by kernel_rfl) rfl (by kernel_rfl) (by kernel_rfl) (fun _ _ _ h => h) (Or.inl ⟨by rfl, ?_⟩) (by assumption) ?_
      rotate_left
      · (intro wq hSq; (try dsimp only at hSq); go_simp; try with_reducible rfl)
      try simp only [Act.put, List.setIfInBounds_toArray, List.set_cons_zero, List.set_cons_succ]
      refine wpAnyH_end (by kernel_rfl) ?_
      have HFIN : Hid (recs X g = pre) := by show _ = _; rw [hrec.out, recF_none hnx, List.append_nil]
      obtain rfl : E = k := by rw [HE.out]; unfold endR; rw [HFIN.out]; exact hlast.out
      clear hnx
      go_wp2
      go_ret2
      refine ⟨⟨_, rfl, ?_, fun z e => (hown.out.lt _ e).1⟩, HB6.out⟩
      rw [HFIN.out]
      exact HO6.out.reads
    have t5 := str_beq (bytesOf tail) (bytesOf (bodyL g k data)) (by rw [a5])
    have HNX := Lib.hid (hnx0.out a5)
    refine wpAnyH_takeL 15 (v := ?_) (by kernel_rfl) rfl (by kernel_rfl) (by kernel_rfl) (fun _ _ _ h => h) (Or.inl ⟨by rfl, ?_⟩) (by assumption) ?_
    rotate_left
    · (intro wq hSq; (try dsimp only at hSq); go_simp; try with_reducible rfl)
    try simp only [Act.put, List.setIfInBounds_toArray, List.set_cons_zero, List.set_cons_succ]
    refine wpAnyH_end (by kernel_rfl) ?_
    go_wp2_with (at_builtin; refine wpList_append1 (W := w6) rfl (.tmp 90) (.tmp 92) 71 rfl w.heap.size 9 i0 (.string ByteArray.empty) 16 Tryd.underlying71 hi0 hiz hiz1 hizb rfl (.slice va L vc) L ((pre.map (·.2)).map strV) rfl HO6.out (.string (bytesOf data)) w6.heap.size rfl rfl rfl (by unfold maxLen; omega) (by omega) (by omega) ?_; intro v7 w7 hown7 hg7a hg7 hz7; have HO7 := Lib.hid hown7; obtain ⟨g7, q7, rfl⟩ := hown7.succ; have HB7 := Lib.hid (HB6.out.trans (below_grown HO6.out hg7 w.heap.size (Nat.le_refl _) (by omega))); clear hown7 hg7a hg7)
    go_roundw
    case rel =>
      obtain ⟨f', rfl⟩ : ∃ f', f = f' + 1 := ⟨f - 1, by omega⟩
      refine ⟨k + 13 + v, f', pre ++ [(k + 13 + v, data)], some ⟨g7, 0, none⟩, L + 1, q7, by go_num, rfl, by omega, by omega, by omega, ?_, ?_, lastE_snoc _ _, ?_, HB7.out⟩
      · show (pre ++ _).length = _
        rw [List.length_append, hpl.out]; rfl
      · show _ = _
        rw [hrec.out, recF_some HNX.out]; simp
      · show w7.owns _ _ _ _ _ _
        rw [List.map_append, List.map_append]
        exact HO7.out
    case measure => simp [intOf]; omega
end Go.Proofs.YtoggmplkbiidhaaDoor

/- Walks: the reference's disk: its records and its size. -/
namespace Go.Proofs.YtoggmplkbiidhaaDoor
set_option linter.all false
open Go.RowKit Go.Shelf
/-- The active half's number. -/
theorem act_hf {d : Dk} (half : Nat) (h : d.half = (half : Int)) (hh : half ≤ 1) : d.act = d.hf half := by
  unfold Dk.act Dk.hf
  rw [h]
  rcases (show half = 0 ∨ half = 1 by omega) with rfl | rfl <;> rfl
theorem half_nat {d : Dk} : d.half = -1 ∨ ∃ half : Nat, d.half = (half : Int) ∧ half ≤ 1 := by
  rcases d.half_cases with h | h | h
  · exact .inl h
  · exact .inr ⟨0, h, by omega⟩
  · exact .inr ⟨1, h, by omega⟩
set_option maxRecDepth 100000 in
set_option maxHeartbeats 4000000 in
theorem rRecords_any (p b : Nat) (d : Dk) (w : World) (hd : RDiskAt w p b d) (ho : d.ok) :
    Calls Tryd.prog 64 #[.pointer (some ⟨p, 0, none⟩)] w fun e w' => (∃ v, e = .returned (.tuple #[v, .int .i64 d.seenErr]) ∧ w'.reads w'.heap.size v (d.texts.map strV) ∧ (∀ k, v.ownBlock = some k → w.heap.size ≤ k)) ∧ Below w.heap.size w w' := by
  have HACT := Lib.hid (ractive_any p b d w hd ho)
  have HREC := Lib.hid (fun (half : Nat) (hh : half ≤ 1) W (h : RDiskAt W p b d) => rrecords_any p b half d.gen hh d.gen_lt d W h ho)
  obtain ⟨x, hx⟩ : ∃ x, x = d.half := ⟨_, rfl⟩
  obtain ⟨y, hy⟩ : ∃ y, y = d.gen := ⟨_, rfl⟩
  obtain ⟨r, hr⟩ : ∃ r, r = d.seenErr := ⟨_, rfl⟩
  rw [← hx, ← hy] at HACT
  rw [← hy] at HREC
  rw [← hr]
  have HX := Lib.hid hx
  have HY := Lib.hid hy
  have HR := Lib.hid hr
  have HD := Lib.hid hd
  have hc := half_nat (d := d)
  rw [← hx] at hc
  clear hx hy hr hd ho
  go_enter Tryd.func64, Tryd.ntmps64
  go_wp2_with fail
  refine HACT.out.mono ?_
  rintro e w2 ⟨rfl, hb2⟩
  have HD2 := Lib.hid (HD.out.kept hb2)
  have hz2 := hb2.size
  rcases hc with rfl | ⟨half, rfl, hh⟩
  · obtain rfl : r = 4 := by rw [HR.out]; unfold Dk.seenErr; rw [← HX.out]; rfl
    have ht : Hid (d.texts = []) := by show _ = _; unfold Dk.texts; rw [← HX.out]; rfl
    go_wp2
    go_ret2
    refine ⟨⟨_, rfl, ?_, fun k e => by simp [Value.ownBlock] at e⟩, hb2⟩
    rw [ht.out]
    exact reads_nil _ _
  · have hneg : ¬ (half : Int) < 0 := by omega
    obtain rfl : r = 0 := by rw [HR.out]; unfold Dk.seenErr; rw [← HX.out, if_neg hneg]
    have ht : Hid (d.texts = (recs (d.hf half) y).map (·.2)) := by show _ = _; unfold Dk.texts; rw [← HX.out, if_neg hneg, act_hf half HX.out.symm hh, HY.out]
    go_wp2_with fail
    refine (HREC.out half hh _ HD2.out).mono ?_
    rintro e w3 ⟨⟨v, rfl, hr3, hv3⟩, hb3⟩
    have HR3 := Lib.hid hr3
    have HV3 := Lib.hid hv3
    clear hr3 hv3
    go_wp2
    go_ret2
    refine ⟨⟨_, rfl, ?_, fun k e => Nat.le_trans hz2 (HV3.out k e)⟩, hb2.trans (hb3.mono hz2)⟩
    rw [ht.out]
    exact HR3.out
end Go.Proofs.YtoggmplkbiidhaaDoor

/- Walks: the reference's queue of jobs: Open. -/
namespace Go.Proofs.YtoggmplkbiidhaaDoor
set_option linter.all false
open Go.RowKit Go.Shelf
theorem recF_len2 (h : List UInt8) (g : Nat) : ∀ f k, (recF h g f k).length ≤ f := by
  intro f
  induction f with
  | zero => intro k; exact Nat.le_refl _
  | succ f ih =>
    intro k
    cases hn : nextR h g k with
    | none => rw [recF_none hn]; simp
    | some y =>
      obtain ⟨e, d⟩ := y
      rw [recF_some hn, List.length_cons]
      have := ih e
      omega
theorem texts_len2 {d : Dk} (hg : d.good) : d.texts.length ≤ 262144 := by
  rw [texts_of hg.half, List.length_map]
  have h1 := recF_len2 d.act d.gen d.act.length 17
  have h2 := act_length hg.ok
  have h3 := hg.ok.hi
  unfold recs
  omega
/-- What the reference's Open answers. -/
def ROpenP (p : Nat) (w : World) (r : Int ⊕ Qs) (e : Ending) (w' : World) : Prop := match r with
  | .inl er => e = .returned (.tuple #[.pointer none, .int .i64 er])
  | .inr q => ∃ pq v, e = .returned (.tuple #[.pointer (some ⟨pq, 0, none⟩), .int .i64 0]) ∧ w.heap.size ≤ pq ∧ RQueueAt w' pq (.pointer (some ⟨p, 0, none⟩)) v q.last false ∧ w'.owns w.heap.size 38 9 v q.jobs.length (jobsL q.jobs)
theorem all_snoc (s : List UInt8) : ∀ (l : List (List UInt8)) (q : Qs), q.all (l ++ [s]) = (q.all l).bind fun x => x.one s
  | [], q => by
    show (q.one s).bind (fun q' => some q') = q.one s
    cases q.one s <;> rfl
  | a :: l, q => by
    show (q.one a).bind (fun q' => q'.all (l ++ [s])) = ((q.one a).bind fun q' => q'.all l).bind fun x => x.one s
    cases q.one a with
    | none => rfl
    | some q' => exact all_snoc s l q'
theorem all_no {l : List (List UInt8)} {q : Qs} {i : Nat} (h : q.all (l.take i) = none) : q.all l = none := by
  induction l generalizing q i with
  | nil => simpa using h
  | cons a l ih =>
    cases i with
    | zero => exact absurd h (by rw [List.take_zero]; intro z; cases z)
    | succ i =>
      rw [List.take_succ_cons] at h
      show (q.one a).bind (fun q' => q'.all l) = none
      change (q.one a).bind (fun q' => q'.all (l.take i)) = none at h
      cases e : q.one a with
      | none => rfl
      | some q' => rw [e] at h; exact ih h
set_option maxRecDepth 100000 in
set_option maxHeartbeats 4000000 in
theorem rfOpen_gen (p b : Nat) (d : Dk) (w : World) (hd : RDiskAt w p b d) (ho : d.ok)
    (hread : ∀ (i : Nat) (q : Qs) (s : List UInt8), d.texts[i]? = some s → Qs.all ⟨[], 0⟩ (d.texts.take i) = some q → ∀ (B pq : Nat) (v : Value) (W : World), RQueueAt W pq (.pointer (some ⟨p, 0, none⟩)) v q.last false → W.owns B 38 9 v q.jobs.length (jobsL q.jobs) → B ≤ pq → B ≤ W.heap.size →
      Calls Tryd.prog 65 #[.pointer (some ⟨pq, 0, none⟩), strV s] W (RdP B pq (.pointer (some ⟨p, 0, none⟩)) W (q.one s))) :
    Calls Tryd.prog 25 #[.pointer (some ⟨p, 0, none⟩)] w fun e w' => ROpenP p w (openD d) e w' ∧ Below w.heap.size w w' := by
  have HRE := Lib.hid (rRecords_any p b d w hd ho)
  have HRD := Lib.hid hread
  obtain ⟨R, hR⟩ : ∃ R, R = openD d := ⟨_, rfl⟩
  rw [← hR]
  unfold openD at hR
  obtain ⟨er, her⟩ : ∃ er, er = d.seenErr := ⟨_, rfl⟩
  rw [← her] at hR HRE
  by_cases h0 : er = 0
  case neg =>
    rw [if_pos h0] at hR
    have h0' : (er == 0) = false := by rw [beq_eq_false_iff_ne]; exact h0
    subst hR
    clear her hread h0
    go_enter Tryd.func25, Tryd.ntmps25
    go_wp2_with fail
    refine HRE.out.mono ?_
    rintro e w1 ⟨⟨v, rfl, -, -⟩, hb⟩
    go_wp2_with fail
    go_ret2
    exact ⟨rfl, hb⟩
  · rw [if_neg (by simpa using h0)] at hR
    have HR : Hid (R = match replay d.texts with | none => .inl 6 | some q => .inr q) := hR
    have hgood := seen_good ho (by rw [← her]; exact h0)
    have HLEN := Lib.hid (texts_len2 hgood)
    subst h0
    clear her hread hR
    go_enter Tryd.func25, Tryd.ntmps25
    go_wp2_with fail
    refine HRE.out.mono ?_
    rintro e w1 ⟨⟨v, rfl, hrd, -⟩, hb⟩
    have HB := Lib.hid hb
    have HRDS := Lib.hid hrd
    obtain ⟨va, vc, rfl, -, -, -, hcells⟩ := hrd
    have HCL := Lib.hid hcells
    clear hcells
    clear hb
    obtain ⟨n, hn⟩ : ∃ n, n = (d.texts.map strV).length := ⟨_, rfl⟩
    rw [← hn]
    have HN : Hid (n = d.texts.length) := by show _ = _; rw [hn, List.length_map]
    have hn2 : n ≤ 262144 := by rw [HN.out]; exact HLEN.out
    clear hn
    obtain ⟨W2, hW2⟩ : ∃ W, W = w1.alloc (.cells #[.pointer (some ⟨p, 0, none⟩), .slice none 0 0, .int .i64 0, .bool false] 104) := ⟨_, rfl⟩
    have hq2 : RQueueAt W2 w1.heap.size (.pointer (some ⟨p, 0, none⟩)) (.slice none 0 0) 0 false := by rw [hW2]; exact alloc_last _ _ rfl
    have hb2 : Below w.heap.size w W2 := by rw [hW2]; exact HB.out.alloc HB.out.size _
    have hs2 : w1.heap.size ≤ W2.heap.size := by rw [hW2]; simp
    have hb12 : Below w1.heap.size w1 W2 := by rw [hW2]; exact (Below.refl _ w1).alloc (Nat.le_refl _) _
    have HW2 := Lib.hid hW2
    have HQ2 := Lib.hid hq2
    have HB2 := Lib.hid hb2
    have HB12 := Lib.hid hb12
    have hz := HB.out.size
    clear hW2 hq2 hb2 hb12
    go_upto_region 5 with fail
    rw [← HW2.out]
    obtain ⟨pq, hpq⟩ : ∃ pq, pq = w1.heap.size := ⟨_, rfl⟩
    rw [← hpq] at HQ2 ⊢
    have HPQ : Hid (w1.heap.size ≤ pq ∧ w.heap.size ≤ pq) := ⟨by omega, by omega⟩
    clear hpq
    go_wp2_with fail
    go_loopw [7] (fun iv wr => ∃ (i : Nat) (q : Qs) (v : Value), i ≤ n ∧ iv = .int .i64 (i : Int) ∧ Hid (Qs.all ⟨[], 0⟩ (d.texts.take i) = some q) ∧ Hid (RQueueAt wr pq (.pointer (some ⟨p, 0, none⟩)) v q.last false) ∧ Hid (wr.owns w1.heap.size 38 9 v q.jobs.length (jobsL q.jobs)) ∧ Hid (Below w1.heap.size w1 wr)) (fun iv _ => n - (intOf iv).toNat)
    case atStart => exact ⟨0, ⟨[], 0⟩, .slice none 0 0, Nat.zero_le _, rfl, rfl, HQ2.out, World.owns_nil _ _ _ _, HB12.out⟩
    case round =>
      obtain ⟨i, q, v, hi, rfl, hA, hQ, hO, hBl⟩ := hrel
      by_cases hlt : i < n
      · obtain ⟨s, hs⟩ : ∃ s, d.texts[i]? = some s := ⟨_, List.getElem?_eq_getElem (by rw [← HN.out]; exact hlt)⟩
        obtain ⟨bl, ol, hva, hblp, hcell⟩ := HCL.out i (strV s) (by rw [List.getElem?_map, hs]; rfl)
        subst hva
        have hlist : wr.cell? ⟨bl, ol + i, none⟩ = some (.string (bytesOf s)) := (hBl.out.cell (p := ⟨bl, ol + i, none⟩) hblp).trans hcell
        have HC := Lib.hid (HRD.out i q s hs hA.out w1.heap.size pq v wr hQ.out hO.out HPQ.out.1 hBl.out.size)
        have HS : Hid (Qs.all ⟨[], 0⟩ (d.texts.take (i + 1)) = q.one s) := by
          show _ = _
          rw [List.take_add_one, hs]
          show Qs.all ⟨[], 0⟩ (d.texts.take i ++ [s]) = _
          rw [all_snoc, hA.out]
          rfl
        unfold strV at HC
        cases ho1 : q.one s with
        | none =>
          rw [ho1] at HC
          have HF : Hid (R = .inl 6) := by
            show _ = _
            rw [HR.out]
            unfold replay
            rw [all_no (i := i + 1) (by rw [HS.out, ho1])]
          clear hs hcell ho1 hQ hO
          go_wp2_with fail
          refine HC.out.mono ?_
          rintro e w3 ⟨hb3, rfl⟩
          have HB3 := Lib.hid (HB.out.trans ((hBl.out.trans (hb3.mono (Nat.le_refl _))).mono hz))
          clear hb3
          go_wp2_with fail
          go_ret2
          rw [HF.out]
          exact ⟨rfl, HB3.out⟩
        | some q' =>
          rw [ho1] at HC
          have HS2 : Hid (Qs.all ⟨[], 0⟩ (d.texts.take (i + 1)) = some q') := by show _ = _; rw [HS.out, ho1]
          clear hs hcell ho1 hQ hO
          go_wp2_with fail
          refine HC.out.mono ?_
          rintro e w3 ⟨hb3, rfl, v3, hq3, ho3⟩
          have HB3 := Lib.hid (hBl.out.trans hb3)
          have HQ3 := Lib.hid hq3
          have HO3 := Lib.hid ho3
          clear hb3 hq3 ho3
          go_wp2_with fail
          go_roundw
          case rel => exact ⟨i + 1, q', v3, by omega, by go_num, HS2.out, HQ3.out, HO3.out, HB3.out⟩
          case measure => simp [intOf]; omega
      · obtain rfl : i = n := by omega
        have HF : Hid (R = .inr q) := by
          show _ = _
          rw [HR.out]
          unfold replay
          have h := hA.out
          rw [HN.out, List.take_length] at h
          rw [h]
        clear hlt
        go_wp2_with fail
        go_ret2
        rw [HF.out]
        exact ⟨⟨pq, v, rfl, HPQ.out.2, hQ.out, World.owns.mono hO.out hz⟩, HB.out.trans (hBl.out.mono hz)⟩
end Go.Proofs.YtoggmplkbiidhaaDoor

/- Walks: the reference's Open where the disk holds one record (JobsNone). -/
namespace Go.Proofs.YtoggmplkbiidhaaDoor
set_option linter.all false
open Go.RowKit Go.Shelf
theorem rfOpen_one (p b : Nat) (d : Dk) (w : World) (hd : RDiskAt w p b d) (ho : d.ok) (r : List UInt8) (ht : d.texts = [r]) (hr : r.length ≤ 1000000) :
    Calls Tryd.prog 25 #[.pointer (some ⟨p, 0, none⟩)] w fun e w' => ROpenP p w (openD d) e w' ∧ Below w.heap.size w w' := by
  refine rfOpen_gen p b d w hd ho (fun i q s hs hq B pq v W h1 h2 h3 h4 => ?_)
  rw [ht] at hs hq
  obtain ⟨hi, hx⟩ := List.getElem?_eq_some_iff.1 hs
  have h0 : i = 0 := by have := hi; simp at this; exact this
  subst h0
  have hsr : s = r := by rw [← hx]; rfl
  have hqn : q = ⟨[], 0⟩ := by
    have h5 : (some (Qs.mk [] 0)) = some q := hq
    injection h5 with h5
    exact h5.symm
  subst hqn
  exact rfread_empty B pq _ v ⟨[], 0⟩ s W h1 h2 h3 h4 Qs.fine.nil.ok (by rw [hsr]; exact hr) (fun id => rfl)
end Go.Proofs.YtoggmplkbiidhaaDoor

/- Plain: a queue of jobs on a disk that does not fail. -/
namespace Go.Proofs.YtoggmplkbiidhaaDoor
set_option linter.all false
theorem putS_free (s : List UInt8) : ∀ (st : Wr) (k : Nat), st.failed = false → st.fuse = -1 → (putS st k s).failed = false ∧ (putS st k s).fuse = -1 := by
  induction s with
  | nil => intro st k h1 h2; exact ⟨h1, h2⟩
  | cons c s ih =>
    intro st k h1 h2
    rw [putS_step (by rintro (q | q); rw [h1] at q; cases q; omega)]
    refine ih _ _ rfl ?_
    show (if 0 < st.fuse then st.fuse - 1 else st.fuse) = -1
    rw [if_neg (by omega)]; exact h2
theorem appS_free (st : Wr) (n g k : Nat) (r : List UInt8) (h1 : st.failed = false) (h2 : st.fuse = -1) : (appS st n g k r).failed = false ∧ (appS st n g k r).fuse = -1 := by
  unfold appS
  obtain ⟨a1, a2⟩ := putS_free [0] st k h1 h2
  have key : ∀ s : Wr, s.failed = false → s.fuse = -1 → (putS (putS s (k + 1) (bodyL g k r)) k [1]).failed = false ∧ (putS (putS s (k + 1) (bodyL g k r)) k [1]).fuse = -1 := fun s b1 b2 => by
    obtain ⟨c1, c2⟩ := putS_free (bodyL g k r) s (k + 1) b1 b2
    exact putS_free [1] _ _ c1 c2
  split
  · obtain ⟨b1, b2⟩ := putS_free [0] _ (k + 13 + r.length) a1 a2
    exact key _ b1 b2
  · exact key _ a1 a2
/-- A disk that does not fail. -/
structure Dk.free (d : Dk) : Prop where
  (good : d.good)
  (nf : d.failed = false)
  (fu : d.fuse = -1)
theorem appended_free {d : Dk} (h : d.free) (r : List UInt8) (hr : r.length ≤ 65535) : (d.appended r).2.free ∧ ((d.appended r).1 = 0 ∨ (d.appended r).1 = 5) := by
  have hp := appended_post h.good r
  have hg := hp.good
  revert hg
  unfold Dk.appended
  rw [if_neg (by rw [h.nf]; simp), if_neg (by omega), if_neg (by have := h.good.half; omega)]
  by_cases hs : d.size < d.used + 13 + r.length
  · rw [if_pos hs]; exact fun _ => ⟨h, .inr rfl⟩
  · rw [if_neg hs]
    intro hg
    obtain ⟨a1, a2⟩ := appS_free d.wr d.size d.gen d.used r h.nf h.fu
    refine ⟨⟨hg, ?_, ?_⟩, .inl ?_⟩
    · rw [put_failed]; exact a1
    · rw [put_fuse]; exact a2
    · unfold Wr.err; rw [a1]; rfl
/-- A queue that is up, on a disk that does not fail. -/
structure Qst.up (x : Qst) : Prop where
  (fine : x.q.fine)
  (free : x.d.free)
  (nd : x.down = false)
end Go.Proofs.YtoggmplkbiidhaaDoor

/- Plain: one record on a new disk (JobsNone). -/
namespace Go.Proofs.YtoggmplkbiidhaaDoor
set_option linter.all false
theorem none_disk (r : List UInt8) (h : r.length ≤ 3000) : ((newDk 4000).appended r).1 = 0 ∧ ((newDk 4000).appended r).2.texts = [r] ∧ ((newDk 4000).appended r).2.good := by
  obtain ⟨h1, h2, h3, h4⟩ := newDk_post 4000 (by omega) (by omega)
  have hf : (newDk 4000).free := ⟨h1, rfl, rfl⟩
  obtain ⟨f1, f2⟩ := appended_free hf r (by omega)
  have hp := appended_post h1 r
  have he := appended_err h1 r rfl (by omega) (by rw [h3]; show 17 + 13 + r.length ≤ 4000; omega)
  have h0 : ((newDk 4000).appended r).1 = 0 := by
    rcases f2 with q | q
    · exact q
    · rcases he with z | z
      · exact z
      · rw [z] at q; cases q
  refine ⟨h0, ?_, hp.good⟩
  rw [(hp.ok0 h0).1, h2]
  rfl
end Go.Proofs.YtoggmplkbiidhaaDoor

/- Walks: the reference's disk: a record is added. -/
namespace Go.Proofs.YtoggmplkbiidhaaDoor
set_option linter.all false
open Go.RowKit Go.Shelf
theorem putS_low (rest : List UInt8) : ∀ (s : List UInt8) (st : Wr) (k : Nat), k + s.length ≤ st.h.length → putS ⟨st.h ++ rest, st.fuse, st.failed⟩ k s = ⟨(putS st k s).h ++ rest, (putS st k s).fuse, (putS st k s).failed⟩ := by
  intro s
  induction s with
  | nil => intro st k _; rfl
  | cons c s ih =>
    intro st k hk
    rw [List.length_cons] at hk
    by_cases hb : st.failed = true ∨ st.fuse = 0
    · rw [putS_stop (by simp) hb, putS_stop (st := ⟨st.h ++ rest, st.fuse, st.failed⟩) (by simp) hb]
    · rw [putS_step hb, putS_step (st := ⟨st.h ++ rest, st.fuse, st.failed⟩) hb]
      have := ih ⟨st.h.set k c, if 0 < st.fuse then st.fuse - 1 else st.fuse, false⟩ (k + 1) (by simp; omega)
      rw [← this]
      simp only
      rw [List.set_append_left _ _ (by omega)]
theorem putS_high (pre : List UInt8) : ∀ (s : List UInt8) (st : Wr) (k : Nat), putS ⟨pre ++ st.h, st.fuse, st.failed⟩ (pre.length + k) s = ⟨pre ++ (putS st k s).h, (putS st k s).fuse, (putS st k s).failed⟩ := by
  intro s
  induction s with
  | nil => intro st k; rfl
  | cons c s ih =>
    intro st k
    by_cases hb : st.failed = true ∨ st.fuse = 0
    · rw [putS_stop (by simp) hb, putS_stop (st := ⟨pre ++ st.h, st.fuse, st.failed⟩) (by simp) hb]
    · rw [putS_step hb, putS_step (st := ⟨pre ++ st.h, st.fuse, st.failed⟩) hb]
      have := ih ⟨st.h.set k c, if 0 < st.fuse then st.fuse - 1 else st.fuse, false⟩ (k + 1)
      rw [← this]
      simp only
      rw [List.set_append_right _ _ (by omega), Nat.add_sub_cancel_left, Nat.add_assoc]
def lift (d : Dk) (half : Nat) (st : Wr) : Wr := if half = 1 then ⟨d.h0 ++ st.h, st.fuse, st.failed⟩ else ⟨st.h ++ d.h1, st.fuse, st.failed⟩
theorem lift_put {d : Dk} (ho : d.ok) (half : Nat) (hh : half ≤ 1) (st : Wr) (k : Nat) (s : List UInt8) (hl : st.h.length = d.size) (hk : k + s.length ≤ d.size) : putS (lift d half st) (half * d.size + k) s = lift d half (putS st k s) := by
  rcases (show half = 0 ∨ half = 1 by omega) with rfl | rfl
  · have := putS_low d.h1 s st k (by omega)
    unfold lift
    rw [if_neg (by omega), if_neg (by omega), Nat.zero_mul, Nat.zero_add]
    exact this
  · have := putS_high d.h0 s st k
    unfold lift
    rw [if_pos rfl, if_pos rfl, Nat.one_mul]
    rw [ho.l0] at this
    exact this
/-- The reference's disk while bytes are written to a half. -/
structure RPen (w0 : World) (p b half : Nat) (d : Dk) (st : Wr) (w : World) : Prop where
  wr : RWrAt w p b d.size (2 * d.size) (lift d half st)
  len : st.h.length = d.size
  kp : Kp (two p b) w0 w
theorem RPen.below {w0 w w' : World} {p b half : Nat} {d : Dk} {st : Wr} (h : RPen w0 p b half d st w) (hb : Below w.heap.size w w') : RPen w0 p b half d st w' :=
  ⟨h.wr.below hb, h.len, h.kp.trans (Kp.of_below hb)⟩
theorem RPen.call {w0 w : World} {p b half : Nat} {d : Dk} {st : Wr} (h : RPen w0 p b half d st w) (ho : d.ok) (hh : half ≤ 1) (k : Nat) (s : List UInt8) (hk : k + s.length ≤ d.size) :
    Calls Tryd.prog 61 #[.pointer (some ⟨p, 0, none⟩), .int .i64 ((half * d.size + k : Nat) : Int), .string (bytesOf s)] w fun e w' => (∃ v, e = .returned v) ∧ RPen w0 p b half d (putS st k s) w' := by
  have hs : half * d.size ≤ d.size := by rcases (show half = 0 ∨ half = 1 by omega) with rfl | rfl <;> omega
  refine (rwrite_any p b d.size (2 * d.size) (half * d.size + k) (lift d half st) s (by omega) (by have := ho.hi; omega) w h.wr).mono ?_
  rintro e w' ⟨he, hw, hkp⟩
  rw [lift_put ho half hh st k s h.len hk] at hw
  exact ⟨he, hw, by rw [putS_length]; exact h.len, h.kp.trans hkp⟩
theorem RPen.start {w : World} {p b half : Nat} {d : Dk} (h : RDiskAt w p b d) (ho : d.ok) : RPen w p b half d ⟨d.hf half, d.fuse, d.failed⟩ w := by
  have e : lift d half ⟨d.hf half, d.fuse, d.failed⟩ = ⟨d.h0 ++ d.h1, d.fuse, d.failed⟩ := by unfold lift Dk.hf; split <;> rfl
  refine ⟨?_, hf_length ho half, Kp.refl _ _⟩
  rw [e]
  exact ⟨h.at_, h.half, both_length ho, h.ne, ho.f1, ho.f2⟩
theorem RPen.stop {w0 w : World} {p b half : Nat} {d : Dk} {st : Wr} (h : RPen w0 p b half d st w) (hh : half ≤ 1) : RDiskAt w p b (d.put (half : Int) st) := by
  have h1 := h.wr
  unfold lift at h1
  unfold Dk.put
  rcases (show half = 0 ∨ half = 1 by omega) with rfl | rfl
  · rw [if_neg (by omega)] at h1 ⊢
    exact ⟨h1.at_, h1.half, h1.ne⟩
  · rw [if_pos rfl] at h1
    rw [if_pos (show ((1 : Nat) : Int) = 1 from rfl)]
    exact ⟨h1.at_, h1.half, h1.ne⟩
theorem RPen.size {w0 w : World} {p b half : Nat} {d : Dk} {st : Wr} (h : RPen w0 p b half d st w) : w.cell? ⟨p, 0, none⟩ = some (.int .i64 (d.size : Int)) := (four_cells h.wr.at_).1
set_option maxRecDepth 100000 in
set_option maxHeartbeats 40000000 in
theorem rAppend_any (p b : Nat) (d : Dk) (r : List UInt8) (hrm : r.length ≤ 100000000) (w : World) (hd : RDiskAt w p b d) (ho : d.ok) :
    Calls Tryd.prog 24 #[.pointer (some ⟨p, 0, none⟩), .string (bytesOf r)] w fun e w' => e = .returned (.int .i64 (d.appended r).1) ∧ RDiskAt w' p b (d.appended r).2 ∧ Kp (two p b) w w' := by
  have HACT := Lib.hid (ractive_any p b d w hd ho)
  have HREC := Lib.hid (fun (half : Nat) (hh : half ≤ 1) W (h : RDiskAt W p b d) => rrecords_any p b half d.gen hh d.gen_lt d W h ho)
  obtain ⟨k0, -, -, k3, -, -⟩ := four_cells hd.at_
  have HD := Lib.hid hd
  have HO := Lib.hid ho
  obtain ⟨E, hE⟩ : ∃ E, E = (appS d.wr d.size d.gen d.used r).err := ⟨_, rfl⟩
  have HRES : Hid (∀ W, RDiskAt W p b (d.put d.half (appS d.wr d.size d.gen d.used r)) → Calls Tryd.prog 63 #[.pointer (some ⟨p, 0, none⟩)] W fun e w' => e = .returned (.int .i64 E) ∧ W = w') := fun W h => by
    refine (rresult_any p b _ W h).mono ?_
    rintro e w' ⟨rfl, rfl⟩
    refine ⟨?_, rfl⟩
    rw [hE, show (d.put d.half (appS d.wr d.size d.gen d.used r)).failed = (appS d.wr d.size d.gen d.used r).failed by unfold Dk.put; split <;> rfl]
    rfl
  obtain ⟨R, hR⟩ : ∃ R, R = d.appended r := ⟨_, rfl⟩
  rw [← hR]
  unfold Dk.appended at hR
  rw [← hE] at hR
  clear hE
  obtain ⟨n, hn⟩ : ∃ n, n = r.length := ⟨_, rfl⟩
  have hs : (bytesOf r).size = n := by rw [hn]; rfl
  have hs1 : ((bytesOf r).size : Int) = (n : Int) := by rw [hs]
  rw [← hn] at hR hrm
  have HN := Lib.hid hn
  have HRR := Lib.hid hR
  have h64 := ho.lo
  have hmx := ho.hi
  clear hd ho hR hn
  cases hfd : d.failed
  case true =>
    rw [hfd] at k3
    have hRe : R = (9, d) := by rw [HRR.out, if_pos hfd]
    go_enter Tryd.func24, Tryd.ntmps24
    go_wp2
    go_ret
    rw [hRe]
    exact ⟨rfl, HD.out, Kp.refl _ _⟩
  case false =>
  rw [hfd] at k3
  have hnf : ¬ d.failed = true := by rw [hfd]; simp
  by_cases hlong : 65535 < n
  · have hRe : R = (3, d) := by rw [HRR.out, if_neg hnf, if_pos hlong]
    have hl1 : (65535 : Int) < (n : Int) := by omega
    have HRE := Lib.hid hRe
    clear hRe hfd
    go_enter Tryd.func24, Tryd.ntmps24
    go_wp2
    go_ret
    rw [HRE.out]
    exact ⟨rfl, HD.out, Kp.refl _ _⟩
  have hl1 : ¬ (65535 : Int) < (n : Int) := by omega
  rw [if_neg hnf, if_neg hlong] at HRR
  clear hfd hnf
  obtain ⟨x, hx⟩ : ∃ x, x = d.half := ⟨_, rfl⟩
  obtain ⟨y, hy⟩ : ∃ y, y = d.gen := ⟨_, rfl⟩
  obtain ⟨u, hu⟩ : ∃ u, u = d.used := ⟨_, rfl⟩
  rw [← hx, ← hy] at HACT
  rw [← hy] at HREC
  rw [← hx, ← hy, ← hu] at HRR HRES
  have hyl : y < 9223372036854775808 := by rw [hy]; exact d.gen_lt
  have HX := Lib.hid hx
  have HY := Lib.hid hy
  have HU := Lib.hid hu
  have hc := half_nat (d := d)
  rw [← hx] at hc
  clear hx hy hu
  go_enter Tryd.func24, Tryd.ntmps24
  go_wp2_with fail
  refine HACT.out.mono ?_
  rintro e w2 ⟨rfl, hb2⟩
  have HD2 := Lib.hid (HD.out.kept hb2)
  clear k3 k0
  rcases hc with rfl | ⟨half, rfl, hh⟩
  · rw [if_pos (by omega)] at HRR
    go_wp2
    go_ret
    rw [HRR.out]
    exact ⟨rfl, HD2.out, Kp.of_below hb2⟩
  have hneg : ¬ (half : Int) < 0 := by omega
  rw [if_neg hneg] at HRR
  have HUE : Hid (u = endR (d.hf half) y) := by show _ = _; rw [HU.out]; unfold Dk.used; rw [← HX.out, if_neg hneg, act_hf half HX.out.symm hh, HY.out]
  have HC := Lib.hid (HREC.out half hh w2 HD2.out)
  rw [← HUE.out] at HC
  have hub : 17 ≤ u ∧ u ≤ d.size := by
    have := endR_bounds (h := d.hf half) y (by rw [hf_length HO.out half]; exact h64)
    rw [← HUE.out, hf_length HO.out half] at this
    exact this
  obtain ⟨hu1, hu2⟩ := hub
  go_wp2_with fail
  refine HC.out.mono ?_
  rintro e w3 ⟨⟨v, rfl, -, -⟩, hb3d⟩
  have hb3 := hb2.trans (hb3d.mono hb2.size)
  have HD3 := Lib.hid (HD.out.kept hb3)
  obtain ⟨k0, -, -, -, -, -⟩ := four_cells HD3.out.at_
  obtain ⟨m, hm⟩ : ∃ m, m = d.size := ⟨_, rfl⟩
  rw [← hm] at h64 hmx hu2 k0 HRR HRES
  by_cases hfull : m < u + 13 + n
  · rw [if_pos hfull] at HRR
    have hf1 : (m : Int) < (u : Int) + 13 + (n : Int) := by omega
    clear hm
    go_wp2
    go_ret
    rw [HRR.out]
    exact ⟨rfl, HD3.out, Kp.of_below hb3⟩
  rw [if_neg hfull] at HRR
  have hf1 : ¬ (m : Int) < (u : Int) + 13 + (n : Int) := by omega
  have hf2 : u + 13 + n ≤ m := by omega
  obtain ⟨A, hA⟩ : ∃ A, A = half * m := ⟨_, rfl⟩
  have hmul : (half : Int) * (m : Int) = (A : Int) := by rw [hA]; push_cast; rfl
  have hAm : A ≤ m := by rw [hA]; rcases (show half = 0 ∨ half = 1 by omega) with rfl | rfl <;> omega
  have HP3 : Hid (RPen w3 p b half d ⟨d.hf half, d.fuse, d.failed⟩ w3) := RPen.start HD3.out HO.out
  have HCALL : Hid (∀ (st : Wr) (W : World), RPen w3 p b half d st W → ∀ (k : Nat) (s : List UInt8) (z : Int), k + s.length ≤ m → z = (A : Int) + (k : Int) → Calls Tryd.prog 61 #[.pointer (some ⟨p, 0, none⟩), .int .i64 z, .string (bytesOf s)] W fun e w' => (∃ v, e = .returned v) ∧ RPen w3 p b half d (putS st k s) w') := fun st W h k s z hk hz => by
    have := h.call HO.out hh k s (by omega)
    rw [← hm, ← hA, Int.natCast_add, ← hz] at this; exact this
  have HSZ : Hid (∀ (st : Wr) (W : World), RPen w3 p b half d st W → W.cell? ⟨p, 0, none⟩ = some (.int .i64 (m : Int))) := fun st W h => by rw [hm]; exact h.size
  have HSM := Lib.hid hm
  clear hm hA hfull
  go_wp2_with fail
  refine (HCALL.out _ _ HP3.out u [0] _ (by simp; omega) (by omega)).mono ?_
  rintro e w5 ⟨⟨v5, rfl⟩, hp5⟩
  have HP5 := Lib.hid hp5
  clear hp5 HP3 k0
  have k0 := HSZ.out _ _ HP5.out
  obtain ⟨Au, hAu⟩ : ∃ a, a = A + u := ⟨_, rfl⟩
  obtain ⟨Au1, hAu1⟩ : ∃ a, a = A + (u + 1) := ⟨_, rfl⟩
  have hwm : IntKind.i64.wrap (A : Int) = (A : Int) := IntWalk.i64_in _ ⟨by omega, by omega⟩
  have hwu : IntKind.i64.wrap ((A : Int) + (u : Int)) = (Au : Int) := by rw [IntWalk.i64_in _ ⟨by omega, by omega⟩]; omega
  have hwu1 : IntKind.i64.wrap ((Au : Int) + 1) = (Au1 : Int) := by rw [IntWalk.i64_in _ ⟨by omega, by omega⟩]; omega
  have HAU := Lib.hid hAu1
  have HAU0 := Lib.hid hAu
  clear hAu hAu1
  by_cases hnx : u + 13 + n < m
  · have hf3 : (u : Int) + 13 + (n : Int) < (m : Int) := by omega
    go_wp2_with fail
    refine (HCALL.out _ _ HP5.out (u + 13 + n) [0] _ (by simp; omega) (by omega)).mono ?_
    rintro e w6 ⟨⟨v6, rfl⟩, hp6⟩
    have HP6 := Lib.hid hp6
    clear hp6 HP5 k0
    have k0 := HSZ.out _ _ HP6.out
    go_wp2_with fail
    refine wp_region_heldL (fun w' => w'.cell? ⟨p, 0, none⟩ = some (.int .i64 (m : Int))) (by kernel_rfl) k0 (fun hS => ?_)
    refine wpAnyH_takeL 0 (v := ?_) (by kernel_rfl) rfl (by kernel_rfl) (by kernel_rfl) (fun _ _ _ h => h) (Or.inl ⟨by rfl, ?_⟩) (by assumption) ?_
    rotate_left
    · (intro wq hSq; (try dsimp only at hSq); go_simp; try with_reducible rfl)
    try simp only [Act.put, List.setIfInBounds_toArray, List.set_cons_zero, List.set_cons_succ]
    refine wpAnyH_takeL 1 (v := ?_) (by kernel_rfl) rfl (by kernel_rfl) (by kernel_rfl) (fun _ _ _ h => h) (Or.inl ⟨by rfl, ?_⟩) (by assumption) ?_
    rotate_left
    · (intro wq hSq; (try dsimp only at hSq); go_simp; try with_reducible rfl)
    try simp only [Act.put, List.setIfInBounds_toArray, List.set_cons_zero, List.set_cons_succ]
    refine wpAnyH_takeL 2 (v := ?_) (by kernel_rfl) rfl (by kernel_rfl) (by kernel_rfl) (fun _ _ _ h => h) (Or.inl ⟨by rfl, ?_⟩) (by assumption) ?_
    rotate_left
    · (intro wq hSq; (try dsimp only at hSq); go_simp; try with_reducible rfl)
    try simp only [Act.put, List.setIfInBounds_toArray, List.set_cons_zero, List.set_cons_succ]
    refine wpAnyH_takeL 3 (v := ?_) (by kernel_rfl) rfl (by kernel_rfl) (by kernel_rfl) (fun _ _ _ h => h) (Or.inl ⟨by rfl, ?_⟩) (by assumption) ?_
    rotate_left
    · (intro wq hSq; (try dsimp only at hSq); go_simp; try with_reducible rfl)
    try simp only [Act.put, List.setIfInBounds_toArray, List.set_cons_zero, List.set_cons_succ]
    refine wpAnyH_takeL 4 (v := ?_) (by kernel_rfl) rfl (by kernel_rfl) (by kernel_rfl) (fun _ _ _ h => h) (Or.inl ⟨by rfl, ?_⟩) (by assumption) ?_
    rotate_left
    · (intro wq hSq; (try dsimp only at hSq); go_simp; try with_reducible rfl)
    try simp only [Act.put, List.setIfInBounds_toArray, List.set_cons_zero, List.set_cons_succ]
    refine wpAnyH_takeL 5 (v := ?_) (by kernel_rfl) rfl (by kernel_rfl) (by kernel_rfl) (fun _ _ _ h => h) (Or.inl ⟨by rfl, ?_⟩) (by assumption) ?_
    rotate_left
    · (intro wq hSq; (try dsimp only at hSq); go_simp; try with_reducible rfl)
    try simp only [Act.put, List.setIfInBounds_toArray, List.set_cons_zero, List.set_cons_succ]
    refine wpAnyH_takeL 6 (v := ?_) (by kernel_rfl) rfl (by kernel_rfl) (by kernel_rfl) (fun _ _ _ h => h) (Or.inl ⟨by rfl, ?_⟩) (by assumption) ?_
    rotate_left
    · (intro wq hSq; (try dsimp only at hSq); go_simp; try with_reducible rfl)
    try simp only [Act.put, List.setIfInBounds_toArray, List.set_cons_zero, List.set_cons_succ]
    refine wpAnyH_takeL 7 (v := ?_) (by kernel_rfl) rfl (by kernel_rfl) (by kernel_rfl) (fun _ _ _ h => h) (Or.inl ⟨by rfl, ?_⟩) (by assumption) ?_
    rotate_left
    · (intro wq hSq; (try dsimp only at hSq); go_simp; try with_reducible rfl)
    try simp only [Act.put, List.setIfInBounds_toArray, List.set_cons_zero, List.set_cons_succ]
    refine wpAnyH_takeL 8 (v := ?_) (by kernel_rfl) rfl (by kernel_rfl) (by kernel_rfl) (fun _ _ _ h => h) (Or.inl ⟨by rfl, ?_⟩) (by assumption) ?_
    rotate_left
    · (intro wq hSq; (try dsimp only at hSq); go_simp; try with_reducible rfl)
    try simp only [Act.put, List.setIfInBounds_toArray, List.set_cons_zero, List.set_cons_succ]
    refine wpAnyH_takeL 9 (v := ?_) (by kernel_rfl) rfl (by kernel_rfl) (by kernel_rfl) (fun _ _ _ h => h) (Or.inl ⟨by rfl, ?_⟩) (by assumption) ?_
    rotate_left
    · (intro wq hSq; (try dsimp only at hSq); go_simp; try with_reducible rfl)
    try simp only [Act.put, List.setIfInBounds_toArray, List.set_cons_zero, List.set_cons_succ]
    refine wpAnyH_takeL 10 (v := ?_) (by kernel_rfl) rfl (by kernel_rfl) (by kernel_rfl) (fun _ _ _ h => h) (Or.inl ⟨by rfl, ?_⟩) (by assumption) ?_
    rotate_left
    · (intro wq hSq; (try dsimp only at hSq); go_simp; try with_reducible rfl)
    try simp only [Act.put, List.setIfInBounds_toArray, List.set_cons_zero, List.set_cons_succ]
    refine wpAnyH_takeL 11 (v := ?_) (by kernel_rfl) rfl (by kernel_rfl) (by kernel_rfl) (fun _ _ _ h => h) (Or.inl ⟨by rfl, ?_⟩) (by assumption) ?_
    rotate_left
    · (intro wq hSq; (try dsimp only at hSq); go_simp; try with_reducible rfl)
    try simp only [Act.put, List.setIfInBounds_toArray, List.set_cons_zero, List.set_cons_succ]
    refine wpAnyH_takeL 12 (v := ?_) (by kernel_rfl) rfl (by kernel_rfl) (by kernel_rfl) (fun _ _ _ h => h) (Or.inl ⟨by rfl, ?_⟩) (by assumption) ?_
    rotate_left
    · (intro wq hSq; (try dsimp only at hSq); go_simp; try with_reducible rfl)
    try simp only [Act.put, List.setIfInBounds_toArray, List.set_cons_zero, List.set_cons_succ]
    refine wpAnyH_stepL 13 (by kernel_rfl) rfl (fun K hK => ?_)
    go_simp
    go_at_call 62
    refine (rbody_any y u r hyl (by omega) (by rw [← HN.out]; omega) _).mono ?_
    rintro e w7 ⟨rfl, hb7d⟩
    have hb7 : Below w6.heap.size w6 w7 := ((Below.refl w6.heap.size w6).drew).trans hb7d
    have HP7 := Lib.hid (HP6.out.below hb7)
    refine hK.out _ _ (HSZ.out _ _ HP7.out) (fun hS7 => ?_)
    clear hK K hS hb7 hb7d HP6
    try simp only [Act.put, List.setIfInBounds_toArray, List.set_cons_zero, List.set_cons_succ]
    refine wpAnyH_stepL 14 (by kernel_rfl) rfl (fun K hK => ?_)
    go_simp
    go_at_call 61
    have HC8 := Lib.hid (HCALL.out _ _ HP7.out (u + 1) (bodyL y u r) (Au1 : Int) (by rw [bodyL_length, ← HN.out]; omega) (by have := HAU.out; omega))
    refine HC8.out.mono ?_
    rintro e w8 ⟨⟨v8, rfl⟩, hp8⟩
    have HP8 := Lib.hid hp8
    refine hK.out _ _ (HSZ.out _ _ hp8) (fun hS8 => ?_)
    clear hK K hS7 hp8 HP7 HC8
    try simp only [Act.put, List.setIfInBounds_toArray, List.set_cons_zero, List.set_cons_succ]
    refine wpAnyH_end (by kernel_rfl) ?_
    clear k0
    have k0 := HSZ.out _ _ HP8.out
    go_wp2_with fail
    refine (HCALL.out _ _ HP8.out u [1] _ (by simp; omega) (by have := HAU0.out; omega)).mono ?_
    rintro e w9 ⟨⟨v9, rfl⟩, hp9⟩
    have hst : appS d.wr m y u r = putS (putS (putS (putS ⟨d.hf half, d.fuse, d.failed⟩ u [0]) (u + 13 + n) [0]) (u + 1) (bodyL y u r)) u [1] := by
      have e1 : d.wr = ⟨d.hf half, d.fuse, d.failed⟩ := by unfold Dk.wr; rw [act_hf half HX.out.symm hh]
      unfold appS
      rw [← HN.out, if_pos hnx, e1]
    have hd9 := hp9.stop hh
    rw [← hst] at hd9
    have HD9 := Lib.hid hd9
    have HK9 := Lib.hid ((Kp.of_below (P := two p b) hb3).trans hp9.kp)
    clear hp9 hd9 hst k0
    go_wp2_with fail
    refine (HRES.out _ HD9.out).mono ?_
    rintro e w10 ⟨rfl, rfl⟩
    go_wp2
    go_ret
    rw [HRR.out]
    exact ⟨rfl, HD9.out, HK9.out⟩
  · have hf3 : ¬ (u : Int) + 13 + (n : Int) < (m : Int) := by omega
    have HP6 := HP5
    clear HP5
    obtain ⟨w6, hw6⟩ : ∃ x, x = w5 := ⟨_, rfl⟩
    rw [← hw6] at HP6 k0 ⊢
    clear hw6
    go_wp2_with fail
    refine wp_region_heldL (fun w' => w'.cell? ⟨p, 0, none⟩ = some (.int .i64 (m : Int))) (by kernel_rfl) k0 (fun hS => ?_)
    refine wpAnyH_takeL 0 (v := ?_) (by kernel_rfl) rfl (by kernel_rfl) (by kernel_rfl) (fun _ _ _ h => h) (Or.inl ⟨by rfl, ?_⟩) (by assumption) ?_
    rotate_left
    · (intro wq hSq; (try dsimp only at hSq); go_simp; try with_reducible rfl)
    try simp only [Act.put, List.setIfInBounds_toArray, List.set_cons_zero, List.set_cons_succ]
    refine wpAnyH_takeL 1 (v := ?_) (by kernel_rfl) rfl (by kernel_rfl) (by kernel_rfl) (fun _ _ _ h => h) (Or.inl ⟨by rfl, ?_⟩) (by assumption) ?_
    rotate_left
    · (intro wq hSq; (try dsimp only at hSq); go_simp; try with_reducible rfl)
    try simp only [Act.put, List.setIfInBounds_toArray, List.set_cons_zero, List.set_cons_succ]
    refine wpAnyH_takeL 2 (v := ?_) (by kernel_rfl) rfl (by kernel_rfl) (by kernel_rfl) (fun _ _ _ h => h) (Or.inl ⟨by rfl, ?_⟩) (by assumption) ?_
    rotate_left
    · (intro wq hSq; (try dsimp only at hSq); go_simp; try with_reducible rfl)
    try simp only [Act.put, List.setIfInBounds_toArray, List.set_cons_zero, List.set_cons_succ]
    refine wpAnyH_takeL 3 (v := ?_) (by kernel_rfl) rfl (by kernel_rfl) (by kernel_rfl) (fun _ _ _ h => h) (Or.inl ⟨by rfl, ?_⟩) (by assumption) ?_
    rotate_left
    · (intro wq hSq; (try dsimp only at hSq); go_simp; try with_reducible rfl)
    try simp only [Act.put, List.setIfInBounds_toArray, List.set_cons_zero, List.set_cons_succ]
    refine wpAnyH_takeL 4 (v := ?_) (by kernel_rfl) rfl (by kernel_rfl) (by kernel_rfl) (fun _ _ _ h => h) (Or.inl ⟨by rfl, ?_⟩) (by assumption) ?_
    rotate_left
    · (intro wq hSq; (try dsimp only at hSq); go_simp; try with_reducible rfl)
    try simp only [Act.put, List.setIfInBounds_toArray, List.set_cons_zero, List.set_cons_succ]
    refine wpAnyH_takeL 5 (v := ?_) (by kernel_rfl) rfl (by kernel_rfl) (by kernel_rfl) (fun _ _ _ h => h) (Or.inl ⟨by rfl, ?_⟩) (by assumption) ?_
    rotate_left
    · (intro wq hSq; (try dsimp only at hSq); go_simp; try with_reducible rfl)
    try simp only [Act.put, List.setIfInBounds_toArray, List.set_cons_zero, List.set_cons_succ]
    refine wpAnyH_takeL 6 (v := ?_) (by kernel_rfl) rfl (by kernel_rfl) (by kernel_rfl) (fun _ _ _ h => h) (Or.inl ⟨by rfl, ?_⟩) (by assumption) ?_
    rotate_left
    · (intro wq hSq; (try dsimp only at hSq); go_simp; try with_reducible rfl)
    try simp only [Act.put, List.setIfInBounds_toArray, List.set_cons_zero, List.set_cons_succ]
    refine wpAnyH_takeL 7 (v := ?_) (by kernel_rfl) rfl (by kernel_rfl) (by kernel_rfl) (fun _ _ _ h => h) (Or.inl ⟨by rfl, ?_⟩) (by assumption) ?_
    rotate_left
    · (intro wq hSq; (try dsimp only at hSq); go_simp; try with_reducible rfl)
    try simp only [Act.put, List.setIfInBounds_toArray, List.set_cons_zero, List.set_cons_succ]
    refine wpAnyH_takeL 8 (v := ?_) (by kernel_rfl) rfl (by kernel_rfl) (by kernel_rfl) (fun _ _ _ h => h) (Or.inl ⟨by rfl, ?_⟩) (by assumption) ?_
    rotate_left
    · (intro wq hSq; (try dsimp only at hSq); go_simp; try with_reducible rfl)
    try simp only [Act.put, List.setIfInBounds_toArray, List.set_cons_zero, List.set_cons_succ]
    refine wpAnyH_takeL 9 (v := ?_) (by kernel_rfl) rfl (by kernel_rfl) (by kernel_rfl) (fun _ _ _ h => h) (Or.inl ⟨by rfl, ?_⟩) (by assumption) ?_
    rotate_left
    · (intro wq hSq; (try dsimp only at hSq); go_simp; try with_reducible rfl)
    try simp only [Act.put, List.setIfInBounds_toArray, List.set_cons_zero, List.set_cons_succ]
    refine wpAnyH_takeL 10 (v := ?_) (by kernel_rfl) rfl (by kernel_rfl) (by kernel_rfl) (fun _ _ _ h => h) (Or.inl ⟨by rfl, ?_⟩) (by assumption) ?_
    rotate_left
    · (intro wq hSq; (try dsimp only at hSq); go_simp; try with_reducible rfl)
    try simp only [Act.put, List.setIfInBounds_toArray, List.set_cons_zero, List.set_cons_succ]
    refine wpAnyH_takeL 11 (v := ?_) (by kernel_rfl) rfl (by kernel_rfl) (by kernel_rfl) (fun _ _ _ h => h) (Or.inl ⟨by rfl, ?_⟩) (by assumption) ?_
    rotate_left
    · (intro wq hSq; (try dsimp only at hSq); go_simp; try with_reducible rfl)
    try simp only [Act.put, List.setIfInBounds_toArray, List.set_cons_zero, List.set_cons_succ]
    refine wpAnyH_takeL 12 (v := ?_) (by kernel_rfl) rfl (by kernel_rfl) (by kernel_rfl) (fun _ _ _ h => h) (Or.inl ⟨by rfl, ?_⟩) (by assumption) ?_
    rotate_left
    · (intro wq hSq; (try dsimp only at hSq); go_simp; try with_reducible rfl)
    try simp only [Act.put, List.setIfInBounds_toArray, List.set_cons_zero, List.set_cons_succ]
    refine wpAnyH_stepL 13 (by kernel_rfl) rfl (fun K hK => ?_)
    go_simp
    go_at_call 62
    refine (rbody_any y u r hyl (by omega) (by rw [← HN.out]; omega) _).mono ?_
    rintro e w7 ⟨rfl, hb7d⟩
    have hb7 : Below w6.heap.size w6 w7 := ((Below.refl w6.heap.size w6).drew).trans hb7d
    have HP7 := Lib.hid (HP6.out.below hb7)
    refine hK.out _ _ (HSZ.out _ _ HP7.out) (fun hS7 => ?_)
    clear hK K hS hb7 hb7d HP6
    try simp only [Act.put, List.setIfInBounds_toArray, List.set_cons_zero, List.set_cons_succ]
    refine wpAnyH_stepL 14 (by kernel_rfl) rfl (fun K hK => ?_)
    go_simp
    go_at_call 61
    have HC8 := Lib.hid (HCALL.out _ _ HP7.out (u + 1) (bodyL y u r) (Au1 : Int) (by rw [bodyL_length, ← HN.out]; omega) (by have := HAU.out; omega))
    refine HC8.out.mono ?_
    rintro e w8 ⟨⟨v8, rfl⟩, hp8⟩
    have HP8 := Lib.hid hp8
    refine hK.out _ _ (HSZ.out _ _ hp8) (fun hS8 => ?_)
    clear hK K hS7 hp8 HP7 HC8
    try simp only [Act.put, List.setIfInBounds_toArray, List.set_cons_zero, List.set_cons_succ]
    refine wpAnyH_end (by kernel_rfl) ?_
    clear k0
    have k0 := HSZ.out _ _ HP8.out
    go_wp2_with fail
    refine (HCALL.out _ _ HP8.out u [1] _ (by simp; omega) (by have := HAU0.out; omega)).mono ?_
    rintro e w9 ⟨⟨v9, rfl⟩, hp9⟩
    have hst : appS d.wr m y u r = putS (putS (putS ⟨d.hf half, d.fuse, d.failed⟩ u [0]) (u + 1) (bodyL y u r)) u [1] := by
      have e1 : d.wr = ⟨d.hf half, d.fuse, d.failed⟩ := by unfold Dk.wr; rw [act_hf half HX.out.symm hh]
      unfold appS
      rw [← HN.out, if_neg hnx, e1]
    have hd9 := hp9.stop hh
    rw [← hst] at hd9
    have HD9 := Lib.hid hd9
    have HK9 := Lib.hid ((Kp.of_below (P := two p b) hb3).trans hp9.kp)
    clear hp9 hd9 hst k0
    go_wp2_with fail
    refine (HRES.out _ HD9.out).mono ?_
    rintro e w10 ⟨rfl, rfl⟩
    go_wp2
    go_ret
    rw [HRR.out]
    exact ⟨rfl, HD9.out, HK9.out⟩
end Go.Proofs.YtoggmplkbiidhaaDoor

/- Walks: the reference's disk: all records are replaced. -/

/- Walks: the reference's disk: a new one. -/
namespace Go.Proofs.YtoggmplkbiidhaaDoor
set_option linter.all false
open Go.RowKit Go.Shelf
set_option maxRecDepth 100000 in
set_option maxHeartbeats 4000000 in
theorem rNew_any (n : Nat) (h64 : 64 ≤ n) (hmx : n ≤ 262144) (w : World) : Calls Tryd.prog 23 #[.int .i64 (n : Int)] w fun e w' =>
    (∃ p b, e = .returned (.tuple #[.pointer (some ⟨p, 0, none⟩), .int .i64 0]) ∧ RDiskAt w' p b (newDk n) ∧ w.heap.size ≤ p ∧ w.heap.size ≤ b) ∧ Below w.heap.size w w' := by
  obtain ⟨D, hD⟩ : ∃ D, D = 2 * n := ⟨_, rfl⟩
  have hmul : (2 : Int) * (n : Int) = (D : Int) := by omega
  have hDb : D ≤ 600000 := by omega
  have hD17 : 17 ≤ D := by omega
  have hmk : ∀ W : World, (Instr.makeSlice 64 (.int .i64 (D : Int)) (.int .i64 (D : Int))).run Tryd.prog W = .ok (.slice (some ⟨W.heap.size, 0, none⟩) D D) (W.alloc (.cells (zrow8 D) 5)) := fun W => make_u8 D D (Nat.le_refl _) (by omega) W
  have HD := Lib.hid hD
  clear hD
  go_enter Tryd.func23, Tryd.ntmps23
  go_wp2_with fail
  obtain ⟨W2, hW2e⟩ : ∃ W2, W2 = ((w.alloc (.cells (zrow8 D) 5)).alloc (.cells #[.int .i64 (n : Int), .slice (some ⟨w.heap.size, 0, none⟩) D D, .int .i64 (-1), .bool false] 96)) := ⟨_, rfl⟩
  have hB2 : Below w.heap.size w W2 := by rw [hW2e]; exact ((Below.refl _ w).alloc (Nat.le_refl _) _).alloc (by simp) _
  have g2 : W2.heap[w.heap.size + 1]? = some (.cells #[.int .i64 (n : Int), .slice (some ⟨w.heap.size, 0, none⟩) D D, .int .i64 (-1), .bool false] 96) := by
    rw [hW2e]; exact alloc_last _ _ (by simp)
  have ga : W2.heap[w.heap.size]? = some (.cells (zrow8 D) 5) := by
    rw [hW2e, Below.heap_alloc _ _ _ (by simp)]; exact alloc_last _ _ rfl
  rw [← hW2e]
  clear hW2e
  obtain ⟨p, hp⟩ : ∃ p, p = w.heap.size + 1 := ⟨_, rfl⟩
  obtain ⟨b, hb⟩ : ∃ p, p = w.heap.size := ⟨_, rfl⟩
  rw [← hp, ← hb] at g2
  rw [← hb] at ga
  rw [← hp]
  have hl2 : p < W2.heap.size := lt_of_heap g2
  have hlb : b < W2.heap.size := lt_of_heap ga
  have k0 := (four_cells g2).2.1
  have HP := Lib.hid hp
  have HB := Lib.hid hb
  clear hp hb
  refine wp_region_heldL (fun w' => w'.cell? ⟨p, 1, none⟩ = some (.slice (some ⟨b, 0, none⟩) D D)) (by kernel_rfl) k0 (fun hS => ?_)
  refine wpAnyH_takeL 0 (v := ?_) (by kernel_rfl) rfl (by kernel_rfl) (by kernel_rfl) (fun _ _ _ h => h) (Or.inl ⟨by rfl, ?_⟩) (by assumption) ?_
  rotate_left
  · (intro wq hSq; (try dsimp only at hSq); go_simp; try with_reducible rfl)
  try simp only [Act.put, List.setIfInBounds_toArray, List.set_cons_zero, List.set_cons_succ]
  refine wpAnyH_takeL 1 (v := ?_) (by kernel_rfl) rfl (by kernel_rfl) (by kernel_rfl) (fun _ _ _ h => h) (Or.inl ⟨by rfl, ?_⟩) (by assumption) ?_
  rotate_left
  · (intro wq hSq; (try dsimp only at hSq); go_simp; try with_reducible rfl)
  try simp only [Act.put, List.setIfInBounds_toArray, List.set_cons_zero, List.set_cons_succ]
  refine wpAnyH_takeL 2 (v := ?_) (by kernel_rfl) rfl (by kernel_rfl) (by kernel_rfl) (fun _ _ _ h => h) (Or.inl ⟨by rfl, ?_⟩) (by assumption) ?_
  rotate_left
  · (intro wq hSq; (try dsimp only at hSq); go_simp; try with_reducible rfl)
  try simp only [Act.put, List.setIfInBounds_toArray, List.set_cons_zero, List.set_cons_succ]
  refine wpAnyH_takeL 3 (v := ?_) (by kernel_rfl) rfl (by kernel_rfl) (by kernel_rfl) (fun _ _ _ h => h) (Or.inl ⟨by rfl, ?_⟩) (by assumption) ?_
  rotate_left
  · (intro wq hSq; (try dsimp only at hSq); go_simp; try with_reducible rfl)
  try simp only [Act.put, List.setIfInBounds_toArray, List.set_cons_zero, List.set_cons_succ]
  refine wpAnyH_stepL 4 (by kernel_rfl) rfl (fun K hK => ?_)
  go_simp
  go_at_call 57
  refine (reight_any 1 (by omega) _).mono ?_
  rintro e w3 ⟨rfl, hb3d⟩
  have hb3 : Below W2.heap.size W2 w3 := ((Below.refl _ W2).drew).trans hb3d
  refine hK.out _ _ ((hb3.cell (p := ⟨p, 1, none⟩) hl2).trans k0) (fun hS3 => ?_)
  clear hK K hS
  try simp only [Act.put, List.setIfInBounds_toArray, List.set_cons_zero, List.set_cons_succ]
  have a3 := bytesOf_append
  have x1 : (bytesOf (1 :: eightL 1)).size = 9 := by show (1 :: eightL 1).length = 9; rw [List.length_cons, eightL_length]
  have x0 : (⟨#[1]⟩ : ByteArray) ++ bytesOf (eightL 1) = bytesOf (1 :: eightL 1) := bytesOf_append [1] _
  have x2 : (⟨#[1]⟩ : ByteArray).size = 1 := rfl
  have x3 : (bytesOf (eightL 1)).size = 8 := eight_size 1
  refine wpAnyH_takeL 5 (v := ?_) (by kernel_rfl) rfl (by kernel_rfl) (by kernel_rfl) (fun _ _ _ h => h) (Or.inl ⟨by rfl, ?_⟩) (by assumption) ?_
  rotate_left
  · (intro wq hSq; (try dsimp only at hSq); go_simp; try with_reducible rfl)
  try simp only [Act.put, List.setIfInBounds_toArray, List.set_cons_zero, List.set_cons_succ]
  refine wpAnyH_stepL 6 (by kernel_rfl) rfl (fun K hK => ?_)
  go_simp
  go_at_call 57
  refine (reight_any 1 (by omega) _).mono ?_
  rintro e w4 ⟨rfl, hb4d⟩
  have hb4 : Below W2.heap.size W2 w4 := hb3.trans (hb4d.mono hb3.size)
  refine hK.out _ _ ((hb4.cell (p := ⟨p, 1, none⟩) hl2).trans k0) (fun hS4 => ?_)
  clear hK K hS3
  try simp only [Act.put, List.setIfInBounds_toArray, List.set_cons_zero, List.set_cons_succ]
  refine wpAnyH_stepL 7 (by kernel_rfl) rfl (fun K hK => ?_)
  go_simp
  go_at_call 58
  refine (refShortN_any (eightL 1) (by rw [eightL_length]; omega) _).mono ?_
  rintro e w5 ⟨rfl, hb5d⟩
  have hb5 : Below W2.heap.size W2 w5 := hb4.trans (hb5d.mono hb4.size)
  refine hK.out _ _ ((hb5.cell (p := ⟨p, 1, none⟩) hl2).trans k0) (fun hS5 => ?_)
  clear hK K hS4
  try simp only [Act.put, List.setIfInBounds_toArray, List.set_cons_zero, List.set_cons_succ]
  have x4 : (bytesOf (shortL (eightL 1))).size = 8 := shortL_length _
  refine wpAnyH_takeL 8 (v := ?_) (by kernel_rfl) rfl (by kernel_rfl) (by kernel_rfl) (fun _ _ _ h => h) (Or.inl ⟨by rfl, ?_⟩) (by assumption) ?_
  rotate_left
  · (intro wq hSq; (try dsimp only at hSq); go_simp; try with_reducible rfl)
  try simp only [Act.put, List.setIfInBounds_toArray, List.set_cons_zero, List.set_cons_succ]
  refine wpAnyH_stepL 9 (by kernel_rfl) rfl (fun K hK => ?_)
  refine step_copy_half rfl (.tmp 20) (.tmp 25) 9 rfl b D (List.replicate D 0) newHead rfl rfl ((hb5.block _ hlb).trans ga) (by simp) (by rw [newHead_length]; omega) ?_
  intro w6 hg6 hk6
  have hn02 : ¬ p = b := by have := HP.out; have := HB.out; omega
  have q2 : w6.heap[p]? = some (.cells #[.int .i64 (n : Int), .slice (some ⟨b, 0, none⟩) D D, .int .i64 (-1), .bool false] 96) := (hk6.block _ (Nat.lt_of_lt_of_le hl2 hb5.size) hn02).trans ((hb5.block _ hl2).trans g2)
  have hB6 : Below w.heap.size w w6 := (hB2.trans (hb5.mono hB2.size)).trans (hk6.below (by have := hB2.size; have := hb5.size; omega) (fun k e => by have := HB.out; subst e; omega))
  refine hK.out _ _ (four_cells q2).2.1 (fun hS6 => ?_)
  clear hK K hS5
  try simp only [Act.put, List.setIfInBounds_toArray, List.set_cons_zero, List.set_cons_succ]
  refine wpAnyH_end (by kernel_rfl) ?_
  have HB6 := Lib.hid hB6
  clear k0 ga g2 hB2 hb3d hb4d hb5d hb3 hb4 hb5 hk6 hB6
  go_wp2
  go_ret2
  refine ⟨⟨p, b, rfl, ⟨?_, ⟨5, ?_⟩, fun e => hn02 e.symm⟩, by have := HP.out; omega, by have := HB.out; omega⟩, HB6.out⟩
  · rw [HD.out] at q2; exact q2
  · rw [hg6, newHead_length, List.drop_replicate]
    show _ = some (Obj.cells (List.map byteV ((newHead ++ List.replicate (n - 17) 0) ++ List.replicate n 0)).toArray _)
    rw [List.append_assoc, List.replicate_append_replicate, show D - 17 = n - 17 + n by have := HD.out; omega]
end Go.Proofs.YtoggmplkbiidhaaDoor

/- Plain: a queue of jobs: what each call does with the jobs. -/
namespace Go.Proofs.YtoggmplkbiidhaaDoor
set_option linter.all false
/-- An act of the law. -/
structure JAct where
  (what : Nat)
  (id prio : Int)
  (client token text : List UInt8)
/-- One of the calls of the queue: its error, and what it leaves. -/
noncomputable def Qst.call (x : Qst) (a : JAct) : Int × Qst :=
  if a.what % 14 = 0 ∨ a.what % 14 = 1 then ((x.submit a.client a.token a.prio a.text).1.2, (x.submit a.client a.token a.prio a.text).2)
  else if a.what % 14 = 2 ∨ a.what % 14 = 3 then (x.take.1.2.2, x.take.2)
  else if a.what % 14 = 4 then x.save a.id a.text
  else if a.what % 14 = 5 then x.give a.id
  else if a.what % 14 = 6 then x.finish a.id 3 a.text
  else if a.what % 14 = 7 then x.finish a.id 4 a.text
  else if a.what % 14 = 8 then x.cancel a.id
  else if a.what % 14 = 9 then x.forget a.id
  else if a.what % 14 = 10 then x.compact
  else (0, x)
end Go.Proofs.YtoggmplkbiidhaaDoor

/- Laws of the jobs: the acts; are they more than is looked at? -/
namespace Go.Proofs.YtoggmplkbiidhaaDoor
set_option linter.all false
open Go.RowKit Go.Shelf
/-- An act lies in a world. -/
structure JActAt (w : World) (b off : Nat) (x : JAct) : Prop where
  (c0 : w.cell? ⟨b, off, none⟩ = some (.int .u8 (x.what : Int)))
  (c1 : w.cell? ⟨b, off + 1, none⟩ = some (.int .i64 x.id))
  (c2 : w.cell? ⟨b, off + 2, none⟩ = some (.int .i64 x.prio))
  (c3 : w.cell? ⟨b, off + 3, none⟩ = some (.string (bytesOf x.client)))
  (c4 : w.cell? ⟨b, off + 4, none⟩ = some (.string (bytesOf x.token)))
  (c5 : w.cell? ⟨b, off + 5, none⟩ = some (.string (bytesOf x.text)))
structure JAct.wf (x : JAct) : Prop where
  (w0 : x.what < 256)
  (w1 : -9223372036854775808 ≤ x.id ∧ x.id ≤ 9223372036854775807)
  (w2 : -9223372036854775808 ≤ x.prio ∧ x.prio ≤ 9223372036854775807)
def JActsAt (w : World) (B : Nat) (a : Option Addr) (l : List JAct) : Prop :=
  ∀ (j : Nat) (x : JAct), l[j]? = some x → ∃ b off, a = some ⟨b, off, none⟩ ∧ b < B ∧ JActAt w b (off + j * 6) x ∧ x.wf
theorem JActAt.below {w w' : World} {B b off : Nat} {x : JAct} (h : JActAt w b off x) (hb : Below B w w') (hB : b < B) : JActAt w' b off x :=
  ⟨(hb.cell (p := ⟨b, _, none⟩) hB).trans h.c0, (hb.cell (p := ⟨b, _, none⟩) hB).trans h.c1, (hb.cell (p := ⟨b, _, none⟩) hB).trans h.c2, (hb.cell (p := ⟨b, _, none⟩) hB).trans h.c3, (hb.cell (p := ⟨b, _, none⟩) hB).trans h.c4, (hb.cell (p := ⟨b, _, none⟩) hB).trans h.c5⟩
theorem JActsAt.below {w w' : World} {B : Nat} {a : Option Addr} {l : List JAct} (h : JActsAt w B a l) (hb : Below B w w') : JActsAt w' B a l := fun j x hx => by
  obtain ⟨b, off, h1, h2, h3, h4⟩ := h j x hx
  exact ⟨b, off, h1, h2, h3.below hb h2, h4⟩
end Go.Proofs.YtoggmplkbiidhaaDoor

/- Plain: a queue of jobs: the calls that every law shows. -/
namespace Go.Proofs.YtoggmplkbiidhaaDoor
set_option linter.all false
theorem note_room {x : Qst} (h : x.up) (s : List UInt8) (hs : s.length ≤ 65535) (hfit : x.d.used + 13 + s.length ≤ x.d.size) :
    (x.note s).1 = 0 ∧ (x.note s).2.q = x.q ∧ (x.note s).2.d.used = x.d.used + 13 + s.length ∧ (x.note s).2.d.size = x.d.size ∧ (x.note s).2.up := by
  have h0 := appended_ok h.free.good s h.free.nf hs hfit (.inl h.free.fu)
  have hp := appended_post h.free.good s
  obtain ⟨f1, -⟩ := appended_free h.free s hs
  have e : noteD x.q x.d s = x.d.appended s := by unfold noteD; rw [if_neg (by rw [h0]; decide)]
  have e1 : (x.note s).1 = 0 := by show (noteD x.q x.d s).1 = 0; rw [e]; exact h0
  have e2 : (x.note s).2.d = (x.d.appended s).2 := by show (noteD x.q x.d s).2 = _; rw [e]
  refine ⟨e1, rfl, by rw [e2]; exact (hp.ok0 h0).2.1, by rw [e2]; exact hp.size, ⟨h.fine, by rw [e2]; exact f1, ?_⟩⟩
  show (x.down || decide ((noteD x.q x.d s).1 = 9)) = false
  rw [h.nd, e, h0]; rfl
/-- What a call with enough room leaves. -/
structure Room (x : Qst) (used : Nat) (q : Qs) : Prop where
  (up : x.up)
  (q_ : x.q = q)
  (used_ : x.d.used ≤ used)
  (size : x.d.size = 4000)
theorem room_noted {x : Qst} {u : Nat} {q : Qs} (h : Room x u q) (s : List UInt8) (hs : u + 13 + s.length ≤ 4000) (q' : Qs) (hq : q'.fine) : (x.noted s q').1 = 0 ∧ Room (x.noted s q').2 (u + 13 + s.length) q' := by
  obtain ⟨n1, n2, n3, n4, n5⟩ := note_room h.up s (by omega) (by have := h.used_; have := h.size; omega)
  unfold Qst.noted
  rw [if_pos n1]
  exact ⟨rfl, ⟨hq, n5.free, n5.nd⟩, rfl, by have := h.used_; show (x.note s).2.d.used ≤ _; omega, by show (x.note s).2.d.size = 4000; rw [n4]; exact h.size⟩
def jA : Jb := ⟨1, [97], [116], 3, 1, 0, [119], [], []⟩
def jB : Jb := ⟨2, [97], [117], 5, 1, 0, [119], [], []⟩
def jB2 : Jb := ⟨2, [97], [117], 5, 2, 1, [119], [], []⟩
def jB3 : Jb := ⟨2, [97], [117], 5, 3, 1, [119], [], [100, 111, 110, 101]⟩
theorem jA_ok (n : Nat) (h : 1 ≤ n) : jA.ok n := ⟨by decide, h, by decide, by decide, by decide, by decide, by decide, by decide, by decide, by decide, by decide⟩
theorem jB_ok (n : Nat) (h : 2 ≤ n) : jB.ok n := ⟨by decide, h, by decide, by decide, by decide, by decide, by decide, by decide, by decide, by decide, by decide⟩
theorem jB2_ok (n : Nat) (h : 2 ≤ n) : jB2.ok n := ⟨by decide, h, by decide, by decide, by decide, by decide, by decide, by decide, by decide, by decide, by decide⟩
theorem jB3_ok (n : Nat) (h : 2 ≤ n) : jB3.ok n := ⟨by decide, h, by decide, by decide, by decide, by decide, by decide, by decide, by decide, by decide, by decide⟩
def qA : Qs := ⟨[jA], 1⟩
def qB : Qs := ⟨[jA, jB], 2⟩
def qC : Qs := ⟨[jA, jB2], 2⟩
def qD : Qs := ⟨[jA, jB3], 2⟩
theorem qA_fine : qA.fine := Qs.fine.nil.push (j := jA) (jA_ok 1 (by omega)) ⟨by decide, by decide, by decide⟩ (by decide) (by decide) rfl (by decide)
theorem qB_fine : qB.fine := qA_fine.push (j := jB) (jB_ok 2 (by omega)) ⟨by decide, by decide, by decide⟩ (by decide) (by decide) (by unfold qA Qs.named jA jB; simp) (by decide)
theorem qC_fine : qC.fine := qB_fine.put (k := 1) (j := jB) (j' := jB2) rfl rfl rfl rfl (jB2_ok 2 (by omega)) ⟨by decide, by decide, by decide⟩
theorem qD_fine : qD.fine := qC_fine.put (k := 1) (j := jB2) (j' := jB3) rfl rfl rfl rfl (jB3_ok 2 (by omega)) ⟨by decide, by decide, by decide⟩
theorem show_new : Room ⟨⟨[], 0⟩, newDk 4000, false⟩ 17 ⟨[], 0⟩ ∧ openD (newDk 4000) = .inr ⟨[], 0⟩ := by
  obtain ⟨h1, h2, h3, h4⟩ := newDk_post 4000 (by omega) (by omega)
  refine ⟨⟨⟨Qs.fine.nil, ⟨h1, rfl, rfl⟩, rfl⟩, rfl, by show (newDk 4000).used ≤ 17; omega, rfl⟩, ?_⟩
  unfold openD
  have hs : (newDk 4000).seenErr = 0 := by unfold Dk.seenErr; rw [if_neg (by have := h1.half; omega)]
  rw [if_neg (by rw [hs]; simp), h2]
  rfl
theorem submit_new {x : Qst} {u : Nat} {q : Qs} (h : Room x u q) (c t work : List UInt8) (p : Nat) (hc : labelB c = true) (ht : labelB t = true) (hp : p ≤ 9) (hw : work.length ≤ 60000) (hn : q.named c t = none) (hl : q.jobs.length < 100) (hm : q.last < 9223372036854775807)
    (hf : (Qs.mk (q.jobs ++ [⟨q.last + 1, c, t, p, 1, 0, work, [], []⟩]) (q.last + 1)).fine) (hfit : u + 13 + (subB ⟨q.last + 1, c, t, p, 1, 0, work, [], []⟩).length ≤ 4000) :
    ∃ x', x.submit c t (p : Int) work = ((q.last + 1, 0), x') ∧ Room x' (u + 13 + (subB ⟨q.last + 1, c, t, p, 1, 0, work, [], []⟩).length) ⟨q.jobs ++ [⟨q.last + 1, c, t, p, 1, 0, work, [], []⟩], q.last + 1⟩ := by
  have hq := h.q_
  obtain ⟨r1, r2⟩ := room_noted h (subB ⟨q.last + 1, c, t, p, 1, 0, work, [], []⟩) hfit _ hf
  refine ⟨_, ?_, r2⟩
  unfold Qst.noted at *
  obtain ⟨n1, -⟩ := note_room h.up (subB ⟨q.last + 1, c, t, p, 1, 0, work, [], []⟩) (by omega) (by have := h.used_; have := h.size; omega)
  rw [if_pos n1]
  unfold Qst.submit
  rw [hq, if_neg (by rw [h.up.nd]; simp), if_neg (by rw [hc, ht]; simp; omega), if_neg (by omega), hn]
  dsimp only
  rw [if_neg (by omega), Int.toNat_natCast, if_pos n1]
theorem show_all : ∃ x1 x2 x4 x5 : Qst, (Qst.mk ⟨[], 0⟩ (newDk 4000) false).submit [97] [116] 3 [119] = ((1, 0), x1) ∧ x1.submit [97] [117] 5 [119] = ((2, 0), x2) ∧ x2.submit [97] [116] 0 [] = ((1, 0), x2) ∧
    x2.take = ((jB2, true, 0), x4) ∧ x4.save 1 [120] = (2, x4) ∧ x4.finish 2 3 [100, 111, 110, 101] = (0, x5) ∧ x5.list.length = 2 := by
  obtain ⟨r0, -⟩ := show_new
  obtain ⟨x1, s1, r1⟩ := submit_new r0 [97] [116] [119] 3 (by decide) (by decide) (by decide) (by decide) rfl (by decide) (by decide) qA_fine (by decide)
  obtain ⟨x2, s2, r2⟩ := submit_new r1 [97] [117] [119] 5 (by decide) (by decide) (by decide) (by decide) (by unfold Qs.named; simp) (by decide) (by decide) qB_fine (by decide)
  have hq2 : x2.q = qB := r2.q_
  have hbest : bestF qB.jobs 0 none = some (1, 5) := by
    show bestF [jA, jB] 0 none = _
    rw [bestF_cons, bestF_cons]
    unfold stepF jA jB
    simp [bestF]
  obtain ⟨n1, t4⟩ := room_noted r2 (recB 2 2) (by decide) qC qC_fine
  have t4' : (x2.note (recB 2 2)).1 = 0 := by
    unfold Qst.noted at n1
    split at n1
    · assumption
    · exact n1
  have s4 : x2.take = ((jB2, true, 0), (x2.noted (recB 2 2) qC).2) := by
    unfold Qst.take
    rw [hq2, hbest, if_neg (by rw [r2.up.nd]; simp)]
    show (if (x2.note (recB 2 2)).1 = 0 then _ else _) = _
    unfold Qst.noted
    rw [if_pos t4', if_pos t4']
    rfl
  have hq4 : (x2.noted (recB 2 2) qC).2.q = qC := t4.q_
  have nd4 := t4.up.nd
  obtain ⟨n5, t5⟩ := room_noted t4 (overB 2 3 [100, 111, 110, 101]) (by decide) qD qD_fine
  refine ⟨x1, x2, (x2.noted (recB 2 2) qC).2, ((x2.noted (recB 2 2) qC).2.noted (overB 2 3 [100, 111, 110, 101]) qD).2, s1, s2, ?_, s4, ?_, ?_, ?_⟩
  · unfold Qst.submit
    rw [hq2, if_neg (by rw [r2.up.nd]; simp), if_neg (by decide), if_neg (by decide)]
    have : qB.named [97] [116] = some 0 := by unfold Qs.named qB jA jB; simp [List.findIdx?_cons]
    rw [this]; rfl
  · generalize (x2.noted (recB 2 2) qC).2 = x4 at hq4 nd4
    unfold Qst.save Qst.held
    rw [hq4, if_neg (by rw [nd4]; simp)]
    have : qC.jobs.findIdx? (fun j => decide ((j.id : Int) = 1)) = some 0 := by unfold qC jA jB2; simp [List.findIdx?_cons]
    rw [this]; rfl
  · generalize (x2.noted (recB 2 2) qC).2 = x4 at hq4 nd4 n5
    unfold Qst.finish Qst.held
    rw [hq4, if_neg (by rw [nd4]; simp)]
    have : qC.jobs.findIdx? (fun j => decide ((j.id : Int) = 2)) = some 1 := by unfold qC jA jB2; simp [List.findIdx?_cons]
    rw [this]
    show x4.over 1 jB2 3 _ = _
    unfold Qst.over
    rw [hq4]
    show x4.noted (overB 2 3 [100, 111, 110, 101]) qD = _
    exact Prod.ext n5 rfl
  · unfold Qst.list
    rw [if_neg (by rw [t5.up.nd]; simp), t5.q_]
    rfl
end Go.Proofs.YtoggmplkbiidhaaDoor
