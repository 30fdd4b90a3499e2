/- Laws of the jobs: whatever is done with a queue and its disk. Printed by gen_pj6.py. -/
import Derived.Test.YtoggmplkbiidhaaGreatDoorPX6
set_option linter.all false
set_option maxRecDepth 100000
set_option maxHeartbeats 40000000
namespace Go.Proofs.YtoggmplkbiidhaaGreatDoor

open Go.RowKit Go.Shelf
theorem Pick_3936 (n : Int) (hn : -9223372036854775808 ≤ n ∧ n ≤ 9223372036854775807) (w : World) :
  Calls Tryz.prog 6 #[.int .i64 n, .int .i64 3936] w fun e w' => (∃ k : Nat, k < 3936 ∧ e = .returned (.int .i64 (k : Int))) ∧ w = w' := by
 obtain ⟨q, hq⟩ : ∃ q, q = n.tmod 3936 := ⟨_, rfl⟩
 have h1 : -3936 < q ∧ q < 3936 := by
  rw [hq]
  rcases Int.le_total 0 n with h | h
  ·have := Int.tmod_nonneg 3936 h
   have := Int.tmod_lt_of_pos n (show (0 : Int) < 3936 by omega)
   omega
  ·have h2 := Int.tmod_nonneg 3936 (show 0 ≤ -n by omega)
   have h3 := Int.tmod_lt_of_pos (-n) (show (0 : Int) < 3936 by omega)
   rw [Int.neg_tmod] at h2 h3
   omega
 have HQ := Lib.hid hq
 have H1 := Lib.hid h1
 clear hq h1
 by_cases h0 : n.tmod 3936 < 0
 ·have H0 := Lib.hid h0
  go_enter Tryz.func6, Tryz.ntmps6
  go_wp2
  go_ret
  have h1 := H1.out
  have h0 := H0.out
  rw [← HQ.out] at h0
  refine ⟨⟨(q + 3936).toNat, by omega, ?_⟩, rfl⟩
  show Ending.returned (.int .i64 (wrap64 (n.tmod 3936 + 3936))) = _
  rw [← HQ.out, IntWalk.wrap64_in _ ⟨by omega, by omega⟩, Int.toNat_of_nonneg (by omega)]
 ·have H0 := Lib.hid h0
  go_enter Tryz.func6, Tryz.ntmps6
  go_wp2
  go_ret
  have h1 := H1.out
  have h0 := H0.out
  rw [← HQ.out] at h0
  refine ⟨⟨q.toNat, by omega, ?_⟩, rfl⟩
  show Ending.returned (.int .i64 (n.tmod 3936)) = _
  rw [← HQ.out, Int.toNat_of_nonneg (by omega)]
theorem new_good (N : Nat) (h1 : 64 ≤ N) (h2 : N ≤ 262144) : openD (newDk N) = .inr ⟨[], 0⟩ := by
 obtain ⟨p1, p2, p3, p4⟩ := newDk_post N h1 h2
 have := (pair_new N h1 h2 0 (by omega) (by omega)).1
 exact this
theorem jobs_plays (z : Int) (hz : -9223372036854775808 ≤ z ∧ z ≤ 9223372036854775807) (l : List JAct) (a : Option Addr) (cap : Nat) (hl : l.length ≤ maxLen) (w : World) (h : JActsAt w w.heap.size a l) (ht : TabAt w) :
  Calls Tryz.prog 3 #[.int .i64 z, .slice a l.length cap] w fun e w' => e = .returned (.bool true) ∧ Below w.heap.size w w' := by
 have HBY := Lib.hid (beyond_any l a cap hl w h)
 have HT := Lib.hid ht
 have HA := Lib.hid h
 obtain ⟨n, hn⟩ : ∃ n, n = l.length := ⟨_, rfl⟩
 rw [← hn] at HBY hl ⊢
 have HN := Lib.hid hn
 cases hby : beyondB l with
 | true =>
  rw [hby] at HBY
  have HSH := Lib.hid (shown36_any w ht)
  clear hby hn h ht hz
  go_enter Tryz.func3, Tryz.ntmps3
  go_wp2_with fail
  refine HBY.out.mono ?_
  rintro e w1 ⟨rfl, rfl⟩
  go_wp2_with fail
  refine HSH.out.mono ?_
  rintro e w2 ⟨rfl, hb2⟩
  go_wp2_with fail
  go_ret
  exact ⟨rfl, hb2⟩
 | false =>
  rw [hby] at HBY
  have hn80 : n ≤ 80 := by
   unfold beyondB at hby
   simp at hby
   omega
  have HTX : Hid (∀ (k : Nat) (x : JAct), l[k]? = some x → x.text.length ≤ 100000000) := Lib.hid (fun k x hx => by
   unfold beyondB at hby
   rw [Bool.or_eq_false_iff] at hby
   have h1 := List.any_eq_false.1 hby.1 x (List.mem_of_getElem? hx)
   unfold longJ at h1
   simp at h1
   omega)
  have HPZ := Lib.hid (Pick_3936 z hz w)
  have HTT : Hid (∀ X, Below w.heap.size w X → TabAt X) := Lib.hid (fun X hX => ht.block (hX.block _ ht.lt))
  clear hby hn h ht hl hz
  go_enter Tryz.func3, Tryz.ntmps3
  go_wp2_with fail
  refine HBY.out.mono ?_
  rintro e w1 ⟨rfl, rfl⟩
  go_wp2_with fail
  refine HPZ.out.mono ?_
  rintro e w2 ⟨⟨kz, hkz, rfl⟩, rfl⟩
  obtain ⟨N, hN⟩ : ∃ N, N = 64 + kz := ⟨_, rfl⟩
  have hN1 : (64 : Int) + (kz : Int) = (N : Int) := by omega
  have hN2 : 64 ≤ N := by omega
  have hN3 : N ≤ 262144 := by omega
  have HN2 : Hid (64 ≤ N ∧ N ≤ 262144) := ⟨hN2, hN3⟩
  clear hN hkz HPZ HBY
  go_wp2_with fail
  refine (New_any N hN2 hN3 w1).mono ?_
  rintro e wa ⟨⟨dp, b0, b1, rfl, hd1, hp⟩, hba⟩
  have HD1 := Lib.hid hd1
  have HP1 := Lib.hid hp
  have HBA := Lib.hid hba
  clear hd1 hp hba
  go_wp2_with fail
  refine (rNew_any N hN2 hN3 wa).mono ?_
  rintro e wb ⟨⟨cp, cb, rfl, hd2, hp⟩, hbb⟩
  have HD2 := Lib.hid hd2
  have HP2 := Lib.hid hp
  have HBB := Lib.hid hbb
  obtain ⟨bb, hbo⟩ : ∃ bb, bb = wb.heap.size := ⟨_, rfl⟩
  obtain ⟨W0, hW0⟩ : ∃ X, X = wb.alloc (boObj (.pointer (some ⟨dp, 0, none⟩)) (.pointer none) (.pointer (some ⟨cp, 0, none⟩)) (.pointer none) false) := ⟨_, rfl⟩
  have hbx : W0.heap[bb]? = some (boObj (.pointer (some ⟨dp, 0, none⟩)) (.pointer none) (.pointer (some ⟨cp, 0, none⟩)) (.pointer none) false) := by rw [hW0, hbo]; exact alloc_last _ _ rfl
  have hb0 : Below wb.heap.size wb W0 := by rw [hW0]; exact (Below.refl _ wb).alloc (Nat.le_refl _) _
  have HDS : Hid (Dsk w1.heap.size bb dp b0 b1 cp cb (.pointer none) (.pointer none) (newDk N) w1 W0) := Lib.hid (by
   obtain ⟨p1, p2, p3⟩ := HP1.out
   obtain ⟨r1, r2⟩ := HP2.out
   have l1 := lt_of_heap HD1.out.at_
   have l2 := HD1.out.a0.lt
   have l3 := HD1.out.a1.lt
   have l4 := lt_of_heap HD2.out.at_
   have l5 := HD2.out.half.lt
   have z1 := HBA.out.size
   have z2 := HBB.out.size
   have z3 := hb0.size
   refine ⟨hbx, (HD1.out.kept HBB.out).kept hb0, HD2.out.kept hb0, (newDk_post N HN2.out.1 HN2.out.2).1, ?_, ?_, ?_, (HBA.out.trans (HBB.out.mono z1)).trans (hb0.mono (by omega)), ?_, ?_, by omega, by omega⟩
   ·rintro k (e | e | e) (f | f) <;> omega
   ·rintro (e | e | e) <;> omega
   ·rintro (e | e) <;> omega
   ·rintro k (e | e | e) <;> omega
   ·rintro k (e | e) <;> omega)
  have HOP := Lib.hid (open_any w1.heap.size bb dp b0 b1 cp cb _ _ (newDk N) w1 W0 HDS.out HTT.out)
  have HON : Hid (∃ q', openD { newDk N with fuse := -1, failed := false } = .inr q') := ⟨_, new_good N HN2.out.1 HN2.out.2⟩
  unfold boObj at hW0
  have HW0 := Lib.hid hW0
  have HBO := Lib.hid hbo
  clear hd2 hp hbb hN1 hN2 hN3 hbx hb0 hW0 hbo HD1 HP1 HBA HD2 HP2 HBB HDS
  go_upto_region 9 with fail
  rw [← HW0.out, ← HBO.out]
  clear HW0 HBO
  go_wp2_with fail
  refine HOP.out.mono ?_
  rintro e wc ⟨rfl, -, -, -, hex⟩
  obtain ⟨P, R, v, u, x, hbo⟩ := hex HON.out
  have HB := Lib.hid hbo
  obtain ⟨⟨-, q1, -, -, -⟩, -⟩ := bo_cells hbo.bx.hp
  clear hbo HOP hex HON
  go_upto_block 0 with fail
  go_cut [10] from 47 to 71 (fun iv wx => ∃ (s10 : Value), s10 = iv ∧ Hid (Below w1.heap.size w1 wx ∧ w1.heap.size ≤ wx.heap.size))
  case first =>
   go_wp2_with fail
   clear q1
   go_loopw [10] (fun iv wr => ∃ (k : Nat) (P : QP) (R : RQP) (v u : Value) (x : Qst), k ≤ n ∧ iv = .int .i64 (k : Int) ∧ Hid (Bo w1.heap.size bb P R v u x x w1 wr)) (fun iv _ => n - (intOf iv).toNat)
   case atStart => exact ⟨0, P, R, v, u, x, Nat.zero_le _, rfl, HB.out⟩
   case round =>
    clear HB
    obtain ⟨k, P, R, v, u, x, hk, rfl, hB⟩ := hrel
    by_cases hlt : k < n
    ·obtain ⟨ac, hac⟩ : ∃ ac, l[k]? = some ac := ⟨l[k]'(by rw [← HN.out]; exact hlt), List.getElem?_eq_getElem _⟩
     obtain ⟨ab, ao, hae, hab, -, hwf⟩ := HA.out k ac hac
     subst hae
     have HACT : Hid (∀ W, Below w1.heap.size w1 W → JActAt W ab (ao + k * 6) ac) := Lib.hid (fun W hW => by
      obtain ⟨b', o', h1, h2, h3, -⟩ := HA.out k ac hac
      injection h1 with h1
      injection h1 with h1 h4
      subst h1 h4
      exact h3.below hW h2)
     have HAC := Lib.hid (act_any w1.heap.size bb P R v u x ac w1 wr hB.out HTT.out hwf (HTX.out k ac hac))
     unfold JAct.val at HAC
     obtain ⟨e0, e1, e2, e3, e4, e5⟩ := HACT.out wr hB.out.bl
     clear hac hwf
     go_wp2_with fail
     refine HAC.out.mono ?_
     rintro e wd ⟨rfl, haf⟩
     rcases haf with ⟨P2, R2, v2, u2, x2, hb2⟩ | ⟨hov, hbl, hle⟩
     ·have HB2 := Lib.hid hb2
      obtain ⟨⟨-, -, -, -, q4⟩, -⟩ := bo_cells hb2.bx.hp
      obtain ⟨g0, g1, g2, g3, g4, g5⟩ := HACT.out wd hb2.bl
      have HAL := Lib.hid (alike_jobs w1.heap.size bb P2 R2 v2 u2 x2 ac.id w1 wd hb2)
      clear hb2 hB HAC e0 e1 e2 e3 e4 e5
      go_wp2_with fail
      refine HAL.out.mono ?_
      rintro e we ⟨rfl, hb3⟩
      have HB3 := Lib.hid hb3
      clear hb3 HB2 HAL q4 g0 g1 g2 g3 g4 g5
      go_wp2_with fail
      go_roundw
      case rel => exact ⟨k + 1, P2, R2, v2, u2, x2, by omega, by go_num, HB3.out⟩
      case measure => simp [intOf]; omega
     ·have HOV : Hid (Below w1.heap.size w1 wd ∧ w1.heap.size ≤ wd.heap.size) := ⟨hbl, hle⟩
      clear hB HAC e0 e1 e2 e3 e4 e5 hbl hle
      go_wp2_with fail
      go_meet
      case rel => exact ⟨_, rfl, HOV.out⟩
    ·obtain rfl : k = n := by omega
     clear hlt
     have HOV : Hid (Below w1.heap.size w1 wr ∧ w1.heap.size ≤ wr.heap.size) := ⟨hB.out.bl, hB.out.le⟩
     clear hB
     go_wp2_with fail
     go_meet
     case rel => exact ⟨_, rfl, HOV.out⟩
  case rest =>
   obtain ⟨s10, rfl, hBL⟩ := hcut
   clear HB q1 HA HN HTX
   have HSH := Lib.hid (shown36_any _ (HTT.out _ hBL.out.1))
   go_wp2_with fail
   refine HSH.out.mono ?_
   rintro e wz ⟨rfl, hbz⟩
   go_wp2_with fail
   go_ret
   exact ⟨rfl, hBL.out.1.trans (hbz.mono hBL.out.2)⟩
end Go.Proofs.YtoggmplkbiidhaaGreatDoor
