/- Walks: the reference's digits of an integer. -/
import Derived.Test.YtpcpgmgpkegjlaaGF4
import Derived.Test.YtpcpgmgpkegjlaaGF3
import Derived.Test.YtpcpgmgpkegjlaaBase
namespace Go.Proofs.Ytpcpgmgpkegjlaa
open Go.RowKit Go.Shelf Go.BigFrame
theorem infoI64e : (Try.prog.info? 2).map (fun i => (i.zero, i.size, i.bytes)) = some (some (.int .i64 0), 1, 8) := by kernel_rfl
theorem cut_base (width : Int) (h1 : 2 ≤ width) (h2 : width ≤ 31) : ∃ wn hn : Nat, width = (wn : Int) ∧ wn ≤ 62 ∧ (2 : Int) ^ (width - 1).toNat = (hn : Int) ∧ 2 ^ wn = 2 * hn ∧ 1 ≤ hn ∧ hn ≤ 1073741824 := by
  refine ⟨width.toNat, 2 ^ (width - 1).toNat, by omega, by omega, by simp, ?_, Nat.pow_pos (by decide), ?_⟩
  · rw [show width.toNat = (width - 1).toNat + 1 by omega, Nat.pow_succ]; omega
  · have h := Nat.pow_le_pow_right (show 0 < 2 by decide) (show (width - 1).toNat ≤ 30 by omega)
    simpa using h
set_option maxRecDepth 100000 in
set_option maxHeartbeats 8000000 in
theorem cut_any (width : Int) (h1 : 2 ≤ width) (h2 : width ≤ 31) (x : Int) (hx1 : -2147483648 ≤ x) (hx2 : x ≤ 2147483648) (w : World) :
    Calls Try.prog 38 #[.int .i64 width, .int .i64 x] w fun e w' => (∃ v, e = .returned v ∧ w'.owns w.heap.size 2 1 v (partsI width).toNat ((cutL (2 ^ (width - 1).toNat) (partsI width).toNat x).map i64V)) ∧ Below w.heap.size w w' := by
  obtain ⟨wn, hn, hwn, hw62, hpw, hpn, hn1, hn2⟩ := cut_base width h1 h2
  have hpb := parts_bound h1 h2
  obtain ⟨P, hP⟩ : ∃ P, P = (partsI width).toNat := ⟨_, rfl⟩
  have hPI : partsI width = (P : Int) := by omega
  rw [← hP, hpw]
  have HPA := Lib.hid (fun W => parts_any width h1 h2 W)
  rw [hPI] at HPA hpb
  have HPW := Lib.hid (fun W => power_any wn hw62 W)
  rw [hpn] at HPW
  rw [← hwn] at HPW
  have hbn : ((2 * hn : Nat) : Int) = 2 * (hn : Int) := by simp
  rw [hbn] at HPW
  obtain ⟨i0, hii0, hiz, hiz1, hizb⟩ := info_parts infoI64e
  have HXB := Lib.hid (xs_bound (hn : Int) (by omega) x 2147483648 (by omega) (by omega) (by omega))
  obtain ⟨B, hB⟩ : ∃ B : Int, B = 2 * (hn : Int) := ⟨_, rfl⟩
  rw [← hB] at HPW
  have HB := Lib.hid hB
  have q1 : (-B).tdiv 2 = -(hn : Int) := by rw [hB, Int.neg_tdiv, Int.mul_comm, Int.mul_tdiv_cancel _ (by decide)]
  have q2 : B.tdiv 2 = (hn : Int) := by rw [hB, Int.mul_comm, Int.mul_tdiv_cancel _ (by decide)]
  have q3 : B / 2 = (hn : Int) := by rw [hB]; omega
  have b1 : 1 < B := by omega
  have b2 : B ≤ 2147483648 := by omega
  have hB0 : Below w.heap.size w w := Below.refl _ _
  clear hpw hpn hbn hP hPI hB hwn hx1 hx2
  go_enter Try.func38, Try.ntmps38
  go_wp2_with fail
  refine (HPW.out _).mono ?_
  rintro e w0 ⟨rfl, rfl⟩
  go_wp2_with fail
  go_loopw [1, 5, 7] (fun y ov kk wr => ∃ (k : Nat) (z : Int), k + 1 ≤ P ∧ kk = .int .i64 (k : Int) ∧ y = .int .i64 z ∧ Hid (z = xsI (hn : Int) x k) ∧ wr.owns w.heap.size 2 1 ov k (((List.range k).map (digI (hn : Int) P x)).map i64V) ∧ Below w.heap.size w wr) (fun _ _ kk _ => P - (intOf kk).toNat)
  case atStart => exact ⟨0, x, by omega, rfl, rfl, rfl, World.owns_nil _ _ _ _, hB0⟩
  case round =>
    obtain ⟨k, z, hk, rfl, rfl, hz, hown, hBr⟩ := hrel
    have hs := hBr.size
    obtain ⟨sa, sc, rfl⟩ := reads_len hown.reads
    have hlen : (((List.range k).map (digI (hn : Int) P x)).map i64V).length = k := by simp
    rw [hlen] at hown ⊢
    have hzb := HXB.out k
    rw [← hz.out] at hzb
    obtain ⟨hz1, hz2⟩ := hzb
    have HO := Lib.hid hown
    clear hown hB0
    go_wp2_with fail
    refine (HPA.out _).mono ?_
    rintro e w2 ⟨rfl, rfl⟩
    by_cases hlt : k + 1 < P
    · have hlt' : (k : Int) < (P : Int) - 1 := by omega
      obtain ⟨d, hd⟩ : ∃ d, d = z.tmod B := ⟨_, rfl⟩
      obtain ⟨s1, s2, s3, d1, d2⟩ := cut_step (hn : Int) z d (by omega) (by rw [← HB.out]; exact hd)
      rw [← HB.out] at s1 s2 s3 d1 d2
      have hdd := hd.symm
      obtain ⟨nx, hnx⟩ : ∃ nx, nx = xsI (hn : Int) x (k + 1) := ⟨_, rfl⟩
      have hnx2 : (z + (hn : Int)) / B = nx := by rw [hnx, hz.out, HB.out]; rfl
      have hdg : digI (hn : Int) P x k = (z + (hn : Int)) % B - (hn : Int) := by unfold digI; rw [if_pos hlt, ← hz.out, HB.out]
      rw [hnx2] at s1 s2 s3
      have HDG := Lib.hid hdg
      have HNX := Lib.hid hnx
      have hxb := HXB.out (k + 1)
      rw [← hnx] at hxb
      have HWR := Lib.hid (IntWalk.wrap64_in nx ⟨by omega, by omega⟩)
      clear hxb
      clear hd hz hnx hnx2 hdg
      rcases Int.lt_or_le d (-(hn : Int)) with c1 | c1
      · obtain ⟨t1, t2, t3⟩ := s1 c1
        have t4 : ¬ (hn : Int) ≤ d + B := by omega
        have HT2 := Lib.hid t2
        clear s1 s2 s3 t2
        go_wp2_with (at_builtin; refine wpList_push1 rfl (.tmp 36) (.tmp 38) 45 rfl w.heap.size 2 i0 (.int .i64 0) 8 Try.underlying45 hii0 hiz hiz1 hizb rfl (.slice sa k sc) k _ rfl HO.out (.int .i64 (d + B)) _ rfl rfl rfl (by unfold maxLen; omega) (by omega) hs ?_; intro v4 W4 hown4 hz4 hBB)
        go_wp2
        go_roundw
        case rel => exact ⟨k + 1, nx, by omega, by go_num, by rw [HWR.out], HNX.out, by rw [map_range_map_succ, HDG.out, HT2.out]; exact hown4, hBB _ _ hBr (Nat.le_refl _)⟩
        case measure => simp [intOf]; omega
      · rcases Int.lt_or_le d (hn : Int) with c2 | c2
        · obtain ⟨t2, t3⟩ := s2 c1 c2
          have HT2 := Lib.hid t2
          clear s1 s2 s3 t2
          go_wp2_with (at_builtin; refine wpList_push1 rfl (.tmp 36) (.tmp 38) 45 rfl w.heap.size 2 i0 (.int .i64 0) 8 Try.underlying45 hii0 hiz hiz1 hizb rfl (.slice sa k sc) k _ rfl HO.out (.int .i64 d) _ rfl rfl rfl (by unfold maxLen; omega) (by omega) hs ?_; intro v4 W4 hown4 hz4 hBB)
          go_wp2
          go_roundw
          case rel => exact ⟨k + 1, nx, by omega, by go_num, by rw [HWR.out], HNX.out, by rw [map_range_map_succ, HDG.out, HT2.out]; exact hown4, hBB _ _ hBr (Nat.le_refl _)⟩
          case measure => simp [intOf]; omega
        · obtain ⟨t2, t3⟩ := s3 c2
          have t4 : ¬ d < -(hn : Int) := by omega
          have HT2 := Lib.hid t2
          clear s1 s2 s3 t2
          go_wp2_with (at_builtin; refine wpList_push1 rfl (.tmp 36) (.tmp 38) 45 rfl w.heap.size 2 i0 (.int .i64 0) 8 Try.underlying45 hii0 hiz hiz1 hizb rfl (.slice sa k sc) k _ rfl HO.out (.int .i64 (d - B)) _ rfl rfl rfl (by unfold maxLen; omega) (by omega) hs ?_; intro v4 W4 hown4 hz4 hBB)
          go_wp2
          go_roundw
          case rel => exact ⟨k + 1, nx, by omega, by go_num, by rw [HWR.out], HNX.out, by rw [map_range_map_succ, HDG.out, HT2.out]; exact hown4, hBB _ _ hBr (Nat.le_refl _)⟩
          case measure => simp [intOf]; omega
    · obtain rfl : P = k + 1 := by omega
      have hlt' : ¬ (k : Int) < ((k + 1 : Nat) : Int) - 1 := by omega
      have hdg : digI (hn : Int) (k + 1) x k = z := by unfold digI; rw [if_neg (by omega), hz.out]
      have HDG := Lib.hid hdg
      clear hz hdg
      go_wp2_with (at_builtin; refine wpList_push1 rfl (.tmp 45) (.tmp 47) 45 rfl w.heap.size 2 i0 (.int .i64 0) 8 Try.underlying45 hii0 hiz hiz1 hizb rfl (.slice sa k sc) k _ rfl HO.out (.int .i64 z) _ rfl rfl rfl (by unfold maxLen; omega) (by omega) hs ?_; intro v4 W4 hown4 hz4 hBB)
      obtain ⟨ga, gc, rfl⟩ := hown4.succ
      go_wp2
      go_ret
      refine ⟨⟨_, rfl, ?_⟩, hBB _ _ hBr (Nat.le_refl _)⟩
      unfold cutL
      rw [map_range_map_succ, HDG.out]; exact hown4
end Go.Proofs.Ytpcpgmgpkegjlaa
