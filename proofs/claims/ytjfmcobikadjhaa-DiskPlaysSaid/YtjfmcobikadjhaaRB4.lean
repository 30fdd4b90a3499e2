/- Walks: a bit is inverted: the disk. -/
import Derived.Test.YtjfmcobikadjhaaRB3
namespace Go.Proofs.Ytjfmcobikadjhaa
set_option linter.all false
open Go.RowKit Go.Shelf
set_option maxRecDepth 100000 in
set_option maxHeartbeats 40000000 in
theorem Flip_any (p b0 b1 : Nat) (d : Dk) (n : Int) (w : World) (hd : DiskAt w p b0 b1 d) (ho : d.ok) :
    Calls Try.prog 22 #[.pointer (some ⟨p, 0, none⟩), .int .i64 n] w fun e w' => e = .returned (.int .i64 (d.flipped n).1) ∧ DiskAt w' p b0 b1 (d.flipped n).2 ∧ Kp (three p b0 b1) w w' := by
  obtain ⟨k0, k1, -, -, -, -⟩ := four_cells hd.at_
  have HNO := Lib.hid (none_no p b0 d.size d.size w k0)
  have HD := Lib.hid hd
  have HO := Lib.hid ho
  have hlo := ho.lo
  have hhi := ho.hi
  obtain ⟨m, hm⟩ : ∃ m, m = d.size := ⟨_, rfl⟩
  rw [← hm] at k0 k1 hlo hhi
  obtain ⟨R, hR⟩ : ∃ R, R = d.flipped n := ⟨_, rfl⟩
  rw [← hR]
  unfold Dk.flipped at hR
  rw [← hm] at hR
  have HR := Lib.hid hR
  have HM := Lib.hid hm
  obtain ⟨Y, hY⟩ : ∃ Y, Y = 8 * m := ⟨_, rfl⟩
  have hmul : (8 : Int) * (m : Int) = (Y : Int) := by omega
  have hYb : Y ≤ 3000000 := by omega
  have hY8 : ¬ Y = 0 := by omega
  have HY := Lib.hid hY
  clear hR hm hd ho
  by_cases hneg : n < 0
  · have HRE : Hid (R = (2, d)) := by show _ = _; rw [HR.out, if_pos (Or.inl hneg)]
    clear hY
    go_enter Try.func22, Try.ntmps22
    go_wp2_with fail
    refine HNO.out.mono ?_
    rintro e w1 ⟨rfl, rfl⟩
    go_wp2
    go_ret
    rw [HRE.out]
    exact ⟨rfl, HD.out, Kp.refl _ _⟩
  by_cases hbig : 16 * (m : Int) ≤ n
  · have HRE : Hid (R = (2, d)) := by show _ = _; rw [HR.out, if_pos (Or.inr hbig)]
    have hb2 : 2 * (Y : Int) ≤ n := by omega
    clear hY hbig
    go_enter Try.func22, Try.ntmps22
    go_wp2_with fail
    refine HNO.out.mono ?_
    rintro e w1 ⟨rfl, rfl⟩
    go_wp2
    go_ret
    rw [HRE.out]
    exact ⟨rfl, HD.out, Kp.refl _ _⟩
  obtain ⟨N, rfl⟩ : ∃ N : Nat, n = (N : Int) := ⟨n.toNat, by omega⟩
  rw [if_neg (by omega), Int.toNat_natCast] at HR
  have hb2 : ¬ 2 * (Y : Int) ≤ (N : Int) := by omega
  have hNb : N ≤ 6000000 := by omega
  obtain ⟨r, hr⟩ : ∃ r, r = N % Y := ⟨_, rfl⟩
  have hrY : r < Y := by rw [hr]; exact Nat.mod_lt _ (by omega)
  obtain ⟨q, hq⟩ : ∃ q, q = r / 8 := ⟨_, rfl⟩
  obtain ⟨j, hj⟩ : ∃ j, j = N % 8 := ⟨_, rfl⟩
  obtain ⟨s, hs⟩ : ∃ s, s = 7 - j := ⟨_, rfl⟩
  have hqm : q < m := by omega
  have hs7 : s ≤ 7 := by omega
  have hrt : (N : Int).tmod (Y : Int) = (r : Int) := by
    rw [hr, Int.tmod_eq_emod_of_nonneg (by omega)]
    exact (Int.natCast_emod N Y).symm
  have hq1 : (r : Int) / 8 = (q : Int) := by omega
  have hj1 : (N : Int).tmod 8 = (j : Int) := by
    rw [hj]
    exact (Int.natCast_emod N 8).symm ▸ Int.tmod_eq_emod_of_nonneg (by omega)
  have hwq : IntKind.i64.wrap (q : Int) = (q : Int) := IntWalk.i64_in _ ⟨by omega, by omega⟩
  have hsub : IntKind.i64.wrap (7 - (j : Int)) = (s : Int) := by rw [IntWalk.i64_in _ ⟨by omega, by omega⟩]; omega
  have hshl := shift_run s hs7
  have hwp := wrap_pow s hs7
  obtain ⟨t2, ht2⟩ : ∃ t2, t2 = 2 ^ s := ⟨_, rfl⟩
  rw [← ht2] at hshl hwp
  have hqm' : (q : Int) < (m : Int) := by omega
  have hdm := Nat.div_add_mod N Y
  rw [← hr] at hdm
  by_cases hlow : N < Y
  · have hqq : (N : Int) / (Y : Int) = 0 := by
      have e : N / Y = 0 := Nat.div_eq_of_lt hlow
      have := (Int.natCast_ediv N Y).symm
      rw [e] at this
      exact this
    have hw0 : IntKind.i64.wrap 0 = 0 := by decide
    have hidx : N / 8 = q := by
      have e : N / Y = 0 := Nat.div_eq_of_lt hlow
      rw [e] at hdm
      omega
    obtain ⟨x, hx⟩ : ∃ x, d.h0[q]? = some x := ⟨d.h0[q]'(by rw [HO.out.l0, ← HM.out]; exact hqm), List.getElem?_eq_getElem _⟩
    have hxb := flip_bits x s hs7
    rw [← ht2] at hxb
    obtain ⟨th, hth⟩ := HD.out.a0
    have c1 : w.cell? ⟨b0, q, none⟩ = some (byteV x) := HalfAt.cell ⟨th, hth⟩ q x hx
    have c2 : w.frozen? ⟨b0, q, none⟩ = false := by simp [World.frozen?, hth]
    obtain ⟨c, hc⟩ : ∃ c, c = flipB x s := ⟨_, rfl⟩
    rw [← hc] at hxb
    have HTH := Lib.hid hth
    have HRE : Hid (R = (0, ⟨d.size, d.h0.set q c, d.h1, d.fuse, d.failed⟩)) := by
      show _ = _
      rw [HR.out, hidx, if_pos hqm, List.getD_eq_getElem?_getD, hx, Option.getD_some, ← hj, ← hs, ← hc, HM.out]
    clear hq hj hs ht2 hx hc hth hr hrY hY hdm hlow hidx hbig hneg
    have hro : Fence.wide.round = none := rfl
    refine (callsIn_wide (n := 5)).1 ?_
    refine callsIn_of_wp Try.func22 rfl trivial ?_ rfl
    simp only [Try.ntmps22, List.size_toArray, List.length_cons, List.length_nil, Nat.reduceAdd, Nat.reduceSub, Array.replicate_succ, Array.replicate_zero, List.push_toArray, List.append_toArray, List.nil_append, List.cons_append]
    gi_wp2_with fail
    refine ⟨trivial, (callsIn_wide.2 HNO.out).mono ?_⟩
    rintro e w1 ⟨rfl, rfl⟩
    gi_wp2_with fail
    refine wpIn_region_K (fun w' => w'.cell? ⟨p, 0, none⟩ = some (.slice (some ⟨b0, 0, none⟩) m m) ∧ w'.cell? ⟨b0, q, none⟩ = some (byteV x) ∧ w'.frozen? ⟨b0, q, none⟩ = false) 20 (by kernel_rfl) ⟨k0, c1, c2⟩ (fun hS => ?_)
    refine wpAnyKC_takeL 0 20 (v := ?_) hro (by kernel_rfl) (by kernel_rfl) (by kernel_rfl) rfl (by kernel_rfl) (by kernel_rfl) (fun _ _ _ h => h) (Or.inl ⟨by rfl, ?_⟩) (fun _ => rfl) (by assumption) ?_
    rotate_left
    · (intro wq hSq; (try dsimp only at hSq); go_simp; try with_reducible rfl)
    try simp only [Act.put, List.setIfInBounds_toArray, List.set_cons_zero, List.set_cons_succ]
    refine wpAnyKC_takeL 1 20 (v := ?_) hro (by kernel_rfl) (by kernel_rfl) (by kernel_rfl) rfl (by kernel_rfl) (by kernel_rfl) (fun _ _ _ h => h) (Or.inl ⟨by rfl, ?_⟩) (fun _ => rfl) (by assumption) ?_
    rotate_left
    · (intro wq hSq; (try dsimp only at hSq); go_simp; try with_reducible rfl)
    try simp only [Act.put, List.setIfInBounds_toArray, List.set_cons_zero, List.set_cons_succ]
    refine wpAnyKC_takeL 2 20 (v := ?_) hro (by kernel_rfl) (by kernel_rfl) (by kernel_rfl) rfl (by kernel_rfl) (by kernel_rfl) (fun _ _ _ h => h) (Or.inl ⟨by rfl, ?_⟩) (fun _ => rfl) (by assumption) ?_
    rotate_left
    · (intro wq hSq; (try dsimp only at hSq); go_simp; try with_reducible rfl)
    try simp only [Act.put, List.setIfInBounds_toArray, List.set_cons_zero, List.set_cons_succ]
    refine wpAnyKC_takeL 3 20 (v := ?_) hro (by kernel_rfl) (by kernel_rfl) (by kernel_rfl) rfl (by kernel_rfl) (by kernel_rfl) (fun _ _ _ h => h) (Or.inl ⟨by rfl, ?_⟩) (fun _ => rfl) (by assumption) ?_
    rotate_left
    · (intro wq hSq; (try dsimp only at hSq); go_simp; try with_reducible rfl)
    try simp only [Act.put, List.setIfInBounds_toArray, List.set_cons_zero, List.set_cons_succ]
    refine wpAnyKC_takeL 4 20 (v := ?_) hro (by kernel_rfl) (by kernel_rfl) (by kernel_rfl) rfl (by kernel_rfl) (by kernel_rfl) (fun _ _ _ h => h) (Or.inl ⟨by rfl, ?_⟩) (fun _ => rfl) (by assumption) ?_
    rotate_left
    · (intro wq hSq; (try dsimp only at hSq); go_simp; try with_reducible rfl)
    try simp only [Act.put, List.setIfInBounds_toArray, List.set_cons_zero, List.set_cons_succ]
    refine wpAnyKC_takeL 5 20 (v := ?_) hro (by kernel_rfl) (by kernel_rfl) (by kernel_rfl) rfl (by kernel_rfl) (by kernel_rfl) (fun _ _ _ h => h) (Or.inl ⟨by rfl, ?_⟩) (fun _ => rfl) (by assumption) ?_
    rotate_left
    · (intro wq hSq; (try dsimp only at hSq); go_simp; try with_reducible rfl)
    try simp only [Act.put, List.setIfInBounds_toArray, List.set_cons_zero, List.set_cons_succ]
    refine wpAnyKC_takeL 6 20 (v := ?_) hro (by kernel_rfl) (by kernel_rfl) (by kernel_rfl) rfl (by kernel_rfl) (by kernel_rfl) (fun _ _ _ h => h) (Or.inl ⟨by rfl, ?_⟩) (fun _ => rfl) (by assumption) ?_
    rotate_left
    · (intro wq hSq; (try dsimp only at hSq); go_simp; try with_reducible rfl)
    try simp only [Act.put, List.setIfInBounds_toArray, List.set_cons_zero, List.set_cons_succ]
    refine wpAnyKC_takeL 7 20 (v := ?_) hro (by kernel_rfl) (by kernel_rfl) (by kernel_rfl) rfl (by kernel_rfl) (by kernel_rfl) (fun _ _ _ h => h) (Or.inl ⟨by rfl, ?_⟩) (fun _ => rfl) (by assumption) ?_
    rotate_left
    · (intro wq hSq; (try dsimp only at hSq); go_simp; try with_reducible rfl)
    try simp only [Act.put, List.setIfInBounds_toArray, List.set_cons_zero, List.set_cons_succ]
    refine wpAnyKC_takeL 8 20 (v := ?_) hro (by kernel_rfl) (by kernel_rfl) (by kernel_rfl) rfl (by kernel_rfl) (by kernel_rfl) (fun _ _ _ h => h) (Or.inl ⟨by rfl, ?_⟩) (fun _ => rfl) (by assumption) ?_
    rotate_left
    · (intro wq hSq; (try dsimp only at hSq); go_simp; try with_reducible rfl)
    try simp only [Act.put, List.setIfInBounds_toArray, List.set_cons_zero, List.set_cons_succ]
    refine wpAnyKC_takeL 9 20 (v := ?_) hro (by kernel_rfl) (by kernel_rfl) (by kernel_rfl) rfl (by kernel_rfl) (by kernel_rfl) (fun _ _ _ h => h) (Or.inl ⟨by rfl, ?_⟩) (fun _ => rfl) (by assumption) ?_
    rotate_left
    · (intro wq hSq; (try dsimp only at hSq); go_simp; try with_reducible rfl)
    try simp only [Act.put, List.setIfInBounds_toArray, List.set_cons_zero, List.set_cons_succ]
    refine wpAnyKC_takeL 10 20 (v := ?_) hro (by kernel_rfl) (by kernel_rfl) (by kernel_rfl) rfl (by kernel_rfl) (by kernel_rfl) (fun _ _ _ h => h) (Or.inl ⟨by rfl, ?_⟩) (fun _ => rfl) (by assumption) ?_
    rotate_left
    · (intro wq hSq; (try dsimp only at hSq); go_simp; try with_reducible rfl)
    try simp only [Act.put, List.setIfInBounds_toArray, List.set_cons_zero, List.set_cons_succ]
    refine wpAnyKC_takeL 11 20 (v := ?_) hro (by kernel_rfl) (by kernel_rfl) (by kernel_rfl) rfl (by kernel_rfl) (by kernel_rfl) (fun _ _ _ h => h) (Or.inl ⟨by rfl, ?_⟩) (fun _ => rfl) (by assumption) ?_
    rotate_left
    · (intro wq hSq; (try dsimp only at hSq); go_simp; try with_reducible rfl)
    try simp only [Act.put, List.setIfInBounds_toArray, List.set_cons_zero, List.set_cons_succ]
    refine wpAnyKC_takeL 12 20 (v := ?_) hro (by kernel_rfl) (by kernel_rfl) (by kernel_rfl) rfl (by kernel_rfl) (by kernel_rfl) (fun _ _ _ h => h) (Or.inl ⟨by rfl, ?_⟩) (fun _ => rfl) (by assumption) ?_
    rotate_left
    · (intro wq hSq; (try dsimp only at hSq); go_simp; try with_reducible rfl)
    try simp only [Act.put, List.setIfInBounds_toArray, List.set_cons_zero, List.set_cons_succ]
    refine wpAnyKC_takeL 13 20 (v := ?_) hro (by kernel_rfl) (by kernel_rfl) (by kernel_rfl) rfl (by kernel_rfl) (by kernel_rfl) (fun _ _ _ h => h) (Or.inl ⟨by rfl, ?_⟩) (fun _ => rfl) (by assumption) ?_
    rotate_left
    · (intro wq hSq; (try dsimp only at hSq); go_simp; try with_reducible rfl)
    try simp only [Act.put, List.setIfInBounds_toArray, List.set_cons_zero, List.set_cons_succ]
    refine wpAnyKC_takeL 14 20 (v := ?_) hro (by kernel_rfl) (by kernel_rfl) (by kernel_rfl) rfl (by kernel_rfl) (by kernel_rfl) (fun _ _ _ h => h) (Or.inl ⟨by rfl, ?_⟩) (fun _ => rfl) (by assumption) ?_
    rotate_left
    · (intro wq hSq; (try dsimp only at hSq); go_simp; try with_reducible rfl)
    try simp only [Act.put, List.setIfInBounds_toArray, List.set_cons_zero, List.set_cons_succ]
    refine wpAnyKC_takeL 15 20 (v := ?_) hro (by kernel_rfl) (by kernel_rfl) (by kernel_rfl) rfl (by kernel_rfl) (by kernel_rfl) (fun _ _ _ h => h) (Or.inl ⟨by rfl, ?_⟩) (fun _ => rfl) (by assumption) ?_
    rotate_left
    · (intro wq hSq; (try dsimp only at hSq); go_simp; try with_reducible rfl)
    try simp only [Act.put, List.setIfInBounds_toArray, List.set_cons_zero, List.set_cons_succ]
    refine wpAnyKC_takeL 16 20 (v := ?_) hro (by kernel_rfl) (by kernel_rfl) (by kernel_rfl) rfl (by kernel_rfl) (by kernel_rfl) (fun _ _ _ h => h) (Or.inl ⟨by rfl, ?_⟩) (fun _ => rfl) (by assumption) ?_
    rotate_left
    · (intro wq hSq; (try dsimp only at hSq); go_simp; try with_reducible rfl)
    try simp only [Act.put, List.setIfInBounds_toArray, List.set_cons_zero, List.set_cons_succ]
    refine wpAnyKC_takeL 17 20 (v := ?_) hro (by kernel_rfl) (by kernel_rfl) (by kernel_rfl) rfl (by kernel_rfl) (by kernel_rfl) (fun _ _ _ h => h) (Or.inl ⟨by rfl, ?_⟩) (fun _ => rfl) (by assumption) ?_
    rotate_left
    · (intro wq hSq; (try dsimp only at hSq); go_simp; try with_reducible rfl)
    try simp only [Act.put, List.setIfInBounds_toArray, List.set_cons_zero, List.set_cons_succ]
    refine wpAnyKC_takeL 18 20 (v := ?_) hro (by kernel_rfl) (by kernel_rfl) (by kernel_rfl) rfl (by kernel_rfl) (by kernel_rfl) (fun _ _ _ h => h) (Or.inl ⟨by rfl, ?_⟩) (fun _ => rfl) (by assumption) ?_
    rotate_left
    · (intro wq hSq; (try dsimp only at hSq); go_simp; try with_reducible rfl)
    try simp only [Act.put, List.setIfInBounds_toArray, List.set_cons_zero, List.set_cons_succ]
    refine wpAnyKC_takeL 19 20 (v := ?_) hro (by kernel_rfl) (by kernel_rfl) (by kernel_rfl) rfl (by kernel_rfl) (by kernel_rfl) (fun _ _ _ h => h) (Or.inl ⟨by rfl, ?_⟩) (fun _ => rfl) (by assumption) ?_
    rotate_left
    · (intro wq hSq; (try dsimp only at hSq); go_simp; try with_reducible rfl)
    try simp only [Act.put, List.setIfInBounds_toArray, List.set_cons_zero, List.set_cons_succ]
    refine wpAnyKC_stepL 20 (by kernel_rfl) rfl (fun K hK => ?_)
    go_simp
    refine hK.out _ _ (fun h => by cases h) ?_
    clear hK K hS
    try simp only [Act.put, List.setIfInBounds_toArray, List.set_cons_zero, List.set_cons_succ]
    refine wpAnyKC_end (by kernel_rfl) ?_
    have hA : Hid ((w.setCell ⟨b0, q, none⟩ (byteV c)).drew.heap[p]? = some (.cells #[.slice (some ⟨b0, 0, none⟩) d.size d.size, .slice (some ⟨b1, 0, none⟩) d.size d.size, .int .i64 d.fuse, .bool d.failed] 52)) := (Below.heap_setCell w ⟨b0, q, none⟩ _ p (Ne.symm HD.out.n0)).trans HD.out.at_
    have hH : Hid ((w.setCell ⟨b0, q, none⟩ (byteV c)).drew.heap[b0]? = some (.cells ((d.h0.set q c).map byteV).toArray th)) := half_set HTH.out q c
    have hO : Hid (HalfAt (w.setCell ⟨b0, q, none⟩ (byteV c)).drew b1 d.h1) := by
      obtain ⟨t1, ht1⟩ := HD.out.a1
      exact ⟨t1, (Below.heap_setCell w ⟨b0, q, none⟩ _ b1 (Ne.symm HD.out.n01)).trans ht1⟩
    have hK6 : Hid (Kp (three p b0 b1) w (w.setCell ⟨b0, q, none⟩ (byteV c)).drew) := (((Kp.refl _ w).setCell (Or.inr (Or.inl rfl)) _)).drew
    generalize (w.setCell ⟨b0, q, none⟩ (byteV c)).drew = w6 at hA hH hO hK6 ⊢
    clear c1 c2 k0 k1
    gi_wp2
    go_ret
    rw [HRE.out]
    exact ⟨rfl, ⟨hA.out, ⟨th, hH.out⟩, hO.out, HD.out.n01, HD.out.n0, HD.out.n1⟩, hK6.out⟩
  · have hqq : (N : Int) / (Y : Int) = 1 := by
      have e : N / Y = 1 := Nat.div_eq_of_lt_le (by omega) (by omega)
      have := (Int.natCast_ediv N Y).symm
      rw [e] at this
      exact this
    have hw0 : IntKind.i64.wrap 1 = 1 := by decide
    have hidx : N / 8 = m + q := by
      have e : N / Y = 1 := Nat.div_eq_of_lt_le (by omega) (by omega)
      rw [e] at hdm
      omega
    obtain ⟨x, hx⟩ : ∃ x, d.h1[q]? = some x := ⟨d.h1[q]'(by rw [HO.out.l1, ← HM.out]; exact hqm), List.getElem?_eq_getElem _⟩
    have hxb := flip_bits x s hs7
    rw [← ht2] at hxb
    obtain ⟨th, hth⟩ := HD.out.a1
    have c1 : w.cell? ⟨b1, q, none⟩ = some (byteV x) := HalfAt.cell ⟨th, hth⟩ q x hx
    have c2 : w.frozen? ⟨b1, q, none⟩ = false := by simp [World.frozen?, hth]
    obtain ⟨c, hc⟩ : ∃ c, c = flipB x s := ⟨_, rfl⟩
    rw [← hc] at hxb
    have HTH := Lib.hid hth
    have HRE : Hid (R = (0, ⟨d.size, d.h0, d.h1.set q c, d.fuse, d.failed⟩)) := by
      show _ = _
      rw [HR.out, hidx, if_neg (by omega), Nat.add_sub_cancel_left, List.getD_eq_getElem?_getD, hx, Option.getD_some, ← hj, ← hs, ← hc, HM.out]
    clear hq hj hs ht2 hx hc hth hr hrY hY hdm hlow hidx hbig hneg
    have hro : Fence.wide.round = none := rfl
    refine (callsIn_wide (n := 5)).1 ?_
    refine callsIn_of_wp Try.func22 rfl trivial ?_ rfl
    simp only [Try.ntmps22, List.size_toArray, List.length_cons, List.length_nil, Nat.reduceAdd, Nat.reduceSub, Array.replicate_succ, Array.replicate_zero, List.push_toArray, List.append_toArray, List.nil_append, List.cons_append]
    gi_wp2_with fail
    refine ⟨trivial, (callsIn_wide.2 HNO.out).mono ?_⟩
    rintro e w1 ⟨rfl, rfl⟩
    gi_wp2_with fail
    refine wpIn_region_K (fun w' => w'.cell? ⟨p, 1, none⟩ = some (.slice (some ⟨b1, 0, none⟩) m m) ∧ w'.cell? ⟨b1, q, none⟩ = some (byteV x) ∧ w'.frozen? ⟨b1, q, none⟩ = false) 20 (by kernel_rfl) ⟨k1, c1, c2⟩ (fun hS => ?_)
    refine wpAnyKC_takeL 0 20 (v := ?_) hro (by kernel_rfl) (by kernel_rfl) (by kernel_rfl) rfl (by kernel_rfl) (by kernel_rfl) (fun _ _ _ h => h) (Or.inl ⟨by rfl, ?_⟩) (fun _ => rfl) (by assumption) ?_
    rotate_left
    · (intro wq hSq; (try dsimp only at hSq); go_simp; try with_reducible rfl)
    try simp only [Act.put, List.setIfInBounds_toArray, List.set_cons_zero, List.set_cons_succ]
    refine wpAnyKC_takeL 1 20 (v := ?_) hro (by kernel_rfl) (by kernel_rfl) (by kernel_rfl) rfl (by kernel_rfl) (by kernel_rfl) (fun _ _ _ h => h) (Or.inl ⟨by rfl, ?_⟩) (fun _ => rfl) (by assumption) ?_
    rotate_left
    · (intro wq hSq; (try dsimp only at hSq); go_simp; try with_reducible rfl)
    try simp only [Act.put, List.setIfInBounds_toArray, List.set_cons_zero, List.set_cons_succ]
    refine wpAnyKC_takeL 2 20 (v := ?_) hro (by kernel_rfl) (by kernel_rfl) (by kernel_rfl) rfl (by kernel_rfl) (by kernel_rfl) (fun _ _ _ h => h) (Or.inl ⟨by rfl, ?_⟩) (fun _ => rfl) (by assumption) ?_
    rotate_left
    · (intro wq hSq; (try dsimp only at hSq); go_simp; try with_reducible rfl)
    try simp only [Act.put, List.setIfInBounds_toArray, List.set_cons_zero, List.set_cons_succ]
    refine wpAnyKC_takeL 3 20 (v := ?_) hro (by kernel_rfl) (by kernel_rfl) (by kernel_rfl) rfl (by kernel_rfl) (by kernel_rfl) (fun _ _ _ h => h) (Or.inl ⟨by rfl, ?_⟩) (fun _ => rfl) (by assumption) ?_
    rotate_left
    · (intro wq hSq; (try dsimp only at hSq); go_simp; try with_reducible rfl)
    try simp only [Act.put, List.setIfInBounds_toArray, List.set_cons_zero, List.set_cons_succ]
    refine wpAnyKC_takeL 4 20 (v := ?_) hro (by kernel_rfl) (by kernel_rfl) (by kernel_rfl) rfl (by kernel_rfl) (by kernel_rfl) (fun _ _ _ h => h) (Or.inl ⟨by rfl, ?_⟩) (fun _ => rfl) (by assumption) ?_
    rotate_left
    · (intro wq hSq; (try dsimp only at hSq); go_simp; try with_reducible rfl)
    try simp only [Act.put, List.setIfInBounds_toArray, List.set_cons_zero, List.set_cons_succ]
    refine wpAnyKC_takeL 5 20 (v := ?_) hro (by kernel_rfl) (by kernel_rfl) (by kernel_rfl) rfl (by kernel_rfl) (by kernel_rfl) (fun _ _ _ h => h) (Or.inl ⟨by rfl, ?_⟩) (fun _ => rfl) (by assumption) ?_
    rotate_left
    · (intro wq hSq; (try dsimp only at hSq); go_simp; try with_reducible rfl)
    try simp only [Act.put, List.setIfInBounds_toArray, List.set_cons_zero, List.set_cons_succ]
    refine wpAnyKC_takeL 6 20 (v := ?_) hro (by kernel_rfl) (by kernel_rfl) (by kernel_rfl) rfl (by kernel_rfl) (by kernel_rfl) (fun _ _ _ h => h) (Or.inl ⟨by rfl, ?_⟩) (fun _ => rfl) (by assumption) ?_
    rotate_left
    · (intro wq hSq; (try dsimp only at hSq); go_simp; try with_reducible rfl)
    try simp only [Act.put, List.setIfInBounds_toArray, List.set_cons_zero, List.set_cons_succ]
    refine wpAnyKC_takeL 7 20 (v := ?_) hro (by kernel_rfl) (by kernel_rfl) (by kernel_rfl) rfl (by kernel_rfl) (by kernel_rfl) (fun _ _ _ h => h) (Or.inl ⟨by rfl, ?_⟩) (fun _ => rfl) (by assumption) ?_
    rotate_left
    · (intro wq hSq; (try dsimp only at hSq); go_simp; try with_reducible rfl)
    try simp only [Act.put, List.setIfInBounds_toArray, List.set_cons_zero, List.set_cons_succ]
    refine wpAnyKC_takeL 8 20 (v := ?_) hro (by kernel_rfl) (by kernel_rfl) (by kernel_rfl) rfl (by kernel_rfl) (by kernel_rfl) (fun _ _ _ h => h) (Or.inl ⟨by rfl, ?_⟩) (fun _ => rfl) (by assumption) ?_
    rotate_left
    · (intro wq hSq; (try dsimp only at hSq); go_simp; try with_reducible rfl)
    try simp only [Act.put, List.setIfInBounds_toArray, List.set_cons_zero, List.set_cons_succ]
    refine wpAnyKC_takeL 9 20 (v := ?_) hro (by kernel_rfl) (by kernel_rfl) (by kernel_rfl) rfl (by kernel_rfl) (by kernel_rfl) (fun _ _ _ h => h) (Or.inl ⟨by rfl, ?_⟩) (fun _ => rfl) (by assumption) ?_
    rotate_left
    · (intro wq hSq; (try dsimp only at hSq); go_simp; try with_reducible rfl)
    try simp only [Act.put, List.setIfInBounds_toArray, List.set_cons_zero, List.set_cons_succ]
    refine wpAnyKC_takeL 10 20 (v := ?_) hro (by kernel_rfl) (by kernel_rfl) (by kernel_rfl) rfl (by kernel_rfl) (by kernel_rfl) (fun _ _ _ h => h) (Or.inl ⟨by rfl, ?_⟩) (fun _ => rfl) (by assumption) ?_
    rotate_left
    · (intro wq hSq; (try dsimp only at hSq); go_simp; try with_reducible rfl)
    try simp only [Act.put, List.setIfInBounds_toArray, List.set_cons_zero, List.set_cons_succ]
    refine wpAnyKC_takeL 11 20 (v := ?_) hro (by kernel_rfl) (by kernel_rfl) (by kernel_rfl) rfl (by kernel_rfl) (by kernel_rfl) (fun _ _ _ h => h) (Or.inl ⟨by rfl, ?_⟩) (fun _ => rfl) (by assumption) ?_
    rotate_left
    · (intro wq hSq; (try dsimp only at hSq); go_simp; try with_reducible rfl)
    try simp only [Act.put, List.setIfInBounds_toArray, List.set_cons_zero, List.set_cons_succ]
    refine wpAnyKC_takeL 12 20 (v := ?_) hro (by kernel_rfl) (by kernel_rfl) (by kernel_rfl) rfl (by kernel_rfl) (by kernel_rfl) (fun _ _ _ h => h) (Or.inl ⟨by rfl, ?_⟩) (fun _ => rfl) (by assumption) ?_
    rotate_left
    · (intro wq hSq; (try dsimp only at hSq); go_simp; try with_reducible rfl)
    try simp only [Act.put, List.setIfInBounds_toArray, List.set_cons_zero, List.set_cons_succ]
    refine wpAnyKC_takeL 13 20 (v := ?_) hro (by kernel_rfl) (by kernel_rfl) (by kernel_rfl) rfl (by kernel_rfl) (by kernel_rfl) (fun _ _ _ h => h) (Or.inl ⟨by rfl, ?_⟩) (fun _ => rfl) (by assumption) ?_
    rotate_left
    · (intro wq hSq; (try dsimp only at hSq); go_simp; try with_reducible rfl)
    try simp only [Act.put, List.setIfInBounds_toArray, List.set_cons_zero, List.set_cons_succ]
    refine wpAnyKC_takeL 14 20 (v := ?_) hro (by kernel_rfl) (by kernel_rfl) (by kernel_rfl) rfl (by kernel_rfl) (by kernel_rfl) (fun _ _ _ h => h) (Or.inl ⟨by rfl, ?_⟩) (fun _ => rfl) (by assumption) ?_
    rotate_left
    · (intro wq hSq; (try dsimp only at hSq); go_simp; try with_reducible rfl)
    try simp only [Act.put, List.setIfInBounds_toArray, List.set_cons_zero, List.set_cons_succ]
    refine wpAnyKC_takeL 15 20 (v := ?_) hro (by kernel_rfl) (by kernel_rfl) (by kernel_rfl) rfl (by kernel_rfl) (by kernel_rfl) (fun _ _ _ h => h) (Or.inl ⟨by rfl, ?_⟩) (fun _ => rfl) (by assumption) ?_
    rotate_left
    · (intro wq hSq; (try dsimp only at hSq); go_simp; try with_reducible rfl)
    try simp only [Act.put, List.setIfInBounds_toArray, List.set_cons_zero, List.set_cons_succ]
    refine wpAnyKC_takeL 16 20 (v := ?_) hro (by kernel_rfl) (by kernel_rfl) (by kernel_rfl) rfl (by kernel_rfl) (by kernel_rfl) (fun _ _ _ h => h) (Or.inl ⟨by rfl, ?_⟩) (fun _ => rfl) (by assumption) ?_
    rotate_left
    · (intro wq hSq; (try dsimp only at hSq); go_simp; try with_reducible rfl)
    try simp only [Act.put, List.setIfInBounds_toArray, List.set_cons_zero, List.set_cons_succ]
    refine wpAnyKC_takeL 17 20 (v := ?_) hro (by kernel_rfl) (by kernel_rfl) (by kernel_rfl) rfl (by kernel_rfl) (by kernel_rfl) (fun _ _ _ h => h) (Or.inl ⟨by rfl, ?_⟩) (fun _ => rfl) (by assumption) ?_
    rotate_left
    · (intro wq hSq; (try dsimp only at hSq); go_simp; try with_reducible rfl)
    try simp only [Act.put, List.setIfInBounds_toArray, List.set_cons_zero, List.set_cons_succ]
    refine wpAnyKC_takeL 18 20 (v := ?_) hro (by kernel_rfl) (by kernel_rfl) (by kernel_rfl) rfl (by kernel_rfl) (by kernel_rfl) (fun _ _ _ h => h) (Or.inl ⟨by rfl, ?_⟩) (fun _ => rfl) (by assumption) ?_
    rotate_left
    · (intro wq hSq; (try dsimp only at hSq); go_simp; try with_reducible rfl)
    try simp only [Act.put, List.setIfInBounds_toArray, List.set_cons_zero, List.set_cons_succ]
    refine wpAnyKC_takeL 19 20 (v := ?_) hro (by kernel_rfl) (by kernel_rfl) (by kernel_rfl) rfl (by kernel_rfl) (by kernel_rfl) (fun _ _ _ h => h) (Or.inl ⟨by rfl, ?_⟩) (fun _ => rfl) (by assumption) ?_
    rotate_left
    · (intro wq hSq; (try dsimp only at hSq); go_simp; try with_reducible rfl)
    try simp only [Act.put, List.setIfInBounds_toArray, List.set_cons_zero, List.set_cons_succ]
    refine wpAnyKC_stepL 20 (by kernel_rfl) rfl (fun K hK => ?_)
    go_simp
    refine hK.out _ _ (fun h => by cases h) ?_
    clear hK K hS
    try simp only [Act.put, List.setIfInBounds_toArray, List.set_cons_zero, List.set_cons_succ]
    refine wpAnyKC_end (by kernel_rfl) ?_
    have hA : Hid ((w.setCell ⟨b1, q, none⟩ (byteV c)).drew.heap[p]? = some (.cells #[.slice (some ⟨b0, 0, none⟩) d.size d.size, .slice (some ⟨b1, 0, none⟩) d.size d.size, .int .i64 d.fuse, .bool d.failed] 52)) := (Below.heap_setCell w ⟨b1, q, none⟩ _ p (Ne.symm HD.out.n1)).trans HD.out.at_
    have hH : Hid ((w.setCell ⟨b1, q, none⟩ (byteV c)).drew.heap[b1]? = some (.cells ((d.h1.set q c).map byteV).toArray th)) := half_set HTH.out q c
    have hO : Hid (HalfAt (w.setCell ⟨b1, q, none⟩ (byteV c)).drew b0 d.h0) := by
      obtain ⟨t1, ht1⟩ := HD.out.a0
      exact ⟨t1, (Below.heap_setCell w ⟨b1, q, none⟩ _ b0 (HD.out.n01)).trans ht1⟩
    have hK6 : Hid (Kp (three p b0 b1) w (w.setCell ⟨b1, q, none⟩ (byteV c)).drew) := (((Kp.refl _ w).setCell (Or.inr (Or.inr rfl)) _)).drew
    generalize (w.setCell ⟨b1, q, none⟩ (byteV c)).drew = w6 at hA hH hO hK6 ⊢
    clear c1 c2 k0 k1
    gi_wp2
    go_ret
    rw [HRE.out]
    exact ⟨rfl, ⟨hA.out, hO.out, ⟨th, hH.out⟩, HD.out.n01, HD.out.n0, HD.out.n1⟩, hK6.out⟩
end Go.Proofs.Ytjfmcobikadjhaa
