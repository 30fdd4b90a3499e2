/- Walks: the reference's disk: a record is added. -/
import Derived.Test.YtjfmcobikadjhaaRA8
namespace Go.Proofs.Ytjfmcobikadjhaa
set_option linter.all false
open Go.RowKit Go.Shelf
theorem putS_low (rest : List UInt8) : ∀ (s : List UInt8) (st : Wr) (k : Nat), k + s.length ≤ st.h.length → putS ⟨st.h ++ rest, st.fuse, st.failed⟩ k s = ⟨(putS st k s).h ++ rest, (putS st k s).fuse, (putS st k s).failed⟩ := by
  intro s
  induction s with
  | nil => intro st k _; rfl
  | cons c s ih =>
    intro st k hk
    rw [List.length_cons] at hk
    by_cases hb : st.failed = true ∨ st.fuse = 0
    · rw [putS_stop (by simp) hb, putS_stop (st := ⟨st.h ++ rest, st.fuse, st.failed⟩) (by simp) hb]
    · rw [putS_step hb, putS_step (st := ⟨st.h ++ rest, st.fuse, st.failed⟩) hb]
      have := ih ⟨st.h.set k c, if 0 < st.fuse then st.fuse - 1 else st.fuse, false⟩ (k + 1) (by simp; omega)
      rw [← this]
      simp only
      rw [List.set_append_left _ _ (by omega)]
theorem putS_high (pre : List UInt8) : ∀ (s : List UInt8) (st : Wr) (k : Nat), putS ⟨pre ++ st.h, st.fuse, st.failed⟩ (pre.length + k) s = ⟨pre ++ (putS st k s).h, (putS st k s).fuse, (putS st k s).failed⟩ := by
  intro s
  induction s with
  | nil => intro st k; rfl
  | cons c s ih =>
    intro st k
    by_cases hb : st.failed = true ∨ st.fuse = 0
    · rw [putS_stop (by simp) hb, putS_stop (st := ⟨pre ++ st.h, st.fuse, st.failed⟩) (by simp) hb]
    · rw [putS_step hb, putS_step (st := ⟨pre ++ st.h, st.fuse, st.failed⟩) hb]
      have := ih ⟨st.h.set k c, if 0 < st.fuse then st.fuse - 1 else st.fuse, false⟩ (k + 1)
      rw [← this]
      simp only
      rw [List.set_append_right _ _ (by omega), Nat.add_sub_cancel_left, Nat.add_assoc]
def lift (d : Dk) (half : Nat) (st : Wr) : Wr := if half = 1 then ⟨d.h0 ++ st.h, st.fuse, st.failed⟩ else ⟨st.h ++ d.h1, st.fuse, st.failed⟩
theorem lift_put {d : Dk} (ho : d.ok) (half : Nat) (hh : half ≤ 1) (st : Wr) (k : Nat) (s : List UInt8) (hl : st.h.length = d.size) (hk : k + s.length ≤ d.size) : putS (lift d half st) (half * d.size + k) s = lift d half (putS st k s) := by
  rcases (show half = 0 ∨ half = 1 by omega) with rfl | rfl
  · have := putS_low d.h1 s st k (by omega)
    unfold lift
    rw [if_neg (by omega), if_neg (by omega), Nat.zero_mul, Nat.zero_add]
    exact this
  · have := putS_high d.h0 s st k
    unfold lift
    rw [if_pos rfl, if_pos rfl, Nat.one_mul]
    rw [ho.l0] at this
    exact this
/-- The reference's disk while bytes are written to a half. -/
structure RPen (w0 : World) (p b half : Nat) (d : Dk) (st : Wr) (w : World) : Prop where
  wr : RWrAt w p b d.size (2 * d.size) (lift d half st)
  len : st.h.length = d.size
  kp : Kp (two p b) w0 w
theorem RPen.below {w0 w w' : World} {p b half : Nat} {d : Dk} {st : Wr} (h : RPen w0 p b half d st w) (hb : Below w.heap.size w w') : RPen w0 p b half d st w' :=
  ⟨h.wr.below hb, h.len, h.kp.trans (Kp.of_below hb)⟩
theorem RPen.call {w0 w : World} {p b half : Nat} {d : Dk} {st : Wr} (h : RPen w0 p b half d st w) (ho : d.ok) (hh : half ≤ 1) (k : Nat) (s : List UInt8) (hk : k + s.length ≤ d.size) :
    Calls Try.prog 51 #[.pointer (some ⟨p, 0, none⟩), .int .i64 ((half * d.size + k : Nat) : Int), .string (bytesOf s)] w fun e w' => (∃ v, e = .returned v) ∧ RPen w0 p b half d (putS st k s) w' := by
  have hs : half * d.size ≤ d.size := by rcases (show half = 0 ∨ half = 1 by omega) with rfl | rfl <;> omega
  refine (rwrite_any p b d.size (2 * d.size) (half * d.size + k) (lift d half st) s (by omega) (by have := ho.hi; omega) w h.wr).mono ?_
  rintro e w' ⟨he, hw, hkp⟩
  rw [lift_put ho half hh st k s h.len hk] at hw
  exact ⟨he, hw, by rw [putS_length]; exact h.len, h.kp.trans hkp⟩
theorem RPen.start {w : World} {p b half : Nat} {d : Dk} (h : RDiskAt w p b d) (ho : d.ok) : RPen w p b half d ⟨d.hf half, d.fuse, d.failed⟩ w := by
  have e : lift d half ⟨d.hf half, d.fuse, d.failed⟩ = ⟨d.h0 ++ d.h1, d.fuse, d.failed⟩ := by unfold lift Dk.hf; split <;> rfl
  refine ⟨?_, hf_length ho half, Kp.refl _ _⟩
  rw [e]
  exact ⟨h.at_, h.half, both_length ho, h.ne, ho.f1, ho.f2⟩
theorem RPen.stop {w0 w : World} {p b half : Nat} {d : Dk} {st : Wr} (h : RPen w0 p b half d st w) (hh : half ≤ 1) : RDiskAt w p b (d.put (half : Int) st) := by
  have h1 := h.wr
  unfold lift at h1
  unfold Dk.put
  rcases (show half = 0 ∨ half = 1 by omega) with rfl | rfl
  · rw [if_neg (by omega)] at h1 ⊢
    exact ⟨h1.at_, h1.half, h1.ne⟩
  · rw [if_pos rfl] at h1
    rw [if_pos (show ((1 : Nat) : Int) = 1 from rfl)]
    exact ⟨h1.at_, h1.half, h1.ne⟩
theorem RPen.size {w0 w : World} {p b half : Nat} {d : Dk} {st : Wr} (h : RPen w0 p b half d st w) : w.cell? ⟨p, 0, none⟩ = some (.int .i64 (d.size : Int)) := (four_cells h.wr.at_).1
set_option maxRecDepth 100000 in
set_option maxHeartbeats 40000000 in
theorem rAppend_any (p b : Nat) (d : Dk) (r : List UInt8) (hrm : r.length ≤ 100000000) (w : World) (hd : RDiskAt w p b d) (ho : d.ok) :
    Calls Try.prog 35 #[.pointer (some ⟨p, 0, none⟩), .string (bytesOf r)] w fun e w' => e = .returned (.int .i64 (d.appended r).1) ∧ RDiskAt w' p b (d.appended r).2 ∧ Kp (two p b) w w' := by
  have HACT := Lib.hid (ractive_any p b d w hd ho)
  have HREC := Lib.hid (fun (half : Nat) (hh : half ≤ 1) W (h : RDiskAt W p b d) => rrecords_any p b half d.gen hh d.gen_lt d W h ho)
  obtain ⟨k0, -, -, k3, -, -⟩ := four_cells hd.at_
  have HD := Lib.hid hd
  have HO := Lib.hid ho
  obtain ⟨E, hE⟩ : ∃ E, E = (appS d.wr d.size d.gen d.used r).err := ⟨_, rfl⟩
  have HRES : Hid (∀ W, RDiskAt W p b (d.put d.half (appS d.wr d.size d.gen d.used r)) → Calls Try.prog 53 #[.pointer (some ⟨p, 0, none⟩)] W fun e w' => e = .returned (.int .i64 E) ∧ W = w') := fun W h => by
    refine (rresult_any p b _ W h).mono ?_
    rintro e w' ⟨rfl, rfl⟩
    refine ⟨?_, rfl⟩
    rw [hE, show (d.put d.half (appS d.wr d.size d.gen d.used r)).failed = (appS d.wr d.size d.gen d.used r).failed by unfold Dk.put; split <;> rfl]
    rfl
  obtain ⟨R, hR⟩ : ∃ R, R = d.appended r := ⟨_, rfl⟩
  rw [← hR]
  unfold Dk.appended at hR
  rw [← hE] at hR
  clear hE
  obtain ⟨n, hn⟩ : ∃ n, n = r.length := ⟨_, rfl⟩
  have hs : (bytesOf r).size = n := by rw [hn]; rfl
  have hs1 : ((bytesOf r).size : Int) = (n : Int) := by rw [hs]
  rw [← hn] at hR hrm
  have HN := Lib.hid hn
  have HRR := Lib.hid hR
  have h64 := ho.lo
  have hmx := ho.hi
  clear hd ho hR hn
  cases hfd : d.failed
  case true =>
    rw [hfd] at k3
    have hRe : R = (9, d) := by rw [HRR.out, if_pos hfd]
    go_enter Try.func35, Try.ntmps35
    go_wp2
    go_ret
    rw [hRe]
    exact ⟨rfl, HD.out, Kp.refl _ _⟩
  case false =>
  rw [hfd] at k3
  have hnf : ¬ d.failed = true := by rw [hfd]; simp
  by_cases hlong : 65535 < n
  · have hRe : R = (3, d) := by rw [HRR.out, if_neg hnf, if_pos hlong]
    have hl1 : (65535 : Int) < (n : Int) := by omega
    have HRE := Lib.hid hRe
    clear hRe hfd
    go_enter Try.func35, Try.ntmps35
    go_wp2
    go_ret
    rw [HRE.out]
    exact ⟨rfl, HD.out, Kp.refl _ _⟩
  have hl1 : ¬ (65535 : Int) < (n : Int) := by omega
  rw [if_neg hnf, if_neg hlong] at HRR
  clear hfd hnf
  obtain ⟨x, hx⟩ : ∃ x, x = d.half := ⟨_, rfl⟩
  obtain ⟨y, hy⟩ : ∃ y, y = d.gen := ⟨_, rfl⟩
  obtain ⟨u, hu⟩ : ∃ u, u = d.used := ⟨_, rfl⟩
  rw [← hx, ← hy] at HACT
  rw [← hy] at HREC
  rw [← hx, ← hy, ← hu] at HRR HRES
  have hyl : y < 9223372036854775808 := by rw [hy]; exact d.gen_lt
  have HX := Lib.hid hx
  have HY := Lib.hid hy
  have HU := Lib.hid hu
  have hc := half_nat (d := d)
  rw [← hx] at hc
  clear hx hy hu
  go_enter Try.func35, Try.ntmps35
  go_wp2_with fail
  refine HACT.out.mono ?_
  rintro e w2 ⟨rfl, hb2⟩
  have HD2 := Lib.hid (HD.out.kept hb2)
  clear k3 k0
  rcases hc with rfl | ⟨half, rfl, hh⟩
  · rw [if_pos (by omega)] at HRR
    go_wp2
    go_ret
    rw [HRR.out]
    exact ⟨rfl, HD2.out, Kp.of_below hb2⟩
  have hneg : ¬ (half : Int) < 0 := by omega
  rw [if_neg hneg] at HRR
  have HUE : Hid (u = endR (d.hf half) y) := by show _ = _; rw [HU.out]; unfold Dk.used; rw [← HX.out, if_neg hneg, act_hf half HX.out.symm hh, HY.out]
  have HC := Lib.hid (HREC.out half hh w2 HD2.out)
  rw [← HUE.out] at HC
  have hub : 17 ≤ u ∧ u ≤ d.size := by
    have := endR_bounds (h := d.hf half) y (by rw [hf_length HO.out half]; exact h64)
    rw [← HUE.out, hf_length HO.out half] at this
    exact this
  obtain ⟨hu1, hu2⟩ := hub
  go_wp2_with fail
  refine HC.out.mono ?_
  rintro e w3 ⟨⟨v, rfl, -, -⟩, hb3d⟩
  have hb3 := hb2.trans (hb3d.mono hb2.size)
  have HD3 := Lib.hid (HD.out.kept hb3)
  obtain ⟨k0, -, -, -, -, -⟩ := four_cells HD3.out.at_
  obtain ⟨m, hm⟩ : ∃ m, m = d.size := ⟨_, rfl⟩
  rw [← hm] at h64 hmx hu2 k0 HRR HRES
  by_cases hfull : m < u + 13 + n
  · rw [if_pos hfull] at HRR
    have hf1 : (m : Int) < (u : Int) + 13 + (n : Int) := by omega
    clear hm
    go_wp2
    go_ret
    rw [HRR.out]
    exact ⟨rfl, HD3.out, Kp.of_below hb3⟩
  rw [if_neg hfull] at HRR
  have hf1 : ¬ (m : Int) < (u : Int) + 13 + (n : Int) := by omega
  have hf2 : u + 13 + n ≤ m := by omega
  obtain ⟨A, hA⟩ : ∃ A, A = half * m := ⟨_, rfl⟩
  have hmul : (half : Int) * (m : Int) = (A : Int) := by rw [hA]; push_cast; rfl
  have hAm : A ≤ m := by rw [hA]; rcases (show half = 0 ∨ half = 1 by omega) with rfl | rfl <;> omega
  have HP3 : Hid (RPen w3 p b half d ⟨d.hf half, d.fuse, d.failed⟩ w3) := RPen.start HD3.out HO.out
  have HCALL : Hid (∀ (st : Wr) (W : World), RPen w3 p b half d st W → ∀ (k : Nat) (s : List UInt8) (z : Int), k + s.length ≤ m → z = (A : Int) + (k : Int) → Calls Try.prog 51 #[.pointer (some ⟨p, 0, none⟩), .int .i64 z, .string (bytesOf s)] W fun e w' => (∃ v, e = .returned v) ∧ RPen w3 p b half d (putS st k s) w') := fun st W h k s z hk hz => by
    have := h.call HO.out hh k s (by omega)
    rw [← hm, ← hA, Int.natCast_add, ← hz] at this; exact this
  have HSZ : Hid (∀ (st : Wr) (W : World), RPen w3 p b half d st W → W.cell? ⟨p, 0, none⟩ = some (.int .i64 (m : Int))) := fun st W h => by rw [hm]; exact h.size
  have HSM := Lib.hid hm
  clear hm hA hfull
  go_wp2_with fail
  refine (HCALL.out _ _ HP3.out u [0] _ (by simp; omega) (by omega)).mono ?_
  rintro e w5 ⟨⟨v5, rfl⟩, hp5⟩
  have HP5 := Lib.hid hp5
  clear hp5 HP3 k0
  have k0 := HSZ.out _ _ HP5.out
  obtain ⟨Au, hAu⟩ : ∃ a, a = A + u := ⟨_, rfl⟩
  obtain ⟨Au1, hAu1⟩ : ∃ a, a = A + (u + 1) := ⟨_, rfl⟩
  have hwm : IntKind.i64.wrap (A : Int) = (A : Int) := IntWalk.i64_in _ ⟨by omega, by omega⟩
  have hwu : IntKind.i64.wrap ((A : Int) + (u : Int)) = (Au : Int) := by rw [IntWalk.i64_in _ ⟨by omega, by omega⟩]; omega
  have hwu1 : IntKind.i64.wrap ((Au : Int) + 1) = (Au1 : Int) := by rw [IntWalk.i64_in _ ⟨by omega, by omega⟩]; omega
  have HAU := Lib.hid hAu1
  have HAU0 := Lib.hid hAu
  clear hAu hAu1
  by_cases hnx : u + 13 + n < m
  · have hf3 : (u : Int) + 13 + (n : Int) < (m : Int) := by omega
    go_wp2_with fail
    refine (HCALL.out _ _ HP5.out (u + 13 + n) [0] _ (by simp; omega) (by omega)).mono ?_
    rintro e w6 ⟨⟨v6, rfl⟩, hp6⟩
    have HP6 := Lib.hid hp6
    clear hp6 HP5 k0
    have k0 := HSZ.out _ _ HP6.out
    go_wp2_with fail
    refine wp_region_heldL (fun w' => w'.cell? ⟨p, 0, none⟩ = some (.int .i64 (m : Int))) (by kernel_rfl) k0 (fun hS => ?_)
    refine wpAnyH_takeL 0 (v := ?_) (by kernel_rfl) rfl (by kernel_rfl) (by kernel_rfl) (fun _ _ _ h => h) (Or.inl ⟨by rfl, ?_⟩) (by assumption) ?_
    rotate_left
    · (intro wq hSq; (try dsimp only at hSq); go_simp; try with_reducible rfl)
    try simp only [Act.put, List.setIfInBounds_toArray, List.set_cons_zero, List.set_cons_succ]
    refine wpAnyH_takeL 1 (v := ?_) (by kernel_rfl) rfl (by kernel_rfl) (by kernel_rfl) (fun _ _ _ h => h) (Or.inl ⟨by rfl, ?_⟩) (by assumption) ?_
    rotate_left
    · (intro wq hSq; (try dsimp only at hSq); go_simp; try with_reducible rfl)
    try simp only [Act.put, List.setIfInBounds_toArray, List.set_cons_zero, List.set_cons_succ]
    refine wpAnyH_takeL 2 (v := ?_) (by kernel_rfl) rfl (by kernel_rfl) (by kernel_rfl) (fun _ _ _ h => h) (Or.inl ⟨by rfl, ?_⟩) (by assumption) ?_
    rotate_left
    · (intro wq hSq; (try dsimp only at hSq); go_simp; try with_reducible rfl)
    try simp only [Act.put, List.setIfInBounds_toArray, List.set_cons_zero, List.set_cons_succ]
    refine wpAnyH_takeL 3 (v := ?_) (by kernel_rfl) rfl (by kernel_rfl) (by kernel_rfl) (fun _ _ _ h => h) (Or.inl ⟨by rfl, ?_⟩) (by assumption) ?_
    rotate_left
    · (intro wq hSq; (try dsimp only at hSq); go_simp; try with_reducible rfl)
    try simp only [Act.put, List.setIfInBounds_toArray, List.set_cons_zero, List.set_cons_succ]
    refine wpAnyH_takeL 4 (v := ?_) (by kernel_rfl) rfl (by kernel_rfl) (by kernel_rfl) (fun _ _ _ h => h) (Or.inl ⟨by rfl, ?_⟩) (by assumption) ?_
    rotate_left
    · (intro wq hSq; (try dsimp only at hSq); go_simp; try with_reducible rfl)
    try simp only [Act.put, List.setIfInBounds_toArray, List.set_cons_zero, List.set_cons_succ]
    refine wpAnyH_takeL 5 (v := ?_) (by kernel_rfl) rfl (by kernel_rfl) (by kernel_rfl) (fun _ _ _ h => h) (Or.inl ⟨by rfl, ?_⟩) (by assumption) ?_
    rotate_left
    · (intro wq hSq; (try dsimp only at hSq); go_simp; try with_reducible rfl)
    try simp only [Act.put, List.setIfInBounds_toArray, List.set_cons_zero, List.set_cons_succ]
    refine wpAnyH_takeL 6 (v := ?_) (by kernel_rfl) rfl (by kernel_rfl) (by kernel_rfl) (fun _ _ _ h => h) (Or.inl ⟨by rfl, ?_⟩) (by assumption) ?_
    rotate_left
    · (intro wq hSq; (try dsimp only at hSq); go_simp; try with_reducible rfl)
    try simp only [Act.put, List.setIfInBounds_toArray, List.set_cons_zero, List.set_cons_succ]
    refine wpAnyH_takeL 7 (v := ?_) (by kernel_rfl) rfl (by kernel_rfl) (by kernel_rfl) (fun _ _ _ h => h) (Or.inl ⟨by rfl, ?_⟩) (by assumption) ?_
    rotate_left
    · (intro wq hSq; (try dsimp only at hSq); go_simp; try with_reducible rfl)
    try simp only [Act.put, List.setIfInBounds_toArray, List.set_cons_zero, List.set_cons_succ]
    refine wpAnyH_takeL 8 (v := ?_) (by kernel_rfl) rfl (by kernel_rfl) (by kernel_rfl) (fun _ _ _ h => h) (Or.inl ⟨by rfl, ?_⟩) (by assumption) ?_
    rotate_left
    · (intro wq hSq; (try dsimp only at hSq); go_simp; try with_reducible rfl)
    try simp only [Act.put, List.setIfInBounds_toArray, List.set_cons_zero, List.set_cons_succ]
    refine wpAnyH_takeL 9 (v := ?_) (by kernel_rfl) rfl (by kernel_rfl) (by kernel_rfl) (fun _ _ _ h => h) (Or.inl ⟨by rfl, ?_⟩) (by assumption) ?_
    rotate_left
    · (intro wq hSq; (try dsimp only at hSq); go_simp; try with_reducible rfl)
    try simp only [Act.put, List.setIfInBounds_toArray, List.set_cons_zero, List.set_cons_succ]
    refine wpAnyH_takeL 10 (v := ?_) (by kernel_rfl) rfl (by kernel_rfl) (by kernel_rfl) (fun _ _ _ h => h) (Or.inl ⟨by rfl, ?_⟩) (by assumption) ?_
    rotate_left
    · (intro wq hSq; (try dsimp only at hSq); go_simp; try with_reducible rfl)
    try simp only [Act.put, List.setIfInBounds_toArray, List.set_cons_zero, List.set_cons_succ]
    refine wpAnyH_takeL 11 (v := ?_) (by kernel_rfl) rfl (by kernel_rfl) (by kernel_rfl) (fun _ _ _ h => h) (Or.inl ⟨by rfl, ?_⟩) (by assumption) ?_
    rotate_left
    · (intro wq hSq; (try dsimp only at hSq); go_simp; try with_reducible rfl)
    try simp only [Act.put, List.setIfInBounds_toArray, List.set_cons_zero, List.set_cons_succ]
    refine wpAnyH_takeL 12 (v := ?_) (by kernel_rfl) rfl (by kernel_rfl) (by kernel_rfl) (fun _ _ _ h => h) (Or.inl ⟨by rfl, ?_⟩) (by assumption) ?_
    rotate_left
    · (intro wq hSq; (try dsimp only at hSq); go_simp; try with_reducible rfl)
    try simp only [Act.put, List.setIfInBounds_toArray, List.set_cons_zero, List.set_cons_succ]
    refine wpAnyH_stepL 13 (by kernel_rfl) rfl (fun K hK => ?_)
    go_simp
    go_at_call 52
    refine (rbody_any y u r hyl (by omega) (by rw [← HN.out]; omega) _).mono ?_
    rintro e w7 ⟨rfl, hb7d⟩
    have hb7 : Below w6.heap.size w6 w7 := ((Below.refl w6.heap.size w6).drew).trans hb7d
    have HP7 := Lib.hid (HP6.out.below hb7)
    refine hK.out _ _ (HSZ.out _ _ HP7.out) (fun hS7 => ?_)
    clear hK K hS hb7 hb7d HP6
    try simp only [Act.put, List.setIfInBounds_toArray, List.set_cons_zero, List.set_cons_succ]
    refine wpAnyH_stepL 14 (by kernel_rfl) rfl (fun K hK => ?_)
    go_simp
    go_at_call 51
    have HC8 := Lib.hid (HCALL.out _ _ HP7.out (u + 1) (bodyL y u r) (Au1 : Int) (by rw [bodyL_length, ← HN.out]; omega) (by have := HAU.out; omega))
    refine HC8.out.mono ?_
    rintro e w8 ⟨⟨v8, rfl⟩, hp8⟩
    have HP8 := Lib.hid hp8
    refine hK.out _ _ (HSZ.out _ _ hp8) (fun hS8 => ?_)
    clear hK K hS7 hp8 HP7 HC8
    try simp only [Act.put, List.setIfInBounds_toArray, List.set_cons_zero, List.set_cons_succ]
    refine wpAnyH_end (by kernel_rfl) ?_
    clear k0
    have k0 := HSZ.out _ _ HP8.out
    go_wp2_with fail
    refine (HCALL.out _ _ HP8.out u [1] _ (by simp; omega) (by have := HAU0.out; omega)).mono ?_
    rintro e w9 ⟨⟨v9, rfl⟩, hp9⟩
    have hst : appS d.wr m y u r = putS (putS (putS (putS ⟨d.hf half, d.fuse, d.failed⟩ u [0]) (u + 13 + n) [0]) (u + 1) (bodyL y u r)) u [1] := by
      have e1 : d.wr = ⟨d.hf half, d.fuse, d.failed⟩ := by unfold Dk.wr; rw [act_hf half HX.out.symm hh]
      unfold appS
      rw [← HN.out, if_pos hnx, e1]
    have hd9 := hp9.stop hh
    rw [← hst] at hd9
    have HD9 := Lib.hid hd9
    have HK9 := Lib.hid ((Kp.of_below (P := two p b) hb3).trans hp9.kp)
    clear hp9 hd9 hst k0
    go_wp2_with fail
    refine (HRES.out _ HD9.out).mono ?_
    rintro e w10 ⟨rfl, rfl⟩
    go_wp2
    go_ret
    rw [HRR.out]
    exact ⟨rfl, HD9.out, HK9.out⟩
  · have hf3 : ¬ (u : Int) + 13 + (n : Int) < (m : Int) := by omega
    have HP6 := HP5
    clear HP5
    obtain ⟨w6, hw6⟩ : ∃ x, x = w5 := ⟨_, rfl⟩
    rw [← hw6] at HP6 k0 ⊢
    clear hw6
    go_wp2_with fail
    refine wp_region_heldL (fun w' => w'.cell? ⟨p, 0, none⟩ = some (.int .i64 (m : Int))) (by kernel_rfl) k0 (fun hS => ?_)
    refine wpAnyH_takeL 0 (v := ?_) (by kernel_rfl) rfl (by kernel_rfl) (by kernel_rfl) (fun _ _ _ h => h) (Or.inl ⟨by rfl, ?_⟩) (by assumption) ?_
    rotate_left
    · (intro wq hSq; (try dsimp only at hSq); go_simp; try with_reducible rfl)
    try simp only [Act.put, List.setIfInBounds_toArray, List.set_cons_zero, List.set_cons_succ]
    refine wpAnyH_takeL 1 (v := ?_) (by kernel_rfl) rfl (by kernel_rfl) (by kernel_rfl) (fun _ _ _ h => h) (Or.inl ⟨by rfl, ?_⟩) (by assumption) ?_
    rotate_left
    · (intro wq hSq; (try dsimp only at hSq); go_simp; try with_reducible rfl)
    try simp only [Act.put, List.setIfInBounds_toArray, List.set_cons_zero, List.set_cons_succ]
    refine wpAnyH_takeL 2 (v := ?_) (by kernel_rfl) rfl (by kernel_rfl) (by kernel_rfl) (fun _ _ _ h => h) (Or.inl ⟨by rfl, ?_⟩) (by assumption) ?_
    rotate_left
    · (intro wq hSq; (try dsimp only at hSq); go_simp; try with_reducible rfl)
    try simp only [Act.put, List.setIfInBounds_toArray, List.set_cons_zero, List.set_cons_succ]
    refine wpAnyH_takeL 3 (v := ?_) (by kernel_rfl) rfl (by kernel_rfl) (by kernel_rfl) (fun _ _ _ h => h) (Or.inl ⟨by rfl, ?_⟩) (by assumption) ?_
    rotate_left
    · (intro wq hSq; (try dsimp only at hSq); go_simp; try with_reducible rfl)
    try simp only [Act.put, List.setIfInBounds_toArray, List.set_cons_zero, List.set_cons_succ]
    refine wpAnyH_takeL 4 (v := ?_) (by kernel_rfl) rfl (by kernel_rfl) (by kernel_rfl) (fun _ _ _ h => h) (Or.inl ⟨by rfl, ?_⟩) (by assumption) ?_
    rotate_left
    · (intro wq hSq; (try dsimp only at hSq); go_simp; try with_reducible rfl)
    try simp only [Act.put, List.setIfInBounds_toArray, List.set_cons_zero, List.set_cons_succ]
    refine wpAnyH_takeL 5 (v := ?_) (by kernel_rfl) rfl (by kernel_rfl) (by kernel_rfl) (fun _ _ _ h => h) (Or.inl ⟨by rfl, ?_⟩) (by assumption) ?_
    rotate_left
    · (intro wq hSq; (try dsimp only at hSq); go_simp; try with_reducible rfl)
    try simp only [Act.put, List.setIfInBounds_toArray, List.set_cons_zero, List.set_cons_succ]
    refine wpAnyH_takeL 6 (v := ?_) (by kernel_rfl) rfl (by kernel_rfl) (by kernel_rfl) (fun _ _ _ h => h) (Or.inl ⟨by rfl, ?_⟩) (by assumption) ?_
    rotate_left
    · (intro wq hSq; (try dsimp only at hSq); go_simp; try with_reducible rfl)
    try simp only [Act.put, List.setIfInBounds_toArray, List.set_cons_zero, List.set_cons_succ]
    refine wpAnyH_takeL 7 (v := ?_) (by kernel_rfl) rfl (by kernel_rfl) (by kernel_rfl) (fun _ _ _ h => h) (Or.inl ⟨by rfl, ?_⟩) (by assumption) ?_
    rotate_left
    · (intro wq hSq; (try dsimp only at hSq); go_simp; try with_reducible rfl)
    try simp only [Act.put, List.setIfInBounds_toArray, List.set_cons_zero, List.set_cons_succ]
    refine wpAnyH_takeL 8 (v := ?_) (by kernel_rfl) rfl (by kernel_rfl) (by kernel_rfl) (fun _ _ _ h => h) (Or.inl ⟨by rfl, ?_⟩) (by assumption) ?_
    rotate_left
    · (intro wq hSq; (try dsimp only at hSq); go_simp; try with_reducible rfl)
    try simp only [Act.put, List.setIfInBounds_toArray, List.set_cons_zero, List.set_cons_succ]
    refine wpAnyH_takeL 9 (v := ?_) (by kernel_rfl) rfl (by kernel_rfl) (by kernel_rfl) (fun _ _ _ h => h) (Or.inl ⟨by rfl, ?_⟩) (by assumption) ?_
    rotate_left
    · (intro wq hSq; (try dsimp only at hSq); go_simp; try with_reducible rfl)
    try simp only [Act.put, List.setIfInBounds_toArray, List.set_cons_zero, List.set_cons_succ]
    refine wpAnyH_takeL 10 (v := ?_) (by kernel_rfl) rfl (by kernel_rfl) (by kernel_rfl) (fun _ _ _ h => h) (Or.inl ⟨by rfl, ?_⟩) (by assumption) ?_
    rotate_left
    · (intro wq hSq; (try dsimp only at hSq); go_simp; try with_reducible rfl)
    try simp only [Act.put, List.setIfInBounds_toArray, List.set_cons_zero, List.set_cons_succ]
    refine wpAnyH_takeL 11 (v := ?_) (by kernel_rfl) rfl (by kernel_rfl) (by kernel_rfl) (fun _ _ _ h => h) (Or.inl ⟨by rfl, ?_⟩) (by assumption) ?_
    rotate_left
    · (intro wq hSq; (try dsimp only at hSq); go_simp; try with_reducible rfl)
    try simp only [Act.put, List.setIfInBounds_toArray, List.set_cons_zero, List.set_cons_succ]
    refine wpAnyH_takeL 12 (v := ?_) (by kernel_rfl) rfl (by kernel_rfl) (by kernel_rfl) (fun _ _ _ h => h) (Or.inl ⟨by rfl, ?_⟩) (by assumption) ?_
    rotate_left
    · (intro wq hSq; (try dsimp only at hSq); go_simp; try with_reducible rfl)
    try simp only [Act.put, List.setIfInBounds_toArray, List.set_cons_zero, List.set_cons_succ]
    refine wpAnyH_stepL 13 (by kernel_rfl) rfl (fun K hK => ?_)
    go_simp
    go_at_call 52
    refine (rbody_any y u r hyl (by omega) (by rw [← HN.out]; omega) _).mono ?_
    rintro e w7 ⟨rfl, hb7d⟩
    have hb7 : Below w6.heap.size w6 w7 := ((Below.refl w6.heap.size w6).drew).trans hb7d
    have HP7 := Lib.hid (HP6.out.below hb7)
    refine hK.out _ _ (HSZ.out _ _ HP7.out) (fun hS7 => ?_)
    clear hK K hS hb7 hb7d HP6
    try simp only [Act.put, List.setIfInBounds_toArray, List.set_cons_zero, List.set_cons_succ]
    refine wpAnyH_stepL 14 (by kernel_rfl) rfl (fun K hK => ?_)
    go_simp
    go_at_call 51
    have HC8 := Lib.hid (HCALL.out _ _ HP7.out (u + 1) (bodyL y u r) (Au1 : Int) (by rw [bodyL_length, ← HN.out]; omega) (by have := HAU.out; omega))
    refine HC8.out.mono ?_
    rintro e w8 ⟨⟨v8, rfl⟩, hp8⟩
    have HP8 := Lib.hid hp8
    refine hK.out _ _ (HSZ.out _ _ hp8) (fun hS8 => ?_)
    clear hK K hS7 hp8 HP7 HC8
    try simp only [Act.put, List.setIfInBounds_toArray, List.set_cons_zero, List.set_cons_succ]
    refine wpAnyH_end (by kernel_rfl) ?_
    clear k0
    have k0 := HSZ.out _ _ HP8.out
    go_wp2_with fail
    refine (HCALL.out _ _ HP8.out u [1] _ (by simp; omega) (by have := HAU0.out; omega)).mono ?_
    rintro e w9 ⟨⟨v9, rfl⟩, hp9⟩
    have hst : appS d.wr m y u r = putS (putS (putS ⟨d.hf half, d.fuse, d.failed⟩ u [0]) (u + 1) (bodyL y u r)) u [1] := by
      have e1 : d.wr = ⟨d.hf half, d.fuse, d.failed⟩ := by unfold Dk.wr; rw [act_hf half HX.out.symm hh]
      unfold appS
      rw [← HN.out, if_neg hnx, e1]
    have hd9 := hp9.stop hh
    rw [← hst] at hd9
    have HD9 := Lib.hid hd9
    have HK9 := Lib.hid ((Kp.of_below (P := two p b) hb3).trans hp9.kp)
    clear hp9 hd9 hst k0
    go_wp2_with fail
    refine (HRES.out _ HD9.out).mono ?_
    rintro e w10 ⟨rfl, rfl⟩
    go_wp2
    go_ret
    rw [HRR.out]
    exact ⟨rfl, HD9.out, HK9.out⟩
end Go.Proofs.Ytjfmcobikadjhaa
