/- Walks: a bit is inverted: the reference. -/
import Derived.Test.YtjfmcobikadjhaaRB2
namespace Go.Proofs.Ytjfmcobikadjhaa
set_option linter.all false
open Go.RowKit Go.Shelf
theorem quo_run (n m : Nat) (hm : m ≠ 0) (hn : n ≤ 100000000) (w : World) : (binOp .quo 3 (.int .i64 (n : Int)) (.int .i64 (m : Int))).run Try.prog w = .ok (.int .i64 ((n / m : Nat) : Int)) w := by
  have h1 : ((m : Int) == 0) = false := by rw [beq_eq_false_iff_ne]; omega
  have h2 : (n : Int).tdiv (m : Int) = ((n / m : Nat) : Int) := by rw [Int.tdiv_eq_ediv_of_nonneg (by omega)]; exact (Int.natCast_ediv n m).symm
  have h3 : n / m ≤ n := Nat.div_le_self n m
  have e : binOp .quo 3 (.int .i64 (n : Int)) (.int .i64 (m : Int)) = Op.intDiv .quo .i64 (n : Int) (m : Int) := by simp [binOp]
  rw [e]
  unfold Op.intDiv
  rw [if_neg (by omega)]
  show Result.ok (Value.int .i64 (IntKind.i64.wrap ((n : Int).tdiv (m : Int)))) w = _
  rw [h2]
  generalize n / m = q at h3
  rw [IntWalk.i64_in _ ⟨by omega, by omega⟩]
theorem remN_run (n m : Nat) (hm : m ≠ 0) (hn : n ≤ 100000000) (w : World) : (binOp .rem 3 (.int .i64 (n : Int)) (.int .i64 (m : Int))).run Try.prog w = .ok (.int .i64 ((n % m : Nat) : Int)) w := by
  rw [binOp_rem]
  unfold Op.intDiv
  have h2 : (n : Int).tmod (m : Int) = ((n % m : Nat) : Int) := by rw [Int.tmod_eq_emod_of_nonneg (by omega)]; exact (Int.natCast_emod n m).symm
  rw [if_neg (by omega)]
  show Result.ok (Value.int .i64 ((n : Int).tmod (m : Int))) w = _
  rw [h2]
def flipB (x : UInt8) (s : Nat) : UInt8 := x ^^^ UInt8.ofNat (2 ^ s)
theorem shl_run (s : Nat) (hs : s ≤ 7) (w : World) : (binOp .shl 5 (.int .u8 1) (.int .i64 (s : Int))).run Try.prog w = .ok (.int .u8 ((2 ^ s : Nat) : Int)) w := by
  rcases (show s = 0 ∨ s = 1 ∨ s = 2 ∨ s = 3 ∨ s = 4 ∨ s = 5 ∨ s = 6 ∨ s = 7 by omega) with rfl | rfl | rfl | rfl | rfl | rfl | rfl | rfl <;> kernel_rfl
theorem bits8 (x y : UInt8) : bits .xor .u8 (x.toNat : Int) (y.toNat : Int) = ((x ^^^ y).toNat : Int) := by
  show IntKind.u8.wrap ((BitVec.ofInt 8 (x.toNat : Int) ^^^ BitVec.ofInt 8 (y.toNat : Int)).toNat : Int) = _
  have hx := x.toNat_lt
  have hy := y.toNat_lt
  rw [BitVec.ofInt_natCast, BitVec.ofInt_natCast, BitVec.toNat_xor, BitVec.toNat_ofNat, BitVec.toNat_ofNat, Nat.mod_eq_of_lt (by omega), Nat.mod_eq_of_lt (by omega), IntKind.wrap_u8, ← UInt8.toNat_xor]
  have hz := (x ^^^ y).toNat_lt
  omega
theorem shift_run (s : Nat) (hs : s ≤ 7) (w : World) : (Op.shift .shl .u8 1 .i64 (s : Int)).run Try.prog w = .ok (.int .u8 ((2 ^ s : Nat) : Int)) w := by
  rcases (show s = 0 ∨ s = 1 ∨ s = 2 ∨ s = 3 ∨ s = 4 ∨ s = 5 ∨ s = 6 ∨ s = 7 by omega) with rfl | rfl | rfl | rfl | rfl | rfl | rfl | rfl <;> kernel_rfl
theorem flip_bits (x : UInt8) (s : Nat) (hs : s ≤ 7) : bits .xor .u8 (x.toNat : Int) ((2 ^ s : Nat) : Int) = ((flipB x s).toNat : Int) := by
  have hy : ((2 ^ s : Nat) : Int) = ((UInt8.ofNat (2 ^ s)).toNat : Int) := by
    rcases (show s = 0 ∨ s = 1 ∨ s = 2 ∨ s = 3 ∨ s = 4 ∨ s = 5 ∨ s = 6 ∨ s = 7 by omega) with rfl | rfl | rfl | rfl | rfl | rfl | rfl | rfl <;> rfl
  rw [hy, bits8]
  rfl
theorem wrap_pow (s : Nat) (hs : s ≤ 7) : IntKind.u8.wrap ((2 : Int) ^ s) = ((2 ^ s : Nat) : Int) := by
  rcases (show s = 0 ∨ s = 1 ∨ s = 2 ∨ s = 3 ∨ s = 4 ∨ s = 5 ∨ s = 6 ∨ s = 7 by omega) with rfl | rfl | rfl | rfl | rfl | rfl | rfl | rfl <;> (rw [IntKind.wrap_u8]; rfl)
theorem xor_run (x : UInt8) (s : Nat) (hs : s ≤ 7) (w : World) : (binOp .xor 5 (.int .u8 (x.toNat : Int)) (.int .u8 ((2 ^ s : Nat) : Int))).run Try.prog w = .ok (.int .u8 ((flipB x s).toNat : Int)) w := by
  have e : binOp .xor 5 (.int .u8 (x.toNat : Int)) (.int .u8 ((2 ^ s : Nat) : Int)) = Op.intBits .xor .u8 (x.toNat : Int) ((2 ^ s : Nat) : Int) := by simp [binOp]
  rw [e]
  have hy : ((2 ^ s : Nat) : Int) = ((UInt8.ofNat (2 ^ s)).toNat : Int) := by
    rcases (show s = 0 ∨ s = 1 ∨ s = 2 ∨ s = 3 ∨ s = 4 ∨ s = 5 ∨ s = 6 ∨ s = 7 by omega) with rfl | rfl | rfl | rfl | rfl | rfl | rfl | rfl <;> rfl
  show Result.ok (Value.int .u8 (bits .xor .u8 (x.toNat : Int) ((2 ^ s : Nat) : Int))) w = _
  rw [hy, bits8]
  rfl
/-- A bit is inverted. -/
def Dk.flipped (d : Dk) (n : Int) : Int × Dk :=
  if n < 0 ∨ 16 * (d.size : Int) ≤ n then (2, d) else
    if n.toNat / 8 < d.size then (0, ⟨d.size, d.h0.set (n.toNat / 8) (flipB (d.h0.getD (n.toNat / 8) 0) (7 - n.toNat % 8)), d.h1, d.fuse, d.failed⟩)
    else (0, ⟨d.size, d.h0, d.h1.set (n.toNat / 8 - d.size) (flipB (d.h1.getD (n.toNat / 8 - d.size) 0) (7 - n.toNat % 8)), d.fuse, d.failed⟩)
theorem flipped_ok {d : Dk} (ho : d.ok) (n : Int) : (d.flipped n).2.ok := by
  unfold Dk.flipped
  split
  · exact ho
  · split
    · exact ⟨by simp [ho.l0], ho.l1, ho.lo, ho.hi, ho.f1, ho.f2⟩
    · exact ⟨ho.l0, by simp [ho.l1], ho.lo, ho.hi, ho.f1, ho.f2⟩
theorem flip_both {d : Dk} (ho : d.ok) (q s : Nat) (x : UInt8) (hx : (d.h0 ++ d.h1)[q]? = some x) (hq : q < 2 * d.size) :
    (d.h0 ++ d.h1).set q (flipB x s) = if q < d.size then d.h0.set q (flipB (d.h0.getD q 0) s) ++ d.h1 else d.h0 ++ d.h1.set (q - d.size) (flipB (d.h1.getD (q - d.size) 0) s) := by
  split
  · rename_i h
    rw [List.getElem?_append_left (by rw [ho.l0]; exact h)] at hx
    rw [List.set_append_left _ _ (by rw [ho.l0]; exact h), List.getD_eq_getElem?_getD, hx]; rfl
  · rename_i h
    rw [List.getElem?_append_right (by rw [ho.l0]; omega), ho.l0] at hx
    rw [List.set_append_right _ _ (by rw [ho.l0]; omega), ho.l0, List.getD_eq_getElem?_getD, hx]; rfl
set_option maxRecDepth 100000 in
set_option maxHeartbeats 8000000 in
theorem rFlip_any (p b : Nat) (d : Dk) (n : Int) (w : World) (hd : RDiskAt w p b d) (ho : d.ok) :
    Calls Try.prog 39 #[.pointer (some ⟨p, 0, none⟩), .int .i64 n] w fun e w' => e = .returned (.int .i64 (d.flipped n).1) ∧ RDiskAt w' p b (d.flipped n).2 ∧ Kp (two p b) w w' := by
  obtain ⟨k0, k1, -, -, -, -⟩ := four_cells hd.at_
  have HD := Lib.hid hd
  have HO := Lib.hid ho
  have hlo := ho.lo
  have hhi := ho.hi
  obtain ⟨m, hm⟩ : ∃ m, m = d.size := ⟨_, rfl⟩
  obtain ⟨S, hS⟩ : ∃ S, S = 2 * d.size := ⟨_, rfl⟩
  rw [← hS] at k1
  rw [← hm] at k0 hlo hhi
  have hSm : S = 2 * m := by omega
  obtain ⟨R, hR⟩ : ∃ R, R = d.flipped n := ⟨_, rfl⟩
  rw [← hR]
  unfold Dk.flipped at hR
  rw [← hm] at hR
  have HR := Lib.hid hR
  have HM := Lib.hid hm
  clear hR hm hS hd ho
  by_cases hneg : n < 0
  · have HRE : Hid (R = (2, d)) := by show _ = _; rw [HR.out, if_pos (Or.inl hneg)]
    go_enter Try.func39, Try.ntmps39
    go_wp2
    go_ret
    rw [HRE.out]
    exact ⟨rfl, HD.out, Kp.refl _ _⟩
  by_cases hbig : 16 * (m : Int) ≤ n
  · have HRE : Hid (R = (2, d)) := by show _ = _; rw [HR.out, if_pos (Or.inr hbig)]
    go_enter Try.func39, Try.ntmps39
    go_wp2
    go_ret
    rw [HRE.out]
    exact ⟨rfl, HD.out, Kp.refl _ _⟩
  obtain ⟨N, rfl⟩ : ∃ N : Nat, n = (N : Int) := ⟨n.toNat, by omega⟩
  rw [if_neg (by omega), Int.toNat_natCast] at HR
  obtain ⟨q, hq⟩ : ∃ q, q = N / 8 := ⟨_, rfl⟩
  obtain ⟨j, hj⟩ : ∃ j, j = N % 8 := ⟨_, rfl⟩
  obtain ⟨s, hs⟩ : ∃ s, s = 7 - j := ⟨_, rfl⟩
  rw [← hq, ← hj, ← hs] at HR
  have hqS : q < S := by omega
  have hs7 : s ≤ 7 := by omega
  have hquo : ∀ W, (binOp .quo 3 (.int .i64 (N : Int)) (.int .i64 8)).run Try.prog W = .ok (.int .i64 (q : Int)) W := fun W => by
    have := quo_run N 8 (by omega) (by omega) W
    rw [← hq] at this; exact this
  have hrem : ∀ W, (binOp .rem 3 (.int .i64 (N : Int)) (.int .i64 8)).run Try.prog W = .ok (.int .i64 (j : Int)) W := fun W => by
    have := remN_run N 8 (by omega) (by omega) W
    rw [← hj] at this; exact this
  have hq1 : (N : Int) / 8 = (q : Int) := by omega
  have hj1 : (N : Int).tmod 8 = (j : Int) := by
    rw [hj]
    exact (Int.natCast_emod N 8).symm ▸ Int.tmod_eq_emod_of_nonneg (by omega)
  have hwq : IntKind.i64.wrap (q : Int) = (q : Int) := IntWalk.i64_in _ ⟨by omega, by omega⟩
  have hsub : IntKind.i64.wrap (7 - (j : Int)) = (s : Int) := by rw [IntWalk.i64_in _ ⟨by omega, by omega⟩]; omega
  have hshl := shift_run s hs7
  have hwp := wrap_pow s hs7
  obtain ⟨t2, ht2⟩ : ∃ t2, t2 = 2 ^ s := ⟨_, rfl⟩
  rw [← ht2] at hshl hwp
  have hbl := both_length HO.out
  obtain ⟨x, hx⟩ : ∃ x, (d.h0 ++ d.h1)[q]? = some x := ⟨(d.h0 ++ d.h1)[q]'(by rw [hbl, ← HM.out]; omega), List.getElem?_eq_getElem _⟩
  have hxor := xor_run x s hs7
  have hxb := flip_bits x s hs7
  rw [← ht2] at hxor hxb
  obtain ⟨th, hth⟩ := HD.out.half
  have b1 : w.cell? ⟨b, q, none⟩ = some (byteV x) := HalfAt.cell ⟨th, hth⟩ q x hx
  have b2 : w.frozen? ⟨b, q, none⟩ = false := by simp [World.frozen?, hth]
  have hfl := flip_both HO.out q s x hx (by rw [← HM.out]; omega)
  rw [← HM.out] at hfl
  have HFL := Lib.hid hfl
  obtain ⟨c, hc⟩ : ∃ c, c = flipB x s := ⟨_, rfl⟩
  rw [← hc] at hxor hxb HFL
  have hqS' : (q : Int) < (S : Int) := by omega
  have HTH := Lib.hid hth
  clear hq hj hs ht2 hbl hx hfl hc hth hSm hquo hrem
  have hro : Fence.wide.round = none := rfl
  refine (callsIn_wide (n := 5)).1 ?_
  refine callsIn_of_wp Try.func39 rfl trivial ?_ rfl
  simp only [Try.ntmps39, List.size_toArray, List.length_cons, List.length_nil, Nat.reduceAdd, Nat.reduceSub, Array.replicate_succ, Array.replicate_zero, List.push_toArray, List.append_toArray, List.nil_append, List.cons_append]
  gi_wp2_with fail
  refine wpIn_region_K (fun w' => w'.cell? ⟨p, 1, none⟩ = some (.slice (some ⟨b, 0, none⟩) S S) ∧ w'.cell? ⟨b, q, none⟩ = some (byteV x) ∧ w'.frozen? ⟨b, q, none⟩ = false) 20 (by kernel_rfl) ⟨k1, b1, b2⟩ (fun hS => ?_)
  refine wpAnyKC_takeL 0 20 (v := ?_) hro (by kernel_rfl) (by kernel_rfl) (by kernel_rfl) rfl (by kernel_rfl) (by kernel_rfl) (fun _ _ _ h => h) (Or.inl ⟨by rfl, ?_⟩) (fun _ => rfl) (by assumption) ?_
  rotate_left
  · (intro wq hSq; (try dsimp only at hSq); go_simp; try with_reducible rfl)
  try simp only [Act.put, List.setIfInBounds_toArray, List.set_cons_zero, List.set_cons_succ]
  refine wpAnyKC_takeL 1 20 (v := ?_) hro (by kernel_rfl) (by kernel_rfl) (by kernel_rfl) rfl (by kernel_rfl) (by kernel_rfl) (fun _ _ _ h => h) (Or.inl ⟨by rfl, ?_⟩) (fun _ => rfl) (by assumption) ?_
  rotate_left
  · (intro wq hSq; (try dsimp only at hSq); go_simp; try with_reducible rfl)
  try simp only [Act.put, List.setIfInBounds_toArray, List.set_cons_zero, List.set_cons_succ]
  refine wpAnyKC_takeL 2 20 (v := ?_) hro (by kernel_rfl) (by kernel_rfl) (by kernel_rfl) rfl (by kernel_rfl) (by kernel_rfl) (fun _ _ _ h => h) (Or.inl ⟨by rfl, ?_⟩) (fun _ => rfl) (by assumption) ?_
  rotate_left
  · (intro wq hSq; (try dsimp only at hSq); go_simp; try with_reducible rfl)
  try simp only [Act.put, List.setIfInBounds_toArray, List.set_cons_zero, List.set_cons_succ]
  refine wpAnyKC_takeL 3 20 (v := ?_) hro (by kernel_rfl) (by kernel_rfl) (by kernel_rfl) rfl (by kernel_rfl) (by kernel_rfl) (fun _ _ _ h => h) (Or.inl ⟨by rfl, ?_⟩) (fun _ => rfl) (by assumption) ?_
  rotate_left
  · (intro wq hSq; (try dsimp only at hSq); go_simp; try with_reducible rfl)
  try simp only [Act.put, List.setIfInBounds_toArray, List.set_cons_zero, List.set_cons_succ]
  refine wpAnyKC_takeL 4 20 (v := ?_) hro (by kernel_rfl) (by kernel_rfl) (by kernel_rfl) rfl (by kernel_rfl) (by kernel_rfl) (fun _ _ _ h => h) (Or.inl ⟨by rfl, ?_⟩) (fun _ => rfl) (by assumption) ?_
  rotate_left
  · (intro wq hSq; (try dsimp only at hSq); go_simp; try with_reducible rfl)
  try simp only [Act.put, List.setIfInBounds_toArray, List.set_cons_zero, List.set_cons_succ]
  refine wpAnyKC_takeL 5 20 (v := ?_) hro (by kernel_rfl) (by kernel_rfl) (by kernel_rfl) rfl (by kernel_rfl) (by kernel_rfl) (fun _ _ _ h => h) (Or.inl ⟨by rfl, ?_⟩) (fun _ => rfl) (by assumption) ?_
  rotate_left
  · (intro wq hSq; (try dsimp only at hSq); go_simp; try with_reducible rfl)
  try simp only [Act.put, List.setIfInBounds_toArray, List.set_cons_zero, List.set_cons_succ]
  refine wpAnyKC_takeL 6 20 (v := ?_) hro (by kernel_rfl) (by kernel_rfl) (by kernel_rfl) rfl (by kernel_rfl) (by kernel_rfl) (fun _ _ _ h => h) (Or.inl ⟨by rfl, ?_⟩) (fun _ => rfl) (by assumption) ?_
  rotate_left
  · (intro wq hSq; (try dsimp only at hSq); go_simp; try with_reducible rfl)
  try simp only [Act.put, List.setIfInBounds_toArray, List.set_cons_zero, List.set_cons_succ]
  refine wpAnyKC_takeL 7 20 (v := ?_) hro (by kernel_rfl) (by kernel_rfl) (by kernel_rfl) rfl (by kernel_rfl) (by kernel_rfl) (fun _ _ _ h => h) (Or.inl ⟨by rfl, ?_⟩) (fun _ => rfl) (by assumption) ?_
  rotate_left
  · (intro wq hSq; (try dsimp only at hSq); go_simp; try with_reducible rfl)
  try simp only [Act.put, List.setIfInBounds_toArray, List.set_cons_zero, List.set_cons_succ]
  refine wpAnyKC_takeL 8 20 (v := ?_) hro (by kernel_rfl) (by kernel_rfl) (by kernel_rfl) rfl (by kernel_rfl) (by kernel_rfl) (fun _ _ _ h => h) (Or.inl ⟨by rfl, ?_⟩) (fun _ => rfl) (by assumption) ?_
  rotate_left
  · (intro wq hSq; (try dsimp only at hSq); go_simp; try with_reducible rfl)
  try simp only [Act.put, List.setIfInBounds_toArray, List.set_cons_zero, List.set_cons_succ]
  refine wpAnyKC_takeL 9 20 (v := ?_) hro (by kernel_rfl) (by kernel_rfl) (by kernel_rfl) rfl (by kernel_rfl) (by kernel_rfl) (fun _ _ _ h => h) (Or.inl ⟨by rfl, ?_⟩) (fun _ => rfl) (by assumption) ?_
  rotate_left
  · (intro wq hSq; (try dsimp only at hSq); go_simp; try with_reducible rfl)
  try simp only [Act.put, List.setIfInBounds_toArray, List.set_cons_zero, List.set_cons_succ]
  refine wpAnyKC_takeL 10 20 (v := ?_) hro (by kernel_rfl) (by kernel_rfl) (by kernel_rfl) rfl (by kernel_rfl) (by kernel_rfl) (fun _ _ _ h => h) (Or.inl ⟨by rfl, ?_⟩) (fun _ => rfl) (by assumption) ?_
  rotate_left
  · (intro wq hSq; (try dsimp only at hSq); go_simp; try with_reducible rfl)
  try simp only [Act.put, List.setIfInBounds_toArray, List.set_cons_zero, List.set_cons_succ]
  refine wpAnyKC_takeL 11 20 (v := ?_) hro (by kernel_rfl) (by kernel_rfl) (by kernel_rfl) rfl (by kernel_rfl) (by kernel_rfl) (fun _ _ _ h => h) (Or.inl ⟨by rfl, ?_⟩) (fun _ => rfl) (by assumption) ?_
  rotate_left
  · (intro wq hSq; (try dsimp only at hSq); go_simp; try with_reducible rfl)
  try simp only [Act.put, List.setIfInBounds_toArray, List.set_cons_zero, List.set_cons_succ]
  refine wpAnyKC_takeL 12 20 (v := ?_) hro (by kernel_rfl) (by kernel_rfl) (by kernel_rfl) rfl (by kernel_rfl) (by kernel_rfl) (fun _ _ _ h => h) (Or.inl ⟨by rfl, ?_⟩) (fun _ => rfl) (by assumption) ?_
  rotate_left
  · (intro wq hSq; (try dsimp only at hSq); go_simp; try with_reducible rfl)
  try simp only [Act.put, List.setIfInBounds_toArray, List.set_cons_zero, List.set_cons_succ]
  refine wpAnyKC_takeL 13 20 (v := ?_) hro (by kernel_rfl) (by kernel_rfl) (by kernel_rfl) rfl (by kernel_rfl) (by kernel_rfl) (fun _ _ _ h => h) (Or.inl ⟨by rfl, ?_⟩) (fun _ => rfl) (by assumption) ?_
  rotate_left
  · (intro wq hSq; (try dsimp only at hSq); go_simp; try with_reducible rfl)
  try simp only [Act.put, List.setIfInBounds_toArray, List.set_cons_zero, List.set_cons_succ]
  refine wpAnyKC_takeL 14 20 (v := ?_) hro (by kernel_rfl) (by kernel_rfl) (by kernel_rfl) rfl (by kernel_rfl) (by kernel_rfl) (fun _ _ _ h => h) (Or.inl ⟨by rfl, ?_⟩) (fun _ => rfl) (by assumption) ?_
  rotate_left
  · (intro wq hSq; (try dsimp only at hSq); go_simp; try with_reducible rfl)
  try simp only [Act.put, List.setIfInBounds_toArray, List.set_cons_zero, List.set_cons_succ]
  refine wpAnyKC_takeL 15 20 (v := ?_) hro (by kernel_rfl) (by kernel_rfl) (by kernel_rfl) rfl (by kernel_rfl) (by kernel_rfl) (fun _ _ _ h => h) (Or.inl ⟨by rfl, ?_⟩) (fun _ => rfl) (by assumption) ?_
  rotate_left
  · (intro wq hSq; (try dsimp only at hSq); go_simp; try with_reducible rfl)
  try simp only [Act.put, List.setIfInBounds_toArray, List.set_cons_zero, List.set_cons_succ]
  refine wpAnyKC_takeL 16 20 (v := ?_) hro (by kernel_rfl) (by kernel_rfl) (by kernel_rfl) rfl (by kernel_rfl) (by kernel_rfl) (fun _ _ _ h => h) (Or.inl ⟨by rfl, ?_⟩) (fun _ => rfl) (by assumption) ?_
  rotate_left
  · (intro wq hSq; (try dsimp only at hSq); go_simp; try with_reducible rfl)
  try simp only [Act.put, List.setIfInBounds_toArray, List.set_cons_zero, List.set_cons_succ]
  refine wpAnyKC_takeL 17 20 (v := ?_) hro (by kernel_rfl) (by kernel_rfl) (by kernel_rfl) rfl (by kernel_rfl) (by kernel_rfl) (fun _ _ _ h => h) (Or.inl ⟨by rfl, ?_⟩) (fun _ => rfl) (by assumption) ?_
  rotate_left
  · (intro wq hSq; (try dsimp only at hSq); go_simp; try with_reducible rfl)
  try simp only [Act.put, List.setIfInBounds_toArray, List.set_cons_zero, List.set_cons_succ]
  refine wpAnyKC_takeL 18 20 (v := ?_) hro (by kernel_rfl) (by kernel_rfl) (by kernel_rfl) rfl (by kernel_rfl) (by kernel_rfl) (fun _ _ _ h => h) (Or.inl ⟨by rfl, ?_⟩) (fun _ => rfl) (by assumption) ?_
  rotate_left
  · (intro wq hSq; (try dsimp only at hSq); go_simp; try with_reducible rfl)
  try simp only [Act.put, List.setIfInBounds_toArray, List.set_cons_zero, List.set_cons_succ]
  refine wpAnyKC_takeL 19 20 (v := ?_) hro (by kernel_rfl) (by kernel_rfl) (by kernel_rfl) rfl (by kernel_rfl) (by kernel_rfl) (fun _ _ _ h => h) (Or.inl ⟨by rfl, ?_⟩) (fun _ => rfl) (by assumption) ?_
  rotate_left
  · (intro wq hSq; (try dsimp only at hSq); go_simp; try with_reducible rfl)
  try simp only [Act.put, List.setIfInBounds_toArray, List.set_cons_zero, List.set_cons_succ]
  refine wpAnyKC_stepL 20 (by kernel_rfl) rfl (fun K hK => ?_)
  go_simp
  refine hK.out _ _ (fun h => by cases h) ?_
  clear hK K hS
  try simp only [Act.put, List.setIfInBounds_toArray, List.set_cons_zero, List.set_cons_succ]
  refine wpAnyKC_end (by kernel_rfl) ?_
  have hA : Hid ((w.setCell ⟨b, q, none⟩ (byteV c)).drew.heap[p]? = some (.cells #[.int .i64 (d.size : Int), .slice (some ⟨b, 0, none⟩) (2 * d.size) (2 * d.size), .int .i64 d.fuse, .bool d.failed] 69)) := (Below.heap_setCell w ⟨b, q, none⟩ _ p (Ne.symm HD.out.ne)).trans HD.out.at_
  have hH : Hid ((w.setCell ⟨b, q, none⟩ (byteV c)).drew.heap[b]? = some (.cells (((d.h0 ++ d.h1).set q c).map byteV).toArray th)) := half_set HTH.out q c
  have hK6 : Hid (Kp (two p b) w (w.setCell ⟨b, q, none⟩ (byteV c)).drew) := (((Kp.refl _ w).setCell (Or.inr rfl) _)).drew
  generalize (w.setCell ⟨b, q, none⟩ (byteV c)).drew = w6 at hA hH hK6 ⊢
  clear b1 b2 k1 k0
  gi_wp2
  go_ret
  rw [HR.out]
  have hh := hH.out
  rw [HFL.out] at hh
  split
  · rename_i hlt
    rw [if_pos hlt] at hh
    rw [HM.out]
    exact ⟨rfl, ⟨hA.out, ⟨th, hh⟩, HD.out.ne⟩, hK6.out⟩
  · rename_i hlt
    rw [if_neg hlt] at hh
    rw [HM.out] at hh ⊢
    exact ⟨rfl, ⟨hA.out, ⟨th, hh⟩, HD.out.ne⟩, hK6.out⟩
end Go.Proofs.Ytjfmcobikadjhaa
