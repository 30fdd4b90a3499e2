/- Walks: a disk: what writes bytes. -/
import Derived.Test.YtjfmcobikadjhaaDA7
namespace Go.Proofs.Ytjfmcobikadjhaa
set_option linter.all false
open Go.RowKit Go.Shelf
/-! ### what is kept -/
/-- All blocks but some are kept. -/
structure Kp (P : Nat → Prop) (w w' : World) : Prop where
  os : w'.os = w.os
  tape : w'.tape = w.tape
  output : w'.output = w.output
  size : w.heap.size ≤ w'.heap.size
  block : ∀ k, k < w.heap.size → ¬ P k → w'.heap[k]? = w.heap[k]?
theorem Kp.refl (P : Nat → Prop) (w : World) : Kp P w w := ⟨rfl, rfl, rfl, Nat.le_refl _, fun _ _ _ => rfl⟩
theorem Kp.trans {P : Nat → Prop} {a b c : World} (h : Kp P a b) (k : Kp P b c) : Kp P a c :=
  ⟨k.os.trans h.os, k.tape.trans h.tape, k.output.trans h.output, Nat.le_trans h.size k.size, fun i hi hp => (k.block i (Nat.lt_of_lt_of_le hi h.size) hp).trans (h.block i hi hp)⟩
theorem Kp.of_below {P : Nat → Prop} {w w' : World} (h : Below w.heap.size w w') : Kp P w w' := ⟨h.os, h.tape, h.output, h.size, fun k hk _ => h.block k hk⟩
theorem Kp.below {P : Nat → Prop} {w w' : World} {B : Nat} (h : Kp P w w') (hB : B ≤ w.heap.size) (hP : ∀ k, P k → B ≤ k) : Below B w w' :=
  ⟨h.os, h.tape, h.output, h.size, fun k hk => h.block k (by omega) (fun hp => by have := hP k hp; omega)⟩
theorem Kp.mono {P P' : Nat → Prop} {w w' : World} (h : Kp P w w') (hP : ∀ k, P k → P' k) : Kp P' w w' := ⟨h.os, h.tape, h.output, h.size, fun k hk hp => h.block k hk (fun q => hp (hP k q))⟩
theorem Kp.drew {P : Nat → Prop} {w w' : World} (h : Kp P w w') : Kp P w w'.drew := ⟨h.os, h.tape, h.output, h.size, h.block⟩
theorem Kp.setCell {P : Nat → Prop} {w w' : World} (h : Kp P w w') {a : Addr} (ha : P a.block) (u : Value) : Kp P w (w'.setCell a u) :=
  ⟨h.os, h.tape, h.output, by simpa using h.size, fun k hk hp => (Below.heap_setCell w' a u k (fun e => hp (e ▸ ha))).trans (h.block k hk hp)⟩
theorem Kp.cell {P : Nat → Prop} {w w' : World} (h : Kp P w w') {b o : Nat} {v : Value} (hp : ¬ P b) (hc : w.cell? ⟨b, o, none⟩ = some v) : w'.cell? ⟨b, o, none⟩ = some v :=
  (World.cell?_of_block (a := ⟨b, o, none⟩) (h.block b (World.block_lt_of_cell? w ⟨b, o, none⟩ hc) hp)).trans hc
theorem Kp.reads {P : Nat → Prop} {w w' : World} (h : Kp P w w') {B : Nat} {v : Value} {xs : List Value} (hr : w.reads B v xs) (hv : ∀ k, v.ownBlock = some k → ¬ P k) : w'.reads B v xs := by
  obtain ⟨a, cap, hv2, hn, hz, hmx, hc⟩ := hr
  refine ⟨a, cap, hv2, hn, hz, hmx, fun j u hj => ?_⟩
  obtain ⟨b, off, ha, hb, hcell⟩ := hc j u hj
  refine ⟨b, off, ha, hb, h.cell (hv b ?_) hcell⟩
  rw [hv2, ha]; rfl
def two (p b k : Nat) : Prop := k = p ∨ k = b
def three (p b0 b1 k : Nat) : Prop := k = p ∨ k = b0 ∨ k = b1
/-! ### bytes that are written -/
structure Wr where
  (h : List UInt8)
  (fuse : Int)
  (failed : Bool)
def putS : Wr → Nat → List UInt8 → Wr
  | st, _, [] => st
  | st, k, c :: s => if st.failed = true ∨ st.fuse = 0 then ⟨st.h, st.fuse, true⟩ else putS ⟨st.h.set k c, if 0 < st.fuse then st.fuse - 1 else st.fuse, false⟩ (k + 1) s
theorem putS_stop {st : Wr} {k : Nat} {s : List UInt8} (hs : s ≠ []) (h : st.failed = true ∨ st.fuse = 0) : putS st k s = ⟨st.h, st.fuse, true⟩ := by
  cases s with
  | nil => exact absurd rfl hs
  | cons c s => unfold putS; rw [if_pos h]
theorem putS_step {st : Wr} {k : Nat} {c : UInt8} {s : List UInt8} (h : ¬ (st.failed = true ∨ st.fuse = 0)) : putS st k (c :: s) = putS ⟨st.h.set k c, if 0 < st.fuse then st.fuse - 1 else st.fuse, false⟩ (k + 1) s := by
  rw [putS, if_neg h]
/-- The half under way: b is block and l the length. -/
structure WrAt (w : World) (p b n : Nat) (x y : Value) (st : Wr) : Prop where
  at_ : w.heap[p]? = some (.cells #[x, y, .int .i64 st.fuse, .bool st.failed] 52)
  half : HalfAt w b st.h
  len : st.h.length = n
  ne : ¬ b = p
  f1 : -1 ≤ st.fuse
  f2 : st.fuse ≤ 9223372036854775807
theorem WrAt.setFailed {w : World} {p b n : Nat} {x y : Value} {st : Wr} (h : WrAt w p b n x y st) (z : Bool) : WrAt (w.setCell ⟨p, 3, none⟩ (.bool z)) p b n x y ⟨st.h, st.fuse, z⟩ :=
  ⟨by simp [World.setCell, Array.getElem?_modify, h.at_], by obtain ⟨t, ht⟩ := h.half; exact ⟨t, (Below.heap_setCell w ⟨p, 3, none⟩ _ b h.ne).trans ht⟩, h.len, h.ne, h.f1, h.f2⟩
theorem WrAt.setFuse {w : World} {p b n : Nat} {x y : Value} {st : Wr} (h : WrAt w p b n x y st) (z : Int) (h1 : -1 ≤ z) (h2 : z ≤ 9223372036854775807) : WrAt (w.setCell ⟨p, 2, none⟩ (.int .i64 z)) p b n x y ⟨st.h, z, st.failed⟩ :=
  ⟨by simp [World.setCell, Array.getElem?_modify, h.at_], by obtain ⟨t, ht⟩ := h.half; exact ⟨t, (Below.heap_setCell w ⟨p, 2, none⟩ _ b h.ne).trans ht⟩, h.len, h.ne, h1, h2⟩
theorem WrAt.setByte {w : World} {p b n : Nat} {x y : Value} {st : Wr} (h : WrAt w p b n x y st) (k : Nat) (c : UInt8) : WrAt (w.setCell ⟨b, k, none⟩ (byteV c)) p b n x y ⟨st.h.set k c, st.fuse, st.failed⟩ :=
  ⟨(Below.heap_setCell w ⟨b, k, none⟩ _ p (Ne.symm h.ne)).trans h.at_, by obtain ⟨t, ht⟩ := h.half; exact ⟨t, half_set ht k c⟩, by rw [List.length_set]; exact h.len, h.ne, h.f1, h.f2⟩
theorem WrAt.drew {w : World} {p b n : Nat} {x y : Value} {st : Wr} (h : WrAt w p b n x y st) : WrAt w.drew p b n x y st := ⟨h.at_, h.half, h.len, h.ne, h.f1, h.f2⟩
set_option maxRecDepth 100000 in
set_option maxHeartbeats 8000000 in
theorem writer1_any (c1 c2 p b n k : Nat) (x y : Value) (st : Wr) (s : List UInt8) (hk : k + s.length ≤ n) (hn : n ≤ 262144) (w : World) (hw : WrAt w p b n x y st)
    (h1 : w.cell? ⟨c1, 0, none⟩ = some (.pointer (some ⟨p, 0, none⟩))) (h2 : w.cell? ⟨c2, 0, none⟩ = some (.slice (some ⟨b, 0, none⟩) n n)) (n1 : ¬ two p b c1) (n2 : ¬ two p b c2) :
    Calls Try.prog 45 #[.int .i64 (k : Int), .string (bytesOf s), .pointer (some ⟨c1, 0, none⟩), .pointer (some ⟨c2, 0, none⟩)] w fun e w' => (∃ v, e = .returned v) ∧ WrAt w' p b n x y (putS st k s) ∧ Kp (two p b) w w' := by
  obtain ⟨m, hm⟩ : ∃ m, m = s.length := ⟨_, rfl⟩
  have hs : (bytesOf s).size = m := by rw [hm]; rfl
  have hs1 : ((bytesOf s).size : Int) = (m : Int) := by rw [hs]
  obtain ⟨r, hr⟩ : ∃ r, r = putS st k s := ⟨_, rfl⟩
  rw [← hr]
  have HR := Lib.hid hr
  have HM := Lib.hid hm
  rw [← hm] at hk
  have H1 := Lib.hid h1
  have H2 := Lib.hid h2
  have HW := Lib.hid hw
  have N1 := Lib.hid n1
  have N2 := Lib.hid n2
  clear hm hr h1 h2 n1 n2 hw
  have hro : Fence.wide.round = none := rfl
  refine (callsIn_wide (n := 5)).1 ?_
  refine callsIn_of_wp Try.func45 rfl trivial ?_ rfl
  simp only [Try.ntmps45, List.size_toArray, List.length_cons, List.length_nil, Nat.reduceAdd, Nat.reduceSub, Array.replicate_succ, Array.replicate_zero, List.push_toArray, List.append_toArray, List.nil_append, List.cons_append]
  gi_wp2_with fail
  gi_loopw [9] (fun ii wr => ∃ (i : Nat) (si : Wr), i ≤ m ∧ ii = .int .i64 (i : Int) ∧ Hid (r = putS si (k + i) (s.drop i)) ∧ Hid (WrAt wr p b n x y si) ∧ Hid (Kp (two p b) w wr)) (fun ii _ => m - (intOf ii).toNat)
  case atStart => exact ⟨0, st, Nat.zero_le _, rfl, HR.out, HW.out, Kp.refl _ _⟩
  case round =>
    obtain ⟨i, si, hi, rfl, hR, hWr, hKp⟩ := hrel
    have hz : s.length = m := HM.out.symm
    have k1 := hKp.out.cell N1.out H1.out
    have k2 := hKp.out.cell N2.out H2.out
    obtain ⟨-, -, e2, e3, f2, f3⟩ := four_cells hWr.out.at_
    by_cases hlt : i < m
    case neg =>
      obtain rfl : i = m := by omega
      have hrr : r = si := by rw [hR.out, List.drop_of_length_le (by omega)]; rfl
      have HRR := Lib.hid hrr
      clear hrr
      gi_wp2
      go_end0
      exact ⟨⟨_, rfl⟩, by rw [HRR.out]; exact hWr.out, hKp.out⟩
    obtain ⟨c, hc⟩ : ∃ c, s[i]? = some c := ⟨s[i]'(by omega), List.getElem?_eq_getElem _⟩
    have hdr : s.drop i = c :: s.drop (i + 1) := by
      rw [List.drop_eq_getElem_cons (by omega)]
      congr 1
      rw [List.getElem?_eq_getElem (by omega)] at hc
      injection hc
    have HDR := Lib.hid hdr
    have HC := Lib.hid hc
    clear hdr hc
    cases hfd : si.failed
    case true =>
      rw [hfd] at e3
      have hrr : r = ⟨si.h, si.fuse, true⟩ := by rw [hR.out, putS_stop (by rw [HDR.out]; simp) (Or.inl hfd)]
      have HRR := Lib.hid hrr
      clear hrr
      gi_wp2_with fail
      refine wpIn_region_K (fun w' => w'.cell? ⟨c1, 0, none⟩ = some (.pointer (some ⟨p, 0, none⟩)) ∧ w'.cell? ⟨p, 3, none⟩ = some (.bool true) ∧ w'.frozen? ⟨p, 3, none⟩ = false) 14 (by kernel_rfl) ⟨k1, e3, f3⟩ (fun hS => ?_)
      refine wpAnyKC_takeL 0 20 (v := ?_) hro (by kernel_rfl) (by kernel_rfl) (by kernel_rfl) rfl (by kernel_rfl) (by kernel_rfl) (fun _ _ _ h => h) (Or.inl ⟨by rfl, ?_⟩) (fun _ => rfl) (by assumption) ?_
      rotate_left
      · (intro wq hSq; (try dsimp only at hSq); go_simp; try with_reducible rfl)
      try simp only [Act.put, List.setIfInBounds_toArray, List.set_cons_zero, List.set_cons_succ]
      refine wpAnyKC_takeL 1 20 (v := ?_) hro (by kernel_rfl) (by kernel_rfl) (by kernel_rfl) rfl (by kernel_rfl) (by kernel_rfl) (fun _ _ _ h => h) (Or.inl ⟨by rfl, ?_⟩) (fun _ => rfl) (by assumption) ?_
      rotate_left
      · (intro wq hSq; (try dsimp only at hSq); go_simp; try with_reducible rfl)
      try simp only [Act.put, List.setIfInBounds_toArray, List.set_cons_zero, List.set_cons_succ]
      refine wpAnyKC_takeL 2 20 (v := ?_) hro (by kernel_rfl) (by kernel_rfl) (by kernel_rfl) rfl (by kernel_rfl) (by kernel_rfl) (fun _ _ _ h => h) (Or.inl ⟨by rfl, ?_⟩) (fun _ => rfl) (by assumption) ?_
      rotate_left
      · (intro wq hSq; (try dsimp only at hSq); go_simp; try with_reducible rfl)
      try simp only [Act.put, List.setIfInBounds_toArray, List.set_cons_zero, List.set_cons_succ]
      refine wpAnyKC_takeL 3 20 (v := ?_) hro (by kernel_rfl) (by kernel_rfl) (by kernel_rfl) rfl (by kernel_rfl) (by kernel_rfl) (fun _ _ _ h => h) (Or.inl ⟨by rfl, ?_⟩) (fun _ => rfl) (by assumption) ?_
      rotate_left
      · (intro wq hSq; (try dsimp only at hSq); go_simp; try with_reducible rfl)
      try simp only [Act.put, List.setIfInBounds_toArray, List.set_cons_zero, List.set_cons_succ]
      refine wpAnyKC_takeL 4 20 (v := ?_) hro (by kernel_rfl) (by kernel_rfl) (by kernel_rfl) rfl (by kernel_rfl) (by kernel_rfl) (fun _ _ _ h => h) (Or.inl ⟨by rfl, ?_⟩) (fun _ => rfl) (by assumption) ?_
      rotate_left
      · (intro wq hSq; (try dsimp only at hSq); go_simp; try with_reducible rfl)
      try simp only [Act.put, List.setIfInBounds_toArray, List.set_cons_zero, List.set_cons_succ]
      refine wpAnyKC_takeL 5 20 (v := ?_) hro (by kernel_rfl) (by kernel_rfl) (by kernel_rfl) rfl (by kernel_rfl) (by kernel_rfl) (fun _ _ _ h => h) (Or.inl ⟨by rfl, ?_⟩) (fun _ => rfl) (by assumption) ?_
      rotate_left
      · (intro wq hSq; (try dsimp only at hSq); go_simp; try with_reducible rfl)
      try simp only [Act.put, List.setIfInBounds_toArray, List.set_cons_zero, List.set_cons_succ]
      refine wpAnyKC_takeL 6 20 (v := undef) hro (by kernel_rfl) (by kernel_rfl) (by kernel_rfl) rfl (by kernel_rfl) (by kernel_rfl) (fun _ _ _ h => h) (Or.inr ⟨by rfl, rfl⟩) (fun _ => rfl) (by assumption) ?_
      try simp only [Act.put, List.setIfInBounds_toArray, List.set_cons_zero, List.set_cons_succ]
      refine wpAnyKC_takeL 7 20 (v := undef) hro (by kernel_rfl) (by kernel_rfl) (by kernel_rfl) rfl (by kernel_rfl) (by kernel_rfl) (fun _ _ _ h => h) (Or.inr ⟨by rfl, rfl⟩) (fun _ => rfl) (by assumption) ?_
      try simp only [Act.put, List.setIfInBounds_toArray, List.set_cons_zero, List.set_cons_succ]
      refine wpAnyKC_takeL 8 20 (v := undef) hro (by kernel_rfl) (by kernel_rfl) (by kernel_rfl) rfl (by kernel_rfl) (by kernel_rfl) (fun _ _ _ h => h) (Or.inr ⟨by rfl, rfl⟩) (fun _ => rfl) (by assumption) ?_
      try simp only [Act.put, List.setIfInBounds_toArray, List.set_cons_zero, List.set_cons_succ]
      refine wpAnyKC_takeL 9 20 (v := undef) hro (by kernel_rfl) (by kernel_rfl) (by kernel_rfl) rfl (by kernel_rfl) (by kernel_rfl) (fun _ _ _ h => h) (Or.inr ⟨by rfl, rfl⟩) (fun _ => rfl) (by assumption) ?_
      try simp only [Act.put, List.setIfInBounds_toArray, List.set_cons_zero, List.set_cons_succ]
      refine wpAnyKC_takeL 10 20 (v := undef) hro (by kernel_rfl) (by kernel_rfl) (by kernel_rfl) rfl (by kernel_rfl) (by kernel_rfl) (fun _ _ _ h => h) (Or.inr ⟨by rfl, rfl⟩) (fun _ => rfl) (by assumption) ?_
      try simp only [Act.put, List.setIfInBounds_toArray, List.set_cons_zero, List.set_cons_succ]
      refine wpAnyKC_takeL 11 20 (v := ?_) hro (by kernel_rfl) (by kernel_rfl) (by kernel_rfl) rfl (by kernel_rfl) (by kernel_rfl) (fun _ _ _ h => h) (Or.inl ⟨by rfl, ?_⟩) (fun _ => rfl) (by assumption) ?_
      rotate_left
      · (intro wq hSq; (try dsimp only at hSq); go_simp; try with_reducible rfl)
      try simp only [Act.put, List.setIfInBounds_toArray, List.set_cons_zero, List.set_cons_succ]
      refine wpAnyKC_takeL 12 20 (v := ?_) hro (by kernel_rfl) (by kernel_rfl) (by kernel_rfl) rfl (by kernel_rfl) (by kernel_rfl) (fun _ _ _ h => h) (Or.inl ⟨by rfl, ?_⟩) (fun _ => rfl) (by assumption) ?_
      rotate_left
      · (intro wq hSq; (try dsimp only at hSq); go_simp; try with_reducible rfl)
      try simp only [Act.put, List.setIfInBounds_toArray, List.set_cons_zero, List.set_cons_succ]
      refine wpAnyKC_takeL 13 20 (v := ?_) hro (by kernel_rfl) (by kernel_rfl) (by kernel_rfl) rfl (by kernel_rfl) (by kernel_rfl) (fun _ _ _ h => h) (Or.inl ⟨by rfl, ?_⟩) (fun _ => rfl) (by assumption) ?_
      rotate_left
      · (intro wq hSq; (try dsimp only at hSq); go_simp; try with_reducible rfl)
      try simp only [Act.put, List.setIfInBounds_toArray, List.set_cons_zero, List.set_cons_succ]
      refine wpAnyKC_stepL 14 (by kernel_rfl) rfl (fun K hK => ?_)
      go_simp
      refine hK.out _ _ (fun h => by cases h) ?_
      clear hK K hS
      try simp only [Act.put, List.setIfInBounds_toArray, List.set_cons_zero, List.set_cons_succ]
      refine wpAnyKC_end (by kernel_rfl) ?_
      have hA4 : Hid (WrAt ((wr.setCell ⟨p, 3, none⟩ (.bool true)).drew) p b n x y ⟨si.h, si.fuse, true⟩) := (hWr.out.setFailed _).drew
      have hK4 : Hid (Kp (two p b) w ((wr.setCell ⟨p, 3, none⟩ (.bool true)).drew)) := (hKp.out.setCell (Or.inl rfl) _).drew
      generalize (wr.setCell ⟨p, 3, none⟩ (.bool true)).drew = w4 at hA4 hK4 ⊢
      clear k1 k2 e2 e3 f2 f3
      have k1 := hK4.out.cell N1.out H1.out
      have k2 := hK4.out.cell N2.out H2.out
      have q2 : w4.cell? ⟨p, 2, none⟩ = some (.int .i64 si.fuse) := (four_cells hA4.out.at_).2.2.1
      have q3 : w4.cell? ⟨p, 3, none⟩ = some (.bool true) := (four_cells hA4.out.at_).2.2.2.1
      have g2 : w4.frozen? ⟨p, 2, none⟩ = false := (four_cells hA4.out.at_).2.2.2.2.1
      gi_wp2
      refine bodyPost_ret (results_none rfl _ _ _) rfl ?_
      exact ⟨⟨_, rfl⟩, by rw [HRR.out]; exact hA4.out, hK4.out⟩
    case false =>
      rw [hfd] at e3
      by_cases hf0 : si.fuse = 0
      · rw [hf0] at e2
        have hrr : r = ⟨si.h, si.fuse, true⟩ := by rw [hR.out, putS_stop (by rw [HDR.out]; simp) (Or.inr hf0)]
        have HRR := Lib.hid hrr
        clear hrr
        gi_wp2_with fail
        refine wpIn_region_K (fun w' => w'.cell? ⟨c1, 0, none⟩ = some (.pointer (some ⟨p, 0, none⟩)) ∧ w'.cell? ⟨p, 3, none⟩ = some (.bool false) ∧ w'.cell? ⟨p, 2, none⟩ = some (.int .i64 0) ∧ w'.frozen? ⟨p, 3, none⟩ = false) 14 (by kernel_rfl) ⟨k1, e3, e2, f3⟩ (fun hS => ?_)
        refine wpAnyKC_takeL 0 20 (v := ?_) hro (by kernel_rfl) (by kernel_rfl) (by kernel_rfl) rfl (by kernel_rfl) (by kernel_rfl) (fun _ _ _ h => h) (Or.inl ⟨by rfl, ?_⟩) (fun _ => rfl) (by assumption) ?_
        rotate_left
        · (intro wq hSq; (try dsimp only at hSq); go_simp; try with_reducible rfl)
        try simp only [Act.put, List.setIfInBounds_toArray, List.set_cons_zero, List.set_cons_succ]
        refine wpAnyKC_takeL 1 20 (v := ?_) hro (by kernel_rfl) (by kernel_rfl) (by kernel_rfl) rfl (by kernel_rfl) (by kernel_rfl) (fun _ _ _ h => h) (Or.inl ⟨by rfl, ?_⟩) (fun _ => rfl) (by assumption) ?_
        rotate_left
        · (intro wq hSq; (try dsimp only at hSq); go_simp; try with_reducible rfl)
        try simp only [Act.put, List.setIfInBounds_toArray, List.set_cons_zero, List.set_cons_succ]
        refine wpAnyKC_takeL 2 20 (v := ?_) hro (by kernel_rfl) (by kernel_rfl) (by kernel_rfl) rfl (by kernel_rfl) (by kernel_rfl) (fun _ _ _ h => h) (Or.inl ⟨by rfl, ?_⟩) (fun _ => rfl) (by assumption) ?_
        rotate_left
        · (intro wq hSq; (try dsimp only at hSq); go_simp; try with_reducible rfl)
        try simp only [Act.put, List.setIfInBounds_toArray, List.set_cons_zero, List.set_cons_succ]
        refine wpAnyKC_takeL 3 20 (v := ?_) hro (by kernel_rfl) (by kernel_rfl) (by kernel_rfl) rfl (by kernel_rfl) (by kernel_rfl) (fun _ _ _ h => h) (Or.inl ⟨by rfl, ?_⟩) (fun _ => rfl) (by assumption) ?_
        rotate_left
        · (intro wq hSq; (try dsimp only at hSq); go_simp; try with_reducible rfl)
        try simp only [Act.put, List.setIfInBounds_toArray, List.set_cons_zero, List.set_cons_succ]
        refine wpAnyKC_takeL 4 20 (v := ?_) hro (by kernel_rfl) (by kernel_rfl) (by kernel_rfl) rfl (by kernel_rfl) (by kernel_rfl) (fun _ _ _ h => h) (Or.inl ⟨by rfl, ?_⟩) (fun _ => rfl) (by assumption) ?_
        rotate_left
        · (intro wq hSq; (try dsimp only at hSq); go_simp; try with_reducible rfl)
        try simp only [Act.put, List.setIfInBounds_toArray, List.set_cons_zero, List.set_cons_succ]
        refine wpAnyKC_takeL 5 20 (v := ?_) hro (by kernel_rfl) (by kernel_rfl) (by kernel_rfl) rfl (by kernel_rfl) (by kernel_rfl) (fun _ _ _ h => h) (Or.inl ⟨by rfl, ?_⟩) (fun _ => rfl) (by assumption) ?_
        rotate_left
        · (intro wq hSq; (try dsimp only at hSq); go_simp; try with_reducible rfl)
        try simp only [Act.put, List.setIfInBounds_toArray, List.set_cons_zero, List.set_cons_succ]
        refine wpAnyKC_takeL 6 20 (v := ?_) hro (by kernel_rfl) (by kernel_rfl) (by kernel_rfl) rfl (by kernel_rfl) (by kernel_rfl) (fun _ _ _ h => h) (Or.inl ⟨by rfl, ?_⟩) (fun _ => rfl) (by assumption) ?_
        rotate_left
        · (intro wq hSq; (try dsimp only at hSq); go_simp; try with_reducible rfl)
        try simp only [Act.put, List.setIfInBounds_toArray, List.set_cons_zero, List.set_cons_succ]
        refine wpAnyKC_takeL 7 20 (v := ?_) hro (by kernel_rfl) (by kernel_rfl) (by kernel_rfl) rfl (by kernel_rfl) (by kernel_rfl) (fun _ _ _ h => h) (Or.inl ⟨by rfl, ?_⟩) (fun _ => rfl) (by assumption) ?_
        rotate_left
        · (intro wq hSq; (try dsimp only at hSq); go_simp; try with_reducible rfl)
        try simp only [Act.put, List.setIfInBounds_toArray, List.set_cons_zero, List.set_cons_succ]
        refine wpAnyKC_takeL 8 20 (v := ?_) hro (by kernel_rfl) (by kernel_rfl) (by kernel_rfl) rfl (by kernel_rfl) (by kernel_rfl) (fun _ _ _ h => h) (Or.inl ⟨by rfl, ?_⟩) (fun _ => rfl) (by assumption) ?_
        rotate_left
        · (intro wq hSq; (try dsimp only at hSq); go_simp; try with_reducible rfl)
        try simp only [Act.put, List.setIfInBounds_toArray, List.set_cons_zero, List.set_cons_succ]
        refine wpAnyKC_takeL 9 20 (v := ?_) hro (by kernel_rfl) (by kernel_rfl) (by kernel_rfl) rfl (by kernel_rfl) (by kernel_rfl) (fun _ _ _ h => h) (Or.inl ⟨by rfl, ?_⟩) (fun _ => rfl) (by assumption) ?_
        rotate_left
        · (intro wq hSq; (try dsimp only at hSq); go_simp; try with_reducible rfl)
        try simp only [Act.put, List.setIfInBounds_toArray, List.set_cons_zero, List.set_cons_succ]
        refine wpAnyKC_takeL 10 20 (v := ?_) hro (by kernel_rfl) (by kernel_rfl) (by kernel_rfl) rfl (by kernel_rfl) (by kernel_rfl) (fun _ _ _ h => h) (Or.inl ⟨by rfl, ?_⟩) (fun _ => rfl) (by assumption) ?_
        rotate_left
        · (intro wq hSq; (try dsimp only at hSq); go_simp; try with_reducible rfl)
        try simp only [Act.put, List.setIfInBounds_toArray, List.set_cons_zero, List.set_cons_succ]
        refine wpAnyKC_takeL 11 20 (v := ?_) hro (by kernel_rfl) (by kernel_rfl) (by kernel_rfl) rfl (by kernel_rfl) (by kernel_rfl) (fun _ _ _ h => h) (Or.inl ⟨by rfl, ?_⟩) (fun _ => rfl) (by assumption) ?_
        rotate_left
        · (intro wq hSq; (try dsimp only at hSq); go_simp; try with_reducible rfl)
        try simp only [Act.put, List.setIfInBounds_toArray, List.set_cons_zero, List.set_cons_succ]
        refine wpAnyKC_takeL 12 20 (v := ?_) hro (by kernel_rfl) (by kernel_rfl) (by kernel_rfl) rfl (by kernel_rfl) (by kernel_rfl) (fun _ _ _ h => h) (Or.inl ⟨by rfl, ?_⟩) (fun _ => rfl) (by assumption) ?_
        rotate_left
        · (intro wq hSq; (try dsimp only at hSq); go_simp; try with_reducible rfl)
        try simp only [Act.put, List.setIfInBounds_toArray, List.set_cons_zero, List.set_cons_succ]
        refine wpAnyKC_takeL 13 20 (v := ?_) hro (by kernel_rfl) (by kernel_rfl) (by kernel_rfl) rfl (by kernel_rfl) (by kernel_rfl) (fun _ _ _ h => h) (Or.inl ⟨by rfl, ?_⟩) (fun _ => rfl) (by assumption) ?_
        rotate_left
        · (intro wq hSq; (try dsimp only at hSq); go_simp; try with_reducible rfl)
        try simp only [Act.put, List.setIfInBounds_toArray, List.set_cons_zero, List.set_cons_succ]
        refine wpAnyKC_stepL 14 (by kernel_rfl) rfl (fun K hK => ?_)
        go_simp
        refine hK.out _ _ (fun h => by cases h) ?_
        clear hK K hS
        try simp only [Act.put, List.setIfInBounds_toArray, List.set_cons_zero, List.set_cons_succ]
        refine wpAnyKC_end (by kernel_rfl) ?_
        have hA4 : Hid (WrAt ((wr.setCell ⟨p, 3, none⟩ (.bool true)).drew) p b n x y ⟨si.h, si.fuse, true⟩) := (hWr.out.setFailed _).drew
        have hK4 : Hid (Kp (two p b) w ((wr.setCell ⟨p, 3, none⟩ (.bool true)).drew)) := (hKp.out.setCell (Or.inl rfl) _).drew
        generalize (wr.setCell ⟨p, 3, none⟩ (.bool true)).drew = w4 at hA4 hK4 ⊢
        clear k1 k2 e2 e3 f2 f3
        have k1 := hK4.out.cell N1.out H1.out
        have k2 := hK4.out.cell N2.out H2.out
        have q2 : w4.cell? ⟨p, 2, none⟩ = some (.int .i64 si.fuse) := (four_cells hA4.out.at_).2.2.1
        have q3 : w4.cell? ⟨p, 3, none⟩ = some (.bool true) := (four_cells hA4.out.at_).2.2.2.1
        have g2 : w4.frozen? ⟨p, 2, none⟩ = false := (four_cells hA4.out.at_).2.2.2.2.1
        gi_wp2
        refine bodyPost_ret (results_none rfl _ _ _) rfl ?_
        exact ⟨⟨_, rfl⟩, by rw [HRR.out]; exact hA4.out, hK4.out⟩
      · obtain ⟨fu, hfu⟩ : ∃ f, f = si.fuse := ⟨_, rfl⟩
        have hfb : (fu == 0) = false := by rw [beq_eq_false_iff_ne, hfu]; exact hf0
        rw [← hfu] at e2
        have FU := Lib.hid hfu
        have HF0 := Lib.hid hf0
        have hst : r = putS ⟨si.h.set (k + i) c, if 0 < si.fuse then si.fuse - 1 else si.fuse, false⟩ (k + (i + 1)) (s.drop (i + 1)) := by
          rw [hR.out, HDR.out, putS_step (by rw [hfd]; simpa using hf0)]; rfl
        have HST := Lib.hid hst
        have fb1 := hWr.out.f1
        have fb2 := hWr.out.f2
        rw [← hfu] at fb1 fb2
        clear hfu hf0 hst
        gi_wp2_with fail
        refine wpIn_region_K (fun w' => w'.cell? ⟨c1, 0, none⟩ = some (.pointer (some ⟨p, 0, none⟩)) ∧ w'.cell? ⟨p, 3, none⟩ = some (.bool false) ∧ w'.cell? ⟨p, 2, none⟩ = some (.int .i64 fu) ∧ w'.frozen? ⟨p, 3, none⟩ = false) 14 (by kernel_rfl) ⟨k1, e3, e2, f3⟩ (fun hS => ?_)
        refine wpAnyKC_takeL 0 20 (v := ?_) hro (by kernel_rfl) (by kernel_rfl) (by kernel_rfl) rfl (by kernel_rfl) (by kernel_rfl) (fun _ _ _ h => h) (Or.inl ⟨by rfl, ?_⟩) (fun _ => rfl) (by assumption) ?_
        rotate_left
        · (intro wq hSq; (try dsimp only at hSq); go_simp; try with_reducible rfl)
        try simp only [Act.put, List.setIfInBounds_toArray, List.set_cons_zero, List.set_cons_succ]
        refine wpAnyKC_takeL 1 20 (v := ?_) hro (by kernel_rfl) (by kernel_rfl) (by kernel_rfl) rfl (by kernel_rfl) (by kernel_rfl) (fun _ _ _ h => h) (Or.inl ⟨by rfl, ?_⟩) (fun _ => rfl) (by assumption) ?_
        rotate_left
        · (intro wq hSq; (try dsimp only at hSq); go_simp; try with_reducible rfl)
        try simp only [Act.put, List.setIfInBounds_toArray, List.set_cons_zero, List.set_cons_succ]
        refine wpAnyKC_takeL 2 20 (v := ?_) hro (by kernel_rfl) (by kernel_rfl) (by kernel_rfl) rfl (by kernel_rfl) (by kernel_rfl) (fun _ _ _ h => h) (Or.inl ⟨by rfl, ?_⟩) (fun _ => rfl) (by assumption) ?_
        rotate_left
        · (intro wq hSq; (try dsimp only at hSq); go_simp; try with_reducible rfl)
        try simp only [Act.put, List.setIfInBounds_toArray, List.set_cons_zero, List.set_cons_succ]
        refine wpAnyKC_takeL 3 20 (v := ?_) hro (by kernel_rfl) (by kernel_rfl) (by kernel_rfl) rfl (by kernel_rfl) (by kernel_rfl) (fun _ _ _ h => h) (Or.inl ⟨by rfl, ?_⟩) (fun _ => rfl) (by assumption) ?_
        rotate_left
        · (intro wq hSq; (try dsimp only at hSq); go_simp; try with_reducible rfl)
        try simp only [Act.put, List.setIfInBounds_toArray, List.set_cons_zero, List.set_cons_succ]
        refine wpAnyKC_takeL 4 20 (v := ?_) hro (by kernel_rfl) (by kernel_rfl) (by kernel_rfl) rfl (by kernel_rfl) (by kernel_rfl) (fun _ _ _ h => h) (Or.inl ⟨by rfl, ?_⟩) (fun _ => rfl) (by assumption) ?_
        rotate_left
        · (intro wq hSq; (try dsimp only at hSq); go_simp; try with_reducible rfl)
        try simp only [Act.put, List.setIfInBounds_toArray, List.set_cons_zero, List.set_cons_succ]
        refine wpAnyKC_takeL 5 20 (v := ?_) hro (by kernel_rfl) (by kernel_rfl) (by kernel_rfl) rfl (by kernel_rfl) (by kernel_rfl) (fun _ _ _ h => h) (Or.inl ⟨by rfl, ?_⟩) (fun _ => rfl) (by assumption) ?_
        rotate_left
        · (intro wq hSq; (try dsimp only at hSq); go_simp; try with_reducible rfl)
        try simp only [Act.put, List.setIfInBounds_toArray, List.set_cons_zero, List.set_cons_succ]
        refine wpAnyKC_takeL 6 20 (v := ?_) hro (by kernel_rfl) (by kernel_rfl) (by kernel_rfl) rfl (by kernel_rfl) (by kernel_rfl) (fun _ _ _ h => h) (Or.inl ⟨by rfl, ?_⟩) (fun _ => rfl) (by assumption) ?_
        rotate_left
        · (intro wq hSq; (try dsimp only at hSq); go_simp; try with_reducible rfl)
        try simp only [Act.put, List.setIfInBounds_toArray, List.set_cons_zero, List.set_cons_succ]
        refine wpAnyKC_takeL 7 20 (v := ?_) hro (by kernel_rfl) (by kernel_rfl) (by kernel_rfl) rfl (by kernel_rfl) (by kernel_rfl) (fun _ _ _ h => h) (Or.inl ⟨by rfl, ?_⟩) (fun _ => rfl) (by assumption) ?_
        rotate_left
        · (intro wq hSq; (try dsimp only at hSq); go_simp; try with_reducible rfl)
        try simp only [Act.put, List.setIfInBounds_toArray, List.set_cons_zero, List.set_cons_succ]
        refine wpAnyKC_takeL 8 20 (v := ?_) hro (by kernel_rfl) (by kernel_rfl) (by kernel_rfl) rfl (by kernel_rfl) (by kernel_rfl) (fun _ _ _ h => h) (Or.inl ⟨by rfl, ?_⟩) (fun _ => rfl) (by assumption) ?_
        rotate_left
        · (intro wq hSq; (try dsimp only at hSq); go_simp; try with_reducible rfl)
        try simp only [Act.put, List.setIfInBounds_toArray, List.set_cons_zero, List.set_cons_succ]
        refine wpAnyKC_takeL 9 20 (v := ?_) hro (by kernel_rfl) (by kernel_rfl) (by kernel_rfl) rfl (by kernel_rfl) (by kernel_rfl) (fun _ _ _ h => h) (Or.inl ⟨by rfl, ?_⟩) (fun _ => rfl) (by assumption) ?_
        rotate_left
        · (intro wq hSq; (try dsimp only at hSq); go_simp; try with_reducible rfl)
        try simp only [Act.put, List.setIfInBounds_toArray, List.set_cons_zero, List.set_cons_succ]
        refine wpAnyKC_takeL 10 20 (v := ?_) hro (by kernel_rfl) (by kernel_rfl) (by kernel_rfl) rfl (by kernel_rfl) (by kernel_rfl) (fun _ _ _ h => h) (Or.inl ⟨by rfl, ?_⟩) (fun _ => rfl) (by assumption) ?_
        rotate_left
        · (intro wq hSq; (try dsimp only at hSq); go_simp; try with_reducible rfl)
        try simp only [Act.put, List.setIfInBounds_toArray, List.set_cons_zero, List.set_cons_succ]
        refine wpAnyKC_takeL 11 20 (v := ?_) hro (by kernel_rfl) (by kernel_rfl) (by kernel_rfl) rfl (by kernel_rfl) (by kernel_rfl) (fun _ _ _ h => h) (Or.inl ⟨by rfl, ?_⟩) (fun _ => rfl) (by assumption) ?_
        rotate_left
        · (intro wq hSq; (try dsimp only at hSq); go_simp; try with_reducible rfl)
        try simp only [Act.put, List.setIfInBounds_toArray, List.set_cons_zero, List.set_cons_succ]
        refine wpAnyKC_takeL 12 20 (v := ?_) hro (by kernel_rfl) (by kernel_rfl) (by kernel_rfl) rfl (by kernel_rfl) (by kernel_rfl) (fun _ _ _ h => h) (Or.inl ⟨by rfl, ?_⟩) (fun _ => rfl) (by assumption) ?_
        rotate_left
        · (intro wq hSq; (try dsimp only at hSq); go_simp; try with_reducible rfl)
        try simp only [Act.put, List.setIfInBounds_toArray, List.set_cons_zero, List.set_cons_succ]
        refine wpAnyKC_takeL 13 20 (v := ?_) hro (by kernel_rfl) (by kernel_rfl) (by kernel_rfl) rfl (by kernel_rfl) (by kernel_rfl) (fun _ _ _ h => h) (Or.inl ⟨by rfl, ?_⟩) (fun _ => rfl) (by assumption) ?_
        rotate_left
        · (intro wq hSq; (try dsimp only at hSq); go_simp; try with_reducible rfl)
        try simp only [Act.put, List.setIfInBounds_toArray, List.set_cons_zero, List.set_cons_succ]
        refine wpAnyKC_stepL 14 (by kernel_rfl) rfl (fun K hK => ?_)
        go_simp
        refine hK.out _ _ (fun h => by cases h) ?_
        clear hK K hS
        try simp only [Act.put, List.setIfInBounds_toArray, List.set_cons_zero, List.set_cons_succ]
        refine wpAnyKC_end (by kernel_rfl) ?_
        have hA4 : Hid (WrAt ((wr.setCell ⟨p, 3, none⟩ (.bool false)).drew) p b n x y ⟨si.h, si.fuse, false⟩) := (hWr.out.setFailed _).drew
        have hK4 : Hid (Kp (two p b) w ((wr.setCell ⟨p, 3, none⟩ (.bool false)).drew)) := (hKp.out.setCell (Or.inl rfl) _).drew
        generalize (wr.setCell ⟨p, 3, none⟩ (.bool false)).drew = w4 at hA4 hK4 ⊢
        clear k1 k2 e2 e3 f2 f3
        have k1 := hK4.out.cell N1.out H1.out
        have k2 := hK4.out.cell N2.out H2.out
        have q2 : w4.cell? ⟨p, 2, none⟩ = some (.int .i64 fu) := by rw [FU.out]; exact (four_cells hA4.out.at_).2.2.1
        have q3 : w4.cell? ⟨p, 3, none⟩ = some (.bool false) := (four_cells hA4.out.at_).2.2.2.1
        have g2 : w4.frozen? ⟨p, 2, none⟩ = false := (four_cells hA4.out.at_).2.2.2.2.1
        clear hWr hKp
        obtain ⟨j, hj⟩ : ∃ j, j = k + i := ⟨_, rfl⟩
        have hk3 : j < n := by omega
        have HJ := Lib.hid hj
        have hwi : IntKind.i64.wrap ((k : Int) + (i : Int)) = (j : Int) := by rw [IntWalk.i64_in _ ⟨by omega, by omega⟩]; omega
        clear hj
        have hsi : (bytesOf s)[i]'(by rw [hs]; exact hlt) = c := by
          have := HC.out
          rw [List.getElem?_eq_getElem (by omega)] at this
          injection this
        by_cases hp : 0 < fu
        · have hw1 : IntKind.i64.wrap (fu - 1) = fu - 1 := IntWalk.i64_in _ ⟨by omega, by omega⟩
          gi_wp2_with fail
          have hA5 : Hid (WrAt (w4.setCell ⟨p, 2, none⟩ (.int .i64 (fu - 1))) p b n x y ⟨si.h, fu - 1, false⟩) := hA4.out.setFuse _ (by omega) (by omega)
          have hK5 : Hid (Kp (two p b) w (w4.setCell ⟨p, 2, none⟩ (.int .i64 (fu - 1)))) := hK4.out.setCell (Or.inl rfl) _
          generalize w4.setCell ⟨p, 2, none⟩ (.int .i64 (fu - 1)) = w5 at hA5 hK5 ⊢
          clear k1 k2 q2 q3 g2 hA4 hK4
          have k2 := hK5.out.cell N2.out H2.out
          obtain ⟨th, hth⟩ := hA5.out.half
          have hlh : si.h.length = n := hA5.out.len
          obtain ⟨b1, b2⟩ := half_cells hth j (by rw [hlh]; exact hk3)
          generalize si.h[j] = c0 at b1
          clear hth
          refine wpIn_region_K (fun w' => w'.cell? ⟨c2, 0, none⟩ = some (.slice (some ⟨b, 0, none⟩) n n) ∧ w'.cell? ⟨b, j, none⟩ = some (byteV c0) ∧ w'.frozen? ⟨b, j, none⟩ = false) 8 (by kernel_rfl) ⟨k2, b1, b2⟩ (fun hS => ?_)
          refine wpAnyKC_takeL 0 20 (v := ?_) hro (by kernel_rfl) (by kernel_rfl) (by kernel_rfl) rfl (by kernel_rfl) (by kernel_rfl) (fun _ _ _ h => h) (Or.inl ⟨by rfl, ?_⟩) (fun _ => rfl) (by assumption) ?_
          rotate_left
          · (intro wq hSq; (try dsimp only at hSq); go_simp; try with_reducible rfl)
          try simp only [Act.put, List.setIfInBounds_toArray, List.set_cons_zero, List.set_cons_succ]
          refine wpAnyKC_takeL 1 20 (v := ?_) hro (by kernel_rfl) (by kernel_rfl) (by kernel_rfl) rfl (by kernel_rfl) (by kernel_rfl) (fun _ _ _ h => h) (Or.inl ⟨by rfl, ?_⟩) (fun _ => rfl) (by assumption) ?_
          rotate_left
          · (intro wq hSq; (try dsimp only at hSq); go_simp; try with_reducible rfl)
          try simp only [Act.put, List.setIfInBounds_toArray, List.set_cons_zero, List.set_cons_succ]
          refine wpAnyKC_takeL 2 20 (v := ?_) hro (by kernel_rfl) (by kernel_rfl) (by kernel_rfl) rfl (by kernel_rfl) (by kernel_rfl) (fun _ _ _ h => h) (Or.inl ⟨by rfl, ?_⟩) (fun _ => rfl) (by assumption) ?_
          rotate_left
          · (intro wq hSq; (try dsimp only at hSq); go_simp; try with_reducible rfl)
          try simp only [Act.put, List.setIfInBounds_toArray, List.set_cons_zero, List.set_cons_succ]
          refine wpAnyKC_takeL 3 20 (v := ?_) hro (by kernel_rfl) (by kernel_rfl) (by kernel_rfl) rfl (by kernel_rfl) (by kernel_rfl) (fun _ _ _ h => h) (Or.inl ⟨by rfl, ?_⟩) (fun _ => rfl) (by assumption) ?_
          rotate_left
          · (intro wq hSq; (try dsimp only at hSq); go_simp; try with_reducible rfl)
          try simp only [Act.put, List.setIfInBounds_toArray, List.set_cons_zero, List.set_cons_succ]
          refine wpAnyKC_takeL 4 20 (v := ?_) hro (by kernel_rfl) (by kernel_rfl) (by kernel_rfl) rfl (by kernel_rfl) (by kernel_rfl) (fun _ _ _ h => h) (Or.inl ⟨by rfl, ?_⟩) (fun _ => rfl) (by assumption) ?_
          rotate_left
          · (intro wq hSq; (try dsimp only at hSq); go_simp; try with_reducible rfl)
          try simp only [Act.put, List.setIfInBounds_toArray, List.set_cons_zero, List.set_cons_succ]
          refine wpAnyKC_takeL 5 20 (v := ?_) hro (by kernel_rfl) (by kernel_rfl) (by kernel_rfl) rfl (by kernel_rfl) (by kernel_rfl) (fun _ _ _ h => h) (Or.inl ⟨by rfl, ?_⟩) (fun _ => rfl) (by assumption) ?_
          rotate_left
          · (intro wq hSq; (try dsimp only at hSq); go_simp; try with_reducible rfl)
          try simp only [Act.put, List.setIfInBounds_toArray, List.set_cons_zero, List.set_cons_succ]
          refine wpAnyKC_takeL 6 20 (v := ?_) hro (by kernel_rfl) (by kernel_rfl) (by kernel_rfl) rfl (by kernel_rfl) (by kernel_rfl) (fun _ _ _ h => h) (Or.inl ⟨by rfl, ?_⟩) (fun _ => rfl) (by assumption) ?_
          rotate_left
          · (intro wq hSq; (try dsimp only at hSq); go_simp; try with_reducible rfl)
          try simp only [Act.put, List.setIfInBounds_toArray, List.set_cons_zero, List.set_cons_succ]
          refine wpAnyKC_takeL 7 20 (v := ?_) hro (by kernel_rfl) (by kernel_rfl) (by kernel_rfl) rfl (by kernel_rfl) (by kernel_rfl) (fun _ _ _ h => h) (Or.inl ⟨by rfl, ?_⟩) (fun _ => rfl) (by assumption) ?_
          rotate_left
          · (intro wq hSq; (try dsimp only at hSq); go_simp; try with_reducible rfl)
          try simp only [Act.put, List.setIfInBounds_toArray, List.set_cons_zero, List.set_cons_succ]
          refine wpAnyKC_stepL 8 (by kernel_rfl) rfl (fun K hK => ?_)
          go_simp
          refine hK.out _ _ (fun h => by cases h) ?_
          clear hK K hS
          try simp only [Act.put, List.setIfInBounds_toArray, List.set_cons_zero, List.set_cons_succ]
          refine wpAnyKC_end (by kernel_rfl) ?_
          have hA6 : Hid (WrAt (w5.setCell ⟨b, j, none⟩ (byteV c)).drew p b n x y ⟨si.h.set j c, fu - 1, false⟩) := (hA5.out.setByte _ _).drew
          have hK6 : Hid (Kp (two p b) w (w5.setCell ⟨b, j, none⟩ (byteV c)).drew) := (hK5.out.setCell (Or.inr rfl) _).drew
          try rw [hsi]
          generalize (w5.setCell ⟨b, j, none⟩ (byteV c)).drew = w6 at hA6 hK6 ⊢
          clear b1 b2 k2
          gi_wp2
          go_roundw
          case rel =>
            refine ⟨i + 1, ⟨si.h.set j c, fu - 1, false⟩, by omega, by go_num, ?_, hA6.out, hK6.out⟩
            show _ = _
            rw [HST.out, ← HJ.out]
            rw [← FU.out, if_pos hp]
          case measure => simp [intOf]; omega
        · gi_wp2_with fail
          obtain ⟨th, hth⟩ := hA4.out.half
          have hlh : si.h.length = n := hA4.out.len
          obtain ⟨b1, b2⟩ := half_cells hth j (by rw [hlh]; exact hk3)
          generalize si.h[j] = c0 at b1
          clear hth
          refine wpIn_region_K (fun w' => w'.cell? ⟨c2, 0, none⟩ = some (.slice (some ⟨b, 0, none⟩) n n) ∧ w'.cell? ⟨b, j, none⟩ = some (byteV c0) ∧ w'.frozen? ⟨b, j, none⟩ = false) 8 (by kernel_rfl) ⟨k2, b1, b2⟩ (fun hS => ?_)
          refine wpAnyKC_takeL 0 20 (v := ?_) hro (by kernel_rfl) (by kernel_rfl) (by kernel_rfl) rfl (by kernel_rfl) (by kernel_rfl) (fun _ _ _ h => h) (Or.inl ⟨by rfl, ?_⟩) (fun _ => rfl) (by assumption) ?_
          rotate_left
          · (intro wq hSq; (try dsimp only at hSq); go_simp; try with_reducible rfl)
          try simp only [Act.put, List.setIfInBounds_toArray, List.set_cons_zero, List.set_cons_succ]
          refine wpAnyKC_takeL 1 20 (v := ?_) hro (by kernel_rfl) (by kernel_rfl) (by kernel_rfl) rfl (by kernel_rfl) (by kernel_rfl) (fun _ _ _ h => h) (Or.inl ⟨by rfl, ?_⟩) (fun _ => rfl) (by assumption) ?_
          rotate_left
          · (intro wq hSq; (try dsimp only at hSq); go_simp; try with_reducible rfl)
          try simp only [Act.put, List.setIfInBounds_toArray, List.set_cons_zero, List.set_cons_succ]
          refine wpAnyKC_takeL 2 20 (v := ?_) hro (by kernel_rfl) (by kernel_rfl) (by kernel_rfl) rfl (by kernel_rfl) (by kernel_rfl) (fun _ _ _ h => h) (Or.inl ⟨by rfl, ?_⟩) (fun _ => rfl) (by assumption) ?_
          rotate_left
          · (intro wq hSq; (try dsimp only at hSq); go_simp; try with_reducible rfl)
          try simp only [Act.put, List.setIfInBounds_toArray, List.set_cons_zero, List.set_cons_succ]
          refine wpAnyKC_takeL 3 20 (v := ?_) hro (by kernel_rfl) (by kernel_rfl) (by kernel_rfl) rfl (by kernel_rfl) (by kernel_rfl) (fun _ _ _ h => h) (Or.inl ⟨by rfl, ?_⟩) (fun _ => rfl) (by assumption) ?_
          rotate_left
          · (intro wq hSq; (try dsimp only at hSq); go_simp; try with_reducible rfl)
          try simp only [Act.put, List.setIfInBounds_toArray, List.set_cons_zero, List.set_cons_succ]
          refine wpAnyKC_takeL 4 20 (v := ?_) hro (by kernel_rfl) (by kernel_rfl) (by kernel_rfl) rfl (by kernel_rfl) (by kernel_rfl) (fun _ _ _ h => h) (Or.inl ⟨by rfl, ?_⟩) (fun _ => rfl) (by assumption) ?_
          rotate_left
          · (intro wq hSq; (try dsimp only at hSq); go_simp; try with_reducible rfl)
          try simp only [Act.put, List.setIfInBounds_toArray, List.set_cons_zero, List.set_cons_succ]
          refine wpAnyKC_takeL 5 20 (v := ?_) hro (by kernel_rfl) (by kernel_rfl) (by kernel_rfl) rfl (by kernel_rfl) (by kernel_rfl) (fun _ _ _ h => h) (Or.inl ⟨by rfl, ?_⟩) (fun _ => rfl) (by assumption) ?_
          rotate_left
          · (intro wq hSq; (try dsimp only at hSq); go_simp; try with_reducible rfl)
          try simp only [Act.put, List.setIfInBounds_toArray, List.set_cons_zero, List.set_cons_succ]
          refine wpAnyKC_takeL 6 20 (v := ?_) hro (by kernel_rfl) (by kernel_rfl) (by kernel_rfl) rfl (by kernel_rfl) (by kernel_rfl) (fun _ _ _ h => h) (Or.inl ⟨by rfl, ?_⟩) (fun _ => rfl) (by assumption) ?_
          rotate_left
          · (intro wq hSq; (try dsimp only at hSq); go_simp; try with_reducible rfl)
          try simp only [Act.put, List.setIfInBounds_toArray, List.set_cons_zero, List.set_cons_succ]
          refine wpAnyKC_takeL 7 20 (v := ?_) hro (by kernel_rfl) (by kernel_rfl) (by kernel_rfl) rfl (by kernel_rfl) (by kernel_rfl) (fun _ _ _ h => h) (Or.inl ⟨by rfl, ?_⟩) (fun _ => rfl) (by assumption) ?_
          rotate_left
          · (intro wq hSq; (try dsimp only at hSq); go_simp; try with_reducible rfl)
          try simp only [Act.put, List.setIfInBounds_toArray, List.set_cons_zero, List.set_cons_succ]
          refine wpAnyKC_stepL 8 (by kernel_rfl) rfl (fun K hK => ?_)
          go_simp
          refine hK.out _ _ (fun h => by cases h) ?_
          clear hK K hS
          try simp only [Act.put, List.setIfInBounds_toArray, List.set_cons_zero, List.set_cons_succ]
          refine wpAnyKC_end (by kernel_rfl) ?_
          have hA6 : Hid (WrAt (w4.setCell ⟨b, j, none⟩ (byteV c)).drew p b n x y ⟨si.h.set j c, si.fuse, false⟩) := (hA4.out.setByte _ _).drew
          have hK6 : Hid (Kp (two p b) w (w4.setCell ⟨b, j, none⟩ (byteV c)).drew) := (hK4.out.setCell (Or.inr rfl) _).drew
          try rw [hsi]
          generalize (w4.setCell ⟨b, j, none⟩ (byteV c)).drew = w6 at hA6 hK6 ⊢
          clear b1 b2 k2
          gi_wp2
          go_roundw
          case rel =>
            refine ⟨i + 1, ⟨si.h.set j c, si.fuse, false⟩, by omega, by go_num, ?_, hA6.out, hK6.out⟩
            show _ = _
            rw [HST.out, ← HJ.out]
            rw [← FU.out, if_neg (by omega)]
          case measure => simp [intOf]; omega
end Go.Proofs.Ytjfmcobikadjhaa
