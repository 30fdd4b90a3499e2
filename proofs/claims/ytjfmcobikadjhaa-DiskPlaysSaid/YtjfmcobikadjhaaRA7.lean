/- Walks: the reference's disk: the records of a half. -/
import Derived.Test.YtjfmcobikadjhaaRA6
namespace Go.Proofs.Ytjfmcobikadjhaa
set_option linter.all false
open Go.RowKit Go.Shelf
theorem owns_drewS {w : World} {base : Nat} {e : TypeId} {size : Nat} {v : Value} {n : Nat} {xs : List Value} (h : w.owns base e size v n xs) : w.drew.owns base e size v n xs := h
set_option maxRecDepth 100000 in
set_option maxHeartbeats 40000000 in
theorem rrecords_any (p b half g : Nat) (hh : half ≤ 1) (hg : g < 9223372036854775808) (d : Dk) (w : World) (hd : RDiskAt w p b d) (ho : d.ok) :
    Calls Try.prog 50 #[.pointer (some ⟨p, 0, none⟩), .int .i64 (half : Int), .int .i64 (g : Int)] w fun e w' =>
      (∃ v, e = .returned (.tuple #[v, .int .i64 (endR (d.hf half) g : Int)]) ∧ w'.reads w'.heap.size v (((recs (d.hf half) g).map (·.2)).map strV) ∧ (∀ z, v.ownBlock = some z → w.heap.size ≤ z)) ∧ Below w.heap.size w w' := by
  obtain ⟨X, hX⟩ : ∃ X, X = d.hf half := ⟨_, rfl⟩
  obtain ⟨E, hE⟩ : ∃ E, E = endR X g := ⟨_, rfl⟩
  rw [← hX, ← hE]
  obtain ⟨A, hA⟩ : ∃ A, A = half * d.size := ⟨_, rfl⟩
  obtain ⟨m, hm⟩ : ∃ m, m = d.size := ⟨_, rfl⟩
  have hlo := ho.lo
  have hhi := ho.hi
  have hAb : A + d.size ≤ 2 * d.size := by
    rw [hA]
    rcases (show half = 0 ∨ half = 1 by omega) with rfl | rfl <;> omega
  have hmul : (half : Int) * (m : Int) = (A : Int) := by rw [hA, hm]; push_cast; rfl
  have hXl : X.length = m := by rw [hX, hf_length ho half, hm]
  have hbl := both_length ho
  have BG : Hid (∀ i, i < m → (d.h0 ++ d.h1)[A + i]? = X[i]?) := fun i hi => by
    have := both_get ho half hh i (by omega)
    rw [← hA, ← hX] at this; exact this
  have BT : Hid (∀ o q, o + q ≤ m → ((d.h0 ++ d.h1).drop (A + o)).take q = (X.drop o).take q) := fun o q hq => by
    have := both_take ho half hh o q (by omega)
    rw [← hA, ← hX] at this; exact this
  obtain ⟨S, hS⟩ : ∃ S, S = 2 * d.size := ⟨_, rfl⟩
  have HK0 : Hid (∀ W, RDiskAt W p b d → W.cell? ⟨p, 0, none⟩ = some (.int .i64 (m : Int))) := fun W hW => by rw [hm]; exact (four_cells hW.at_).1
  have HK1 : Hid (∀ W, RDiskAt W p b d → W.cell? ⟨p, 1, none⟩ = some (.slice (some ⟨b, 0, none⟩) S S)) := fun W hW => by rw [hS]; exact (four_cells hW.at_).2.1
  have HNUM : Hid (∀ (W : World) (at_ : Nat), RDiskAt W p b d → at_ + 4 ≤ S → Calls Try.prog 58 #[.pointer (some ⟨p, 0, none⟩), .int .i64 (at_ : Int), .int .i64 4] W fun e w' => e = .returned (.int .i64 (sgn (numL (((d.h0 ++ d.h1).drop at_).take 4)))) ∧ W = w') := fun W at_ hW h4 => rnumber_any p b at_ 4 d W hW ho (by omega) (by omega)
  have HTX : Hid (∀ W, RDiskAt W p b d → ∀ o q c, o + q ≤ S → (convert 49 9 (.slice (some ⟨b, o, none⟩) q c)).run Try.prog W = .ok (.string (bytesOf (((d.h0 ++ d.h1).drop o).take q))) W) := fun W hW o q c hq => hW.half.text o q (by rw [hbl]; omega) c
  have hAS : A + m ≤ S := by omega
  have hSm : S ≤ 600000 := by omega
  have hm64 : 64 ≤ m := by omega
  have hmmx : m ≤ 262144 := by omega
  have HD := Lib.hid hd
  have HE := Lib.hid hE
  have HXL := Lib.hid hXl
  have HR0 : Hid (recs X g = recF X g m 17) := by show _ = _; unfold recs; rw [hXl]
  have hwm : IntKind.i64.wrap (A : Int) = (A : Int) := IntWalk.i64_in _ ⟨by omega, by omega⟩
  clear hd ho hX hE hA hm hlo hhi hAb hXl hbl hS
  obtain ⟨i0, hi0, hiz, hiz1, hizb⟩ := info_parts infoStr
  go_enter Try.func50, Try.ntmps50
  go_wp2_with fail
  go_loopw [8, 9] (fun ov kv wr => ∃ (k f : Nat) (pre : List (Nat × List UInt8)) (va : Option Addr) (L vc : Nat), kv = .int .i64 (k : Int) ∧ ov = .slice va L vc ∧ 17 + 13 * L ≤ k ∧ f + L = m ∧ k ≤ 17 + m ∧ Hid (pre.length = L) ∧ Hid (recs X g = pre ++ recF X g f k) ∧ Hid (lastE pre = k) ∧ Hid (wr.owns w.heap.size 9 1 (.slice va L vc) L ((pre.map (·.2)).map strV)) ∧ Hid (Below w.heap.size w wr)) (fun _ kv _ => 17 + m - (intOf kv).toNat)
  case atStart => exact ⟨17, m, [], none, 0, 0, rfl, rfl, by omega, by omega, by omega, rfl, HR0.out, rfl, World.owns_nil _ _ _ _, Below.refl _ _⟩
  case round =>
    obtain ⟨k, f, pre, va, L, vc, rfl, rfl, hk1, hf, hk2, hpl, hrec, hlast, hown, hB⟩ := hrel
    have HDr := Lib.hid (HD.out.kept hB.out)
    have hz := hB.out.size
    have q0 := HK0.out wr.drew HDr.out.drew
    have q1 := HK1.out wr.drew HDr.out.drew
    have hwk : IntKind.i64.wrap ((k : Int) + 13) = (k : Int) + 13 := IntWalk.i64_in _ ⟨by omega, by omega⟩
    by_cases a1 : k + 13 ≤ m
    case neg =>
      have hnx : nextR X g k = none := by unfold nextR; rw [if_neg]; rintro ⟨q, -⟩; rw [HXL.out] at q; exact a1 q
      have t1 : decide ((k : Int) + 13 ≤ (m : Int)) = false := decide_eq_false (by omega)
      go_wp2_with fail
      refine wp_region_heldL (fun w' => w'.cell? ⟨p, 0, none⟩ = some (.int .i64 (m : Int))) (by kernel_rfl) q0 (fun hS => ?_)
      refine wpAnyH_takeL 0 (v := ?_) (by kernel_rfl) rfl (by kernel_rfl) (by kernel_rfl) (fun _ _ _ h => h) (Or.inl ⟨by rfl, ?_⟩) (by assumption) ?_
      rotate_left
      · (intro wq hSq; (try dsimp only at hSq); go_simp; try with_reducible rfl)
      try simp only [Act.put, List.setIfInBounds_toArray, List.set_cons_zero, List.set_cons_succ]
      refine wpAnyH_takeL 1 (v := ?_) (by kernel_rfl) rfl (by kernel_rfl) (by kernel_rfl) (fun _ _ _ h => h) (Or.inl ⟨by rfl, ?_⟩) (by assumption) ?_
      rotate_left
      · (intro wq hSq; (try dsimp only at hSq); go_simp; try with_reducible rfl)
      try simp only [Act.put, List.setIfInBounds_toArray, List.set_cons_zero, List.set_cons_succ]
      refine wpAnyH_takeL 2 (v := ?_) (by kernel_rfl) rfl (by kernel_rfl) (by kernel_rfl) (fun _ _ _ h => h) (Or.inl ⟨by rfl, ?_⟩) (by assumption) ?_
      rotate_left
      · (intro wq hSq; (try dsimp only at hSq); go_simp; try with_reducible rfl)
      try simp only [Act.put, List.setIfInBounds_toArray, List.set_cons_zero, List.set_cons_succ]
      refine wpAnyH_takeL 3 (v := ?_) (by kernel_rfl) rfl (by kernel_rfl) (by kernel_rfl) (fun _ _ _ h => h) (Or.inl ⟨by rfl, ?_⟩) (by assumption) ?_
      rotate_left
      · (intro wq hSq; (try dsimp only at hSq); go_simp; try with_reducible rfl)
      try simp only [Act.put, List.setIfInBounds_toArray, List.set_cons_zero, List.set_cons_succ]
      refine wpAnyH_takeL 4 (v := ?_) (by kernel_rfl) rfl (by kernel_rfl) (by kernel_rfl) (fun _ _ _ h => h) (Or.inl ⟨by rfl, ?_⟩) (by assumption) ?_
      rotate_left
      · (intro wq hSq; (try dsimp only at hSq); go_simp; try with_reducible rfl)
      try simp only [Act.put, List.setIfInBounds_toArray, List.set_cons_zero, List.set_cons_succ]
      refine wpAnyH_takeL 5 (v := ?_) (by kernel_rfl) rfl (by kernel_rfl) (by kernel_rfl) (fun _ _ _ h => h) (Or.inl ⟨by rfl, ?_⟩) (by assumption) ?_
      rotate_left
      · (intro wq hSq; (try dsimp only at hSq); go_simp; try with_reducible rfl)
      try simp only [Act.put, List.setIfInBounds_toArray, List.set_cons_zero, List.set_cons_succ]
      refine wpAnyH_takeL 6 (v := ?_) (by kernel_rfl) rfl (by kernel_rfl) (by kernel_rfl) (fun _ _ _ h => h) (Or.inl ⟨by rfl, ?_⟩) (by assumption) ?_
      rotate_left
      · (intro wq hSq; (try dsimp only at hSq); go_simp; try with_reducible rfl)
      try simp only [Act.put, List.setIfInBounds_toArray, List.set_cons_zero, List.set_cons_succ]
      refine wpAnyH_takeL 7 (v := ?_) (by kernel_rfl) rfl (by kernel_rfl) (by kernel_rfl) (fun _ _ _ h => h) (Or.inl ⟨by rfl, ?_⟩) (by assumption) ?_
      rotate_left
      · (intro wq hSq; (try dsimp only at hSq); go_simp; try with_reducible rfl)
      try simp only [Act.put, List.setIfInBounds_toArray, List.set_cons_zero, List.set_cons_succ]
      refine wpAnyH_takeL 8 (v := undef) (by kernel_rfl) rfl (by kernel_rfl) (by kernel_rfl) (fun _ _ _ h => h) (Or.inr ⟨by rfl, rfl⟩) (by assumption) ?_
      try simp only [Act.put, List.setIfInBounds_toArray, List.set_cons_zero, List.set_cons_succ]
      refine wpAnyH_takeL 9 (v := undef) (by kernel_rfl) rfl (by kernel_rfl) (by kernel_rfl) (fun _ _ _ h => h) (Or.inr ⟨by rfl, rfl⟩) (by assumption) ?_
      try simp only [Act.put, List.setIfInBounds_toArray, List.set_cons_zero, List.set_cons_succ]
      refine wpAnyH_takeL 10 (v := undef) (by kernel_rfl) rfl (by kernel_rfl) (by kernel_rfl) (fun _ _ _ h => h) (Or.inr ⟨by rfl, rfl⟩) (by assumption) ?_
      try simp only [Act.put, List.setIfInBounds_toArray, List.set_cons_zero, List.set_cons_succ]
      refine wpAnyH_takeL 11 (v := undef) (by kernel_rfl) rfl (by kernel_rfl) (by kernel_rfl) (fun _ _ _ h => h) (Or.inr ⟨by rfl, rfl⟩) (by assumption) ?_
      try simp only [Act.put, List.setIfInBounds_toArray, List.set_cons_zero, List.set_cons_succ]
      refine wpAnyH_takeL 12 (v := undef) (by kernel_rfl) rfl (by kernel_rfl) (by kernel_rfl) (fun _ _ _ h => h) (Or.inr ⟨by rfl, rfl⟩) (by assumption) ?_
      try simp only [Act.put, List.setIfInBounds_toArray, List.set_cons_zero, List.set_cons_succ]
      refine wpAnyH_takeL 13 (v := undef) (by kernel_rfl) rfl (by kernel_rfl) (by kernel_rfl) (fun _ _ _ h => h) (Or.inr ⟨by rfl, rfl⟩) (by assumption) ?_
      try simp only [Act.put, List.setIfInBounds_toArray, List.set_cons_zero, List.set_cons_succ]
      refine wpAnyH_takeL 14 (v := undef) (by kernel_rfl) rfl (by kernel_rfl) (by kernel_rfl) (fun _ _ _ h => h) (Or.inr ⟨by rfl, rfl⟩) (by assumption) ?_
      try simp only [Act.put, List.setIfInBounds_toArray, List.set_cons_zero, List.set_cons_succ]
      refine wpAnyH_takeL 15 (v := undef) (by kernel_rfl) rfl (by kernel_rfl) (by kernel_rfl) (fun _ _ _ h => h) (Or.inr ⟨by rfl, rfl⟩) (by assumption) ?_
      try simp only [Act.put, List.setIfInBounds_toArray, List.set_cons_zero, List.set_cons_succ]
      refine wpAnyH_takeL 16 (v := undef) (by kernel_rfl) rfl (by kernel_rfl) (by kernel_rfl) (fun _ _ _ h => h) (Or.inr ⟨by rfl, rfl⟩) (by assumption) ?_
      try simp only [Act.put, List.setIfInBounds_toArray, List.set_cons_zero, List.set_cons_succ]
      refine wpAnyH_takeL 17 (v := undef) (by kernel_rfl) rfl (by kernel_rfl) (by kernel_rfl) (fun _ _ _ h => h) (Or.inr ⟨by rfl, rfl⟩) (by assumption) ?_
      try simp only [Act.put, List.setIfInBounds_toArray, List.set_cons_zero, List.set_cons_succ]
      refine wpAnyH_takeL 18 (v := undef) (by kernel_rfl) rfl (by kernel_rfl) (by kernel_rfl) (fun _ _ _ h => h) (Or.inr ⟨by rfl, rfl⟩) (by assumption) ?_
      try simp only [Act.put, List.setIfInBounds_toArray, List.set_cons_zero, List.set_cons_succ]
      refine wpAnyH_takeL 19 (v := undef) (by kernel_rfl) rfl (by kernel_rfl) (by kernel_rfl) (fun _ _ _ h => h) (Or.inr ⟨by rfl, rfl⟩) (by assumption) ?_
      try simp only [Act.put, List.setIfInBounds_toArray, List.set_cons_zero, List.set_cons_succ]
      refine wpAnyH_takeL 20 (v := undef) (by kernel_rfl) rfl (by kernel_rfl) (by kernel_rfl) (fun _ _ _ h => h) (Or.inr ⟨by rfl, rfl⟩) (by assumption) ?_
      try simp only [Act.put, List.setIfInBounds_toArray, List.set_cons_zero, List.set_cons_succ]
      refine wpAnyH_takeL 21 (v := undef) (by kernel_rfl) rfl (by kernel_rfl) (by kernel_rfl) (fun _ _ _ h => h) (Or.inr ⟨by rfl, rfl⟩) (by assumption) ?_
      try simp only [Act.put, List.setIfInBounds_toArray, List.set_cons_zero, List.set_cons_succ]
      refine wpAnyH_takeL 22 (v := undef) (by kernel_rfl) rfl (by kernel_rfl) (by kernel_rfl) (fun _ _ _ h => h) (Or.inr ⟨by rfl, rfl⟩) (by assumption) ?_
      try simp only [Act.put, List.setIfInBounds_toArray, List.set_cons_zero, List.set_cons_succ]
      refine wpAnyH_takeL 23 (v := ?_) (by kernel_rfl) rfl (by kernel_rfl) (by kernel_rfl) (fun _ _ _ h => h) (Or.inl ⟨by rfl, ?_⟩) (by assumption) ?_
      rotate_left
      · (intro wq hSq; (try dsimp only at hSq); go_simp; try with_reducible rfl)
      try simp only [Act.put, List.setIfInBounds_toArray, List.set_cons_zero, List.set_cons_succ]
      refine wpAnyH_end (by kernel_rfl) ?_
      have HFIN : Hid (recs X g = pre) := by show _ = _; rw [hrec.out, recF_none hnx, List.append_nil]
      obtain rfl : E = k := by rw [HE.out]; unfold endR; rw [HFIN.out]; exact hlast.out
      clear hnx
      go_wp2
      go_ret2
      refine ⟨⟨_, rfl, ?_, fun z e => (hown.out.lt _ e).1⟩, hB.out.drew⟩
      rw [HFIN.out]
      exact (owns_drewS hown.out).reads
    have t1 : decide ((k : Int) + 13 ≤ (m : Int)) = true := decide_eq_true (by omega)
    have hkm : k < m := by omega
    obtain ⟨x, hx⟩ : ∃ x, X[k]? = some x := ⟨X[k]'(by rw [HXL.out]; exact hkm), List.getElem?_eq_getElem _⟩
    obtain ⟨Ak, hAk⟩ : ∃ a, a = A + k := ⟨_, rfl⟩
    have qx : wr.drew.cell? ⟨b, Ak, none⟩ = some (.int .u8 (x.toNat : Int)) := by
      have h1 := BG.out k hkm
      rw [hx, ← hAk] at h1
      exact HDr.out.drew.half.cell Ak x h1
    have hgx : X.getD k 0 = x := by rw [List.getD_eq_getElem?_getD, hx]; rfl
    have HGX := Lib.hid hgx
    have hwa : IntKind.i64.wrap ((A : Int) + (k : Int)) = (Ak : Int) := by rw [IntWalk.i64_in _ ⟨by omega, by omega⟩]; omega
    have hAkS : Ak < S := by omega
    have hAkS' : (Ak : Int) < (S : Int) := by omega
    have HAK := Lib.hid hAk
    clear hx hgx hAk
    by_cases a2 : x = 1
    case neg =>
      have hnx : nextR X g k = none := by unfold nextR; rw [if_neg]; rintro ⟨-, q, -⟩; rw [HGX.out] at q; exact a2 q
      have t2 : ((x.toNat : Int) == 1) = false := by
        rw [beq_eq_false_iff_ne]
        intro h
        exact a2 (UInt8.toNat_inj.1 (by show x.toNat = 1; omega))
      go_wp2_with fail
      refine wp_region_heldL (fun w' => w'.cell? ⟨p, 0, none⟩ = some (.int .i64 (m : Int)) ∧ w'.cell? ⟨p, 1, none⟩ = some (.slice (some ⟨b, 0, none⟩) S S) ∧ w'.cell? ⟨b, Ak, none⟩ = some (.int .u8 (x.toNat : Int))) (by kernel_rfl) ⟨q0, q1, qx⟩ (fun hS => ?_)
      refine wpAnyH_takeL 0 (v := ?_) (by kernel_rfl) rfl (by kernel_rfl) (by kernel_rfl) (fun _ _ _ h => h) (Or.inl ⟨by rfl, ?_⟩) (by assumption) ?_
      rotate_left
      · (intro wq hSq; (try dsimp only at hSq); go_simp; try with_reducible rfl)
      try simp only [Act.put, List.setIfInBounds_toArray, List.set_cons_zero, List.set_cons_succ]
      refine wpAnyH_takeL 1 (v := ?_) (by kernel_rfl) rfl (by kernel_rfl) (by kernel_rfl) (fun _ _ _ h => h) (Or.inl ⟨by rfl, ?_⟩) (by assumption) ?_
      rotate_left
      · (intro wq hSq; (try dsimp only at hSq); go_simp; try with_reducible rfl)
      try simp only [Act.put, List.setIfInBounds_toArray, List.set_cons_zero, List.set_cons_succ]
      refine wpAnyH_takeL 2 (v := ?_) (by kernel_rfl) rfl (by kernel_rfl) (by kernel_rfl) (fun _ _ _ h => h) (Or.inl ⟨by rfl, ?_⟩) (by assumption) ?_
      rotate_left
      · (intro wq hSq; (try dsimp only at hSq); go_simp; try with_reducible rfl)
      try simp only [Act.put, List.setIfInBounds_toArray, List.set_cons_zero, List.set_cons_succ]
      refine wpAnyH_takeL 3 (v := ?_) (by kernel_rfl) rfl (by kernel_rfl) (by kernel_rfl) (fun _ _ _ h => h) (Or.inl ⟨by rfl, ?_⟩) (by assumption) ?_
      rotate_left
      · (intro wq hSq; (try dsimp only at hSq); go_simp; try with_reducible rfl)
      try simp only [Act.put, List.setIfInBounds_toArray, List.set_cons_zero, List.set_cons_succ]
      refine wpAnyH_takeL 4 (v := ?_) (by kernel_rfl) rfl (by kernel_rfl) (by kernel_rfl) (fun _ _ _ h => h) (Or.inl ⟨by rfl, ?_⟩) (by assumption) ?_
      rotate_left
      · (intro wq hSq; (try dsimp only at hSq); go_simp; try with_reducible rfl)
      try simp only [Act.put, List.setIfInBounds_toArray, List.set_cons_zero, List.set_cons_succ]
      refine wpAnyH_takeL 5 (v := ?_) (by kernel_rfl) rfl (by kernel_rfl) (by kernel_rfl) (fun _ _ _ h => h) (Or.inl ⟨by rfl, ?_⟩) (by assumption) ?_
      rotate_left
      · (intro wq hSq; (try dsimp only at hSq); go_simp; try with_reducible rfl)
      try simp only [Act.put, List.setIfInBounds_toArray, List.set_cons_zero, List.set_cons_succ]
      refine wpAnyH_takeL 6 (v := ?_) (by kernel_rfl) rfl (by kernel_rfl) (by kernel_rfl) (fun _ _ _ h => h) (Or.inl ⟨by rfl, ?_⟩) (by assumption) ?_
      rotate_left
      · (intro wq hSq; (try dsimp only at hSq); go_simp; try with_reducible rfl)
      try simp only [Act.put, List.setIfInBounds_toArray, List.set_cons_zero, List.set_cons_succ]
      refine wpAnyH_takeL 7 (v := ?_) (by kernel_rfl) rfl (by kernel_rfl) (by kernel_rfl) (fun _ _ _ h => h) (Or.inl ⟨by rfl, ?_⟩) (by assumption) ?_
      rotate_left
      · (intro wq hSq; (try dsimp only at hSq); go_simp; try with_reducible rfl)
      try simp only [Act.put, List.setIfInBounds_toArray, List.set_cons_zero, List.set_cons_succ]
      refine wpAnyH_takeL 8 (v := ?_) (by kernel_rfl) rfl (by kernel_rfl) (by kernel_rfl) (fun _ _ _ h => h) (Or.inl ⟨by rfl, ?_⟩) (by assumption) ?_
      rotate_left
      · (intro wq hSq; (try dsimp only at hSq); go_simp; try with_reducible rfl)
      try simp only [Act.put, List.setIfInBounds_toArray, List.set_cons_zero, List.set_cons_succ]
      refine wpAnyH_takeL 9 (v := ?_) (by kernel_rfl) rfl (by kernel_rfl) (by kernel_rfl) (fun _ _ _ h => h) (Or.inl ⟨by rfl, ?_⟩) (by assumption) ?_
      rotate_left
      · (intro wq hSq; (try dsimp only at hSq); go_simp; try with_reducible rfl)
      try simp only [Act.put, List.setIfInBounds_toArray, List.set_cons_zero, List.set_cons_succ]
      refine wpAnyH_takeL 10 (v := ?_) (by kernel_rfl) rfl (by kernel_rfl) (by kernel_rfl) (fun _ _ _ h => h) (Or.inl ⟨by rfl, ?_⟩) (by assumption) ?_
      rotate_left
      · (intro wq hSq; (try dsimp only at hSq); go_simp; try with_reducible rfl)
      try simp only [Act.put, List.setIfInBounds_toArray, List.set_cons_zero, List.set_cons_succ]
      refine wpAnyH_takeL 11 (v := ?_) (by kernel_rfl) rfl (by kernel_rfl) (by kernel_rfl) (fun _ _ _ h => h) (Or.inl ⟨by rfl, ?_⟩) (by assumption) ?_
      rotate_left
      · (intro wq hSq; (try dsimp only at hSq); go_simp; try with_reducible rfl)
      try simp only [Act.put, List.setIfInBounds_toArray, List.set_cons_zero, List.set_cons_succ]
      refine wpAnyH_takeL 12 (v := ?_) (by kernel_rfl) rfl (by kernel_rfl) (by kernel_rfl) (fun _ _ _ h => h) (Or.inl ⟨by rfl, ?_⟩) (by assumption) ?_
      rotate_left
      · (intro wq hSq; (try dsimp only at hSq); go_simp; try with_reducible rfl)
      try simp only [Act.put, List.setIfInBounds_toArray, List.set_cons_zero, List.set_cons_succ]
      refine wpAnyH_takeL 13 (v := ?_) (by kernel_rfl) rfl (by kernel_rfl) (by kernel_rfl) (fun _ _ _ h => h) (Or.inl ⟨by rfl, ?_⟩) (by assumption) ?_
      rotate_left
      · (intro wq hSq; (try dsimp only at hSq); go_simp; try with_reducible rfl)
      try simp only [Act.put, List.setIfInBounds_toArray, List.set_cons_zero, List.set_cons_succ]
      refine wpAnyH_takeL 14 (v := ?_) (by kernel_rfl) rfl (by kernel_rfl) (by kernel_rfl) (fun _ _ _ h => h) (Or.inl ⟨by rfl, ?_⟩) (by assumption) ?_
      rotate_left
      · (intro wq hSq; (try dsimp only at hSq); go_simp; try with_reducible rfl)
      try simp only [Act.put, List.setIfInBounds_toArray, List.set_cons_zero, List.set_cons_succ]
      refine wpAnyH_takeL 15 (v := ?_) (by kernel_rfl) rfl (by kernel_rfl) (by kernel_rfl) (fun _ _ _ h => h) (Or.inl ⟨by rfl, ?_⟩) (by assumption) ?_
      rotate_left
      · (intro wq hSq; (try dsimp only at hSq); go_simp; try with_reducible rfl)
      try simp only [Act.put, List.setIfInBounds_toArray, List.set_cons_zero, List.set_cons_succ]
      refine wpAnyH_takeL 16 (v := ?_) (by kernel_rfl) rfl (by kernel_rfl) (by kernel_rfl) (fun _ _ _ h => h) (Or.inl ⟨by rfl, ?_⟩) (by assumption) ?_
      rotate_left
      · (intro wq hSq; (try dsimp only at hSq); go_simp; try with_reducible rfl)
      try simp only [Act.put, List.setIfInBounds_toArray, List.set_cons_zero, List.set_cons_succ]
      refine wpAnyH_takeL 17 (v := ?_) (by kernel_rfl) rfl (by kernel_rfl) (by kernel_rfl) (fun _ _ _ h => h) (Or.inl ⟨by rfl, ?_⟩) (by assumption) ?_
      rotate_left
      · (intro wq hSq; (try dsimp only at hSq); go_simp; try with_reducible rfl)
      try simp only [Act.put, List.setIfInBounds_toArray, List.set_cons_zero, List.set_cons_succ]
      refine wpAnyH_takeL 18 (v := ?_) (by kernel_rfl) rfl (by kernel_rfl) (by kernel_rfl) (fun _ _ _ h => h) (Or.inl ⟨by rfl, ?_⟩) (by assumption) ?_
      rotate_left
      · (intro wq hSq; (try dsimp only at hSq); go_simp; try with_reducible rfl)
      try simp only [Act.put, List.setIfInBounds_toArray, List.set_cons_zero, List.set_cons_succ]
      refine wpAnyH_takeL 19 (v := ?_) (by kernel_rfl) rfl (by kernel_rfl) (by kernel_rfl) (fun _ _ _ h => h) (Or.inl ⟨by rfl, ?_⟩) (by assumption) ?_
      rotate_left
      · (intro wq hSq; (try dsimp only at hSq); go_simp; try with_reducible rfl)
      try simp only [Act.put, List.setIfInBounds_toArray, List.set_cons_zero, List.set_cons_succ]
      refine wpAnyH_takeL 20 (v := ?_) (by kernel_rfl) rfl (by kernel_rfl) (by kernel_rfl) (fun _ _ _ h => h) (Or.inl ⟨by rfl, ?_⟩) (by assumption) ?_
      rotate_left
      · (intro wq hSq; (try dsimp only at hSq); go_simp; try with_reducible rfl)
      try simp only [Act.put, List.setIfInBounds_toArray, List.set_cons_zero, List.set_cons_succ]
      refine wpAnyH_takeL 21 (v := ?_) (by kernel_rfl) rfl (by kernel_rfl) (by kernel_rfl) (fun _ _ _ h => h) (Or.inl ⟨by rfl, ?_⟩) (by assumption) ?_
      rotate_left
      · (intro wq hSq; (try dsimp only at hSq); go_simp; try with_reducible rfl)
      try simp only [Act.put, List.setIfInBounds_toArray, List.set_cons_zero, List.set_cons_succ]
      refine wpAnyH_takeL 22 (v := ?_) (by kernel_rfl) rfl (by kernel_rfl) (by kernel_rfl) (fun _ _ _ h => h) (Or.inl ⟨by rfl, ?_⟩) (by assumption) ?_
      rotate_left
      · (intro wq hSq; (try dsimp only at hSq); go_simp; try with_reducible rfl)
      try simp only [Act.put, List.setIfInBounds_toArray, List.set_cons_zero, List.set_cons_succ]
      refine wpAnyH_takeL 23 (v := ?_) (by kernel_rfl) rfl (by kernel_rfl) (by kernel_rfl) (fun _ _ _ h => h) (Or.inl ⟨by rfl, ?_⟩) (by assumption) ?_
      rotate_left
      · (intro wq hSq; (try dsimp only at hSq); go_simp; try with_reducible rfl)
      try simp only [Act.put, List.setIfInBounds_toArray, List.set_cons_zero, List.set_cons_succ]
      refine wpAnyH_end (by kernel_rfl) ?_
      have HFIN : Hid (recs X g = pre) := by show _ = _; rw [hrec.out, recF_none hnx, List.append_nil]
      obtain rfl : E = k := by rw [HE.out]; unfold endR; rw [HFIN.out]; exact hlast.out
      clear hnx
      go_wp2
      go_ret2
      refine ⟨⟨_, rfl, ?_, fun z e => (hown.out.lt _ e).1⟩, hB.out.drew⟩
      rw [HFIN.out]
      exact (owns_drewS hown.out).reads
    have t2 : ((x.toNat : Int) == 1) = true := by rw [a2]; rfl
    obtain ⟨v, hv⟩ : ∃ v, v = numL ((X.drop (k + 1)).take 4) := ⟨_, rfl⟩
    have hl4 : ((X.drop (k + 1)).take 4).length = 4 := by rw [List.length_take, List.length_drop, HXL.out]; omega
    have hvl := numL_lt ((X.drop (k + 1)).take 4)
    have h256 : (256 : Nat) ^ 4 = 4294967296 := by simp
    rw [hl4, ← hv, h256] at hvl
    obtain ⟨St, hSt⟩ : ∃ a, a = Ak + 1 := ⟨_, rfl⟩
    have hSt' : St = A + (k + 1) := by have := HAK.out; omega
    have HNV := Lib.hid (HNUM.out wr.drew St HDr.out.drew (by omega))
    rw [hSt', BT.out (k + 1) 4 (by omega), ← hv, sgn_small v (by omega), ← hSt'] at HNV
    have hst1 : (Ak : Int) + 1 = (St : Int) := by omega
    have HV := Lib.hid hv
    have HST' := Lib.hid hSt'
    clear hl4 hv h256 hSt hSt'
    go_wp2_with fail
    refine wp_region_heldL (fun w' => w'.cell? ⟨p, 0, none⟩ = some (.int .i64 (m : Int)) ∧ w'.cell? ⟨p, 1, none⟩ = some (.slice (some ⟨b, 0, none⟩) S S) ∧ w'.cell? ⟨b, Ak, none⟩ = some (.int .u8 (x.toNat : Int))) (by kernel_rfl) ⟨q0, q1, qx⟩ (fun hS => ?_)
    refine wpAnyH_takeL 0 (v := ?_) (by kernel_rfl) rfl (by kernel_rfl) (by kernel_rfl) (fun _ _ _ h => h) (Or.inl ⟨by rfl, ?_⟩) (by assumption) ?_
    rotate_left
    · (intro wq hSq; (try dsimp only at hSq); go_simp; try with_reducible rfl)
    try simp only [Act.put, List.setIfInBounds_toArray, List.set_cons_zero, List.set_cons_succ]
    refine wpAnyH_takeL 1 (v := ?_) (by kernel_rfl) rfl (by kernel_rfl) (by kernel_rfl) (fun _ _ _ h => h) (Or.inl ⟨by rfl, ?_⟩) (by assumption) ?_
    rotate_left
    · (intro wq hSq; (try dsimp only at hSq); go_simp; try with_reducible rfl)
    try simp only [Act.put, List.setIfInBounds_toArray, List.set_cons_zero, List.set_cons_succ]
    refine wpAnyH_takeL 2 (v := ?_) (by kernel_rfl) rfl (by kernel_rfl) (by kernel_rfl) (fun _ _ _ h => h) (Or.inl ⟨by rfl, ?_⟩) (by assumption) ?_
    rotate_left
    · (intro wq hSq; (try dsimp only at hSq); go_simp; try with_reducible rfl)
    try simp only [Act.put, List.setIfInBounds_toArray, List.set_cons_zero, List.set_cons_succ]
    refine wpAnyH_takeL 3 (v := ?_) (by kernel_rfl) rfl (by kernel_rfl) (by kernel_rfl) (fun _ _ _ h => h) (Or.inl ⟨by rfl, ?_⟩) (by assumption) ?_
    rotate_left
    · (intro wq hSq; (try dsimp only at hSq); go_simp; try with_reducible rfl)
    try simp only [Act.put, List.setIfInBounds_toArray, List.set_cons_zero, List.set_cons_succ]
    refine wpAnyH_takeL 4 (v := ?_) (by kernel_rfl) rfl (by kernel_rfl) (by kernel_rfl) (fun _ _ _ h => h) (Or.inl ⟨by rfl, ?_⟩) (by assumption) ?_
    rotate_left
    · (intro wq hSq; (try dsimp only at hSq); go_simp; try with_reducible rfl)
    try simp only [Act.put, List.setIfInBounds_toArray, List.set_cons_zero, List.set_cons_succ]
    refine wpAnyH_takeL 5 (v := ?_) (by kernel_rfl) rfl (by kernel_rfl) (by kernel_rfl) (fun _ _ _ h => h) (Or.inl ⟨by rfl, ?_⟩) (by assumption) ?_
    rotate_left
    · (intro wq hSq; (try dsimp only at hSq); go_simp; try with_reducible rfl)
    try simp only [Act.put, List.setIfInBounds_toArray, List.set_cons_zero, List.set_cons_succ]
    refine wpAnyH_takeL 6 (v := ?_) (by kernel_rfl) rfl (by kernel_rfl) (by kernel_rfl) (fun _ _ _ h => h) (Or.inl ⟨by rfl, ?_⟩) (by assumption) ?_
    rotate_left
    · (intro wq hSq; (try dsimp only at hSq); go_simp; try with_reducible rfl)
    try simp only [Act.put, List.setIfInBounds_toArray, List.set_cons_zero, List.set_cons_succ]
    refine wpAnyH_takeL 7 (v := ?_) (by kernel_rfl) rfl (by kernel_rfl) (by kernel_rfl) (fun _ _ _ h => h) (Or.inl ⟨by rfl, ?_⟩) (by assumption) ?_
    rotate_left
    · (intro wq hSq; (try dsimp only at hSq); go_simp; try with_reducible rfl)
    try simp only [Act.put, List.setIfInBounds_toArray, List.set_cons_zero, List.set_cons_succ]
    refine wpAnyH_takeL 8 (v := ?_) (by kernel_rfl) rfl (by kernel_rfl) (by kernel_rfl) (fun _ _ _ h => h) (Or.inl ⟨by rfl, ?_⟩) (by assumption) ?_
    rotate_left
    · (intro wq hSq; (try dsimp only at hSq); go_simp; try with_reducible rfl)
    try simp only [Act.put, List.setIfInBounds_toArray, List.set_cons_zero, List.set_cons_succ]
    refine wpAnyH_takeL 9 (v := ?_) (by kernel_rfl) rfl (by kernel_rfl) (by kernel_rfl) (fun _ _ _ h => h) (Or.inl ⟨by rfl, ?_⟩) (by assumption) ?_
    rotate_left
    · (intro wq hSq; (try dsimp only at hSq); go_simp; try with_reducible rfl)
    try simp only [Act.put, List.setIfInBounds_toArray, List.set_cons_zero, List.set_cons_succ]
    refine wpAnyH_takeL 10 (v := ?_) (by kernel_rfl) rfl (by kernel_rfl) (by kernel_rfl) (fun _ _ _ h => h) (Or.inl ⟨by rfl, ?_⟩) (by assumption) ?_
    rotate_left
    · (intro wq hSq; (try dsimp only at hSq); go_simp; try with_reducible rfl)
    try simp only [Act.put, List.setIfInBounds_toArray, List.set_cons_zero, List.set_cons_succ]
    refine wpAnyH_takeL 11 (v := ?_) (by kernel_rfl) rfl (by kernel_rfl) (by kernel_rfl) (fun _ _ _ h => h) (Or.inl ⟨by rfl, ?_⟩) (by assumption) ?_
    rotate_left
    · (intro wq hSq; (try dsimp only at hSq); go_simp; try with_reducible rfl)
    try simp only [Act.put, List.setIfInBounds_toArray, List.set_cons_zero, List.set_cons_succ]
    refine wpAnyH_takeL 12 (v := ?_) (by kernel_rfl) rfl (by kernel_rfl) (by kernel_rfl) (fun _ _ _ h => h) (Or.inl ⟨by rfl, ?_⟩) (by assumption) ?_
    rotate_left
    · (intro wq hSq; (try dsimp only at hSq); go_simp; try with_reducible rfl)
    try simp only [Act.put, List.setIfInBounds_toArray, List.set_cons_zero, List.set_cons_succ]
    refine wpAnyH_takeL 13 (v := ?_) (by kernel_rfl) rfl (by kernel_rfl) (by kernel_rfl) (fun _ _ _ h => h) (Or.inl ⟨by rfl, ?_⟩) (by assumption) ?_
    rotate_left
    · (intro wq hSq; (try dsimp only at hSq); go_simp; try with_reducible rfl)
    try simp only [Act.put, List.setIfInBounds_toArray, List.set_cons_zero, List.set_cons_succ]
    refine wpAnyH_takeL 14 (v := ?_) (by kernel_rfl) rfl (by kernel_rfl) (by kernel_rfl) (fun _ _ _ h => h) (Or.inl ⟨by rfl, ?_⟩) (by assumption) ?_
    rotate_left
    · (intro wq hSq; (try dsimp only at hSq); go_simp; try with_reducible rfl)
    try simp only [Act.put, List.setIfInBounds_toArray, List.set_cons_zero, List.set_cons_succ]
    refine wpAnyH_takeL 15 (v := ?_) (by kernel_rfl) rfl (by kernel_rfl) (by kernel_rfl) (fun _ _ _ h => h) (Or.inl ⟨by rfl, ?_⟩) (by assumption) ?_
    rotate_left
    · (intro wq hSq; (try dsimp only at hSq); go_simp; try with_reducible rfl)
    try simp only [Act.put, List.setIfInBounds_toArray, List.set_cons_zero, List.set_cons_succ]
    refine wpAnyH_takeL 16 (v := ?_) (by kernel_rfl) rfl (by kernel_rfl) (by kernel_rfl) (fun _ _ _ h => h) (Or.inl ⟨by rfl, ?_⟩) (by assumption) ?_
    rotate_left
    · (intro wq hSq; (try dsimp only at hSq); go_simp; try with_reducible rfl)
    try simp only [Act.put, List.setIfInBounds_toArray, List.set_cons_zero, List.set_cons_succ]
    refine wpAnyH_takeL 17 (v := ?_) (by kernel_rfl) rfl (by kernel_rfl) (by kernel_rfl) (fun _ _ _ h => h) (Or.inl ⟨by rfl, ?_⟩) (by assumption) ?_
    rotate_left
    · (intro wq hSq; (try dsimp only at hSq); go_simp; try with_reducible rfl)
    try simp only [Act.put, List.setIfInBounds_toArray, List.set_cons_zero, List.set_cons_succ]
    refine wpAnyH_takeL 18 (v := ?_) (by kernel_rfl) rfl (by kernel_rfl) (by kernel_rfl) (fun _ _ _ h => h) (Or.inl ⟨by rfl, ?_⟩) (by assumption) ?_
    rotate_left
    · (intro wq hSq; (try dsimp only at hSq); go_simp; try with_reducible rfl)
    try simp only [Act.put, List.setIfInBounds_toArray, List.set_cons_zero, List.set_cons_succ]
    refine wpAnyH_takeL 19 (v := ?_) (by kernel_rfl) rfl (by kernel_rfl) (by kernel_rfl) (fun _ _ _ h => h) (Or.inl ⟨by rfl, ?_⟩) (by assumption) ?_
    rotate_left
    · (intro wq hSq; (try dsimp only at hSq); go_simp; try with_reducible rfl)
    try simp only [Act.put, List.setIfInBounds_toArray, List.set_cons_zero, List.set_cons_succ]
    refine wpAnyH_takeL 20 (v := ?_) (by kernel_rfl) rfl (by kernel_rfl) (by kernel_rfl) (fun _ _ _ h => h) (Or.inl ⟨by rfl, ?_⟩) (by assumption) ?_
    rotate_left
    · (intro wq hSq; (try dsimp only at hSq); go_simp; try with_reducible rfl)
    try simp only [Act.put, List.setIfInBounds_toArray, List.set_cons_zero, List.set_cons_succ]
    refine wpAnyH_takeL 21 (v := ?_) (by kernel_rfl) rfl (by kernel_rfl) (by kernel_rfl) (fun _ _ _ h => h) (Or.inl ⟨by rfl, ?_⟩) (by assumption) ?_
    rotate_left
    · (intro wq hSq; (try dsimp only at hSq); go_simp; try with_reducible rfl)
    try simp only [Act.put, List.setIfInBounds_toArray, List.set_cons_zero, List.set_cons_succ]
    refine wpAnyH_takeL 22 (v := ?_) (by kernel_rfl) rfl (by kernel_rfl) (by kernel_rfl) (fun _ _ _ h => h) (Or.inl ⟨by rfl, ?_⟩) (by assumption) ?_
    rotate_left
    · (intro wq hSq; (try dsimp only at hSq); go_simp; try with_reducible rfl)
    try simp only [Act.put, List.setIfInBounds_toArray, List.set_cons_zero, List.set_cons_succ]
    refine wpAnyH_takeL 23 (v := ?_) (by kernel_rfl) rfl (by kernel_rfl) (by kernel_rfl) (fun _ _ _ h => h) (Or.inl ⟨by rfl, ?_⟩) (by assumption) ?_
    rotate_left
    · (intro wq hSq; (try dsimp only at hSq); go_simp; try with_reducible rfl)
    try simp only [Act.put, List.setIfInBounds_toArray, List.set_cons_zero, List.set_cons_succ]
    refine wpAnyH_end (by kernel_rfl) ?_
    go_wp2_with fail
    refine HNV.out.mono ?_
    rintro e w5 ⟨rfl, rfl⟩
    by_cases a3 : v ≤ 65535
    case neg =>
      have hnx : nextR X g k = none := by unfold nextR; rw [if_neg]; rintro ⟨-, -, q, -⟩; rw [← HV.out] at q; exact a3 q
      have t3 : (65535 : Int) < (v : Int) := by omega
      have HFIN : Hid (recs X g = pre) := by show _ = _; rw [hrec.out, recF_none hnx, List.append_nil]
      obtain rfl : E = k := by rw [HE.out]; unfold endR; rw [HFIN.out]; exact hlast.out
      clear hnx
      go_wp2
      go_ret2
      refine ⟨⟨_, rfl, ?_, fun z e => (hown.out.lt _ e).1⟩, hB.out.drew⟩
      rw [HFIN.out]
      exact (owns_drewS hown.out).reads
    have t3 : ¬ (65535 : Int) < (v : Int) := by omega
    by_cases a4 : k + 13 + v ≤ m
    case neg =>
      have hnx : nextR X g k = none := by unfold nextR; rw [if_neg]; rintro ⟨-, -, -, q, -⟩; rw [← HV.out, HXL.out] at q; exact a4 q
      have t4 : (m : Int) < (k : Int) + 13 + (v : Int) := by omega
      have HFIN : Hid (recs X g = pre) := by show _ = _; rw [hrec.out, recF_none hnx, List.append_nil]
      obtain rfl : E = k := by rw [HE.out]; unfold endR; rw [HFIN.out]; exact hlast.out
      clear hnx
      go_wp2
      go_ret2
      refine ⟨⟨_, rfl, ?_, fun z e => (hown.out.lt _ e).1⟩, hB.out.drew⟩
      rw [HFIN.out]
      exact (owns_drewS hown.out).reads
    have t4 : ¬ (m : Int) < (k : Int) + 13 + (v : Int) := by omega
    obtain ⟨data, hdata⟩ : ∃ d, d = (X.drop (k + 5)).take v := ⟨_, rfl⟩
    have hdl : data.length = v := by rw [hdata, List.length_take, List.length_drop, HXL.out]; omega
    obtain ⟨St4, hSt4⟩ : ∃ a, a = St + 4 := ⟨_, rfl⟩
    obtain ⟨Sv, hSv⟩ : ∃ a, a = St + 4 + v := ⟨_, rfl⟩
    obtain ⟨S12, hS12⟩ : ∃ a, a = St + 12 := ⟨_, rfl⟩
    obtain ⟨Se, hSe⟩ : ∃ a, a = St + 12 + v := ⟨_, rfl⟩
    have hSA : St = Ak + 1 := by omega
    have hAA : Ak = A + k := HAK.out
    have ht5 : ∀ c, (convert 49 9 (.slice (some ⟨b, St4, none⟩) v c)).run Try.prog wr.drew = .ok (.string (bytesOf data)) wr.drew := fun c => by
      have h1 := HTX.out wr.drew HDr.out.drew St4 v c (by omega)
      rw [show St4 = A + (k + 5) by omega, BT.out (k + 5) v (by omega), ← hdata] at h1
      rw [show St4 = A + (k + 5) by omega]
      exact h1
    obtain ⟨tail, htail⟩ : ∃ d, d = (X.drop (k + 1)).take (12 + v) := ⟨_, rfl⟩
    have HT1 : Hid (∀ W, RDiskAt W p b d → ∀ c, (convert 49 9 (.slice (some ⟨b, St, none⟩) (12 + v) c)).run Try.prog W = .ok (.string (bytesOf tail)) W) := fun W hW c => by
      have h1 := HTX.out W hW St (12 + v) c (by omega)
      rw [show St = A + (k + 1) by omega, BT.out (k + 1) (12 + v) (by omega), ← htail] at h1
      rw [show St = A + (k + 1) by omega]
      exact h1
    have s1 : (St : Int) + 4 = (St4 : Int) := by omega
    have s2 : (St4 : Int) + (v : Int) = (Sv : Int) := by omega
    have s3 : St4 ≤ Sv := by omega
    have s4 : Sv ≤ S := by omega
    have s5 : Sv - St4 = v := by omega
    have s6 : ¬ S = St4 := by omega
    have s7 : IntKind.i64.wrap ((St : Int) + 12) = (S12 : Int) := by rw [IntWalk.i64_in _ ⟨by omega, by omega⟩]; omega
    have s8 : IntKind.i64.wrap ((S12 : Int) + (v : Int)) = (Se : Int) := by rw [IntWalk.i64_in _ ⟨by omega, by omega⟩]; omega
    have s9 : St ≤ Se := by omega
    have s10 : Se ≤ S := by omega
    have s11 : Se - St = 12 + v := by omega
    have s12 : ¬ S = St := by omega
    have s13 : (St4 : Int) ≤ (Sv : Int) := by omega
    have s14 : (Sv : Int) ≤ (S : Int) := by omega
    have s15 : (St : Int) ≤ (Se : Int) := by omega
    have s16 : (Se : Int) ≤ (S : Int) := by omega
    have HDT := Lib.hid hdata
    have HTL := Lib.hid htail
    have HDL := Lib.hid hdl
    clear hdata htail hdl hSt4 hSv hS12 hSe hSA hAA
    have hnx0 : Hid (tail = bodyL g k data → nextR X g k = some (k + 13 + v, data)) := fun h => by
      unfold nextR
      rw [← HV.out, ← HDT.out, ← HTL.out, HXL.out, if_pos ⟨a1, by rw [HGX.out]; exact a2, a3, a4, h⟩]
    have hnx1 : Hid (¬ tail = bodyL g k data → nextR X g k = none) := fun h => by
      unfold nextR
      rw [if_neg]
      rintro ⟨-, -, -, -, q⟩
      rw [← HV.out, ← HDT.out, ← HTL.out] at q
      exact h q
    have hcv6 := HT1.out wr.drew.drew HDr.out.drew.drew
    have q1' : wr.drew.drew.cell? ⟨p, 1, none⟩ = some (.slice (some ⟨b, 0, none⟩) S S) := q1
    have hb3 : Hid (v ≤ 65535) := a3
    go_wp2_with fail
    refine wp_region_heldL (fun w' => w'.cell? ⟨p, 1, none⟩ = some (.slice (some ⟨b, 0, none⟩) S S) ∧ ∀ c, (convert 49 9 (.slice (some ⟨b, St, none⟩) (12 + v) c)).run Try.prog w' = .ok (.string (bytesOf tail)) w') (by kernel_rfl) ⟨q1', hcv6⟩ (fun hS => ?_)
    refine wpAnyH_takeL 0 (v := ?_) (by kernel_rfl) rfl (by kernel_rfl) (by kernel_rfl) (fun _ _ _ h => h) (Or.inl ⟨by rfl, ?_⟩) (by assumption) ?_
    rotate_left
    · (intro wq hSq; (try dsimp only at hSq); go_simp; try with_reducible rfl)
    try simp only [Act.put, List.setIfInBounds_toArray, List.set_cons_zero, List.set_cons_succ]
    refine wpAnyH_takeL 1 (v := ?_) (by kernel_rfl) rfl (by kernel_rfl) (by kernel_rfl) (fun _ _ _ h => h) (Or.inl ⟨by rfl, ?_⟩) (by assumption) ?_
    rotate_left
    · (intro wq hSq; (try dsimp only at hSq); go_simp; try with_reducible rfl)
    try simp only [Act.put, List.setIfInBounds_toArray, List.set_cons_zero, List.set_cons_succ]
    refine wpAnyH_takeL 2 (v := ?_) (by kernel_rfl) rfl (by kernel_rfl) (by kernel_rfl) (fun _ _ _ h => h) (Or.inl ⟨by rfl, ?_⟩) (by assumption) ?_
    rotate_left
    · (intro wq hSq; (try dsimp only at hSq); go_simp; try with_reducible rfl)
    try simp only [Act.put, List.setIfInBounds_toArray, List.set_cons_zero, List.set_cons_succ]
    refine wpAnyH_takeL 3 (v := ?_) (by kernel_rfl) rfl (by kernel_rfl) (by kernel_rfl) (fun _ _ _ h => h) (Or.inl ⟨by rfl, ?_⟩) (by assumption) ?_
    rotate_left
    · (intro wq hSq; (try dsimp only at hSq); go_simp; try with_reducible rfl)
    try simp only [Act.put, List.setIfInBounds_toArray, List.set_cons_zero, List.set_cons_succ]
    refine wpAnyH_takeL 4 (v := ?_) (by kernel_rfl) rfl (by kernel_rfl) (by kernel_rfl) (fun _ _ _ h => h) (Or.inl ⟨by rfl, ?_⟩) (by assumption) ?_
    rotate_left
    · (intro wq hSq; (try dsimp only at hSq); go_simp; try with_reducible rfl)
    try simp only [Act.put, List.setIfInBounds_toArray, List.set_cons_zero, List.set_cons_succ]
    refine wpAnyH_takeL 5 (v := ?_) (by kernel_rfl) rfl (by kernel_rfl) (by kernel_rfl) (fun _ _ _ h => h) (Or.inl ⟨by rfl, ?_⟩) (by assumption) ?_
    rotate_left
    · (intro wq hSq; (try dsimp only at hSq); go_simp; try with_reducible rfl)
    try simp only [Act.put, List.setIfInBounds_toArray, List.set_cons_zero, List.set_cons_succ]
    refine wpAnyH_takeL 6 (v := ?_) (by kernel_rfl) rfl (by kernel_rfl) (by kernel_rfl) (fun _ _ _ h => h) (Or.inl ⟨by rfl, ?_⟩) (by assumption) ?_
    rotate_left
    · (intro wq hSq; (try dsimp only at hSq); go_simp; try with_reducible rfl)
    try simp only [Act.put, List.setIfInBounds_toArray, List.set_cons_zero, List.set_cons_succ]
    refine wpAnyH_takeL 7 (v := ?_) (by kernel_rfl) rfl (by kernel_rfl) (by kernel_rfl) (fun _ _ _ h => h) (Or.inl ⟨by rfl, ?_⟩) (by assumption) ?_
    rotate_left
    · (intro wq hSq; (try dsimp only at hSq); go_simp; try with_reducible rfl)
    try simp only [Act.put, List.setIfInBounds_toArray, List.set_cons_zero, List.set_cons_succ]
    refine wpAnyH_takeL 8 (v := ?_) (by kernel_rfl) rfl (by kernel_rfl) (by kernel_rfl) (fun _ _ _ h => h) (Or.inl ⟨by rfl, ?_⟩) (by assumption) ?_
    rotate_left
    · (intro wq hSq; (try dsimp only at hSq); go_simp; try with_reducible rfl)
    try simp only [Act.put, List.setIfInBounds_toArray, List.set_cons_zero, List.set_cons_succ]
    refine wpAnyH_takeL 9 (v := ?_) (by kernel_rfl) rfl (by kernel_rfl) (by kernel_rfl) (fun _ _ _ h => h) (Or.inl ⟨by rfl, ?_⟩) (by assumption) ?_
    rotate_left
    · (intro wq hSq; (try dsimp only at hSq); go_simp; try with_reducible rfl)
    try simp only [Act.put, List.setIfInBounds_toArray, List.set_cons_zero, List.set_cons_succ]
    refine wpAnyH_takeL 10 (v := ?_) (by kernel_rfl) rfl (by kernel_rfl) (by kernel_rfl) (fun _ _ _ h => h) (Or.inl ⟨by rfl, ?_⟩) (by assumption) ?_
    rotate_left
    · (intro wq hSq; (try dsimp only at hSq); go_simp; try with_reducible rfl)
    try simp only [Act.put, List.setIfInBounds_toArray, List.set_cons_zero, List.set_cons_succ]
    refine wpAnyH_takeL 11 (v := ?_) (by kernel_rfl) rfl (by kernel_rfl) (by kernel_rfl) (fun _ _ _ h => h) (Or.inl ⟨by rfl, ?_⟩) (by assumption) ?_
    rotate_left
    · (intro wq hSq; (try dsimp only at hSq); go_simp; try with_reducible rfl)
    try simp only [Act.put, List.setIfInBounds_toArray, List.set_cons_zero, List.set_cons_succ]
    refine wpAnyH_takeL 12 (v := ?_) (by kernel_rfl) rfl (by kernel_rfl) (by kernel_rfl) (fun _ _ _ h => h) (Or.inl ⟨by rfl, ?_⟩) (by assumption) ?_
    rotate_left
    · (intro wq hSq; (try dsimp only at hSq); go_simp; try with_reducible rfl)
    try simp only [Act.put, List.setIfInBounds_toArray, List.set_cons_zero, List.set_cons_succ]
    refine wpAnyH_takeL 13 (v := ?_) (by kernel_rfl) rfl (by kernel_rfl) (by kernel_rfl) (fun _ _ _ h => h) (Or.inl ⟨by rfl, ?_⟩) (by assumption) ?_
    rotate_left
    · (intro wq hSq; (try dsimp only at hSq); go_simp; try with_reducible rfl)
    try simp only [Act.put, List.setIfInBounds_toArray, List.set_cons_zero, List.set_cons_succ]
    refine wpAnyH_stepL 14 (by kernel_rfl) rfl (fun K hK => ?_)
    go_simp
    go_at_call 52
    refine (rbody_any g k data hg (by omega) (by have := HDL.out; omega) _).mono ?_
    rintro e w6 ⟨rfl, hb6d⟩
    have hb6 : Below wr.heap.size wr w6 := (((Below.refl wr.heap.size wr).drew).drew).trans hb6d
    have hD6 := HDr.out.kept hb6
    refine hK.out _ _ ⟨HK1.out w6 hD6, HT1.out w6 hD6⟩ (fun hS6 => ?_)
    have HB6 := Lib.hid (hB.out.trans (hb6.mono hz))
    have HO6 := Lib.hid (hown.out.below hb6)
    have hz6 := hb6.size
    clear hK K hS
    try simp only [Act.put, List.setIfInBounds_toArray, List.set_cons_zero, List.set_cons_succ]
    by_cases a5 : tail = bodyL g k data
    case neg =>
      have t5 := str_bne (bytesOf tail) (bytesOf (bodyL g k data)) (fun h => a5 (bytesOf_inj h))
      have hnx := hnx1.out a5
      refine wpAnyH_takeL 15 (v := ?_) (by kernel_rfl) rfl (by kernel_rfl) (by kernel_rfl) (fun _ _ _ h => h) (Or.inl ⟨by rfl, ?_⟩) (by assumption) ?_
      rotate_left
      · (intro wq hSq; (try dsimp only at hSq); go_simp; try with_reducible rfl)
      try simp only [Act.put, List.setIfInBounds_toArray, List.set_cons_zero, List.set_cons_succ]
      refine wpAnyH_end (by kernel_rfl) ?_
      have HFIN : Hid (recs X g = pre) := by show _ = _; rw [hrec.out, recF_none hnx, List.append_nil]
      obtain rfl : E = k := by rw [HE.out]; unfold endR; rw [HFIN.out]; exact hlast.out
      clear hnx
      go_wp2
      go_ret2
      refine ⟨⟨_, rfl, ?_, fun z e => (hown.out.lt _ e).1⟩, HB6.out⟩
      rw [HFIN.out]
      exact HO6.out.reads
    have t5 := str_beq (bytesOf tail) (bytesOf (bodyL g k data)) (by rw [a5])
    have HNX := Lib.hid (hnx0.out a5)
    refine wpAnyH_takeL 15 (v := ?_) (by kernel_rfl) rfl (by kernel_rfl) (by kernel_rfl) (fun _ _ _ h => h) (Or.inl ⟨by rfl, ?_⟩) (by assumption) ?_
    rotate_left
    · (intro wq hSq; (try dsimp only at hSq); go_simp; try with_reducible rfl)
    try simp only [Act.put, List.setIfInBounds_toArray, List.set_cons_zero, List.set_cons_succ]
    refine wpAnyH_end (by kernel_rfl) ?_
    go_wp2_with (at_builtin; refine wpList_append1 (W := w6) rfl (.tmp 90) (.tmp 92) 30 rfl w.heap.size 9 i0 (.string ByteArray.empty) 16 Try.underlying30 hi0 hiz hiz1 hizb rfl (.slice va L vc) L ((pre.map (·.2)).map strV) rfl HO6.out (.string (bytesOf data)) w6.heap.size rfl rfl rfl (by unfold maxLen; omega) (by omega) (by omega) ?_; intro v7 w7 hown7 hg7a hg7 hz7; have HO7 := Lib.hid hown7; obtain ⟨g7, q7, rfl⟩ := hown7.succ; have HB7 := Lib.hid (HB6.out.trans (below_grown HO6.out hg7 w.heap.size (Nat.le_refl _) (by omega))); clear hown7 hg7a hg7)
    go_roundw
    case rel =>
      obtain ⟨f', rfl⟩ : ∃ f', f = f' + 1 := ⟨f - 1, by omega⟩
      refine ⟨k + 13 + v, f', pre ++ [(k + 13 + v, data)], some ⟨g7, 0, none⟩, L + 1, q7, by go_num, rfl, by omega, by omega, by omega, ?_, ?_, lastE_snoc _ _, ?_, HB7.out⟩
      · show (pre ++ _).length = _
        rw [List.length_append, hpl.out]; rfl
      · show _ = _
        rw [hrec.out, recF_some HNX.out]; simp
      · show w7.owns _ _ _ _ _ _
        rw [List.map_append, List.map_append]
        exact HO7.out
    case measure => simp [intOf]; omega
end Go.Proofs.Ytjfmcobikadjhaa
