/- Walks: the reference's disk: what writes bytes. -/
import Derived.Test.YtjfmcobikadjhaaRA5
namespace Go.Proofs.Ytjfmcobikadjhaa
set_option linter.all false
open Go.RowKit Go.Shelf
structure RWrAt (w : World) (p b n S : Nat) (st : Wr) : Prop where
  at_ : w.heap[p]? = some (.cells #[.int .i64 (n : Int), .slice (some ⟨b, 0, none⟩) S S, .int .i64 st.fuse, .bool st.failed] 69)
  half : HalfAt w b st.h
  len : st.h.length = S
  ne : ¬ b = p
  f1 : -1 ≤ st.fuse
  f2 : st.fuse ≤ 9223372036854775807
theorem RWrAt.setFailed {w : World} {p b n S : Nat} {st : Wr} (h : RWrAt w p b n S st) (z : Bool) : RWrAt (w.setCell ⟨p, 3, none⟩ (.bool z)) p b n S ⟨st.h, st.fuse, z⟩ :=
  ⟨by simp [World.setCell, Array.getElem?_modify, h.at_], by obtain ⟨t, ht⟩ := h.half; exact ⟨t, (Below.heap_setCell w ⟨p, 3, none⟩ _ b h.ne).trans ht⟩, h.len, h.ne, h.f1, h.f2⟩
theorem RWrAt.setFuse {w : World} {p b n S : Nat} {st : Wr} (h : RWrAt w p b n S st) (z : Int) (h1 : -1 ≤ z) (h2 : z ≤ 9223372036854775807) : RWrAt (w.setCell ⟨p, 2, none⟩ (.int .i64 z)) p b n S ⟨st.h, z, st.failed⟩ :=
  ⟨by simp [World.setCell, Array.getElem?_modify, h.at_], by obtain ⟨t, ht⟩ := h.half; exact ⟨t, (Below.heap_setCell w ⟨p, 2, none⟩ _ b h.ne).trans ht⟩, h.len, h.ne, h1, h2⟩
theorem RWrAt.setByte {w : World} {p b n S : Nat} {st : Wr} (h : RWrAt w p b n S st) (k : Nat) (c : UInt8) : RWrAt (w.setCell ⟨b, k, none⟩ (byteV c)) p b n S ⟨st.h.set k c, st.fuse, st.failed⟩ :=
  ⟨(Below.heap_setCell w ⟨b, k, none⟩ _ p (Ne.symm h.ne)).trans h.at_, by obtain ⟨t, ht⟩ := h.half; exact ⟨t, half_set ht k c⟩, by rw [List.length_set]; exact h.len, h.ne, h.f1, h.f2⟩
theorem RWrAt.drew {w : World} {p b n S : Nat} {st : Wr} (h : RWrAt w p b n S st) : RWrAt w.drew p b n S st := ⟨h.at_, h.half, h.len, h.ne, h.f1, h.f2⟩
theorem RWrAt.below {w w' : World} {p b n S : Nat} {st : Wr} (h : RWrAt w p b n S st) (hb : Below w.heap.size w w') : RWrAt w' p b n S st :=
  ⟨(hb.block _ (lt_of_heap h.at_)).trans h.at_, h.half.below hb h.half.lt, h.len, h.ne, h.f1, h.f2⟩
set_option maxRecDepth 100000 in
set_option maxHeartbeats 8000000 in
theorem rwrite_any (p b n S k : Nat) (st : Wr) (s : List UInt8) (hk : k + s.length ≤ S) (hn : S ≤ 600000) (w : World) (hw : RWrAt w p b n S st) :
    Calls Try.prog 51 #[.pointer (some ⟨p, 0, none⟩), .int .i64 (k : Int), .string (bytesOf s)] w fun e w' => (∃ v, e = .returned v) ∧ RWrAt w' p b n S (putS st k s) ∧ Kp (two p b) w w' := by
  obtain ⟨m, hm⟩ : ∃ m, m = s.length := ⟨_, rfl⟩
  have hs : (bytesOf s).size = m := by rw [hm]; rfl
  have hs1 : ((bytesOf s).size : Int) = (m : Int) := by rw [hs]
  obtain ⟨r, hr⟩ : ∃ r, r = putS st k s := ⟨_, rfl⟩
  rw [← hr]
  have HR := Lib.hid hr
  have HM := Lib.hid hm
  rw [← hm] at hk
  have HW := Lib.hid hw
  clear hm hr hw
  have hro : Fence.wide.round = none := rfl
  refine (callsIn_wide (n := 5)).1 ?_
  refine callsIn_of_wp Try.func51 rfl trivial ?_ rfl
  simp only [Try.ntmps51, List.size_toArray, List.length_cons, List.length_nil, Nat.reduceAdd, Nat.reduceSub, Array.replicate_succ, Array.replicate_zero, List.push_toArray, List.append_toArray, List.nil_append, List.cons_append]
  gi_wp2_with fail
  gi_loopw [6] (fun ii wr => ∃ (i : Nat) (si : Wr), i ≤ m ∧ ii = .int .i64 (i : Int) ∧ Hid (r = putS si (k + i) (s.drop i)) ∧ Hid (RWrAt wr p b n S si) ∧ Hid (Kp (two p b) w wr)) (fun ii _ => m - (intOf ii).toNat)
  case atStart => exact ⟨0, st, Nat.zero_le _, rfl, HR.out, HW.out, Kp.refl _ _⟩
  case round =>
    obtain ⟨i, si, hi, rfl, hR, hWr, hKp⟩ := hrel
    have hz : s.length = m := HM.out.symm
    obtain ⟨-, -, e2, e3, f2, f3⟩ := four_cells hWr.out.at_
    by_cases hlt : i < m
    case neg =>
      obtain rfl : i = m := by omega
      have hrr : r = si := by rw [hR.out, List.drop_of_length_le (by omega)]; rfl
      have HRR := Lib.hid hrr
      clear hrr
      gi_wp2
      go_end0
      exact ⟨⟨_, rfl⟩, by rw [HRR.out]; exact hWr.out, hKp.out⟩
    obtain ⟨c, hc⟩ : ∃ c, s[i]? = some c := ⟨s[i]'(by omega), List.getElem?_eq_getElem _⟩
    have hdr : s.drop i = c :: s.drop (i + 1) := by
      rw [List.drop_eq_getElem_cons (by omega)]
      congr 1
      rw [List.getElem?_eq_getElem (by omega)] at hc
      injection hc
    have HDR := Lib.hid hdr
    have HC := Lib.hid hc
    clear hdr hc
    by_cases hf0 : si.fuse = 0
    · rw [hf0] at e2
      have hrr : r = ⟨si.h, si.fuse, true⟩ := by rw [hR.out, putS_stop (by rw [HDR.out]; simp) (Or.inr hf0)]
      have HRR := Lib.hid hrr
      have HA4 := Lib.hid (hWr.out.setFailed true)
      have HK4 := Lib.hid (hKp.out.setCell (a := ⟨p, 3, none⟩) (Or.inl rfl) (.bool true))
      clear hrr
      gi_wp2
      refine bodyPost_ret (results_none rfl _ _ _) rfl ?_
      exact ⟨⟨_, rfl⟩, by rw [HRR.out]; exact HA4.out, HK4.out⟩
    obtain ⟨fu, hfu⟩ : ∃ f, f = si.fuse := ⟨_, rfl⟩
    have hfb : (fu == 0) = false := by rw [beq_eq_false_iff_ne, hfu]; exact hf0
    rw [← hfu] at e2
    have FU := Lib.hid hfu
    cases hfd : si.failed
    case true =>
      rw [hfd] at e3
      have hrr : r = ⟨si.h, si.fuse, true⟩ := by rw [hR.out, putS_stop (by rw [HDR.out]; simp) (Or.inl hfd)]
      have hsi : (⟨si.h, si.fuse, true⟩ : Wr) = si := by rw [← hfd]
      have HRR : Hid (r = si) := hrr.trans hsi
      clear hrr hsi hfu hf0
      gi_wp2
      refine bodyPost_ret (results_none rfl _ _ _) rfl ?_
      exact ⟨⟨_, rfl⟩, by rw [HRR.out]; exact hWr.out, hKp.out⟩
    case false =>
        rw [hfd] at e3
        have hst : r = putS ⟨si.h.set (k + i) c, if 0 < si.fuse then si.fuse - 1 else si.fuse, false⟩ (k + (i + 1)) (s.drop (i + 1)) := by
          rw [hR.out, HDR.out, putS_step (by rw [hfd]; simpa using hf0)]; rfl
        have HST := Lib.hid hst
        have fb1 := hWr.out.f1
        have fb2 := hWr.out.f2
        rw [← hfu] at fb1 fb2
        have HA4 : Hid (RWrAt wr p b n S ⟨si.h, si.fuse, false⟩) := by
          have := hWr.out
          rw [← hfd]; exact this
        clear hfu hf0 hst
        obtain ⟨j, hj⟩ : ∃ j, j = k + i := ⟨_, rfl⟩
        have hk3 : j < S := by omega
        have HJ := Lib.hid hj
        have hwi : IntKind.i64.wrap ((k : Int) + (i : Int)) = (j : Int) := by rw [IntWalk.i64_in _ ⟨by omega, by omega⟩]; omega
        clear hj
        have hsi : (bytesOf s)[i]'(by rw [hs]; exact hlt) = c := by
          have := HC.out
          rw [List.getElem?_eq_getElem (by omega)] at this
          injection this
        by_cases hp : 0 < fu
        · have hw1 : IntKind.i64.wrap (fu - 1) = fu - 1 := IntWalk.i64_in _ ⟨by omega, by omega⟩
          gi_wp2_with fail
          have hA5 : Hid (RWrAt (wr.setCell ⟨p, 2, none⟩ (.int .i64 (fu - 1))) p b n S ⟨si.h, fu - 1, false⟩) := HA4.out.setFuse _ (by omega) (by omega)
          have hK5 : Hid (Kp (two p b) w (wr.setCell ⟨p, 2, none⟩ (.int .i64 (fu - 1)))) := hKp.out.setCell (Or.inl rfl) _
          generalize wr.setCell ⟨p, 2, none⟩ (.int .i64 (fu - 1)) = w5 at hA5 hK5 ⊢
          clear e2 e3 f2 f3 HA4
          have k1 : w5.cell? ⟨p, 1, none⟩ = some (.slice (some ⟨b, 0, none⟩) S S) := (four_cells hA5.out.at_).2.1
          obtain ⟨th, hth⟩ := hA5.out.half
          have hlh : si.h.length = S := hA5.out.len
          obtain ⟨b1, b2⟩ := half_cells hth j (by rw [hlh]; exact hk3)
          generalize si.h[j] = c0 at b1
          clear hth
          refine wpIn_region_K (fun w' => w'.cell? ⟨p, 1, none⟩ = some (.slice (some ⟨b, 0, none⟩) S S) ∧ w'.cell? ⟨b, j, none⟩ = some (byteV c0) ∧ w'.frozen? ⟨b, j, none⟩ = false) 11 (by kernel_rfl) ⟨k1, b1, b2⟩ (fun hS => ?_)
          refine wpAnyKC_takeL 0 20 (v := ?_) hro (by kernel_rfl) (by kernel_rfl) (by kernel_rfl) rfl (by kernel_rfl) (by kernel_rfl) (fun _ _ _ h => h) (Or.inl ⟨by rfl, ?_⟩) (fun _ => rfl) (by assumption) ?_
          rotate_left
          · (intro wq hSq; (try dsimp only at hSq); go_simp; try with_reducible rfl)
          try simp only [Act.put, List.setIfInBounds_toArray, List.set_cons_zero, List.set_cons_succ]
          refine wpAnyKC_takeL 1 20 (v := ?_) hro (by kernel_rfl) (by kernel_rfl) (by kernel_rfl) rfl (by kernel_rfl) (by kernel_rfl) (fun _ _ _ h => h) (Or.inl ⟨by rfl, ?_⟩) (fun _ => rfl) (by assumption) ?_
          rotate_left
          · (intro wq hSq; (try dsimp only at hSq); go_simp; try with_reducible rfl)
          try simp only [Act.put, List.setIfInBounds_toArray, List.set_cons_zero, List.set_cons_succ]
          refine wpAnyKC_takeL 2 20 (v := ?_) hro (by kernel_rfl) (by kernel_rfl) (by kernel_rfl) rfl (by kernel_rfl) (by kernel_rfl) (fun _ _ _ h => h) (Or.inl ⟨by rfl, ?_⟩) (fun _ => rfl) (by assumption) ?_
          rotate_left
          · (intro wq hSq; (try dsimp only at hSq); go_simp; try with_reducible rfl)
          try simp only [Act.put, List.setIfInBounds_toArray, List.set_cons_zero, List.set_cons_succ]
          refine wpAnyKC_takeL 3 20 (v := ?_) hro (by kernel_rfl) (by kernel_rfl) (by kernel_rfl) rfl (by kernel_rfl) (by kernel_rfl) (fun _ _ _ h => h) (Or.inl ⟨by rfl, ?_⟩) (fun _ => rfl) (by assumption) ?_
          rotate_left
          · (intro wq hSq; (try dsimp only at hSq); go_simp; try with_reducible rfl)
          try simp only [Act.put, List.setIfInBounds_toArray, List.set_cons_zero, List.set_cons_succ]
          refine wpAnyKC_takeL 4 20 (v := ?_) hro (by kernel_rfl) (by kernel_rfl) (by kernel_rfl) rfl (by kernel_rfl) (by kernel_rfl) (fun _ _ _ h => h) (Or.inl ⟨by rfl, ?_⟩) (fun _ => rfl) (by assumption) ?_
          rotate_left
          · (intro wq hSq; (try dsimp only at hSq); go_simp; try with_reducible rfl)
          try simp only [Act.put, List.setIfInBounds_toArray, List.set_cons_zero, List.set_cons_succ]
          refine wpAnyKC_takeL 5 20 (v := ?_) hro (by kernel_rfl) (by kernel_rfl) (by kernel_rfl) rfl (by kernel_rfl) (by kernel_rfl) (fun _ _ _ h => h) (Or.inl ⟨by rfl, ?_⟩) (fun _ => rfl) (by assumption) ?_
          rotate_left
          · (intro wq hSq; (try dsimp only at hSq); go_simp; try with_reducible rfl)
          try simp only [Act.put, List.setIfInBounds_toArray, List.set_cons_zero, List.set_cons_succ]
          refine wpAnyKC_takeL 6 20 (v := ?_) hro (by kernel_rfl) (by kernel_rfl) (by kernel_rfl) rfl (by kernel_rfl) (by kernel_rfl) (fun _ _ _ h => h) (Or.inl ⟨by rfl, ?_⟩) (fun _ => rfl) (by assumption) ?_
          rotate_left
          · (intro wq hSq; (try dsimp only at hSq); go_simp; try with_reducible rfl)
          try simp only [Act.put, List.setIfInBounds_toArray, List.set_cons_zero, List.set_cons_succ]
          refine wpAnyKC_takeL 7 20 (v := ?_) hro (by kernel_rfl) (by kernel_rfl) (by kernel_rfl) rfl (by kernel_rfl) (by kernel_rfl) (fun _ _ _ h => h) (Or.inl ⟨by rfl, ?_⟩) (fun _ => rfl) (by assumption) ?_
          rotate_left
          · (intro wq hSq; (try dsimp only at hSq); go_simp; try with_reducible rfl)
          try simp only [Act.put, List.setIfInBounds_toArray, List.set_cons_zero, List.set_cons_succ]
          refine wpAnyKC_takeL 8 20 (v := ?_) hro (by kernel_rfl) (by kernel_rfl) (by kernel_rfl) rfl (by kernel_rfl) (by kernel_rfl) (fun _ _ _ h => h) (Or.inl ⟨by rfl, ?_⟩) (fun _ => rfl) (by assumption) ?_
          rotate_left
          · (intro wq hSq; (try dsimp only at hSq); go_simp; try with_reducible rfl)
          try simp only [Act.put, List.setIfInBounds_toArray, List.set_cons_zero, List.set_cons_succ]
          refine wpAnyKC_takeL 9 20 (v := ?_) hro (by kernel_rfl) (by kernel_rfl) (by kernel_rfl) rfl (by kernel_rfl) (by kernel_rfl) (fun _ _ _ h => h) (Or.inl ⟨by rfl, ?_⟩) (fun _ => rfl) (by assumption) ?_
          rotate_left
          · (intro wq hSq; (try dsimp only at hSq); go_simp; try with_reducible rfl)
          try simp only [Act.put, List.setIfInBounds_toArray, List.set_cons_zero, List.set_cons_succ]
          refine wpAnyKC_takeL 10 20 (v := ?_) hro (by kernel_rfl) (by kernel_rfl) (by kernel_rfl) rfl (by kernel_rfl) (by kernel_rfl) (fun _ _ _ h => h) (Or.inl ⟨by rfl, ?_⟩) (fun _ => rfl) (by assumption) ?_
          rotate_left
          · (intro wq hSq; (try dsimp only at hSq); go_simp; try with_reducible rfl)
          try simp only [Act.put, List.setIfInBounds_toArray, List.set_cons_zero, List.set_cons_succ]
          refine wpAnyKC_stepL 11 (by kernel_rfl) rfl (fun K hK => ?_)
          go_simp
          refine hK.out _ _ (fun h => by cases h) ?_
          clear hK K hS
          try simp only [Act.put, List.setIfInBounds_toArray, List.set_cons_zero, List.set_cons_succ]
          refine wpAnyKC_end (by kernel_rfl) ?_
          have hA6 : Hid (RWrAt (w5.setCell ⟨b, j, none⟩ (byteV c)).drew p b n S ⟨si.h.set j c, fu - 1, false⟩) := (hA5.out.setByte _ _).drew
          have hK6 : Hid (Kp (two p b) w (w5.setCell ⟨b, j, none⟩ (byteV c)).drew) := (hK5.out.setCell (Or.inr rfl) _).drew
          try rw [hsi]
          generalize (w5.setCell ⟨b, j, none⟩ (byteV c)).drew = w6 at hA6 hK6 ⊢
          clear b1 b2 k1
          gi_wp2
          go_roundw
          case rel =>
            refine ⟨i + 1, ⟨si.h.set j c, fu - 1, false⟩, by omega, by go_num, ?_, hA6.out, hK6.out⟩
            show _ = _
            rw [HST.out, ← HJ.out]
            rw [← FU.out, if_pos hp]
          case measure => simp [intOf]; omega
        · have hpn : ¬ 0 < fu := hp
          clear hp
          gi_wp2_with fail
          clear e2 e3 f2 f3
          have k1 : wr.cell? ⟨p, 1, none⟩ = some (.slice (some ⟨b, 0, none⟩) S S) := (four_cells HA4.out.at_).2.1
          obtain ⟨th, hth⟩ := HA4.out.half
          have hlh : si.h.length = S := HA4.out.len
          obtain ⟨b1, b2⟩ := half_cells hth j (by rw [hlh]; exact hk3)
          generalize si.h[j] = c0 at b1
          clear hth
          refine wpIn_region_K (fun w' => w'.cell? ⟨p, 1, none⟩ = some (.slice (some ⟨b, 0, none⟩) S S) ∧ w'.cell? ⟨b, j, none⟩ = some (byteV c0) ∧ w'.frozen? ⟨b, j, none⟩ = false) 11 (by kernel_rfl) ⟨k1, b1, b2⟩ (fun hS => ?_)
          refine wpAnyKC_takeL 0 20 (v := ?_) hro (by kernel_rfl) (by kernel_rfl) (by kernel_rfl) rfl (by kernel_rfl) (by kernel_rfl) (fun _ _ _ h => h) (Or.inl ⟨by rfl, ?_⟩) (fun _ => rfl) (by assumption) ?_
          rotate_left
          · (intro wq hSq; (try dsimp only at hSq); go_simp; try with_reducible rfl)
          try simp only [Act.put, List.setIfInBounds_toArray, List.set_cons_zero, List.set_cons_succ]
          refine wpAnyKC_takeL 1 20 (v := ?_) hro (by kernel_rfl) (by kernel_rfl) (by kernel_rfl) rfl (by kernel_rfl) (by kernel_rfl) (fun _ _ _ h => h) (Or.inl ⟨by rfl, ?_⟩) (fun _ => rfl) (by assumption) ?_
          rotate_left
          · (intro wq hSq; (try dsimp only at hSq); go_simp; try with_reducible rfl)
          try simp only [Act.put, List.setIfInBounds_toArray, List.set_cons_zero, List.set_cons_succ]
          refine wpAnyKC_takeL 2 20 (v := ?_) hro (by kernel_rfl) (by kernel_rfl) (by kernel_rfl) rfl (by kernel_rfl) (by kernel_rfl) (fun _ _ _ h => h) (Or.inl ⟨by rfl, ?_⟩) (fun _ => rfl) (by assumption) ?_
          rotate_left
          · (intro wq hSq; (try dsimp only at hSq); go_simp; try with_reducible rfl)
          try simp only [Act.put, List.setIfInBounds_toArray, List.set_cons_zero, List.set_cons_succ]
          refine wpAnyKC_takeL 3 20 (v := ?_) hro (by kernel_rfl) (by kernel_rfl) (by kernel_rfl) rfl (by kernel_rfl) (by kernel_rfl) (fun _ _ _ h => h) (Or.inl ⟨by rfl, ?_⟩) (fun _ => rfl) (by assumption) ?_
          rotate_left
          · (intro wq hSq; (try dsimp only at hSq); go_simp; try with_reducible rfl)
          try simp only [Act.put, List.setIfInBounds_toArray, List.set_cons_zero, List.set_cons_succ]
          refine wpAnyKC_takeL 4 20 (v := ?_) hro (by kernel_rfl) (by kernel_rfl) (by kernel_rfl) rfl (by kernel_rfl) (by kernel_rfl) (fun _ _ _ h => h) (Or.inl ⟨by rfl, ?_⟩) (fun _ => rfl) (by assumption) ?_
          rotate_left
          · (intro wq hSq; (try dsimp only at hSq); go_simp; try with_reducible rfl)
          try simp only [Act.put, List.setIfInBounds_toArray, List.set_cons_zero, List.set_cons_succ]
          refine wpAnyKC_takeL 5 20 (v := ?_) hro (by kernel_rfl) (by kernel_rfl) (by kernel_rfl) rfl (by kernel_rfl) (by kernel_rfl) (fun _ _ _ h => h) (Or.inl ⟨by rfl, ?_⟩) (fun _ => rfl) (by assumption) ?_
          rotate_left
          · (intro wq hSq; (try dsimp only at hSq); go_simp; try with_reducible rfl)
          try simp only [Act.put, List.setIfInBounds_toArray, List.set_cons_zero, List.set_cons_succ]
          refine wpAnyKC_takeL 6 20 (v := ?_) hro (by kernel_rfl) (by kernel_rfl) (by kernel_rfl) rfl (by kernel_rfl) (by kernel_rfl) (fun _ _ _ h => h) (Or.inl ⟨by rfl, ?_⟩) (fun _ => rfl) (by assumption) ?_
          rotate_left
          · (intro wq hSq; (try dsimp only at hSq); go_simp; try with_reducible rfl)
          try simp only [Act.put, List.setIfInBounds_toArray, List.set_cons_zero, List.set_cons_succ]
          refine wpAnyKC_takeL 7 20 (v := ?_) hro (by kernel_rfl) (by kernel_rfl) (by kernel_rfl) rfl (by kernel_rfl) (by kernel_rfl) (fun _ _ _ h => h) (Or.inl ⟨by rfl, ?_⟩) (fun _ => rfl) (by assumption) ?_
          rotate_left
          · (intro wq hSq; (try dsimp only at hSq); go_simp; try with_reducible rfl)
          try simp only [Act.put, List.setIfInBounds_toArray, List.set_cons_zero, List.set_cons_succ]
          refine wpAnyKC_takeL 8 20 (v := ?_) hro (by kernel_rfl) (by kernel_rfl) (by kernel_rfl) rfl (by kernel_rfl) (by kernel_rfl) (fun _ _ _ h => h) (Or.inl ⟨by rfl, ?_⟩) (fun _ => rfl) (by assumption) ?_
          rotate_left
          · (intro wq hSq; (try dsimp only at hSq); go_simp; try with_reducible rfl)
          try simp only [Act.put, List.setIfInBounds_toArray, List.set_cons_zero, List.set_cons_succ]
          refine wpAnyKC_takeL 9 20 (v := ?_) hro (by kernel_rfl) (by kernel_rfl) (by kernel_rfl) rfl (by kernel_rfl) (by kernel_rfl) (fun _ _ _ h => h) (Or.inl ⟨by rfl, ?_⟩) (fun _ => rfl) (by assumption) ?_
          rotate_left
          · (intro wq hSq; (try dsimp only at hSq); go_simp; try with_reducible rfl)
          try simp only [Act.put, List.setIfInBounds_toArray, List.set_cons_zero, List.set_cons_succ]
          refine wpAnyKC_takeL 10 20 (v := ?_) hro (by kernel_rfl) (by kernel_rfl) (by kernel_rfl) rfl (by kernel_rfl) (by kernel_rfl) (fun _ _ _ h => h) (Or.inl ⟨by rfl, ?_⟩) (fun _ => rfl) (by assumption) ?_
          rotate_left
          · (intro wq hSq; (try dsimp only at hSq); go_simp; try with_reducible rfl)
          try simp only [Act.put, List.setIfInBounds_toArray, List.set_cons_zero, List.set_cons_succ]
          refine wpAnyKC_stepL 11 (by kernel_rfl) rfl (fun K hK => ?_)
          go_simp
          refine hK.out _ _ (fun h => by cases h) ?_
          clear hK K hS
          try simp only [Act.put, List.setIfInBounds_toArray, List.set_cons_zero, List.set_cons_succ]
          refine wpAnyKC_end (by kernel_rfl) ?_
          have hA6 : Hid (RWrAt (wr.setCell ⟨b, j, none⟩ (byteV c)).drew p b n S ⟨si.h.set j c, si.fuse, false⟩) := (HA4.out.setByte _ _).drew
          have hK6 : Hid (Kp (two p b) w (wr.setCell ⟨b, j, none⟩ (byteV c)).drew) := (hKp.out.setCell (Or.inr rfl) _).drew
          try rw [hsi]
          generalize (wr.setCell ⟨b, j, none⟩ (byteV c)).drew = w6 at hA6 hK6 ⊢
          clear b1 b2 k1
          gi_wp2
          go_roundw
          case rel =>
            refine ⟨i + 1, ⟨si.h.set j c, si.fuse, false⟩, by omega, by go_num, ?_, hA6.out, hK6.out⟩
            show _ = _
            rw [HST.out, ← HJ.out]
            rw [← FU.out, if_neg (by omega)]
          case measure => simp [intOf]; omega
end Go.Proofs.Ytjfmcobikadjhaa
