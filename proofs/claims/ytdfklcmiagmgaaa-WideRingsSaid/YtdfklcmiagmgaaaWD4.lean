/- Walks: whether forms are valid, positive, too long. -/
import Derived.Test.YtdfklcmiagmgaaaWD3
namespace Go.Proofs.Ytdfklcmiagmgaaa
set_option linter.all false
open Go.RowKit Go.Shelf Go.WideNum
/-- Forms in memory. -/
def World.forms (w : World) (g : Nat) (L : List (Bool × ByteArray)) : Prop := ∀ k x, L[k]? = some x → w.cell? ⟨g, 2 * k, none⟩ = some (.bool x.1) ∧ w.cell? ⟨g, 2 * k + 1, none⟩ = some (.string x.2)
set_option maxRecDepth 100000 in
set_option maxHeartbeats 4000000 in
theorem great_any (L : List (Bool × ByteArray)) (g : Nat) (hL : L.length ≤ 10) (hs : ∀ x ∈ L, x.2.size ≤ maxLen) (w : World) (hg : World.forms w g L) :
    Calls Try.prog 10 #[.slice (some ⟨g, 0, none⟩) L.length L.length] w fun e w' => e = .returned (.bool (L.any fun x => decide (300 < x.2.size))) ∧ w = w' := by
  obtain ⟨R, hR⟩ : ∃ R, R = L.any fun x => decide (300 < x.2.size) := ⟨_, rfl⟩
  rw [← hR]
  obtain ⟨n, hn⟩ : ∃ n, n = L.length := ⟨_, rfl⟩
  rw [← hn] at hL ⊢
  have HR := Lib.hid hR
  have HN := Lib.hid hn
  have HG : Hid (World.forms w g L) := hg
  have HS := Lib.hid hs
  clear hR hn hg hs
  go_enter Try.func10, Try.ntmps10
  go_wp2_with fail
  go_loop [3] (fun iv => ∃ k : Nat, k ≤ n ∧ iv = .int .i64 (k : Int) ∧ Hid ((L.take k).any (fun x => decide (300 < x.2.size)) = false)) (fun iv => n - (intOf iv).toNat)
  case atStart => exact ⟨0, Nat.zero_le _, rfl, rfl⟩
  case round =>
    obtain ⟨k, hk, rfl, hT⟩ := hrel
    by_cases hlt : k < n
    · have hx : L[k]? = some (L[k]'(by rw [← HN.out]; exact hlt)) := List.getElem?_eq_getElem _
      obtain ⟨x, ex⟩ : ∃ x, x = L[k]'(by rw [← HN.out]; exact hlt) := ⟨_, rfl⟩
      rw [← ex] at hx
      obtain ⟨c0, c1⟩ := HG.out k x hx
      have hs63 : x.2.size ≤ 9223372036854775807 := HS.out x (List.mem_of_getElem? hx)
      have hts : (L.take (k + 1)).any (fun x => decide (300 < x.2.size)) = ((L.take k).any (fun x => decide (300 < x.2.size)) || decide (300 < x.2.size)) := by
        rw [List.take_add_one, hx, List.any_append]; simp
      have HTS := Lib.hid hts
      have HX := Lib.hid hx
      have ek : ((k : Int) * 2 + 1).toNat = 2 * k + 1 := by omega
      have ek2 : k * 2 + 1 = 2 * k + 1 := by omega
      have ek3 : k * 2 = 2 * k := by omega
      clear hts hx ex
      by_cases h3 : 300 < x.2.size
      · have h3' : (300 : Int) < (x.2.size : Int) := by omega
        have hre : R = true := by
          rw [HR.out]
          exact List.any_eq_true.2 ⟨x, List.mem_of_getElem? HX.out, decide_eq_true h3⟩
        subst hre
        go_wp2
        go_ret
        exact ⟨rfl, rfl⟩
      · have h3' : ¬ (300 : Int) < (x.2.size : Int) := by omega
        go_wp2
        go_round
        case rel => exact ⟨k + 1, by omega, by go_num, by show _ = _; rw [HTS.out, hT.out, decide_eq_false h3]; rfl⟩
        case measure => simp [intOf]; omega
    · obtain rfl : k = n := by omega
      have hre : R = false := by
        rw [HR.out]
        have := hT.out
        rwa [HN.out, List.take_length] at this
      subst hre
      go_wp2
      go_ret
      exact ⟨rfl, rfl⟩
theorem forms_below {w w' : World} {g : Nat} {L : List (Bool × ByteArray)} (h : World.forms w g L) (hg : g < w.heap.size) (hb : Below w.heap.size w w') : World.forms w' g L := fun k x hk =>
  ⟨(hb.cell (p := ⟨g, 2 * k, none⟩) hg).trans (h k x hk).1, (hb.cell (p := ⟨g, 2 * k + 1, none⟩) hg).trans (h k x hk).2⟩
set_option maxRecDepth 100000 in
set_option maxHeartbeats 4000000 in
theorem valid_any (L : List (Bool × ByteArray)) (g : Nat) (hL : L.length ≤ 10) (hs : ∀ x ∈ L, x.2.size ≤ maxLen) (w : World) (hg : World.forms w g L) (hgl : g < w.heap.size) :
    Calls Try.prog 63 #[.slice (some ⟨g, 0, none⟩) L.length L.length] w fun e w' => e = .returned (.bool (L.all fun x => validB x.1 x.2)) ∧ Below w.heap.size w w' := by
  obtain ⟨R, hR⟩ : ∃ R, R = L.all fun x => validB x.1 x.2 := ⟨_, rfl⟩
  rw [← hR]
  obtain ⟨n, hn⟩ : ∃ n, n = L.length := ⟨_, rfl⟩
  rw [← hn] at hL ⊢
  have HR := Lib.hid hR
  have HN := Lib.hid hn
  have HG : Hid (World.forms w g L) := hg
  have HS := Lib.hid hs
  clear hR hn hg hs
  go_enter Try.func63, Try.ntmps63
  go_wp2_with fail
  go_loopw [7] (fun iv wr => ∃ k : Nat, k ≤ n ∧ iv = .int .i64 (k : Int) ∧ Hid ((L.take k).all (fun x => validB x.1 x.2) = true) ∧ Hid (Below w.heap.size w wr)) (fun iv _ => n - (intOf iv).toNat)
  case atStart => exact ⟨0, Nat.zero_le _, rfl, rfl, Below.refl _ _⟩
  case round =>
    obtain ⟨k, hk, rfl, hT, hB⟩ := hrel
    by_cases hlt : k < n
    · have hx : L[k]? = some (L[k]'(by rw [← HN.out]; exact hlt)) := List.getElem?_eq_getElem _
      obtain ⟨x, ex⟩ : ∃ x, x = L[k]'(by rw [← HN.out]; exact hlt) := ⟨_, rfl⟩
      rw [← ex] at hx
      obtain ⟨c0, c1⟩ := forms_below HG.out hgl hB.out k x hx
      have hs63 : x.2.size ≤ maxLen := HS.out x (List.mem_of_getElem? hx)
      have hts : (L.take (k + 1)).all (fun x => validB x.1 x.2) = ((L.take k).all (fun x => validB x.1 x.2) && validB x.1 x.2) := by
        rw [List.take_add_one, hx, List.all_append]; simp
      have HTS := Lib.hid hts
      have HX := Lib.hid hx
      have ek2 : k * 2 + 1 = 2 * k + 1 := by omega
      have ek3 : k * 2 = 2 * k := by omega
      have hszb := hB.out.size
      have HVAL : Hid (∀ W : World, Calls Try.prog 16 #[.agg #[.bool x.1, .string x.2]] W fun e w' => e = .returned (.bool (validB x.1 x.2)) ∧ Below W.heap.size W w') := Valid_wide x.1 x.2 hs63
      clear hts hx ex hs63
      obtain ⟨x1, x2⟩ := x
      dsimp only at c0 c1
      cases hv : validB x1 x2 with
      | false =>
        have hre : R = false := by
          rw [HR.out, Bool.eq_false_iff]
          intro h
          have := List.all_eq_true.1 h _ (List.mem_of_getElem? HX.out)
          rw [hv] at this; cases this
        subst hre
        dsimp only at HVAL
        rw [hv] at HVAL
        clear hv
        go_wp2_with fail
        (with_reducible refine (HVAL.out _).mono ?_)
        rintro e w3 ⟨rfl, hb3⟩
        have HB3 := Lib.hid (hB.out.trans (((Below.refl wr.heap.size wr).alloc (Nat.le_refl _) (.cells #[.bool x1, .string x2] 23)).trans (hb3.mono (by simp)) |>.mono hszb))
        clear hb3
        go_wp2
        go_ret
        exact ⟨rfl, HB3.out⟩
      | true =>
        dsimp only at HVAL HTS
        rw [hv] at HVAL HTS
        clear hv
        go_wp2_with fail
        (with_reducible refine (HVAL.out _).mono ?_)
        rintro e w3 ⟨rfl, hb3⟩
        have HB3 := Lib.hid (hB.out.trans (((Below.refl wr.heap.size wr).alloc (Nat.le_refl _) (.cells #[.bool x1, .string x2] 23)).trans (hb3.mono (by simp)) |>.mono hszb))
        clear hb3
        go_wp2
        go_roundw
        case rel => exact ⟨k + 1, by omega, by go_num, by show _ = _; rw [HTS.out, hT.out]; rfl, HB3.out⟩
        case measure => simp [intOf]; omega
    · obtain rfl : k = n := by omega
      have hre : R = true := by
        rw [HR.out]
        have := hT.out
        rwa [HN.out, List.take_length] at this
      subst hre
      go_wp2
      go_ret
      exact ⟨rfl, hB.out⟩
theorem str_facts (s : ByteArray) (h0 : s.size ≠ 0) : ¬ s = (⟨#[]⟩ : ByteArray) ∧ s.toList.isEmpty = false := by
  refine ⟨fun h => h0 (by rw [h]; rfl), ?_⟩
  rw [ByteArray.toList_eq]
  cases hl : s.data.toList with
  | nil =>
    exfalso
    apply h0
    show s.data.size = 0
    rw [← Array.length_toList, hl]; rfl
  | cons a l => rfl
theorem str_empty (s : ByteArray) (h0 : s.size = 0) : s = ⟨#[]⟩ := by
  apply ByteArray.ext
  exact Array.eq_empty_of_size_eq_zero h0
def posB (neg : Bool) (s : ByteArray) : Bool := validB neg s && (decide (s.size ≠ 0) && !neg)
set_option maxRecDepth 100000 in
set_option maxHeartbeats 4000000 in
theorem positive_any (neg : Bool) (s : ByteArray) (hs : s.size ≤ maxLen) (w : World) :
    Calls Try.prog 70 #[.agg #[.bool neg, .string s]] w fun e w' => e = .returned (.bool (posB neg s)) ∧ Below w.heap.size w w' := by
  have HVAL : Hid (∀ W : World, Calls Try.prog 16 #[.agg #[.bool neg, .string s]] W fun e w' => e = .returned (.bool (validB neg s)) ∧ Below W.heap.size W w') := Valid_wide neg s hs
  obtain ⟨R, hR⟩ : ∃ R, R = posB neg s := ⟨_, rfl⟩
  rw [← hR]
  unfold posB at hR
  have hb0 := (Below.refl w.heap.size w).alloc (Nat.le_refl _) (.cells #[.bool neg, .string s] 23)
  have HB0 := Lib.hid hb0
  clear hb0
  cases hv : validB neg s with
  | false =>
    rw [hv] at HVAL hR
    have hre : R = false := hR
    subst hre
    clear hv hR
    go_enter Try.func70, Try.ntmps70
    go_wp2_with fail
    (with_reducible refine (HVAL.out _).mono ?_)
    rintro e w3 ⟨rfl, hb3⟩
    have HB3 := Lib.hid (HB0.out.trans (hb3.mono (by simp)))
    clear hb3
    go_wp2
    go_ret
    exact ⟨rfl, HB3.out⟩
  | true =>
    rw [hv, Bool.true_and] at hR
    rw [hv] at HVAL
    clear hv
    by_cases h0 : s.size = 0
    · have hre : R = false := by rw [hR, decide_eq_false (by omega)]; rfl
      obtain rfl := str_empty s h0
      subst hre
      clear hR h0
      go_enter Try.func70, Try.ntmps70
      go_wp2_with fail
      (with_reducible refine (HVAL.out _).mono ?_)
      rintro e w3 ⟨rfl, hb3⟩
      obtain ⟨c0, c1, f0⟩ := wide_cells ((hb3.block w.heap.size (by simp)).trans (heap_alloc_new w _))
      have HB3 := Lib.hid (HB0.out.trans (hb3.mono (by simp)))
      clear hb3
      go_wp2
      go_ret
      exact ⟨rfl, HB3.out⟩
    · obtain ⟨hns, hem⟩ := str_facts s h0
      have hre : R = !neg := by rw [hR, decide_eq_true (by omega)]; rfl
      subst hre
      clear hR h0
      go_enter Try.func70, Try.ntmps70
      go_wp2_with fail
      (with_reducible refine (HVAL.out _).mono ?_)
      rintro e w3 ⟨rfl, hb3⟩
      obtain ⟨c0, c1, f0⟩ := wide_cells ((hb3.block w.heap.size (by simp)).trans (heap_alloc_new w _))
      have HB3 := Lib.hid (HB0.out.trans (hb3.mono (by simp)))
      clear hb3
      go_wp2
      go_ret
      exact ⟨rfl, HB3.out⟩
end Go.Proofs.Ytdfklcmiagmgaaa
