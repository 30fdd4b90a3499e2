/- Walks: the number of digits and their bound. -/
import Derived.Test.YtpcpgmgpkegjlaaGB2
namespace Go.Proofs.Ytpcpgmgpkegjlaa
open Go.RowKit Go.Shelf Go.BigFrame
def countB (N : Int) (chain : List Nat) (sp : Nat) (width level : Int) : Bool := madeB N chain sp width && levB chain.length level
def countI (width level : Int) (ok : Bool) : Int := if ok then level * partsI width else 0
/-- Boxed parameters at the head of a call. -/
theorem par_box {w : World} {N pr pw wt er : Int} {cv : Value} {sp : Int} {chain : List Nat} (hr : w.reads w.heap.size cv (chain.map u32V)) :
    (w.alloc (.cells #[.int .i64 N, .int .u32 pr, .int .i64 pw, cv, .int .u32 sp, .int .i64 wt, .int .u32 er] 25)).reads (w.alloc (.cells #[.int .i64 N, .int .u32 pr, .int .i64 pw, cv, .int .u32 sp, .int .i64 wt, .int .u32 er] 25)).heap.size cv (chain.map u32V) :=
  (hr.alloc (Nat.le_refl _) _).mono (by simp)
theorem AskedPost.lev {w : World} {b p : Nat} {width : Int} (h : CutterAt w b p width) : w.cell? ⟨b, 0, none⟩ = some (.pointer (some ⟨p, 0, none⟩)) ∧ w.cell? ⟨b, 1, none⟩ = some (.int .i64 width) ∧ w.cell? ⟨b, 2, none⟩ = some (.int .i64 (partsI width)) := three_cells h
set_option maxRecDepth 100000 in
set_option maxHeartbeats 4000000 in
theorem Count_any (N pr pw wt er : Int) (cv : Value) (chain : List Nat) (sp : Nat) (width level : Int) (w : World) (hr : w.reads w.heap.size cv (chain.map u32V)) (hcb : ∀ q ∈ chain, q < 4294967296) :
    Calls Try.prog 12 #[.agg #[.int .i64 N, .int .u32 pr, .int .i64 pw, cv, .int .u32 (sp : Int), .int .i64 wt, .int .u32 er], .int .i64 width, .int .i64 level] w
      fun e w' => e = .returned (.tuple #[.int .i64 (countI width level (countB N chain sp width level)), .int .i64 (errI (countB N chain sp width level))]) ∧ Below w.heap.size w w' := by
  have HA := Lib.hid (asked_level N pr pw wt er cv chain sp width level w.heap.size _ (par_box hr) hcb (alloc_last w _ rfl))
  clear hr hcb
  obtain ⟨r, hrr⟩ : ∃ r, r = countB N chain sp width level := ⟨_, rfl⟩
  rw [← hrr]
  unfold countB at hrr
  have HR := Lib.hid hrr
  clear hrr
  obtain ⟨mb, hmb⟩ : ∃ mb, mb = madeB N chain sp width := ⟨_, rfl⟩
  rw [← hmb] at HA HR
  have HMB := Lib.hid hmb
  clear hmb
  obtain ⟨lb, hlb⟩ : ∃ lb, lb = levB chain.length level := ⟨_, rfl⟩
  rw [← hlb] at HA HR
  have HLB := Lib.hid hlb
  clear hlb
  unfold AskedPost at HA
  cases mb
  · obtain rfl : r = false := HR.out
    go_enter Try.func12, Try.ntmps12
    go_wp2_with fail
    refine HA.out.mono ?_
    rintro e w1 ⟨h, hb⟩
    obtain rfl : e = _ := h
    go_wp2
    go_ret2
    exact ⟨rfl, ((Below.refl _ w).alloc (Nat.le_refl _) _).trans (hb.mono (by simp))⟩
  · obtain rfl : r = lb := HR.out
    obtain ⟨h1, h2, h3, h4⟩ := madeB_parts HMB.out.symm
    have hpb := parts_bound h1 h2
    have h24 := (validB_len h3).2
    clear h3 h4
    cases r
    · go_enter Try.func12, Try.ntmps12
      go_wp2_with fail
      refine HA.out.mono ?_
      rintro e w1 ⟨h, hb⟩
      rw [if_pos trivial] at h
      obtain ⟨b, rfl, hwb, hcut⟩ := h
      have hB := ((Below.refl _ w).alloc (Nat.le_refl _) _).trans (hb.mono (by simp))
      go_wp2
      go_ret2
      exact ⟨rfl, hB⟩
    · have hlv := HLB.out
      unfold levB at hlv
      rw [eq_comm, Bool.and_eq_true] at hlv
      simp only [decide_eq_true_eq] at hlv
      obtain ⟨k1, k2⟩ := hlv
      have hmul1 : 0 ≤ level * partsI width := Int.mul_nonneg (by omega) (by omega)
      have hmul2 : level * partsI width ≤ 24 * 16 := Int.mul_le_mul (by omega) (by omega) (by omega) (by omega)
      change Calls _ _ _ _ (fun e w' => e = .returned (.tuple #[.int .i64 (level * partsI width), .int .i64 0]) ∧ Below w.heap.size w w')
      go_enter Try.func12, Try.ntmps12
      go_wp2_with fail
      refine HA.out.mono ?_
      rintro e w1 ⟨h, hb⟩
      rw [if_pos trivial] at h
      obtain ⟨b, rfl, hwb, hcut⟩ := h
      have hB := ((Below.refl _ w).alloc (Nat.le_refl _) _).trans (hb.mono (by simp))
      obtain ⟨d0, d1, d2⟩ := AskedPost.lev hcut
      go_wp2
      go_ret2
      exact ⟨rfl, hB⟩
/-- The greatest modulus. -/
def maxL (l : List Nat) : Nat := l.foldl max 0
def boundI (chain : List Nat) (width : Int) : Int := if width < 31 then 2 ^ (width - 1).toNat else ((maxL chain : Int) - 1) / 2
theorem maxL_succ (l : List Nat) (k x : Nat) (h : l[k]? = some x) : maxL (l.take (k + 1)) = max (maxL (l.take k)) x := by
  unfold maxL; rw [List.take_add_one, h]; simp
theorem maxL_lt (l : List Nat) (B : Nat) (hB : 0 < B) (h : ∀ q ∈ l, q < B) : maxL l < B := by
  unfold maxL
  suffices ∀ (l : List Nat) (a : Nat), a < B → (∀ q ∈ l, q < B) → l.foldl max a < B from this l 0 hB h
  intro l
  induction l with
  | nil => intro a ha _; exact ha
  | cons x l ih =>
    intro a ha hl
    exact ih _ (by have := hl x (by simp); omega) (fun q hq => hl q (by simp [hq]))
theorem maxL_ge (l : List Nat) (q : Nat) (h : q ∈ l) : q ≤ maxL l := by
  unfold maxL
  suffices ∀ (l : List Nat) (a : Nat), a ≤ l.foldl max a ∧ ∀ q ∈ l, q ≤ l.foldl max a from (this l 0).2 q h
  intro l
  induction l with
  | nil => intro a; exact ⟨Nat.le_refl _, by simp⟩
  | cons x l ih =>
    intro a
    have := ih (max a x)
    exact ⟨by simp only [List.foldl_cons]; omega, fun q hq => by
      rcases List.mem_cons.1 hq with rfl | hq
      · simp only [List.foldl_cons]; omega
      · exact this.2 q hq⟩
theorem chain_ge {N : Int} {chain : List Nat} {sp : Nat} (hv : validB N chain sp = true) : ∀ q ∈ chain, 3 ≤ q ∧ q ≤ 2147483647 := by
  intro q hq
  obtain ⟨i, hi, rfl⟩ := List.getElem_of_mem hq
  unfold validB at hv
  simp only [Bool.and_eq_true] at hv
  exact modB_lt (okTo_get hv.2 i _ hi (List.getElem?_eq_getElem hi))
theorem maxL_pos {N : Int} {chain : List Nat} {sp : Nat} (hv : validB N chain sp = true) : 3 ≤ maxL chain := by
  have h1 := (validB_len hv).1
  have h2 := chain_ge hv _ (List.getElem_mem (show 0 < chain.length by omega))
  have h3 := maxL_ge chain _ (List.getElem_mem (show 0 < chain.length by omega))
  omega
theorem pow_bound {width : Int} (h1 : 2 ≤ width) (h2 : width ≤ 31) : (2 : Int) ≤ 2 ^ (width - 1).toNat ∧ (2 : Int) ^ (width - 1).toNat ≤ 1073741824 := by
  have : width = 2 ∨ width = 3 ∨ width = 4 ∨ width = 5 ∨ width = 6 ∨ width = 7 ∨ width = 8 ∨ width = 9 ∨ width = 10 ∨ width = 11 ∨ width = 12 ∨ width = 13 ∨ width = 14 ∨ width = 15 ∨ width = 16 ∨ width = 17 ∨ width = 18 ∨ width = 19 ∨ width = 20 ∨ width = 21 ∨ width = 22 ∨ width = 23 ∨ width = 24 ∨ width = 25 ∨ width = 26 ∨ width = 27 ∨ width = 28 ∨ width = 29 ∨ width = 30 ∨ width = 31 := by omega
  rcases this with h | h | h | h | h | h | h | h | h | h | h | h | h | h | h | h | h | h | h | h | h | h | h | h | h | h | h | h | h | h <;> subst h <;> decide
def boundR (chain : List Nat) (width : Int) (ok : Bool) : Int := if ok then boundI chain width else 0
set_option maxRecDepth 100000 in
set_option maxHeartbeats 4000000 in
theorem Bound_any (N pr pw wt er : Int) (cv : Value) (chain : List Nat) (sp : Nat) (width : Int) (w : World) (hr : w.reads w.heap.size cv (chain.map u32V)) (hcb : ∀ q ∈ chain, q < 4294967296) :
    Calls Try.prog 14 #[.agg #[.int .i64 N, .int .u32 pr, .int .i64 pw, cv, .int .u32 (sp : Int), .int .i64 wt, .int .u32 er], .int .i64 width] w
      fun e w' => e = .returned (.tuple #[.int .i64 (boundR chain width (madeB N chain sp width)), .int .i64 (errI (madeB N chain sp width))]) ∧ Below w.heap.size w w' := by
  have HA := Lib.hid (made_any N pr pw wt er cv chain sp width w.heap.size _ (par_box hr) hcb (alloc_last w _ rfl))
  have HCB := Lib.hid hcb
  have hl := hr.le_map
  have hrd := hr
  obtain ⟨a, cap, rfl, hcap, hmx, hsh⟩ := reads_u32 hr
  have HS := Lib.hid hsh
  clear hsh hr hrd hcb
  unfold MadePost at HA
  cases hmb : madeB N chain sp width
  · rw [hmb] at HA
    clear hmb
    go_enter Try.func14, Try.ntmps14
    go_wp2_with fail
    refine HA.out.mono ?_
    rintro e w1 ⟨h, hb⟩
    obtain rfl : e = _ := h
    go_wp2
    go_ret2
    exact ⟨rfl, ((Below.refl _ w).alloc (Nat.le_refl _) _).trans (hb.mono (by simp))⟩
  · rw [hmb] at HA
    obtain ⟨h1, h2, h3, h4⟩ := madeB_parts hmb
    have h24 := (validB_len h3).2
    have h24' := (validB_len h3).1
    have hpw := pow_bound h1 h2
    have hmp := maxL_pos h3
    clear hmb h3 h4
    by_cases h31 : width < 31
    · have hbd : boundR chain width true = 2 ^ (width - 1).toNat := by unfold boundR boundI; rw [if_pos rfl, if_pos h31]
      rw [hbd]
      clear hbd
      go_enter Try.func14, Try.ntmps14
      go_wp2_with fail
      refine HA.out.mono ?_
      rintro e w1 ⟨h, hb⟩
      rw [if_pos trivial] at h
      obtain ⟨b, rfl, hwb, hcut⟩ := h
      have hB := ((Below.refl _ w).alloc (Nat.le_refl _) _).trans (hb.mono (by simp))
      have hwr : wrap64 (2 ^ (width.toNat - 1)) = 2 ^ (width - 1).toNat := by
        rw [show (width - 1).toNat = width.toNat - 1 by omega] at hpw ⊢
        exact IntWalk.wrap64_in _ ⟨by omega, by omega⟩
      have HW := Lib.hid hwr
      clear hwr hpw
      go_wp2
      go_ret2
      exact ⟨by rw [HW.out]; rfl, hB⟩
    · have hbd : boundR chain width true = ((maxL chain : Int) - 1) / 2 := by unfold boundR boundI; rw [if_pos rfl, if_neg h31]
      rw [hbd]
      clear hbd hpw
      obtain ⟨m, hm⟩ : ∃ m, m = chain.length := ⟨_, rfl⟩
      rw [← hm] at hcap HA hl h24 h24' ⊢
      have HH := Lib.hid hm
      clear hm
      have hmx2 := maxL_lt chain 4294967296 (by omega) HCB.out
      go_enter Try.func14, Try.ntmps14
      go_wp2_with fail
      refine HA.out.mono ?_
      rintro e w1 ⟨h, hb⟩
      rw [if_pos trivial] at h
      obtain ⟨b, rfl, hwb, hcut⟩ := h
      have hB := ((Below.refl _ w).alloc (Nat.le_refl _) _).trans (hb.mono (by simp))
      have hpc := (hb.block w.heap.size (by simp)).trans (alloc_last w _ rfl)
      obtain ⟨-, -, -, c3, -, -, -⟩ := par_cells hpc
      obtain ⟨hcw, hfw⟩ := bcell hB
      clear hcut hwb hpc hb
      go_wp2
      go_loop [8, 26] (fun q i => ∃ k : Nat, k ≤ m ∧ i = .int .i64 (k : Int) ∧ q = .int .u32 (maxL (chain.take k) : Int)) (fun _ i => m - (intOf i).toNat)
      case atStart => exact ⟨0, Nat.zero_le _, rfl, rfl⟩
      case round =>
        obtain ⟨k, hk, rfl, rfl⟩ := hrel
        by_cases hlt : k < m
        · obtain ⟨q, hq⟩ : ∃ x, chain[k]? = some x := ⟨chain[k]'(by rw [← HH.out]; exact hlt), List.getElem?_eq_getElem _⟩
          obtain ⟨b', off, rfl, hbl, hc⟩ := HS.out k q hq
          have HQ := Lib.hid (maxL_succ chain k q hq)
          clear hq
          by_cases hmq : maxL (chain.take k) < q
          all_goals
            go_wp2
            go_round
            case rel => exact ⟨k + 1, by omega, by go_num, by rw [HQ.out]; first | (rw [Nat.max_eq_right (by omega)]) | (rw [Nat.max_eq_left (by omega)])⟩
            case measure => simp [intOf]; omega
        · obtain rfl : k = m := by omega
          have htk : chain.take k = chain := by rw [List.take_of_length_le (by rw [← HH.out]; exact Nat.le_refl _)]
          rw [htk]
          have HT := Lib.hid htk
          clear htk
          go_wp2
          go_ret2
          exact ⟨rfl, hB⟩
end Go.Proofs.Ytpcpgmgpkegjlaa
