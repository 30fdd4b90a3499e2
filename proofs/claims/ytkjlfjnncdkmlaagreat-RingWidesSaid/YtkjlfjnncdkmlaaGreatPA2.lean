/- Helpers and walks, in one text. -/
import Derived.Test.YtkjlfjnncdkmlaaGreatPA1
import Derived.Test.YtkjlfjnncdkmlaaGreatProg
import Derived.Lib.Strings
import Derived.Lib.Slices
import Derived.Lib.Small
import Derived.Lib.Walk
import Derived.Lib.BitFns
import Derived.Sort.CutIn
import Derived.Deep.RegionHeld3
import Derived.Laws.CopyRow
set_option linter.all false
set_option maxRecDepth 100000
set_option maxHeartbeats 40000000
/- Wide integers: helpers and walks, in one text (WM1 WA1 WA2 WA3 WA4 WM2 WM3 WN1 WF1 WF2 WF3 WB4 WB5 WM4 WB6 WM5 WB7 WF4 WB8 WM6 WB9 WB1 WB2 WB3 WC1 WC2 WC3 WM7). -/
/- Plain: numbers in words of a base. -/
namespace Go.WideNum
def valW (B : Nat) : List Nat → Nat
 | [] => 0
 | x :: l => x + B * valW B l
def wordsOf (B : Nat) : Nat → Nat → List Nat
 | 0, _ => []
 | f + 1, n => if n = 0 then [] else n % B :: wordsOf B f (n / B)
def words (B n : Nat) : List Nat := wordsOf B n n
theorem valW_append (B : Nat) (a b : List Nat) : valW B (a ++ b) = valW B a + B ^ a.length * valW B b := by
 induction a with
 | nil => simp [valW]
 | cons x a ih => rw [List.cons_append, valW, ih, valW, List.length_cons, Nat.pow_succ, Nat.mul_add, ← Nat.mul_assoc, Nat.mul_comm B (B ^ a.length), Nat.add_assoc]
theorem valW_lt {B : Nat} (_hB : 0 < B) : ∀ l : List Nat, (∀ x ∈ l, x < B) → valW B l < B ^ l.length := by
 intro l
 induction l with
 | nil => intro _; simp [valW]
 | cons x l ih =>
  intro h
  have h1 := ih (fun y hy => h y (by simp [hy]))
  have h2 := h x (by simp)
  rw [valW, List.length_cons, Nat.pow_succ, Nat.mul_comm]
  have h3 : (valW B l + 1) * B ≤ B ^ l.length * B := Nat.mul_le_mul_right B h1
  rw [Nat.add_mul] at h3
  omega
theorem val_words {B : Nat} (hB : 1 < B) : ∀ (f n : Nat), n ≤ f → valW B (wordsOf B f n) = n := by
  intro f
  induction f with
  | zero => intro n h; have : n = 0 := by omega
            subst this; rfl
  | succ f ih =>
    intro n h
    rw [wordsOf]
    split
    · rename_i h0; rw [h0]; rfl
    · rename_i h0
      have hd : n / B < n := Nat.div_lt_self (by omega) hB
      rw [valW, ih (n / B) (by omega)]
      exact Nat.mod_add_div n B
def trimmed (l : List Nat) : Prop := ∀ x, l.getLast? = some x → x ≠ 0
theorem words_lt {B : Nat} (hB : 0 < B) : ∀ (f n : Nat), ∀ x ∈ wordsOf B f n, x < B := by
 intro f
 induction f with
 | zero => intro n x hx; simp [wordsOf] at hx
 | succ f ih =>
  intro n x hx
  rw [wordsOf] at hx
  split at hx
  ·simp at hx
  ·rcases List.mem_cons.1 hx with rfl | hx
   ·exact Nat.mod_lt _ hB
   ·exact ih _ x hx
theorem words_val {B : Nat} (hB : 1 < B) : ∀ (l : List Nat), (∀ x ∈ l, x < B) → trimmed l → ∀ f, valW B l ≤ f → wordsOf B f (valW B l) = l := by
 intro l
 induction l with
 | nil => intro _ _ f _; cases f <;> simp [valW, wordsOf]
 | cons x l ih =>
  intro h ht f hf
  have hx := h x (by simp)
  have hl : ∀ y ∈ l, y < B := fun y hy => h y (by simp [hy])
  have htl : trimmed l := fun y hy => ht y (by
   cases l with
   | nil => simp at hy
   | cons z l => rw [List.getLast?_cons_cons]; exact hy)
  have hne : valW B (x :: l) ≠ 0 := by
   intro h0
   rw [valW] at h0
   have hx0 : x = 0 := by omega
   have hm : B * valW B l = 0 := by omega
   have hv : valW B l = 0 := by
    rcases Nat.mul_eq_zero.1 hm with h | h
    ·omega
    ·exact h
   cases l with
   | nil => exact ht x (by simp) hx0
   | cons z l2 =>
    have := ih hl htl 0 (by omega)
    rw [hv] at this
    simp [wordsOf] at this
  cases f with
  | zero => omega
  | succ f =>
   have hd : (x + B * valW B l) / B = valW B l := by
    rw [Nat.add_mul_div_left _ _ (by omega), Nat.div_eq_of_lt hx, Nat.zero_add]
   have hm : (x + B * valW B l) % B = x := by rw [Nat.add_mul_mod_self_left, Nat.mod_eq_of_lt hx]
   rw [wordsOf, if_neg hne, valW, hd, hm]
   rw [ih hl htl f (by
    have h2 : valW B l ≤ B * valW B l := Nat.le_mul_of_pos_left _ (by omega)
    have h3 : 2 * valW B l ≤ B * valW B l := Nat.mul_le_mul_right _ hB
    rw [valW] at hf hne
    omega)]
def magL (n : Nat) : List UInt8 := ((words 256 n).map UInt8.ofNat).reverse
def valM (l : List UInt8) : Nat := valW 256 (l.reverse.map UInt8.toNat)
theorem valM_magL (n : Nat) : valM (magL n) = n := by
 unfold valM magL
 rw [List.reverse_reverse, List.map_map]
 have h : (words 256 n).map (UInt8.toNat ∘ UInt8.ofNat) = words 256 n := by
  have : ∀ l : List Nat, (∀ x ∈ l, x < 256) → l.map (UInt8.toNat ∘ UInt8.ofNat) = l := by
   intro l
   induction l with
   | nil => intro _; rfl
   | cons x l ih =>
    intro h
    rw [List.map_cons, ih (fun y hy => h y (by simp [hy]))]
    have hx := h x (by simp)
    congr 1
    show (UInt8.ofNat x).toNat = x
    rw [UInt8.toNat_ofNat']
    omega
  exact this _ (words_lt (by omega) _ _)
 rw [h]
 exact val_words (by omega) n n (Nat.le_refl _)
theorem magL_valM (l : List UInt8) (h : l.head? ≠ some 0) : magL (valM l) = l := by
 have hw : words 256 (valM l) = l.reverse.map UInt8.toNat := by
  refine words_val (by omega) _ (fun x hx => ?_) (fun x hx => ?_) _ (Nat.le_refl _)
  ·obtain ⟨y, _, rfl⟩ := List.mem_map.1 hx
   exact y.toNat_lt
  ·rw [List.getLast?_map, List.getLast?_reverse] at hx
   intro h0
   cases hl : l.head? with
   | none => rw [hl] at hx; simp at hx
   | some y =>
    rw [hl] at hx
    simp at hx
    apply h
    rw [hl]
    congr 1
    apply UInt8.toNat_inj.1
    rw [hx, h0]; rfl
 unfold magL
 rw [hw, List.map_map, List.map_reverse, List.reverse_reverse]
 have : ∀ l : List UInt8, l.map (UInt8.ofNat ∘ UInt8.toNat) = l := by
  intro l
  induction l with
  | nil => rfl
  | cons x l ih =>
   rw [List.map_cons, ih]
   congr 1
   show UInt8.ofNat x.toNat = x
   simp
 exact this l
theorem wordsOf_length {B : Nat} (_hB : 1 < B) : ∀ (f n k : Nat), n < B ^ k → (wordsOf B f n).length ≤ k := by
 intro f
 induction f with
 | zero => intro n k _; simp [wordsOf]
 | succ f ih =>
  intro n k h
  rw [wordsOf]
  split
  ·simp
  ·rename_i h0
   cases k with
   | zero => simp at h; omega
   | succ k =>
    have h1 : n / B < B ^ k := by
     rw [Nat.pow_succ] at h
     exact Nat.div_lt_of_lt_mul (by rw [Nat.mul_comm]; exact h)
    have := ih (n / B) k h1
    rw [List.length_cons]; omega
theorem words_trimmed {B : Nat} (hB : 1 < B) : ∀ (f n : Nat), n ≤ f → trimmed (wordsOf B f n) := by
 intro f
 induction f with
 | zero => intro n _ x hx; simp [wordsOf] at hx
 | succ f ih =>
  intro n h
  rw [wordsOf]
  split
  ·intro x hx; simp at hx
  ·rename_i h0
   have hd : n / B < n := Nat.div_lt_self (by omega) hB
   intro x hx
   cases hl : wordsOf B f (n / B) with
   | nil =>
    rw [hl] at hx
    simp at hx
    have hv := val_words hB f (n / B) (by omega)
    rw [hl] at hv
    have h2 := Nat.mod_add_div n B
    rw [← hv] at h2
    simp [valW] at h2
    rw [← hx]
    omega
   | cons y l =>
    rw [hl, List.getLast?_cons_cons] at hx
    exact ih (n / B) (by omega) x (by rw [hl]; exact hx)
end Go.WideNum
/- Walks: forms of wide integers: whether one is valid. -/
namespace Go.Proofs.YtkjlfjnncdkmlaaGreat
section
open Go.RowKit Go.Shelf
def validB (neg : Bool) (s : ByteArray) : Bool := if h : s.size = 0 then !neg else decide (s[0]'(by omega) ≠ 0) && decide (s.size ≤ 256)
def wideV (neg : Bool) (s : ByteArray) : Value := .agg #[.bool neg, .string s]
theorem Valid_any (neg : Bool) (s : ByteArray) (hs : s.size ≤ maxLen) (w : World) :
  Calls Tryz.prog 93 #[wideV neg s] w fun e w' => e = .returned (.bool (validB neg s)) ∧ Below w.heap.size w w' := by
 have hb : Below w.heap.size w (w.alloc (.cells #[.bool neg, .string s] 40)) := (Below.refl _ w).alloc (Nat.le_refl _) _
 obtain ⟨R, hR⟩ : ∃ R, R = validB neg s := ⟨_, rfl⟩
 rw [← hR]
 unfold validB at hR
 have HB := Lib.hid hb
 unfold wideV
 have hs63 : s.size ≤ 9223372036854775807 := hs
 by_cases h0 : s.size = 0
 ·have hse : s = ⟨#[]⟩ := by
   apply ByteArray.ext
   exact Array.eq_empty_of_size_eq_zero h0
  rw [dif_pos h0] at hR
  subst hR
  subst hse
  clear hb
  go_enter Tryz.func93, Tryz.ntmps93
  go_wp2
  go_ret
  exact ⟨rfl, HB.out⟩
 ·rw [dif_neg h0] at hR
  have hns : ¬ s = (⟨#[]⟩ : ByteArray) := fun h => h0 (by rw [h]; rfl)
  have h0' : 0 < s.size := by omega
  have hemp : s.toList.isEmpty = false := by
   rw [ByteArray.toList_eq]
   cases hl : s.data.toList with
   | nil =>
    exfalso
    apply h0
    show s.data.size = 0
    rw [← Array.length_toList, hl]; rfl
   | cons a l => rfl
  by_cases hz : s[0] = 0
  ·have hR2 : R = false := by rw [hR, hz]; rfl
   have HR := Lib.hid hR2
   have hz1 : (s[0].toNat : Int) = 0 := by rw [hz]; rfl
   clear hR hb hR2 hz
   go_enter Tryz.func93, Tryz.ntmps93
   go_wp2
   go_ret
   rw [HR.out]
   exact ⟨rfl, HB.out⟩
  ·have hR2 : R = decide (s.size ≤ 256) := by rw [hR, decide_eq_true (show s[0] ≠ 0 from hz), Bool.true_and]
   have HR := Lib.hid hR2
   have hz1 : ((s[0].toNat : Int) != 0) = true := by
    rw [bne_iff_ne]
    intro h
    exact hz (UInt8.toNat_inj.1 (by show s[0].toNat = 0; omega))
   have hz2 : ¬ (s[0].toNat : Int) = 0 := by
    intro h
    exact hz (UInt8.toNat_inj.1 (by show s[0].toNat = 0; omega))
   clear hR hb hR2 hz
   by_cases h256 : s.size ≤ 256
   ·have h256' : (s.size : Int) ≤ 256 := by omega
    go_enter Tryz.func93, Tryz.ntmps93
    go_wp2
    go_ret
    rw [HR.out, decide_eq_true h256]
    exact ⟨rfl, HB.out⟩
   ·have h256' : ¬ (s.size : Int) ≤ 256 := by omega
    go_enter Tryz.func93, Tryz.ntmps93
    go_wp2
    go_ret
    rw [HR.out, decide_eq_false h256]
    exact ⟨rfl, HB.out⟩
end
/- Walks: the reference: whether a form is valid. -/
section
open Go.RowKit Go.Shelf
theorem refValid_any (neg : Bool) (s : ByteArray) (hs : s.size ≤ maxLen) (w : World) :
  Calls Tryz.prog 62 #[wideV neg s] w fun e w' => e = .returned (.bool (validB neg s)) ∧ Below w.heap.size w w' := by
 have hb : Below w.heap.size w (w.alloc (.cells #[.bool neg, .string s] 40)) := (Below.refl _ w).alloc (Nat.le_refl _) _
 obtain ⟨R, hR⟩ : ∃ R, R = validB neg s := ⟨_, rfl⟩
 rw [← hR]
 unfold validB at hR
 have HB := Lib.hid hb
 unfold wideV
 have hs63 : s.size ≤ 9223372036854775807 := hs
 by_cases h0 : s.size = 0
 ·have hse : s = ⟨#[]⟩ := by
   apply ByteArray.ext
   exact Array.eq_empty_of_size_eq_zero h0
  rw [dif_pos h0] at hR
  subst hR
  subst hse
  clear hb
  go_enter Tryz.func62, Tryz.ntmps62
  go_wp2
  go_ret
  exact ⟨rfl, HB.out⟩
 ·rw [dif_neg h0] at hR
  have hns : ¬ s = (⟨#[]⟩ : ByteArray) := fun h => h0 (by rw [h]; rfl)
  have h0' : 0 < s.size := by omega
  have hemp : s.toList.isEmpty = false := by
   rw [ByteArray.toList_eq]
   cases hl : s.data.toList with
   | nil =>
    exfalso
    apply h0
    show s.data.size = 0
    rw [← Array.length_toList, hl]; rfl
   | cons a l => rfl
  by_cases hz : s[0] = 0
  ·have hR2 : R = false := by rw [hR, hz]; rfl
   have HR := Lib.hid hR2
   have hz1 : (s[0].toNat : Int) = 0 := by rw [hz]; rfl
   clear hR hb hR2 hz
   by_cases h256 : s.size ≤ 256
   ·have h256' : (s.size : Int) ≤ 256 := by omega
    go_enter Tryz.func62, Tryz.ntmps62
    go_wp2
    go_ret
    rw [HR.out]
    exact ⟨rfl, HB.out⟩
   ·have h256' : ¬ (s.size : Int) ≤ 256 := by omega
    go_enter Tryz.func62, Tryz.ntmps62
    go_wp2
    go_ret
    rw [HR.out]
    exact ⟨rfl, HB.out⟩
  ·have hR2 : R = decide (s.size ≤ 256) := by rw [hR, decide_eq_true (show s[0] ≠ 0 from hz), Bool.true_and]
   have HR := Lib.hid hR2
   have hz1 : ((s[0].toNat : Int) != 0) = true := by
    rw [bne_iff_ne]
    intro h
    exact hz (UInt8.toNat_inj.1 (by show s[0].toNat = 0; omega))
   have hz2 : ¬ (s[0].toNat : Int) = 0 := by
    intro h
    exact hz (UInt8.toNat_inj.1 (by show s[0].toNat = 0; omega))
   clear hR hb hR2 hz
   by_cases h256 : s.size ≤ 256
   ·have h256' : (s.size : Int) ≤ 256 := by omega
    go_enter Tryz.func62, Tryz.ntmps62
    go_wp2
    go_ret
    rw [HR.out, decide_eq_true h256]
    exact ⟨rfl, HB.out⟩
   ·have h256' : ¬ (s.size : Int) ≤ 256 := by omega
    go_enter Tryz.func62, Tryz.ntmps62
    go_wp2
    go_ret
    rw [HR.out, decide_eq_false h256]
    exact ⟨rfl, HB.out⟩
end
/- Walks: forms of wide integers: a number without zeros at its end. -/
section
open Go.RowKit Go.Shelf
def lenOf : Value → Nat
 | .slice _ n _ => n
 | _ => 0
def trimL (l : List Nat) : List Nat := (l.reverse.dropWhile (fun x => decide (x = 0))).reverse
theorem trimL_zero (l : List Nat) : trimL (l ++ [0]) = trimL l := by unfold trimL; rw [List.reverse_append]; simp
theorem trimL_snoc (l : List Nat) (x : Nat) (hx : x ≠ 0) : trimL (l ++ [x]) = l ++ [x] := by unfold trimL; rw [List.reverse_append]; simp [hx]
theorem norm_any (l : List Nat) (a : Option Addr) (cap : Nat) (hl : l.length ≤ 100000) (hcap : l.length ≤ cap) (w : World) (hc : ∀ (j : Nat) (x : Nat), l[j]? = some x → ∃ b off, a = some ⟨b, off, none⟩ ∧ w.cell? ⟨b, off + j, none⟩ = some (.int .u32 (x : Int))) :
  Calls Tryz.prog 91 #[.slice a l.length cap] w fun e w' => e = .returned (.slice a (trimL l).length cap) ∧ w = w' := by
 obtain ⟨R, hR⟩ : ∃ R, R = (trimL l).length := ⟨_, rfl⟩
 rw [← hR]
 obtain ⟨n, hn⟩ : ∃ n, n = l.length := ⟨_, rfl⟩
 rw [← hn] at hl hcap ⊢
 have HR := Lib.hid hR
 have HN := Lib.hid hn
 have HC := Lib.hid hc
 clear hR hn hc
 go_enter Tryz.func91, Tryz.ntmps91
 go_wp2_with fail
 go_loop [0] (fun v => ∃ k : Nat, k ≤ n ∧ v = .slice a k cap ∧ Hid (trimL (l.take k) = trimL l)) (fun v => lenOf v)
 case atStart => exact ⟨n, Nat.le_refl _, rfl, by show trimL (l.take n) = _; rw [List.take_of_length_le (by rw [← HN.out]; exact Nat.le_refl _)]⟩
 case round =>
  obtain ⟨k, hk, rfl, hT⟩ := hrel
  by_cases h0 : k = 0
  ·subst h0
   have hre : R = 0 := by rw [HR.out, ← hT.out]; rfl
   subst hre
   go_wp2
   go_ret
   exact ⟨rfl, rfl⟩
  obtain ⟨j, rfl⟩ : ∃ j, k = j + 1 := ⟨k - 1, by omega⟩
  obtain ⟨x, hx⟩ : ∃ x, l[j]? = some x := ⟨l[j]'(by rw [← HN.out]; omega), List.getElem?_eq_getElem _⟩
  obtain ⟨b, off, rfl, hcell⟩ := HC.out j x hx
  have htk : l.take (j + 1) = l.take j ++ [x] := by rw [List.take_add_one, hx]; rfl
  have HTK := Lib.hid htk
  clear htk hx
  by_cases hx0 : x = 0
  ·have t1 : ((x : Int) == 0) = true := by rw [hx0]; rfl
   have HX := Lib.hid hx0
   clear hx0
   go_wp2
   go_round
   case rel => exact ⟨j, by omega, rfl, by show trimL _ = _; rw [← hT.out, HTK.out, HX.out, trimL_zero]⟩
   case measure => simp [lenOf]
  ·have t1 : ((x : Int) == 0) = false := by rw [beq_eq_false_iff_ne]; omega
   have hre : R = j + 1 := by
    rw [HR.out, ← hT.out, HTK.out, trimL_snoc _ _ hx0, List.length_append, List.length_take, ← HN.out]
    simp; omega
   have HRE := Lib.hid hre
   clear hre hx0
   go_wp2
   go_ret
   rw [HRE.out]
   exact ⟨rfl, rfl⟩
end
/- Walks: forms of wide integers: two numbers compared. -/
section
open Go.RowKit Go.Shelf
def cmpTo (l m : List Nat) : Nat → Int
 | 0 => 0
 | k + 1 => if l.getD k 0 < m.getD k 0 then -1 else if m.getD k 0 < l.getD k 0 then 1 else cmpTo l m k
def cmpL (l m : List Nat) : Int := if l.length < m.length then -1 else if m.length < l.length then 1 else cmpTo l m l.length
theorem compare_any (l m : List Nat) (a b : Option Addr) (ca cb : Nat) (hl : l.length ≤ 100000) (hm : m.length ≤ 100000) (w : World)
  (hc : ∀ (j : Nat) (x : Nat), l[j]? = some x → ∃ bb off, a = some ⟨bb, off, none⟩ ∧ w.cell? ⟨bb, off + j, none⟩ = some (.int .u32 (x : Int)))
  (hd : ∀ (j : Nat) (x : Nat), m[j]? = some x → ∃ bb off, b = some ⟨bb, off, none⟩ ∧ w.cell? ⟨bb, off + j, none⟩ = some (.int .u32 (x : Int))) :
  Calls Tryz.prog 78 #[.slice a l.length ca, .slice b m.length cb] w fun e w' => e = .returned (.int .i64 (cmpL l m)) ∧ ∃ n, w' = w.drewN n := by
 obtain ⟨R, hR⟩ : ∃ R, R = cmpL l m := ⟨_, rfl⟩
 rw [← hR]
 unfold cmpL at hR
 obtain ⟨p, hp⟩ : ∃ n, n = l.length := ⟨_, rfl⟩
 obtain ⟨q, hq⟩ : ∃ n, n = m.length := ⟨_, rfl⟩
 rw [← hp, ← hq] at hR
 rw [← hp] at hl ⊢
 rw [← hq] at hm ⊢
 have HR := Lib.hid hR
 have HP := Lib.hid hp
 have HQ := Lib.hid hq
 have HC := Lib.hid hc
 have HD := Lib.hid hd
 clear hR hp hq hc hd
 rcases Nat.lt_trichotomy p q with h | h | h
 ·have h1 : (p : Int) < (q : Int) := by omega
  have h2 : ((p : Int) != (q : Int)) = true := by rw [bne_iff_ne]; omega
  have hre : R = -1 := by rw [HR.out, if_pos h]
  subst hre
  clear h
  go_enter Tryz.func78, Tryz.ntmps78
  go_wp2
  go_ret
  exact ⟨rfl, 0, rfl⟩
 ·subst h
  have hre : Hid (R = cmpTo l m p) := by show _ = _; rw [HR.out, if_neg (by omega), if_neg (by omega)]
  have h2 : ((p : Int) != (p : Int)) = false := by simp
  go_enter Tryz.func78, Tryz.ntmps78
  go_wp2_with fail
  go_loopw [5] (fun iv wr => ∃ (k n : Nat), k ≤ p ∧ iv = .int .i64 ((k : Int) - 1) ∧ Hid (R = cmpTo l m k) ∧ wr = w.drewN n) (fun iv _ => (intOf iv + 1).toNat)
  case atStart => exact ⟨p, 0, Nat.le_refl _, rfl, hre.out, rfl⟩
  case round =>
   obtain ⟨k, n, hk, rfl, hT, hwr⟩ := hrel
   cases k with
   | zero =>
    have hre0 : R = 0 := hT.out
    subst hre0
    have h0 : ¬ (0 : Int) ≤ ((0 : Nat) : Int) - 1 := by omega
    go_wp2
    go_ret
    exact ⟨rfl, n, by first | exact hwr | rfl⟩
   | succ j =>
    rw [show ((j + 1 : Nat) : Int) - 1 = (j : Int) by omega]
    obtain ⟨x, hx⟩ : ∃ x, l[j]? = some x := ⟨l[j]'(by rw [← HP.out]; omega), List.getElem?_eq_getElem _⟩
    obtain ⟨y, hy⟩ : ∃ y, m[j]? = some y := ⟨m[j]'(by rw [← HQ.out]; omega), List.getElem?_eq_getElem _⟩
    obtain ⟨ba, oa, rfl, cx⟩ := HC.out j x hx
    obtain ⟨bb, ob, rfl, cy⟩ := HD.out j y hy
    have kx : wr.cell? ⟨ba, oa + j, none⟩ = some (.int .u32 (x : Int)) := by rw [hwr]; exact cx
    have ky : wr.cell? ⟨bb, ob + j, none⟩ = some (.int .u32 (y : Int)) := by rw [hwr]; exact cy
    have hst : Hid (R = if x < y then -1 else if y < x then 1 else cmpTo l m j) := by
     show _ = _
     rw [hT.out, cmpTo, List.getD_eq_getElem?_getD, List.getD_eq_getElem?_getD, hx, hy]; rfl
    have HW := Lib.hid hwr
    have hjp : j < p := by omega
    have hjp' : (j : Int) < (p : Int) := by omega
    clear hx hy cx cy hwr
    rcases Nat.lt_trichotomy x y with h | h | h
    ·have t1 : decide ((x : Int) < (y : Int)) = true := decide_eq_true (by omega)
     have hre1 : R = -1 := by rw [hst.out, if_pos h]
     subst hre1
     go_wp2_with fail
     refine wp_region_heldL (fun w' => w'.cell? ⟨ba, oa + j, none⟩ = some (.int .u32 (x : Int)) ∧ w'.cell? ⟨bb, ob + j, none⟩ = some (.int .u32 (y : Int))) (by kernel_rfl) ⟨kx, ky⟩ (fun hS => ?_)
     refine tkH 0 (v := ?_) rfl ?_ ?_
     rotate_left
     ·(intro wq hSq; (try dsimp only at hSq); go_simp; try with_reducible rfl)
     try simp only [Act.put, List.setIfInBounds_toArray, List.set_cons_zero, List.set_cons_succ]
     refine tkH 1 (v := ?_) rfl ?_ ?_
     rotate_left
     ·(intro wq hSq; (try dsimp only at hSq); go_simp; try with_reducible rfl)
     try simp only [Act.put, List.setIfInBounds_toArray, List.set_cons_zero, List.set_cons_succ]
     refine tkH 2 (v := ?_) rfl ?_ ?_
     rotate_left
     ·(intro wq hSq; (try dsimp only at hSq); go_simp; try with_reducible rfl)
     try simp only [Act.put, List.setIfInBounds_toArray, List.set_cons_zero, List.set_cons_succ]
     refine tkH 3 (v := ?_) rfl ?_ ?_
     rotate_left
     ·(intro wq hSq; (try dsimp only at hSq); go_simp; try with_reducible rfl)
     try simp only [Act.put, List.setIfInBounds_toArray, List.set_cons_zero, List.set_cons_succ]
     refine tkH 4 (v := ?_) rfl ?_ ?_
     rotate_left
     ·(intro wq hSq; (try dsimp only at hSq); go_simp; try with_reducible rfl)
     try simp only [Act.put, List.setIfInBounds_toArray, List.set_cons_zero, List.set_cons_succ]
     refine tkH 5 (v := ?_) rfl ?_ ?_
     rotate_left
     ·(intro wq hSq; (try dsimp only at hSq); go_simp; try with_reducible rfl)
     try simp only [Act.put, List.setIfInBounds_toArray, List.set_cons_zero, List.set_cons_succ]
     refine tkH 6 (v := ?_) rfl ?_ ?_
     rotate_left
     ·(intro wq hSq; (try dsimp only at hSq); go_simp; try with_reducible rfl)
     try simp only [Act.put, List.setIfInBounds_toArray, List.set_cons_zero, List.set_cons_succ]
     refine tkH 7 (v := ?_) rfl ?_ ?_
     rotate_left
     ·(intro wq hSq; (try dsimp only at hSq); go_simp; try with_reducible rfl)
     try simp only [Act.put, List.setIfInBounds_toArray, List.set_cons_zero, List.set_cons_succ]
     refine tkH 8 (v := ?_) rfl ?_ ?_
     rotate_left
     ·(intro wq hSq; (try dsimp only at hSq); go_simp; try with_reducible rfl)
     try simp only [Act.put, List.setIfInBounds_toArray, List.set_cons_zero, List.set_cons_succ]
     refine tkH 9 (v := ?_) rfl ?_ ?_
     rotate_left
     ·(intro wq hSq; (try dsimp only at hSq); go_simp; try with_reducible rfl)
     try simp only [Act.put, List.setIfInBounds_toArray, List.set_cons_zero, List.set_cons_succ]
     refine wpAnyH_end (by kernel_rfl) ?_
     go_wp2
     go_ret
     exact ⟨rfl, n + 1, by rw [HW.out]; rfl⟩
    ·subst h
     have t1 : decide ((x : Int) < (x : Int)) = false := decide_eq_false (by omega)
     have HREJ : Hid (R = cmpTo l m j) := by show _ = _; rw [hst.out, if_neg (by omega), if_neg (by omega)]
     go_wp2_with fail
     refine wp_region_heldL (fun w' => w'.cell? ⟨ba, oa + j, none⟩ = some (.int .u32 (x : Int)) ∧ w'.cell? ⟨bb, ob + j, none⟩ = some (.int .u32 (x : Int))) (by kernel_rfl) ⟨kx, ky⟩ (fun hS => ?_)
     refine tkH 0 (v := ?_) rfl ?_ ?_
     rotate_left
     ·(intro wq hSq; (try dsimp only at hSq); go_simp; try with_reducible rfl)
     try simp only [Act.put, List.setIfInBounds_toArray, List.set_cons_zero, List.set_cons_succ]
     refine tkH 1 (v := ?_) rfl ?_ ?_
     rotate_left
     ·(intro wq hSq; (try dsimp only at hSq); go_simp; try with_reducible rfl)
     try simp only [Act.put, List.setIfInBounds_toArray, List.set_cons_zero, List.set_cons_succ]
     refine tkH 2 (v := ?_) rfl ?_ ?_
     rotate_left
     ·(intro wq hSq; (try dsimp only at hSq); go_simp; try with_reducible rfl)
     try simp only [Act.put, List.setIfInBounds_toArray, List.set_cons_zero, List.set_cons_succ]
     refine tkH 3 (v := ?_) rfl ?_ ?_
     rotate_left
     ·(intro wq hSq; (try dsimp only at hSq); go_simp; try with_reducible rfl)
     try simp only [Act.put, List.setIfInBounds_toArray, List.set_cons_zero, List.set_cons_succ]
     refine tkH 4 (v := ?_) rfl ?_ ?_
     rotate_left
     ·(intro wq hSq; (try dsimp only at hSq); go_simp; try with_reducible rfl)
     try simp only [Act.put, List.setIfInBounds_toArray, List.set_cons_zero, List.set_cons_succ]
     refine tkH 5 (v := ?_) rfl ?_ ?_
     rotate_left
     ·(intro wq hSq; (try dsimp only at hSq); go_simp; try with_reducible rfl)
     try simp only [Act.put, List.setIfInBounds_toArray, List.set_cons_zero, List.set_cons_succ]
     refine tkH 6 (v := ?_) rfl ?_ ?_
     rotate_left
     ·(intro wq hSq; (try dsimp only at hSq); go_simp; try with_reducible rfl)
     try simp only [Act.put, List.setIfInBounds_toArray, List.set_cons_zero, List.set_cons_succ]
     refine tkH 7 (v := ?_) rfl ?_ ?_
     rotate_left
     ·(intro wq hSq; (try dsimp only at hSq); go_simp; try with_reducible rfl)
     try simp only [Act.put, List.setIfInBounds_toArray, List.set_cons_zero, List.set_cons_succ]
     refine tkH 8 (v := ?_) rfl ?_ ?_
     rotate_left
     ·(intro wq hSq; (try dsimp only at hSq); go_simp; try with_reducible rfl)
     try simp only [Act.put, List.setIfInBounds_toArray, List.set_cons_zero, List.set_cons_succ]
     refine tkH 9 (v := ?_) rfl ?_ ?_
     rotate_left
     ·(intro wq hSq; (try dsimp only at hSq); go_simp; try with_reducible rfl)
     try simp only [Act.put, List.setIfInBounds_toArray, List.set_cons_zero, List.set_cons_succ]
     refine wpAnyH_end (by kernel_rfl) ?_
     go_wp2_with fail
     refine wp_region_heldL (fun w' => w'.cell? ⟨ba, oa + j, none⟩ = some (.int .u32 (x : Int)) ∧ w'.cell? ⟨bb, ob + j, none⟩ = some (.int .u32 (x : Int))) (by kernel_rfl) ⟨kx, ky⟩ (fun hS => ?_)
     refine tkH 0 (v := ?_) rfl ?_ ?_
     rotate_left
     ·(intro wq hSq; (try dsimp only at hSq); go_simp; try with_reducible rfl)
     try simp only [Act.put, List.setIfInBounds_toArray, List.set_cons_zero, List.set_cons_succ]
     refine tkH 1 (v := ?_) rfl ?_ ?_
     rotate_left
     ·(intro wq hSq; (try dsimp only at hSq); go_simp; try with_reducible rfl)
     try simp only [Act.put, List.setIfInBounds_toArray, List.set_cons_zero, List.set_cons_succ]
     refine tkH 2 (v := ?_) rfl ?_ ?_
     rotate_left
     ·(intro wq hSq; (try dsimp only at hSq); go_simp; try with_reducible rfl)
     try simp only [Act.put, List.setIfInBounds_toArray, List.set_cons_zero, List.set_cons_succ]
     refine tkH 3 (v := ?_) rfl ?_ ?_
     rotate_left
     ·(intro wq hSq; (try dsimp only at hSq); go_simp; try with_reducible rfl)
     try simp only [Act.put, List.setIfInBounds_toArray, List.set_cons_zero, List.set_cons_succ]
     refine tkH 4 (v := ?_) rfl ?_ ?_
     rotate_left
     ·(intro wq hSq; (try dsimp only at hSq); go_simp; try with_reducible rfl)
     try simp only [Act.put, List.setIfInBounds_toArray, List.set_cons_zero, List.set_cons_succ]
     refine tkH 5 (v := ?_) rfl ?_ ?_
     rotate_left
     ·(intro wq hSq; (try dsimp only at hSq); go_simp; try with_reducible rfl)
     try simp only [Act.put, List.setIfInBounds_toArray, List.set_cons_zero, List.set_cons_succ]
     refine tkH 6 (v := ?_) rfl ?_ ?_
     rotate_left
     ·(intro wq hSq; (try dsimp only at hSq); go_simp; try with_reducible rfl)
     try simp only [Act.put, List.setIfInBounds_toArray, List.set_cons_zero, List.set_cons_succ]
     refine tkH 7 (v := ?_) rfl ?_ ?_
     rotate_left
     ·(intro wq hSq; (try dsimp only at hSq); go_simp; try with_reducible rfl)
     try simp only [Act.put, List.setIfInBounds_toArray, List.set_cons_zero, List.set_cons_succ]
     refine tkH 8 (v := ?_) rfl ?_ ?_
     rotate_left
     ·(intro wq hSq; (try dsimp only at hSq); go_simp; try with_reducible rfl)
     try simp only [Act.put, List.setIfInBounds_toArray, List.set_cons_zero, List.set_cons_succ]
     refine tkH 9 (v := ?_) rfl ?_ ?_
     rotate_left
     ·(intro wq hSq; (try dsimp only at hSq); go_simp; try with_reducible rfl)
     try simp only [Act.put, List.setIfInBounds_toArray, List.set_cons_zero, List.set_cons_succ]
     refine wpAnyH_end (by kernel_rfl) ?_
     go_wp2
     go_roundw
     case rel => exact ⟨j, n + 1 + 1, by omega, rfl, HREJ.out, by rw [HW.out]; rfl⟩
     case measure => first | (simp [intOf]; done) | (simp [intOf]; omega)
    ·have t1 : decide ((x : Int) < (y : Int)) = false := decide_eq_false (by omega)
     have t2 : decide ((y : Int) < (x : Int)) = true := decide_eq_true (by omega)
     have hre1 : R = 1 := by rw [hst.out, if_neg (by omega), if_pos h]
     subst hre1
     go_wp2_with fail
     refine wp_region_heldL (fun w' => w'.cell? ⟨ba, oa + j, none⟩ = some (.int .u32 (x : Int)) ∧ w'.cell? ⟨bb, ob + j, none⟩ = some (.int .u32 (y : Int))) (by kernel_rfl) ⟨kx, ky⟩ (fun hS => ?_)
     refine tkH 0 (v := ?_) rfl ?_ ?_
     rotate_left
     ·(intro wq hSq; (try dsimp only at hSq); go_simp; try with_reducible rfl)
     try simp only [Act.put, List.setIfInBounds_toArray, List.set_cons_zero, List.set_cons_succ]
     refine tkH 1 (v := ?_) rfl ?_ ?_
     rotate_left
     ·(intro wq hSq; (try dsimp only at hSq); go_simp; try with_reducible rfl)
     try simp only [Act.put, List.setIfInBounds_toArray, List.set_cons_zero, List.set_cons_succ]
     refine tkH 2 (v := ?_) rfl ?_ ?_
     rotate_left
     ·(intro wq hSq; (try dsimp only at hSq); go_simp; try with_reducible rfl)
     try simp only [Act.put, List.setIfInBounds_toArray, List.set_cons_zero, List.set_cons_succ]
     refine tkH 3 (v := ?_) rfl ?_ ?_
     rotate_left
     ·(intro wq hSq; (try dsimp only at hSq); go_simp; try with_reducible rfl)
     try simp only [Act.put, List.setIfInBounds_toArray, List.set_cons_zero, List.set_cons_succ]
     refine tkH 4 (v := ?_) rfl ?_ ?_
     rotate_left
     ·(intro wq hSq; (try dsimp only at hSq); go_simp; try with_reducible rfl)
     try simp only [Act.put, List.setIfInBounds_toArray, List.set_cons_zero, List.set_cons_succ]
     refine tkH 5 (v := ?_) rfl ?_ ?_
     rotate_left
     ·(intro wq hSq; (try dsimp only at hSq); go_simp; try with_reducible rfl)
     try simp only [Act.put, List.setIfInBounds_toArray, List.set_cons_zero, List.set_cons_succ]
     refine tkH 6 (v := ?_) rfl ?_ ?_
     rotate_left
     ·(intro wq hSq; (try dsimp only at hSq); go_simp; try with_reducible rfl)
     try simp only [Act.put, List.setIfInBounds_toArray, List.set_cons_zero, List.set_cons_succ]
     refine tkH 7 (v := ?_) rfl ?_ ?_
     rotate_left
     ·(intro wq hSq; (try dsimp only at hSq); go_simp; try with_reducible rfl)
     try simp only [Act.put, List.setIfInBounds_toArray, List.set_cons_zero, List.set_cons_succ]
     refine tkH 8 (v := ?_) rfl ?_ ?_
     rotate_left
     ·(intro wq hSq; (try dsimp only at hSq); go_simp; try with_reducible rfl)
     try simp only [Act.put, List.setIfInBounds_toArray, List.set_cons_zero, List.set_cons_succ]
     refine tkH 9 (v := ?_) rfl ?_ ?_
     rotate_left
     ·(intro wq hSq; (try dsimp only at hSq); go_simp; try with_reducible rfl)
     try simp only [Act.put, List.setIfInBounds_toArray, List.set_cons_zero, List.set_cons_succ]
     refine wpAnyH_end (by kernel_rfl) ?_
     go_wp2_with fail
     refine wp_region_heldL (fun w' => w'.cell? ⟨ba, oa + j, none⟩ = some (.int .u32 (x : Int)) ∧ w'.cell? ⟨bb, ob + j, none⟩ = some (.int .u32 (y : Int))) (by kernel_rfl) ⟨kx, ky⟩ (fun hS => ?_)
     refine tkH 0 (v := ?_) rfl ?_ ?_
     rotate_left
     ·(intro wq hSq; (try dsimp only at hSq); go_simp; try with_reducible rfl)
     try simp only [Act.put, List.setIfInBounds_toArray, List.set_cons_zero, List.set_cons_succ]
     refine tkH 1 (v := ?_) rfl ?_ ?_
     rotate_left
     ·(intro wq hSq; (try dsimp only at hSq); go_simp; try with_reducible rfl)
     try simp only [Act.put, List.setIfInBounds_toArray, List.set_cons_zero, List.set_cons_succ]
     refine tkH 2 (v := ?_) rfl ?_ ?_
     rotate_left
     ·(intro wq hSq; (try dsimp only at hSq); go_simp; try with_reducible rfl)
     try simp only [Act.put, List.setIfInBounds_toArray, List.set_cons_zero, List.set_cons_succ]
     refine tkH 3 (v := ?_) rfl ?_ ?_
     rotate_left
     ·(intro wq hSq; (try dsimp only at hSq); go_simp; try with_reducible rfl)
     try simp only [Act.put, List.setIfInBounds_toArray, List.set_cons_zero, List.set_cons_succ]
     refine tkH 4 (v := ?_) rfl ?_ ?_
     rotate_left
     ·(intro wq hSq; (try dsimp only at hSq); go_simp; try with_reducible rfl)
     try simp only [Act.put, List.setIfInBounds_toArray, List.set_cons_zero, List.set_cons_succ]
     refine tkH 5 (v := ?_) rfl ?_ ?_
     rotate_left
     ·(intro wq hSq; (try dsimp only at hSq); go_simp; try with_reducible rfl)
     try simp only [Act.put, List.setIfInBounds_toArray, List.set_cons_zero, List.set_cons_succ]
     refine tkH 6 (v := ?_) rfl ?_ ?_
     rotate_left
     ·(intro wq hSq; (try dsimp only at hSq); go_simp; try with_reducible rfl)
     try simp only [Act.put, List.setIfInBounds_toArray, List.set_cons_zero, List.set_cons_succ]
     refine tkH 7 (v := ?_) rfl ?_ ?_
     rotate_left
     ·(intro wq hSq; (try dsimp only at hSq); go_simp; try with_reducible rfl)
     try simp only [Act.put, List.setIfInBounds_toArray, List.set_cons_zero, List.set_cons_succ]
     refine tkH 8 (v := ?_) rfl ?_ ?_
     rotate_left
     ·(intro wq hSq; (try dsimp only at hSq); go_simp; try with_reducible rfl)
     try simp only [Act.put, List.setIfInBounds_toArray, List.set_cons_zero, List.set_cons_succ]
     refine tkH 9 (v := ?_) rfl ?_ ?_
     rotate_left
     ·(intro wq hSq; (try dsimp only at hSq); go_simp; try with_reducible rfl)
     try simp only [Act.put, List.setIfInBounds_toArray, List.set_cons_zero, List.set_cons_succ]
     refine wpAnyH_end (by kernel_rfl) ?_
     go_wp2
     go_ret
     exact ⟨rfl, n + 1 + 1, by rw [HW.out]; rfl⟩
 ·have h1 : ¬ (p : Int) < (q : Int) := by omega
  have h2 : ((p : Int) != (q : Int)) = true := by rw [bne_iff_ne]; omega
  have hre : R = 1 := by rw [HR.out, if_neg (by omega), if_pos h]
  subst hre
  clear h
  go_enter Tryz.func78, Tryz.ntmps78
  go_wp2
  go_ret
  exact ⟨rfl, 0, rfl⟩
end
/- Plain: numbers in words: what is compared from the top; what has no zeros at the end. -/
section
open Go.WideNum
theorem valW_take (B : Nat) (l : List Nat) (k : Nat) (hk : k < l.length) : valW B (l.take (k + 1)) = valW B (l.take k) + B ^ k * l.getD k 0 := by
 have h : l.take (k + 1) = l.take k ++ [l.getD k 0] := by
  rw [List.take_add_one, List.getD_eq_getElem?_getD, List.getElem?_eq_getElem hk]; rfl
 rw [h, valW_append, List.length_take, Nat.min_eq_left (by omega)]
 simp [valW]
theorem cmpTo_val (B : Nat) (hB : 1 < B) (l m : List Nat) (hl : ∀ x ∈ l, x < B) (hm : ∀ x ∈ m, x < B) : ∀ k, k ≤ l.length → k ≤ m.length →
  cmpTo l m k = if valW B (l.take k) < valW B (m.take k) then -1 else if valW B (m.take k) < valW B (l.take k) then 1 else 0 := by
 intro k
 induction k with
 | zero => intro _ _; simp [cmpTo, valW]
 | succ k ih =>
  intro h1 h2
  have e1 := valW_take B l k (by omega)
  have e2 := valW_take B m k (by omega)
  have b1 := valW_lt (B := B) (by omega) (l.take k) (fun x hx => hl x (List.mem_of_mem_take hx))
  have b2 := valW_lt (B := B) (by omega) (m.take k) (fun x hx => hm x (List.mem_of_mem_take hx))
  rw [List.length_take, Nat.min_eq_left (by omega)] at b1 b2
  rw [cmpTo, ih (by omega) (by omega), e1, e2]
  generalize valW B (l.take k) = a at *
  generalize valW B (m.take k) = b at *
  clear e1 e2 ih
  obtain ⟨x, hx⟩ : ∃ x, x = l.getD k 0 := ⟨_, rfl⟩
  obtain ⟨y, hy⟩ : ∃ y, y = m.getD k 0 := ⟨_, rfl⟩
  rw [← hx, ← hy]
  clear hx hy hl hm
  generalize B ^ k = P at *
  rcases Nat.lt_trichotomy x y with h | h | h
  ·have h3 : P * (x + 1) ≤ P * y := Nat.mul_le_mul_left _ h
   rw [Nat.mul_add, Nat.mul_one] at h3
   generalize P * x = U at *
   generalize P * y = V at *
   rw [if_pos h, if_pos (by omega)]
  ·subst h
   rw [if_neg (by omega), if_neg (by omega)]
   by_cases h1 : a < b
   ·rw [if_pos h1, if_pos (Nat.add_lt_add_right h1 _)]
   ·rw [if_neg h1, if_neg (fun h => h1 (Nat.lt_of_add_lt_add_right h))]
    by_cases h2 : b < a
    ·rw [if_pos h2, if_pos (Nat.add_lt_add_right h2 _)]
    ·rw [if_neg h2, if_neg (fun h => h2 (Nat.lt_of_add_lt_add_right h))]
  ·have h3 : P * (y + 1) ≤ P * x := Nat.mul_le_mul_left _ h
   rw [Nat.mul_add, Nat.mul_one] at h3
   generalize P * x = U at *
   generalize P * y = V at *
   rw [if_neg (by omega), if_pos h, if_neg (by omega), if_pos (by omega)]
theorem trimL_val (B : Nat) (l : List Nat) : valW B (trimL l) = valW B l := by
 have : ∀ r : List Nat, valW B (trimL r.reverse) = valW B r.reverse := by
  intro r
  induction r with
  | nil => rfl
  | cons x r ih =>
   rw [List.reverse_cons]
   by_cases hx : x = 0
   ·subst hx
    rw [trimL_zero, ih, valW_append]
    simp [valW]
   ·rw [trimL_snoc _ _ hx]
 have := this l.reverse
 rwa [List.reverse_reverse] at this
end
/- Plain: numbers in words: a number without zeros at its end is that of its value. -/
section
open Go.WideNum
theorem trimL_trimmed (l : List Nat) : Go.WideNum.trimmed (trimL l) := by
 have : ∀ r : List Nat, Go.WideNum.trimmed (trimL r.reverse) := by
  intro r
  induction r with
  | nil => intro x hx; simp [trimL] at hx
  | cons x r ih =>
   rw [List.reverse_cons]
   by_cases hx : x = 0
   ·subst hx
    rw [trimL_zero]; exact ih
   ·rw [trimL_snoc _ _ hx]
    intro y hy
    rw [List.getLast?_append] at hy
    simp at hy
    rw [← hy]; exact hx
 have := this l.reverse
 rwa [List.reverse_reverse] at this
theorem trimL_sub (l : List Nat) : ∀ x ∈ trimL l, x ∈ l := by
 intro x hx
 unfold trimL at hx
 have h1 := List.mem_reverse.1 hx
 have h2 := (List.dropWhile_sublist (fun x => decide (x = 0))).subset h1
 exact List.mem_reverse.1 h2
theorem trimL_words (B : Nat) (hB : 1 < B) (l : List Nat) (hl : ∀ x ∈ l, x < B) : trimL l = words B (valW B l) := by
 have h := words_val hB (trimL l) (fun x hx => hl x (trimL_sub l x hx)) (trimL_trimmed l) (valW B (trimL l)) (Nat.le_refl _)
 unfold words
 rw [trimL_val] at h
 exact h.symm
end
/- Plain: digits of a number to a base; carries of sums and of multiples; quotients from the top. -/
section
open Go.WideNum
def dig (B n i : Nat) : Nat := n / B ^ i % B
theorem dig_lt {B : Nat} (hB : 0 < B) (n i : Nat) : dig B n i < B := Nat.mod_lt _ hB
theorem dig_succ (B n i : Nat) : dig B n (i + 1) = dig B (n / B) i := by unfold dig; rw [Nat.pow_succ, Nat.mul_comm, Nat.div_div_eq_div_mul]
theorem dig_zero (B n : Nat) : dig B n 0 = n % B := by unfold dig; simp
theorem dig_high {B : Nat} (hB : 1 < B) (n i : Nat) (h : n < B ^ i) : dig B n i = 0 := by unfold dig; rw [Nat.div_eq_of_lt h, Nat.zero_mod]
theorem wordsOf_get {B : Nat} (hB : 1 < B) : ∀ (f n i : Nat), n ≤ f → (wordsOf B f n).getD i 0 = dig B n i := by
  intro f
  induction f with
  | zero => intro n i h; have : n = 0 := by omega
            subst this; simp [wordsOf, dig]
  | succ f ih =>
    intro n i h
    rw [wordsOf]
    split
    · rename_i h0; subst h0; simp [dig]
    · have hd : n / B < n := Nat.div_lt_self (by omega) hB
      cases i with
      | zero => simp [dig_zero]
      | succ i => rw [dig_succ, ← ih (n / B) i (by omega)]; simp
theorem words_get {B : Nat} (hB : 1 < B) (n i : Nat) : (words B n).getD i 0 = dig B n i := wordsOf_get hB n n i (Nat.le_refl _)
theorem words_getE {B : Nat} (hB : 1 < B) (n i : Nat) (h : i < (words B n).length) : (words B n)[i]? = some (dig B n i) := by
 rw [← words_get hB, List.getD_eq_getElem?_getD, List.getElem?_eq_getElem h]; rfl
theorem words_vlt {B : Nat} (hB : 1 < B) (n : Nat) : n < B ^ (words B n).length := by
 have h := valW_lt (B := B) (by omega) (words B n) (words_lt (by omega) n n)
 rwa [show valW B (words B n) = n from val_words hB n n (Nat.le_refl _)] at h
theorem words_length {B : Nat} (hB : 1 < B) (n k : Nat) (h : n < B ^ k) : (words B n).length ≤ k := wordsOf_length hB n n k h
theorem words_lenlt {B : Nat} (hB : 1 < B) (n k : Nat) (h : B ^ k ≤ n) : k < (words B n).length := by
 rcases Nat.lt_or_ge k (words B n).length with h1 | h1
 ·exact h1
 ·have h2 := words_vlt hB n
  have h3 := Nat.pow_le_pow_right (show 0 < B by omega) h1
  omega
theorem words_len0 {B : Nat} (hB : 1 < B) (n : Nat) : (words B n).length = 0 ↔ n = 0 := by
 constructor
 ·intro h
  have := words_vlt hB n
  rw [h] at this; simpa using this
 ·rintro rfl; rfl
theorem mod_pow_succ (B n k : Nat) : n % B ^ (k + 1) = n % B ^ k + B ^ k * dig B n k := by unfold dig; rw [Nat.mod_pow_succ]
theorem valW_range (B n : Nat) : ∀ m, valW B ((List.range m).map (dig B n)) = n % B ^ m := by
 intro m
 induction m with
 | zero => simp [valW, Nat.mod_one]
 | succ m ih => rw [List.range_succ, List.map_append, valW_append, ih, mod_pow_succ]; simp [valW]
theorem trim_range {B : Nat} (hB : 1 < B) (n m : Nat) (h : n < B ^ m) : trimL ((List.range m).map (dig B n)) = words B n := by
 rw [trimL_words B hB _ (fun x hx => by obtain ⟨i, _, rfl⟩ := List.mem_map.1 hx; exact dig_lt (by omega) _ _), valW_range, Nat.mod_eq_of_lt h]
def carry (B A C k : Nat) : Nat := (A % B ^ k + C % B ^ k) / B ^ k
theorem carry_zero (B A C : Nat) : carry B A C 0 = 0 := by simp [carry, Nat.mod_one]
theorem carry_le {B : Nat} (hB : 0 < B) (A C k : Nat) : carry B A C k ≤ 1 := by
 unfold carry
 have hp : 0 < B ^ k := Nat.pow_pos hB
 have h1 := Nat.mod_lt A hp
 have h2 := Nat.mod_lt C hp
 have : (A % B ^ k + C % B ^ k) / B ^ k < 2 := Nat.div_lt_of_lt_mul (by omega)
 omega
theorem add_step {B : Nat} (hB : 0 < B) (A C k : Nat) : dig B A k + dig B C k + carry B A C k = dig B (A + C) k + B * carry B A C (k + 1) := by
 have hp : 0 < B ^ k := Nat.pow_pos hB
 have e1 : carry B A C (k + 1) = (dig B A k + dig B C k + carry B A C k) / B := by
  unfold carry
  rw [mod_pow_succ, mod_pow_succ, Nat.pow_succ, ← Nat.div_div_eq_div_mul]
  congr 1
  rw [show A % B ^ k + B ^ k * dig B A k + (C % B ^ k + B ^ k * dig B C k) = (A % B ^ k + C % B ^ k) + B ^ k * (dig B A k + dig B C k) by rw [Nat.mul_add]; omega, Nat.add_mul_div_left _ _ hp]
  omega
 have e2 : dig B (A + C) k = (dig B A k + dig B C k + carry B A C k) % B := by
  have h : (A + C) / B ^ k = A / B ^ k + C / B ^ k + carry B A C k := by
   unfold carry
   have hA := Nat.mod_add_div A (B ^ k)
   have hC := Nat.mod_add_div C (B ^ k)
   have : A + C = (A % B ^ k + C % B ^ k) + B ^ k * (A / B ^ k + C / B ^ k) := by rw [Nat.mul_add]; omega
   conv => lhs; rw [this, Nat.add_mul_div_left _ _ hp]
   omega
  show (A + C) / B ^ k % B = _
  rw [h]
  unfold dig
  rw [Nat.add_mod (A / B ^ k % B + C / B ^ k % B), Nat.add_mod (A / B ^ k % B), Nat.mod_mod, Nat.mod_mod, ← Nat.add_mod (A / B ^ k), ← Nat.add_mod]
 rw [e1, e2]
 exact (Nat.mod_add_div _ _).symm
theorem carry_last {B : Nat} (hB : 1 < B) (A C k : Nat) (hA : A < B ^ k) (hC : C < B ^ k) : carry B A C k = dig B (A + C) k := by
 have h := carry_le (B := B) (by omega) A C k
 unfold dig
 unfold carry at h ⊢
 rw [Nat.mod_eq_of_lt hA, Nat.mod_eq_of_lt hC] at *
 rw [Nat.mod_eq_of_lt]; omega
def carryM (B A M k : Nat) : Nat := A % B ^ k * M / B ^ k
theorem carryM_zero (B A M : Nat) : carryM B A M 0 = 0 := by simp [carryM, Nat.mod_one]
theorem carryM_lt {B : Nat} (hB : 0 < B) (A M k : Nat) (hM : 0 < M) : carryM B A M k < M := by
 unfold carryM
 have hp : 0 < B ^ k := Nat.pow_pos hB
 refine Nat.div_lt_of_lt_mul ?_
 exact (Nat.mul_lt_mul_right hM).2 (Nat.mod_lt A hp)
theorem mul_step {B : Nat} (hB : 0 < B) (A M k : Nat) : dig B A k * M + carryM B A M k = dig B (A * M) k + B * carryM B A M (k + 1) := by
 have hp : 0 < B ^ k := Nat.pow_pos hB
 have e1 : carryM B A M (k + 1) = (dig B A k * M + carryM B A M k) / B := by
  unfold carryM
  rw [mod_pow_succ, Nat.pow_succ, ← Nat.div_div_eq_div_mul]
  congr 1
  rw [Nat.add_mul, Nat.mul_assoc, Nat.add_mul_div_left _ _ hp]
  omega
 have e2 : dig B (A * M) k = (dig B A k * M + carryM B A M k) % B := by
  have h : A * M / B ^ k = A / B ^ k * M + carryM B A M k := by
   unfold carryM
   have hA := Nat.mod_add_div A (B ^ k)
   have : A * M = A % B ^ k * M + B ^ k * (A / B ^ k * M) := by rw [← Nat.mul_assoc, ← Nat.add_mul, hA]
   conv => lhs; rw [this, Nat.add_mul_div_left _ _ hp]
   omega
  show A * M / B ^ k % B = _
  rw [h]
  unfold dig
  rw [Nat.add_mod, Nat.add_mod (A / B ^ k % B * M), Nat.mul_mod (A / B ^ k % B), Nat.mod_mod, ← Nat.mul_mod]
 rw [e1, e2]
 exact (Nat.mod_add_div _ _).symm
theorem div_pow_succ (B A i : Nat) : A / B ^ i = dig B A i + B * (A / B ^ (i + 1)) := by
 unfold dig; rw [Nat.pow_succ, ← Nat.div_div_eq_div_mul]; exact (Nat.mod_add_div _ _).symm
theorem short_step {B n : Nat} (hB : 0 < B) (hn : 0 < n) (A i : Nat) :
  (A / B ^ (i + 1) % n * B + dig B A i) / n = dig B (A / n) i ∧ (A / B ^ (i + 1) % n * B + dig B A i) % n = A / B ^ i % n := by
 have h := div_pow_succ B A i
 obtain ⟨P, hP⟩ : ∃ P, P = A / B ^ (i + 1) := ⟨_, rfl⟩
 have hd := dig_lt hB A i
 have hdd : dig B (A / n) i = A / B ^ i / n % B := by
  unfold dig; rw [Nat.div_div_eq_div_mul, Nat.mul_comm, ← Nat.div_div_eq_div_mul]
 rw [hdd]
 rw [← hP] at h ⊢
 obtain ⟨x, hx⟩ : ∃ x, x = dig B A i := ⟨_, rfl⟩
 rw [← hx] at h hd ⊢
 have hPm := Nat.mod_add_div P n
 have hr := Nat.mod_lt P hn
 have e : A / B ^ i = (P % n * B + x) + n * (P / n * B) := by
  rw [h, ← Nat.mul_assoc]
  conv => lhs; rw [← hPm]
  rw [Nat.mul_add, Nat.mul_comm B (P % n), Nat.mul_comm B (n * _)]; omega
 rw [e]
 constructor
 ·rw [Nat.add_mul_div_left _ _ hn, Nat.add_mul_mod_self_right]
  have : (P % n * B + x) / n < B := by
   refine Nat.div_lt_of_lt_mul ?_
   have : (P % n + 1) * B ≤ n * B := Nat.mul_le_mul_right B hr
   rw [Nat.add_mul] at this
   omega
  rw [Nat.mod_eq_of_lt this]
 ·rw [Nat.add_mul_mod_self_left]
end
/- Walks: rows of words that are laid one by one; numbers in memory. -/
section
open Go.RowKit Go.Shelf Go.WideNum
def wd (n : Nat) : List Nat := words 4294967296 n
def hw (n : Nat) : List Nat := words 65536 n
def zrow (n : Nat) : Array Value := (List.replicate n (Value.int .u32 0)).toArray
theorem infoU32 : (Tryz.prog.info? 22).map (fun i => (i.zero, i.size, i.bytes)) = some (some (.int .u32 0), 1, 4) := by kernel_rfl
theorem infoByte : (Tryz.prog.info? 5).map (fun i => (i.zero, i.size, i.bytes)) = some (some (.int .u8 0), 1, 1) := by kernel_rfl
theorem made_zrow (n : Nat) : madeCells (Value.int IntKind.u32 0).cells (n * 1) = zrow n := by
 unfold madeCells zrow
 apply Array.ext
 ·simp
 ·intro i h1 h2
  have : (Value.int IntKind.u32 0).cells = #[.int .u32 0] := rfl
  simp [this, Nat.mod_one]
theorem make_nat (n : Nat) (hn : n ≤ 100000) (W : World) : (Instr.makeSlice 103 (.int .i64 (n : Int)) (.int .i64 (n : Int))).run Tryz.prog W = .ok (.slice (some ⟨W.heap.size, 0, none⟩) n n) (W.alloc (.cells (zrow n) 22)) := by
 obtain ⟨i0, hi, hz, h1, h2⟩ := info_parts infoU32
 have := run_make (P := Tryz.prog) W 103 22 i0 (.int .u32 0) Tryz.underlying103 hi hz .i64 .i64 (n : Int) (n : Int) (by omega) (by omega) (by rw [h2]; omega) (by omega)
 simp only [Int.toNat_natCast, h1] at this
 rw [this, made_zrow]
theorem make_u32 (n : Nat) (hn : n ≤ 100000) (W : World) : (Instr.makeSlice 23 (.int .i64 (n : Int)) (.int .i64 (n : Int))).run Tryz.prog W = .ok (.slice (some ⟨W.heap.size, 0, none⟩) n n) (W.alloc (.cells (zrow n) 22)) := by
 obtain ⟨i0, hi, hz, h1, h2⟩ := info_parts infoU32
 have := run_make (P := Tryz.prog) W 23 22 i0 (.int .u32 0) Tryz.underlying23 hi hz .i64 .i64 (n : Int) (n : Int) (by omega) (by omega) (by rw [h2]; omega) (by omega)
 simp only [Int.toNat_natCast, h1] at this
 rw [this, made_zrow]
def fillTo (f : Nat → Nat) (n k : Nat) : Array Value := ((List.range n).map fun j => Value.int .u32 ((if j < k then f j else 0 : Nat) : Int)).toArray
theorem fillTo_zero (f : Nat → Nat) (n : Nat) : fillTo f n 0 = zrow n := by
 unfold fillTo zrow
 congr 1
 apply List.ext_getElem
 ·simp
 ·intro i h1 h2; simp
theorem fillTo_succ (f : Nat → Nat) (n k : Nat) : (fillTo f n k).setIfInBounds k (.int .u32 (f k : Int)) = fillTo f n (k + 1) := by
 unfold fillTo
 apply Array.ext
 ·simp
 ·intro i h1 h2
  simp only [List.setIfInBounds_toArray, List.getElem_toArray, List.getElem_set, List.getElem_map, List.getElem_range]
  by_cases h : k = i
  ·subst h; simp
  ·simp only [h, if_false]
   by_cases hik : i < k
   ·rw [if_pos hik, if_pos (by omega)]
   ·rw [if_neg hik, if_neg (by omega)]
theorem fillTo_all (f : Nat → Nat) (n : Nat) : fillTo f n n = (((List.range n).map f).map u32V).toArray := by
 unfold fillTo u32V
 rw [List.map_map]
 congr 1
 apply List.map_congr_left
 intro j hj
 show Value.int .u32 ((if j < n then f j else 0 : Nat) : Int) = _
 rw [if_pos (by simpa using hj)]
 rfl
theorem fill_cell {W : World} {g n k : Nat} {f : Nat → Nat} {T : TypeId} (h : W.heap[g]? = some (.cells (fillTo f n k) T)) (hk : k < n) : ∃ u, W.cell? ⟨g, k, none⟩ = some (.int .u32 u) ∧ W.frozen? ⟨g, k, none⟩ = false := by
 refine ⟨0, ?_, by simp [World.frozen?, h]⟩
 simp only [World.cell?, h]
 unfold fillTo
 simp [hk]
theorem fill_set {W : World} {g n k : Nat} {f : Nat → Nat} {T : TypeId} (h : W.heap[g]? = some (.cells (fillTo f n k) T)) : (W.setCell ⟨g, k, none⟩ (.int .u32 (f k : Int))).heap[g]? = some (.cells (fillTo f n (k + 1)) T) := by
 rw [← fillTo_succ]; simp [World.setCell, Array.getElem?_modify, h]
theorem trimL_take (l : List Nat) : l.take (trimL l).length = trimL l := by
 unfold trimL
 have h : (l.reverse.dropWhile fun x => decide (x = 0)) <:+ l.reverse := List.dropWhile_suffix _
 have h2 : (l.reverse.dropWhile fun x => decide (x = 0)).reverse <+: l := by
  have := List.reverse_prefix.2 h
  rwa [List.reverse_reverse] at this
 exact (List.prefix_iff_eq_take.1 h2).symm
theorem trimL_len (l : List Nat) : (trimL l).length ≤ l.length := by
 rw [← trimL_take l, List.length_take]; omega
theorem owns_trim {W : World} {g base : Nat} {T : TypeId} {l : List Nat} (h : W.heap[g]? = some (.cells (l.map u32V).toArray T)) (hb : base ≤ g) (hm : l.length ≤ 100000) :
  W.owns base T 1 (.slice (some ⟨g, 0, none⟩) (trimL l).length l.length) (trimL l).length ((trimL l).map u32V) := by
 refine ⟨by simp, .inr ⟨g, l.length, _, (0, 0), rfl, hb, h, okFz_zero _, trimL_len l, by unfold maxLen; omega, by simp, ?_⟩⟩
 rw [Nat.mul_one]
 show (l.map u32V).take _ = _
 rw [← List.map_take, trimL_take]
theorem trim_cells {W : World} {g : Nat} {T : TypeId} {l : List Nat} (h : W.heap[g]? = some (.cells (l.map u32V).toArray T)) :
  ∀ (j : Nat) (x : Nat), l[j]? = some x → ∃ b off, some (⟨g, 0, none⟩ : Addr) = some ⟨b, off, none⟩ ∧ W.cell? ⟨b, off + j, none⟩ = some (.int .u32 (x : Int)) := by
 intro j x hj
 refine ⟨g, 0, rfl, ?_⟩
 rw [Nat.zero_add, cell_of_row W g j _ T (0, 0) h]
 simp [hj, u32V]
def NumRet (w : World) (n : Nat) (e : Ending) (w' : World) : Prop := ∃ v, e = .returned v ∧ w'.owns w.heap.size 22 1 v (wd n).length ((wd n).map u32V) ∧ Below w.heap.size w w'
theorem range_wd (n m : Nat) (h : n < 4294967296 ^ m) : trimL ((List.range m).map (dig 4294967296 n)) = wd n := trim_range (by omega) n m h
theorem wd_vlt (n : Nat) : n < 4294967296 ^ (wd n).length := words_vlt (by omega) n
theorem hw_vlt (n : Nat) : n < 65536 ^ (hw n).length := words_vlt (by omega) n
theorem wd_get (n i : Nat) (h : i < (wd n).length) : (wd n)[i]? = some (dig 4294967296 n i) := words_getE (by omega) n i h
theorem hw_get (n i : Nat) (h : i < (hw n).length) : (hw n)[i]? = some (dig 65536 n i) := words_getE (by omega) n i h
theorem wd_dig (n i : Nat) : dig 4294967296 n i < 4294967296 := dig_lt (by omega) n i
theorem hw_dig (n i : Nat) : dig 65536 n i < 65536 := dig_lt (by omega) n i
theorem wd_high (n i : Nat) (h : (wd n).length ≤ i) : dig 4294967296 n i = 0 :=
 dig_high (by omega) n i (Nat.lt_of_lt_of_le (wd_vlt n) (Nat.pow_le_pow_right (by omega) h))
theorem hw_high (n i : Nat) (h : (hw n).length ≤ i) : dig 65536 n i = 0 :=
 dig_high (by omega) n i (Nat.lt_of_lt_of_le (hw_vlt n) (Nat.pow_le_pow_right (by omega) h))
theorem num_ret {w W : World} {g m n R : Nat} (hR : Hid (R = (trimL ((List.range m).map (dig 4294967296 n))).length)) (hg : W.heap[g]? = some (.cells (fillTo (dig 4294967296 n) m m) 22)) (hb : Below w.heap.size w W) (hwg : w.heap.size ≤ g) (hm : m ≤ 100000) (hn : n < 4294967296 ^ m) :
  NumRet w n (.returned (.slice (some ⟨g, 0, none⟩) R m)) W := by
 rw [hR.out]
 clear hR
 rw [fillTo_all] at hg
 have h := owns_trim (base := w.heap.size) hg hwg (by simpa using hm)
 rw [range_wd n m hn] at h ⊢
 simp only [List.length_map, List.length_range] at h
 exact ⟨_, rfl, h, hb⟩
theorem norm_row (f : Nat → Nat) (m g R : Nat) (hR : Hid (R = (trimL ((List.range m).map f)).length)) (W : World) (T : TypeId) (hg : W.heap[g]? = some (.cells (fillTo f m m) T)) (hm : m ≤ 100000) :
  Calls Tryz.prog 91 #[.slice (some ⟨g, 0, none⟩) m m] W fun e w' => e = .returned (.slice (some ⟨g, 0, none⟩) R m) ∧ W = w' := by
 rw [hR.out]
 clear hR
 rw [fillTo_all] at hg
 have h := norm_any ((List.range m).map f) (some ⟨g, 0, none⟩) m (by simpa using hm) (by simp) W (trim_cells hg)
 simpa only [List.length_map, List.length_range] using h
end
/- Walks: rows of words by position. -/
section
open Go.RowKit Go.Shelf Go.WideNum
def rowF (f : Nat → Nat) (n : Nat) : Array Value := (((List.range n).map f).map u32V).toArray
theorem rowF_zero (n : Nat) : rowF (fun _ => 0) n = zrow n := by
 unfold rowF zrow
 congr 1
 apply List.ext_getElem
 ·simp
 ·intro i h1 h2; simp [u32V]
theorem rowF_congr {f f' : Nat → Nat} {n : Nat} (h : ∀ j, j < n → f j = f' j) : rowF f n = rowF f' n := by
 unfold rowF
 congr 2
 exact List.map_congr_left (fun j hj => h j (by simpa using hj))
theorem rowF_cell {W : World} {g n : Nat} {f : Nat → Nat} {T : TypeId} (h : W.heap[g]? = some (.cells (rowF f n) T)) (k : Nat) (hk : k < n) : W.cell? ⟨g, k, none⟩ = some (.int .u32 (f k : Int)) ∧ W.frozen? ⟨g, k, none⟩ = false := by
 refine ⟨?_, by simp [World.frozen?, h]⟩
 rw [cell_of_row W g k _ T (0, 0) h]
 simp [rowF, hk, u32V]
theorem rowF_set {W : World} {g n k : Nat} {f f' : Nat → Nat} {T : TypeId} (h : W.heap[g]? = some (.cells (rowF f n) T)) (hf : ∀ j, j < n → j ≠ k → f j = f' j) :
  (W.setCell ⟨g, k, none⟩ (.int .u32 (f' k : Int))).heap[g]? = some (.cells (rowF f' n) T) := by
 have e : (rowF f n).setIfInBounds k (.int .u32 (f' k : Int)) = rowF f' n := by
  unfold rowF
  apply Array.ext
  ·simp
  ·intro i h1 h2
   simp only [List.setIfInBounds_toArray, List.getElem_toArray, List.getElem_set, List.getElem_map, List.getElem_range]
   by_cases h : k = i
   ·subst h; simp [u32V]
   ·simp only [h, if_false]
    rw [hf i (by simpa using h2) (by omega)]
 rw [← e]; simp [World.setCell, Array.getElem?_modify, h]
theorem norm_rowF (f : Nat → Nat) (m g R : Nat) (hR : Hid (R = (trimL ((List.range m).map f)).length)) (W : World) (T : TypeId) (hg : W.heap[g]? = some (.cells (rowF f m) T)) (hm : m ≤ 100000) :
  Calls Tryz.prog 91 #[.slice (some ⟨g, 0, none⟩) m m] W fun e w' => e = .returned (.slice (some ⟨g, 0, none⟩) R m) ∧ W = w' := by
 rw [hR.out]
 clear hR
 have h := norm_any ((List.range m).map f) (some ⟨g, 0, none⟩) m (by simpa using hm) (by simp) W (trim_cells hg)
 simpa only [List.length_map, List.length_range] using h
theorem num_retF {w W : World} {g m n R : Nat} (hR : Hid (R = (trimL ((List.range m).map (dig 4294967296 n))).length)) (hg : W.heap[g]? = some (.cells (rowF (dig 4294967296 n) m) 22)) (hb : Below w.heap.size w W) (hwg : w.heap.size ≤ g) (hm : m ≤ 100000) (hn : n < 4294967296 ^ m) :
  NumRet w n (.returned (.slice (some ⟨g, 0, none⟩) R m)) W := by
 rw [rowF, ← fillTo_all] at hg
 exact num_ret hR hg hb hwg hm hn
theorem or_lo (k : IntKind) (hk : k = .u64 ∨ k = .u32) (s a b : Nat) (hb : b < 2 ^ s) (h : a * 2 ^ s + b < 2 ^ (if k = .u64 then 64 else 32)) : bits .or k (((a * 2 ^ s : Nat)) : Int) (b : Int) = ((a * 2 ^ s + b : Nat) : Int) := by
 have e : (a * 2 ^ s) ||| b = a * 2 ^ s + b := by
  rw [← Nat.shiftLeft_eq, Nat.shiftLeft_add_eq_or_of_lt hb]
 rcases hk with rfl | rfl
 ·simp only [if_true] at h
  show IntKind.u64.wrap ((BitVec.ofInt 64 _ ||| BitVec.ofInt 64 _).toNat : Int) = _
  rw [BitVec.ofInt_natCast, BitVec.ofInt_natCast, BitVec.toNat_or, BitVec.toNat_ofNat, BitVec.toNat_ofNat, Nat.mod_eq_of_lt (by omega), Nat.mod_eq_of_lt (by omega), e, IntKind.wrap_u64]
  omega
 ·simp only [reduceCtorEq, if_false] at h
  show IntKind.u32.wrap ((BitVec.ofInt 32 _ ||| BitVec.ofInt 32 _).toNat : Int) = _
  rw [BitVec.ofInt_natCast, BitVec.ofInt_natCast, BitVec.toNat_or, BitVec.toNat_ofNat, BitVec.toNat_ofNat, Nat.mod_eq_of_lt (by omega), Nat.mod_eq_of_lt (by omega), e, IntKind.wrap_u32]
  omega
end
/- Walks: words that are appended; what norm leaves of a slice that is owned. -/
section
open Go.RowKit Go.Shelf Go.WideNum
theorem app_u32 {ops : Array Oper} {rest : List Oper} {o : Oper} {a : Act} {Q : Exit → Act → World → Prop} (W : World) (T : TypeId) (hT : Tryz.prog.underlying T = some (.slice 22)) (hg : o.guard = none) (s x : Operand)
  (hop : o.op = .call { callee := .builtin .append, args := #[s, x], argTypes := #[T, T] })
  (base : Nat) (v : Value) (n : Nat) (xs : List Value) (hs : a.eval s = v) (hown : W.owns base 22 1 v n xs) (u : Int) (H : Nat) (hH : W.heap.size = H) (hx : a.eval x = .slice (some ⟨H, 0, none⟩) 1 1)
  (hn : n ≤ 1000000) (hbase : base ≤ W.heap.size)
  (h : ∀ v' w', w'.owns base 22 1 v' (n + 1) (xs ++ [.int .u32 u]) → W.grownBy w' v.ownBlock → W.heap.size < w'.heap.size → wpList Tryz.prog ops Q rest (a.put o.dst v') w') : wpList Tryz.prog ops Q (o :: rest) a (W.alloc (.cells #[.int .u32 u] 22)) := by
 obtain ⟨i0, hi, hz, h1, h2⟩ := info_parts infoU32
 exact wpList_append1 W hg s x T hop base 22 i0 (.int .u32 0) 4 hT hi hz h1 h2 rfl v n xs hs hown (.int .u32 u) H hH hx rfl (by unfold maxLen; omega) (by omega) hbase (fun v' w' h1 _ h3 h4 => h v' w' h1 h3 h4)
theorem World.owns.takeR {W : World} {base n m : Nat} {T : TypeId} {a : Option Addr} {c : Nat} {xs : List Value} (h : W.owns base T 1 (.slice a n c) n xs) (hm : m ≤ n) (ha : a ≠ none) : W.owns base T 1 (.slice a m c) m (xs.take m) := by
 obtain ⟨h1, h2⟩ := h
 refine ⟨by rw [List.length_take]; omega, ?_⟩
 rcases h2 with ⟨e, _⟩ | ⟨g, cap, cur, fz, e, hb, hg, hf, hn, hmx, hs, ht⟩
 ·injection e with e1; exact absurd e1 ha
 ·injection e with e1 _ e3
  subst e1 e3
  refine .inr ⟨g, c, cur, fz, rfl, hb, hg, hf, by omega, hmx, hs, ?_⟩
  rw [← ht, List.take_take, Nat.mul_one, Nat.mul_one, Nat.min_eq_left hm]
theorem norm_own (l : List Nat) (base : Nat) (v : Value) (W : World) (h : W.owns base 22 1 v l.length (l.map u32V)) (hl : l.length ≤ 100000) :
  Calls Tryz.prog 91 #[v] W fun e w' => (∃ v', e = .returned v' ∧ W.owns base 22 1 v' (trimL l).length ((trimL l).map u32V)) ∧ W = w' := by
 obtain ⟨a, c, rfl, hca, hmx, hsh⟩ := reads_u32 h.reads
 refine (norm_any l a c hl hca W (fun j x hj => by obtain ⟨b, off, h1, _, h2⟩ := hsh j x hj; exact ⟨b, off, h1, h2⟩)).mono ?_
 rintro e w' ⟨rfl, rfl⟩
 refine ⟨⟨_, rfl, ?_⟩, rfl⟩
 cases a with
 | none =>
  have h0 : l.length = 0 := by
   rcases h.2 with ⟨e, h0⟩ | ⟨g, cap, cur, fz, e, _⟩
   ·exact h0
   ·cases e
  have : l = [] := List.eq_nil_of_length_eq_zero h0
  subst this
  exact h
 | some a =>
  have := World.owns.takeR h (trimL_len l) (by simp)
  rwa [← List.map_take, trimL_take] at this
theorem num_own {w W : World} {m n : Nat} {v : Value} (h : W.owns w.heap.size 22 1 v (trimL ((List.range m).map (dig 4294967296 n))).length ((trimL ((List.range m).map (dig 4294967296 n))).map u32V)) (hb : Below w.heap.size w W) (hn : n < 4294967296 ^ m) :
  NumRet w n (.returned v) W := by
 rw [range_wd n m hn] at h
 exact ⟨v, rfl, h, hb⟩
theorem make_nat2 (l n : Nat) (hl : l ≤ n) (hn : n ≤ 100000) (W : World) : (Instr.makeSlice 103 (.int .i64 (l : Int)) (.int .i64 (n : Int))).run Tryz.prog W = .ok (.slice (some ⟨W.heap.size, 0, none⟩) l n) (W.alloc (.cells (zrow n) 22)) := by
 obtain ⟨i0, hi, hz, h1, h2⟩ := info_parts infoU32
 have := run_make (P := Tryz.prog) W 103 22 i0 (.int .u32 0) Tryz.underlying103 hi hz .i64 .i64 (l : Int) (n : Int) (by omega) (by omega) (by rw [h2]; omega) (by omega)
 simp only [Int.toNat_natCast, h1] at this
 rw [this, made_zrow]
theorem make_u322 (l n : Nat) (hl : l ≤ n) (hn : n ≤ 100000) (W : World) : (Instr.makeSlice 23 (.int .i64 (l : Int)) (.int .i64 (n : Int))).run Tryz.prog W = .ok (.slice (some ⟨W.heap.size, 0, none⟩) l n) (W.alloc (.cells (zrow n) 22)) := by
 obtain ⟨i0, hi, hz, h1, h2⟩ := info_parts infoU32
 have := run_make (P := Tryz.prog) W 23 22 i0 (.int .u32 0) Tryz.underlying23 hi hz .i64 .i64 (l : Int) (n : Int) (by omega) (by omega) (by rw [h2]; omega) (by omega)
 simp only [Int.toNat_natCast, h1] at this
 rw [this, made_zrow]
theorem owns_zrow {W : World} {base g l n : Nat} {T : TypeId} (h : W.heap[g]? = some (.cells (zrow n) T)) (hb : base ≤ g) (hl : l ≤ n) (hn : n ≤ 100000) : W.owns base T 1 (.slice (some ⟨g, 0, none⟩) l n) l ((List.replicate l 0).map u32V) := by
 refine ⟨by simp, .inr ⟨g, n, _, (0, 0), rfl, hb, h, okFz_zero _, hl, by unfold maxLen; omega, by simp [zrow], ?_⟩⟩
 simp [zrow, u32V]
 omega
theorem or_hi (k : IntKind) (hk : k = .u64 ∨ k = .u32) (s a b : Nat) (hb : b < 2 ^ s) (h : a * 2 ^ s + b < 2 ^ (if k = .u64 then 64 else 32)) : bits .or k (b : Int) (((a * 2 ^ s : Nat)) : Int) = ((b + a * 2 ^ s : Nat) : Int) := by
 rw [Nat.add_comm, ← or_lo k hk s a b hb h]
 rcases hk with rfl | rfl
 ·show IntKind.u64.wrap ((BitVec.ofInt 64 _ ||| BitVec.ofInt 64 _).toNat : Int) = IntKind.u64.wrap ((BitVec.ofInt 64 _ ||| BitVec.ofInt 64 _).toNat : Int)
  rw [BitVec.or_comm]
 ·show IntKind.u32.wrap ((BitVec.ofInt 32 _ ||| BitVec.ofInt 32 _).toNat : Int) = IntKind.u32.wrap ((BitVec.ofInt 32 _ ||| BitVec.ofInt 32 _).toNat : Int)
  rw [BitVec.or_comm]
end
/- Walks: a number shifted to the left. -/
section
open Go.RowKit Go.Shelf Go.WideNum
theorem dig_shift_hi {B : Nat} (hB : 0 < B) (N q i : Nat) : dig B (N * B ^ q) (q + i) = dig B N i := by
 unfold dig
 rw [Nat.pow_add, ← Nat.div_div_eq_div_mul, Nat.mul_div_cancel _ (Nat.pow_pos hB)]
theorem dig_shift_lo {B : Nat} (hB : 0 < B) (N q j : Nat) (h : j < q) : dig B (N * B ^ q) j = 0 := by
 unfold dig
 obtain ⟨d, rfl⟩ : ∃ d, q = j + (d + 1) := ⟨q - j - 1, by omega⟩
 rw [Nat.pow_add, ← Nat.mul_assoc, Nat.mul_right_comm, Nat.mul_div_cancel _ (Nat.pow_pos hB), Nat.pow_succ, ← Nat.mul_assoc, Nat.mul_mod_left]
theorem or_shl (c x s : Nat) (hs : s < 32) (hc : c < 2 ^ s) (hx : x < 4294967296) : bits .or .u64 (c : Int) (IntKind.u64.wrap ((x : Int) * 2 ^ s)) = ((c + x * 2 ^ s : Nat) : Int) ∧ c + x * 2 ^ s < 18446744073709551616 := by
 have h2 : 2 ^ s ≤ 2 ^ 31 := Nat.pow_le_pow_right (by omega) (by omega)
 have h3 : x * 2 ^ s ≤ x * 2 ^ 31 := Nat.mul_le_mul_left _ h2
 have h4 : c + x * 2 ^ s < 18446744073709551616 := by omega
 have h1 : IntKind.u64.wrap ((x : Int) * 2 ^ s) = ((x * 2 ^ s : Nat) : Int) := by
  rw [IntKind.wrap_u64]
  have e : ((x : Int) * 2 ^ s) = ((x * 2 ^ s : Nat) : Int) := by simp
  rw [e]
  generalize x * 2 ^ s = y at *
  omega
 refine ⟨?_, h4⟩
 rw [h1]
 exact or_hi .u64 (Or.inl rfl) s x c hc (by simp only [if_true]; omega)
theorem left_any (A k : Nat) (hk : k ≤ 100000) (va : Value) (w : World) (hA : w.reads w.heap.size va ((wd A).map u32V)) (hla : (wd A).length ≤ 2000) :
  Calls Tryz.prog 99 #[va, .int .i64 (k : Int)] w (NumRet w (A * 2 ^ k)) := by
 obtain ⟨aa, ca, rfl, hca, hma, hsa⟩ := reads_u32 hA
 clear hA
 obtain ⟨p, hp⟩ : ∃ n, n = (wd A).length := ⟨_, rfl⟩
 have hva := wd_vlt A
 rw [← hp] at hla hca hva ⊢
 have HA : Hid (∀ k, k < p → ∃ b off, aa = some ⟨b, off, none⟩ ∧ b < w.heap.size ∧ w.cell? ⟨b, off + k, none⟩ = some (.int .u32 (dig 4294967296 A k : Int))) := fun k hk => hsa k _ (wd_get _ k (by omega))
 have HVA := Lib.hid hva
 clear hp hsa hva
 obtain ⟨q, hq⟩ : ∃ q, q = k / 32 := ⟨_, rfl⟩
 obtain ⟨s, hs⟩ : ∃ s, s = k % 32 := ⟨_, rfl⟩
 have hs32 : s < 32 := by omega
 have e1 : (k : Int) / 32 = (q : Int) := by omega
 have e2 : (k : Int) % 32 = (s : Int) := by omega
 have hkq : Hid (A * 2 ^ k = A * 2 ^ s * 4294967296 ^ q) := by
  show _ = _
  rw [show (4294967296 : Nat) = 2 ^ 32 by rfl, ← Nat.pow_mul, Nat.mul_assoc, ← Nat.pow_add]
  congr 2; omega
 have hq2 : q ≤ 5000 := by omega
 clear hq hs
 obtain ⟨M, hM⟩ : ∃ M, M = A * 2 ^ k := ⟨_, rfl⟩
 rw [← hM] at hkq ⊢
 have HDH : Hid (∀ i, dig 4294967296 M (q + i) = dig 4294967296 (A * 2 ^ s) i) := fun i => by rw [hkq.out, dig_shift_hi (by omega)]
 have HDL : Hid (∀ j, j < q → dig 4294967296 M j = 0) := fun j hj => by rw [hkq.out, dig_shift_lo (by omega) _ _ _ hj]
 clear hM
 obtain ⟨HPOST, hpost⟩ : ∃ R, R = NumRet w M := ⟨_, rfl⟩
 rw [← hpost]
 have HP := Lib.hid hpost
 clear hpost
 have hmk : ∀ W : World, (Instr.makeSlice 103 (.int .i64 (q : Int)) (.int .i64 ((p : Int) + (q : Int) + 1))).run Tryz.prog W = .ok (.slice (some ⟨W.heap.size, 0, none⟩) q (p + q + 1)) (W.alloc (.cells (zrow (p + q + 1)) 22)) := fun W => make_nat2 q (p + q + 1) (by omega) (by omega) W
 go_enter Tryz.func99, Tryz.ntmps99
 go_wp2_with fail
 have hown0 : (w.alloc (.cells (zrow (p + q + 1)) 22)).owns w.heap.size 22 1 (.slice (some ⟨w.heap.size, 0, none⟩) q (p + q + 1)) q (((List.range q).map (dig 4294967296 M)).map u32V) := by
  have h := owns_zrow (l := q) (base := w.heap.size) (heap_alloc_new w (.cells (zrow (p + q + 1)) 22)) (Nat.le_refl _) (by omega) (by omega)
  rw [show (List.range q).map (dig 4294967296 M) = List.replicate q 0 by
   apply List.ext_getElem
   ·simp
   ·intro j h1 h2; simp; exact HDL.out j (by simpa using h1)]
  exact h
 have HO0 := Lib.hid hown0
 clear hown0
 go_loopw [5, 6, 20] (fun sv c iv wr => ∃ (i : Nat) (va : Option Addr) (vc : Nat), i ≤ p ∧ iv = .int .i64 (i : Int) ∧ sv = .slice va (q + i) vc ∧ c = .int .u64 (carryM 4294967296 A (2 ^ s) i : Int) ∧ Hid (wr.owns w.heap.size 22 1 (.slice va (q + i) vc) (q + i) (((List.range (q + i)).map (dig 4294967296 M)).map u32V)) ∧ Hid (Below w.heap.size w wr)) (fun _ _ iv _ => p - (intOf iv).toNat)
 case atStart => exact ⟨0, _, _, Nat.zero_le _, rfl, rfl, by rw [carryM_zero]; rfl, HO0.out, (Below.refl _ w).alloc (Nat.le_refl _) _⟩
 case round =>
  obtain ⟨i, va, vc, hi, rfl, rfl, rfl, hO, hB⟩ := hrel
  have hz := hB.out.size
  have hcl := carryM_lt (B := 4294967296) (by omega) A (2 ^ s) i (Nat.pow_pos (by omega))
  by_cases hlt : i < p
  ·obtain ⟨b, off, rfl, hbl, hx0⟩ := HA.out i hlt
   have hx : wr.cell? ⟨b, off + i, none⟩ = some (.int .u32 (dig 4294967296 A i : Int)) := (hB.out.cell (p := ⟨b, off + i, none⟩) hbl).trans hx0
   have HST := Lib.hid (mul_step (B := 4294967296) (by omega) A (2 ^ s) i)
   have hd1 := wd_dig A i
   have hd3 := wd_dig (A * 2 ^ s) i
   obtain ⟨x, ex⟩ : ∃ x, x = dig 4294967296 A i := ⟨_, rfl⟩
   obtain ⟨z, ez⟩ : ∃ x, x = dig 4294967296 (A * 2 ^ s) i := ⟨_, rfl⟩
   obtain ⟨c, ec⟩ : ∃ x, x = carryM 4294967296 A (2 ^ s) i := ⟨_, rfl⟩
   obtain ⟨d, ed⟩ : ∃ x, x = carryM 4294967296 A (2 ^ s) (i + 1) := ⟨_, rfl⟩
   rw [← ex, ← ez, ← ec, ← ed] at HST
   rw [← ex] at hx hd1
   rw [← ez] at hd3
   rw [← ec] at hcl ⊢
   have EZ := Lib.hid ez
   have ED := Lib.hid ed
   obtain ⟨hor, hy64⟩ := or_shl c x s hs32 hcl hd1
   obtain ⟨y, ey⟩ : ∃ y, y = c + x * 2 ^ s := ⟨_, rfl⟩
   rw [← ey] at hor hy64
   have t1 : (y : Int) % 4294967296 = (z : Int) := by have := HST.out; omega
   have t2 : (y : Int) / 4294967296 = (d : Int) := by have := HST.out; omega
   clear ex ez ec ed hx0 ey
   go_wp2_with (at_builtin; refine app_u32 wr 103 Tryz.underlying103 rfl (.tmp 31) (.tmp 34) rfl w.heap.size (.slice va (q + i) vc) (q + i) _ rfl hO.out (z : Int) wr.heap.size rfl rfl (by omega) hz ?_; intro v5 w5 hown5 hg5 hz5; have HO5 := Lib.hid hown5; obtain ⟨g5, q5, rfl⟩ := hown5.succ; have HB5 := Lib.hid (hB.out.trans (below_grown hO.out hg5 w.heap.size (Nat.le_refl _) hz)); clear hown5 hg5)
   go_roundw
   case rel =>
    refine ⟨i + 1, _, q5, by omega, by go_num, rfl, by rw [← ED.out], ?_, HB5.out⟩
    show w5.owns _ _ _ _ _ _
    rw [← Nat.add_assoc, List.range_succ, List.map_append, List.map_append]
    show w5.owns _ _ _ _ _ (_ ++ [u32V (dig 4294967296 M (q + i))])
    rw [HDH.out, ← EZ.out]
    exact HO5.out
   case measure => simp [intOf]; omega
  ·obtain rfl : i = p := by omega
   have hc32 : carryM 4294967296 A (2 ^ s) i < 4294967296 := Nat.lt_of_lt_of_le hcl (by rw [show (4294967296 : Nat) = 2 ^ 32 by rfl]; exact Nat.pow_le_pow_right (by omega) (by omega))
   obtain ⟨c, ec⟩ : ∃ x, x = carryM 4294967296 A (2 ^ s) i := ⟨_, rfl⟩
   have ecz : Hid (c = dig 4294967296 M (q + i)) := by
    show _ = _
    rw [HDH.out, ec]
    have h1 := mul_step (B := 4294967296) (by omega) A (2 ^ s) i
    have h2 : dig 4294967296 A i = 0 := dig_high (by omega) A i HVA.out
    have h3 : carryM 4294967296 A (2 ^ s) (i + 1) = 0 := by
     unfold carryM
     rw [Nat.div_eq_of_lt]
     have h4 := Nat.lt_of_le_of_lt (Nat.mod_le A (4294967296 ^ (i + 1))) HVA.out
     rw [Nat.pow_succ]
     refine Nat.mul_lt_mul'' h4 ?_
     rw [show (4294967296 : Nat) = 2 ^ 32 by rfl]; exact Nat.pow_lt_pow_right (by omega) (by omega)
    rw [h2, h3] at h1
    omega
   have HM : Hid (M < 4294967296 ^ (q + i + 1)) := by
    show _ < _
    have h1 : A * 2 ^ s < 4294967296 ^ i * 4294967296 := by
     refine Nat.mul_lt_mul'' HVA.out ?_
     rw [show (4294967296 : Nat) = 2 ^ 32 by rfl]; exact Nat.pow_lt_pow_right (by omega) (by omega)
    rw [hkq.out, show q + i + 1 = (i + 1) + q by omega, Nat.pow_add, Nat.pow_succ]
    exact (Nat.mul_lt_mul_right (Nat.pow_pos (by omega))).2 h1
   rw [← ec] at hc32 ⊢
   have t1 : (c : Int) % 4294967296 = (c : Int) := by omega
   clear ec hcl
   go_wp2_with (at_builtin; refine app_u32 wr 103 Tryz.underlying103 rfl (.tmp 39) (.tmp 42) rfl w.heap.size (.slice va (q + i) vc) (q + i) _ rfl hO.out (c : Int) wr.heap.size rfl rfl (by omega) hz ?_; intro v5 w5 hown5 hg5 hz5; have HO5 := Lib.hid hown5; have HB5 := Lib.hid (hB.out.trans (below_grown hO.out hg5 w.heap.size (Nat.le_refl _) hz)); clear hown5 hg5)
   have ho6 : w5.owns w.heap.size 22 1 v5 ((List.range (q + i + 1)).map (dig 4294967296 M)).length (((List.range (q + i + 1)).map (dig 4294967296 M)).map u32V) := by
    rw [List.length_map, List.length_range, List.range_succ, List.map_append, List.map_append]
    show w5.owns _ _ _ _ _ (_ ++ [u32V (dig 4294967296 M (q + i))])
    rw [← ecz.out]
    exact HO5.out
   have HO6 := Lib.hid ho6
   clear ho6
   (with_reducible refine (norm_own _ _ v5 w5 HO6.out (by simp; omega)).mono ?_)
   rintro e w6 ⟨⟨v6, rfl, hown6⟩, rfl⟩
   have HO7 := Lib.hid hown6
   clear hown6
   go_wp2
   rw [HP.out]
   exact num_own HO7.out HB5.out HM.out
end
/- Walks: the number of bits of a word. -/
section
open Go.RowKit Go.Shelf Go.WideNum
theorem bitLen_bounds : ∀ (f x : Nat), x < 2 ^ f → x < 2 ^ Lib.bitLenAux f x ∧ (x ≠ 0 → 2 ^ Lib.bitLenAux f x ≤ 2 * x) ∧ Lib.bitLenAux f x ≤ f
 | 0, x, h => by
  have : x = 0 := by simpa using h
  subst this
  simp [Lib.bitLenAux]
 | f + 1, x, h => by
  unfold Lib.bitLenAux
  by_cases h0 : x = 0
  ·subst h0; simp
  ·rw [if_neg h0]
   obtain ⟨h1, h2, h3⟩ := bitLen_bounds f (x / 2) (by rw [Nat.pow_succ] at h; omega)
   rw [Nat.add_comm 1, Nat.pow_succ]
   refine ⟨by omega, fun _ => ?_, by omega⟩
   by_cases hx : x / 2 = 0
   ·have : x = 1 := by omega
    subst this
    cases f <;> simp [Lib.bitLenAux]
   ·have := h2 hx; omega
theorem bitLen_spec (x : Nat) (h : x < 4294967296) : x < 2 ^ Lib.bitLen x ∧ (x ≠ 0 → 2 ^ Lib.bitLen x ≤ 2 * x) ∧ Lib.bitLen x ≤ 32 := by
 have h1 := bitLen_bounds 64 x (by omega)
 refine ⟨h1.1, h1.2.1, ?_⟩
 unfold Lib.bitLen
 rw [Lib.bitLenAux_fuel 32 x (by omega) 64 (by omega)]
 exact (bitLen_bounds 32 x (by omega)).2.2
theorem idx8 (t : TypeId) (h : Tryz.prog.underlying t = some .string) (y : Nat) (hy : y ≤ 255) (w : World) : (Instr.index t (.string Lib.len8tab) (.int .u8 (y : Int))).run Tryz.prog w = .ok (.int .u8 (Lib.bitLen y : Int)) w := by
 rw [Lib.run_index_len8tab w t .u8 (y : Int) h (by omega) (by omega), Lib.len8_of (y : Int) (by omega) (by omega), Int.toNat_natCast]
theorem shr_facts (x : Nat) (h1 : x < 4294967296) : ∃ y k : Nat, y ≤ 255 ∧ Lib.bitLen x = k + Lib.bitLen y ∧
  ((x < 256 ∧ y = x ∧ k = 0) ∨ (256 ≤ x ∧ x < 65536 ∧ y = x / 256 ∧ k = 8) ∨ (65536 ≤ x ∧ x < 16777216 ∧ y = x / 65536 ∧ k = 16) ∨ (16777216 ≤ x ∧ y = x / 65536 / 256 ∧ k = 24)) := by
 by_cases a : x < 256
 ·exact ⟨x, 0, by omega, by omega, by omega⟩
 ·by_cases b : x < 65536
  ·exact ⟨x / 256, 8, by omega, Lib.bitLen_shift8 x (by omega) (by omega), by omega⟩
  ·by_cases c : x < 16777216
   ·exact ⟨x / 65536, 16, by omega, Lib.bitLen_shift16 x (by omega) (by omega), by omega⟩
   ·refine ⟨x / 65536 / 256, 24, by omega, ?_, by omega⟩
    have := Lib.bitLen_shift24 x (by omega) (by omega)
    rw [this, Nat.div_div_eq_div_mul]
theorem Len32_any (x : Nat) (w : World) (h1 : x < 4294967296) :
  Calls Tryz.prog 107 #[.int .u32 (x : Int)] w fun e w' => e = .returned (.int .i64 (Lib.bitLen x : Int)) ∧ w = w' := by
 obtain ⟨y, k, hy, hb, hc⟩ := shr_facts x h1
 have l8 := Lib.bitLen_le8' (y : Int) (by omega) (by omega)
 rw [Int.toNat_natCast] at l8
 have hidx := idx8 9 (by kernel_rfl) y hy
 obtain ⟨L, hL⟩ : ∃ L, L = Lib.bitLen y := ⟨_, rfl⟩
 rw [← hL] at l8 hidx hb
 have HB := Lib.hid hb
 obtain ⟨R, hR⟩ : ∃ R, R = Lib.bitLen x := ⟨_, rfl⟩
 rw [← hR] at HB ⊢
 have HR := Lib.hid hR
 have e8 : (L : Int) % 256 = (L : Int) := by omega
 clear hb hL hR
 rcases hc with ⟨c1, c2, rfl⟩ | ⟨c0, c1, c2, rfl⟩ | ⟨c0, c1, c2, rfl⟩ | ⟨c1, c2, rfl⟩
 ·have t1 : ¬ (65536 : Int) ≤ (x : Int) := by omega
  have t2 : ¬ (256 : Int) ≤ (x : Int) := by omega
  subst c2
  obtain rfl : R = L := by have := HB.out; omega
  go_enter Tryz.func107, Tryz.ntmps107
  go_wp2
  go_ret
  exact ⟨rfl, rfl⟩
 ·have t1 : ¬ (65536 : Int) ≤ (x : Int) := by omega
  have t2 : (256 : Int) ≤ (x : Int) := by omega
  have t3 : (x : Int) / 256 = (y : Int) := by omega
  have hre : R = 8 + L := HB.out
  subst hre
  clear c2
  go_enter Tryz.func107, Tryz.ntmps107
  go_wp2
  go_ret
  exact ⟨rfl, rfl⟩
 ·have t1 : (65536 : Int) ≤ (x : Int) := by omega
  have t3 : (x : Int) / 65536 = (y : Int) := by omega
  have t2 : ¬ (256 : Int) ≤ (y : Int) := by omega
  have hre : R = 16 + L := HB.out
  subst hre
  clear c2
  go_enter Tryz.func107, Tryz.ntmps107
  go_wp2
  go_ret
  exact ⟨rfl, rfl⟩
 ·have t1 : (65536 : Int) ≤ (x : Int) := by omega
  have t2 : (256 : Int) ≤ (x : Int) / 65536 := by omega
  have t3 : (x : Int) / 65536 / 256 = (y : Int) := by omega
  have hre : R = 24 + L := HB.out
  subst hre
  clear c2
  go_enter Tryz.func107, Tryz.ntmps107
  go_wp2
  go_ret
  exact ⟨rfl, rfl⟩
theorem lz_any (x : Nat) (w : World) (h1 : x < 4294967296) :
  Calls Tryz.prog 92 #[.int .u32 (x : Int)] w fun e w' => e = .returned (.int .i64 (((32 - Lib.bitLen x : Nat)) : Int)) ∧ w = w' := by
 have l := (bitLen_spec x h1).2.2
 obtain ⟨L, hL⟩ : ∃ L, L = Lib.bitLen x := ⟨_, rfl⟩
 rw [← hL] at l ⊢
 rw [show ((32 - L : Nat) : Int) = 32 - (L : Int) by omega]
 have HL := Lib.hid hL
 clear hL
 have hc := fun w => Len32_any x w h1
 go_enter Tryz.func92, Tryz.ntmps92
 go_wp2_with (go_at_call 107; refine (hc _).mono ?_; rw [← HL.out]; rintro e w' ⟨rfl, rfl⟩)
 go_ret
 exact ⟨rfl, rfl⟩
end
/- Plain: the bytes of a number out of its words. -/
section
open Go.WideNum
theorem pow4 (q : Nat) : 4294967296 ^ q = 256 ^ (4 * q) := by rw [show (4294967296 : Nat) = 256 ^ 4 by rfl, ← Nat.pow_mul]
theorem dig_byte (n k q r : Nat) (hk : k = 4 * q + r) (hr : r < 4) : dig 4294967296 n q / 2 ^ (8 * r) % 256 = dig 256 n k := by
 subst hk
 unfold dig
 rw [Nat.pow_mul, show (2 : Nat) ^ 8 = 256 by rfl, Nat.pow_add, ← Nat.div_div_eq_div_mul, ← pow4]
 generalize n / 4294967296 ^ q = m
 rcases (show r = 0 ∨ r = 1 ∨ r = 2 ∨ r = 3 by omega) with rfl | rfl | rfl | rfl
 ·rw [Nat.pow_zero, Nat.div_one, Nat.div_one]; omega
 ·rw [Nat.pow_one]; omega
 ·rw [show (256 : Nat) ^ 2 = 65536 by rfl]; omega
 ·rw [show (256 : Nat) ^ 3 = 16777216 by rfl]; omega
theorem nbytes_spec (n R L : Nat) (hn : 0 < n) (hR : R = (wd n).length) (hL : L = Lib.bitLen (dig 4294967296 n (R - 1))) :
  0 < R ∧ 1 ≤ L ∧ L ≤ 32 ∧ (words 256 n).length = 4 * R - (32 - L) / 8 ∧ 0 < 4 * R - (32 - L) / 8 := by
 have hR0 : 0 < R := by
  rw [hR]
  rcases Nat.eq_zero_or_pos (wd n).length with h | h
  ·have := (words_len0 (B := 4294967296) (by omega) n).1 h; omega
  ·exact h
 obtain ⟨m, rfl⟩ : ∃ m, R = m + 1 := ⟨R - 1, by omega⟩
 rw [Nat.add_sub_cancel] at hL
 have hlt := wd_vlt n
 rw [← hR] at hlt
 have htop := wd_dig n m
 have hb := bitLen_spec _ htop
 rw [← hL] at hb
 obtain ⟨b1, b2, b3⟩ := hb
 have hdiv : n / 4294967296 ^ m < 4294967296 := by
  refine Nat.div_lt_of_lt_mul ?_
  rw [Nat.pow_succ] at hlt; exact hlt
 have hdt : dig 4294967296 n m = n / 4294967296 ^ m := by unfold dig; rw [Nat.mod_eq_of_lt hdiv]
 have htrim : dig 4294967296 n m ≠ 0 := by
  have h1 := words_trimmed (B := 4294967296) (by omega) n n (Nat.le_refl _)
  have h2 : (wd n).getLast? = some (dig 4294967296 n m) := by
   rw [List.getLast?_eq_getElem?, ← hR, Nat.add_sub_cancel]
   exact wd_get n m (by omega)
  exact h1 _ h2
 have b2 := b2 htrim
 rw [hdt] at b1 b2 htrim
 have hL1 : 1 ≤ L := by
  rcases Nat.eq_zero_or_pos L with h | h
  ·rw [h, Nat.pow_zero] at b1; omega
  ·exact h
 have e0 : 4294967296 ^ m = 2 ^ (32 * m) := by rw [show (4294967296 : Nat) = 2 ^ 32 by rfl, ← Nat.pow_mul]
 have hp : 0 < 4294967296 ^ m := Nat.pow_pos (by omega)
 -- n below 2^(32 m + L), and not below 2^(32 m + L - 1)
 have u1 : n < 2 ^ (32 * m + L) := by
  rw [Nat.pow_add, ← e0, Nat.mul_comm]
  exact (Nat.div_lt_iff_lt_mul hp).1 b1
 have u2 : 2 ^ (32 * m + (L - 1)) ≤ n := by
  rw [Nat.pow_add, ← e0, Nat.mul_comm]
  refine (Nat.le_div_iff_mul_le hp).1 ?_
  have h3 : 2 ^ L = 2 * 2 ^ (L - 1) := by rw [← Nat.pow_succ']; congr 1; omega
  rw [h3] at b2
  generalize 2 ^ (L - 1) = P at *
  generalize n / 4294967296 ^ m = D at *
  clear u1 e0 hp hlt b1 h3
  omega
 have p256 : ∀ k, 256 ^ k = 2 ^ (8 * k) := fun k => by rw [show (256 : Nat) = 2 ^ 8 by rfl, ← Nat.pow_mul]
 refine ⟨hR0, hL1, b3, ?_, by omega⟩
 have l1 := words_length (B := 256) (by omega) n (4 * (m + 1) - (32 - L) / 8) (by
  rw [p256]
  exact Nat.lt_of_lt_of_le u1 (Nat.pow_le_pow_right (by omega) (by omega)))
 have l2 := words_lenlt (B := 256) (by omega) n (4 * (m + 1) - (32 - L) / 8 - 1) (by
  rw [p256]
  exact Nat.le_trans (Nat.pow_le_pow_right (by omega) (by omega)) u2)
 omega
theorem magL_range (n N : Nat) (hN : N = (words 256 n).length) : magL n = (List.range N).map (fun i => UInt8.ofNat (dig 256 n (N - 1 - i))) := by
 unfold magL
 apply List.ext_getElem
 ·simp [hN]
 ·intro i h1 h2
  have hi : i < N := by simpa using h2
  rw [List.getElem_reverse, List.getElem_map, List.getElem_map, List.getElem_range]
  congr 1
  have h3 := words_getE (B := 256) (by omega) n (N - 1 - i) (by omega)
  have h4 : (words 256 n)[N - 1 - i]? = some (words 256 n)[N - 1 - i] := List.getElem?_eq_getElem (by omega)
  rw [h4] at h3
  injection h3 with h3
  rw [← h3]
  congr 1
  simp [hN]
theorem magL_length (n : Nat) : (magL n).length = (words 256 n).length := by simp [magL]
def lim : Nat := 256 ^ 256
theorem lim_iff (n N : Nat) (hN : N = (words 256 n).length) : n < lim ↔ N ≤ 256 := by
 unfold lim
 constructor
 ·intro h; rw [hN]; exact words_length (by omega) n 256 h
 ·intro h
  have h1 := words_vlt (B := 256) (by omega) n
  rw [← hN] at h1
  exact Nat.lt_of_lt_of_le h1 (Nat.pow_le_pow_right (by omega) h)
def magB (n : Nat) : ByteArray := ⟨(magL n).toArray⟩
def emptyW : Value := wideV false ⟨#[]⟩
def outB (neg : Bool) (n : Nat) : Value := if n < lim then wideV (neg && decide (n ≠ 0)) (magB n) else emptyW
def outE (n : Nat) : Int := if n < lim then 0 else 7
theorem lim_pos : 0 < lim := Nat.pow_pos (by omega)
end
/- Walks: the form of a number. -/
section
open Go.RowKit Go.Shelf Go.WideNum
theorem norm_list (l : List Nat) (R p : Nat) (hR : Hid (R = (trimL l).length)) (hp : Hid (p = l.length)) (a : Option Addr) (cap : Nat) (hl : p ≤ 100000) (hcap : p ≤ cap) (w : World) (hc : ∀ (j : Nat) (x : Nat), l[j]? = some x → ∃ b off, a = some ⟨b, off, none⟩ ∧ w.cell? ⟨b, off + j, none⟩ = some (.int .u32 (x : Int))) :
  Calls Tryz.prog 91 #[.slice a p cap] w fun e w' => e = .returned (.slice a R cap) ∧ w = w' := by
 have e1 := hR.out
 have e2 := hp.out
 clear hR hp
 subst e1 e2
 exact norm_any l a cap hl hcap w hc
def rowB (f : Nat → Nat) (n : Nat) : Array Value := ((List.range n).map (fun j => Value.int .u8 (f j : Int))).toArray
theorem rowB_zero (n : Nat) : rowB (fun _ => 0) n = (List.replicate n (Value.int .u8 0)).toArray := by
 unfold rowB
 congr 1
 apply List.ext_getElem
 ·simp
 ·intro i h1 h2; simp
theorem rowB_congr {f f' : Nat → Nat} {n : Nat} (h : ∀ j, j < n → f j = f' j) : rowB f n = rowB f' n := by
 unfold rowB
 congr 1
 exact List.map_congr_left (fun j hj => by rw [h j (by simpa using hj)])
theorem rowB_cell {W : World} {g n : Nat} {f : Nat → Nat} {T : TypeId} (h : W.heap[g]? = some (.cells (rowB f n) T)) (k : Nat) (hk : k < n) : W.cell? ⟨g, k, none⟩ = some (.int .u8 (f k : Int)) ∧ W.frozen? ⟨g, k, none⟩ = false := by
 refine ⟨?_, by simp [World.frozen?, h]⟩
 rw [cell_of_row W g k _ T (0, 0) h]
 simp [rowB, hk]
theorem rowB_set {W : World} {g n k : Nat} {f f' : Nat → Nat} {T : TypeId} (h : W.heap[g]? = some (.cells (rowB f n) T)) (hf : ∀ j, j < n → j ≠ k → f j = f' j) :
  (W.setCell ⟨g, k, none⟩ (.int .u8 (f' k : Int))).heap[g]? = some (.cells (rowB f' n) T) := by
 have e : (rowB f n).setIfInBounds k (.int .u8 (f' k : Int)) = rowB f' n := by
  unfold rowB
  apply Array.ext
  ·simp
  ·intro i h1 h2
   simp only [List.setIfInBounds_toArray, List.getElem_toArray, List.getElem_set, List.getElem_map, List.getElem_range]
   by_cases h : k = i
   ·subst h; simp
   ·simp only [h, if_false]
    rw [hf i (by simpa using h2) (by omega)]
 rw [← e]; simp [World.setCell, Array.getElem?_modify, h]
theorem make_u8 (n : Nat) (hn : n ≤ 1000000) (W : World) : (Instr.makeSlice 98 (.int .i64 (n : Int)) (.int .i64 (n : Int))).run Tryz.prog W = .ok (.slice (some ⟨W.heap.size, 0, none⟩) n n) (W.alloc (.cells (rowB (fun _ => 0) n) 5)) := by
 obtain ⟨i0, hi, hz, h1, h2⟩ := info_parts infoByte
 have := run_make (P := Tryz.prog) W 98 5 i0 (.int .u8 0) Tryz.underlying98 hi hz .i64 .i64 (n : Int) (n : Int) (by omega) (by omega) (by rw [h2]; omega) (by omega)
 simp only [Int.toNat_natCast, h1] at this
 rw [this]
 have hz : madeCells (Value.int IntKind.u8 0).cells (n * 1) = rowB (fun _ => 0) n := by
  rw [rowB_zero]
  unfold madeCells
  apply Array.ext
  ·simp
  ·intro i h1 h2
   have : (Value.int IntKind.u8 0).cells = #[.int .u8 0] := rfl
   simp [this, Nat.mod_one]
 rw [hz]
theorem rowB_string {W : World} {g n : Nat} {f : Nat → Nat} (h : W.heap[g]? = some (.cells (rowB f n) 5)) (hf : ∀ j, j < n → f j < 256) (hn : n ≤ 1000000) (dst : TypeId) (hd : Tryz.prog.underlying dst = some .string) :
  (convert 98 dst (.slice (some ⟨g, 0, none⟩) n n)).run Tryz.prog W = .ok (.string ⟨((List.range n).map (fun j => UInt8.ofNat (f j))).toArray⟩) W := by
 have ho : W.owns 0 5 1 (.slice (some ⟨g, 0, none⟩) n n) n (((List.range n).map (fun j => UInt8.ofNat (f j))).map fun b => Value.int .u8 (b.toNat : Int)) := by
  refine ⟨by simp, .inr ⟨g, n, _, (0, 0), rfl, Nat.zero_le _, h, okFz_zero _, Nat.le_refl _, by unfold maxLen; omega, by simp [rowB], ?_⟩⟩
  rw [Nat.mul_one, List.take_of_length_le (by simp [rowB])]
  unfold rowB
  simp only [List.map_map]
  apply List.map_congr_left
  intro j hj
  show Value.int .u8 (f j : Int) = Value.int .u8 (((UInt8.ofNat (f j)).toNat : Nat) : Int)
  rw [UInt8.toNat_ofNat', Nat.mod_eq_of_lt (hf j (by simpa using hj))]
 have h2 := run_owns_string (P := Tryz.prog) (w := W) (m := n) 98 dst 5 Tryz.underlying98 Tryz.underlying5 hd ho (by simp) n
 rw [List.take_of_length_le (by simp)] at h2
 exact h2
def FormRet (w : World) (neg : Bool) (n : Nat) (e : Ending) (w' : World) : Prop := e = .returned (.tuple #[outB neg n, .int .i64 (outE n)]) ∧ Below w.heap.size w w'
theorem outB_zero (neg : Bool) : outB neg 0 = emptyW ∧ outE 0 = 0 := by
 refine ⟨?_, ?_⟩
 ·unfold outB emptyW
  rw [if_pos lim_pos, Bool.and_comm]
  rfl
 ·unfold outE; rw [if_pos lim_pos]
theorem form_any (l : List Nat) (hl : ∀ x ∈ l, x < 4294967296) (hlen : l.length ≤ 2000) (neg : Bool) (va : Value) (w : World) (hA : w.reads w.heap.size va (l.map u32V)) :
  Calls Tryz.prog 68 #[va, .bool neg] w (FormRet w neg (valW 4294967296 l)) := by
 obtain ⟨aa, ca, rfl, hca, hma, hsa⟩ := reads_u32 hA
 clear hA
 have htw := trimL_words 4294967296 (by omega) l hl
 obtain ⟨n, hn⟩ : ∃ n, n = valW 4294967296 l := ⟨_, rfl⟩
 rw [← hn] at htw ⊢
 clear hn
 obtain ⟨p, hp⟩ : ∃ n, n = l.length := ⟨_, rfl⟩
 rw [← hp] at hlen hca ⊢
 obtain ⟨R, hR⟩ : ∃ R, R = (trimL l).length := ⟨_, rfl⟩
 have hRw : R = (wd n).length := by rw [hR, htw]; rfl
 have hRp : R ≤ p := by rw [hR, hp]; exact trimL_len l
 have HA : Hid (∀ k, k < R → ∃ b off, aa = some ⟨b, off, none⟩ ∧ b < w.heap.size ∧ w.cell? ⟨b, off + k, none⟩ = some (.int .u32 (dig 4294967296 n k : Int))) := fun k hk => by
  refine hsa k _ ?_
  have h1 := wd_get n k (by omega)
  rw [← show trimL l = wd n from htw, ← trimL_take l, ← hR, List.getElem?_take, if_pos hk] at h1
  exact h1
 have HSA := Lib.hid hsa
 have HR := Lib.hid hR
 have HPL := Lib.hid hp
 have hb := (Below.refl w.heap.size w).alloc (Nat.le_refl _) (.cells #[.bool false, .string ⟨#[]⟩] 40)
 have hnorm := fun (w' : World) (hb : Below w.heap.size w w') => norm_list l R p HR HPL aa ca (by omega) hca w' (fun j x hj => by obtain ⟨b, off, h1, h2, h3⟩ := hsa j x hj; exact ⟨b, off, h1, (Below.cell (p := ⟨b, off + j, none⟩) hb h2).trans h3⟩)
 have HNORM : Hid (∀ w', Below w.heap.size w w' → Calls Tryz.prog 91 #[.slice aa p ca] w' fun e w'' => e = .returned (.slice aa R ca) ∧ w' = w'') := hnorm
 have HB := Lib.hid hb
 clear hsa hR hp htw hb hnorm
 obtain ⟨HPOST, hpost⟩ : ∃ X, X = FormRet w neg n := ⟨_, rfl⟩
 rw [← hpost]
 have HP := Lib.hid hpost
 clear hpost
 rcases Nat.eq_zero_or_pos n with h0 | h0
 ·subst h0
  have hR0 : R = 0 := hRw
  subst hR0
  clear hRw
  go_enter Tryz.func68, Tryz.ntmps68
  go_wp2_with fail
  (with_reducible refine (HNORM.out _ HB.out).mono ?_)
  rintro e w2 ⟨rfl, rfl⟩
  go_wp2
  rw [HP.out]
  exact bodyPost_ret (v := .tuple #[emptyW, .int .i64 0]) (by simp [results, Tryz.results68, go_sem]; rfl) rfl ⟨by rw [(outB_zero neg).1, (outB_zero neg).2], HB.out⟩
 ·obtain ⟨L, hL⟩ : ∃ L, L = Lib.bitLen (dig 4294967296 n (R - 1)) := ⟨_, rfl⟩
  obtain ⟨hR0, hL1, hL2, hN, hN0⟩ := nbytes_spec n R L h0 hRw hL
  obtain ⟨m, rfl⟩ : ∃ m, R = m + 1 := ⟨R - 1, by omega⟩
  rw [Nat.add_sub_cancel] at hL
  obtain ⟨N, hNN⟩ : ∃ N, N = 4 * (m + 1) - (32 - L) / 8 := ⟨_, rfl⟩
  rw [← hNN] at hN hN0
  have hlim := lim_iff n N hN.symm
  obtain ⟨K, hK⟩ : ∃ K, K = 32 - L := ⟨_, rfl⟩
  have hb1 : 4 * ((m : Int) + 1) - (K : Int) / 8 = (N : Int) := by omega
  have htd := wd_dig n m
  obtain ⟨b, off, haa, hbl, hx0⟩ := HA.out m (by omega)
  subst haa
  have hx := (HB.out.cell (p := ⟨b, off + m, none⟩) hbl).trans hx0
  obtain ⟨x, ex⟩ : ∃ x, x = dig 4294967296 n m := ⟨_, rfl⟩
  rw [← ex] at htd hx hL
  have hlz := fun w' => lz_any x w' htd
  rw [← hL, ← hK] at hlz
  have HLZ := Lib.hid hlz
  have HNL := Lib.hid hN
  have HLIM := Lib.hid hlim
  have hN4 : N ≤ 4 * m + 4 := by omega
  clear hlz ex hx0 hL hRw hN hlim hNN hK
  by_cases hbig : N ≤ 256
  ·have hbig' : ¬ (256 : Int) < (N : Int) := by omega
   have hmk : ∀ W : World, (Instr.makeSlice 98 (.int .i64 (N : Int)) (.int .i64 (N : Int))).run Tryz.prog W = .ok (.slice (some ⟨W.heap.size, 0, none⟩) N N) (W.alloc (.cells (rowB (fun _ => 0) N) 5)) := fun W => make_u8 N (by omega) W
   go_enter Tryz.func68, Tryz.ntmps68
   go_wp2_with fail
   (with_reducible refine (HNORM.out _ HB.out).mono ?_)
   rintro e w2 ⟨rfl, rfl⟩
   go_wp2_with fail
   (with_reducible refine (HLZ.out _).mono ?_)
   rintro e w2 ⟨rfl, rfl⟩
   go_wp2_with fail
   have hg0 : ((w.alloc (.cells #[.bool false, .string ⟨#[]⟩] 40)).alloc (.cells (rowB (fun _ => 0) N) 5)).heap[w.heap.size + 1]? = some (.cells (rowB (fun j => if j < 0 then dig 256 n (N - 1 - j) else 0) N) 5) := by
    rw [rowB_congr (f := fun j => if j < 0 then dig 256 n (N - 1 - j) else 0) (f' := fun _ => 0) (fun j hj => if_neg (by omega))]
    exact alloc_last _ _ (by simp)
   have hw0 : ((w.alloc (.cells #[.bool false, .string ⟨#[]⟩] 40)).alloc (.cells (rowB (fun _ => 0) N) 5)).heap[w.heap.size]? = some (.cells #[.bool false, .string ⟨#[]⟩] 40) := by
    rw [Below.heap_alloc _ _ _ (by simp)]; exact heap_alloc_new w _
   have HB2 := Lib.hid (HB.out.alloc (by simp) (.cells (rowB (fun _ => 0) N) 5))
   have HG0 := Lib.hid hg0
   have HW0 := Lib.hid hw0
   clear hg0 hw0
   go_loopw [35] (fun iv wr => ∃ i : Nat, i ≤ N ∧ iv = .int .i64 (i : Int) ∧ wr.heap[w.heap.size + 1]? = some (.cells (rowB (fun j => if j < i then dig 256 n (N - 1 - j) else 0) N) 5) ∧ wr.heap[w.heap.size]? = some (.cells #[.bool false, .string ⟨#[]⟩] 40) ∧ Below w.heap.size w wr) (fun iv _ => N - (intOf iv).toNat)
   case atStart => exact ⟨0, Nat.zero_le _, rfl, HG0.out, HW0.out, HB2.out⟩
   case round =>
    obtain ⟨i, hi, rfl, hg, hw, hbw⟩ := hrel
    by_cases hlt : i < N
    ·obtain ⟨k, hk⟩ : ∃ k, k = N - 1 - i := ⟨_, rfl⟩
     obtain ⟨q, hq⟩ : ∃ q, q = k / 4 := ⟨_, rfl⟩
     obtain ⟨r, hr⟩ : ∃ r, r = k % 4 := ⟨_, rfl⟩
     have e1 : (N : Int) - 1 - (i : Int) = (k : Int) := by omega
     have e2 : (k : Int) / 4 = (q : Int) := by omega
     have e3 : (k : Int) % 4 = (r : Int) := by omega
     have hr4 : r < 4 := by omega
     have hqm : q ≤ m := by omega
     have hkk : k = 4 * q + r := by omega
     have HDB := Lib.hid (dig_byte n k q r hkk hr4)
     obtain ⟨b2, off2, haa, hbl2, hy0⟩ := HA.out q (by omega)
     injection haa with haa
     injection haa with hab hao
     subst hab hao
     have hy := (hbw.cell (p := ⟨b, off + q, none⟩) hbl2).trans hy0
     have hyd := wd_dig n q
     obtain ⟨y, ey⟩ : ∃ y, y = dig 4294967296 n q := ⟨_, rfl⟩
     rw [← ey] at hy HDB hyd
     obtain ⟨hcu, hfu⟩ := rowB_cell hg i hlt
     have HG := Lib.hid hg
     have HK := Lib.hid hk
     obtain ⟨z, ez⟩ : ∃ z, z = dig 256 n k := ⟨_, rfl⟩
     have t1 : (y : Int) / 2 ^ (8 * r) % 256 = (z : Int) := by
      have := HDB.out
      rw [← ez] at this
      rw [← this]; simp
     have EZ := Lib.hid ez
     clear hq hr hkk ey hy0 hg hk ez
     go_wp2_with fail
     go_roundw
     case rel =>
      refine ⟨i + 1, by omega, by go_num, ?_, ?_, hbw.setCell (by simp) _⟩
      ·rw [show z = (fun j => if j < i + 1 then dig 256 n (N - 1 - j) else 0) i by rw [EZ.out, HK.out]; exact (if_pos (Nat.lt_succ_self i)).symm]
       refine rowB_set (f' := fun j => if j < i + 1 then dig 256 n (N - 1 - j) else 0) HG.out (fun j _ hj => ?_)
       show (if j < i then _ else _) = (if j < i + 1 then _ else _)
       by_cases h : j < i
       ·rw [if_pos h, if_pos (by omega)]
       ·rw [if_neg h, if_neg (by omega)]
      ·rw [Below.heap_setCell _ _ _ _ (by simp)]; exact hw
     case measure => simp [intOf]; omega
    ·obtain rfl : i = N := by omega
     have hg2 := hg
     rw [rowB_congr (f' := fun j => dig 256 n (i - 1 - j)) (fun j hj => if_pos hj)] at hg2
     have hcv := rowB_string hg2 (fun j _ => dig_lt (by omega) n _) (by omega) 9 Tryz.underlying9
     rw [← magL_range n i HNL.out.symm] at hcv
     have hcl1 : wr.cell? ⟨w.heap.size, 0, none⟩ = some (.bool false) := by rw [cell_of_row wr _ _ _ _ (0, 0) hw]; rfl
     have hcl2 : wr.cell? ⟨w.heap.size, 1, none⟩ = some (.string ⟨#[]⟩) := by rw [cell_of_row wr _ _ _ _ (0, 0) hw]; rfl
     have hf1 : ∀ o, wr.frozen? ⟨w.heap.size, o, none⟩ = false := fun o => by simp [World.frozen?, hw]
     obtain ⟨S, eS⟩ : ∃ S : ByteArray, S = ⟨(magL n).toArray⟩ := ⟨_, rfl⟩
     rw [← eS] at hcv
     have ES := Lib.hid eS
     have HG := Lib.hid hg
     clear hg2 eS hg
     go_wp2
     have hh : ((wr.setCell ⟨w.heap.size, 0, none⟩ (.bool neg)).setCell ⟨w.heap.size, 1, none⟩ (.string S)).heap[w.heap.size]? = some (.cells #[.bool neg, .string S] 40) := by
      simp [World.setCell, Array.getElem?_modify, hw]
     have hc1 : ((wr.setCell ⟨w.heap.size, 0, none⟩ (.bool neg)).setCell ⟨w.heap.size, 1, none⟩ (.string S)).cell? ⟨w.heap.size, 0, none⟩ = some (.bool neg) := by rw [cell_of_row _ _ _ _ _ (0, 0) hh]; rfl
     have hc2 : ((wr.setCell ⟨w.heap.size, 0, none⟩ (.bool neg)).setCell ⟨w.heap.size, 1, none⟩ (.string S)).cell? ⟨w.heap.size, 1, none⟩ = some (.string S) := by rw [cell_of_row _ _ _ _ _ (0, 0) hh]; rfl
     have hb4 : Below w.heap.size w ((wr.setCell ⟨w.heap.size, 0, none⟩ (.bool neg)).setCell ⟨w.heap.size, 1, none⟩ (.string S)) := (hbw.setCell (by simp) _).setCell (by simp) _
     generalize (wr.setCell ⟨w.heap.size, 0, none⟩ (.bool neg)).setCell ⟨w.heap.size, 1, none⟩ (.string S) = W9 at hh hc1 hc2 hb4 ⊢
     rw [HP.out]
     have hlt2 : n < lim := HLIM.out.2 hbig
     refine bodyPost_ret (v := .tuple #[wideV neg S, .int .i64 0]) (by simp [results, Tryz.results68, go_sem, hc1, hc2]; rfl) rfl ⟨?_, hb4⟩
     rw [outB, outE, if_pos hlt2, if_pos hlt2, decide_eq_true (show n ≠ 0 by omega), Bool.and_true, ES.out]
     rfl
  ·have hbig' : (256 : Int) < (N : Int) := by omega
   go_enter Tryz.func68, Tryz.ntmps68
   go_wp2_with fail
   (with_reducible refine (HNORM.out _ HB.out).mono ?_)
   rintro e w2 ⟨rfl, rfl⟩
   go_wp2_with fail
   (with_reducible refine (HLZ.out _).mono ?_)
   rintro e w2 ⟨rfl, rfl⟩
   go_wp2
   rw [HP.out]
   have hlt2 : ¬ n < lim := fun h => hbig (HLIM.out.1 h)
   exact bodyPost_ret (v := .tuple #[emptyW, .int .i64 7]) (by simp [results, Tryz.results68, go_sem]; rfl) rfl ⟨by rw [outB, outE, if_neg hlt2, if_neg hlt2], HB.out⟩
end
/- Plain: the words of a number out of its bytes. -/
section
open Go.WideNum
theorem valW_dig {B : Nat} (hB : 0 < B) : ∀ (l : List Nat), (∀ x ∈ l, x < B) → ∀ k, dig B (valW B l) k = l.getD k 0
 | [], _, k => by simp [valW, dig]
 | x :: l, h, k => by
  have hx := h x (by simp)
  rw [valW]
  cases k with
  | zero => rw [dig_zero, Nat.add_mul_mod_self_left, Nat.mod_eq_of_lt hx]; rfl
  | succ k =>
   rw [dig_succ, Nat.add_mul_div_left _ _ hB, Nat.div_eq_of_lt hx, Nat.zero_add, valW_dig hB l (fun y hy => h y (by simp [hy])) k]
   simp
theorem byte_dig (l : List UInt8) (i : Nat) (hi : i < l.length) : (l[i].toNat) = dig 256 (valM l) (l.length - 1 - i) := by
 unfold valM
 rw [valW_dig (by omega) _ (fun x hx => by obtain ⟨y, _, rfl⟩ := List.mem_map.1 hx; exact y.toNat_lt)]
 rw [List.getD_eq_getElem?_getD, List.getElem?_map, List.getElem?_reverse (by omega)]
 rw [show l.length - 1 - (l.length - 1 - i) = i by omega, List.getElem?_eq_getElem hi]
 rfl
theorem valM_lt (l : List UInt8) : valM l < 256 ^ l.length := by
 have h := valW_lt (B := 256) (by omega) (l.reverse.map UInt8.toNat) (fun x hx => by obtain ⟨y, _, rfl⟩ := List.mem_map.1 hx; exact y.toNat_lt)
 simpa [valM] using h
def topB (n k : Nat) : Nat := n / 256 ^ k * 256 ^ k
theorem topB_zero (n : Nat) : topB n 0 = n := by simp [topB]
theorem topB_all (n N : Nat) (h : n < 256 ^ N) : topB n N = 0 := by simp [topB, Nat.div_eq_of_lt h]
theorem topB_step (n k q r : Nat) (hk : k = 4 * q + r) (hr : r < 4) :
  (∀ j, j ≠ q → dig 4294967296 (topB n (k + 1)) j = dig 4294967296 (topB n k) j) ∧
  ∃ u, dig 4294967296 (topB n (k + 1)) q = u * 2 ^ (8 * r + 8) ∧ dig 4294967296 (topB n k) q = u * 2 ^ (8 * r + 8) + dig 256 n k * 2 ^ (8 * r) := by
 subst hk
 obtain ⟨M, hM⟩ : ∃ M, M = n / 256 ^ (4 * q + r + 1) := ⟨_, rfl⟩
 obtain ⟨d, hd⟩ : ∃ d, d = dig 256 n (4 * q + r) := ⟨_, rfl⟩
 have hdl : d < 256 := by rw [hd]; exact dig_lt (by omega) _ _
 have e1 : topB n (4 * q + r + 1) = (M * 256 * 256 ^ r) * 4294967296 ^ q := by
  unfold topB
  rw [← hM, pow4, Nat.pow_succ, Nat.pow_add]
  simp only [Nat.mul_assoc, Nat.mul_comm, Nat.mul_left_comm]
 have e2 : topB n (4 * q + r) = ((M * 256 + d) * 256 ^ r) * 4294967296 ^ q := by
  unfold topB
  have h := div_pow_succ 256 n (4 * q + r)
  rw [← hM, ← hd] at h
  rw [h, pow4, Nat.pow_add, Nat.add_comm d, Nat.mul_comm 256 M]
  simp only [Nat.mul_assoc, Nat.mul_comm, Nat.mul_left_comm]
 rw [e1, e2, ← hd]
 clear e1 e2 hd hM
 have key : (∃ u, M * 256 * 256 ^ r % 4294967296 = u * 2 ^ (8 * r + 8) ∧ (M * 256 + d) * 256 ^ r % 4294967296 = u * 2 ^ (8 * r + 8) + d * 2 ^ (8 * r)) ∧ M * 256 * 256 ^ r / 4294967296 = (M * 256 + d) * 256 ^ r / 4294967296 := by
  rcases (show r = 0 ∨ r = 1 ∨ r = 2 ∨ r = 3 by omega) with rfl | rfl | rfl | rfl
  ·refine ⟨⟨M % 16777216, ?_, ?_⟩, ?_⟩ <;> simp only [Nat.mul_zero, Nat.pow_zero, Nat.zero_add, Nat.mul_one] <;> omega
  ·refine ⟨⟨M % 65536, ?_, ?_⟩, ?_⟩ <;> simp only [Nat.mul_one, Nat.pow_one] <;> omega
  ·refine ⟨⟨M % 256, ?_, ?_⟩, ?_⟩ <;> rw [show (256 : Nat) ^ 2 = 65536 by rfl] <;> omega
  ·refine ⟨⟨0, ?_, ?_⟩, ?_⟩ <;> rw [show (256 : Nat) ^ 3 = 16777216 by rfl] <;> omega
 obtain ⟨⟨u, k1, k2⟩, k3⟩ := key
 constructor
 ·intro j hj
  rcases Nat.lt_or_ge j q with h | h
  ·rw [dig_shift_lo (by omega) _ _ _ h, dig_shift_lo (by omega) _ _ _ h]
  ·obtain ⟨t, rfl⟩ : ∃ t, j = q + (t + 1) := ⟨j - q - 1, by omega⟩
   rw [dig_shift_hi (by omega), dig_shift_hi (by omega), dig_succ, dig_succ, k3]
 ·refine ⟨u, ?_, ?_⟩
  ·have := dig_shift_hi (B := 4294967296) (by omega) (M * 256 * 256 ^ r) q 0
   rw [Nat.add_zero] at this
   rw [this, dig_zero, k1]
  ·have := dig_shift_hi (B := 4294967296) (by omega) ((M * 256 + d) * 256 ^ r) q 0
   rw [Nat.add_zero] at this
   rw [this, dig_zero, k2]
end
/- Walks: the number of a form. -/
section
open Go.RowKit Go.Shelf Go.WideNum
def numB (s : ByteArray) : Nat := valM s.data.toList
theorem or_part (u x r : Nat) (hr : r < 4) (hx : x < 256) (h : u * 2 ^ (8 * r + 8) + x * 2 ^ (8 * r) < 4294967296) :
  bits .or .u32 ((u * 2 ^ (8 * r + 8) : Nat) : Int) (IntKind.u32.wrap ((x : Int) * 2 ^ (8 * r))) = ((u * 2 ^ (8 * r + 8) + x * 2 ^ (8 * r) : Nat) : Int) := by
 have h1 : IntKind.u32.wrap ((x : Int) * 2 ^ (8 * r)) = ((x * 2 ^ (8 * r) : Nat) : Int) := by
  rw [IntKind.wrap_u32]
  have e : ((x : Int) * 2 ^ (8 * r)) = ((x * 2 ^ (8 * r) : Nat) : Int) := by simp
  rw [e]
  generalize x * 2 ^ (8 * r) = y at *
  generalize u * 2 ^ (8 * r + 8) = z at *
  omega
 rw [h1]
 refine or_lo .u32 (Or.inr rfl) (8 * r + 8) u (x * 2 ^ (8 * r)) ?_ (by simp only [reduceCtorEq, if_false]; omega)
 rw [Nat.pow_add, Nat.mul_comm]
 exact (Nat.mul_lt_mul_left (Nat.pow_pos (by omega))).2 hx
theorem of_any (neg : Bool) (s : ByteArray) (hs : s.size ≤ 2000) (w : World) :
  Calls Tryz.prog 73 #[wideV neg s] w (NumRet w (numB s)) := by
 unfold wideV
 obtain ⟨n, hn⟩ : ∃ n, n = numB s := ⟨_, rfl⟩
 rw [← hn]
 have hnl : n < 256 ^ s.size := by rw [hn]; exact valM_lt _
 have HBY : Hid (∀ i (h : i < s.size), (s[i].toNat) = dig 256 n (s.size - 1 - i)) := fun i h => by rw [hn]; exact byte_dig s.data.toList i h
 obtain ⟨N, hN⟩ : ∃ N, N = s.size := ⟨_, rfl⟩
 have HNL := Lib.hid hnl
 clear hn hnl
 obtain ⟨HPOST, hpost⟩ : ∃ X, X = NumRet w n := ⟨_, rfl⟩
 rw [← hpost]
 have HP := Lib.hid hpost
 clear hpost
 obtain ⟨p, hp⟩ : ∃ p, p = (N + 3) / 4 := ⟨_, rfl⟩
 have e0 : ((s.size : Int) + 3) / 4 = (p : Int) := by omega
 have hmk : ∀ W : World, (Instr.makeSlice 103 (.int .i64 (p : Int)) (.int .i64 (p : Int))).run Tryz.prog W = .ok (.slice (some ⟨W.heap.size, 0, none⟩) p p) (W.alloc (.cells (zrow p) 22)) := fun W => make_nat p (by omega) W
 have HPN : Hid (4 * p ≤ N + 3 ∧ N ≤ 4 * p) := ⟨by omega, by omega⟩
 have HN := Lib.hid hN
 clear hp hN
 go_enter Tryz.func73, Tryz.ntmps73
 go_wp2_with fail
 clear e0
 go_loopw [15] (fun iv wr => ∃ i : Nat, i ≤ N ∧ iv = .int .i64 (i : Int) ∧ wr.heap[w.heap.size + 1]? = some (.cells (rowF (dig 4294967296 (topB n (N - i))) p) 22) ∧ wr.heap[w.heap.size]? = some (.cells #[.bool neg, .string s] 40) ∧ Below w.heap.size w wr) (fun iv _ => N - (intOf iv).toNat)
 case atStart =>
  refine ⟨0, Nat.zero_le _, rfl, ?_, ?_, ((Below.refl _ w).alloc (Nat.le_refl _) _).alloc (by simp) _⟩
  ·rw [Nat.sub_zero, topB_all n N (by rw [HN.out]; exact HNL.out), rowF_congr (f' := fun _ => 0) (fun j hj => by simp [dig]), rowF_zero]
   exact alloc_last _ _ (by simp)
  ·rw [Below.heap_alloc _ _ _ (by simp)]; exact heap_alloc_new w _
 case round =>
  obtain ⟨i, hi, rfl, hg, hw, hb⟩ := hrel
  have c0 : wr.cell? ⟨w.heap.size, 0, none⟩ = some (.bool neg) := by rw [cell_of_row wr _ _ _ _ (0, 0) hw]; rfl
  have c1 : wr.cell? ⟨w.heap.size, 1, none⟩ = some (.string s) := by rw [cell_of_row wr _ _ _ _ (0, 0) hw]; rfl
  by_cases hlt : i < N
  ·have hlt2 : i < s.size := by rw [← HN.out]; exact hlt
   have hlt3 : (i : Int) < (s.size : Int) := by omega
   obtain ⟨k, hk⟩ : ∃ k, k = N - 1 - i := ⟨_, rfl⟩
   obtain ⟨q, hq⟩ : ∃ q, q = k / 4 := ⟨_, rfl⟩
   obtain ⟨r, hr⟩ : ∃ r, r = k % 4 := ⟨_, rfl⟩
   have hNs := HN.out
   have hPN := HPN.out
   have e1 : (s.size : Int) - 1 - (i : Int) = (k : Int) := by omega
   have e2 : (k : Int) / 4 = (q : Int) := by omega
   have e3 : (k : Int) % 4 = (r : Int) := by omega
   have hr4 : r < 4 := by omega
   have hqp : q < p := by omega
   have hkk : k = 4 * q + r := by omega
   have hki : N - i = k + 1 := by omega
   have hki2 : N - (i + 1) = k := by omega
   obtain ⟨hst1, u, hst2, hst3⟩ := topB_step n k q r hkk hr4
   rw [hki] at hg
   obtain ⟨hcu, hfu⟩ := rowF_cell hg q hqp
   rw [hst2] at hcu
   have hby := HBY.out i hlt2
   rw [← hNs, ← hk] at hby
   have hdl := wd_dig (topB n k) q
   rw [hst3] at hdl
   have hor := or_part u (dig 256 n k) r hr4 (dig_lt (by omega) _ _) hdl
   rw [← hst3] at hor
   obtain ⟨x, hx⟩ : ∃ x, x = s[i].toNat := ⟨_, rfl⟩
   rw [← hby, ← hx] at hor
   obtain ⟨o, ho⟩ : ∃ o, o = u * 2 ^ (8 * r + 8) := ⟨_, rfl⟩
   rw [← ho] at hor hcu
   obtain ⟨z, hz⟩ : ∃ z, z = dig 4294967296 (topB n k) q := ⟨_, rfl⟩
   rw [← hz] at hor
   have hx256 : x < 256 := by rw [hx]; exact s[i].toNat_lt
   have hxx : (s[i].toNat : Int) = (x : Int) := by rw [hx]
   have HST1 := Lib.hid hst1
   have HZ := Lib.hid hz
   have HG := Lib.hid hg
   have HKI2 := Lib.hid hki2
   have w1 : IntKind.i64.wrap (q : Int) = (q : Int) := IntWalk.i64_in _ (by omega)
   have w2 : IntKind.i64.wrap (r : Int) = (r : Int) := IntWalk.i64_in _ (by omega)
   have w3 : IntKind.i64.wrap (8 * (r : Int)) = 8 * (r : Int) := IntWalk.i64_in _ (by omega)
   have w4 : (0 : Int) ≤ (q : Int) := by omega
   have w5 : (q : Int) < (p : Int) := by omega
   have w6 : (0 : Int) ≤ 8 * (r : Int) := by omega
   have w7 : (0 : Int) ≤ (i : Int) := by omega
   have w8 : (k : Int).tmod 4 = (r : Int) := by rw [Int.tmod_eq_emod_of_nonneg (by omega)]; omega
   have w9 : (k : Int).tdiv 4 = (q : Int) := by rw [Int.tdiv_eq_ediv_of_nonneg (by omega)]; omega
   have w10 : IntKind.u32.wrap (x : Int) = (x : Int) := by rw [IntKind.wrap_u32]; omega
   have w11 : (8 * (r : Int)).toNat = 8 * r := by omega
   clear hst1 hst2 hst3 hz ho hx hby hki hki2 hkk hg hq hr hk hNs hPN hdl
   go_wp2_with fail
   refine wp_region_line (fun w' => w'.cell? ⟨w.heap.size + 1, q, none⟩ = some (.int .u32 (o : Int)) ∧ w'.cell? ⟨w.heap.size, 1, none⟩ = some (.string s)) 16 (by kernel_rfl) ⟨hcu, c1⟩ (fun hHeld => ?_)
   refine tkT 0 (v := ?_) rfl rfl ?_ ?_
   rotate_left
   ·(intro wq hSq; (try dsimp only at hSq); go_simp; try with_reducible rfl)
   try simp only [Act.put, List.setIfInBounds_toArray, List.set_cons_zero, List.set_cons_succ]
   refine tkT 1 (v := ?_) rfl rfl ?_ ?_
   rotate_left
   ·(intro wq hSq; (try dsimp only at hSq); go_simp; try with_reducible rfl)
   try simp only [Act.put, List.setIfInBounds_toArray, List.set_cons_zero, List.set_cons_succ]
   refine tkT 2 (v := ?_) rfl rfl ?_ ?_
   rotate_left
   ·(intro wq hSq; (try dsimp only at hSq); go_simp; try with_reducible rfl)
   try simp only [Act.put, List.setIfInBounds_toArray, List.set_cons_zero, List.set_cons_succ]
   refine tkT 3 (v := ?_) rfl rfl ?_ ?_
   rotate_left
   ·(intro wq hSq; (try dsimp only at hSq); go_simp; try with_reducible rfl)
   try simp only [Act.put, List.setIfInBounds_toArray, List.set_cons_zero, List.set_cons_succ]
   refine tkT 4 (v := ?_) rfl rfl ?_ ?_
   rotate_left
   ·(intro wq hSq; (try dsimp only at hSq); go_simp; try with_reducible rfl)
   try simp only [Act.put, List.setIfInBounds_toArray, List.set_cons_zero, List.set_cons_succ]
   refine tkT 5 (v := ?_) rfl rfl ?_ ?_
   rotate_left
   ·(intro wq hSq; (try dsimp only at hSq); go_simp; try with_reducible rfl)
   try simp only [Act.put, List.setIfInBounds_toArray, List.set_cons_zero, List.set_cons_succ]
   refine tkT 6 (v := ?_) rfl rfl ?_ ?_
   rotate_left
   ·(intro wq hSq; (try dsimp only at hSq); go_simp; try with_reducible rfl)
   try simp only [Act.put, List.setIfInBounds_toArray, List.set_cons_zero, List.set_cons_succ]
   refine tkT 7 (v := ?_) rfl rfl ?_ ?_
   rotate_left
   ·(intro wq hSq; (try dsimp only at hSq); go_simp; try with_reducible rfl)
   try simp only [Act.put, List.setIfInBounds_toArray, List.set_cons_zero, List.set_cons_succ]
   refine tkT 8 (v := ?_) rfl rfl ?_ ?_
   rotate_left
   ·(intro wq hSq; (try dsimp only at hSq); go_simp; try with_reducible rfl)
   try simp only [Act.put, List.setIfInBounds_toArray, List.set_cons_zero, List.set_cons_succ]
   refine tkT 9 (v := ?_) rfl rfl ?_ ?_
   rotate_left
   ·(intro wq hSq; (try dsimp only at hSq); go_simp; try with_reducible rfl)
   try simp only [Act.put, List.setIfInBounds_toArray, List.set_cons_zero, List.set_cons_succ]
   refine tkT 10 (v := ?_) rfl rfl ?_ ?_
   rotate_left
   ·(intro wq hSq; (try dsimp only at hSq); go_simp; try with_reducible rfl)
   try simp only [Act.put, List.setIfInBounds_toArray, List.set_cons_zero, List.set_cons_succ]
   refine tkT 11 (v := ?_) rfl rfl ?_ ?_
   rotate_left
   ·(intro wq hSq; (try dsimp only at hSq); go_simp; try with_reducible rfl)
   try simp only [Act.put, List.setIfInBounds_toArray, List.set_cons_zero, List.set_cons_succ]
   refine tkT 12 (v := ?_) rfl rfl ?_ ?_
   rotate_left
   ·(intro wq hSq; (try dsimp only at hSq); go_simp; try with_reducible rfl)
   try simp only [Act.put, List.setIfInBounds_toArray, List.set_cons_zero, List.set_cons_succ]
   refine tkT 13 (v := ?_) rfl rfl ?_ ?_
   rotate_left
   ·(intro wq hSq; (try dsimp only at hSq); go_simp; try with_reducible rfl)
   try simp only [Act.put, List.setIfInBounds_toArray, List.set_cons_zero, List.set_cons_succ]
   refine tkT 14 (v := ?_) rfl rfl ?_ ?_
   rotate_left
   ·(intro wq hSq; (try dsimp only at hSq); go_simp; try with_reducible rfl)
   try simp only [Act.put, List.setIfInBounds_toArray, List.set_cons_zero, List.set_cons_succ]
   refine tkT 15 (v := ?_) rfl rfl ?_ ?_
   rotate_left
   ·(intro wq hSq; (try dsimp only at hSq); go_simp; try with_reducible rfl)
   try simp only [Act.put, List.setIfInBounds_toArray, List.set_cons_zero, List.set_cons_succ]
   refine wpAnyT_last (by kernel_rfl) (by kernel_rfl) rfl (fun K hK => ?_)
   go_simp
   refine hK.out _ _ ?_
   clear hK K hHeld
   go_wp2
   go_roundw
   case rel =>
    refine ⟨i + 1, by omega, by go_num, ?_, ?_, ((hb.setCell (by simp) _).drew)⟩
    ·rw [HKI2.out, HZ.out]
     exact rowF_set (f' := dig 4294967296 (topB n k)) HG.out (fun j _ hj => HST1.out j hj)
    ·exact (Below.heap_setCell wr ⟨w.heap.size + 1, q, none⟩ _ w.heap.size (by simp)).trans hw
   case measure => simp [intOf]; omega
  ·obtain rfl : i = N := by omega
   rw [Nat.sub_self, topB_zero] at hg
   have hNs : (s.size : Int) = (i : Int) := by rw [HN.out]
   obtain ⟨R, HR⟩ : ∃ R, Hid (R = (trimL ((List.range p).map (dig 4294967296 n))).length) := ⟨_, rfl⟩
   have HG := Lib.hid hg
   have hpp : p ≤ 100000 := by have := HPN.out; have := HN.out; omega
   have HNP : Hid (n < 4294967296 ^ p) := by
    show _ < _
    rw [pow4]
    exact Nat.lt_of_lt_of_le HNL.out (Nat.pow_le_pow_right (by omega) (by have := HPN.out; have := HN.out; omega))
   clear hg
   go_wp2_with fail
   (with_reducible refine (norm_rowF _ _ _ R HR _ _ HG.out hpp).mono ?_)
   rintro e w2 ⟨rfl, rfl⟩
   go_wp2
   rw [HP.out]
   exact num_retF HR HG.out hb (by omega) hpp HNP.out
end
/- Walks: what is appended out of a slice of another type's name. -/
section
open Go.RowKit Go.Shelf Go.WideNum
theorem append_types (P : Program) (w : World) (t u ty e : TypeId) (ht : P.underlying t = some (.slice e)) (hu : P.underlying u = some (.slice e)) (v : Value) (x : Value) :
  (Builtin.append_ #[t, u] ty #[v, x]).run P w = (Builtin.append_ #[t, t] ty #[v, x]).run P w := by
 unfold Builtin.append_
 cases v <;> simp [run_underlying ht, run_underlying hu]
theorem wpList_append_reads2 {P : Program} (w : World) {ops : Array Oper} {rest : List Oper} {o : Oper} {a : Act} {Q : Exit → Act → World → Prop} (hgd : o.guard = none) (s x : Operand) (t u : TypeId)
  (ho : o.op = .call { callee := .builtin .append, args := #[s, x], argTypes := #[t, u] })
  (base : Nat) (e : TypeId) (i : TypeInfo) (z : Value) (bytes : Nat) (ht : P.underlying t = some (.slice e)) (hu : P.underlying u = some (.slice e)) (hi : P.info? e = some i) (hz : i.zero = some z)
  (hsize : i.size = 1) (hby : i.bytes = bytes) (hzs : z.cells.size = 1)
  (v : Value) (n : Nat) (xs : List Value) (hs : a.eval s = v) (hown : w.owns base e 1 v n xs)
  (B : Nat) (xv : Value) (news : List Value) (hx : a.eval x = xv) (hr : w.reads B xv news) (h1 : ∀ u ∈ news, u.oneCell' = true)
  (h63 : n + news.length ≤ maxLen) (hbytes : (n + news.length) * bytes ≤ 140737488355328) (hbase : base ≤ w.heap.size)
  (h : ∀ v' w', w'.owns base e 1 v' (n + news.length) (xs ++ news) → w.grownBy w' v.ownBlock → wpList P ops Q rest (a.put o.dst v') w') : wpList P ops Q (o :: rest) a w := by
 refine wpList_plain hgd fun K hK => ?_
 obtain ⟨v', w', hrun, h2, h3⟩ := run_append_reads (P := P) w base t o.type e i z bytes ht hi hz hsize hby hzs v n xs hown B xv news hr h1 h63 hbytes hbase
 rw [← append_types P w t u o.type e ht hu v xv] at hrun
 unfold Oper.wp execOp
 simp only [ho, resolve, invoke, builtin, Sem.run_bind, Sem.run_pure, Result.andThen_ok, List.map_toArray, List.map_cons, List.map_nil, hs, hx, hrun]
 exact hK _ _ (h v' w' h2 h3)
end
/- Walks: a product: the number in the first words of an array. -/
section
open Go.RowKit Go.Shelf Go.WideNum
theorem one_u32 (l : List Nat) : ∀ u ∈ l.map u32V, u.oneCell' = true := fun u hu => by obtain ⟨x, _, rfl⟩ := List.mem_map.1 hu; rfl
theorem arr_len : Tryz.prog.arrayLen 125 = 134 := by kernel_rfl
theorem arr_und : Tryz.prog.underlying 125 = some (.array (Tryz.prog.arrayLen 125) (Tryz.prog.elem 125)) := by kernel_rfl
theorem arr_elem : Tryz.prog.elem 125 = 22 := by kernel_rfl
theorem slice_arr (g n : Nat) (hn : n ≤ 134) (W : World) : (Instr.sliceAt 125 (.pointer (some ⟨g, 0, none⟩)) none (some (.int .i64 (n : Int))) none).run Tryz.prog W = .ok (.slice (some ⟨g, 0, none⟩) n 134) W := by
 obtain ⟨i0, hi0, hiz, hiz1, hizb⟩ := info_parts infoU32
 rw [run_sliceAt_array_h W _ _ arr_und .i64 (n : Int) (by omega) (by rw [arr_len]; omega), arr_len, arr_elem]
 simp [sizeOf, typeInfo, hi0, hiz1, Result.andThen, slicedAt, Addr.add]
theorem whole_any (t : List Nat) (ht : t.length = 134) (hB : ∀ x ∈ t, x < 4294967296) (n : Nat) (hn : n ≤ 134) (w : World) :
  Calls Tryz.prog 94 #[.agg (t.map u32V).toArray, .int .i64 (n : Int)] w (NumRet w (valW 4294967296 (t.take n))) := by
 obtain ⟨i0, hi0, hiz, hiz1, hizb⟩ := info_parts infoU32
 obtain ⟨T, hT⟩ : ∃ T, T = (t.map u32V).toArray := ⟨_, rfl⟩
 have hTs : T.size = 134 := by rw [hT]; simp [ht]
 rw [← hT]
 obtain ⟨HPOST, hpost⟩ : ∃ X, X = NumRet w (valW 4294967296 (t.take n)) := ⟨_, rfl⟩
 rw [← hpost]
 have HP := Lib.hid hpost
 have HT := Lib.hid hT
 clear hpost hT
 have hsl := slice_arr (w.heap.size) n hn
 go_enter Tryz.func94, Tryz.ntmps94
 have hreads : ((w.alloc (.cells T 125)).alloc (.cells #[] 22)).reads (w.heap.size + 1) (.slice (some ⟨w.heap.size, 0, none⟩) n 134) ((t.take n).map u32V) := by
  refine ⟨some ⟨w.heap.size, 0, none⟩, 134, by simp [ht, Nat.min_eq_left hn], by simp, by simp [ht]; omega, by unfold maxLen; omega, fun j u hj => ⟨w.heap.size, 0, rfl, by omega, ?_⟩⟩
  rw [World.cell?_alloc_lt _ _ ⟨w.heap.size, 0 + j, none⟩ (by simp), cell_of_row _ _ _ T 125 (0, 0) (heap_alloc_new w _), HT.out, Nat.zero_add]
  have h1 : (t.map u32V)[j]? = some u := by
   rw [List.map_take, List.getElem?_take] at hj
   split at hj
   ·exact hj
   ·cases hj
  simpa using h1
 have hown0 : ((w.alloc (.cells T 125)).alloc (.cells #[] 22)).owns w.heap.size 22 1 (.slice (some ⟨w.heap.size + 1, 0, none⟩) 0 0) 0 [] :=
  ⟨rfl, .inr ⟨w.heap.size + 1, 0, #[], (0, 0), rfl, by omega, alloc_last _ _ (by simp), okFz_zero _, Nat.le_refl _, Nat.zero_le _, rfl, rfl⟩⟩
 have hl : ((t.take n).map u32V).length = n := by simp [ht, Nat.min_eq_left hn]
 have HR := Lib.hid hreads
 have HO := Lib.hid hown0
 have HL := Lib.hid hl
 have HTB := Lib.hid hB
 have HTL := Lib.hid ht
 clear hreads hown0 hl hB ht
 go_wp2_with (at_builtin; refine wpList_append_reads2 _ rfl (.tmp 5) (.tmp 7) 103 23 rfl w.heap.size 22 i0 (.int .u32 0) 4 Tryz.underlying103 Tryz.underlying23 hi0 hiz hiz1 hizb rfl (.slice (some ⟨w.heap.size + 1, 0, none⟩) 0 0) 0 [] rfl HO.out (w.heap.size + 1) (.slice (some ⟨w.heap.size, 0, none⟩) n 134) ((t.take n).map u32V) rfl HR.out (one_u32 _) (by rw [HL.out]; unfold maxLen; omega) (by rw [HL.out]; omega) (by simp; omega) ?_; intro v5 w5 hown5 hg5; have HO5 := Lib.hid hown5; have HB5 := Lib.hid ((((Below.refl _ w).alloc (Nat.le_refl _) _).alloc (by simp) _).trans ((below_grown HO.out hg5 w.heap.size (Nat.le_refl _) (by simp; omega)))); clear hown5 hg5)
 have ho6 : w5.owns w.heap.size 22 1 v5 (t.take n).length ((t.take n).map u32V) := by
  have := HO5.out
  rw [Nat.zero_add, List.nil_append, List.length_map] at this
  exact this
 have HO6 := Lib.hid ho6
 clear ho6
 have hlen : (t.take n).length ≤ 100000 := by have := HTL.out; rw [List.length_take]; omega
 (with_reducible refine (norm_own _ _ v5 w5 HO6.out hlen).mono ?_)
 rintro e w6 ⟨⟨v6, rfl, hown6⟩, rfl⟩
 have HO7 := Lib.hid hown6
 clear hown6
 go_wp2
 rw [HP.out]
 have h := HO7.out
 rw [trimL_words 4294967296 (by omega) (t.take n) (fun x hx => HTB.out x (List.mem_of_mem_take hx))] at h
 exact ⟨v6, rfl, h, HB5.out⟩
end
/- Plain: words that are set one by one; a product word by word. -/
section
open Go.WideNum
theorem valW_set (B : Nat) : ∀ (t : List Nat) (j z : Nat), j < t.length → valW B (t.set j z) + t.getD j 0 * B ^ j = valW B t + z * B ^ j
 | [], j, z, h => by simp at h
 | x :: t, 0, z, _ => by simp [valW]; omega
 | x :: t, j + 1, z, h => by
  have ih := valW_set B t j z (by simpa using h)
  simp only [List.set_cons_succ, valW, List.getD_cons_succ, Nat.pow_succ]
  have e : B * valW B (t.set j z) + t.getD j 0 * (B ^ j * B) = B * valW B t + z * (B ^ j * B) := by
   rw [show t.getD j 0 * (B ^ j * B) = B * (t.getD j 0 * B ^ j) by simp only [Nat.mul_assoc, Nat.mul_comm, Nat.mul_left_comm], show z * (B ^ j * B) = B * (z * B ^ j) by simp only [Nat.mul_assoc, Nat.mul_comm, Nat.mul_left_comm], ← Nat.mul_add, ← Nat.mul_add, ih]
  omega
theorem valW_zeros (B : Nat) : ∀ (t : List Nat), (∀ j, t.getD j 0 = 0) → valW B t = 0
 | [], _ => rfl
 | x :: t, h => by
  have h0 : x = 0 := by simpa using h 0
  have h1 := valW_zeros B t (fun j => by simpa using h (j + 1))
  rw [valW, h0, h1]; simp
theorem valW_take_zero (B : Nat) (t : List Nat) (n : Nat) (h : ∀ j, n ≤ j → t.getD j 0 = 0) : valW B (t.take n) = valW B t := by
 have h1 := valW_append B (t.take n) (t.drop n)
 rw [List.take_append_drop] at h1
 rw [h1, valW_zeros B (t.drop n) (fun j => by
  rw [List.getD_eq_getElem?_getD, List.getElem?_drop, ← List.getD_eq_getElem?_getD]; exact h _ (by omega))]
 simp
theorem getD_set (t : List Nat) (j z k : Nat) (h : j < t.length) : (t.set j z).getD k 0 = if k = j then z else t.getD k 0 := by
 rw [List.getD_eq_getElem?_getD, List.getD_eq_getElem?_getD, List.getElem?_set]
 by_cases e : j = k
 ·subst e; simp [h]
 ·rw [if_neg e, if_neg (fun h => e h.symm)]
structure MulSt (B A C i k c : Nat) (t : List Nat) (q L : Nat) : Prop where
 len : t.length = L
 low : ∀ x ∈ t, x < B
 zero : ∀ j, i + q ≤ j → t.getD j 0 = 0
 clt : c < B
 val : valW B t + c * B ^ (i + k) = A % B ^ i * C + dig B A i * B ^ i * (C % B ^ k)
theorem mem_set_lt {B : Nat} {t : List Nat} {j z : Nat} (h : ∀ x ∈ t, x < B) (hz : z < B) : ∀ x ∈ t.set j z, x < B := fun x hx => by
 rcases List.mem_or_eq_of_mem_set hx with h1 | h1
 ·exact h x h1
 ·rw [h1]; exact hz
theorem getD_lt {B : Nat} {t : List Nat} (hB : 0 < B) (h : ∀ x ∈ t, x < B) (j : Nat) : t.getD j 0 < B := by
 rw [List.getD_eq_getElem?_getD]
 cases hj : t[j]? with
 | none => simpa using hB
 | some x => simpa using h x (List.mem_of_getElem? hj)
theorem MulSt.step {B A C i k c q L : Nat} {t : List Nat} (hB : 1 < B) (h : MulSt B A C i k c t q L) (hk : k < q) (hL : i + q ≤ L) :
  c + (t.getD (i + k) 0 + dig B A i * dig B C k) < B * B ∧ MulSt B A C i (k + 1) ((c + (t.getD (i + k) 0 + dig B A i * dig B C k)) / B) (t.set (i + k) ((c + (t.getD (i + k) 0 + dig B A i * dig B C k)) % B)) q L := by
 obtain ⟨x, hx⟩ : ∃ x, x = dig B A i := ⟨_, rfl⟩
 obtain ⟨y, hy⟩ : ∃ y, y = dig B C k := ⟨_, rfl⟩
 obtain ⟨v, hv⟩ : ∃ v, v = t.getD (i + k) 0 := ⟨_, rfl⟩
 have hx2 : x < B := by rw [hx]; exact dig_lt (by omega) _ _
 have hy2 : y < B := by rw [hy]; exact dig_lt (by omega) _ _
 have hv2 : v < B := by rw [hv]; exact getD_lt (by omega) h.low _
 have hval := h.val
 have hc := h.clt
 rw [← hx] at hval
 rw [← hx, ← hy, ← hv]
 have hs : c + (v + x * y) < B * B := by
  have h1 : x * y ≤ (B - 1) * (B - 1) := Nat.mul_le_mul (by omega) (by omega)
  obtain ⟨b, rfl⟩ : ∃ b, B = b + 1 := ⟨B - 1, by omega⟩
  rw [Nat.add_sub_cancel] at h1
  have h2 : (b + 1) * (b + 1) = b * b + 2 * b + 1 := by rw [Nat.add_mul, Nat.mul_add]; omega
  omega
 obtain ⟨s, es⟩ : ∃ s, s = c + (v + x * y) := ⟨_, rfl⟩
 rw [← es] at hs ⊢
 refine ⟨hs, ⟨by rw [List.length_set]; exact h.len, mem_set_lt h.low (Nat.mod_lt _ (by omega)), fun j hj => ?_, Nat.div_lt_of_lt_mul hs, ?_⟩⟩
 ·rw [getD_set _ _ _ _ (by rw [h.len]; omega), if_neg (by omega)]; exact h.zero j hj
 ·have e1 := valW_set B t (i + k) (s % B) (by rw [h.len]; omega)
  rw [← hv] at e1
  have e2 := mod_pow_succ B C k
  rw [← hy] at e2
  rw [← hx, e2, Nat.mul_add, ← Nat.add_assoc (A % B ^ i * C), ← hval]
  have e3 : x * B ^ i * (B ^ k * y) = x * y * B ^ (i + k) := by rw [Nat.pow_add]; simp only [Nat.mul_assoc, Nat.mul_comm, Nat.mul_left_comm]
  rw [e3, show i + (k + 1) = (i + k) + 1 by omega, Nat.pow_succ]
  have e4 : s / B * (B ^ (i + k) * B) + s % B * B ^ (i + k) = s * B ^ (i + k) := by
   rw [Nat.mul_comm (B ^ (i + k)), ← Nat.mul_assoc, ← Nat.add_mul, Nat.mul_comm (s / B), Nat.div_add_mod]
  have e5 : s * B ^ (i + k) = c * B ^ (i + k) + v * B ^ (i + k) + x * y * B ^ (i + k) := by rw [es, Nat.add_mul, Nat.add_mul]; omega
  omega
theorem MulSt.row {B A C i c q L : Nat} {t : List Nat} (hB : 1 < B) (h : MulSt B A C i q c t q L) (hL : i + q < L) (hC : C < B ^ q) : MulSt B A C (i + 1) 0 0 (t.set (i + q) c) q L := by
 refine ⟨by rw [List.length_set]; exact h.len, mem_set_lt h.low h.clt, fun j hj => ?_, by omega, ?_⟩
 ·rw [getD_set _ _ _ _ (by rw [h.len]; omega), if_neg (by omega)]; exact h.zero j (by omega)
 ·have e1 := valW_set B t (i + q) c (by rw [h.len]; omega)
  rw [h.zero (i + q) (Nat.le_refl _)] at e1
  have hv := h.val
  rw [Nat.mod_eq_of_lt hC] at hv
  rw [mod_pow_succ, Nat.pow_zero, Nat.mod_one, Nat.mul_zero, Nat.add_mul, Nat.mul_comm (B ^ i)]
  omega
theorem MulSt.start {B A C q L : Nat} {t : List Nat} (hB : 1 < B) (ht : t = List.replicate L 0) : MulSt B A C 0 0 0 t q L := by
 subst ht
 refine ⟨by simp, fun x hx => by have := List.eq_of_mem_replicate hx; omega, fun j _ => ?_, by omega, ?_⟩
 ·rw [List.getD_eq_getElem?_getD]
  cases hj : (List.replicate L 0)[j]? with
  | none => rfl
  | some x => have := List.eq_of_mem_replicate (List.mem_of_getElem? hj); simpa using this
 ·rw [valW_zeros B _ (fun j => by
   rw [List.getD_eq_getElem?_getD]
   cases hj : (List.replicate L 0)[j]? with
   | none => rfl
   | some x => have := List.eq_of_mem_replicate (List.mem_of_getElem? hj); simpa using this)]
  simp [Nat.mod_one]
theorem MulSt.done {B A C i q L : Nat} {t : List Nat} (h : MulSt B A C i 0 0 t q L) (hA : A < B ^ i) : valW B (t.take (i + q)) = A * C := by
 rw [valW_take_zero B t _ h.zero]
 have := h.val
 rw [Nat.mod_eq_of_lt hA, Nat.pow_zero, Nat.mod_one] at this
 omega
end
/- Walks: the product of two numbers. -/
section
open Go.RowKit Go.Shelf Go.WideNum
theorem zero_arr : Tryz.zeroCells125 = ((List.replicate 134 0).map u32V).toArray := by kernel_rfl
theorem arr_info : (Tryz.prog.info? 125).map (·.size) = some 134 := by kernel_rfl
theorem arr_cell {W : World} {g : Nat} {t : List Nat} {T : TypeId} (h : W.heap[g]? = some (.cells (t.map u32V).toArray T)) (k : Nat) (hk : k < t.length) : W.cell? ⟨g, k, none⟩ = some (.int .u32 (t.getD k 0 : Int)) ∧ W.frozen? ⟨g, k, none⟩ = false := by
 refine ⟨?_, by simp [World.frozen?, h]⟩
 rw [cell_of_row W g k _ T (0, 0) h]
 simp [hk, u32V]
theorem arr_set {W : World} {g k : Nat} {t : List Nat} {T : TypeId} (h : W.heap[g]? = some (.cells (t.map u32V).toArray T)) (z : Nat) :
  (W.setCell ⟨g, k, none⟩ (.int .u32 (z : Int))).heap[g]? = some (.cells ((t.set k z).map u32V).toArray T) := by
 rw [List.map_set]
 simp [World.setCell, Array.getElem?_modify, h, u32V]
theorem whole_any2 (t : List Nat) (T : Array Value) (hT : Hid (T = (t.map u32V).toArray)) (ht : t.length = 134) (hB : ∀ x ∈ t, x < 4294967296) (n : Nat) (hn : n ≤ 134) (z : Int) (hz : z = (n : Int)) (w : World) :
  Calls Tryz.prog 94 #[.agg T, .int .i64 z] w (NumRet w (valW 4294967296 (t.take n))) := by
 rw [hT.out, hz]
 exact whole_any t ht hB n hn w
theorem NumRet.back {w W : World} {n : Nat} {e : Ending} {w' : World} (h : NumRet W n e w') (hb : Below w.heap.size w W) : NumRet w n e w' := by
 obtain ⟨v, rfl, ho, hb2⟩ := h
 exact ⟨v, rfl, ho.mono hb.size, hb.trans (hb2.mono hb.size)⟩
theorem times_any (A C : Nat) (va vb : Value) (w : World) (hA : w.reads w.heap.size va ((wd A).map u32V)) (hC : w.reads w.heap.size vb ((wd C).map u32V))
  (hl : (wd A).length + (wd C).length ≤ 134) :
  Calls Tryz.prog 72 #[va, vb] w (NumRet w (A * C)) := by
 obtain ⟨aa, ca, rfl, hca, hma, hsa⟩ := reads_u32 hA
 obtain ⟨ab, cb, rfl, hcb, hmb, hsb⟩ := reads_u32 hC
 clear hA hC
 obtain ⟨p, hp⟩ : ∃ n, n = (wd A).length := ⟨_, rfl⟩
 obtain ⟨q, hq⟩ : ∃ n, n = (wd C).length := ⟨_, rfl⟩
 have hva := wd_vlt A
 have hvc := wd_vlt C
 rw [← hp] at hl hca hva ⊢
 rw [← hq] at hl hcb hvc ⊢
 have HA : Hid (∀ k, k < p → ∃ b off, aa = some ⟨b, off, none⟩ ∧ b < w.heap.size ∧ w.cell? ⟨b, off + k, none⟩ = some (.int .u32 (dig 4294967296 A k : Int))) := fun k hk => hsa k _ (wd_get A k (by omega))
 have HC : Hid (∀ k, k < q → ∃ b off, ab = some ⟨b, off, none⟩ ∧ b < w.heap.size ∧ w.cell? ⟨b, off + k, none⟩ = some (.int .u32 (dig 4294967296 C k : Int))) := fun k hk => hsb k _ (wd_get C k (by omega))
 have HVA := Lib.hid hva
 have HVC := Lib.hid hvc
 clear hp hq hsa hsb hva hvc
 obtain ⟨HPOST, hpost⟩ : ∃ R, R = NumRet w (A * C) := ⟨_, rfl⟩
 rw [← hpost]
 have HP := Lib.hid hpost
 clear hpost
 go_enter Tryz.func72, Tryz.ntmps72
 go_wp2_with fail
 go_loopw [11] (fun iv wr => ∃ (i : Nat) (t : List Nat), i ≤ p ∧ iv = .int .i64 (i : Int) ∧ MulSt 4294967296 A C i 0 0 t q 134 ∧ wr.heap[w.heap.size]? = some (.cells (t.map u32V).toArray 125) ∧ Below w.heap.size w wr) (fun iv _ => p - (intOf iv).toNat)
 case atStart => exact ⟨0, List.replicate 134 0, Nat.zero_le _, rfl, MulSt.start (by omega) rfl, by rw [zero_arr]; exact heap_alloc_new w _, (Below.refl _ w).alloc (Nat.le_refl _) _⟩
 case round =>
  obtain ⟨i, t, hi, rfl, hM, hg, hb⟩ := hrel
  by_cases hlt : i < p
  ·obtain ⟨b, off, rfl, hbl, hx0⟩ := HA.out i hlt
   obtain ⟨wo, hwo⟩ : ∃ x, x = wr := ⟨_, rfl⟩
   rw [← hwo] at hg hb ⊢
   clear hwo
   have HM := Lib.hid hM
   have HG := Lib.hid hg
   have HB := Lib.hid hb
   clear hM hg hb
   go_wp2_with fail
   go_loopw [7, 16] (fun cv kv wr => ∃ (k c : Nat) (t : List Nat), k ≤ q ∧ kv = .int .i64 (k : Int) ∧ cv = .int .u64 (c : Int) ∧ MulSt 4294967296 A C i k c t q 134 ∧ wr.heap[w.heap.size]? = some (.cells (t.map u32V).toArray 125) ∧ Below w.heap.size w wr) (fun _ kv _ => q - (intOf kv).toNat)
   case atStart => exact ⟨0, 0, t, Nat.zero_le _, rfl, rfl, HM.out, HG.out, HB.out⟩
   case round =>
    obtain ⟨k, c, t2, hk, rfl, rfl, hM, hg, hb⟩ := hrel
    by_cases hkt : k < q
    ·obtain ⟨b2, off2, rfl, hbl2, hy0⟩ := HC.out k hkt
     have hx := (hb.cell (p := ⟨b, off + i, none⟩) hbl).trans hx0
     have hy := (hb.cell (p := ⟨b2, off2 + k, none⟩) hbl2).trans hy0
     obtain ⟨hs, hM2⟩ := hM.step (by omega) hkt (by omega)
     obtain ⟨hcu, hfu⟩ := arr_cell hg (i + k) (by rw [hM.len]; omega)
     have hxd := wd_dig A i
     have hyd := wd_dig C k
     have hvd := getD_lt (B := 4294967296) (by omega) hM.low (i + k)
     have hcd := hM.clt
     obtain ⟨x, ex⟩ : ∃ x, x = dig 4294967296 A i := ⟨_, rfl⟩
     obtain ⟨y, ey⟩ : ∃ x, x = dig 4294967296 C k := ⟨_, rfl⟩
     obtain ⟨v, ev⟩ : ∃ x, x = t2.getD (i + k) 0 := ⟨_, rfl⟩
     rw [← ex] at hx hs hM2 hxd
     rw [← ey] at hy hs hM2 hyd
     rw [← ev] at hcu hs hM2 hvd
     obtain ⟨m, em⟩ : ∃ m, m = x * y := ⟨_, rfl⟩
     have w1 : IntKind.u64.wrap ((x : Int) * (y : Int)) = (m : Int) := by
      rw [← Int.natCast_mul, ← em, IntKind.wrap_u64]
      rw [← em] at hs; omega
     rw [← em] at hs hM2
     obtain ⟨n1, en⟩ : ∃ n, n = v + m := ⟨_, rfl⟩
     have w2 : IntKind.u64.wrap ((v : Int) + (m : Int)) = (n1 : Int) := by rw [IntKind.wrap_u64]; omega
     rw [← en] at hs hM2
     obtain ⟨s, es⟩ : ∃ n, n = c + n1 := ⟨_, rfl⟩
     have w3 : IntKind.u64.wrap ((c : Int) + (n1 : Int)) = (s : Int) := by rw [IntKind.wrap_u64]; omega
     rw [← es] at hs hM2
     have w4 : IntKind.u64.wrap (v : Int) = (v : Int) := by rw [IntKind.wrap_u64]; omega
     have w5 : IntKind.u64.wrap (x : Int) = (x : Int) := by rw [IntKind.wrap_u64]; omega
     have w6 : IntKind.u64.wrap (y : Int) = (y : Int) := by rw [IntKind.wrap_u64]; omega
     obtain ⟨j, ej⟩ : ∃ j, j = i + k := ⟨_, rfl⟩
     have w7 : IntKind.i64.wrap ((i : Int) + (k : Int)) = (j : Int) := by rw [ej]; exact IntWalk.i64_in _ (by omega)
     have w8 : (0 : Int) ≤ (j : Int) := by omega
     have w9 : (j : Int) < 134 := by omega
     have w10 : (i : Int) < (p : Int) := by omega
     have w11 : (k : Int) < (q : Int) := by omega
     have w12 : (i : Int) + (k : Int) = (j : Int) := by omega
     have w13 : IntKind.i64.wrap (j : Int) = (j : Int) := IntWalk.i64_in _ (by omega)
     rw [← ej] at hcu hfu hM2
     have HG2 := Lib.hid hg
     have HM2 := Lib.hid hM2
     clear hx0 hy0 ex ey ev em en es ej hg hM hM2
     go_wp2_with fail
     refine wp_region_heldL (fun w' => w'.cell? ⟨w.heap.size, j, none⟩ = some (.int .u32 (v : Int)) ∧ w'.cell? ⟨b, off + i, none⟩ = some (.int .u32 (x : Int)) ∧ w'.cell? ⟨b2, off2 + k, none⟩ = some (.int .u32 (y : Int))) (by kernel_rfl) ⟨hcu, hx, hy⟩ (fun hS => ?_)
     refine tkH 0 (v := ?_) rfl ?_ ?_
     rotate_left
     ·(intro wq hSq; (try dsimp only at hSq); go_simp; try with_reducible rfl)
     try simp only [Act.put, List.setIfInBounds_toArray, List.set_cons_zero, List.set_cons_succ]
     refine tkH 1 (v := ?_) rfl ?_ ?_
     rotate_left
     ·(intro wq hSq; (try dsimp only at hSq); go_simp; try with_reducible rfl)
     try simp only [Act.put, List.setIfInBounds_toArray, List.set_cons_zero, List.set_cons_succ]
     refine tkH 2 (v := ?_) rfl ?_ ?_
     rotate_left
     ·(intro wq hSq; (try dsimp only at hSq); go_simp; try with_reducible rfl)
     try simp only [Act.put, List.setIfInBounds_toArray, List.set_cons_zero, List.set_cons_succ]
     refine tkH 3 (v := ?_) rfl ?_ ?_
     rotate_left
     ·(intro wq hSq; (try dsimp only at hSq); go_simp; try with_reducible rfl)
     try simp only [Act.put, List.setIfInBounds_toArray, List.set_cons_zero, List.set_cons_succ]
     refine tkH 4 (v := ?_) rfl ?_ ?_
     rotate_left
     ·(intro wq hSq; (try dsimp only at hSq); go_simp; try with_reducible rfl)
     try simp only [Act.put, List.setIfInBounds_toArray, List.set_cons_zero, List.set_cons_succ]
     refine tkH 5 (v := ?_) rfl ?_ ?_
     rotate_left
     ·(intro wq hSq; (try dsimp only at hSq); go_simp; try with_reducible rfl)
     try simp only [Act.put, List.setIfInBounds_toArray, List.set_cons_zero, List.set_cons_succ]
     refine tkH 6 (v := ?_) rfl ?_ ?_
     rotate_left
     ·(intro wq hSq; (try dsimp only at hSq); go_simp; try with_reducible rfl)
     try simp only [Act.put, List.setIfInBounds_toArray, List.set_cons_zero, List.set_cons_succ]
     refine tkH 7 (v := ?_) rfl ?_ ?_
     rotate_left
     ·(intro wq hSq; (try dsimp only at hSq); go_simp; try with_reducible rfl)
     try simp only [Act.put, List.setIfInBounds_toArray, List.set_cons_zero, List.set_cons_succ]
     refine tkH 8 (v := ?_) rfl ?_ ?_
     rotate_left
     ·(intro wq hSq; (try dsimp only at hSq); go_simp; try with_reducible rfl)
     try simp only [Act.put, List.setIfInBounds_toArray, List.set_cons_zero, List.set_cons_succ]
     refine tkH 9 (v := ?_) rfl ?_ ?_
     rotate_left
     ·(intro wq hSq; (try dsimp only at hSq); go_simp; try with_reducible rfl)
     try simp only [Act.put, List.setIfInBounds_toArray, List.set_cons_zero, List.set_cons_succ]
     refine tkH 10 (v := ?_) rfl ?_ ?_
     rotate_left
     ·(intro wq hSq; (try dsimp only at hSq); go_simp; try with_reducible rfl)
     try simp only [Act.put, List.setIfInBounds_toArray, List.set_cons_zero, List.set_cons_succ]
     refine tkH 11 (v := ?_) rfl ?_ ?_
     rotate_left
     ·(intro wq hSq; (try dsimp only at hSq); go_simp; try with_reducible rfl)
     try simp only [Act.put, List.setIfInBounds_toArray, List.set_cons_zero, List.set_cons_succ]
     refine tkH 12 (v := ?_) rfl ?_ ?_
     rotate_left
     ·(intro wq hSq; (try dsimp only at hSq); go_simp; try with_reducible rfl)
     try simp only [Act.put, List.setIfInBounds_toArray, List.set_cons_zero, List.set_cons_succ]
     refine tkH 13 (v := ?_) rfl ?_ ?_
     rotate_left
     ·(intro wq hSq; (try dsimp only at hSq); go_simp; try with_reducible rfl)
     try simp only [Act.put, List.setIfInBounds_toArray, List.set_cons_zero, List.set_cons_succ]
     refine tkH 14 (v := ?_) rfl ?_ ?_
     rotate_left
     ·(intro wq hSq; (try dsimp only at hSq); go_simp; try with_reducible rfl)
     try simp only [Act.put, List.setIfInBounds_toArray, List.set_cons_zero, List.set_cons_succ]
     refine tkH 15 (v := ?_) rfl ?_ ?_
     rotate_left
     ·(intro wq hSq; (try dsimp only at hSq); go_simp; try with_reducible rfl)
     try simp only [Act.put, List.setIfInBounds_toArray, List.set_cons_zero, List.set_cons_succ]
     refine tkH 16 (v := ?_) rfl ?_ ?_
     rotate_left
     ·(intro wq hSq; (try dsimp only at hSq); go_simp; try with_reducible rfl)
     try simp only [Act.put, List.setIfInBounds_toArray, List.set_cons_zero, List.set_cons_succ]
     refine tkH 17 (v := ?_) rfl ?_ ?_
     rotate_left
     ·(intro wq hSq; (try dsimp only at hSq); go_simp; try with_reducible rfl)
     try simp only [Act.put, List.setIfInBounds_toArray, List.set_cons_zero, List.set_cons_succ]
     refine tkH 18 (v := ?_) rfl ?_ ?_
     rotate_left
     ·(intro wq hSq; (try dsimp only at hSq); go_simp; try with_reducible rfl)
     try simp only [Act.put, List.setIfInBounds_toArray, List.set_cons_zero, List.set_cons_succ]
     refine tkH 19 (v := ?_) rfl ?_ ?_
     rotate_left
     ·(intro wq hSq; (try dsimp only at hSq); go_simp; try with_reducible rfl)
     try simp only [Act.put, List.setIfInBounds_toArray, List.set_cons_zero, List.set_cons_succ]
     refine tkH 20 (v := ?_) rfl ?_ ?_
     rotate_left
     ·(intro wq hSq; (try dsimp only at hSq); go_simp; try with_reducible rfl)
     try simp only [Act.put, List.setIfInBounds_toArray, List.set_cons_zero, List.set_cons_succ]
     refine wpAnyH_end (by kernel_rfl) ?_
     go_wp2_with fail
     go_roundw
     case rel =>
      refine ⟨k + 1, s / 4294967296, t2.set j (s % 4294967296), by omega, by go_num, by simp, HM2.out, ?_, (hb.setCell (by simp) _).drew⟩
      rw [show ((s : Int) % 4294967296) = ((s % 4294967296 : Nat) : Int) by omega]
      exact arr_set HG2.out _
     case measure => simp [intOf]; omega
    ·obtain rfl : k = q := by omega
     obtain ⟨hcu, hfu⟩ := arr_cell hg (i + k) (by rw [hM.len]; omega)
     have hcd := hM.clt
     have HM2 := Lib.hid (hM.row (by omega) (by omega) HVC.out)
     have HG2 := Lib.hid hg
     have w1 : (c : Int) % 4294967296 = (c : Int) := by omega
     clear hM hg
     go_wp2_with fail
     go_roundw
     case rel => exact ⟨i + 1, t2.set (i + k) c, by omega, by go_num, HM2.out, arr_set HG2.out _, hb.setCell (by simp) _⟩
     case measure => simp [intOf]; omega
  ·obtain rfl : i = p := by omega
   obtain ⟨T, hT⟩ : ∃ T, T = (t.map u32V).toArray := ⟨_, rfl⟩
   rw [← hT] at hg
   have hTs : some 134 = some T.size := by rw [hT]; simp [hM.len]
   have HT := Lib.hid hT
   have HM := Lib.hid hM
   have HG := Lib.hid hg
   have HB := Lib.hid hb
   clear hT hM hg hb
   go_wp2_with (with_reducible refine wpList_load_row rfl 125 (.tmp 5) rfl w.heap.size rfl 125 T (0, 0) _ HG.out arr_und rfl (arr_info.trans hTs) ?_)
   (with_reducible refine (whole_any2 t T HT HM.out.len HM.out.low (i + q) hl _ (by omega) wr).mono ?_)
   rintro e w2 hr
   have hr2 := hr.back HB.out
   rw [HM.out.done HVA.out] at hr2
   obtain ⟨v, rfl, ho, hb2⟩ := hr2
   have HR : Hid (NumRet w (A * C) (.returned v) w2) := ⟨v, rfl, ho, hb2⟩
   clear hr ho hb2
   go_wp2
   rw [HP.out]
   exact HR.out
end
/- Walks: the sum of two numbers. -/
section
open Go.RowKit Go.Shelf Go.WideNum
theorem plus_any (A C : Nat) (va vb : Value) (w : World) (hA : w.reads w.heap.size va ((wd A).map u32V)) (hC : w.reads w.heap.size vb ((wd C).map u32V))
  (hla : (wd A).length ≤ 2000) (hlc : (wd C).length ≤ 2000) :
  Calls Tryz.prog 108 #[va, vb] w (NumRet w (A + C)) := by
 obtain ⟨aa, ca, rfl, hca, hma, hsa⟩ := reads_u32 hA
 obtain ⟨ab, cb, rfl, hcb, hmb, hsb⟩ := reads_u32 hC
 clear hA hC
 obtain ⟨p, hp⟩ : ∃ n, n = (wd A).length := ⟨_, rfl⟩
 obtain ⟨q, hq⟩ : ∃ n, n = (wd C).length := ⟨_, rfl⟩
 have hva := wd_vlt A
 have hvc := wd_vlt C
 rw [← hp] at hla hca hva ⊢
 rw [← hq] at hlc hcb hvc ⊢
 have HA : Hid (∀ k, k < p → ∃ b off, aa = some ⟨b, off, none⟩ ∧ b < w.heap.size ∧ w.cell? ⟨b, off + k, none⟩ = some (.int .u32 (dig 4294967296 A k : Int))) := fun k hk => hsa k _ (wd_get A k (by omega))
 have HC : Hid (∀ k, k < q → ∃ b off, ab = some ⟨b, off, none⟩ ∧ b < w.heap.size ∧ w.cell? ⟨b, off + k, none⟩ = some (.int .u32 (dig 4294967296 C k : Int))) := fun k hk => hsb k _ (wd_get C k (by omega))
 have HZA : Hid (∀ k, p ≤ k → dig 4294967296 A k = 0) := fun k hk => wd_high A k (by omega)
 have HZC : Hid (∀ k, q ≤ k → dig 4294967296 C k = 0) := fun k hk => wd_high C k (by omega)
 have HVA := Lib.hid hva
 have HVC := Lib.hid hvc
 clear hp hq hsa hsb hva hvc
 obtain ⟨HPOST, hpost⟩ : ∃ R, R = NumRet w (A + C) := ⟨_, rfl⟩
 rw [← hpost]
 have HP := Lib.hid hpost
 clear hpost
 rcases Nat.lt_or_ge p q with hlt0 | hge
 ·have hge' : (p : Int) < (q : Int) := by omega
  have hge := Nat.le_of_lt hlt0
  have hmk : ∀ W : World, (Instr.makeSlice 103 (.int .i64 ((q : Int) + 1)) (.int .i64 ((q : Int) + 1))).run Tryz.prog W = .ok (.slice (some ⟨W.heap.size, 0, none⟩) (q + 1) (q + 1)) (W.alloc (.cells (zrow (q + 1)) 22)) := fun W => make_nat (q + 1) (by omega) W
  go_enter Tryz.func108, Tryz.ntmps108
  go_wp2_with fail
  go_loopw [6, 21] (fun c iv wr => ∃ k : Nat, k ≤ q ∧ iv = .int .i64 (k : Int) ∧ c = .int .u64 (carry 4294967296 C A k : Int) ∧ wr.heap[w.heap.size]? = some (.cells (fillTo (dig 4294967296 (C + A)) (q + 1) k) 22) ∧ Below w.heap.size w wr) (fun _ iv _ => q - (intOf iv).toNat)
  case atStart => exact ⟨0, Nat.zero_le _, rfl, by rw [carry_zero]; rfl, by rw [fillTo_zero]; exact heap_alloc_new w _, (Below.refl _ w).alloc (Nat.le_refl _) _⟩
  case round =>
   obtain ⟨k, hk, rfl, rfl, hgk, hb⟩ := hrel
   by_cases hlt : k < q
   ·obtain ⟨b, off, rfl, hbl, hx0⟩ := HC.out k hlt
    have hx : wr.cell? ⟨b, off + k, none⟩ = some (.int .u32 (dig 4294967296 C k : Int)) := (hb.cell (p := ⟨b, off + k, none⟩) hbl).trans hx0
    obtain ⟨u, hcu, hfu⟩ := fill_cell hgk (by omega)
    have HST := Lib.hid (add_step (B := 4294967296) (by omega) C A k)
    have hd1 := wd_dig C k
    have hd2 := wd_dig A k
    have hd3 := wd_dig (C + A) k
    have hc1 := carry_le (B := 4294967296) (by omega) C A k
    have hc2 := carry_le (B := 4294967296) (by omega) C A (k + 1)
    obtain ⟨x, ex⟩ : ∃ x, x = dig 4294967296 C k := ⟨_, rfl⟩
    obtain ⟨y, ey⟩ : ∃ x, x = dig 4294967296 A k := ⟨_, rfl⟩
    obtain ⟨z, ez⟩ : ∃ x, x = dig 4294967296 (C + A) k := ⟨_, rfl⟩
    obtain ⟨c, ec⟩ : ∃ x, x = carry 4294967296 C A k := ⟨_, rfl⟩
    obtain ⟨d, ed⟩ : ∃ x, x = carry 4294967296 C A (k + 1) := ⟨_, rfl⟩
    rw [← ex, ← ey, ← ez, ← ec, ← ed] at HST
    rw [← ex] at hx hd1
    rw [← ey] at hd2
    rw [← ez] at hd3
    rw [← ec] at hc1 ⊢
    rw [← ed] at hc2
    have EX := Lib.hid ex
    have EY := Lib.hid ey
    have EZ := Lib.hid ez
    have ED := Lib.hid ed
    have HGK := Lib.hid hgk
    clear ex ey ez ec ed hx0 hgk
    by_cases hkq : k < p
    ·obtain ⟨b2, off2, rfl, hbl2, hy0⟩ := HA.out k hkq
     have hy : wr.cell? ⟨b2, off2 + k, none⟩ = some (.int .u32 (y : Int)) := (hb.cell (p := ⟨b2, off2 + k, none⟩) hbl2).trans (by rw [hy0, EY.out])
     have hkq' : (k : Int) < (p : Int) := by omega
     have t1 : ((c : Int) + (x : Int) + (y : Int)) % 4294967296 = (z : Int) := by have := HST.out; omega
     have t2 : ((c : Int) + (x : Int) + (y : Int)) / 4294967296 = (d : Int) := by have := HST.out; omega
     clear hy0
     go_wp2_with fail
     go_roundw
     case rel => exact ⟨k + 1, by omega, by go_num, by rw [ED.out], by rw [EZ.out]; exact fill_set HGK.out, hb.setCell (by simp) _⟩
     case measure => simp [intOf]; omega
    ·have hkq' : ¬ (k : Int) < (p : Int) := by omega
     have hy0 : y = 0 := by rw [EY.out]; exact HZA.out k (by omega)
     have t1 : ((c : Int) + (x : Int)) % 4294967296 = (z : Int) := by have := HST.out; omega
     have t2 : ((c : Int) + (x : Int)) / 4294967296 = (d : Int) := by have := HST.out; omega
     clear hy0
     go_wp2_with fail
     go_roundw
     case rel => exact ⟨k + 1, by omega, by go_num, by rw [ED.out], by rw [EZ.out]; exact fill_set HGK.out, hb.setCell (by simp) _⟩
     case measure => simp [intOf]; omega
   ·obtain rfl : k = q := by omega
    obtain ⟨u, hcu, hfu⟩ := fill_cell hgk (Nat.lt_succ_self k)
    have HGK := Lib.hid hgk
    have hc1 := carry_le (B := 4294967296) (by omega) C A k
    have HZ : Hid (carry 4294967296 C A k = dig 4294967296 (C + A) k) := carry_last (by omega) C A k HVC.out (Nat.lt_of_lt_of_le HVA.out (Nat.pow_le_pow_right (by omega) hge))
    have t1 : (carry 4294967296 C A k : Int) % 4294967296 = (carry 4294967296 C A k : Int) := by omega
    have HAC : Hid (C + A < 4294967296 ^ (k + 1)) := by
     have h1 := HVC.out
     have h2 := Nat.lt_of_lt_of_le HVA.out (Nat.pow_le_pow_right (show 0 < 4294967296 by omega) hge)
     show _ < _
     rw [Nat.pow_succ]
     omega
    clear hgk
    go_wp2_with fail
    have hg2 := fill_set HGK.out
    rw [← HZ.out] at hg2
    have hb2 : Below w.heap.size w (wr.setCell ⟨w.heap.size, k, none⟩ (.int .u32 (carry 4294967296 C A k : Int))) := hb.setCell (by simp) _
    clear t1
    obtain ⟨R, HR⟩ : ∃ R, Hid (R = (trimL ((List.range (k + 1)).map (dig 4294967296 (C + A)))).length) := ⟨_, rfl⟩
    (with_reducible refine (norm_row _ _ _ R HR _ _ hg2 (by omega)).mono ?_)
    rintro e w2 ⟨rfl, rfl⟩
    go_wp2
    rw [HP.out, Nat.add_comm]
    exact num_ret HR hg2 hb2 (Nat.le_refl _) (by omega) HAC.out
 ·have hge' : ¬ (p : Int) < (q : Int) := by omega
  have hmk : ∀ W : World, (Instr.makeSlice 103 (.int .i64 ((p : Int) + 1)) (.int .i64 ((p : Int) + 1))).run Tryz.prog W = .ok (.slice (some ⟨W.heap.size, 0, none⟩) (p + 1) (p + 1)) (W.alloc (.cells (zrow (p + 1)) 22)) := fun W => make_nat (p + 1) (by omega) W
  go_enter Tryz.func108, Tryz.ntmps108
  go_wp2_with fail
  go_loopw [6, 21] (fun c iv wr => ∃ k : Nat, k ≤ p ∧ iv = .int .i64 (k : Int) ∧ c = .int .u64 (carry 4294967296 A C k : Int) ∧ wr.heap[w.heap.size]? = some (.cells (fillTo (dig 4294967296 (A + C)) (p + 1) k) 22) ∧ Below w.heap.size w wr) (fun _ iv _ => p - (intOf iv).toNat)
  case atStart => exact ⟨0, Nat.zero_le _, rfl, by rw [carry_zero]; rfl, by rw [fillTo_zero]; exact heap_alloc_new w _, (Below.refl _ w).alloc (Nat.le_refl _) _⟩
  case round =>
   obtain ⟨k, hk, rfl, rfl, hgk, hb⟩ := hrel
   by_cases hlt : k < p
   ·obtain ⟨b, off, rfl, hbl, hx0⟩ := HA.out k hlt
    have hx : wr.cell? ⟨b, off + k, none⟩ = some (.int .u32 (dig 4294967296 A k : Int)) := (hb.cell (p := ⟨b, off + k, none⟩) hbl).trans hx0
    obtain ⟨u, hcu, hfu⟩ := fill_cell hgk (by omega)
    have HST := Lib.hid (add_step (B := 4294967296) (by omega) A C k)
    have hd1 := wd_dig A k
    have hd2 := wd_dig C k
    have hd3 := wd_dig (A + C) k
    have hc1 := carry_le (B := 4294967296) (by omega) A C k
    have hc2 := carry_le (B := 4294967296) (by omega) A C (k + 1)
    obtain ⟨x, ex⟩ : ∃ x, x = dig 4294967296 A k := ⟨_, rfl⟩
    obtain ⟨y, ey⟩ : ∃ x, x = dig 4294967296 C k := ⟨_, rfl⟩
    obtain ⟨z, ez⟩ : ∃ x, x = dig 4294967296 (A + C) k := ⟨_, rfl⟩
    obtain ⟨c, ec⟩ : ∃ x, x = carry 4294967296 A C k := ⟨_, rfl⟩
    obtain ⟨d, ed⟩ : ∃ x, x = carry 4294967296 A C (k + 1) := ⟨_, rfl⟩
    rw [← ex, ← ey, ← ez, ← ec, ← ed] at HST
    rw [← ex] at hx hd1
    rw [← ey] at hd2
    rw [← ez] at hd3
    rw [← ec] at hc1 ⊢
    rw [← ed] at hc2
    have EX := Lib.hid ex
    have EY := Lib.hid ey
    have EZ := Lib.hid ez
    have ED := Lib.hid ed
    have HGK := Lib.hid hgk
    clear ex ey ez ec ed hx0 hgk
    by_cases hkq : k < q
    ·obtain ⟨b2, off2, rfl, hbl2, hy0⟩ := HC.out k hkq
     have hy : wr.cell? ⟨b2, off2 + k, none⟩ = some (.int .u32 (y : Int)) := (hb.cell (p := ⟨b2, off2 + k, none⟩) hbl2).trans (by rw [hy0, EY.out])
     have hkq' : (k : Int) < (q : Int) := by omega
     have t1 : ((c : Int) + (x : Int) + (y : Int)) % 4294967296 = (z : Int) := by have := HST.out; omega
     have t2 : ((c : Int) + (x : Int) + (y : Int)) / 4294967296 = (d : Int) := by have := HST.out; omega
     clear hy0
     go_wp2_with fail
     go_roundw
     case rel => exact ⟨k + 1, by omega, by go_num, by rw [ED.out], by rw [EZ.out]; exact fill_set HGK.out, hb.setCell (by simp) _⟩
     case measure => simp [intOf]; omega
    ·have hkq' : ¬ (k : Int) < (q : Int) := by omega
     have hy0 : y = 0 := by rw [EY.out]; exact HZC.out k (by omega)
     have t1 : ((c : Int) + (x : Int)) % 4294967296 = (z : Int) := by have := HST.out; omega
     have t2 : ((c : Int) + (x : Int)) / 4294967296 = (d : Int) := by have := HST.out; omega
     clear hy0
     go_wp2_with fail
     go_roundw
     case rel => exact ⟨k + 1, by omega, by go_num, by rw [ED.out], by rw [EZ.out]; exact fill_set HGK.out, hb.setCell (by simp) _⟩
     case measure => simp [intOf]; omega
   ·obtain rfl : k = p := by omega
    obtain ⟨u, hcu, hfu⟩ := fill_cell hgk (Nat.lt_succ_self k)
    have HGK := Lib.hid hgk
    have hc1 := carry_le (B := 4294967296) (by omega) A C k
    have HZ : Hid (carry 4294967296 A C k = dig 4294967296 (A + C) k) := carry_last (by omega) A C k HVA.out (Nat.lt_of_lt_of_le HVC.out (Nat.pow_le_pow_right (by omega) hge))
    have t1 : (carry 4294967296 A C k : Int) % 4294967296 = (carry 4294967296 A C k : Int) := by omega
    have HAC : Hid (A + C < 4294967296 ^ (k + 1)) := by
     have h1 := HVA.out
     have h2 := Nat.lt_of_lt_of_le HVC.out (Nat.pow_le_pow_right (show 0 < 4294967296 by omega) hge)
     show _ < _
     rw [Nat.pow_succ]
     omega
    clear hgk
    go_wp2_with fail
    have hg2 := fill_set HGK.out
    rw [← HZ.out] at hg2
    have hb2 : Below w.heap.size w (wr.setCell ⟨w.heap.size, k, none⟩ (.int .u32 (carry 4294967296 A C k : Int))) := hb.setCell (by simp) _
    clear t1
    obtain ⟨R, HR⟩ : ∃ R, Hid (R = (trimL ((List.range (k + 1)).map (dig 4294967296 (A + C)))).length) := ⟨_, rfl⟩
    (with_reducible refine (norm_row _ _ _ R HR _ _ hg2 (by omega)).mono ?_)
    rintro e w2 ⟨rfl, rfl⟩
    go_wp2
    rw [HP.out]
    exact num_ret HR hg2 hb2 (Nat.le_refl _) (by omega) HAC.out
end
/- Walks: the difference of two numbers. -/
section
open Go.RowKit Go.Shelf Go.WideNum
theorem wrap_sub2 (x c y z d : Nat) (h : x + 4294967296 * d = y + c + z) (hd : d ≤ 1) (hz : z < 4294967296) :
  ∃ T : Int, IntKind.u64.wrap (IntKind.u64.wrap ((x : Int) - (c : Int)) - (y : Int)) = T ∧ T % 4294967296 = (z : Int) ∧ T / 9223372036854775808 = (d : Int) := by
 refine ⟨_, rfl, ?_, ?_⟩ <;> rw [IntKind.wrap_u64, IntKind.wrap_u64] <;> rcases (show d = 0 ∨ d = 1 by omega) with rfl | rfl <;> omega
theorem wrap_sub1 (x c z d : Nat) (h : x + 4294967296 * d = c + z) (hd : d ≤ 1) (hz : z < 4294967296) :
  ∃ T : Int, IntKind.u64.wrap ((x : Int) - (c : Int)) = T ∧ T % 4294967296 = (z : Int) ∧ T / 9223372036854775808 = (d : Int) := by
 refine ⟨_, rfl, ?_, ?_⟩ <;> rw [IntKind.wrap_u64] <;> rcases (show d = 0 ∨ d = 1 by omega) with rfl | rfl <;> omega
theorem minus_any (A C : Nat) (hAC : C ≤ A) (va vb : Value) (w : World) (hA : w.reads w.heap.size va ((wd A).map u32V)) (hC : w.reads w.heap.size vb ((wd C).map u32V))
  (hla : (wd A).length ≤ 2000) (hlc : (wd C).length ≤ 2000) :
  Calls Tryz.prog 100 #[va, vb] w (NumRet w (A - C)) := by
 obtain ⟨aa, ca, rfl, hca, hma, hsa⟩ := reads_u32 hA
 obtain ⟨ab, cb, rfl, hcb, hmb, hsb⟩ := reads_u32 hC
 clear hA hC
 obtain ⟨D, rfl⟩ : ∃ D, A = C + D := ⟨A - C, by omega⟩
 rw [show C + D - C = D by omega]
 clear hAC
 obtain ⟨p, hp⟩ : ∃ n, n = (wd (C + D)).length := ⟨_, rfl⟩
 obtain ⟨q, hq⟩ : ∃ n, n = (wd C).length := ⟨_, rfl⟩
 have hva := wd_vlt (C + D)
 rw [← hp] at hla hca hva ⊢
 rw [← hq] at hlc hcb ⊢
 have HA : Hid (∀ k, k < p → ∃ b off, aa = some ⟨b, off, none⟩ ∧ b < w.heap.size ∧ w.cell? ⟨b, off + k, none⟩ = some (.int .u32 (dig 4294967296 (C + D) k : Int))) := fun k hk => hsa k _ (wd_get _ k (by omega))
 have HC : Hid (∀ k, k < q → ∃ b off, ab = some ⟨b, off, none⟩ ∧ b < w.heap.size ∧ w.cell? ⟨b, off + k, none⟩ = some (.int .u32 (dig 4294967296 C k : Int))) := fun k hk => hsb k _ (wd_get C k (by omega))
 have HZC : Hid (∀ k, q ≤ k → dig 4294967296 C k = 0) := fun k hk => wd_high C k (by omega)
 have HVA := Lib.hid hva
 clear hp hq hsa hsb hva
 obtain ⟨HPOST, hpost⟩ : ∃ R, R = NumRet w D := ⟨_, rfl⟩
 rw [← hpost]
 have HP := Lib.hid hpost
 clear hpost
 have hmk : ∀ W : World, (Instr.makeSlice 103 (.int .i64 (p : Int)) (.int .i64 (p : Int))).run Tryz.prog W = .ok (.slice (some ⟨W.heap.size, 0, none⟩) p p) (W.alloc (.cells (zrow p) 22)) := fun W => make_nat p (by omega) W
 go_enter Tryz.func100, Tryz.ntmps100
 go_wp2_with fail
 go_loopw [6, 14] (fun c iv wr => ∃ k : Nat, k ≤ p ∧ iv = .int .i64 (k : Int) ∧ c = .int .u64 (carry 4294967296 C D k : Int) ∧ wr.heap[w.heap.size]? = some (.cells (fillTo (dig 4294967296 D) p k) 22) ∧ Below w.heap.size w wr) (fun _ iv _ => p - (intOf iv).toNat)
 case atStart => exact ⟨0, Nat.zero_le _, rfl, by rw [carry_zero]; rfl, by rw [fillTo_zero]; exact heap_alloc_new w _, (Below.refl _ w).alloc (Nat.le_refl _) _⟩
 case round =>
  obtain ⟨k, hk, rfl, rfl, hgk, hb⟩ := hrel
  by_cases hlt : k < p
  ·obtain ⟨b, off, rfl, hbl, hx0⟩ := HA.out k hlt
   have hx : wr.cell? ⟨b, off + k, none⟩ = some (.int .u32 (dig 4294967296 (C + D) k : Int)) := (hb.cell (p := ⟨b, off + k, none⟩) hbl).trans hx0
   obtain ⟨u, hcu, hfu⟩ := fill_cell hgk (by omega)
   have HST := Lib.hid (add_step (B := 4294967296) (by omega) C D k)
   have hd1 := wd_dig (C + D) k
   have hd2 := wd_dig C k
   have hd3 := wd_dig D k
   have hc1 := carry_le (B := 4294967296) (by omega) C D k
   have hc2 := carry_le (B := 4294967296) (by omega) C D (k + 1)
   obtain ⟨x, ex⟩ : ∃ x, x = dig 4294967296 (C + D) k := ⟨_, rfl⟩
   obtain ⟨y, ey⟩ : ∃ x, x = dig 4294967296 C k := ⟨_, rfl⟩
   obtain ⟨z, ez⟩ : ∃ x, x = dig 4294967296 D k := ⟨_, rfl⟩
   obtain ⟨c, ec⟩ : ∃ x, x = carry 4294967296 C D k := ⟨_, rfl⟩
   obtain ⟨d, ed⟩ : ∃ x, x = carry 4294967296 C D (k + 1) := ⟨_, rfl⟩
   rw [← ex, ← ey, ← ez, ← ec, ← ed] at HST
   rw [← ex] at hx hd1
   rw [← ey] at hd2
   rw [← ez] at hd3
   rw [← ec] at hc1 ⊢
   rw [← ed] at hc2
   have EY := Lib.hid ey
   have EZ := Lib.hid ez
   have ED := Lib.hid ed
   have HGK := Lib.hid hgk
   clear ex ey ez ec ed hx0 hgk
   by_cases hkq : k < q
   ·obtain ⟨b2, off2, rfl, hbl2, hy0⟩ := HC.out k hkq
    have hy : wr.cell? ⟨b2, off2 + k, none⟩ = some (.int .u32 (y : Int)) := (hb.cell (p := ⟨b2, off2 + k, none⟩) hbl2).trans (by rw [hy0, EY.out])
    have hkq' : (k : Int) < (q : Int) := by omega
    obtain ⟨T, hT, hT1, hT2⟩ := wrap_sub2 x c y z d (by have := HST.out; omega) hc2 hd3
    clear hy0
    go_wp2_with fail
    go_roundw
    case rel => exact ⟨k + 1, by omega, by go_num, by rw [← ED.out], by rw [EZ.out]; exact fill_set HGK.out, hb.setCell (by simp) _⟩
    case measure => simp [intOf]; omega
   ·have hkq' : ¬ (k : Int) < (q : Int) := by omega
    have hy0 : y = 0 := by rw [EY.out]; exact HZC.out k (by omega)
    obtain ⟨T, hT, hT1, hT2⟩ := wrap_sub1 x c z d (by have := HST.out; omega) hc2 hd3
    clear hy0
    go_wp2_with fail
    go_roundw
    case rel => exact ⟨k + 1, by omega, by go_num, by rw [← ED.out], by rw [EZ.out]; exact fill_set HGK.out, hb.setCell (by simp) _⟩
    case measure => simp [intOf]; omega
  ·obtain rfl : k = p := by omega
   obtain ⟨R, HR⟩ : ∃ R, Hid (R = (trimL ((List.range k).map (dig 4294967296 D))).length) := ⟨_, rfl⟩
   have HGK := Lib.hid hgk
   clear hgk
   go_wp2_with fail
   (with_reducible refine (norm_row _ _ _ R HR _ _ HGK.out (by omega)).mono ?_)
   rintro e w2 ⟨rfl, rfl⟩
   go_wp2
   rw [HP.out]
   exact num_ret HR HGK.out hb (Nat.le_refl _) (by omega) (Nat.lt_of_le_of_lt (Nat.le_add_left D C) HVA.out)
end
/- Walks: a number divided by a word. -/
section
open Go.RowKit Go.Shelf Go.WideNum
def ShortRet (w : World) (A n : Nat) (e : Ending) (w' : World) : Prop := ∃ v, e = .returned (.tuple #[v, .int .u32 ((A % n : Nat) : Int)]) ∧ NumRet w (A / n) (.returned v) w'
theorem short_any (A n : Nat) (hn0 : 0 < n) (hn : n < 4294967296) (va : Value) (w : World) (hA : w.reads w.heap.size va ((wd A).map u32V)) (hla : (wd A).length ≤ 2000) :
  Calls Tryz.prog 114 #[va, .int .u32 (n : Int)] w (ShortRet w A n) := by
 obtain ⟨aa, ca, rfl, hca, hma, hsa⟩ := reads_u32 hA
 clear hA
 obtain ⟨p, hp⟩ : ∃ n, n = (wd A).length := ⟨_, rfl⟩
 have hva := wd_vlt A
 rw [← hp] at hla hca hva ⊢
 have HA : Hid (∀ k, k < p → ∃ b off, aa = some ⟨b, off, none⟩ ∧ b < w.heap.size ∧ w.cell? ⟨b, off + k, none⟩ = some (.int .u32 (dig 4294967296 A k : Int))) := fun k hk => hsa k _ (wd_get _ k (by omega))
 have HVA := Lib.hid hva
 clear hp hsa hva
 obtain ⟨HPOST, hpost⟩ : ∃ R, R = ShortRet w A n := ⟨_, rfl⟩
 rw [← hpost]
 have HP := Lib.hid hpost
 clear hpost
 have hmk : ∀ W : World, (Instr.makeSlice 103 (.int .i64 (p : Int)) (.int .i64 (p : Int))).run Tryz.prog W = .ok (.slice (some ⟨W.heap.size, 0, none⟩) p p) (W.alloc (.cells (zrow p) 22)) := fun W => make_nat p (by omega) W
 go_enter Tryz.func114, Tryz.ntmps114
 go_wp2_with fail
 go_loopw [7, 8] (fun c iv wr => ∃ k : Nat, k ≤ p ∧ iv = .int .i64 ((k : Int) - 1) ∧ c = .int .u64 ((A / 4294967296 ^ k % n : Nat) : Int) ∧ wr.heap[w.heap.size]? = some (.cells (rowF (fun j => if k ≤ j then dig 4294967296 (A / n) j else 0) p) 22) ∧ Below w.heap.size w wr) (fun _ iv _ => (intOf iv + 1).toNat)
 case atStart => exact ⟨p, Nat.le_refl _, rfl, by rw [Nat.div_eq_of_lt HVA.out, Nat.zero_mod]; rfl, by rw [rowF_congr (f' := fun _ => 0) (fun j hj => if_neg (by omega)), rowF_zero]; exact heap_alloc_new w _, (Below.refl _ w).alloc (Nat.le_refl _) _⟩
 case round =>
  obtain ⟨k, hk, rfl, rfl, hgk, hb⟩ := hrel
  cases k with
  | zero =>
   rw [rowF_congr (f' := dig 4294967296 (A / n)) (fun j hj => if_pos (Nat.zero_le j))] at hgk
   rw [Nat.pow_zero, Nat.div_one]
   obtain ⟨R, HR⟩ : ∃ R, Hid (R = (trimL ((List.range p).map (dig 4294967296 (A / n)))).length) := ⟨_, rfl⟩
   have HGK := Lib.hid hgk
   have hr := Nat.mod_lt A hn0
   obtain ⟨r, er⟩ : ∃ r, r = A % n := ⟨_, rfl⟩
   rw [← er] at hr ⊢
   have ER := Lib.hid er
   have hm : (r : Int) % 4294967296 = (r : Int) := by omega
   clear hgk er
   have h0 : ¬ (0 : Int) ≤ ((0 : Nat) : Int) - 1 := by omega
   go_wp2_with fail
   (with_reducible refine (norm_rowF _ _ _ R HR _ _ HGK.out (by omega)).mono ?_)
   rintro e w2 ⟨rfl, rfl⟩
   go_wp2
   rw [HP.out]
   rw [ER.out]
   exact ⟨_, rfl, num_retF HR HGK.out hb (Nat.le_refl _) (by omega) (Nat.lt_of_le_of_lt (Nat.div_le_self A n) HVA.out)⟩
  | succ j =>
   rw [show ((j + 1 : Nat) : Int) - 1 = (j : Int) by omega]
   obtain ⟨b, off, rfl, hbl, hx0⟩ := HA.out j (by omega)
   have hx : wr.cell? ⟨b, off + j, none⟩ = some (.int .u32 (dig 4294967296 A j : Int)) := (hb.cell (p := ⟨b, off + j, none⟩) hbl).trans hx0
   obtain ⟨hcu, hfu⟩ := rowF_cell hgk j (by omega)
   have HST := Lib.hid (short_step (B := 4294967296) (by omega) hn0 A j)
   have hd1 := wd_dig A j
   have hr := Nat.mod_lt (A / 4294967296 ^ (j + 1)) hn0
   obtain ⟨x, ex⟩ : ∃ x, x = dig 4294967296 A j := ⟨_, rfl⟩
   obtain ⟨r, er⟩ : ∃ x, x = A / 4294967296 ^ (j + 1) % n := ⟨_, rfl⟩
   rw [← ex, ← er] at HST
   rw [← ex] at hx hd1
   rw [← er] at hr ⊢
   have HOR := or_lo .u64 (Or.inl rfl) 32 r x hd1 (by simp only [if_true]; omega)
   obtain ⟨y, ey⟩ : ∃ y, y = r * 4294967296 + x := ⟨_, rfl⟩
   rw [show r * 2 ^ 32 + x = y by rw [ey]] at HOR
   have HQ : Hid (y / n = dig 4294967296 (A / n) j) := by show _ = _; rw [ey]; exact HST.out.1
   have HR2 : Hid (y % n = A / 4294967296 ^ j % n) := by show _ = _; rw [ey]; exact HST.out.2
   have hq2 : y / n < 4294967296 := by rw [HQ.out]; exact wd_dig _ _
   have hor : bits .or .u64 ((r : Int) * 4294967296) (x : Int) = (y : Int) := by rw [← HOR]; congr 1
   have hy : y < 18446744073709551616 := by rw [ey]; omega
   have HGK := Lib.hid hgk
   have HN := Lib.hid hn0
   have hne : ((n : Int) == 0) = false := by rw [beq_eq_false_iff_ne]; omega
   obtain ⟨z, ez⟩ : ∃ z, z = y / n := ⟨_, rfl⟩
   obtain ⟨m, em⟩ : ∃ m, m = y % n := ⟨_, rfl⟩
   have t1 : IntKind.u64.wrap ((y : Int) / (n : Int)) % 4294967296 = (z : Int) := by
    rw [← Int.natCast_ediv, ← ez, IntKind.wrap_u64]
    rw [← ez] at hq2
    omega
   have t2 : (y : Int) % (n : Int) = (m : Int) := by rw [em, Int.natCast_emod]
   rw [← ez] at HQ
   rw [← em] at HR2
   clear ex er ey hx0 hgk HOR ez em hq2
   go_wp2_with fail
   go_roundw
   case rel => exact ⟨j, by omega, rfl, by rw [t2, HR2.out], by
    rw [show z = (fun i => if j ≤ i then dig 4294967296 (A / n) i else 0) j by rw [HQ.out]; exact (if_pos (Nat.le_refl j)).symm]
    refine rowF_set (f' := fun i => if j ≤ i then dig 4294967296 (A / n) i else 0) HGK.out (fun i _ hi => ?_)
    show (if j + 1 ≤ i then _ else _) = (if j ≤ i then _ else _)
    by_cases h : j ≤ i
    ·rw [if_pos h, if_pos (by omega)]
    ·rw [if_neg h, if_neg (by omega)], hb.setCell (by simp) _⟩
   case measure => simp [intOf]
end
/- Walks: numbers compared, and added with signs. -/
section
open Go.RowKit Go.Shelf Go.WideNum
def cmpN (A C : Nat) : Int := if A < C then -1 else if C < A then 1 else 0
theorem valW_wd (n : Nat) : valW 4294967296 (wd n) = n := val_words (by omega) n n (Nat.le_refl _)
theorem valW_hw (n : Nat) : valW 65536 (hw n) = n := val_words (by omega) n n (Nat.le_refl _)
theorem wd_len_lt {A C : Nat} (h : (wd A).length < (wd C).length) : A < C := by
 rcases Nat.lt_or_ge A C with h1 | h1
 ·exact h1
 ·exfalso
  have h2 := words_length (B := 4294967296) (by omega) C (wd A).length (Nat.lt_of_le_of_lt h1 (wd_vlt A))
  unfold wd at h h2
  omega
theorem cmpL_wd (A C : Nat) : cmpL (wd A) (wd C) = cmpN A C := by
 unfold cmpL cmpN
 split
 ·rename_i h; rw [if_pos (wd_len_lt h)]
 ·split
  ·rename_i h1 h2
   have := wd_len_lt h2
   rw [if_neg (by omega), if_pos this]
  ·rename_i h1 h2
   have hl : (wd A).length = (wd C).length := by omega
   rw [cmpTo_val 4294967296 (by omega) (wd A) (wd C) (words_lt (by omega) _ _) (words_lt (by omega) _ _) _ (Nat.le_refl _) (by omega)]
   rw [List.take_length, hl, List.take_length, valW_wd, valW_wd]
theorem compare_num (A C : Nat) (va vb : Value) (w : World) (hA : w.reads w.heap.size va ((wd A).map u32V)) (hC : w.reads w.heap.size vb ((wd C).map u32V))
  (hla : (wd A).length ≤ 2000) (hlc : (wd C).length ≤ 2000) :
  Calls Tryz.prog 78 #[va, vb] w fun e w' => e = .returned (.int .i64 (cmpN A C)) ∧ ∃ n, w' = w.drewN n := by
 obtain ⟨aa, ca, rfl, hca, hma, hsa⟩ := reads_u32 hA
 obtain ⟨ab, cb, rfl, hcb, hmb, hsb⟩ := reads_u32 hC
 have := compare_any (wd A) (wd C) aa ab ca cb (by omega) (by omega) w (fun j x hj => by obtain ⟨b, o, h1, _, h2⟩ := hsa j x hj; exact ⟨b, o, h1, h2⟩) (fun j x hj => by obtain ⟨b, o, h1, _, h2⟩ := hsb j x hj; exact ⟨b, o, h1, h2⟩)
 rwa [cmpL_wd] at this
theorem reads_drewN {w : World} {v : Value} {xs : List Value} (h : w.reads w.heap.size v xs) (n : Nat) : (w.drewN n).reads (w.drewN n).heap.size v xs := h.drewN n
def sumS (A : Nat) (an : Bool) (C : Nat) (bn : Bool) : Bool := if an = bn then an else if A < C then bn else an
def sumN (A : Nat) (an : Bool) (C : Nat) (bn : Bool) : Nat := if an = bn then A + C else if A < C then C - A else A - C
def NumBool (w : World) (n : Nat) (s : Bool) (e : Ending) (w' : World) : Prop := ∃ v, e = .returned (.tuple #[v, .bool s]) ∧ NumRet w n (.returned v) w'
theorem NumRet.back_drew {w : World} {n k : Nat} {e : Ending} {w' : World} (h : NumRet (w.drewN k) n e w') : NumRet w n e w' := h.back (below_drewN (Below.refl _ _) k)
theorem sum_any (A C : Nat) (an bn : Bool) (va vb : Value) (w : World) (hA : w.reads w.heap.size va ((wd A).map u32V)) (hC : w.reads w.heap.size vb ((wd C).map u32V))
  (hla : (wd A).length ≤ 2000) (hlc : (wd C).length ≤ 2000) :
  Calls Tryz.prog 96 #[va, .bool an, vb, .bool bn] w (NumBool w (sumN A an C bn) (sumS A an C bn)) := by
 obtain ⟨HPOST, hpost⟩ : ∃ R, R = NumBool w (sumN A an C bn) (sumS A an C bn) := ⟨_, rfl⟩
 rw [← hpost]
 have HP := Lib.hid hpost
 have HA := Lib.hid hA
 have HC := Lib.hid hC
 clear hpost hA hC
 obtain ⟨aa, ca, rfl, -, -, -⟩ := reads_u32 HA.out
 obtain ⟨ab, cb, rfl, -, -, -⟩ := reads_u32 HC.out
 by_cases hs : an = bn
 ·subst hs
  go_enter Tryz.func96, Tryz.ntmps96
  go_wp2_with fail
  (with_reducible refine (plus_any A C _ _ w HA.out HC.out hla hlc).mono ?_)
  rintro e w1 hr
  obtain ⟨v, rfl, hr1, hr2⟩ := hr
  have HR : Hid (NumRet w (A + C) (.returned v) w1) := ⟨v, rfl, hr1, hr2⟩
  clear hr1 hr2
  go_wp2
  rw [HP.out]
  refine ⟨v, ?_, ?_⟩
  ·unfold sumS; rw [if_pos rfl]; rfl
  ·unfold sumN; rw [if_pos rfl]; exact HR.out
 ·have hne : (an == bn) = false := by rw [beq_eq_false_iff_ne]; exact hs
  obtain ⟨R, hR⟩ : ∃ R, R = cmpN A C := ⟨_, rfl⟩
  have hcmp := compare_num A C _ _ w HA.out HC.out hla hlc
  rw [← hR] at hcmp
  have HCMP := Lib.hid hcmp
  clear hcmp
  by_cases hlt : A < C
  ·have hre : R = -1 := by rw [hR, cmpN, if_pos hlt]
   subst hre
   clear hR
   go_enter Tryz.func96, Tryz.ntmps96
   go_wp2_with fail
   (with_reducible refine (HCMP.out).mono ?_)
   rintro e w1 ⟨rfl, n1, rfl⟩
   go_wp2_with fail
   (with_reducible refine (minus_any C A (Nat.le_of_lt hlt) _ _ (w.drewN n1) (reads_drewN HC.out n1) (reads_drewN HA.out n1) hlc hla).mono ?_)
   rintro e w1 hr
   obtain ⟨v, rfl, hr1, hr2⟩ := hr.back_drew
   have HR : Hid (NumRet w (C - A) (.returned v) w1) := ⟨v, rfl, hr1, hr2⟩
   clear hr hr1 hr2
   go_wp2
   rw [HP.out]
   refine ⟨v, ?_, ?_⟩
   ·unfold sumS; rw [if_neg hs, if_pos hlt]; rfl
   ·unfold sumN; rw [if_neg hs, if_pos hlt]; exact HR.out
  ·have hre : R = 0 ∨ R = 1 := by
    rw [hR, cmpN, if_neg hlt]
    split
    ·exact Or.inr rfl
    ·exact Or.inl rfl
   have hR0 : ¬ R < 0 := by omega
   clear hR hre
   go_enter Tryz.func96, Tryz.ntmps96
   go_wp2_with fail
   (with_reducible refine (HCMP.out).mono ?_)
   rintro e w1 ⟨rfl, n1, rfl⟩
   go_wp2_with fail
   (with_reducible refine (minus_any A C (by omega) _ _ (w.drewN n1) (reads_drewN HA.out n1) (reads_drewN HC.out n1) hla hlc).mono ?_)
   rintro e w1 hr
   obtain ⟨v, rfl, hr1, hr2⟩ := hr.back_drew
   have HR : Hid (NumRet w (A - C) (.returned v) w1) := ⟨v, rfl, hr1, hr2⟩
   clear hr hr1 hr2
   go_wp2
   rw [HP.out]
   refine ⟨v, ?_, ?_⟩
   ·unfold sumS; rw [if_neg hs, if_neg hlt]; rfl
   ·unfold sumN; rw [if_neg hs, if_neg hlt]; exact HR.out
end
/- Walks: a number divided by one of one word; quotients and rests from zero on. -/
section
open Go.RowKit Go.Shelf Go.WideNum
abbrev World.numR (w : World) (v : Value) (n : Nat) : Prop := w.reads w.heap.size v ((wd n).map u32V)
theorem NumRet.numR {w w' : World} {v : Value} {n : Nat} (h : NumRet w n (.returned v) w') : World.numR w' v n := by
 obtain ⟨v', e, ho, hb⟩ := h
 injection e with e
 subst e
 exact ho.reads
theorem numR_below {w w' : World} {v : Value} {n : Nat} (h : World.numR w v n) (hb : Below w.heap.size w w') : World.numR w' v n := (World.reads.below h hb).mono hb.size
theorem numR_drewN {w : World} {v : Value} {n : Nat} (h : World.numR w v n) (k : Nat) : World.numR (w.drewN k) v n := h
theorem NumRet.bel {w w' : World} {e : Ending} {n : Nat} (h : NumRet w n e w') : Below w.heap.size w w' := h.choose_spec.2.2
def DivRet (w : World) (A C : Nat) (e : Ending) (w' : World) : Prop := ∃ v u, e = .returned (.tuple #[v, u]) ∧ World.numR w' v (A / C) ∧ World.numR w' u (A % C) ∧ Below w.heap.size w w'
def DivOK (A C : Nat) : Prop := ∀ (va vb : Value) (w : World), World.numR w va A → World.numR w vb C → Calls Tryz.prog 109 #[va, vb] w (DivRet w A C)
theorem wd_len1 (C : Nat) (h0 : C ≠ 0) (h1 : C < 4294967296) : (wd C).length = 1 ∧ dig 4294967296 C 0 = C := by
 refine ⟨?_, by rw [dig_zero, Nat.mod_eq_of_lt h1]⟩
 have h2 := words_length (B := 4294967296) (by omega) C 1 (by omega)
 have h3 := words_len0 (B := 4294967296) (by omega) C
 unfold wd
 omega
theorem row_one (r : Nat) (hr : r < 4294967296) : rowF (dig 4294967296 r) 1 = #[.int .u32 (r : Int)] := by
 unfold rowF u32V
 simp [List.range_succ, dig_zero, Nat.mod_eq_of_lt hr]
theorem divide_small (A C : Nat) (hC0 : C ≠ 0) (hsm : A < C ∨ C < 4294967296) (hla : (wd A).length ≤ 2000) (hlc : (wd C).length ≤ 2000) : DivOK A C := by
 intro va vb w hA hC
 obtain ⟨HPOST, hpost⟩ : ∃ R, R = DivRet w A C := ⟨_, rfl⟩
 rw [← hpost]
 have HP := Lib.hid hpost
 have HA : Hid (World.numR w va A) := hA
 have HC : Hid (World.numR w vb C) := hC
 clear hpost
 have hcmp := compare_num A C _ _ w hA hC hla hlc
 obtain ⟨aa, ca, rfl, -, -, -⟩ := reads_u32 hA
 obtain ⟨ab, cb, rfl, -, -, hsb⟩ := reads_u32 hC
 clear hA hC
 obtain ⟨R, hR⟩ : ∃ R, R = cmpN A C := ⟨_, rfl⟩
 rw [← hR] at hcmp
 have HCMP := Lib.hid hcmp
 clear hcmp
 by_cases hlt : A < C
 ·have hre : R = -1 := by rw [hR, cmpN, if_pos hlt]
  subst hre
  clear hR hsb hsm
  go_enter Tryz.func109, Tryz.ntmps109
  go_wp2_with fail
  (with_reducible refine (HCMP.out).mono ?_)
  rintro e w1 ⟨rfl, n1, rfl⟩
  go_wp2
  rw [HP.out]
  refine ⟨.slice none 0 0, _, rfl, ?_, ?_, below_drewN (Below.refl _ _) _⟩
  ·rw [Nat.div_eq_of_lt hlt]; exact reads_nil _ _
  ·rw [Nat.mod_eq_of_lt hlt]; exact reads_drewN HA.out n1
 ·have hre : R = 0 ∨ R = 1 := by
   rw [hR, cmpN, if_neg hlt]
   split
   ·exact Or.inr rfl
   ·exact Or.inl rfl
  have hR0 : ¬ R < 0 := by omega
  have hC32 : C < 4294967296 := by omega
  obtain ⟨hl1, hd1⟩ := wd_len1 C hC0 hC32
  obtain ⟨b, off, rfl, hbl, hx0⟩ := hsb 0 C (by have := wd_get C 0 (by omega); rwa [hd1] at this)
  rw [Nat.add_zero] at hx0
  obtain ⟨q, hq⟩ : ∃ q, q = (wd C).length := ⟨_, rfl⟩
  rw [← hq] at HC HCMP hlc hl1 ⊢
  subst hl1
  have hrl := Nat.lt_trans (Nat.mod_lt A (show 0 < C by omega)) hC32
  obtain ⟨r, er⟩ : ∃ r, r = A % C := ⟨_, rfl⟩
  rw [← er] at hrl
  have hsh := fun w1 h => short_any A C (by omega) hC32 (.slice aa (wd A).length ca) w1 h hla
  have HSH : Hid (∀ w1, World.numR w1 (.slice aa (wd A).length ca) A → Calls Tryz.prog 114 #[.slice aa (wd A).length ca, .int .u32 (C : Int)] w1 (ShortRet w1 A C)) := hsh
  have HNQ := Lib.hid hq
  have HER := Lib.hid er
  have HD1 := Lib.hid hd1
  have HC0 := Lib.hid hC0
  clear hR hre hsb hsm hsh hq er hd1 hC0
  go_enter Tryz.func109, Tryz.ntmps109
  go_wp2_with fail
  (with_reducible refine (HCMP.out).mono ?_)
  rintro e w1 ⟨rfl, n1, rfl⟩
  have hx : (w.drewN n1).cell? ⟨b, off, none⟩ = some (.int .u32 (C : Int)) := hx0
  clear hx0
  go_wp2_with fail
  (with_reducible refine (HSH.out (w.drewN n1) (numR_drewN HA.out n1)).mono ?_)
  rintro e w2 ⟨v, rfl, hr⟩
  have HR1 : Hid (NumRet w (A / C) (.returned v) w2) := hr.back_drew
  rw [← HER.out]
  clear hr
  go_wp2_with fail
  have hg : (w2.alloc (.cells #[.int .u32 (r : Int)] 22)).heap[w2.heap.size]? = some (.cells (rowF (dig 4294967296 r) 1) 22) := by rw [row_one r hrl]; exact heap_alloc_new w2 _
  have HG := Lib.hid hg
  clear hg
  obtain ⟨R2, HR2⟩ : ∃ R, Hid (R = (trimL ((List.range 1).map (dig 4294967296 r))).length) := ⟨_, rfl⟩
  (with_reducible refine (norm_rowF _ _ _ R2 HR2 _ _ HG.out (by omega)).mono ?_)
  rintro e w3 ⟨rfl, rfl⟩
  have hb3 : Below w2.heap.size w2 (w2.alloc (.cells #[.int .u32 (r : Int)] 22)) := (Below.refl _ _).alloc (Nat.le_refl _) _
  have HN := Lib.hid (num_retF HR2 HG.out hb3 (Nat.le_refl _) (by omega) (by omega)).numR
  have HB3 := Lib.hid hb3
  clear hb3
  go_wp2
  rw [HP.out]
  refine ⟨v, _, rfl, ?_, ?_, ?_⟩
  ·exact numR_below HR1.out.numR HB3.out
  ·rw [← HER.out]; exact HN.out
  ·exact HR1.out.bel.trans (HB3.out.mono HR1.out.bel.size)
def floorN (A : Nat) (an : Bool) (C : Nat) : Nat := if an = true ∧ A % C ≠ 0 then A / C + 1 else A / C
def floorR (A : Nat) (an : Bool) (C : Nat) : Nat := if an = true ∧ A % C ≠ 0 then C - A % C else A % C
def FloorRet (w : World) (A : Nat) (an : Bool) (C : Nat) (bn : Bool) (e : Ending) (w' : World) : Prop := ∃ v u, e = .returned (.tuple #[v, .bool (an != bn), u]) ∧ World.numR w' v (floorN A an C) ∧ World.numR w' u (floorR A an C) ∧ Below w.heap.size w w'
end
/- Walks: quotients and rests from zero on. -/
section
open Go.RowKit Go.Shelf Go.WideNum
theorem one_new (r : Nat) (hr : r < 4294967296) (h0 : r ≠ 0) (w : World) : World.numR (w.alloc (.cells #[.int .u32 (r : Int)] 22)) (.slice (some ⟨w.heap.size, 0, none⟩) 1 1) r := by
 have h1 := wd_len1 r h0 hr
 have hw : wd r = [r] := by
  apply List.ext_getElem?
  intro i
  cases i with
  | zero => rw [wd_get r 0 (by omega), h1.2]; rfl
  | succ i => rw [List.getElem?_eq_none (by omega)]; rfl
 unfold World.numR
 rw [hw]
 have := reads_alloc_new w [u32V r] 22 1 (by simp) (by unfold maxLen; omega)
 simpa [u32V] using this
theorem DivOK.run {A C : Nat} (h : DivOK A C) (va vb : Value) (w : World) (hA : World.numR w va A) (hC : World.numR w vb C) : Calls Tryz.prog 109 #[va, vb] w (DivRet w A C) := h va vb w hA hC
theorem numR_shape {w : World} {v : Value} {n : Nat} (h : World.numR w v n) : ∃ a c, v = .slice a (wd n).length c := by
 obtain ⟨a, c, rfl, -, -, -⟩ := reads_u32 h
 exact ⟨a, c, rfl⟩
theorem wd_pos {n : Nat} (h : n ≠ 0) : 0 < (wd n).length := by
 have := words_len0 (B := 4294967296) (by omega) n
 unfold wd; omega
theorem floor_any (A C : Nat) (an bn : Bool) (hC0 : C ≠ 0) (hD : DivOK A C) (hla : (wd A).length ≤ 1000) (hlc : (wd C).length ≤ 1000) (va vb : Value) (w : World) (hA : World.numR w va A) (hC : World.numR w vb C) :
  Calls Tryz.prog 98 #[va, .bool an, vb, .bool bn] w (FloorRet w A an C bn) := by
 obtain ⟨HPOST, hpost⟩ : ∃ R, R = FloorRet w A an C bn := ⟨_, rfl⟩
 rw [← hpost]
 have HP := Lib.hid hpost
 have HA : Hid (World.numR w va A) := hA
 have HC : Hid (World.numR w vb C) := hC
 have HD : Hid (DivOK A C) := hD
 clear hpost hD
 have hqlen : (wd (A / C)).length ≤ 1000 := by
  have h1 := wd_vlt A
  have h2 := words_length (B := 4294967296) (by omega) (A / C) (wd A).length (Nat.lt_of_le_of_lt (Nat.div_le_self A C) h1)
  unfold wd at *; omega
 have hrlen : (wd (A % C)).length ≤ 1000 := by
  have h1 := wd_vlt A
  have h2 := words_length (B := 4294967296) (by omega) (A % C) (wd A).length (Nat.lt_of_le_of_lt (Nat.mod_le A C) h1)
  unfold wd at *; omega
 have HQL := Lib.hid hqlen
 have HRL := Lib.hid hrlen
 have HLC := Lib.hid hlc
 have hrc : A % C ≤ C := Nat.le_of_lt (Nat.mod_lt A (by omega))
 have HRC := Lib.hid hrc
 obtain ⟨aa, ca, rfl⟩ := numR_shape hA
 obtain ⟨ab, cb, rfl⟩ := numR_shape hC
 clear hA hC hqlen hrlen hrc
 by_cases hcond : an = true ∧ A % C ≠ 0
 ·obtain ⟨rfl, hr0⟩ := hcond
  have hrp := wd_pos hr0
  obtain ⟨Rl, hRl⟩ : ∃ Rl, Rl = (wd (A % C)).length := ⟨_, rfl⟩
  rw [← hRl] at hrp
  have hrp' : (0 : Int) < (Rl : Int) := by omega
  have HRL2 := Lib.hid hRl
  have HR0 := Lib.hid hr0
  clear hRl hr0
  go_enter Tryz.func98, Tryz.ntmps98
  go_wp2_with fail
  (with_reducible refine (HD.out.run _ _ w HA.out HC.out).mono ?_)
  rintro e w1 ⟨v, u, rfl, hq, hr, hb1⟩
  obtain ⟨va, vc, rfl⟩ := numR_shape hq
  obtain ⟨ua, uc, rfl⟩ := numR_shape hr
  rw [← HRL2.out] at hr ⊢
  have HQ : Hid (World.numR w1 (.slice va (wd (A / C)).length vc) (A / C)) := hq
  have HR : Hid (World.numR w1 (.slice ua Rl uc) (A % C)) := hr
  have HB1 := Lib.hid hb1
  clear hq hr hb1
  go_wp2_with fail
  have hb2 : Below w1.heap.size w1 (w1.alloc (.cells #[.int .u32 1] 22)) := (Below.refl _ _).alloc (Nat.le_refl _) _
  have hone : World.numR (w1.alloc (.cells #[.int .u32 1] 22)) (.slice (some ⟨w1.heap.size, 0, none⟩) 1 1) 1 := one_new 1 (by omega) (by omega) w1
  (with_reducible refine (plus_any (A / C) 1 _ _ _ (numR_below HQ.out hb2) hone (by have := HQL.out; omega) (by rw [(wd_len1 1 (by omega) (by omega)).1]; omega)).mono ?_)
  rintro e w3 hr3
  obtain ⟨v3, rfl, ho3, hb3⟩ := hr3
  have HR3 : Hid (NumRet _ (A / C + 1) (.returned v3) w3) := ⟨v3, rfl, ho3, hb3⟩
  have HB2 := Lib.hid hb2
  clear hone hb2 ho3 hb3
  have HB13 := Lib.hid (HB2.out.trans (HR3.out.bel.mono HB2.out.size))
  have HW13 := Lib.hid (HB1.out.trans (HB13.out.mono HB1.out.size))
  go_wp2_with fail
  (with_reducible refine (minus_any C (A % C) HRC.out _ _ _ (numR_below HC.out HW13.out) (numR_below HR.out HB13.out) (by have := HLC.out; omega) (by have := HRL.out; omega)).mono ?_)
  rintro e w4 hr4
  obtain ⟨v4, rfl, ho4, hb4⟩ := hr4
  have HR4 : Hid (NumRet w3 (C - A % C) (.returned v4) w4) := ⟨v4, rfl, ho4, hb4⟩
  clear ho4 hb4
  go_wp2
  rw [HP.out]
  refine bodyPost_ret (v := .tuple #[v3, .bool (true != bn), v4]) (by simp [results, Tryz.results98, go_sem]) rfl ⟨v3, v4, rfl, ?_, ?_, ?_⟩
  ·rw [floorN, if_pos ⟨rfl, HR0.out⟩]
   exact numR_below HR3.out.numR HR4.out.bel
  ·rw [floorR, if_pos ⟨rfl, HR0.out⟩]
   exact HR4.out.numR
  ·exact HW13.out.trans (HR4.out.bel.mono HW13.out.size)
 ·have hN : floorN A an C = A / C := by rw [floorN, if_neg hcond]
  have hR : floorR A an C = A % C := by rw [floorR, if_neg hcond]
  have HN := Lib.hid hN
  have HRR := Lib.hid hR
  obtain ⟨Rl, hRl⟩ : ∃ Rl, Rl = (wd (A % C)).length := ⟨_, rfl⟩
  have hcase : (an = false) ∨ (an = true ∧ Rl = 0) := by
   cases an with
   | false => exact Or.inl rfl
   | true =>
    refine Or.inr ⟨rfl, ?_⟩
    rw [hRl]
    have : A % C = 0 := by
     rcases Nat.eq_zero_or_pos (A % C) with h | h
     ·exact h
     ·exact absurd ⟨rfl, by omega⟩ hcond
    rw [this]; rfl
  have HRL2 := Lib.hid hRl
  clear hRl hN hR hcond
  rcases hcase with rfl | ⟨rfl, h0⟩
  ·go_enter Tryz.func98, Tryz.ntmps98
   go_wp2_with fail
   (with_reducible refine (HD.out.run _ _ w HA.out HC.out).mono ?_)
   rintro e w1 ⟨v, u, rfl, hq, hr, hb1⟩
   obtain ⟨va, vc, rfl⟩ := numR_shape hq
   obtain ⟨ua, uc, rfl⟩ := numR_shape hr
   rw [← HRL2.out] at hr ⊢
   have HQ : Hid (World.numR w1 (.slice va (wd (A / C)).length vc) (A / C)) := hq
   have HR : Hid (World.numR w1 (.slice ua Rl uc) (A % C)) := hr
   have HB1 := Lib.hid hb1
   clear hq hr hb1
   go_wp2
   rw [HP.out]
   refine bodyPost_ret (v := .tuple #[.slice va (wd (A / C)).length vc, .bool (false != bn), .slice ua Rl uc]) (by simp [results, Tryz.results98, go_sem]) rfl ⟨_, _, rfl, ?_, ?_, HB1.out⟩
   ·rw [HN.out]; exact HQ.out
   ·rw [HRR.out]; exact HR.out
  ·subst h0
   go_enter Tryz.func98, Tryz.ntmps98
   go_wp2_with fail
   (with_reducible refine (HD.out.run _ _ w HA.out HC.out).mono ?_)
   rintro e w1 ⟨v, u, rfl, hq, hr, hb1⟩
   obtain ⟨va, vc, rfl⟩ := numR_shape hq
   obtain ⟨ua, uc, rfl⟩ := numR_shape hr
   rw [← HRL2.out] at hr ⊢
   have HQ : Hid (World.numR w1 (.slice va (wd (A / C)).length vc) (A / C)) := hq
   have HR : Hid (World.numR w1 (.slice ua 0 uc) (A % C)) := hr
   have HB1 := Lib.hid hb1
   clear hq hr hb1
   go_wp2
   rw [HP.out]
   refine bodyPost_ret (v := .tuple #[.slice va (wd (A / C)).length vc, .bool (true != bn), .slice ua 0 uc]) (by simp [results, Tryz.results98, go_sem]) rfl ⟨_, _, rfl, ?_, ?_, HB1.out⟩
   ·rw [HN.out]; exact HQ.out
   ·rw [HRR.out]; exact HR.out
end
/- Plain: integers out of signs and absolute values. -/
section
open Go.WideNum
def zOf (neg : Bool) (n : Nat) : Int := if neg then -(n : Int) else (n : Int)
theorem zOf_natAbs (neg : Bool) (n : Nat) : (zOf neg n).natAbs = n := by unfold zOf; split <;> omega
theorem zOf_neg (neg : Bool) (n : Nat) : decide (zOf neg n < 0) = (neg && decide (n ≠ 0)) := by
 unfold zOf
 cases neg with
 | false => simp
 | true =>
  rw [if_pos rfl, Bool.true_and]
  by_cases h : n = 0
  ·subst h; rfl
  ·rw [decide_eq_true (by omega), decide_eq_true h]
theorem zOf_false (n : Nat) : zOf false n = (n : Int) := rfl
def outZ (z : Int) : Value := outB (decide (z < 0)) z.natAbs
def errZ (z : Int) : Int := outE z.natAbs
theorem outB_z (neg : Bool) (n : Nat) : outB neg n = outZ (zOf neg n) := by
 unfold outZ
 rw [zOf_natAbs, zOf_neg]
 unfold outB
 split
 ·congr 1
  cases neg <;> simp
 ·rfl
theorem outE_z (neg : Bool) (n : Nat) : outE n = errZ (zOf neg n) := by unfold errZ; rw [zOf_natAbs]
theorem outZ_in (z : Int) (h : z.natAbs < lim) : outZ z = wideV (decide (z < 0)) (magB z.natAbs) ∧ errZ z = 0 := by
 unfold outZ errZ outB outE
 rw [if_pos h, if_pos h]
 refine ⟨?_, rfl⟩
 congr 1
 by_cases hz : z < 0
 ·rw [decide_eq_true hz, decide_eq_true (by omega)]; rfl
 ·rw [decide_eq_false hz]; rfl
theorem sum_z (A : Nat) (an : Bool) (C : Nat) (bn : Bool) : zOf (sumS A an C bn) (sumN A an C bn) = zOf an A + zOf bn C := by
 unfold sumS sumN zOf
 cases an <;> cases bn <;> by_cases h : A < C <;> simp [h] <;> omega
theorem floor_z (A : Nat) (an : Bool) (C : Nat) (bn : Bool) (hC : C ≠ 0) : zOf (an != bn) (floorN A an C) = zOf an A / zOf bn C ∧ (floorR A an C : Int) = zOf an A % zOf bn C := by
 have key : zOf an A = zOf bn C * zOf (an != bn) (floorN A an C) + (floorR A an C : Int) ∧ floorR A an C < C := by
  have h1 := Nat.div_add_mod A C
  have h2 := Nat.mod_lt A (show 0 < C by omega)
  unfold floorN floorR
  by_cases hc : an = true ∧ A % C ≠ 0
  ·rw [if_pos hc, if_pos hc]
   obtain ⟨rfl, h0⟩ := hc
   refine ⟨?_, by omega⟩
   have h3 : C * (A / C + 1) = C * (A / C) + C := by rw [Nat.mul_add, Nat.mul_one]
   have h4 : (C : Int) * ((A / C + 1 : Nat) : Int) = ((C * (A / C) + C : Nat) : Int) := by rw [← h3, Int.natCast_mul]
   unfold zOf
   cases bn
   ·simp only [if_true, Bool.true_bne, Bool.not_false, Bool.false_eq_true, if_false]
    rw [Int.mul_neg, h4]; omega
   ·simp only [if_true, Bool.true_bne, Bool.not_true, Bool.false_eq_true, if_false]
    rw [Int.neg_mul, h4]; omega
  ·rw [if_neg hc, if_neg hc]
   refine ⟨?_, h2⟩
   have h4 : (C : Int) * ((A / C : Nat) : Int) = ((C * (A / C) : Nat) : Int) := by rw [Int.natCast_mul]
   unfold zOf
   cases an
   ·cases bn
    ·simp only [bne_self_eq_false, Bool.false_eq_true, if_false]; rw [h4]; omega
    ·simp only [Bool.false_bne, if_true, Bool.false_eq_true, if_false]; rw [Int.neg_mul_neg, h4]; omega
   ·have h0 : A % C = 0 := by
     rcases Nat.eq_zero_or_pos (A % C) with h | h
     ·exact h
     ·exact absurd ⟨rfl, by omega⟩ hc
    cases bn
    ·simp only [Bool.true_bne, Bool.not_false, if_true, Bool.false_eq_true, if_false]; rw [Int.mul_neg, h4]; omega
    ·simp only [bne_self_eq_false, Bool.false_eq_true, if_true, if_false]; rw [Int.neg_mul, h4]; omega
 obtain ⟨k1, k2⟩ := key
 cases bn with
 | false =>
  have := (Int.ediv_emod_unique (a := zOf an A) (b := zOf false C) (r := (floorR A an C : Int)) (q := zOf (an != false) (floorN A an C)) (by rw [zOf_false]; omega)).2 ⟨by omega, by omega, by rw [zOf_false]; omega⟩
  exact ⟨this.1.symm, this.2.symm⟩
 | true =>
  have hz : zOf true C = -(C : Int) := rfl
  have := (Int.ediv_emod_unique' (a := zOf an A) (b := zOf true C) (r := (floorR A an C : Int)) (q := zOf (an != true) (floorN A an C)) (by rw [hz]; omega)).2 ⟨by omega, by omega, by rw [hz]; omega⟩
  exact ⟨this.1.symm, this.2.symm⟩
def zV (neg : Bool) (s : ByteArray) : Int := zOf neg (numB s)
theorem valid_spec (neg : Bool) (s : ByteArray) (h : validB neg s = true) : numB s < lim ∧ magB (numB s) = s ∧ (neg = true → numB s ≠ 0) ∧ s.size ≤ 256 := by
 unfold validB at h
 by_cases h0 : s.size = 0
 ·rw [dif_pos h0] at h
  have hse : s = ⟨#[]⟩ := by
   apply ByteArray.ext
   exact Array.eq_empty_of_size_eq_zero h0
  subst hse
  refine ⟨lim_pos, rfl, fun hn => ?_, by decide⟩
  rw [hn] at h; cases h
 ·rw [dif_neg h0] at h
  simp only [Bool.and_eq_true, decide_eq_true_eq] at h
  obtain ⟨h1, h2⟩ := h
  have hl : 0 < s.data.toList.length := by show 0 < s.data.size; exact Nat.pos_of_ne_zero h0
  have hhead : s.data.toList.head? ≠ some 0 := by
   intro hh
   rw [List.head?_eq_getElem?, List.getElem?_eq_getElem hl] at hh
   injection hh with hh
   exact h1 hh
  have hm := magL_valM s.data.toList hhead
  have hmb : magB (numB s) = s := by
   unfold magB numB
   rw [hm]
  refine ⟨?_, hmb, fun _ hz => ?_, h2⟩
  ·unfold lim
   exact Nat.lt_of_lt_of_le (valM_lt s.data.toList) (Nat.pow_le_pow_right (by omega) h2)
  ·rw [hz] at hmb
   have : s.size = 0 := by rw [← hmb]; rfl
   exact h0 this
theorem wd_len65 {n : Nat} (h : n < lim) : (wd n).length ≤ 64 := by
 unfold wd
 refine words_length (by omega) n 64 ?_
 rw [pow4]
 exact h
end
/- Wide integers: helpers and walks, in one text (WD1 WM8 WD2 HeldD WM9 WD3 WD4). -/
/- Walks: the form of an integer. -/
section
open Go.RowKit Go.Shelf Go.WideNum
theorem two_new (x y : Nat) (w : World) : (w.alloc (.cells #[.int .u32 (x : Int), .int .u32 (y : Int)] 22)).reads (w.alloc (.cells #[.int .u32 (x : Int), .int .u32 (y : Int)] 22)).heap.size (.slice (some ⟨w.heap.size, 0, none⟩) 2 2) ([x, y].map u32V) := by
 have := reads_alloc_new w [u32V x, u32V y] 22 2 (by simp) (by unfold maxLen; omega)
 simpa [u32V] using this
theorem lim_big : 18446744073709551616 < lim := by
 unfold lim
 have h : (256 : Nat) ^ 9 ≤ 256 ^ 256 := Nat.pow_le_pow_right (by omega) (by omega)
 have h2 : (256 : Nat) ^ 9 = 4722366482869645213696 := by decide
 omega
theorem wide_set {W : World} {g : Nat} {u0 u1 : Value} (h : W.heap[g]? = some (.cells #[u0, u1] 40)) (neg : Bool) (s : ByteArray) :
  ((W.setCell ⟨g, 0, none⟩ (.bool neg)).setCell ⟨g, 1, none⟩ (.string s)).heap[g]? = some (.cells #[.bool neg, .string s] 40) := by
 simp [World.setCell, Array.getElem?_modify, h]
theorem wide_cells {W : World} {g : Nat} {neg : Bool} {s : ByteArray} (h : W.heap[g]? = some (.cells #[.bool neg, .string s] 40)) :
  W.cell? ⟨g, 0, none⟩ = some (.bool neg) ∧ W.cell? ⟨g, 1, none⟩ = some (.string s) ∧ ∀ o, W.frozen? ⟨g, o, none⟩ = false :=
 ⟨by rw [cell_of_row W _ _ _ _ (0, 0) h]; rfl, by rw [cell_of_row W _ _ _ _ (0, 0) h]; rfl, fun o => by simp [World.frozen?, h]⟩
theorem Of_any (n : Int) (h1 : -9223372036854775808 ≤ n) (h2 : n < 9223372036854775808) (w : World) :
  Calls Tryz.prog 42 #[.int .i64 n] w fun e w' => e = .returned (outZ n) ∧ Below w.heap.size w w' := by
 obtain ⟨m, hm⟩ : ∃ m, m = n.natAbs := ⟨_, rfl⟩
 obtain ⟨lo, hlo⟩ : ∃ lo, lo = m % 4294967296 := ⟨_, rfl⟩
 obtain ⟨hi, hhi⟩ : ∃ hi, hi = m / 4294967296 := ⟨_, rfl⟩
 have hv : valW 4294967296 [lo, hi] = m := by simp only [valW]; omega
 have hil : hi < 4294967296 := by omega
 have hlim : n.natAbs < lim := by have := lim_big; omega
 obtain ⟨nb, hnb⟩ : ∃ nb, nb = decide (n < 0) := ⟨_, rfl⟩
 have hz : zOf nb m = n := by
  rw [hnb, hm]; unfold zOf
  by_cases h : n < 0
  ·rw [decide_eq_true h, if_pos rfl]; omega
  ·rw [decide_eq_false h]; simp; omega
 have hform : ∀ (a : Option Addr) (W : World), W.reads W.heap.size (.slice a 2 2) ([lo, hi].map u32V) → Calls Tryz.prog 68 #[.slice a 2 2, .bool nb] W fun e w' => e = .returned (.tuple #[wideV nb (magB m), .int .i64 0]) ∧ Below W.heap.size W w' := by
  intro a W hr
  have := form_any [lo, hi] (by simp; omega) (by simp) nb (.slice a 2 2) W hr
  rw [hv] at this
  refine this.mono ?_
  rintro e w' ⟨rfl, hb⟩
  refine ⟨?_, hb⟩
  rw [outB_z nb, outE_z nb, hz, (outZ_in n hlim).1, (outZ_in n hlim).2, ← hnb, ← hm]
 have HF := Lib.hid hform
 have hout : outZ n = wideV nb (magB m) := by rw [(outZ_in n hlim).1, ← hnb, ← hm]
 rw [hout]
 obtain ⟨S, hS⟩ : ∃ S, S = magB m := ⟨_, rfl⟩
 rw [← hS] at HF ⊢
 unfold wideV at HF ⊢
 have t3 : (m : Int) % 4294967296 = (lo : Int) := by omega
 have t4 : (m : Int) / 4294967296 % 4294967296 = (hi : Int) := by omega
 by_cases hn : n < 0
 ·obtain ⟨a, ha⟩ : ∃ a : Nat, (a : Int) = n + 18446744073709551616 := ⟨(n + 18446744073709551616).toNat, by omega⟩
  have t1 : IntKind.u64.wrap n = (a : Int) := by rw [IntKind.wrap_u64]; omega
  have t2 : IntKind.u64.wrap (-(a : Int)) = (m : Int) := by rw [IntKind.wrap_u64]; omega
  have hnb2 : nb = true := by rw [hnb]; exact decide_eq_true hn
  subst hnb2
  clear hnb ha hm hlo hhi hv hform hout hS hlim hz h1 h2
  go_enter Tryz.func42, Tryz.ntmps42
  go_wp2_with fail
  have hb0 : Below w.heap.size w ((w.alloc (.cells #[.bool false, .string ⟨#[]⟩] 40)).alloc (.cells #[.int .u32 (lo : Int), .int .u32 (hi : Int)] 22)) := ((Below.refl _ w).alloc (Nat.le_refl _) _).alloc (by simp) _
  have hg0 : ((w.alloc (.cells #[.bool false, .string ⟨#[]⟩] 40)).alloc (.cells #[.int .u32 (lo : Int), .int .u32 (hi : Int)] 22)).heap[w.heap.size]? = some (.cells #[.bool false, .string ⟨#[]⟩] 40) := by
   rw [Below.heap_alloc _ _ _ (by simp)]; exact heap_alloc_new w _
  have htw := two_new lo hi (w.alloc (.cells #[.bool false, .string ⟨#[]⟩] 40))
  have esz : (w.alloc (.cells #[.bool false, .string ⟨#[]⟩] 40)).heap.size = w.heap.size + 1 := World.size_alloc _ _
  simp only [esz] at htw
  clear esz
  generalize (w.alloc (.cells #[.bool false, .string ⟨#[]⟩] 40)).alloc (.cells #[.int .u32 (lo : Int), .int .u32 (hi : Int)] 22) = W1 at hb0 hg0 htw ⊢
  have hsz := hb0.size
  have hlt1 := lt_of_heap hg0
  (with_reducible refine (HF.out _ W1 htw).mono ?_)
  rintro e w3 ⟨rfl, hb3⟩
  have hg3 := (hb3.block _ hlt1).trans hg0
  have hsz3 := hb3.size
  have c0 : w3.cell? ⟨w.heap.size, 0, none⟩ = some (.bool false) := by rw [cell_of_row w3 _ _ _ _ (0, 0) hg3]; rfl
  have c1 : w3.cell? ⟨w.heap.size, 1, none⟩ = some (.string ⟨#[]⟩) := by rw [cell_of_row w3 _ _ _ _ (0, 0) hg3]; rfl
  have f0 : ∀ o, w3.frozen? ⟨w.heap.size, o, none⟩ = false := fun o => by simp [World.frozen?, hg3]
  have hsl : w.heap.size < w3.heap.size := by omega
  have hsn : ¬ w.heap.size = w3.heap.size := by omega
  have hsn2 : ¬ w3.heap.size = w.heap.size := by omega
  have HB := Lib.hid (hb0.trans (hb3.mono hsz))
  clear hg0 hb0 htw hb3 hlt1 hsz hsz3
  go_wp2
  have hg9 : (((w3.setCell ⟨w.heap.size, 0, none⟩ (.bool true)).setCell ⟨w.heap.size, 1, none⟩ (.string S)).alloc (.cells #[.bool true, .string S] 40)).heap[w.heap.size]? = some (.cells #[.bool true, .string S] 40) := by
   rw [Below.heap_alloc _ _ _ (by simp; omega)]; exact wide_set hg3 true S
  obtain ⟨d0, d1, -⟩ := wide_cells hg9
  have hb9 : Below w.heap.size w (((w3.setCell ⟨w.heap.size, 0, none⟩ (.bool true)).setCell ⟨w.heap.size, 1, none⟩ (.string S)).alloc (.cells #[.bool true, .string S] 40)) := ((HB.out.setCell (by simp) _).setCell (by simp) _).alloc (by simp; omega) _
  generalize ((w3.setCell ⟨w.heap.size, 0, none⟩ (.bool true)).setCell ⟨w.heap.size, 1, none⟩ (.string S)).alloc (.cells #[.bool true, .string S] 40) = W9 at d0 d1 hb9 ⊢
  exact bodyPost_ret (v := .agg #[.bool true, .string S]) (by simp [results, Tryz.results42, go_sem, d0, d1]) rfl ⟨rfl, hb9⟩
 ·have t1 : IntKind.u64.wrap n = (m : Int) := by rw [IntKind.wrap_u64]; omega
  have t5 : (m : Int) / 4294967296 = (hi : Int) := by omega
  have t1b : n % 18446744073709551616 = (m : Int) := by omega
  have hnb2 : nb = false := by rw [hnb]; exact decide_eq_false hn
  subst hnb2
  have hnm : n = (m : Int) := by omega
  subst hnm
  clear hnb hm hlo hhi hv hform hout hS hlim hz h1 h2
  go_enter Tryz.func42, Tryz.ntmps42
  go_wp2_with fail
  have hb0 : Below w.heap.size w ((w.alloc (.cells #[.bool false, .string ⟨#[]⟩] 40)).alloc (.cells #[.int .u32 (lo : Int), .int .u32 (hi : Int)] 22)) := ((Below.refl _ w).alloc (Nat.le_refl _) _).alloc (by simp) _
  have hg0 : ((w.alloc (.cells #[.bool false, .string ⟨#[]⟩] 40)).alloc (.cells #[.int .u32 (lo : Int), .int .u32 (hi : Int)] 22)).heap[w.heap.size]? = some (.cells #[.bool false, .string ⟨#[]⟩] 40) := by
   rw [Below.heap_alloc _ _ _ (by simp)]; exact heap_alloc_new w _
  have htw := two_new lo hi (w.alloc (.cells #[.bool false, .string ⟨#[]⟩] 40))
  have esz : (w.alloc (.cells #[.bool false, .string ⟨#[]⟩] 40)).heap.size = w.heap.size + 1 := World.size_alloc _ _
  simp only [esz] at htw
  clear esz
  generalize (w.alloc (.cells #[.bool false, .string ⟨#[]⟩] 40)).alloc (.cells #[.int .u32 (lo : Int), .int .u32 (hi : Int)] 22) = W1 at hb0 hg0 htw ⊢
  have hsz := hb0.size
  have hlt1 := lt_of_heap hg0
  (with_reducible refine (HF.out _ W1 htw).mono ?_)
  rintro e w3 ⟨rfl, hb3⟩
  have hg3 := (hb3.block _ hlt1).trans hg0
  have hsz3 := hb3.size
  have c0 : w3.cell? ⟨w.heap.size, 0, none⟩ = some (.bool false) := by rw [cell_of_row w3 _ _ _ _ (0, 0) hg3]; rfl
  have c1 : w3.cell? ⟨w.heap.size, 1, none⟩ = some (.string ⟨#[]⟩) := by rw [cell_of_row w3 _ _ _ _ (0, 0) hg3]; rfl
  have f0 : ∀ o, w3.frozen? ⟨w.heap.size, o, none⟩ = false := fun o => by simp [World.frozen?, hg3]
  have hsl : w.heap.size < w3.heap.size := by omega
  have hsn : ¬ w.heap.size = w3.heap.size := by omega
  have hsn2 : ¬ w3.heap.size = w.heap.size := by omega
  have HB := Lib.hid (hb0.trans (hb3.mono hsz))
  clear hg0 hb0 htw hb3 hlt1 hsz hsz3
  go_wp2
  have hg9 : (((w3.setCell ⟨w.heap.size, 0, none⟩ (.bool false)).setCell ⟨w.heap.size, 1, none⟩ (.string S)).alloc (.cells #[.bool false, .string S] 40)).heap[w.heap.size]? = some (.cells #[.bool false, .string S] 40) := by
   rw [Below.heap_alloc _ _ _ (by simp; omega)]; exact wide_set hg3 false S
  obtain ⟨d0, d1, -⟩ := wide_cells hg9
  have hb9 : Below w.heap.size w (((w3.setCell ⟨w.heap.size, 0, none⟩ (.bool false)).setCell ⟨w.heap.size, 1, none⟩ (.string S)).alloc (.cells #[.bool false, .string S] 40)) := ((HB.out.setCell (by simp) _).setCell (by simp) _).alloc (by simp; omega) _
  generalize ((w3.setCell ⟨w.heap.size, 0, none⟩ (.bool false)).setCell ⟨w.heap.size, 1, none⟩ (.string S)).alloc (.cells #[.bool false, .string S] 40) = W9 at d0 d1 hb9 ⊢
  exact bodyPost_ret (v := .agg #[.bool false, .string S]) (by simp [results, Tryz.results42, go_sem, d0, d1]) rfl ⟨rfl, hb9⟩
end
/- Plain: decimal texts. -/
/- Walks: the integer of a text. -/
section
open Go.RowKit Go.Shelf Go.WideNum
theorem below_via {a b c : World} (h : Below a.heap.size a b) (k : Below b.heap.size b c) : Below a.heap.size a c := h.trans (k.mono h.size)
theorem form_num (n : Nat) (neg : Bool) (v : Value) (w : World) (h : World.numR w v n) (hl : (wd n).length ≤ 2000) : Calls Tryz.prog 68 #[v, .bool neg] w (FormRet w neg n) := by
 have := form_any (wd n) (words_lt (by omega) n n) hl neg v w h
 rwa [valW_wd] at this
end
/- Moves of a walk through a region that draws its order: reads first, then several stores in one order. -/
end Go.Proofs.YtkjlfjnncdkmlaaGreat
namespace Go
open RowKit
section
variable {P : Program} {ops : Array Oper} {Q : Exit → Act → World → Prop} {S : World → Prop} {late : Nat → Bool}
def wpAnyD (P : Program) (ops : Array Oper) (Q : Exit → Act → World → Prop) (S : World → Prop) (late : Nat → Bool) : Nat → Array Bool → Act → World → Prop
 | 0, listed, a, w => Region.ready .any ops listed = [] ∧ Q .normal a w
 | fuel + 1, listed, a, w =>
  (Region.ready .any ops listed = [] → Q .normal a w) ∧
  ∀ i ∈ Region.ready .any ops listed, wpOp P ops Q i (fun a' w' => (late i = false → S w → S w') ∧ wpAnyD P ops Q S late fuel (listed.setIfInBounds i true) a' w') a w
theorem wpAny_of_D : ∀ (fuel : Nat) (listed : Array Bool) (a : Act) (w : World), wpAnyD P ops Q S late fuel listed a w → wpAny P .any ops Q fuel listed a w
 | 0, _, _, _, h => h
 | fuel + 1, _, _, _, h => ⟨h.1, fun i hi => wpOp_mono (fun a' w' h' => wpAny_of_D fuel _ a' w' h'.2) (h.2 i hi)⟩
def waitsB (ops : Array Oper) (late : Nat → Bool) (i : Nat) : Bool := (List.range ops.size).all fun j => !late j || ((ops[j]?).map fun o => o.after.any fun e => Region.binds .any e && e.on == i).getD false
theorem late_listed {i j : Nat} {listed : Array Bool} (hw : waitsB ops late i = true) (hl : late j = true) (hr : j ∈ Region.ready .any ops listed) : listed.getD i false = true := by
 rw [mem_ready] at hr
 obtain ⟨-, oL, hoL, h3⟩ := hr
 have hj : j < ops.size := by
  rcases Nat.lt_or_ge j ops.size with h | h
  ·exact h
  ·rw [Array.getElem?_eq_none h] at hoL; cases hoL
 unfold waitsB at hw
 rw [List.all_eq_true] at hw
 have h4 := hw j (List.mem_range.2 hj)
 rw [hl, hoL, Option.map_some, Option.getD_some, Bool.not_true, Bool.false_or, Array.any_eq_true] at h4
 obtain ⟨k, hk, h5⟩ := h4
 rw [Bool.and_eq_true] at h5
 have h6 := h3 _ (Array.getElem_mem hk) h5.1
 rw [beq_iff_eq.1 h5.2] at h6
 exact h6
theorem wpAnyD_first {i : Nat} {oi : Oper} {v : Value} (hw : waitsB ops late i = true) (hi : ops[i]? = some oi) (hsel : ∀ (j : Nat) (o : Oper) cs b, ops[j]? = some o → o.op ≠ .select cs b)
  (hQ : ∀ c a w, Q (.panic c) (a.put oi.dst v) w → Q (.panic c) a w) :
  ∀ (fuel : Nat) (listed : Array Bool) (a : Act) (w : World),
   (∀ j oj, ops[j]? = some oj → j ≠ i → listed.getD j true = false → (∀ e ∈ oj.after, Region.binds .any e = true → e.on ≠ i) → oi.apart ops oj = true) →
   i ∈ Region.ready .any ops listed → YieldsIf P ops S oi v a → S w →
   wpAnyD P ops Q S late fuel (listed.setIfInBounds i true) (a.put oi.dst v) w → wpAnyD P ops Q S late (fuel + 1) listed a w := by
 intro fuel
 induction fuel with
 | zero =>
  intro listed a w _ hr hy hS H
  refine ⟨fun h => (by rw [h] at hr; cases hr), fun j hj => ?_⟩
  by_cases hji : j = i
  ·subst hji; exact hy.wpOp hi hS ⟨fun _ h => h, H⟩
  ·have := ready_mono hj hji
   rw [H.1] at this
   cases this
 | succ fuel ih =>
  intro listed a w hfree hr hy hS H
  refine ⟨fun h => (by rw [h] at hr; cases hr), fun j hj => ?_⟩
  by_cases hji : j = i
  ·subst hji; exact hy.wpOp hi hS ⟨fun _ h => h, H⟩
  ·have hjL : late j = false := by
    cases hl : late j with
    | false => rfl
    | true => exact (unlisted_not (mem_ready.1 hr).1 (late_listed hw hl hj)).elim
   have h1 := H.2 j (ready_mono hj hji)
   obtain ⟨hjun, oj, hoj, hall⟩ := mem_ready.1 hj
   have hnot : ∀ e ∈ oj.after, Region.binds .any e = true → e.on ≠ i := fun e he hb heq => by
    have h1 := hall e he hb
    rw [heq] at h1
    exact unlisted_not (mem_ready.1 hr).1 h1
   have h2 := wpOp_putIf hoj (hfree j oj hoj hji hjun hnot) (fun cs b => hsel i oi cs b hi) (fun cs b => hsel j oj cs b hoj) hQ hy h1
   have hfree' : ∀ k ok, ops[k]? = some ok → k ≠ i → (listed.setIfInBounds j true).getD k true = false →
     (∀ e ∈ ok.after, Region.binds .any e = true → e.on ≠ i) → oi.apart ops ok = true := fun k ok hk hki hun hno => by
    refine hfree k ok hk hki ?_ hno
    by_cases hjk : j = k
    ·subst hjk; exact hjun
    ·rw [getD_set_ne true hjk] at hun; exact hun
   refine wpOp_mono (fun a' w' h3 => ⟨h3.2.1, ih (listed.setIfInBounds j true) a' w' hfree' (ready_mono hr (Ne.symm hji)) h3.1 (h3.2.1 hjL hS) ?_⟩) h2
   rw [Array.setIfInBounds_comm _ _ hji]
   exact h3.2.2
theorem wpAnyD_firstW {i : Nat} {oi : Oper} {v : Value} (hi : ops[i]? = some oi) (hsel : ∀ (j : Nat) (o : Oper) cs b, ops[j]? = some o → o.op ≠ .select cs b)
  (hQ : ∀ c a w, Q (.panic c) (a.put oi.dst v) w → Q (.panic c) a w) :
  ∀ (fuel : Nat) (listed : Array Bool) (a : Act) (w : World),
   (∀ j oj, ops[j]? = some oj → j ≠ i → listed.getD j true = false → (∀ e ∈ oj.after, Region.binds .any e = true → e.on ≠ i) → oi.apart ops oj = true) →
   i ∈ Region.ready .any ops listed → YieldsIf P ops (fun _ => True) oi v a →
   wpAnyD P ops Q S late fuel (listed.setIfInBounds i true) (a.put oi.dst v) w → wpAnyD P ops Q S late (fuel + 1) listed a w := by
 intro fuel
 induction fuel with
 | zero =>
  intro listed a w _ hr hy H
  refine ⟨fun h => (by rw [h] at hr; cases hr), fun j hj => ?_⟩
  by_cases hji : j = i
  ·subst hji; exact hy.wpOp hi trivial ⟨fun _ h => h, H⟩
  ·have := ready_mono hj hji
   rw [H.1] at this
   cases this
 | succ fuel ih =>
  intro listed a w hfree hr hy H
  refine ⟨fun h => (by rw [h] at hr; cases hr), fun j hj => ?_⟩
  by_cases hji : j = i
  ·subst hji; exact hy.wpOp hi trivial ⟨fun _ h => h, H⟩
  ·have h1 := H.2 j (ready_mono hj hji)
   obtain ⟨hjun, oj, hoj, hall⟩ := mem_ready.1 hj
   have hnot : ∀ e ∈ oj.after, Region.binds .any e = true → e.on ≠ i := fun e he hb heq => by
    have h1 := hall e he hb
    rw [heq] at h1
    exact unlisted_not (mem_ready.1 hr).1 h1
   have h2 := wpOp_putIf (S := fun _ => True) hoj (hfree j oj hoj hji hjun hnot) (fun cs b => hsel i oi cs b hi) (fun cs b => hsel j oj cs b hoj) hQ hy h1
   have hfree' : ∀ k ok, ops[k]? = some ok → k ≠ i → (listed.setIfInBounds j true).getD k true = false →
     (∀ e ∈ ok.after, Region.binds .any e = true → e.on ≠ i) → oi.apart ops ok = true := fun k ok hk hki hun hno => by
    refine hfree k ok hk hki ?_ hno
    by_cases hjk : j = k
    ·subst hjk; exact hjun
    ·rw [getD_set_ne true hjk] at hun; exact hun
   refine wpOp_mono (fun a' w' h3 => ⟨h3.2.1, ih (listed.setIfInBounds j true) a' w' hfree' (ready_mono hr (Ne.symm hji)) h3.1 ?_⟩) h2
   rw [Array.setIfInBounds_comm _ _ hji]
   exact h3.2.2
theorem wpAnyD_take (i : Nat) {oi : Oper} {v : Value} {fuel : Nat} {listed : Array Bool} {a : Act} {w : World} (hr : (Region.ready .any ops listed).contains i = true) (hw : waitsB ops late i = true) (hi : ops.toList[i]? = some oi)
  (hs : Region.noSelect ops = true) (hf : Region.free .any ops listed i = true)
  (hQ : ∀ c a w, Q (.panic c) (a.put oi.dst v) w → Q (.panic c) a w) (hy : YieldsIf P ops S oi v a) (hS : S w)
  (h : wpAnyD P ops Q S late fuel (listed.setIfInBounds i true) (a.put oi.dst v) w) : wpAnyD P ops Q S late (fuel + 1) listed a w :=
 wpAnyD_first hw (by simpa using hi) (Region.noSelect_spec hs) hQ fuel listed a w (Region.free_spec (by simpa using hi) hf) (by simpa using hr) hy hS h
theorem wpAnyD_takeW (i : Nat) {oi : Oper} {v : Value} {fuel : Nat} {listed : Array Bool} {a : Act} {w : World} (hr : (Region.ready .any ops listed).contains i = true) (hi : ops.toList[i]? = some oi)
  (hs : Region.noSelect ops = true) (hf : Region.free .any ops listed i = true)
  (hQ : ∀ c a w, Q (.panic c) (a.put oi.dst v) w → Q (.panic c) a w) (hy : YieldsIf P ops (fun _ => True) oi v a)
  (h : wpAnyD P ops Q S late fuel (listed.setIfInBounds i true) (a.put oi.dst v) w) : wpAnyD P ops Q S late (fuel + 1) listed a w :=
 wpAnyD_firstW (by simpa using hi) (Region.noSelect_spec hs) hQ fuel listed a w (Region.free_spec (by simpa using hi) hf) (by simpa using hr) hy h
theorem tkD (i : Nat) {oi : Oper} {v : Value} {fuel : Nat} {listed : Array Bool} {a : Act} {w : World} (hi : ops.toList[i]? = some oi) (hrun : ∀ w, S w → (execOp a.eval oi).run P w = .ok (.value v) w)
  (h : wpAnyD P ops Q S late fuel (listed.setIfInBounds i true) (a.put oi.dst v) w) (hr : (Region.ready .any ops listed).contains i = true := by kernel_rfl) (hs : Region.noSelect ops = true := by kernel_rfl) (hf : Region.free .any ops listed i = true := by kernel_rfl) (hQ : ∀ c a w, Q (.panic c) (a.put oi.dst v) w → Q (.panic c) a w := by exact fun _ _ _ h => h) (hw : Region.wanted oi (yielded ops a.tmps) = true := by rfl) (hwt : waitsB ops late i = true := by kernel_rfl) (hS : S w := by assumption) : wpAnyD P ops Q S late (fuel + 1) listed a w :=
 wpAnyD_take i hr hwt hi hs hf hQ (Or.inl ⟨hw, hrun⟩) hS h
theorem tkW (i : Nat) {oi : Oper} {v : Value} {fuel : Nat} {listed : Array Bool} {a : Act} {w : World} (hi : ops.toList[i]? = some oi) (hrun : ∀ w, True → (execOp a.eval oi).run P w = .ok (.value v) w)
  (h : wpAnyD P ops Q S late fuel (listed.setIfInBounds i true) (a.put oi.dst v) w) (hr : (Region.ready .any ops listed).contains i = true := by kernel_rfl) (hs : Region.noSelect ops = true := by kernel_rfl) (hf : Region.free .any ops listed i = true := by kernel_rfl) (hQ : ∀ c a w, Q (.panic c) (a.put oi.dst v) w → Q (.panic c) a w := by exact fun _ _ _ h => h) (hw : Region.wanted oi (yielded ops a.tmps) = true := by rfl) : wpAnyD P ops Q S late (fuel + 1) listed a w :=
 wpAnyD_takeW i hr hi hs hf hQ (Or.inl ⟨hw, hrun⟩) h
theorem wpAnyD_step (i : Nat) {o : Oper} {fuel : Nat} {listed : Array Bool} {a : Act} {w : World} (hr : Region.ready .any ops listed = [i]) (hl : late i = true) (ho : ops.toList[i]? = some o)
  (h : ∀ K' : Act → World → Prop, Shut (∀ a w, wpAnyD P ops Q S late fuel (listed.setIfInBounds i true) a w → K' a w) → if Region.wanted o (yielded ops a.tmps) = true then Oper.wp P o a w K' Q else K' (a.put o.dst undef) w) :
  wpAnyD P ops Q S late (fuel + 1) listed a w := by
 refine ⟨fun h0 => (by rw [hr] at h0; cases h0), fun j hj => ?_⟩
 rw [hr] at hj
 obtain rfl : j = i := by simpa using hj
 exact wpOp_step (by simpa using ho) (fun K' hK => h K' (fun a w hW => hK a w ⟨fun h => (by rw [hl] at h; cases h), hW⟩))
theorem wpAnyD_end {fuel : Nat} {listed : Array Bool} {a : Act} {w : World} (hr : Region.ready .any ops listed = []) (h : Q .normal a w) : wpAnyD P ops Q S late fuel listed a w := by
 cases fuel with
 | zero => exact ⟨hr, h⟩
 | succ fuel => exact ⟨fun _ => h, by rw [hr]; simp⟩
theorem wp_region_late {id : Nat} {a : Act} {w : World} (S : World → Prop) (late : Nat → Bool) (hm : P.follows .mixedOrders = true) (hS : S w.drew)
  (h : S w.drew → wpAnyD P ops Q S late ops.size (Array.replicate ops.size false) a w.drew) : (Code.region id ops true).wp P Q a w :=
 wp_region_any hm (wpAny_of_D _ _ _ _ (h hS))
end
end Go
/- Plain: decimal digits, nine at a time; a row that is turned round. -/
/- Walks: the decimal text of a form. -/
namespace Go.Proofs.YtkjlfjnncdkmlaaGreat
section
open Go.RowKit Go.Shelf Go.WideNum
def u8V (x : Nat) : Value := .int .u8 (x : Int)
theorem app_u8 {ops : Array Oper} {rest : List Oper} {o : Oper} {a : Act} {Q : Exit → Act → World → Prop} (W : World) (hg : o.guard = none) (s x : Operand)
  (hop : o.op = .call { callee := .builtin .append, args := #[s, x], argTypes := #[98, 98] })
  (base : Nat) (v : Value) (n : Nat) (xs : List Value) (hs : a.eval s = v) (hown : W.owns base 5 1 v n xs) (u : Int) (H : Nat) (hH : W.heap.size = H) (hx : a.eval x = .slice (some ⟨H, 0, none⟩) 1 1)
  (hn : n ≤ 1000000) (hbase : base ≤ W.heap.size)
  (h : ∀ v' w', w'.owns base 5 1 v' (n + 1) (xs ++ [.int .u8 u]) → W.grownBy w' v.ownBlock → W.heap.size < w'.heap.size → wpList Tryz.prog ops Q rest (a.put o.dst v') w') : wpList Tryz.prog ops Q (o :: rest) a (W.alloc (.cells #[.int .u8 u] 5)) := by
 obtain ⟨i0, hi, hz, h1, h2⟩ := info_parts infoByte
 exact wpList_append1 W hg s x 98 hop base 5 i0 (.int .u8 0) 1 Tryz.underlying98 hi hz h1 h2 rfl v n xs hs hown (.int .u8 u) H hH hx rfl (by unfold maxLen; omega) (by omega) hbase (fun v' w' h1 _ h3 h4 => h v' w' h1 h3 h4)
theorem own_string {W : World} {base g n c : Nat} {l : List Nat} (h : W.owns base 5 1 (.slice (some ⟨g, 0, none⟩) n c) n (l.map u8V)) (hl : ∀ x ∈ l, x < 256) (dst : TypeId) (hd : Tryz.prog.underlying dst = some .string) :
  (convert 98 dst (.slice (some ⟨g, 0, none⟩) n c)).run Tryz.prog W = .ok (.string ⟨(l.map UInt8.ofNat).toArray⟩) W := by
 have hn : l.length = n := by have := h.1; simpa using this
 have e : l.map u8V = (l.map UInt8.ofNat).map fun b => Value.int .u8 (b.toNat : Int) := by
  rw [List.map_map]
  apply List.map_congr_left
  intro x hx
  show Value.int .u8 (x : Int) = Value.int .u8 (((UInt8.ofNat x).toNat : Nat) : Int)
  rw [UInt8.toNat_ofNat', Nat.mod_eq_of_lt (hl x hx)]
 rw [e] at h
 have h2 := run_owns_string (P := Tryz.prog) (w := W) (m := n) 98 dst 5 Tryz.underlying98 Tryz.underlying5 hd h (by simp [hn]) c
 rw [List.take_of_length_le (by simp [hn])] at h2
 exact h2
theorem Valid_wide (neg : Bool) (s : ByteArray) (hs : s.size ≤ maxLen) (w : World) :
  Calls Tryz.prog 93 #[.agg #[.bool neg, .string s]] w fun e w' => e = .returned (.bool (validB neg s)) ∧ Below w.heap.size w w' := Valid_any neg s hs w
theorem of_wide (neg : Bool) (s : ByteArray) (hs : s.size ≤ 2000) (w : World) : Calls Tryz.prog 73 #[.agg #[.bool neg, .string s]] w (NumRet w (numB s)) := of_any neg s hs w
theorem owns_fz {W : World} {base g n c : Nat} {e : TypeId} {xs : List Value} (h : W.owns base e 1 (.slice (some ⟨g, 0, none⟩) n c) n xs) (j : Nat) (hj : j < n) : W.frozen? ⟨g, j, none⟩ = false := by
 rcases h.2 with ⟨h0, _⟩ | ⟨g', cap, cur, fz, hv, hb, hg, hf, hle, hm, hs, _⟩
 ·cases h0
 ·injection hv with h1 h2 h3
  injection h1 with h1
  injection h1 with h1
  subst h1 h3
  have := hf j (by omega)
  simp [World.frozen?, hg]
  omega
end
/- Walks: whether forms are valid, positive, too long. -/
section
open Go.RowKit Go.Shelf Go.WideNum
def World.forms (w : World) (g : Nat) (L : List (Bool × ByteArray)) : Prop := ∀ k x, L[k]? = some x → w.cell? ⟨g, 2 * k, none⟩ = some (.bool x.1) ∧ w.cell? ⟨g, 2 * k + 1, none⟩ = some (.string x.2)
theorem forms_below {w w' : World} {g : Nat} {L : List (Bool × ByteArray)} (h : World.forms w g L) (hg : g < w.heap.size) (hb : Below w.heap.size w w') : World.forms w' g L := fun k x hk =>
 ⟨(hb.cell (p := ⟨g, 2 * k, none⟩) hg).trans (h k x hk).1, (hb.cell (p := ⟨g, 2 * k + 1, none⟩) hg).trans (h k x hk).2⟩
theorem valid_any (L : List (Bool × ByteArray)) (g : Nat) (hL : L.length ≤ 10) (hs : ∀ x ∈ L, x.2.size ≤ maxLen) (w : World) (hg : World.forms w g L) (hgl : g < w.heap.size) :
  Calls Tryz.prog 71 #[.slice (some ⟨g, 0, none⟩) L.length L.length] w fun e w' => e = .returned (.bool (L.all fun x => validB x.1 x.2)) ∧ Below w.heap.size w w' := by
 obtain ⟨R, hR⟩ : ∃ R, R = L.all fun x => validB x.1 x.2 := ⟨_, rfl⟩
 rw [← hR]
 obtain ⟨n, hn⟩ : ∃ n, n = L.length := ⟨_, rfl⟩
 rw [← hn] at hL ⊢
 have HR := Lib.hid hR
 have HN := Lib.hid hn
 have HG : Hid (World.forms w g L) := hg
 have HS := Lib.hid hs
 clear hR hn hg hs
 go_enter Tryz.func71, Tryz.ntmps71
 go_wp2_with fail
 go_loopw [7] (fun iv wr => ∃ k : Nat, k ≤ n ∧ iv = .int .i64 (k : Int) ∧ Hid ((L.take k).all (fun x => validB x.1 x.2) = true) ∧ Hid (Below w.heap.size w wr)) (fun iv _ => n - (intOf iv).toNat)
 case atStart => exact ⟨0, Nat.zero_le _, rfl, rfl, Below.refl _ _⟩
 case round =>
  obtain ⟨k, hk, rfl, hT, hB⟩ := hrel
  by_cases hlt : k < n
  ·have hx : L[k]? = some (L[k]'(by rw [← HN.out]; exact hlt)) := List.getElem?_eq_getElem _
   obtain ⟨x, ex⟩ : ∃ x, x = L[k]'(by rw [← HN.out]; exact hlt) := ⟨_, rfl⟩
   rw [← ex] at hx
   obtain ⟨c0, c1⟩ := forms_below HG.out hgl hB.out k x hx
   have hs63 : x.2.size ≤ maxLen := HS.out x (List.mem_of_getElem? hx)
   have hts : (L.take (k + 1)).all (fun x => validB x.1 x.2) = ((L.take k).all (fun x => validB x.1 x.2) && validB x.1 x.2) := by
    rw [List.take_add_one, hx, List.all_append]; simp
   have HTS := Lib.hid hts
   have HX := Lib.hid hx
   have ek2 : k * 2 + 1 = 2 * k + 1 := by omega
   have ek3 : k * 2 = 2 * k := by omega
   have hszb := hB.out.size
   have HVAL : Hid (∀ W : World, Calls Tryz.prog 93 #[.agg #[.bool x.1, .string x.2]] W fun e w' => e = .returned (.bool (validB x.1 x.2)) ∧ Below W.heap.size W w') := Valid_wide x.1 x.2 hs63
   clear hts hx ex hs63
   obtain ⟨x1, x2⟩ := x
   dsimp only at c0 c1
   cases hv : validB x1 x2 with
   | false =>
    have hre : R = false := by
     rw [HR.out, Bool.eq_false_iff]
     intro h
     have := List.all_eq_true.1 h _ (List.mem_of_getElem? HX.out)
     rw [hv] at this; cases this
    subst hre
    dsimp only at HVAL
    rw [hv] at HVAL
    clear hv
    go_wp2_with fail
    (with_reducible refine (HVAL.out _).mono ?_)
    rintro e w3 ⟨rfl, hb3⟩
    have HB3 := Lib.hid (hB.out.trans (((Below.refl wr.heap.size wr).alloc (Nat.le_refl _) (.cells #[.bool x1, .string x2] 40)).trans (hb3.mono (by simp)) |>.mono hszb))
    clear hb3
    go_wp2
    go_ret
    exact ⟨rfl, HB3.out⟩
   | true =>
    dsimp only at HVAL HTS
    rw [hv] at HVAL HTS
    clear hv
    go_wp2_with fail
    (with_reducible refine (HVAL.out _).mono ?_)
    rintro e w3 ⟨rfl, hb3⟩
    have HB3 := Lib.hid (hB.out.trans (((Below.refl wr.heap.size wr).alloc (Nat.le_refl _) (.cells #[.bool x1, .string x2] 40)).trans (hb3.mono (by simp)) |>.mono hszb))
    clear hb3
    go_wp2
    go_roundw
    case rel => exact ⟨k + 1, by omega, by go_num, by show _ = _; rw [HTS.out, hT.out]; rfl, HB3.out⟩
    case measure => simp [intOf]; omega
  ·obtain rfl : k = n := by omega
   have hre : R = true := by
    rw [HR.out]
    have := hT.out
    rwa [HN.out, List.take_length] at this
   subst hre
   go_wp2
   go_ret
   exact ⟨rfl, hB.out⟩
theorem str_facts (s : ByteArray) (h0 : s.size ≠ 0) : ¬ s = (⟨#[]⟩ : ByteArray) ∧ s.toList.isEmpty = false := by
 refine ⟨fun h => h0 (by rw [h]; rfl), ?_⟩
 rw [ByteArray.toList_eq]
 cases hl : s.data.toList with
 | nil =>
  exfalso
  apply h0
  show s.data.size = 0
  rw [← Array.length_toList, hl]; rfl
 | cons a l => rfl
theorem str_empty (s : ByteArray) (h0 : s.size = 0) : s = ⟨#[]⟩ := by
 apply ByteArray.ext
 exact Array.eq_empty_of_size_eq_zero h0
def posB (neg : Bool) (s : ByteArray) : Bool := validB neg s && (decide (s.size ≠ 0) && !neg)
theorem positive_any (neg : Bool) (s : ByteArray) (hs : s.size ≤ maxLen) (w : World) :
  Calls Tryz.prog 97 #[.agg #[.bool neg, .string s]] w fun e w' => e = .returned (.bool (posB neg s)) ∧ Below w.heap.size w w' := by
 have HVAL : Hid (∀ W : World, Calls Tryz.prog 93 #[.agg #[.bool neg, .string s]] W fun e w' => e = .returned (.bool (validB neg s)) ∧ Below W.heap.size W w') := Valid_wide neg s hs
 obtain ⟨R, hR⟩ : ∃ R, R = posB neg s := ⟨_, rfl⟩
 rw [← hR]
 unfold posB at hR
 have hb0 := (Below.refl w.heap.size w).alloc (Nat.le_refl _) (.cells #[.bool neg, .string s] 40)
 have HB0 := Lib.hid hb0
 clear hb0
 cases hv : validB neg s with
 | false =>
  rw [hv] at HVAL hR
  have hre : R = false := hR
  subst hre
  clear hv hR
  go_enter Tryz.func97, Tryz.ntmps97
  go_wp2_with fail
  (with_reducible refine (HVAL.out _).mono ?_)
  rintro e w3 ⟨rfl, hb3⟩
  have HB3 := Lib.hid (HB0.out.trans (hb3.mono (by simp)))
  clear hb3
  go_wp2
  go_ret
  exact ⟨rfl, HB3.out⟩
 | true =>
  rw [hv, Bool.true_and] at hR
  rw [hv] at HVAL
  clear hv
  by_cases h0 : s.size = 0
  ·have hre : R = false := by rw [hR, decide_eq_false (by omega)]; rfl
   obtain rfl := str_empty s h0
   subst hre
   clear hR h0
   go_enter Tryz.func97, Tryz.ntmps97
   go_wp2_with fail
   (with_reducible refine (HVAL.out _).mono ?_)
   rintro e w3 ⟨rfl, hb3⟩
   obtain ⟨c0, c1, f0⟩ := wide_cells ((hb3.block w.heap.size (by simp)).trans (heap_alloc_new w _))
   have HB3 := Lib.hid (HB0.out.trans (hb3.mono (by simp)))
   clear hb3
   go_wp2
   go_ret
   exact ⟨rfl, HB3.out⟩
  ·obtain ⟨hns, hem⟩ := str_facts s h0
   have hre : R = !neg := by rw [hR, decide_eq_true (by omega)]; rfl
   subst hre
   clear hR h0
   go_enter Tryz.func97, Tryz.ntmps97
   go_wp2_with fail
   (with_reducible refine (HVAL.out _).mono ?_)
   rintro e w3 ⟨rfl, hb3⟩
   obtain ⟨c0, c1, f0⟩ := wide_cells ((hb3.block w.heap.size (by simp)).trans (heap_alloc_new w _))
   have HB3 := Lib.hid (HB0.out.trans (hb3.mono (by simp)))
   clear hb3
   go_wp2
   go_ret
   exact ⟨rfl, HB3.out⟩
end
/- Walks: whether two elements are alike (the program's). -/
namespace G
open Go.RowKit Go.Shelf Go.BigFrame
theorem checkE (N pr pw wt er : Int) (cv : Value) (chain : List Nat) (sp : Nat) (level : Int) (special : Bool) (rv : Value) (rows : List (List Nat)) (w : World) (hr : w.reads w.heap.size cv (chain.map u32V)) (hrow : w.rows u32V w.heap.size rv rows) :
  Calls Tryz.prog 16 #[.agg #[.int .i64 N, .int .u32 pr, .int .i64 pw, cv, .int .u32 (sp : Int), .int .i64 wt, .int .u32 er], .agg #[.int .i64 level, .bool special, rv]] w (ErrPost (checkB N chain sp level special rows) w) :=
 Check_any N pr pw wt er cv chain sp level special rv rows w hr hrow
end G
/- Walks: the digits of an element. -/
/- Walks: the digits of an element, or the error. -/
/- Plain: the digits of a restricted element are the first ones. -/
/- Plain: what is cut is put together again, and no digit is greater than the bound. -/
/- What the functions answer that make an element, or refuse: the two ways. -/
namespace G
open Go.RowKit Go.Shelf Go.BigFrame
theorem owns_empty (w : World) (e : TypeId) : (w.alloc (.cells #[] e)).owns w.heap.size e 1 (.slice (some ⟨w.heap.size, 0, none⟩) 0 0) 0 [] :=
 ⟨rfl, .inr ⟨w.heap.size, 0, #[], (0, 0), rfl, Nat.le_refl _, heap_alloc_new w _, okFz_zero _, Nat.le_refl _, Nat.zero_le _, rfl, rfl⟩⟩
end G
/- Plain laws of Joins and Times. -/
/- Plain: what the reference puts together is what the program does. -/
/- Plain: products modulo x^n + 1 commute; digits, times the weights, are the integer; what the law on products says. -/
namespace G
open Go.RowKit Go.Shelf Go.BigFrame
/-! ### The digits, times their weights -/
theorem getD_map_resN (q : Nat) (l : List Int) (j : Nat) (hj : j < l.length) : (l.map (resN q)).getD j 0 = resN q (l.getD j 0) := by
 simp [List.getD_eq_getElem?_getD, hj]
theorem resN_back (q : Nat) (hq : 0 < q) (x : Int) : ∃ u, (resN q x : Int) = x + (q : Int) * u := by
 obtain ⟨t, ht⟩ := resN_spec q hq x
 exact ⟨-t, by rw [Int.mul_neg]; omega⟩
end G
/- Plain: what the functions make passes the check. -/
namespace G
open Go.RowKit Go.Shelf Go.BigFrame
theorem intRows_ok {n : Nat} {ml : List Nat} (hq : ∀ q ∈ ml, 0 < q) (l : List Int) (hl : l.length = n) : EltOk n ml (intRows ml l) := by
 unfold intRows
 refine ⟨by simp, fun i r hr => ?_⟩
 rw [List.getElem?_map] at hr
 cases hq' : ml[i]? with
 | none => rw [hq'] at hr; cases hr
 | some q =>
  rw [hq', Option.map_some] at hr
  obtain rfl : l.map (resN q) = r := by injection hr
  refine ⟨by simp [hl], q, rfl, fun x hx => ?_⟩
  rw [List.mem_map] at hx
  obtain ⟨z, _, rfl⟩ := hx
  exact resN_lt q _ (hq q (List.mem_of_getElem? hq'))
end G
/- Plain: products modulo x^n + 1 are associative; automorphisms. -/
namespace G
def eN (n e t : Nat) : Int := if e % (2 * n) = t then 1 else if e % (2 * n) = t + n then -1 else 0
end G
/- Plain: rows of residues of integers; what the laws of the ring say of them. -/
/- Walks: the rows of sums and differences. -/
/- Walks: the rows of products. -/
/- Walks: the reference's residue, and its elements of integers. -/
/- Walks: the reference's sum of elements. -/
namespace G
open Go.RowKit Go.Shelf Go.BigFrame
def MadeElt (lv : Int) (s : Bool) (rows : List (List Nat)) (w : World) (e : Ending) (w' : World) : Prop :=
 (∃ rv, e = .returned (.agg #[.int .i64 lv, .bool s, rv]) ∧ w'.rowsO u32V w.heap.size 23 22 rv rows) ∧ Below w.heap.size w w'
end G
/- Walks: the reference's sums and products of elements. -/
/- Drawn regions with calls and allocations: what holds behind each operation is kept by whatever is allocated or called, so that an allocation may come up at any time. -/
end Go.Proofs.YtkjlfjnncdkmlaaGreat
namespace Go
open Go.RowKit Go.Shelf
section
variable {P : Program} {ops : Array Oper} {Q : Exit → Act → World → Prop} {S : World → Prop} {late : Nat → Bool} {B : Nat} {N : Nat → Array Bool → Act → World → Prop}
structure Fact (B : Nat) (S F : World → Prop) : Prop where
 mono : ∀ w w', F w → Below w.heap.size w w' → F w'
 base : ∀ w, F w → B ≤ w.heap.size ∧ S w
def wpAnyA (P : Program) (ops : Array Oper) (Q : Exit → Act → World → Prop) (B : Nat) (S : World → Prop) (late : Nat → Bool) (N : Nat → Array Bool → Act → World → Prop) : Nat → Array Bool → Act → (World → Prop) → Prop
 | 0, listed, a, F => Region.ready .any ops listed = [] ∧ ∀ w, F w → N 0 listed a w
 | fuel + 1, listed, a, F =>
  ((∀ i ∈ Region.ready .any ops listed, late i = true) → ∀ w, F w → N (fuel + 1) listed a w) ∧
  ∀ i ∈ Region.ready .any ops listed, late i = false → ∀ w, F w → wpOp P ops Q i (fun a' w' => Below w.heap.size w w' ∧ ∃ F', Fact B S F' ∧ F' w' ∧ wpAnyA P ops Q B S late N fuel (listed.setIfInBounds i true) a' F') a w
theorem wpAny_of_A (hwait : ∀ i, late i = false → i < ops.size → waitsB ops late i = true) : ∀ (fuel : Nat) (listed : Array Bool) (a : Act) (F : World → Prop) (w : World),
  wpAnyA P ops Q B S late (fun fuel listed a w => wpAny P .any ops Q fuel listed a w) fuel listed a F → F w → wpAny P .any ops Q fuel listed a w := by
 intro fuel
 induction fuel with
 | zero => intro listed a F w H hF; exact H.2 w hF
 | succ fuel ih =>
  intro listed a F w H hF
  by_cases hall : ∀ i ∈ Region.ready .any ops listed, late i = true
  ·exact H.1 hall w hF
  ·have hex : ∃ i, i ∈ Region.ready .any ops listed ∧ late i = false := by
    refine Classical.byContradiction fun hno => hall fun i hi => ?_
    cases hl : late i with
    | true => rfl
    | false => exact absurd ⟨i, hi, hl⟩ hno
   obtain ⟨i0, hi0, hl0⟩ := hex
   have hs0 : i0 < ops.size := by
    obtain ⟨-, o, ho, -⟩ := mem_ready.1 hi0
    exact (Array.getElem?_eq_some_iff.1 ho).1
   refine ⟨fun h => (by rw [h] at hi0; cases hi0), fun j hj => ?_⟩
   have hjl : late j = false := by
    cases hl : late j with
    | false => rfl
    | true => exact (unlisted_not (mem_ready.1 hi0).1 (late_listed (hwait i0 hl0 hs0) hl hj)).elim
   exact wpOp_mono (fun a' w' ⟨_, F', _, hw', hA⟩ => ih _ a' F' w' hA hw') (H.2 j hj hjl w hF)
theorem wpAnyA_first {i : Nat} {oi : Oper} {v : Value} (hl : late i = false) (hi : ops[i]? = some oi) (hsel : ∀ (j : Nat) (o : Oper) cs b, ops[j]? = some o → o.op ≠ .select cs b)
  (hQ : ∀ c a w, Q (.panic c) (a.put oi.dst v) w → Q (.panic c) a w) :
  ∀ (fuel : Nat) (listed : Array Bool) (a : Act) (F : World → Prop),
   (∀ j oj, ops[j]? = some oj → j ≠ i → listed.getD j true = false → (∀ e ∈ oj.after, Region.binds .any e = true → e.on ≠ i) → oi.apart ops oj = true) →
   i ∈ Region.ready .any ops listed → YieldsIf P ops S oi v a → Fact B S F →
   wpAnyA P ops Q B S late N fuel (listed.setIfInBounds i true) (a.put oi.dst v) F → wpAnyA P ops Q B S late N (fuel + 1) listed a F := by
 intro fuel
 induction fuel with
 | zero =>
  intro listed a F _ hr hy hF H
  refine ⟨fun h => absurd (h i hr) (by rw [hl]; decide), fun j hj _ w hw => ?_⟩
  by_cases hji : j = i
  ·subst hji; exact hy.wpOp hi (hF.base w hw).2 ⟨Below.refl _ _, F, hF, hw, H⟩
  ·have := ready_mono hj hji
   rw [H.1] at this
   cases this
 | succ fuel ih =>
  intro listed a F hfree hr hy hF H
  refine ⟨fun h => absurd (h i hr) (by rw [hl]; decide), fun j hj hjl w hw => ?_⟩
  by_cases hji : j = i
  ·subst hji; exact hy.wpOp hi (hF.base w hw).2 ⟨Below.refl _ _, F, hF, hw, H⟩
  ·have h1 := H.2 j (ready_mono hj hji) hjl w hw
   obtain ⟨hjun, oj, hoj, hall⟩ := mem_ready.1 hj
   have hnot : ∀ e ∈ oj.after, Region.binds .any e = true → e.on ≠ i := fun e he hb heq => by
    have h1 := hall e he hb
    rw [heq] at h1
    exact unlisted_not (mem_ready.1 hr).1 h1
   have h2 := wpOp_putIf hoj (hfree j oj hoj hji hjun hnot) (fun cs b => hsel i oi cs b hi) (fun cs b => hsel j oj cs b hoj) hQ hy h1
   have hfree' : ∀ k ok, ops[k]? = some ok → k ≠ i → (listed.setIfInBounds j true).getD k true = false →
     (∀ e ∈ ok.after, Region.binds .any e = true → e.on ≠ i) → oi.apart ops ok = true := fun k ok hk hki hun hno => by
    refine hfree k ok hk hki ?_ hno
    by_cases hjk : j = k
    ·subst hjk; exact hjun
    ·rw [getD_set_ne true hjk] at hun; exact hun
   refine wpOp_mono (fun a' w' h3 => ?_) h2
   obtain ⟨hy', hb, F', hF', hw', hA⟩ := h3
   refine ⟨hb, F', hF', hw', ih (listed.setIfInBounds j true) a' F' hfree' (ready_mono hr (Ne.symm hji)) hy' hF' ?_⟩
   rw [Array.setIfInBounds_comm _ _ hji]
   exact hA
theorem wpOp_over {j : Nat} {oi oj : Oper} {v : Value} (hj : ops[j]? = some oj) (hap : oi.apart ops oj = true) (hsj : ∀ cs b, oj.op ≠ .select cs b)
  (hQ : ∀ c a w, Q (.panic c) a w → Q (.panic c) (a.put oi.dst v) w) {K : Act → World → Prop} {a : Act} {w : World} (h : wpOp P ops Q j K a w) :
  wpOp P ops Q j (fun a1 w1 => ∃ a', a1 = a'.put oi.dst v ∧ K a' w1) (a.put oi.dst v) w := by
 obtain ⟨h1, h2, h3⟩ := Oper.apart_spec hap
 unfold wpOp at *
 simp only [hj] at *
 rw [wanted_put oj a oi.dst v h1]
 split
 ·rename_i hw
  simp only [hw, if_true] at h
  rcases h with h | ⟨hasks, hlets⟩
  case inr => exact .inr ⟨by unfold Oper.asks at *; rw [execOp_put oj hsj a oi.dst v h1]; exact hasks, hlets⟩
  refine .inl ?_
  unfold Oper.wp at *
  rw [execOp_put oj hsj a oi.dst v h1]
  generalize (execOp a.eval oj).run P w = r at *
  cases r with
  | ok n w' =>
   cases n <;> simp only [Oper.upon] at h ⊢
   case value u => exact ⟨_, Act.put_comm a v u h2, h⟩
   case skip => exact ⟨_, Act.put_comm a v undef h2, h⟩
   case defer d => exact ⟨_, by rw [Act.put_defers, Act.put_comm _ v undef h2], h⟩
   case enter f args =>
    refine Calls.mono h fun e w'' he => ?_
    cases e with
    | returned u => exact ⟨_, Act.put_comm a v u h2, he⟩
    | panicked c => exact hQ _ _ _ he
    | outgrown => exact he
   case row row args => exact Rows.mono h fun u w'' he => ⟨_, Act.put_comm a v u h2, he⟩
  | halt x w' =>
   cases x <;> simp only [Oper.upon] at h ⊢
   case panic u => exact hQ _ _ _ h
   all_goals exact h
 ·rename_i hw
  simp only [hw] at h
  exact ⟨_, Act.put_comm a v undef h2, h⟩
def freeA (ops : Array Oper) (late : Nat → Bool) (listed : Array Bool) (i : Nat) : Bool :=
 match ops[i]? with
 | none => false
 | some oi => (List.range ops.size).all fun j => j == i || listed.getD j true || late j || match ops[j]? with
   | some oj => oi.apart ops oj
   | none => true
theorem freeA_spec {i : Nat} {oi : Oper} {listed : Array Bool} (hi : ops[i]? = some oi) (h : freeA ops late listed i = true) (j : Nat) (oj : Oper) (hj : ops[j]? = some oj) (hne : j ≠ i) (hun : listed.getD j true = false) (hl : late j = false) : oi.apart ops oj = true := by
 simp only [freeA, hi, List.all_eq_true, List.mem_range] at h
 have h1 := h j (Array.getElem?_eq_some_iff.1 hj).1
 simpa only [hj, Bool.or_eq_true, beq_iff_eq, hne, false_or, hun, hl, Bool.false_eq_true] using h1
def WithC (C : Nat → Prop) (o : Obj) (dst : Option Tmp) (N : Nat → Array Bool → Act → World → Prop) : Nat → Array Bool → Act → World → Prop :=
 fun fuel listed a w => ∀ p, C p → w.heap[p]? = some o → N fuel listed (a.put dst (.pointer (some ⟨p, 0, none⟩))) w
def WithNew (B : Nat) (o : Obj) (dst : Option Tmp) (N : Nat → Array Bool → Act → World → Prop) : Nat → Array Bool → Act → World → Prop := WithC (fun p => B ≤ p) o dst N
def WithNew2 (B : Nat) (o1 o2 : Obj) (d1 d2 : Option Tmp) (N : Nat → Array Bool → Act → World → Prop) : Nat → Array Bool → Act → World → Prop :=
 fun fuel listed a w => ∀ p q, B ≤ p → B ≤ q → p ≠ q → w.heap[p]? = some o1 → w.heap[q]? = some o2 → N fuel listed ((a.put d1 (.pointer (some ⟨p, 0, none⟩))).put d2 (.pointer (some ⟨q, 0, none⟩))) w
theorem hold_heap {w w' : World} {g : Nat} {o : Obj} (h : w.heap[g]? = some o) (hb : Below w.heap.size w w') : w'.heap[g]? = some o := (hb.block _ (by
 rcases Nat.lt_or_ge g w.heap.size with h1 | h1
 ·exact h1
 ·rw [Array.getElem?_eq_none h1] at h; cases h)).trans h
theorem Fact.and {F : World → Prop} {p : Nat} {o : Obj} (hF : Fact B S F) : Fact B (fun w => S w ∧ w.heap[p]? = some o) (fun w => F w ∧ w.heap[p]? = some o) :=
 ⟨fun x y hx hxy => ⟨hF.mono x y hx.1 hxy, hold_heap hx.2 hxy⟩, fun x hx => ⟨(hF.base x hx.1).1, (hF.base x hx.1).2, hx.2⟩⟩
theorem wpAnyA_mono {S' : World → Prop} {N' : Nat → Array Bool → Act → World → Prop} (hS : ∀ w, S' w → S w) (hN : ∀ f l a w, N' f l a w → N f l a w) :
  ∀ (fuel : Nat) (listed : Array Bool) (a : Act) (F : World → Prop), wpAnyA P ops Q B S' late N' fuel listed a F → wpAnyA P ops Q B S late N fuel listed a F := by
 intro fuel
 induction fuel with
 | zero => intro listed a F H; exact ⟨H.1, fun w hw => hN _ _ _ _ (H.2 w hw)⟩
 | succ fuel ih =>
  intro listed a F H
  refine ⟨fun h w hw => hN _ _ _ _ (H.1 h w hw), fun j hj hjl w hw => wpOp_mono (fun a' w' h3 => ?_) (H.2 j hj hjl w hw)⟩
  obtain ⟨hb, F', hF', hw', hA⟩ := h3
  exact ⟨hb, F', ⟨hF'.mono, fun x hx => ⟨(hF'.base x hx).1, hS _ (hF'.base x hx).2⟩⟩, hw', ih _ _ _ hA⟩
theorem wpAnyA_over {i : Nat} {oi : Oper} {o : Obj} {p : Nat} {C : Nat → Prop} (hsel : ∀ (j : Nat) (o : Oper) cs b, ops[j]? = some o → o.op ≠ .select cs b)
  (hQ : ∀ v c a w, Q (.panic c) a w → Q (.panic c) (a.put oi.dst v) w) (hC : C p) :
  ∀ (fuel : Nat) (listed : Array Bool) (a : Act) (F : World → Prop), (∀ j oj, ops[j]? = some oj → j ≠ i → listed.getD j true = false → late j = false → oi.apart ops oj = true) → listed.getD i true = true →
   wpAnyA P ops Q B S late (WithC C o oi.dst N) fuel listed a F → wpAnyA P ops Q B (fun w => S w ∧ w.heap[p]? = some o) late N fuel listed (a.put oi.dst (.pointer (some ⟨p, 0, none⟩))) (fun w => F w ∧ w.heap[p]? = some o) := by
 intro fuel
 induction fuel with
 | zero => intro listed a F _ _ H; exact ⟨H.1, fun w hw => H.2 w hw.1 p hC hw.2⟩
 | succ fuel ih =>
  intro listed a F hfree hil H
  refine ⟨fun hall w hw => H.1 hall w hw.1 p hC hw.2, fun j hj hjl w hw => ?_⟩
  obtain ⟨hjun, oj, hoj, hall⟩ := mem_ready.1 hj
  have hji : j ≠ i := by
   rintro rfl
   rw [hil] at hjun
   cases hjun
  have h2 := wpOp_over (oi := oi) (v := .pointer (some ⟨p, 0, none⟩)) hoj (hfree j oj hoj hji hjun hjl) (fun cs b => hsel j oj cs b hoj) (hQ _) (H.2 j hj hjl w hw.1)
  refine wpOp_mono (fun a1 w1 h3 => ?_) h2
  obtain ⟨a', rfl, hb, F', hF', hw', hA⟩ := h3
  refine ⟨hb, _, hF'.and, ⟨hw', hold_heap hw.2 hb⟩, ih _ a' F' (fun k ok hk hki hun hl => ?_) ?_ hA⟩
  ·refine hfree k ok hk hki ?_ hl
   by_cases hjk : j = k
   ·subst hjk; exact hjun
   ·rw [getD_set_ne true hjk] at hun; exact hun
  ·rw [getD_set_ne true hji]; exact hil
theorem getD_set_self {l : Array Bool} {i : Nat} : (l.setIfInBounds i true).getD i true = true := by
 rcases Nat.lt_or_ge i l.size with h | h <;> simp [h]
theorem wpAnyA_alloc' {i : Nat} {oi : Oper} {o : Obj} {C : Nat → Prop} (hl : late i = false) (hi : ops[i]? = some oi) (hsel : ∀ (j : Nat) (o : Oper) cs b, ops[j]? = some o → o.op ≠ .select cs b)
  (hwant : ∀ y, Region.wanted oi y = true) (hrun : ∀ (a : Act) w, (execOp a.eval oi).run P w = .ok (.value (.pointer (some ⟨w.heap.size, 0, none⟩))) (w.alloc o))
  (hQ : ∀ v c a w, Q (.panic c) a w → Q (.panic c) (a.put oi.dst v) w) (hC : ∀ w, S w → B ≤ w.heap.size → C w.heap.size) :
  ∀ (fuel : Nat) (listed : Array Bool) (a : Act) (F : World → Prop), (∀ j oj, ops[j]? = some oj → j ≠ i → listed.getD j true = false → late j = false → oi.apart ops oj = true) →
   i ∈ Region.ready .any ops listed → Fact B S F →
   wpAnyA P ops Q B S late (WithC C o oi.dst N) fuel (listed.setIfInBounds i true) a F → wpAnyA P ops Q B S late N (fuel + 1) listed a F := by
 have hstep : ∀ (fuel : Nat) (listed : Array Bool) (a : Act) (F : World → Prop) (w : World), (∀ j oj, ops[j]? = some oj → j ≠ i → listed.getD j true = false → late j = false → oi.apart ops oj = true) →
   i ∈ Region.ready .any ops listed → Fact B S F → F w → wpAnyA P ops Q B S late (WithC C o oi.dst N) fuel (listed.setIfInBounds i true) a F →
   wpOp P ops Q i (fun a' w' => Below w.heap.size w w' ∧ ∃ F', Fact B S F' ∧ F' w' ∧ wpAnyA P ops Q B S late N fuel (listed.setIfInBounds i true) a' F') a w := by
  intro fuel listed a F w hfree hr hF hw H
  have hb : Below w.heap.size w (w.alloc o) := (Below.refl _ _).alloc (Nat.le_refl _) _
  have hB := (hF.base w hw).1
  have hfree' : ∀ j oj, ops[j]? = some oj → j ≠ i → (listed.setIfInBounds i true).getD j true = false → late j = false → oi.apart ops oj = true := fun j oj hj hji hun hjl => by
   rw [getD_set_ne true (Ne.symm hji)] at hun
   exact hfree j oj hj hji hun hjl
  unfold wpOp
  simp only [hi, hwant, if_true]
  refine .inl ?_
  unfold Oper.wp
  rw [hrun]
  exact ⟨hb, _, ⟨fun x y hx hxy => (hF.and (p := w.heap.size) (o := o)).mono x y hx hxy, fun x hx => hF.base x hx.1⟩, ⟨hF.mono _ _ hw hb, heap_alloc_new w o⟩, wpAnyA_mono (fun _ h => h.1) (fun _ _ _ _ h => h) _ _ _ _ (wpAnyA_over hsel hQ (hC w (hF.base w hw).2 hB) fuel _ a F hfree' getD_set_self H)⟩
 intro fuel
 induction fuel with
 | zero =>
  intro listed a F hfree hr hF H
  refine ⟨fun h => absurd (h i hr) (by rw [hl]; decide), fun j hj hjl w hw => ?_⟩
  by_cases hji : j = i
  ·subst hji; exact hstep 0 listed a F w hfree hr hF hw H
  ·have := ready_mono hj hji
   rw [H.1] at this
   cases this
 | succ fuel ih =>
  intro listed a F hfree hr hF H
  refine ⟨fun h => absurd (h i hr) (by rw [hl]; decide), fun j hj hjl w hw => ?_⟩
  by_cases hji : j = i
  ·subst hji; exact hstep (fuel + 1) listed a F w hfree hr hF hw H
  ·have h1 := H.2 j (ready_mono hj hji) hjl w hw
   obtain ⟨hjun, oj, hoj, hall⟩ := mem_ready.1 hj
   refine wpOp_mono (fun a' w' h3 => ?_) h1
   obtain ⟨hb, F', hF', hw', hA⟩ := h3
   refine ⟨hb, F', hF', hw', ih (listed.setIfInBounds j true) a' F' (fun k ok hk hki hun hkl => ?_) (ready_mono hr (Ne.symm hji)) hF' ?_⟩
   ·refine hfree k ok hk hki ?_ hkl
    by_cases hjk : j = k
    ·subst hjk; exact hjun
    ·rw [getD_set_ne true hjk] at hun; exact hun
   ·rw [Array.setIfInBounds_comm _ _ hji]
    exact hA
theorem wpAnyA_half {i k : Nat} {oi ok : Oper} {o o2 : Obj} (hi : ops[i]? = some oi) (hk : ops[k]? = some ok) (hik : i ≠ k) (hlk : late k = false)
  (hsel : ∀ (j : Nat) (o : Oper) cs b, ops[j]? = some o → o.op ≠ .select cs b)
  (hwi : ∀ y, Region.wanted oi y = true) (hwk : ∀ y, Region.wanted ok y = true)
  (hri : ∀ (a : Act) w, (execOp a.eval oi).run P w = .ok (.value (.pointer (some ⟨w.heap.size, 0, none⟩))) (w.alloc o))
  (hrk : ∀ (a : Act) w, (execOp a.eval ok).run P w = .ok (.value (.pointer (some ⟨w.heap.size, 0, none⟩))) (w.alloc o2))
  (hQi : ∀ v c a w, Q (.panic c) a w → Q (.panic c) (a.put oi.dst v) w) (hQk : ∀ v c a w, Q (.panic c) a w → Q (.panic c) (a.put ok.dst v) w)
  (fuel : Nat) (listed : Array Bool) (a : Act) (F : World → Prop) (w : World)
  (hfi : ∀ j oj, ops[j]? = some oj → j ≠ i → j ≠ k → listed.getD j true = false → late j = false → oi.apart ops oj = true)
  (hfk : ∀ j oj, ops[j]? = some oj → j ≠ i → j ≠ k → listed.getD j true = false → late j = false → ok.apart ops oj = true) (hap : oi.apart ops ok = true)
  (hrik : k ∈ Region.ready .any ops (listed.setIfInBounds i true)) (hF : Fact B S F) (hw : F w)
  (H : wpAnyA P ops Q B S late (fun f l a w => ∀ p q, B ≤ p → B ≤ q → p ≠ q → w.heap[p]? = some o → w.heap[q]? = some o2 → N f l ((a.put ok.dst (.pointer (some ⟨q, 0, none⟩))).put oi.dst (.pointer (some ⟨p, 0, none⟩))) w) fuel ((listed.setIfInBounds i true).setIfInBounds k true) a F) :
  wpOp P ops Q i (fun a' w' => Below w.heap.size w w' ∧ ∃ F', Fact B S F' ∧ F' w' ∧ wpAnyA P ops Q B S late N (fuel + 1) (listed.setIfInBounds i true) a' F') a w := by
 have hb : Below w.heap.size w (w.alloc o) := (Below.refl _ _).alloc (Nat.le_refl _) _
 have hB := (hF.base w hw).1
 have hfi' : ∀ j oj, ops[j]? = some oj → j ≠ i → (listed.setIfInBounds i true).getD j true = false → late j = false → oi.apart ops oj = true := fun j oj hj hji hun hjl => by
  by_cases hjk : j = k
  ·subst hjk
   rw [hk] at hj
   injection hj with hj
   subst hj; exact hap
  ·rw [getD_set_ne true (Ne.symm hji)] at hun
   exact hfi j oj hj hji hjk hun hjl
 have hfk' : ∀ j oj, ops[j]? = some oj → j ≠ k → (listed.setIfInBounds i true).getD j true = false → late j = false → ok.apart ops oj = true := fun j oj hj hjk hun hjl => by
  have hji : j ≠ i := by
   rintro rfl
   rw [getD_set_self] at hun
   cases hun
  rw [getD_set_ne true (Ne.symm hji)] at hun
  exact hfk j oj hj hji hjk hun hjl
 unfold wpOp
 simp only [hi, hwi, if_true]
 refine .inl ?_
 unfold Oper.wp
 rw [hri]
 refine ⟨hb, _, ⟨fun x y hx hxy => (hF.and (p := w.heap.size) (o := o)).mono x y hx hxy, fun x hx => hF.base x hx.1⟩, ⟨hF.mono _ _ hw hb, heap_alloc_new w o⟩, ?_⟩
 -- the second one out, from behind the first
 have h1 : wpAnyA P ops Q B (fun x => S x ∧ x.heap[w.heap.size]? = some o) late (WithC (fun q => B ≤ q ∧ w.heap.size ≠ q) o2 ok.dst N) fuel ((listed.setIfInBounds i true).setIfInBounds k true) (a.put oi.dst (.pointer (some ⟨w.heap.size, 0, none⟩))) (fun x => F x ∧ x.heap[w.heap.size]? = some o) := by
  refine wpAnyA_over (i := i) (C := fun p => p = w.heap.size) hsel hQi rfl fuel _ a F (fun j oj hj hji hun hjl => ?_) ?_ ?_
  ·have hjk : j ≠ k := by
    rintro rfl
    rw [getD_set_self] at hun
    cases hun
   rw [getD_set_ne true (Ne.symm hjk)] at hun
   exact hfi' j oj hj hji hun hjl
  ·rw [getD_set_ne true (Ne.symm hik)]; exact getD_set_self
  ·refine wpAnyA_mono (fun _ h => h) (fun f l a x h => ?_) _ _ _ _ H
   rintro p rfl hp q ⟨hq1, hq2⟩ hq
   have := h w.heap.size q hB hq1 hq2 hp hq
   rw [Act.put_comm _ _ _ (Oper.apart_spec hap).2.1]
   exact this
 refine wpAnyA_mono (fun _ h => h.1) (fun _ _ _ _ h => h) _ _ _ _ (wpAnyA_alloc' (S := fun x => S x ∧ x.heap[w.heap.size]? = some o) hlk hk hsel hwk hrk hQk (fun x hx hBx => ⟨hBx, ?_⟩) fuel _ _ _ hfk' hrik hF.and h1)
 have := hx.2
 rcases Nat.lt_or_ge w.heap.size x.heap.size with h | h
 ·omega
 ·rw [Array.getElem?_eq_none h] at this; cases this
theorem wpAnyA_alloc2' {i k : Nat} {oi ok : Oper} {o o2 : Obj} (hi : ops[i]? = some oi) (hk : ops[k]? = some ok) (hik : i ≠ k) (hli : late i = false) (hlk : late k = false)
  (hsel : ∀ (j : Nat) (o : Oper) cs b, ops[j]? = some o → o.op ≠ .select cs b)
  (hwi : ∀ y, Region.wanted oi y = true) (hwk : ∀ y, Region.wanted ok y = true)
  (hri : ∀ (a : Act) w, (execOp a.eval oi).run P w = .ok (.value (.pointer (some ⟨w.heap.size, 0, none⟩))) (w.alloc o))
  (hrk : ∀ (a : Act) w, (execOp a.eval ok).run P w = .ok (.value (.pointer (some ⟨w.heap.size, 0, none⟩))) (w.alloc o2))
  (hQi : ∀ v c a w, Q (.panic c) a w → Q (.panic c) (a.put oi.dst v) w) (hQk : ∀ v c a w, Q (.panic c) a w → Q (.panic c) (a.put ok.dst v) w) (hap : oi.apart ops ok = true) (hpa : ok.apart ops oi = true) :
  ∀ (fuel : Nat) (listed : Array Bool) (a : Act) (F : World → Prop),
   (∀ j oj, ops[j]? = some oj → j ≠ i → j ≠ k → listed.getD j true = false → late j = false → oi.apart ops oj = true) →
   (∀ j oj, ops[j]? = some oj → j ≠ i → j ≠ k → listed.getD j true = false → late j = false → ok.apart ops oj = true) →
   i ∈ Region.ready .any ops listed → k ∈ Region.ready .any ops listed → Fact B S F →
   wpAnyA P ops Q B S late (WithNew2 B o o2 oi.dst ok.dst N) fuel ((listed.setIfInBounds i true).setIfInBounds k true) a F → wpAnyA P ops Q B S late N (fuel + 2) listed a F := by
 have hputs : ∀ (a : Act) u v, (a.put ok.dst u).put oi.dst v = (a.put oi.dst v).put ok.dst u := fun a u v => (Act.put_comm a u v (Oper.apart_spec hpa).2.1)
 have go : ∀ (fuel : Nat) (listed : Array Bool) (a : Act) (F : World → Prop) (w : World) (j : Nat), (j = i ∨ j = k) → 
   (∀ j oj, ops[j]? = some oj → j ≠ i → j ≠ k → listed.getD j true = false → late j = false → oi.apart ops oj = true) →
   (∀ j oj, ops[j]? = some oj → j ≠ i → j ≠ k → listed.getD j true = false → late j = false → ok.apart ops oj = true) →
   i ∈ Region.ready .any ops listed → k ∈ Region.ready .any ops listed → Fact B S F → F w →
   wpAnyA P ops Q B S late (WithNew2 B o o2 oi.dst ok.dst N) fuel ((listed.setIfInBounds i true).setIfInBounds k true) a F →
   wpOp P ops Q j (fun a' w' => Below w.heap.size w w' ∧ ∃ F', Fact B S F' ∧ F' w' ∧ wpAnyA P ops Q B S late N (fuel + 1) (listed.setIfInBounds j true) a' F') a w := by
  intro fuel listed a F w j hj hfi hfk hri' hrk' hF hw H
  rcases hj with rfl | rfl
  ·refine wpAnyA_half (o2 := o2) hi hk hik hlk hsel hwi hwk hri hrk hQi hQk fuel listed a F w hfi hfk hap (ready_mono hrk' (Ne.symm hik)) hF hw (wpAnyA_mono (fun _ h => h) (fun f l a x h => ?_) _ _ _ _ H)
   intro p q hp hq hpq h1 h2
   rw [hputs]
   exact h p q hp hq hpq h1 h2
  ·refine wpAnyA_half (o2 := o) hk hi (Ne.symm hik) hli hsel hwk hwi hrk hri hQk hQi fuel listed a F w (fun j oj h1 h2 h3 => hfk j oj h1 h3 h2) (fun j oj h1 h2 h3 => hfi j oj h1 h3 h2) hpa (ready_mono hri' hik) hF hw ?_
   rw [Array.setIfInBounds_comm _ _ (Ne.symm hik)]
   refine wpAnyA_mono (fun _ h => h) (fun f l a x h => ?_) _ _ _ _ H
   intro p q hp hq hpq h1 h2
   exact h q p hq hp (Ne.symm hpq) h2 h1
 intro fuel
 induction fuel with
 | zero =>
  intro listed a F hfi hfk hr hr2 hF H
  refine ⟨fun h => absurd (h i hr) (by rw [hli]; decide), fun j hj hjl w hw => ?_⟩
  by_cases hji : j = i ∨ j = k
  ·exact go 0 listed a F w j hji hfi hfk hr hr2 hF hw H
  ·have := ready_mono (ready_mono hj (fun h => hji (.inl h))) (fun h => hji (.inr h))
   rw [H.1] at this
   cases this
 | succ fuel ih =>
  intro listed a F hfi hfk hr hr2 hF H
  refine ⟨fun h => absurd (h i hr) (by rw [hli]; decide), fun j hj hjl w hw => ?_⟩
  by_cases hji : j = i ∨ j = k
  ·exact go (fuel + 1) listed a F w j hji hfi hfk hr hr2 hF hw H
  ·have hne1 : j ≠ i := fun h => hji (.inl h)
   have hne2 : j ≠ k := fun h => hji (.inr h)
   have h1 := H.2 j (ready_mono (ready_mono hj hne1) hne2) hjl w hw
   refine wpOp_mono (fun a' w' h3 => ?_) h1
   obtain ⟨hb, F', hF', hw', hA⟩ := h3
   refine ⟨hb, F', hF', hw', ih (listed.setIfInBounds j true) a' F' (fun m om hm h1 h2 hun hl => ?_) (fun m om hm h1 h2 hun hl => ?_) (ready_mono hr (Ne.symm hne1)) (ready_mono hr2 (Ne.symm hne2)) hF' ?_⟩
   ·refine hfi m om hm h1 h2 ?_ hl
    by_cases hjk : j = m
    ·subst hjk; exact (mem_ready.1 hj).1
    ·rw [getD_set_ne true hjk] at hun; exact hun
   ·refine hfk m om hm h1 h2 ?_ hl
    by_cases hjk : j = m
    ·subst hjk; exact (mem_ready.1 hj).1
    ·rw [getD_set_ne true hjk] at hun; exact hun
   ·rw [Array.setIfInBounds_comm _ _ hne1, Array.setIfInBounds_comm _ _ hne2]
    exact hA
theorem wpAnyA_alloc2 (i k : Nat) {oi ok : Oper} {fuel : Nat} {listed : Array Bool} {a : Act} {F : World → Prop} (o o2 : Obj) (hr : (Region.ready .any ops listed).contains i = true) (hr2 : (Region.ready .any ops listed).contains k = true) (hik : i ≠ k) (hli : late i = false) (hlk : late k = false) (hi : ops.toList[i]? = some oi) (hk : ops.toList[k]? = some ok)
  (hs : Region.noSelect ops = true) (hf : freeA ops late listed i = true) (hf2 : freeA ops late listed k = true) (hap : oi.apart ops ok = true) (hpa : ok.apart ops oi = true) (hwi : ∀ y, Region.wanted oi y = true) (hwk : ∀ y, Region.wanted ok y = true)
  (hri : ∀ (a : Act) w, (execOp a.eval oi).run P w = .ok (.value (.pointer (some ⟨w.heap.size, 0, none⟩))) (w.alloc o))
  (hrk : ∀ (a : Act) w, (execOp a.eval ok).run P w = .ok (.value (.pointer (some ⟨w.heap.size, 0, none⟩))) (w.alloc o2))
  (hQi : ∀ v c a w, Q (.panic c) a w → Q (.panic c) (a.put oi.dst v) w) (hQk : ∀ v c a w, Q (.panic c) a w → Q (.panic c) (a.put ok.dst v) w) (hF : Fact B S F)
  (h : wpAnyA P ops Q B S late (WithNew2 B o o2 oi.dst ok.dst N) fuel ((listed.setIfInBounds i true).setIfInBounds k true) a F) : wpAnyA P ops Q B S late N (fuel + 2) listed a F :=
 wpAnyA_alloc2' (by simpa using hi) (by simpa using hk) hik hli hlk (Region.noSelect_spec hs) hwi hwk hri hrk hQi hQk hap hpa fuel listed a F (fun j oj h1 h2 _ => freeA_spec (by simpa using hi) hf j oj h1 h2) (fun j oj h1 _ h2 => freeA_spec (by simpa using hk) hf2 j oj h1 h2) (by simpa using hr) (by simpa using hr2) hF h
theorem fact_below {W : World} (hB : B ≤ W.heap.size) (hS : ∀ w, Below W.heap.size W w → S w) : Fact B S (fun w => Below W.heap.size W w) :=
 ⟨fun _ _ h h2 => h.trans (h2.mono h.size), fun w h => ⟨Nat.le_trans hB h.size, hS w h⟩⟩
theorem wpAnyA_take (i : Nat) {oi : Oper} {v : Value} {fuel : Nat} {listed : Array Bool} {a : Act} {F : World → Prop} (hr : (Region.ready .any ops listed).contains i = true) (hl : late i = false) (hi : ops.toList[i]? = some oi)
  (hs : Region.noSelect ops = true) (hf : Region.free .any ops listed i = true)
  (hQ : ∀ c a w, Q (.panic c) (a.put oi.dst v) w → Q (.panic c) a w) (hy : YieldsIf P ops S oi v a) (hF : Fact B S F)
  (h : wpAnyA P ops Q B S late N fuel (listed.setIfInBounds i true) (a.put oi.dst v) F) : wpAnyA P ops Q B S late N (fuel + 1) listed a F :=
 wpAnyA_first hl (by simpa using hi) (Region.noSelect_spec hs) hQ fuel listed a F (Region.free_spec (by simpa using hi) hf) (by simpa using hr) hy hF h
theorem wpAnyA_alloc (i : Nat) {oi : Oper} {fuel : Nat} {listed : Array Bool} {a : Act} {F : World → Prop} (o : Obj) (hr : (Region.ready .any ops listed).contains i = true) (hl : late i = false) (hi : ops.toList[i]? = some oi)
  (hs : Region.noSelect ops = true) (hf : freeA ops late listed i = true) (hwant : ∀ y, Region.wanted oi y = true)
  (hrun : ∀ (a : Act) w, (execOp a.eval oi).run P w = .ok (.value (.pointer (some ⟨w.heap.size, 0, none⟩))) (w.alloc o))
  (hQ : ∀ v c a w, Q (.panic c) a w → Q (.panic c) (a.put oi.dst v) w) (hF : Fact B S F)
  (h : wpAnyA P ops Q B S late (WithNew B o oi.dst N) fuel (listed.setIfInBounds i true) a F) : wpAnyA P ops Q B S late N (fuel + 1) listed a F :=
 wpAnyA_alloc' hl (by simpa using hi) (Region.noSelect_spec hs) hwant hrun hQ (fun _ _ h => h) fuel listed a F (freeA_spec (by simpa using hi) hf) (by simpa using hr) hF h
theorem wpAnyA_step (i : Nat) {o : Oper} {fuel : Nat} {listed : Array Bool} {a : Act} {F : World → Prop} (hr : Region.ready .any ops listed = [i]) (hl : late i = false) (ho : ops.toList[i]? = some o)
  (h : ∀ w, F w → ∀ K' : Act → World → Prop, Shut (∀ a' w', Below w.heap.size w w' → ∀ F' : World → Prop, Fact B S F' → F' w' → wpAnyA P ops Q B S late N fuel (listed.setIfInBounds i true) a' F' → K' a' w') → if Region.wanted o (yielded ops a.tmps) = true then Oper.wp P o a w K' Q else K' (a.put o.dst undef) w) :
  wpAnyA P ops Q B S late N (fuel + 1) listed a F := by
 refine ⟨fun hall => ?_, fun j hj _ w hw => ?_⟩
 ·have := hall i (by rw [hr]; exact List.mem_singleton.2 rfl)
  rw [hl] at this; cases this
 ·rw [hr] at hj
  obtain rfl : j = i := by simpa using hj
  exact wpOp_step (by simpa using ho) (fun K' hK => h w hw K' (fun a' w' hb F' hF' hw' hA => hK a' w' ⟨hb, F', hF', hw', hA⟩))
theorem wpAnyA_end {fuel : Nat} {listed : Array Bool} {a : Act} {F : World → Prop} (hr : (Region.ready .any ops listed).all late = true) (h : ∀ w, F w → N (fuel + 1) listed a w) : wpAnyA P ops Q B S late N (fuel + 1) listed a F := by
 refine ⟨fun _ => h, fun i hi hl => ?_⟩
 have := List.all_eq_true.1 hr i hi
 rw [hl] at this; cases this
def waitsA (ops : Array Oper) (late : Nat → Bool) : Bool := (List.range ops.size).all fun i => late i || waitsB ops late i
theorem waitsA_spec (h : waitsA ops late = true) (i : Nat) (hl : late i = false) (hi : i < ops.size) : waitsB ops late i = true := by
 have := List.all_eq_true.1 h i (List.mem_range.2 hi)
 rw [hl, Bool.false_or] at this
 exact this
end
end Go
/- Walks: sums, differences and products of elements (the program's). -/
/- Walks: the rows of multiples. -/
/- Walks: the rows of fewer moduli. -/
/- Plain: an automorphism permutes coefficients. -/
namespace Go.Proofs.YtkjlfjnncdkmlaaGreat
namespace G
def SizeN (n : Nat) : Prop := n = 4 ∨ n = 8 ∨ n = 16 ∨ n = 32
end G
/- Walks: the rows under an automorphism. -/
/- Plain: the greatest absolute value of products, sums and automorphisms. -/
/- Plain: the laws of the ring, element by element. -/
/- Walks: multiples, automorphisms and restrictions of elements (the program's). -/
/- Walks: automorphisms (the program's). -/
namespace G
open Go.RowKit Go.Shelf Go.BigFrame
theorem checkB_size {n : Nat} {chain : List Nat} {sp : Nat} {la : Int} {sa : Bool} {xs : List (List Nat)} (h : checkB (n : Int) chain sp la sa xs = true) : SizeN n := by
 unfold checkB preB validB sizeB at h
 simp only [Bool.and_eq_true, Bool.or_eq_true, beq_iff_eq] at h
 unfold SizeN
 omega
end G
/- Walks: restrictions (the program's). -/
/- Walks: two lists of words, of rows, of elements are the same. -/
namespace G
open Go.RowKit Go.Shelf Go.BigFrame
theorem take_eq_succ {α : Type} (xs ys : List α) (k : Nat) (x : α) (h : xs.take k = ys.take k) (hx : xs[k]? = some x) (hy : ys[k]? = some x) : xs.take (k + 1) = ys.take (k + 1) := by
 rw [List.take_add_one, List.take_add_one, h, hx, hy]
theorem same5_any (v1 v2 : Value) (xs ys : List Nat) (B1 B2 : Nat) (w : World) (h1 : w.reads B1 v1 (xs.map u32V)) (h2 : w.reads B2 v2 (ys.map u32V)) :
  Calls Tryz.prog 50 #[v1, v2] w fun e w' => e = .returned (.bool (decide (xs = ys))) ∧ ∃ n, w' = w.drewN n := by
 have hl1 := h1.le_map
 have hl2 := h2.le_map
 obtain ⟨a1, c1, rfl, hc1, hm1, hs1⟩ := reads_u32 h1
 obtain ⟨a2, c2, rfl, hc2, hm2, hs2⟩ := reads_u32 h2
 have HS1 := Lib.hid hs1
 have HS2 := Lib.hid hs2
 clear hs1 hs2 h1 h2
 by_cases hlen : xs.length = ys.length
 ·obtain ⟨m, hm⟩ : ∃ m, m = ys.length := ⟨_, rfl⟩
  have hxm : xs.length = m := by omega
  rw [← hm, hxm]
  rw [← hm] at hl2 hc2
  rw [hxm] at hl1 hc1
  have HXM := Lib.hid hxm
  have HYM := Lib.hid hm
  clear hxm hm hlen
  go_enter Tryz.func50, Tryz.ntmps50
  go_wp2
  go_loopw [5] (fun i wx => ∃ k n : Nat, k ≤ m ∧ i = .int .i64 (k : Int) ∧ wx = w.drewN n ∧ Hid (xs.take k = ys.take k)) (fun i _ => m - (intOf i).toNat)
  case atStart => exact ⟨0, 0, Nat.zero_le _, rfl, rfl, by show _ = _; simp⟩
  case round =>
   obtain ⟨k, n0, hk, rfl, rfl, hall⟩ := hrel
   by_cases hlt : k < m
   ·obtain ⟨x, hx⟩ : ∃ x, xs[k]? = some x := ⟨xs[k]'(by have := HXM.out; omega), List.getElem?_eq_getElem _⟩
    obtain ⟨y, hy⟩ : ∃ x, ys[k]? = some x := ⟨ys[k]'(by have := HYM.out; omega), List.getElem?_eq_getElem _⟩
    obtain ⟨b1, o1, rfl, _, hcx⟩ := HS1.out k x hx
    obtain ⟨b2, o2, rfl, _, hcy⟩ := HS2.out k y hy
    have HX := Lib.hid hx
    have HY := Lib.hid hy
    clear hx hy
    have i1 : (0 : Int) ≤ (k : Int) := by omega
    have i2 : (k : Int) < (m : Int) := by omega
    by_cases hxy : x = y
    ·subst hxy
     have hb : ((x : Int) != (x : Int)) = false := by simp
     go_upto_region 6 with (fail)
     go_quiet (fail)
     go_wp2
     go_roundw
     case rel => exact ⟨k + 1, _, by omega, by go_num, rfl, take_eq_succ _ _ _ _ hall.out HX.out HY.out⟩
     case measure => simp [intOf]; omega
    ·have hb : ((x : Int) != (y : Int)) = true := by rw [bne_iff_ne]; omega
     go_upto_region 6 with (fail)
     go_quiet (fail)
     go_wp2
     go_ret
     refine ⟨ret_bool ?_, _, World.drewN_drewN _ _ _⟩
     symm
     rw [decide_eq_false_iff_not]
     intro e
     have h3 := HX.out
     rw [e, HY.out] at h3
     exact hxy (by simpa using h3.symm)
   ·obtain rfl : k = m := by omega
    have h2 := hall.out
    rw [List.take_of_length_le (by have := HXM.out; omega), List.take_of_length_le (by have := HYM.out; omega)] at h2
    have HH := Lib.hid h2
    clear h2 hall
    go_wp2
    go_ret
    exact ⟨ret_bool (by simp [HH.out]), _, rfl⟩
 ·obtain ⟨m, hm⟩ : ∃ m, m = ys.length := ⟨_, rfl⟩
  obtain ⟨l, hl⟩ : ∃ l, l = xs.length := ⟨_, rfl⟩
  have HF : Hid (decide (xs = ys) = false) := by
   show _ = _
   rw [decide_eq_false_iff_not]
   intro e
   exact hlen (by rw [e])
  have hb : ((l : Int) != (m : Int)) = true := by rw [bne_iff_ne]; omega
  rw [← hm, ← hl]
  rw [← hl] at hl1 hc1
  rw [← hm] at hl2 hc2
  clear hm hl HS1 HS2 hlen
  go_enter Tryz.func50, Tryz.ntmps50
  go_wp2
  go_ret
  exact ⟨ret_bool HF.out.symm, 0, rfl⟩
end G
/- Walks: two elements are the same. -/
namespace G
open Go.RowKit Go.Shelf Go.BigFrame
theorem same09_any (l1 l2 : Int) (s1 s2 : Bool) (v1 v2 : Value) (xs ys : List (List Nat)) (B1 B2 : Nat) (w : World) (h1 : w.rows u32V B1 v1 xs) (h2 : w.rows u32V B2 v2 ys) (hB1 : B1 ≤ w.heap.size) (hB2 : B2 ≤ w.heap.size) :
  Calls Tryz.prog 22 #[.agg #[.int .i64 l1, .bool s1, v1], .agg #[.int .i64 l2, .bool s2, v2]] w fun e w' => e = .returned (.bool (decide (l1 = l2) && decide (s1 = s2) && decide (xs = ys))) ∧ Below w.heap.size w w' := by
 have hl1 := h1.le
 have hl2 := h2.le
 obtain ⟨a1, c1, rfl, hc1, hm1, hs1⟩ := h1.shape
 obtain ⟨a2, c2, rfl, hc2, hm2, hs2⟩ := h2.shape
 obtain ⟨W0, hW0⟩ : ∃ W0, W0 = (w.alloc (.cells #[.int .i64 l1, .bool s1, .slice a1 xs.length c1] 28)).alloc (.cells #[.int .i64 l2, .bool s2, .slice a2 ys.length c2] 28) := ⟨_, rfl⟩
 have hB0 : Below w.heap.size w W0 := by rw [hW0]; exact ((Below.refl _ w).alloc (Nat.le_refl _) _).alloc (by simp) _
 have g1 : W0.heap[w.heap.size]? = some (.cells #[.int .i64 l1, .bool s1, .slice a1 xs.length c1] 28) := by
  rw [hW0, Below.heap_alloc _ _ _ (by simp)]; exact alloc_last _ _ rfl
 have g2 : W0.heap[w.heap.size + 1]? = some (.cells #[.int .i64 l2, .bool s2, .slice a2 ys.length c2] 28) := by
  rw [hW0]; exact alloc_last _ _ (by simp)
 obtain ⟨hcw, -⟩ := bcell hB0
 obtain ⟨k0, k1, k2, -, -, -⟩ := elem_cells g1
 obtain ⟨j0, j1, j2, -, -, -⟩ := elem_cells g2
 have HW0 := Lib.hid hW0
 have HS1 : Hid (∀ (j : Nat) (r : List Nat), xs[j]? = some r → ∃ b off b2 c2, a1 = some ⟨b, off, none⟩ ∧ W0.cell? ⟨b, off + j, none⟩ = some (.slice b2 r.length c2) ∧ W0.reads w.heap.size (.slice b2 r.length c2) (r.map u32V)) := by
  intro j r hj
  obtain ⟨b, off, b2, c2, h1, h2, h3, h4⟩ := hs1 j r hj
  exact ⟨b, off, b2, c2, h1, by rw [hcw _ _ (by omega)]; exact h3, (h4.mono hB1).below hB0⟩
 have HS2 : Hid (∀ (j : Nat) (r : List Nat), ys[j]? = some r → ∃ b off b2 c2, a2 = some ⟨b, off, none⟩ ∧ W0.cell? ⟨b, off + j, none⟩ = some (.slice b2 r.length c2) ∧ W0.reads w.heap.size (.slice b2 r.length c2) (r.map u32V)) := by
  intro j r hj
  obtain ⟨b, off, b2, c2, h1, h2, h3, h4⟩ := hs2 j r hj
  exact ⟨b, off, b2, c2, h1, by rw [hcw _ _ (by omega)]; exact h3, (h4.mono hB2).below hB0⟩
 obtain ⟨r, hr⟩ : ∃ r, r = (decide (l1 = l2) && decide (s1 = s2) && decide (xs = ys)) := ⟨_, rfl⟩
 rw [← hr]
 obtain ⟨m, hm⟩ : ∃ m, m = ys.length := ⟨_, rfl⟩
 obtain ⟨l, hl⟩ : ∃ l, l = xs.length := ⟨_, rfl⟩
 rw [← hm] at hl2 hc2 j2
 rw [← hl] at hl1 hc1 k2
 rw [← hm, ← hl] at hW0
 have HW0 := Lib.hid hW0
 have HR := Lib.hid hr
 have HM := Lib.hid hm
 have HL := Lib.hid hl
 rw [← hm, ← hl]
 clear hs1 hs2 hcw g1 g2 h1 h2 hr hm hl hW0
 by_cases hl12 : l1 = l2
 ·subst hl12
  have t1 : (l1 != l1) = false := by simp
  by_cases hs12 : s1 = s2
  ·subst hs12
   have t2 : (s1 != s1) = false := by simp
   by_cases hlm : l = m
   ·subst hlm
    have t3 : ((l : Int) != (l : Int)) = false := by simp
    have HR2 : Hid (r = decide (xs = ys)) := by show _ = _; rw [HR.out]; simp
    clear HR
    go_enter Tryz.func22, Tryz.ntmps22
    go_upto_region 1 with (fail)
    rw [← HW0.out]
    go_wp2
    go_loopw [5] (fun i wx => ∃ k n : Nat, k ≤ l ∧ i = .int .i64 (k : Int) ∧ wx = W0.drewN n ∧ Hid (xs.take k = ys.take k)) (fun i _ => l - (intOf i).toNat)
    case atStart => exact ⟨0, 0, Nat.zero_le _, rfl, rfl, by show _ = _; simp⟩
    case round =>
     obtain ⟨k, n0, hk, rfl, rfl, hall⟩ := hrel
     by_cases hlt : k < l
     ·obtain ⟨x, hx⟩ : ∃ x, xs[k]? = some x := ⟨xs[k]'(by have := HL.out; omega), List.getElem?_eq_getElem _⟩
      obtain ⟨y, hy⟩ : ∃ x, ys[k]? = some x := ⟨ys[k]'(by have := HM.out; omega), List.getElem?_eq_getElem _⟩
      obtain ⟨b1, o1, p1, d1, rfl, hcx, hrx⟩ := HS1.out k x hx
      obtain ⟨b2, o2, p2, d2, rfl, hcy, hry⟩ := HS2.out k y hy
      have HX := Lib.hid hx
      have HY := Lib.hid hy
      have i1 : (0 : Int) ≤ (k : Int) := by omega
      have i2 : (k : Int) < (l : Int) := by omega
      have HSM := Lib.hid (fun n => same5_any _ _ x y _ _ ((W0.drewN n0).drewN n) ((hrx.drewN n0).drewN n) ((hry.drewN n0).drewN n))
      have hcx' : (W0.drewN n0).cell? ⟨b1, o1 + k, none⟩ = some (.slice p1 x.length d1) := hcx
      have hcy' : (W0.drewN n0).cell? ⟨b2, o2 + k, none⟩ = some (.slice p2 y.length d2) := hcy
      have k2' : (W0.drewN n0).cell? ⟨w.heap.size, 2, none⟩ = some (.slice (some ⟨b1, o1, none⟩) l c1) := k2
      have j2' : (W0.drewN n0).cell? ⟨w.heap.size + 1, 2, none⟩ = some (.slice (some ⟨b2, o2, none⟩) l c2) := j2
      have hBq : Below w.heap.size w (W0.drewN n0) := below_drewN hB0 _
      clear hx hy hrx hry hcx hcy k0 k1 k2 j0 j1 j2 hB0
      obtain ⟨wq, hwq⟩ : ∃ wq, wq = W0.drewN n0 := ⟨_, rfl⟩
      rw [← hwq] at hcx' hcy' k2' j2' HSM hBq ⊢
      have HWQ := Lib.hid hwq
      clear hwq
      by_cases hxy : x = y
      ·subst hxy
       have hdt : decide (x = x) = true := by simp
       rw [hdt] at HSM
       go_upto_region 6 with (fail)
       go_quiet ((go_at_call 50; exact quiet_drew (HSM.out _)))
       go_wp2
       go_roundw
       case rel => exact ⟨k + 1, _, by omega, by go_num, by rw [HWQ.out, World.drewN_drewN], take_eq_succ _ _ _ _ hall.out HX.out HY.out⟩
       case measure => simp [intOf]; omega
      ·have hdt : decide (x = y) = false := by simp [hxy]
       rw [hdt] at HSM
       obtain rfl : r = false := by
        rw [HR2.out, decide_eq_false_iff_not]
        intro e
        have h3 := HX.out
        rw [e, HY.out] at h3
        exact hxy (by simpa using h3.symm)
       go_upto_region 6 with (fail)
       go_quiet ((go_at_call 50; exact quiet_drew (HSM.out _)))
       go_wp2
       go_ret
       exact ⟨rfl, below_drewN hBq _⟩
     ·obtain rfl : k = l := by omega
      have h2 := hall.out
      rw [List.take_of_length_le (by have := HL.out; omega), List.take_of_length_le (by have := HM.out; omega)] at h2
      obtain rfl : r = true := by rw [HR2.out]; simp [h2]
      clear h2 hall
      go_wp2
      go_ret
      exact ⟨rfl, by first | exact below_drewN hB0 _ | exact hB0⟩
   ·have t3 : ((l : Int) != (m : Int)) = true := by rw [bne_iff_ne]; omega
    obtain rfl : r = false := by
     rw [HR.out]
     have : ¬ xs = ys := fun e => hlm (by rw [HL.out, HM.out, e])
     simp [this]
    clear hlm
    go_enter Tryz.func22, Tryz.ntmps22
    go_upto_region 1 with (fail)
    rw [← HW0.out]
    go_wp2
    go_ret
    exact ⟨rfl, hB0⟩
  ·have t2 : (s1 == s2) = false := by rw [beq_eq_false_iff_ne]; exact hs12
   obtain rfl : r = false := by rw [HR.out]; simp [hs12]
   clear hs12
   go_enter Tryz.func22, Tryz.ntmps22
   go_upto_region 1 with (fail)
   rw [← HW0.out]
   go_wp2
   go_ret
   exact ⟨rfl, hB0⟩
 ·have t1 : (l1 != l2) = true := by rw [bne_iff_ne]; exact hl12
  obtain rfl : r = false := by rw [HR.out]; simp [hl12]
  clear hl12
  go_enter Tryz.func22, Tryz.ntmps22
  go_upto_region 1 with (fail)
  rw [← HW0.out]
  go_wp2
  go_ret
  exact ⟨rfl, hB0⟩
end G
/- Walks: two elements are the same (the program's). -/
namespace G
open Go.RowKit Go.Shelf Go.BigFrame
theorem equal_any (v1 v2 : Value) (xs ys : List Nat) (B1 B2 : Nat) (w : World) (h1 : w.reads B1 v1 (xs.map u32V)) (h2 : w.reads B2 v2 (ys.map u32V)) :
  Calls Tryz.prog 36 #[v1, v2] w fun e w' => e = .returned (.bool (decide (xs = ys))) ∧ ∃ n, w' = w.drewN n := by
 have hl1 := h1.le_map
 have hl2 := h2.le_map
 obtain ⟨a1, c1, rfl, hc1, hm1, hs1⟩ := reads_u32 h1
 obtain ⟨a2, c2, rfl, hc2, hm2, hs2⟩ := reads_u32 h2
 have HS1 := Lib.hid hs1
 have HS2 := Lib.hid hs2
 clear hs1 hs2 h1 h2
 by_cases hlen : xs.length = ys.length
 ·obtain ⟨m, hm⟩ : ∃ m, m = ys.length := ⟨_, rfl⟩
  have hxm : xs.length = m := by omega
  rw [← hm, hxm]
  rw [← hm] at hl2 hc2
  rw [hxm] at hl1 hc1
  have HXM := Lib.hid hxm
  have HYM := Lib.hid hm
  clear hxm hm hlen
  go_enter Tryz.func36, Tryz.ntmps36
  go_wp2
  go_loopw [13] (fun i wx => ∃ k n : Nat, k ≤ m ∧ i = .int .i64 (k : Int) ∧ wx = w.drewN n ∧ Hid (xs.take k = ys.take k)) (fun i _ => m - (intOf i).toNat)
  case atStart => exact ⟨0, 0, Nat.zero_le _, rfl, rfl, by show _ = _; simp⟩
  case round =>
   obtain ⟨k, n0, hk, rfl, rfl, hall⟩ := hrel
   by_cases hlt : k < m
   ·obtain ⟨x, hx⟩ : ∃ x, xs[k]? = some x := ⟨xs[k]'(by have := HXM.out; omega), List.getElem?_eq_getElem _⟩
    obtain ⟨y, hy⟩ : ∃ x, ys[k]? = some x := ⟨ys[k]'(by have := HYM.out; omega), List.getElem?_eq_getElem _⟩
    obtain ⟨b1, o1, rfl, _, hcx⟩ := HS1.out k x hx
    obtain ⟨b2, o2, rfl, _, hcy⟩ := HS2.out k y hy
    have HX := Lib.hid hx
    have HY := Lib.hid hy
    clear hx hy
    have i1 : (0 : Int) ≤ (k : Int) := by omega
    have i2 : (k : Int) < (m : Int) := by omega
    by_cases hxy : x = y
    ·subst hxy
     have hb : ((x : Int) != (x : Int)) = false := by simp
     go_upto_region 6 with (fail)
     go_quiet (fail)
     go_wp2
     go_roundw
     case rel => exact ⟨k + 1, _, by omega, by go_num, rfl, take_eq_succ _ _ _ _ hall.out HX.out HY.out⟩
     case measure => simp [intOf]; omega
    ·have hb : ((x : Int) != (y : Int)) = true := by rw [bne_iff_ne]; omega
     go_upto_region 6 with (fail)
     go_quiet (fail)
     go_wp2
     go_ret
     refine ⟨ret_bool ?_, _, World.drewN_drewN _ _ _⟩
     symm
     rw [decide_eq_false_iff_not]
     intro e
     have h3 := HX.out
     rw [e, HY.out] at h3
     exact hxy (by simpa using h3.symm)
   ·obtain rfl : k = m := by omega
    have h2 := hall.out
    rw [List.take_of_length_le (by have := HXM.out; omega), List.take_of_length_le (by have := HYM.out; omega)] at h2
    have HH := Lib.hid h2
    clear h2 hall
    go_wp2
    go_ret
    exact ⟨ret_bool (by simp [HH.out]), _, rfl⟩
 ·obtain ⟨m, hm⟩ : ∃ m, m = ys.length := ⟨_, rfl⟩
  obtain ⟨l, hl⟩ : ∃ l, l = xs.length := ⟨_, rfl⟩
  have HF : Hid (decide (xs = ys) = false) := by
   show _ = _
   rw [decide_eq_false_iff_not]
   intro e
   exact hlen (by rw [e])
  have hb : ((l : Int) != (m : Int)) = true := by rw [bne_iff_ne]; omega
  rw [← hm, ← hl]
  rw [← hl] at hl1 hc1
  rw [← hm] at hl2 hc2
  clear hm hl HS1 HS2 hlen
  go_enter Tryz.func36, Tryz.ntmps36
  go_wp2
  go_ret
  exact ⟨ret_bool HF.out.symm, 0, rfl⟩
theorem same1_any (v1 v2 : Value) (xs ys : List Nat) (B1 B2 : Nat) (w : World) (h1 : w.reads B1 v1 (xs.map u32V)) (h2 : w.reads B2 v2 (ys.map u32V)) :
  Calls Tryz.prog 35 #[v1, v2] w fun e w' => e = .returned (.bool (decide (xs = ys))) ∧ ∃ n, w' = w.drewN n := by
 have HE := Lib.hid (equal_any v1 v2 xs ys B1 B2 w h1 h2)
 obtain ⟨a1, c1, rfl, -⟩ := reads_u32 h1
 obtain ⟨a2, c2, rfl, -⟩ := reads_u32 h2
 clear h1 h2
 obtain ⟨b, hb⟩ : ∃ b, b = decide (xs = ys) := ⟨_, rfl⟩
 rw [← hb] at HE ⊢
 clear hb
 go_enter Tryz.func35, Tryz.ntmps35
 go_wp2_with fail
 (with_reducible refine (HE.out).mono ?_)
 rintro e w1 ⟨rfl, n, rfl⟩
 go_wp2
 go_ret
 exact ⟨rfl, n, rfl⟩
theorem equalF_any (v1 v2 : Value) (xs ys : List (List Nat)) (B1 B2 : Nat) (w : World) (h1 : w.rows u32V B1 v1 xs) (h2 : w.rows u32V B2 v2 ys) :
  Calls Tryz.prog 34 #[v1, v2, .func (.func 35) #[] #[]] w fun e w' => e = .returned (.bool (decide (xs = ys))) ∧ ∃ n, w' = w.drewN n := by
 have hl1 := h1.le
 have hl2 := h2.le
 obtain ⟨a1, c1, rfl, hc1, hm1, hs1⟩ := h1.shape
 obtain ⟨a2, c2, rfl, hc2, hm2, hs2⟩ := h2.shape
 have HS1 := Lib.hid hs1
 have HS2 := Lib.hid hs2
 clear hs1 hs2 h1 h2
 by_cases hlen : xs.length = ys.length
 ·obtain ⟨m, hm⟩ : ∃ m, m = ys.length := ⟨_, rfl⟩
  have hxm : xs.length = m := by omega
  rw [← hm, hxm]
  rw [← hm] at hl2 hc2
  rw [hxm] at hl1 hc1
  have HXM := Lib.hid hxm
  have HYM := Lib.hid hm
  clear hxm hm hlen
  go_enter Tryz.func34, Tryz.ntmps34
  go_wp2
  go_loopw [17] (fun i wx => ∃ k n : Nat, k ≤ m ∧ i = .int .i64 (k : Int) ∧ wx = w.drewN n ∧ Hid (xs.take k = ys.take k)) (fun i _ => m - (intOf i).toNat)
  case atStart => exact ⟨0, 0, Nat.zero_le _, rfl, rfl, by show _ = _; simp⟩
  case round =>
   obtain ⟨k, n0, hk, rfl, rfl, hall⟩ := hrel
   by_cases hlt : k < m
   ·obtain ⟨x, hx⟩ : ∃ x, xs[k]? = some x := ⟨xs[k]'(by have := HXM.out; omega), List.getElem?_eq_getElem _⟩
    obtain ⟨y, hy⟩ : ∃ x, ys[k]? = some x := ⟨ys[k]'(by have := HYM.out; omega), List.getElem?_eq_getElem _⟩
    obtain ⟨b1, o1, p1, d1, rfl, _, hcx, hrx⟩ := HS1.out k x hx
    obtain ⟨b2, o2, p2, d2, rfl, _, hcy, hry⟩ := HS2.out k y hy
    have HX := Lib.hid hx
    have HY := Lib.hid hy
    have HSM := Lib.hid (same1_any _ _ x y _ _ (w.drewN n0) (hrx.drewN n0) (hry.drewN n0))
    have hcx' : (w.drewN n0).cell? ⟨b1, o1 + k, none⟩ = some (.slice p1 x.length d1) := hcx
    have hcy' : (w.drewN n0).cell? ⟨b2, o2 + k, none⟩ = some (.slice p2 y.length d2) := hcy
    clear hx hy hcx hcy hrx hry
    have i1 : (0 : Int) ≤ (k : Int) := by omega
    have i2 : (k : Int) < (m : Int) := by omega
    by_cases hxy : x = y
    ·subst hxy
     have hdt : decide (x = x) = true := by simp
     rw [hdt] at HSM
     go_wp2_with fail
     (with_reducible refine (HSM.out).mono ?_)
     rintro e w1 ⟨rfl, n, rfl⟩
     go_wp2
     go_roundw
     case rel => exact ⟨k + 1, _, by omega, by go_num, rfl, take_eq_succ _ _ _ _ hall.out HX.out HY.out⟩
     case measure => simp [intOf]; omega
    ·have hdt : decide (x = y) = false := by simp [hxy]
     rw [hdt] at HSM
     go_wp2_with fail
     (with_reducible refine (HSM.out).mono ?_)
     rintro e w1 ⟨rfl, n, rfl⟩
     go_wp2
     go_ret
     refine ⟨ret_bool ?_, _, rfl⟩
     symm
     rw [decide_eq_false_iff_not]
     intro e
     have h3 := HX.out
     rw [e, HY.out] at h3
     exact hxy (by simpa using h3.symm)
   ·obtain rfl : k = m := by omega
    have h2 := hall.out
    rw [List.take_of_length_le (by have := HXM.out; omega), List.take_of_length_le (by have := HYM.out; omega)] at h2
    have HH := Lib.hid h2
    clear h2 hall
    go_wp2
    go_ret
    exact ⟨ret_bool (by simp [HH.out]), _, rfl⟩
 ·obtain ⟨m, hm⟩ : ∃ m, m = ys.length := ⟨_, rfl⟩
  obtain ⟨l, hl⟩ : ∃ l, l = xs.length := ⟨_, rfl⟩
  have HF : Hid (decide (xs = ys) = false) := by
   show _ = _
   rw [decide_eq_false_iff_not]
   intro e
   exact hlen (by rw [e])
  have hb : ((l : Int) != (m : Int)) = true := by rw [bne_iff_ne]; omega
  rw [← hm, ← hl]
  rw [← hl] at hl1 hc1
  rw [← hm] at hl2 hc2
  clear hm hl HS1 HS2 hlen
  go_enter Tryz.func34, Tryz.ntmps34
  go_wp2
  go_ret
  exact ⟨ret_bool HF.out.symm, 0, rfl⟩
def sameB (l1 l2 : Int) (s1 s2 : Bool) (xs ys : List (List Nat)) : Bool := decide (l1 = l2) && decide (s1 = s2) && decide (xs = ys)
theorem same_any (l1 l2 : Int) (s1 s2 : Bool) (v1 v2 : Value) (xs ys : List (List Nat)) (w : World) (h1 : w.rows u32V w.heap.size v1 xs) (h2 : w.rows u32V w.heap.size v2 ys) :
  Calls Tryz.prog 14 #[.agg #[.int .i64 l1, .bool s1, v1], .agg #[.int .i64 l2, .bool s2, v2]] w fun e w' => e = .returned (.bool (sameB l1 l2 s1 s2 xs ys)) ∧ Below w.heap.size w w' := by
 obtain ⟨W0, hW0⟩ : ∃ W0, W0 = (w.alloc (.cells #[.int .i64 l1, .bool s1, v1] 28)).alloc (.cells #[.int .i64 l2, .bool s2, v2] 28) := ⟨_, rfl⟩
 have hB0 : Below w.heap.size w W0 := by rw [hW0]; exact ((Below.refl _ w).alloc (Nat.le_refl _) _).alloc (by simp) _
 have g1 : W0.heap[w.heap.size]? = some (.cells #[.int .i64 l1, .bool s1, v1] 28) := by
  rw [hW0, Below.heap_alloc _ _ _ (by simp)]; exact alloc_last _ _ rfl
 have g2 : W0.heap[w.heap.size + 1]? = some (.cells #[.int .i64 l2, .bool s2, v2] 28) := by
  rw [hW0]; exact alloc_last _ _ (by simp)
 have HE := Lib.hid (equalF_any v1 v2 xs ys w.heap.size w.heap.size W0 (h1.below hB0) (h2.below hB0))
 obtain ⟨a1, c1, rfl, -⟩ := h1.shape
 obtain ⟨a2, c2, rfl, -⟩ := h2.shape
 obtain ⟨b, hb⟩ : ∃ b, b = decide (xs = ys) := ⟨_, rfl⟩
 obtain ⟨r, hr⟩ : ∃ r, r = sameB l1 l2 s1 s2 xs ys := ⟨_, rfl⟩
 rw [← hb] at HE
 rw [← hr]
 unfold sameB at hr
 rw [← hb] at hr
 obtain ⟨k0, k1, k2, -, -, -⟩ := elem_cells g1
 obtain ⟨j0, j1, j2, -, -, -⟩ := elem_cells g2
 have HW0 := Lib.hid hW0
 have HR := Lib.hid hr
 have HB0 := Lib.hid hB0
 clear h1 h2 hb hr hW0 g1 g2 hB0
 by_cases hl : l1 = l2
 ·subst hl
  have t1 : (l1 == l1) = true := by simp
  by_cases hs : s1 = s2
  ·subst hs
   have t2 : (s1 == s1) = true := by simp
   obtain rfl : r = b := by rw [HR.out]; simp
   go_enter Tryz.func14, Tryz.ntmps14
   go_upto_region 1 with (fail)
   rw [← HW0.out]
   go_wp2_with fail
   (with_reducible refine (HE.out).mono ?_)
   rintro e w1 ⟨rfl, n, rfl⟩
   go_wp2
   go_ret
   exact ⟨rfl, below_drewN HB0.out n⟩
  ·have t2 : (s1 == s2) = false := by simpa using hs
   obtain rfl : r = false := by rw [HR.out]; simp [hs]
   go_enter Tryz.func14, Tryz.ntmps14
   go_upto_region 1 with (fail)
   rw [← HW0.out]
   go_wp2
   go_ret
   exact ⟨rfl, HB0.out⟩
 ·have t1 : (l1 == l2) = false := by simpa using hl
  obtain rfl : r = false := by rw [HR.out]; simp [hl]
  go_enter Tryz.func14, Tryz.ntmps14
  go_upto_region 1 with (fail)
  rw [← HW0.out]
  go_wp2
  go_ret
  exact ⟨rfl, HB0.out⟩
end G
end Go.Proofs.YtkjlfjnncdkmlaaGreat
