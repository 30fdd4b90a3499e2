/- Plain: a text leads back to the integer, and the integer to the text. -/
import Derived.Test.YtdfklcmiagmgaaaWD9
namespace Go.Proofs.Ytdfklcmiagmgaaa
set_option linter.all false
open Go.WideNum
def digs (d : List UInt8) : List Nat := d.reverse.map (fun c => c.toNat - 48)
theorem decV_digs (d : List UInt8) : decV d = valW 10 (digs d) := by
  have : ∀ r : List UInt8, decV r.reverse = valW 10 (r.map (fun c => c.toNat - 48)) := by
    intro r
    induction r with
    | nil => rfl
    | cons c r ih => rw [List.reverse_cons, decV_snoc, ih, List.map_cons, valW]; omega
  have h := this d.reverse
  rwa [List.reverse_reverse] at h
theorem isDig_spec {c : UInt8} (h : isDig c = true) : 48 ≤ c.toNat ∧ c.toNat ≤ 57 := of_decide_eq_true h
theorem digs_words (d : List UInt8) (h : ∀ c ∈ d, isDig c = true) (hh : d.head? ≠ some 48) : words 10 (decV d) = digs d := by
  rw [decV_digs]
  refine words_val (by omega) (digs d) (fun x hx => ?_) (fun x hx h0 => ?_) _ (Nat.le_refl _)
  · unfold digs at hx
    obtain ⟨c, hc, rfl⟩ := List.mem_map.1 hx
    have := isDig_spec (h c (List.mem_reverse.1 hc))
    show c.toNat - 48 < 10
    omega
  · unfold digs at hx
    rw [List.getLast?_map, List.getLast?_reverse] at hx
    cases hl : d.head? with
    | none => rw [hl] at hx; cases hx
    | some c =>
      rw [hl] at hx
      injection hx with hx
      have hcm : c ∈ d := by
        cases d with
        | nil => cases hl
        | cons a l => injection hl with hl; rw [hl]; simp
      have := isDig_spec (h c hcm)
      apply hh
      rw [hl]
      congr 1
      apply UInt8.toNat_inj.1
      show c.toNat = 48
      have hx' : c.toNat - 48 = x := hx
      omega
theorem undigs (d : List UInt8) (h : ∀ c ∈ d, isDig c = true) : ((digs d).map (fun x => 48 + x)).reverse.map UInt8.ofNat = d := by
  unfold digs
  rw [List.map_map, ← List.map_reverse, List.reverse_reverse, List.map_map]
  have : ∀ l : List UInt8, (∀ c ∈ l, isDig c = true) → l.map (UInt8.ofNat ∘ ((fun x => 48 + x) ∘ fun c => c.toNat - 48)) = l := by
    intro l
    induction l with
    | nil => intro _; rfl
    | cons c l ih =>
      intro h
      have hc := isDig_spec (h c (by simp))
      rw [List.map_cons, ih (fun x hx => h x (by simp [hx]))]
      congr 1
      show UInt8.ofNat (48 + (c.toNat - 48)) = c
      rw [show 48 + (c.toNat - 48) = c.toNat by omega]
      simp
  exact this d h
/-- The digits of a number as text. -/
def numT (n : Nat) : List UInt8 := ((words 10 n).map (fun x => 48 + x)).reverse.map UInt8.ofNat
theorem textL_eq (neg : Bool) (n : Nat) (hn : n ≠ 0) : textL neg n = (if neg then [45] else []) ++ numT n := by
  unfold textL textN numT
  rw [if_neg hn, decDig_words, List.reverse_append, List.map_append]
  cases neg <;> rfl
theorem numT_dig (n : Nat) : ∀ c ∈ numT n, isDig c = true := by
  intro c hc
  unfold numT at hc
  obtain ⟨x, hx, rfl⟩ := List.mem_map.1 hc
  obtain ⟨y, hy, rfl⟩ := List.mem_map.1 (List.mem_reverse.1 hx)
  have := words_lt (B := 10) (by omega) n n y hy
  unfold isDig
  apply decide_eq_true
  rw [UInt8.toNat_ofNat']
  show 48 ≤ (48 + y) % 256 ∧ (48 + y) % 256 ≤ 57
  omega
theorem numT_digs (n : Nat) : digs (numT n) = words 10 n := by
  unfold digs numT
  rw [← List.map_reverse, List.reverse_reverse, List.map_map, List.map_map]
  have : ∀ l : List Nat, (∀ x ∈ l, x < 10) → l.map ((fun c : UInt8 => c.toNat - 48) ∘ (UInt8.ofNat ∘ fun x => 48 + x)) = l := by
    intro l
    induction l with
    | nil => intro _; rfl
    | cons x l ih =>
      intro h
      have hx := h x (by simp)
      rw [List.map_cons, ih (fun y hy => h y (by simp [hy]))]
      congr 1
      show (UInt8.ofNat (48 + x)).toNat - 48 = x
      rw [UInt8.toNat_ofNat']
      show (48 + x) % 256 - 48 = x
      omega
  exact this _ (words_lt (by omega) _ _)
theorem numT_decV (n : Nat) : decV (numT n) = n := by rw [decV_digs, numT_digs]; exact val_words (by omega) n n (Nat.le_refl _)
theorem numT_length (n : Nat) : (numT n).length = (words 10 n).length := by simp [numT]
theorem numT_head (n : Nat) (hn : n ≠ 0) : ∃ c, (numT n).head? = some c ∧ 49 ≤ c.toNat ∧ c.toNat ≤ 57 := by
  have h1 := words_trimmed (B := 10) (by omega) n n (Nat.le_refl _)
  have h0 : ¬ (words 10 n).length = 0 := fun h => hn ((words_len0 (B := 10) (by omega) n).1 h)
  cases hl : (words 10 n).getLast? with
  | none =>
    have := List.getLast?_eq_none_iff.1 hl
    rw [this] at h0; exact absurd rfl h0
  | some x =>
    have hx0 := h1 x hl
    have hx10 := words_lt (B := 10) (by omega) n n x (List.mem_of_getLast? hl)
    refine ⟨UInt8.ofNat (48 + x), ?_, ?_⟩
    · unfold numT
      rw [List.head?_map, List.head?_reverse, List.getLast?_map, hl]; rfl
    · rw [UInt8.toNat_ofNat']
      show 49 ≤ (48 + x) % 256 ∧ (48 + x) % 256 ≤ 57
      omega
theorem lim617 : lim < 10 ^ 617 := by unfold lim; decide +kernel
theorem numT_len {n : Nat} (h : n < lim) : (numT n).length ≤ 617 := by
  rw [numT_length]
  exact words_length (by omega) n 617 (Nat.lt_trans h lim617)
theorem zero_read : readZ (textL false 0) = (outZ (zOf false 0), errZ (zOf false 0)) := by kernel_rfl
/-- Read of the text. -/
theorem read_text (neg : Bool) (n : Nat) (hn : n < lim) (hz : neg = true → n ≠ 0) : readZ (textL neg n) = (outZ (zOf neg n), errZ (zOf neg n)) := by
  by_cases h0 : n = 0
  · subst h0
    have hneg : neg = false := by cases neg with
      | false => rfl
      | true => exact absurd rfl (hz rfl)
    subst hneg
    clear hz hn
    show readZ (textL false 0) = (outZ (zOf false 0), errZ (zOf false 0))
    exact zero_read
  · obtain ⟨c, hc1, hc2, hc3⟩ := numT_head n h0
    have hrn : readNeg (textL neg n) = neg ∧ readDig (textL neg n) = numT n := by
      rw [textL_eq neg n h0]
      unfold readDig readNeg
      cases neg with
      | true => exact ⟨rfl, rfl⟩
      | false =>
        simp only [Bool.false_eq_true, if_false, List.nil_append, hc1]
        have : (some c == some (45 : UInt8)) = false := by
          rw [beq_eq_false_iff_ne]
          intro h
          injection h with h
          rw [h] at hc2
          exact absurd hc2 (by decide)
        rw [this]
        exact ⟨rfl, rfl⟩
    unfold readZ
    rw [hrn.1, hrn.2]
    unfold digRes
    have hb : headBad neg (numT n) = false := by
      unfold headBad
      rw [hc1]
      have : (some c == some (48 : UInt8)) = false := by
        rw [beq_eq_false_iff_ne]
        intro h
        injection h with h
        rw [h] at hc2
        exact absurd hc2 (by decide)
      rw [this]
      cases hl : numT n with
      | nil => rw [hl] at hc1; cases hc1
      | cons a l => rfl
    rw [hb, List.all_eq_true.2 (numT_dig n), if_neg (by decide), if_neg (by have := numT_len hn; omega), numT_decV]
/-- The text of what is read. -/
theorem text_read (l : List UInt8) (h : (readZ l).2 = 0) : ∃ neg n, (readZ l).1 = wideV neg (magB n) ∧ n < lim ∧ (neg = true → n ≠ 0) ∧ textL neg n = l := by
  unfold readZ at h ⊢
  obtain ⟨neg, hneg⟩ : ∃ b, b = readNeg l := ⟨_, rfl⟩
  obtain ⟨d, hd⟩ : ∃ d, d = readDig l := ⟨_, rfl⟩
  have hl : l = (if neg then [45] else []) ++ d := by
    rw [hd, hneg]
    unfold readDig
    by_cases hb : readNeg l = true
    · rw [hb, if_pos rfl, if_pos rfl]
      unfold readNeg at hb
      cases l with
      | nil => cases hb
      | cons a t =>
        have : a = 45 := by simpa using hb
        rw [this]; rfl
    · have hb2 : readNeg l = false := by simpa using hb
      rw [hb2]; rfl
  rw [← hneg, ← hd] at h ⊢
  unfold digRes at h ⊢
  by_cases hbad : (headBad neg d || !d.all isDig) = true
  · rw [if_pos hbad] at h; cases h
  · rw [if_neg hbad] at h ⊢
    by_cases hlen : 617 < d.length
    · rw [if_pos hlen] at h; cases h
    · rw [if_neg hlen] at h ⊢
      have hb2 : headBad neg d = false ∧ d.all isDig = true := by
        cases h1 : headBad neg d <;> cases h2 : d.all isDig <;> rw [h1, h2] at hbad <;> simp at hbad ⊢
      obtain ⟨hb, hall⟩ := hb2
      have hdig := List.all_eq_true.1 hall
      have hlim : (zOf neg (decV d)).natAbs < lim := by
        rcases Nat.lt_or_ge (zOf neg (decV d)).natAbs lim with h1 | h1
        · exact h1
        · exfalso
          have := (outZ_out (zOf neg (decV d)) (by omega)).2
          rw [this] at h
          cases h
      have ho := (outZ_in _ hlim).1
      rw [zOf_natAbs] at hlim
      rw [zOf_natAbs, zOf_neg] at ho
      have hne : d ≠ [] := by
        intro h0
        rw [h0] at hb
        cases hb
      obtain ⟨c, t, hct⟩ := List.exists_cons_of_ne_nil hne
      by_cases h48 : c = 48
      · have hs : neg = false ∧ d.length = 1 := by
          unfold headBad at hb
          rw [hct, h48] at hb
          simp only [List.isEmpty_cons, Bool.false_or, List.head?_cons] at hb
          have hb' : (neg || decide (1 < (48 :: t : List UInt8).length)) = false := by simpa using hb
          rw [Bool.or_eq_false_iff, decide_eq_false_iff_not] at hb'
          rw [hct]
          exact ⟨hb'.1, by have := hb'.2; simp at this ⊢; exact this⟩
        obtain ⟨rfl, hl1⟩ := hs
        have ht : t = [] := by rw [hct] at hl1; simpa using hl1
        have hd48 : d = [48] := by rw [hct, h48, ht]
        refine ⟨false, 0, ?_, lim_pos, by simp, ?_⟩
        · rw [hd48]; kernel_rfl
        · rw [hl, hd48]; rfl
      · have hhd : d.head? ≠ some 48 := by
          rw [hct]
          intro h1
          injection h1 with h1
          exact h48 h1
        have hw := digs_words d hdig hhd
        have hn0 : decV d ≠ 0 := by
          intro h0
          rw [h0] at hw
          have : (digs d).length = 0 := by rw [← hw]; rfl
          unfold digs at this
          rw [List.length_map, List.length_reverse] at this
          exact hne (List.eq_nil_of_length_eq_zero this)
        refine ⟨neg, decV d, ?_, hlim, fun _ => hn0, ?_⟩
        · show outZ _ = _
          rw [ho, decide_eq_true hn0, Bool.and_true]
        · rw [textL_eq neg _ hn0, hl]
          congr 1
          unfold numT
          rw [hw]
          exact undigs d hdig
theorem valid_magB (neg : Bool) (n : Nat) (h : n < lim) (hz : neg = true → n ≠ 0) : validB neg (magB n) = true ∧ numB (magB n) = n := by
  have hnum : numB (magB n) = n := by unfold numB magB; exact valM_magL n
  refine ⟨?_, hnum⟩
  unfold validB
  have hl := magL_length n
  by_cases h0 : n = 0
  · subst h0
    cases neg with
    | false => rfl
    | true => exact absurd rfl (hz rfl)
  · have hsz : (magB n).size = (words 256 n).length := by rw [← hl]; rfl
    have hw0 : ¬ (words 256 n).length = 0 := fun h => h0 ((words_len0 (B := 256) (by omega) n).1 h)
    rw [dif_neg (by rw [hsz]; exact hw0)]
    have h256 := (lim_iff n _ rfl).1 h
    rw [Bool.and_eq_true]
    refine ⟨decide_eq_true ?_, decide_eq_true (by rw [hsz]; exact h256)⟩
    intro hz0
    have htr := words_trimmed (B := 256) (by omega) n n (Nat.le_refl _)
    have hp : 0 < (magL n).length := by rw [hl]; omega
    have e1 : (magL n)[0] = 0 := hz0
    have e2 : (magL n).head? = some 0 := by rw [List.head?_eq_getElem?, List.getElem?_eq_getElem hp, e1]
    unfold magL at e2
    rw [List.head?_reverse, List.getLast?_map] at e2
    cases hg : (words 256 n).getLast? with
    | none => rw [hg] at e2; cases e2
    | some x =>
      rw [hg] at e2
      injection e2 with e2
      have hx := htr x hg
      have hx2 := words_lt (B := 256) (by omega) n n x (List.mem_of_getLast? hg)
      have : (UInt8.ofNat x).toNat = 0 := by
        have e3 : UInt8.ofNat x = 0 := e2
        rw [e3]; rfl
      rw [UInt8.toNat_ofNat'] at this
      have e4 : x % 256 = 0 := this
      omega
theorem cmpZ_facts (a b : Int) : cmpZ a b = -cmpZ b a ∧ -1 ≤ cmpZ a b ∧ cmpZ a b ≤ 1 ∧ (cmpZ a b = 0 ↔ a = b) := by
  unfold cmpZ
  rcases Int.lt_trichotomy a b with h | h | h
  · rw [if_pos h, if_neg (by omega), if_pos h]; omega
  · subst h; rw [if_neg (by omega), if_neg (by omega)]; simp
  · rw [if_neg (by omega), if_pos h, if_pos h]; omega
end Go.Proofs.Ytdfklcmiagmgaaa
