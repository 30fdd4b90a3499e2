/- Walks: a number divided by one of one word; quotients and rests from zero on. -/
import Derived.Test.YtdfklcmiagmgaaaWC1
namespace Go.Proofs.Ytdfklcmiagmgaaa
set_option linter.all false
open Go.RowKit Go.Shelf Go.WideNum
/-- A number that reads so. -/
abbrev World.numR (w : World) (v : Value) (n : Nat) : Prop := w.reads w.heap.size v ((wd n).map u32V)
theorem NumRet.numR {w w' : World} {v : Value} {n : Nat} (h : NumRet w n (.returned v) w') : World.numR w' v n := by
  obtain ⟨v', e, ho, hb⟩ := h
  injection e with e
  subst e
  exact ho.reads
theorem numR_below {w w' : World} {v : Value} {n : Nat} (h : World.numR w v n) (hb : Below w.heap.size w w') : World.numR w' v n := (World.reads.below h hb).mono hb.size
theorem numR_drewN {w : World} {v : Value} {n : Nat} (h : World.numR w v n) (k : Nat) : World.numR (w.drewN k) v n := h
theorem NumRet.bel {w w' : World} {e : Ending} {n : Nat} (h : NumRet w n e w') : Below w.heap.size w w' := h.choose_spec.2.2
def DivRet (w : World) (A C : Nat) (e : Ending) (w' : World) : Prop := ∃ v u, e = .returned (.tuple #[v, u]) ∧ World.numR w' v (A / C) ∧ World.numR w' u (A % C) ∧ Below w.heap.size w w'
/-- What divide does at two numbers. -/
def DivOK (A C : Nat) : Prop := ∀ (va vb : Value) (w : World), World.numR w va A → World.numR w vb C → Calls Try.prog 80 #[va, vb] w (DivRet w A C)
theorem wd_len1 (C : Nat) (h0 : C ≠ 0) (h1 : C < 4294967296) : (wd C).length = 1 ∧ dig 4294967296 C 0 = C := by
  refine ⟨?_, by rw [dig_zero, Nat.mod_eq_of_lt h1]⟩
  have h2 := words_length (B := 4294967296) (by omega) C 1 (by omega)
  have h3 := words_len0 (B := 4294967296) (by omega) C
  unfold wd
  omega
theorem row_one (r : Nat) (hr : r < 4294967296) : rowF (dig 4294967296 r) 1 = #[.int .u32 (r : Int)] := by
  unfold rowF u32V
  simp [List.range_succ, dig_zero, Nat.mod_eq_of_lt hr]
set_option maxRecDepth 100000 in
set_option maxHeartbeats 4000000 in
theorem divide_small (A C : Nat) (hC0 : C ≠ 0) (hsm : A < C ∨ C < 4294967296) (hla : (wd A).length ≤ 2000) (hlc : (wd C).length ≤ 2000) : DivOK A C := by
  intro va vb w hA hC
  obtain ⟨HPOST, hpost⟩ : ∃ R, R = DivRet w A C := ⟨_, rfl⟩
  rw [← hpost]
  have HP := Lib.hid hpost
  have HA : Hid (World.numR w va A) := hA
  have HC : Hid (World.numR w vb C) := hC
  clear hpost
  have hcmp := compare_num A C _ _ w hA hC hla hlc
  obtain ⟨aa, ca, rfl, -, -, -⟩ := reads_u32 hA
  obtain ⟨ab, cb, rfl, -, -, hsb⟩ := reads_u32 hC
  clear hA hC
  obtain ⟨R, hR⟩ : ∃ R, R = cmpN A C := ⟨_, rfl⟩
  rw [← hR] at hcmp
  have HCMP := Lib.hid hcmp
  clear hcmp
  by_cases hlt : A < C
  · have hre : R = -1 := by rw [hR, cmpN, if_pos hlt]
    subst hre
    clear hR hsb hsm
    go_enter Try.func80, Try.ntmps80
    go_wp2_with fail
    (with_reducible refine (HCMP.out).mono ?_)
    rintro e w1 ⟨rfl, n1, rfl⟩
    go_wp2
    rw [HP.out]
    refine ⟨.slice none 0 0, _, rfl, ?_, ?_, below_drewN (Below.refl _ _) _⟩
    · rw [Nat.div_eq_of_lt hlt]; exact reads_nil _ _
    · rw [Nat.mod_eq_of_lt hlt]; exact reads_drewN HA.out n1
  · have hre : R = 0 ∨ R = 1 := by
      rw [hR, cmpN, if_neg hlt]
      split
      · exact Or.inr rfl
      · exact Or.inl rfl
    have hR0 : ¬ R < 0 := by omega
    have hC32 : C < 4294967296 := by omega
    obtain ⟨hl1, hd1⟩ := wd_len1 C hC0 hC32
    obtain ⟨b, off, rfl, hbl, hx0⟩ := hsb 0 C (by have := wd_get C 0 (by omega); rwa [hd1] at this)
    rw [Nat.add_zero] at hx0
    obtain ⟨q, hq⟩ : ∃ q, q = (wd C).length := ⟨_, rfl⟩
    rw [← hq] at HC HCMP hlc hl1 ⊢
    subst hl1
    have hrl := Nat.lt_trans (Nat.mod_lt A (show 0 < C by omega)) hC32
    obtain ⟨r, er⟩ : ∃ r, r = A % C := ⟨_, rfl⟩
    rw [← er] at hrl
    have hsh := fun w1 h => short_any A C (by omega) hC32 (.slice aa (wd A).length ca) w1 h hla
    have HSH : Hid (∀ w1, World.numR w1 (.slice aa (wd A).length ca) A → Calls Try.prog 59 #[.slice aa (wd A).length ca, .int .u32 (C : Int)] w1 (ShortRet w1 A C)) := hsh
    have HNQ := Lib.hid hq
    have HER := Lib.hid er
    have HD1 := Lib.hid hd1
    have HC0 := Lib.hid hC0
    clear hR hre hsb hsm hsh hq er hd1 hC0
    go_enter Try.func80, Try.ntmps80
    go_wp2_with fail
    (with_reducible refine (HCMP.out).mono ?_)
    rintro e w1 ⟨rfl, n1, rfl⟩
    have hx : (w.drewN n1).cell? ⟨b, off, none⟩ = some (.int .u32 (C : Int)) := hx0
    clear hx0
    go_wp2_with fail
    (with_reducible refine (HSH.out (w.drewN n1) (numR_drewN HA.out n1)).mono ?_)
    rintro e w2 ⟨v, rfl, hr⟩
    have HR1 : Hid (NumRet w (A / C) (.returned v) w2) := hr.back_drew
    rw [← HER.out]
    clear hr
    go_wp2_with fail
    have hg : (w2.alloc (.cells #[.int .u32 (r : Int)] 47)).heap[w2.heap.size]? = some (.cells (rowF (dig 4294967296 r) 1) 47) := by rw [row_one r hrl]; exact heap_alloc_new w2 _
    have HG := Lib.hid hg
    clear hg
    obtain ⟨R2, HR2⟩ : ∃ R, Hid (R = (trimL ((List.range 1).map (dig 4294967296 r))).length) := ⟨_, rfl⟩
    (with_reducible refine (norm_rowF _ _ _ R2 HR2 _ _ HG.out (by omega)).mono ?_)
    rintro e w3 ⟨rfl, rfl⟩
    have hb3 : Below w2.heap.size w2 (w2.alloc (.cells #[.int .u32 (r : Int)] 47)) := (Below.refl _ _).alloc (Nat.le_refl _) _
    have HN := Lib.hid (num_retF HR2 HG.out hb3 (Nat.le_refl _) (by omega) (by omega)).numR
    have HB3 := Lib.hid hb3
    clear hb3
    go_wp2
    rw [HP.out]
    refine ⟨v, _, rfl, ?_, ?_, ?_⟩
    · exact numR_below HR1.out.numR HB3.out
    · rw [← HER.out]; exact HN.out
    · exact HR1.out.bel.trans (HB3.out.mono HR1.out.bel.size)
/-- Quotient and rest from zero on. -/
def floorN (A : Nat) (an : Bool) (C : Nat) : Nat := if an = true ∧ A % C ≠ 0 then A / C + 1 else A / C
def floorR (A : Nat) (an : Bool) (C : Nat) : Nat := if an = true ∧ A % C ≠ 0 then C - A % C else A % C
def FloorRet (w : World) (A : Nat) (an : Bool) (C : Nat) (bn : Bool) (e : Ending) (w' : World) : Prop := ∃ v u, e = .returned (.tuple #[v, .bool (an != bn), u]) ∧ World.numR w' v (floorN A an C) ∧ World.numR w' u (floorR A an C) ∧ Below w.heap.size w w'
end Go.Proofs.Ytdfklcmiagmgaaa
