/- Drawn regions with calls and allocations: what holds behind each operation is kept by whatever is allocated or called, so that an allocation may come up at any time. -/
import Derived.Test.YtnjblppapmflhaaWQ2
namespace Go
open Go.RowKit Go.Shelf
section
variable {P : Program} {ops : Array Oper} {Q : Exit → Act → World → Prop} {S : World → Prop} {late : Nat → Bool} {B : Nat} {N : Nat → Array Bool → Act → World → Prop}
/-- What holds of a world and of those that only grow out of it. -/
structure Fact (B : Nat) (S F : World → Prop) : Prop where
  mono : ∀ w w', F w → Below w.heap.size w w' → F w'
  base : ∀ w, F w → B ≤ w.heap.size ∧ S w
/-- The operations that are not late, from every world in which F holds. -/
def wpAnyA (P : Program) (ops : Array Oper) (Q : Exit → Act → World → Prop) (B : Nat) (S : World → Prop) (late : Nat → Bool) (N : Nat → Array Bool → Act → World → Prop) : Nat → Array Bool → Act → (World → Prop) → Prop
  | 0, listed, a, F => Region.ready .any ops listed = [] ∧ ∀ w, F w → N 0 listed a w
  | fuel + 1, listed, a, F =>
    ((∀ i ∈ Region.ready .any ops listed, late i = true) → ∀ w, F w → N (fuel + 1) listed a w) ∧
    ∀ i ∈ Region.ready .any ops listed, late i = false → ∀ w, F w → wpOp P ops Q i (fun a' w' => Below w.heap.size w w' ∧ ∃ F', Fact B S F' ∧ F' w' ∧ wpAnyA P ops Q B S late N fuel (listed.setIfInBounds i true) a' F') a w
theorem wpAny_of_A (hwait : ∀ i, late i = false → i < ops.size → waitsB ops late i = true) : ∀ (fuel : Nat) (listed : Array Bool) (a : Act) (F : World → Prop) (w : World),
    wpAnyA P ops Q B S late (fun fuel listed a w => wpAny P .any ops Q fuel listed a w) fuel listed a F → F w → wpAny P .any ops Q fuel listed a w := by
  intro fuel
  induction fuel with
  | zero => intro listed a F w H hF; exact H.2 w hF
  | succ fuel ih =>
    intro listed a F w H hF
    by_cases hall : ∀ i ∈ Region.ready .any ops listed, late i = true
    · exact H.1 hall w hF
    · have hex : ∃ i, i ∈ Region.ready .any ops listed ∧ late i = false := by
        refine Classical.byContradiction fun hno => hall fun i hi => ?_
        cases hl : late i with
        | true => rfl
        | false => exact absurd ⟨i, hi, hl⟩ hno
      obtain ⟨i0, hi0, hl0⟩ := hex
      have hs0 : i0 < ops.size := by
        obtain ⟨-, o, ho, -⟩ := mem_ready.1 hi0
        exact (Array.getElem?_eq_some_iff.1 ho).1
      refine ⟨fun h => (by rw [h] at hi0; cases hi0), fun j hj => ?_⟩
      have hjl : late j = false := by
        cases hl : late j with
        | false => rfl
        | true => exact (unlisted_not (mem_ready.1 hi0).1 (late_listed (hwait i0 hl0 hs0) hl hj)).elim
      exact wpOp_mono (fun a' w' ⟨_, F', _, hw', hA⟩ => ih _ a' F' w' hA hw') (H.2 j hj hjl w hF)
/-- An operation that yields in every world in which S holds, first. -/
theorem wpAnyA_first {i : Nat} {oi : Oper} {v : Value} (hl : late i = false) (hi : ops[i]? = some oi) (hsel : ∀ (j : Nat) (o : Oper) cs b, ops[j]? = some o → o.op ≠ .select cs b)
    (hQ : ∀ c a w, Q (.panic c) (a.put oi.dst v) w → Q (.panic c) a w) :
    ∀ (fuel : Nat) (listed : Array Bool) (a : Act) (F : World → Prop),
      (∀ j oj, ops[j]? = some oj → j ≠ i → listed.getD j true = false → (∀ e ∈ oj.after, Region.binds .any e = true → e.on ≠ i) → oi.apart ops oj = true) →
      i ∈ Region.ready .any ops listed → YieldsIf P ops S oi v a → Fact B S F →
      wpAnyA P ops Q B S late N fuel (listed.setIfInBounds i true) (a.put oi.dst v) F → wpAnyA P ops Q B S late N (fuel + 1) listed a F := by
  intro fuel
  induction fuel with
  | zero =>
    intro listed a F _ hr hy hF H
    refine ⟨fun h => absurd (h i hr) (by rw [hl]; decide), fun j hj _ w hw => ?_⟩
    by_cases hji : j = i
    · subst hji; exact hy.wpOp hi (hF.base w hw).2 ⟨Below.refl _ _, F, hF, hw, H⟩
    · have := ready_mono hj hji
      rw [H.1] at this
      cases this
  | succ fuel ih =>
    intro listed a F hfree hr hy hF H
    refine ⟨fun h => absurd (h i hr) (by rw [hl]; decide), fun j hj hjl w hw => ?_⟩
    by_cases hji : j = i
    · subst hji; exact hy.wpOp hi (hF.base w hw).2 ⟨Below.refl _ _, F, hF, hw, H⟩
    · have h1 := H.2 j (ready_mono hj hji) hjl w hw
      obtain ⟨hjun, oj, hoj, hall⟩ := mem_ready.1 hj
      have hnot : ∀ e ∈ oj.after, Region.binds .any e = true → e.on ≠ i := fun e he hb heq => by
        have h1 := hall e he hb
        rw [heq] at h1
        exact unlisted_not (mem_ready.1 hr).1 h1
      have h2 := wpOp_putIf hoj (hfree j oj hoj hji hjun hnot) (fun cs b => hsel i oi cs b hi) (fun cs b => hsel j oj cs b hoj) hQ hy h1
      have hfree' : ∀ k ok, ops[k]? = some ok → k ≠ i → (listed.setIfInBounds j true).getD k true = false →
          (∀ e ∈ ok.after, Region.binds .any e = true → e.on ≠ i) → oi.apart ops ok = true := fun k ok hk hki hun hno => by
        refine hfree k ok hk hki ?_ hno
        by_cases hjk : j = k
        · subst hjk; exact hjun
        · rw [getD_set_ne true hjk] at hun; exact hun
      refine wpOp_mono (fun a' w' h3 => ?_) h2
      obtain ⟨hy', hb, F', hF', hw', hA⟩ := h3
      refine ⟨hb, F', hF', hw', ih (listed.setIfInBounds j true) a' F' hfree' (ready_mono hr (Ne.symm hji)) hy' hF' ?_⟩
      rw [Array.setIfInBounds_comm _ _ hji]
      exact hA
/-- One operation, with another's value already in its temporary. -/
theorem wpOp_over {j : Nat} {oi oj : Oper} {v : Value} (hj : ops[j]? = some oj) (hap : oi.apart ops oj = true) (hsj : ∀ cs b, oj.op ≠ .select cs b)
    (hQ : ∀ c a w, Q (.panic c) a w → Q (.panic c) (a.put oi.dst v) w) {K : Act → World → Prop} {a : Act} {w : World} (h : wpOp P ops Q j K a w) :
    wpOp P ops Q j (fun a1 w1 => ∃ a', a1 = a'.put oi.dst v ∧ K a' w1) (a.put oi.dst v) w := by
  obtain ⟨h1, h2, h3⟩ := Oper.apart_spec hap
  unfold wpOp at *
  simp only [hj] at *
  rw [wanted_put oj a oi.dst v h1]
  split
  · rename_i hw
    simp only [hw, if_true] at h
    rcases h with h | ⟨hasks, hlets⟩
    case inr => exact .inr ⟨by unfold Oper.asks at *; rw [execOp_put oj hsj a oi.dst v h1]; exact hasks, hlets⟩
    refine .inl ?_
    unfold Oper.wp at *
    rw [execOp_put oj hsj a oi.dst v h1]
    generalize (execOp a.eval oj).run P w = r at *
    cases r with
    | ok n w' =>
      cases n <;> simp only [Oper.upon] at h ⊢
      case value u => exact ⟨_, Act.put_comm a v u h2, h⟩
      case skip => exact ⟨_, Act.put_comm a v undef h2, h⟩
      case defer d => exact ⟨_, by rw [Act.put_defers, Act.put_comm _ v undef h2], h⟩
      case enter f args =>
        refine Calls.mono h fun e w'' he => ?_
        cases e with
        | returned u => exact ⟨_, Act.put_comm a v u h2, he⟩
        | panicked c => exact hQ _ _ _ he
        | outgrown => exact he
      case row row args => exact Rows.mono h fun u w'' he => ⟨_, Act.put_comm a v u h2, he⟩
    | halt x w' =>
      cases x <;> simp only [Oper.upon] at h ⊢
      case panic u => exact hQ _ _ _ h
      all_goals exact h
  · rename_i hw
    simp only [hw] at h
    exact ⟨_, Act.put_comm a v undef h2, h⟩
/-- No operation that is not late looks at i's value. -/
def freeA (ops : Array Oper) (late : Nat → Bool) (listed : Array Bool) (i : Nat) : Bool :=
  match ops[i]? with
  | none => false
  | some oi => (List.range ops.size).all fun j => j == i || listed.getD j true || late j || match ops[j]? with
      | some oj => oi.apart ops oj
      | none => true
theorem freeA_spec {i : Nat} {oi : Oper} {listed : Array Bool} (hi : ops[i]? = some oi) (h : freeA ops late listed i = true) (j : Nat) (oj : Oper) (hj : ops[j]? = some oj) (hne : j ≠ i) (hun : listed.getD j true = false) (hl : late j = false) : oi.apart ops oj = true := by
  simp only [freeA, hi, List.all_eq_true, List.mem_range] at h
  have h1 := h j (Array.getElem?_eq_some_iff.1 hj).1
  simpa only [hj, Bool.or_eq_true, beq_iff_eq, hne, false_or, hun, hl, Bool.false_eq_true] using h1
/-- What is to be shown where the block's address is not known, but for C. -/
def WithC (C : Nat → Prop) (o : Obj) (dst : Option Tmp) (N : Nat → Array Bool → Act → World → Prop) : Nat → Array Bool → Act → World → Prop :=
  fun fuel listed a w => ∀ p, C p → w.heap[p]? = some o → N fuel listed (a.put dst (.pointer (some ⟨p, 0, none⟩))) w
def WithNew (B : Nat) (o : Obj) (dst : Option Tmp) (N : Nat → Array Bool → Act → World → Prop) : Nat → Array Bool → Act → World → Prop := WithC (fun p => B ≤ p) o dst N
def WithNew2 (B : Nat) (o1 o2 : Obj) (d1 d2 : Option Tmp) (N : Nat → Array Bool → Act → World → Prop) : Nat → Array Bool → Act → World → Prop :=
  fun fuel listed a w => ∀ p q, B ≤ p → B ≤ q → p ≠ q → w.heap[p]? = some o1 → w.heap[q]? = some o2 → N fuel listed ((a.put d1 (.pointer (some ⟨p, 0, none⟩))).put d2 (.pointer (some ⟨q, 0, none⟩))) w
theorem hold_heap {w w' : World} {g : Nat} {o : Obj} (h : w.heap[g]? = some o) (hb : Below w.heap.size w w') : w'.heap[g]? = some o := (hb.block _ (by
  rcases Nat.lt_or_ge g w.heap.size with h1 | h1
  · exact h1
  · rw [Array.getElem?_eq_none h1] at h; cases h)).trans h
theorem Fact.and {F : World → Prop} {p : Nat} {o : Obj} (hF : Fact B S F) : Fact B (fun w => S w ∧ w.heap[p]? = some o) (fun w => F w ∧ w.heap[p]? = some o) :=
  ⟨fun x y hx hxy => ⟨hF.mono x y hx.1 hxy, hold_heap hx.2 hxy⟩, fun x hx => ⟨(hF.base x hx.1).1, (hF.base x hx.1).2, hx.2⟩⟩
theorem wpAnyA_mono {S' : World → Prop} {N' : Nat → Array Bool → Act → World → Prop} (hS : ∀ w, S' w → S w) (hN : ∀ f l a w, N' f l a w → N f l a w) :
    ∀ (fuel : Nat) (listed : Array Bool) (a : Act) (F : World → Prop), wpAnyA P ops Q B S' late N' fuel listed a F → wpAnyA P ops Q B S late N fuel listed a F := by
  intro fuel
  induction fuel with
  | zero => intro listed a F H; exact ⟨H.1, fun w hw => hN _ _ _ _ (H.2 w hw)⟩
  | succ fuel ih =>
    intro listed a F H
    refine ⟨fun h w hw => hN _ _ _ _ (H.1 h w hw), fun j hj hjl w hw => wpOp_mono (fun a' w' h3 => ?_) (H.2 j hj hjl w hw)⟩
    obtain ⟨hb, F', hF', hw', hA⟩ := h3
    exact ⟨hb, F', ⟨hF'.mono, fun x hx => ⟨(hF'.base x hx).1, hS _ (hF'.base x hx).2⟩⟩, hw', ih _ _ _ hA⟩
theorem wpAnyA_over {i : Nat} {oi : Oper} {o : Obj} {p : Nat} {C : Nat → Prop} (hsel : ∀ (j : Nat) (o : Oper) cs b, ops[j]? = some o → o.op ≠ .select cs b)
    (hQ : ∀ v c a w, Q (.panic c) a w → Q (.panic c) (a.put oi.dst v) w) (hC : C p) :
    ∀ (fuel : Nat) (listed : Array Bool) (a : Act) (F : World → Prop), (∀ j oj, ops[j]? = some oj → j ≠ i → listed.getD j true = false → late j = false → oi.apart ops oj = true) → listed.getD i true = true →
      wpAnyA P ops Q B S late (WithC C o oi.dst N) fuel listed a F → wpAnyA P ops Q B (fun w => S w ∧ w.heap[p]? = some o) late N fuel listed (a.put oi.dst (.pointer (some ⟨p, 0, none⟩))) (fun w => F w ∧ w.heap[p]? = some o) := by
  intro fuel
  induction fuel with
  | zero => intro listed a F _ _ H; exact ⟨H.1, fun w hw => H.2 w hw.1 p hC hw.2⟩
  | succ fuel ih =>
    intro listed a F hfree hil H
    refine ⟨fun hall w hw => H.1 hall w hw.1 p hC hw.2, fun j hj hjl w hw => ?_⟩
    obtain ⟨hjun, oj, hoj, hall⟩ := mem_ready.1 hj
    have hji : j ≠ i := by
      rintro rfl
      rw [hil] at hjun
      cases hjun
    have h2 := wpOp_over (oi := oi) (v := .pointer (some ⟨p, 0, none⟩)) hoj (hfree j oj hoj hji hjun hjl) (fun cs b => hsel j oj cs b hoj) (hQ _) (H.2 j hj hjl w hw.1)
    refine wpOp_mono (fun a1 w1 h3 => ?_) h2
    obtain ⟨a', rfl, hb, F', hF', hw', hA⟩ := h3
    refine ⟨hb, _, hF'.and, ⟨hw', hold_heap hw.2 hb⟩, ih _ a' F' (fun k ok hk hki hun hl => ?_) ?_ hA⟩
    · refine hfree k ok hk hki ?_ hl
      by_cases hjk : j = k
      · subst hjk; exact hjun
      · rw [getD_set_ne true hjk] at hun; exact hun
    · rw [getD_set_ne true hji]; exact hil
theorem getD_set_self {l : Array Bool} {i : Nat} : (l.setIfInBounds i true).getD i true = true := by
  rcases Nat.lt_or_ge i l.size with h | h <;> simp [h]
theorem wpAnyA_alloc' {i : Nat} {oi : Oper} {o : Obj} {C : Nat → Prop} (hl : late i = false) (hi : ops[i]? = some oi) (hsel : ∀ (j : Nat) (o : Oper) cs b, ops[j]? = some o → o.op ≠ .select cs b)
    (hwant : ∀ y, Region.wanted oi y = true) (hrun : ∀ (a : Act) w, (execOp a.eval oi).run P w = .ok (.value (.pointer (some ⟨w.heap.size, 0, none⟩))) (w.alloc o))
    (hQ : ∀ v c a w, Q (.panic c) a w → Q (.panic c) (a.put oi.dst v) w) (hC : ∀ w, S w → B ≤ w.heap.size → C w.heap.size) :
    ∀ (fuel : Nat) (listed : Array Bool) (a : Act) (F : World → Prop), (∀ j oj, ops[j]? = some oj → j ≠ i → listed.getD j true = false → late j = false → oi.apart ops oj = true) →
      i ∈ Region.ready .any ops listed → Fact B S F →
      wpAnyA P ops Q B S late (WithC C o oi.dst N) fuel (listed.setIfInBounds i true) a F → wpAnyA P ops Q B S late N (fuel + 1) listed a F := by
  have hstep : ∀ (fuel : Nat) (listed : Array Bool) (a : Act) (F : World → Prop) (w : World), (∀ j oj, ops[j]? = some oj → j ≠ i → listed.getD j true = false → late j = false → oi.apart ops oj = true) →
      i ∈ Region.ready .any ops listed → Fact B S F → F w → wpAnyA P ops Q B S late (WithC C o oi.dst N) fuel (listed.setIfInBounds i true) a F →
      wpOp P ops Q i (fun a' w' => Below w.heap.size w w' ∧ ∃ F', Fact B S F' ∧ F' w' ∧ wpAnyA P ops Q B S late N fuel (listed.setIfInBounds i true) a' F') a w := by
    intro fuel listed a F w hfree hr hF hw H
    have hb : Below w.heap.size w (w.alloc o) := (Below.refl _ _).alloc (Nat.le_refl _) _
    have hB := (hF.base w hw).1
    have hfree' : ∀ j oj, ops[j]? = some oj → j ≠ i → (listed.setIfInBounds i true).getD j true = false → late j = false → oi.apart ops oj = true := fun j oj hj hji hun hjl => by
      rw [getD_set_ne true (Ne.symm hji)] at hun
      exact hfree j oj hj hji hun hjl
    unfold wpOp
    simp only [hi, hwant, if_true]
    refine .inl ?_
    unfold Oper.wp
    rw [hrun]
    exact ⟨hb, _, ⟨fun x y hx hxy => (hF.and (p := w.heap.size) (o := o)).mono x y hx hxy, fun x hx => hF.base x hx.1⟩, ⟨hF.mono _ _ hw hb, heap_alloc_new w o⟩, wpAnyA_mono (fun _ h => h.1) (fun _ _ _ _ h => h) _ _ _ _ (wpAnyA_over hsel hQ (hC w (hF.base w hw).2 hB) fuel _ a F hfree' getD_set_self H)⟩
  intro fuel
  induction fuel with
  | zero =>
    intro listed a F hfree hr hF H
    refine ⟨fun h => absurd (h i hr) (by rw [hl]; decide), fun j hj hjl w hw => ?_⟩
    by_cases hji : j = i
    · subst hji; exact hstep 0 listed a F w hfree hr hF hw H
    · have := ready_mono hj hji
      rw [H.1] at this
      cases this
  | succ fuel ih =>
    intro listed a F hfree hr hF H
    refine ⟨fun h => absurd (h i hr) (by rw [hl]; decide), fun j hj hjl w hw => ?_⟩
    by_cases hji : j = i
    · subst hji; exact hstep (fuel + 1) listed a F w hfree hr hF hw H
    · have h1 := H.2 j (ready_mono hj hji) hjl w hw
      obtain ⟨hjun, oj, hoj, hall⟩ := mem_ready.1 hj
      refine wpOp_mono (fun a' w' h3 => ?_) h1
      obtain ⟨hb, F', hF', hw', hA⟩ := h3
      refine ⟨hb, F', hF', hw', ih (listed.setIfInBounds j true) a' F' (fun k ok hk hki hun hkl => ?_) (ready_mono hr (Ne.symm hji)) hF' ?_⟩
      · refine hfree k ok hk hki ?_ hkl
        by_cases hjk : j = k
        · subst hjk; exact hjun
        · rw [getD_set_ne true hjk] at hun; exact hun
      · rw [Array.setIfInBounds_comm _ _ hji]
        exact hA
/-- One of two allocations: behind it the other's block is another. -/
theorem wpAnyA_half {i k : Nat} {oi ok : Oper} {o o2 : Obj} (hi : ops[i]? = some oi) (hk : ops[k]? = some ok) (hik : i ≠ k) (hlk : late k = false)
    (hsel : ∀ (j : Nat) (o : Oper) cs b, ops[j]? = some o → o.op ≠ .select cs b)
    (hwi : ∀ y, Region.wanted oi y = true) (hwk : ∀ y, Region.wanted ok y = true)
    (hri : ∀ (a : Act) w, (execOp a.eval oi).run P w = .ok (.value (.pointer (some ⟨w.heap.size, 0, none⟩))) (w.alloc o))
    (hrk : ∀ (a : Act) w, (execOp a.eval ok).run P w = .ok (.value (.pointer (some ⟨w.heap.size, 0, none⟩))) (w.alloc o2))
    (hQi : ∀ v c a w, Q (.panic c) a w → Q (.panic c) (a.put oi.dst v) w) (hQk : ∀ v c a w, Q (.panic c) a w → Q (.panic c) (a.put ok.dst v) w)
    (fuel : Nat) (listed : Array Bool) (a : Act) (F : World → Prop) (w : World)
    (hfi : ∀ j oj, ops[j]? = some oj → j ≠ i → j ≠ k → listed.getD j true = false → late j = false → oi.apart ops oj = true)
    (hfk : ∀ j oj, ops[j]? = some oj → j ≠ i → j ≠ k → listed.getD j true = false → late j = false → ok.apart ops oj = true) (hap : oi.apart ops ok = true)
    (hrik : k ∈ Region.ready .any ops (listed.setIfInBounds i true)) (hF : Fact B S F) (hw : F w)
    (H : wpAnyA P ops Q B S late (fun f l a w => ∀ p q, B ≤ p → B ≤ q → p ≠ q → w.heap[p]? = some o → w.heap[q]? = some o2 → N f l ((a.put ok.dst (.pointer (some ⟨q, 0, none⟩))).put oi.dst (.pointer (some ⟨p, 0, none⟩))) w) fuel ((listed.setIfInBounds i true).setIfInBounds k true) a F) :
    wpOp P ops Q i (fun a' w' => Below w.heap.size w w' ∧ ∃ F', Fact B S F' ∧ F' w' ∧ wpAnyA P ops Q B S late N (fuel + 1) (listed.setIfInBounds i true) a' F') a w := by
  have hb : Below w.heap.size w (w.alloc o) := (Below.refl _ _).alloc (Nat.le_refl _) _
  have hB := (hF.base w hw).1
  have hfi' : ∀ j oj, ops[j]? = some oj → j ≠ i → (listed.setIfInBounds i true).getD j true = false → late j = false → oi.apart ops oj = true := fun j oj hj hji hun hjl => by
    by_cases hjk : j = k
    · subst hjk
      rw [hk] at hj
      injection hj with hj
      subst hj; exact hap
    · rw [getD_set_ne true (Ne.symm hji)] at hun
      exact hfi j oj hj hji hjk hun hjl
  have hfk' : ∀ j oj, ops[j]? = some oj → j ≠ k → (listed.setIfInBounds i true).getD j true = false → late j = false → ok.apart ops oj = true := fun j oj hj hjk hun hjl => by
    have hji : j ≠ i := by
      rintro rfl
      rw [getD_set_self] at hun
      cases hun
    rw [getD_set_ne true (Ne.symm hji)] at hun
    exact hfk j oj hj hji hjk hun hjl
  unfold wpOp
  simp only [hi, hwi, if_true]
  refine .inl ?_
  unfold Oper.wp
  rw [hri]
  refine ⟨hb, _, ⟨fun x y hx hxy => (hF.and (p := w.heap.size) (o := o)).mono x y hx hxy, fun x hx => hF.base x hx.1⟩, ⟨hF.mono _ _ hw hb, heap_alloc_new w o⟩, ?_⟩
  -- the second one out, from behind the first
  have h1 : wpAnyA P ops Q B (fun x => S x ∧ x.heap[w.heap.size]? = some o) late (WithC (fun q => B ≤ q ∧ w.heap.size ≠ q) o2 ok.dst N) fuel ((listed.setIfInBounds i true).setIfInBounds k true) (a.put oi.dst (.pointer (some ⟨w.heap.size, 0, none⟩))) (fun x => F x ∧ x.heap[w.heap.size]? = some o) := by
    refine wpAnyA_over (i := i) (C := fun p => p = w.heap.size) hsel hQi rfl fuel _ a F (fun j oj hj hji hun hjl => ?_) ?_ ?_
    · have hjk : j ≠ k := by
        rintro rfl
        rw [getD_set_self] at hun
        cases hun
      rw [getD_set_ne true (Ne.symm hjk)] at hun
      exact hfi' j oj hj hji hun hjl
    · rw [getD_set_ne true (Ne.symm hik)]; exact getD_set_self
    · refine wpAnyA_mono (fun _ h => h) (fun f l a x h => ?_) _ _ _ _ H
      rintro p rfl hp q ⟨hq1, hq2⟩ hq
      have := h w.heap.size q hB hq1 hq2 hp hq
      rw [Act.put_comm _ _ _ (Oper.apart_spec hap).2.1]
      exact this
  refine wpAnyA_mono (fun _ h => h.1) (fun _ _ _ _ h => h) _ _ _ _ (wpAnyA_alloc' (S := fun x => S x ∧ x.heap[w.heap.size]? = some o) hlk hk hsel hwk hrk hQk (fun x hx hBx => ⟨hBx, ?_⟩) fuel _ _ _ hfk' hrik hF.and h1)
  have := hx.2
  rcases Nat.lt_or_ge w.heap.size x.heap.size with h | h
  · omega
  · rw [Array.getElem?_eq_none h] at this; cases this
theorem wpAnyA_alloc2' {i k : Nat} {oi ok : Oper} {o o2 : Obj} (hi : ops[i]? = some oi) (hk : ops[k]? = some ok) (hik : i ≠ k) (hli : late i = false) (hlk : late k = false)
    (hsel : ∀ (j : Nat) (o : Oper) cs b, ops[j]? = some o → o.op ≠ .select cs b)
    (hwi : ∀ y, Region.wanted oi y = true) (hwk : ∀ y, Region.wanted ok y = true)
    (hri : ∀ (a : Act) w, (execOp a.eval oi).run P w = .ok (.value (.pointer (some ⟨w.heap.size, 0, none⟩))) (w.alloc o))
    (hrk : ∀ (a : Act) w, (execOp a.eval ok).run P w = .ok (.value (.pointer (some ⟨w.heap.size, 0, none⟩))) (w.alloc o2))
    (hQi : ∀ v c a w, Q (.panic c) a w → Q (.panic c) (a.put oi.dst v) w) (hQk : ∀ v c a w, Q (.panic c) a w → Q (.panic c) (a.put ok.dst v) w) (hap : oi.apart ops ok = true) (hpa : ok.apart ops oi = true) :
    ∀ (fuel : Nat) (listed : Array Bool) (a : Act) (F : World → Prop),
      (∀ j oj, ops[j]? = some oj → j ≠ i → j ≠ k → listed.getD j true = false → late j = false → oi.apart ops oj = true) →
      (∀ j oj, ops[j]? = some oj → j ≠ i → j ≠ k → listed.getD j true = false → late j = false → ok.apart ops oj = true) →
      i ∈ Region.ready .any ops listed → k ∈ Region.ready .any ops listed → Fact B S F →
      wpAnyA P ops Q B S late (WithNew2 B o o2 oi.dst ok.dst N) fuel ((listed.setIfInBounds i true).setIfInBounds k true) a F → wpAnyA P ops Q B S late N (fuel + 2) listed a F := by
  have hputs : ∀ (a : Act) u v, (a.put ok.dst u).put oi.dst v = (a.put oi.dst v).put ok.dst u := fun a u v => (Act.put_comm a u v (Oper.apart_spec hpa).2.1)
  have go : ∀ (fuel : Nat) (listed : Array Bool) (a : Act) (F : World → Prop) (w : World) (j : Nat), (j = i ∨ j = k) → 
      (∀ j oj, ops[j]? = some oj → j ≠ i → j ≠ k → listed.getD j true = false → late j = false → oi.apart ops oj = true) →
      (∀ j oj, ops[j]? = some oj → j ≠ i → j ≠ k → listed.getD j true = false → late j = false → ok.apart ops oj = true) →
      i ∈ Region.ready .any ops listed → k ∈ Region.ready .any ops listed → Fact B S F → F w →
      wpAnyA P ops Q B S late (WithNew2 B o o2 oi.dst ok.dst N) fuel ((listed.setIfInBounds i true).setIfInBounds k true) a F →
      wpOp P ops Q j (fun a' w' => Below w.heap.size w w' ∧ ∃ F', Fact B S F' ∧ F' w' ∧ wpAnyA P ops Q B S late N (fuel + 1) (listed.setIfInBounds j true) a' F') a w := by
    intro fuel listed a F w j hj hfi hfk hri' hrk' hF hw H
    rcases hj with rfl | rfl
    · refine wpAnyA_half (o2 := o2) hi hk hik hlk hsel hwi hwk hri hrk hQi hQk fuel listed a F w hfi hfk hap (ready_mono hrk' (Ne.symm hik)) hF hw (wpAnyA_mono (fun _ h => h) (fun f l a x h => ?_) _ _ _ _ H)
      intro p q hp hq hpq h1 h2
      rw [hputs]
      exact h p q hp hq hpq h1 h2
    · refine wpAnyA_half (o2 := o) hk hi (Ne.symm hik) hli hsel hwk hwi hrk hri hQk hQi fuel listed a F w (fun j oj h1 h2 h3 => hfk j oj h1 h3 h2) (fun j oj h1 h2 h3 => hfi j oj h1 h3 h2) hpa (ready_mono hri' hik) hF hw ?_
      rw [Array.setIfInBounds_comm _ _ (Ne.symm hik)]
      refine wpAnyA_mono (fun _ h => h) (fun f l a x h => ?_) _ _ _ _ H
      intro p q hp hq hpq h1 h2
      exact h q p hq hp (Ne.symm hpq) h2 h1
  intro fuel
  induction fuel with
  | zero =>
    intro listed a F hfi hfk hr hr2 hF H
    refine ⟨fun h => absurd (h i hr) (by rw [hli]; decide), fun j hj hjl w hw => ?_⟩
    by_cases hji : j = i ∨ j = k
    · exact go 0 listed a F w j hji hfi hfk hr hr2 hF hw H
    · have := ready_mono (ready_mono hj (fun h => hji (.inl h))) (fun h => hji (.inr h))
      rw [H.1] at this
      cases this
  | succ fuel ih =>
    intro listed a F hfi hfk hr hr2 hF H
    refine ⟨fun h => absurd (h i hr) (by rw [hli]; decide), fun j hj hjl w hw => ?_⟩
    by_cases hji : j = i ∨ j = k
    · exact go (fuel + 1) listed a F w j hji hfi hfk hr hr2 hF hw H
    · have hne1 : j ≠ i := fun h => hji (.inl h)
      have hne2 : j ≠ k := fun h => hji (.inr h)
      have h1 := H.2 j (ready_mono (ready_mono hj hne1) hne2) hjl w hw
      refine wpOp_mono (fun a' w' h3 => ?_) h1
      obtain ⟨hb, F', hF', hw', hA⟩ := h3
      refine ⟨hb, F', hF', hw', ih (listed.setIfInBounds j true) a' F' (fun m om hm h1 h2 hun hl => ?_) (fun m om hm h1 h2 hun hl => ?_) (ready_mono hr (Ne.symm hne1)) (ready_mono hr2 (Ne.symm hne2)) hF' ?_⟩
      · refine hfi m om hm h1 h2 ?_ hl
        by_cases hjk : j = m
        · subst hjk; exact (mem_ready.1 hj).1
        · rw [getD_set_ne true hjk] at hun; exact hun
      · refine hfk m om hm h1 h2 ?_ hl
        by_cases hjk : j = m
        · subst hjk; exact (mem_ready.1 hj).1
        · rw [getD_set_ne true hjk] at hun; exact hun
      · rw [Array.setIfInBounds_comm _ _ hne1, Array.setIfInBounds_comm _ _ hne2]
        exact hA
/-- No operation that is not late looks at i's value, but it be k. -/
theorem wpAnyA_alloc2 (i k : Nat) {oi ok : Oper} {fuel : Nat} {listed : Array Bool} {a : Act} {F : World → Prop} (o o2 : Obj) (hr : (Region.ready .any ops listed).contains i = true) (hr2 : (Region.ready .any ops listed).contains k = true) (hik : i ≠ k) (hli : late i = false) (hlk : late k = false) (hi : ops.toList[i]? = some oi) (hk : ops.toList[k]? = some ok)
    (hs : Region.noSelect ops = true) (hf : freeA ops late listed i = true) (hf2 : freeA ops late listed k = true) (hap : oi.apart ops ok = true) (hpa : ok.apart ops oi = true) (hwi : ∀ y, Region.wanted oi y = true) (hwk : ∀ y, Region.wanted ok y = true)
    (hri : ∀ (a : Act) w, (execOp a.eval oi).run P w = .ok (.value (.pointer (some ⟨w.heap.size, 0, none⟩))) (w.alloc o))
    (hrk : ∀ (a : Act) w, (execOp a.eval ok).run P w = .ok (.value (.pointer (some ⟨w.heap.size, 0, none⟩))) (w.alloc o2))
    (hQi : ∀ v c a w, Q (.panic c) a w → Q (.panic c) (a.put oi.dst v) w) (hQk : ∀ v c a w, Q (.panic c) a w → Q (.panic c) (a.put ok.dst v) w) (hF : Fact B S F)
    (h : wpAnyA P ops Q B S late (WithNew2 B o o2 oi.dst ok.dst N) fuel ((listed.setIfInBounds i true).setIfInBounds k true) a F) : wpAnyA P ops Q B S late N (fuel + 2) listed a F :=
  wpAnyA_alloc2' (by simpa using hi) (by simpa using hk) hik hli hlk (Region.noSelect_spec hs) hwi hwk hri hrk hQi hQk hap hpa fuel listed a F (fun j oj h1 h2 _ => freeA_spec (by simpa using hi) hf j oj h1 h2) (fun j oj h1 _ h2 => freeA_spec (by simpa using hk) hf2 j oj h1 h2) (by simpa using hr) (by simpa using hr2) hF h
/-- What only grows out of one world. -/
theorem fact_below {W : World} (hB : B ≤ W.heap.size) (hS : ∀ w, Below W.heap.size W w → S w) : Fact B S (fun w => Below W.heap.size W w) :=
  ⟨fun _ _ h h2 => h.trans (h2.mono h.size), fun w h => ⟨Nat.le_trans hB h.size, hS w h⟩⟩
theorem wpAnyA_take (i : Nat) {oi : Oper} {v : Value} {fuel : Nat} {listed : Array Bool} {a : Act} {F : World → Prop} (hr : (Region.ready .any ops listed).contains i = true) (hl : late i = false) (hi : ops.toList[i]? = some oi)
    (hs : Region.noSelect ops = true) (hf : Region.free .any ops listed i = true)
    (hQ : ∀ c a w, Q (.panic c) (a.put oi.dst v) w → Q (.panic c) a w) (hy : YieldsIf P ops S oi v a) (hF : Fact B S F)
    (h : wpAnyA P ops Q B S late N fuel (listed.setIfInBounds i true) (a.put oi.dst v) F) : wpAnyA P ops Q B S late N (fuel + 1) listed a F :=
  wpAnyA_first hl (by simpa using hi) (Region.noSelect_spec hs) hQ fuel listed a F (Region.free_spec (by simpa using hi) hf) (by simpa using hr) hy hF h
theorem wpAnyA_alloc (i : Nat) {oi : Oper} {fuel : Nat} {listed : Array Bool} {a : Act} {F : World → Prop} (o : Obj) (hr : (Region.ready .any ops listed).contains i = true) (hl : late i = false) (hi : ops.toList[i]? = some oi)
    (hs : Region.noSelect ops = true) (hf : freeA ops late listed i = true) (hwant : ∀ y, Region.wanted oi y = true)
    (hrun : ∀ (a : Act) w, (execOp a.eval oi).run P w = .ok (.value (.pointer (some ⟨w.heap.size, 0, none⟩))) (w.alloc o))
    (hQ : ∀ v c a w, Q (.panic c) a w → Q (.panic c) (a.put oi.dst v) w) (hF : Fact B S F)
    (h : wpAnyA P ops Q B S late (WithNew B o oi.dst N) fuel (listed.setIfInBounds i true) a F) : wpAnyA P ops Q B S late N (fuel + 1) listed a F :=
  wpAnyA_alloc' hl (by simpa using hi) (Region.noSelect_spec hs) hwant hrun hQ (fun _ _ h => h) fuel listed a F (freeA_spec (by simpa using hi) hf) (by simpa using hr) hF h
theorem wpAnyA_step (i : Nat) {o : Oper} {fuel : Nat} {listed : Array Bool} {a : Act} {F : World → Prop} (hr : Region.ready .any ops listed = [i]) (hl : late i = false) (ho : ops.toList[i]? = some o)
    (h : ∀ w, F w → ∀ K' : Act → World → Prop, Shut (∀ a' w', Below w.heap.size w w' → ∀ F' : World → Prop, Fact B S F' → F' w' → wpAnyA P ops Q B S late N fuel (listed.setIfInBounds i true) a' F' → K' a' w') → if Region.wanted o (yielded ops a.tmps) = true then Oper.wp P o a w K' Q else K' (a.put o.dst undef) w) :
    wpAnyA P ops Q B S late N (fuel + 1) listed a F := by
  refine ⟨fun hall => ?_, fun j hj _ w hw => ?_⟩
  · have := hall i (by rw [hr]; exact List.mem_singleton.2 rfl)
    rw [hl] at this; cases this
  · rw [hr] at hj
    obtain rfl : j = i := by simpa using hj
    exact wpOp_step (by simpa using ho) (fun K' hK => h w hw K' (fun a' w' hb F' hF' hw' hA => hK a' w' ⟨hb, F', hF', hw', hA⟩))
theorem wpAnyA_end {fuel : Nat} {listed : Array Bool} {a : Act} {F : World → Prop} (hr : (Region.ready .any ops listed).all late = true) (h : ∀ w, F w → N (fuel + 1) listed a w) : wpAnyA P ops Q B S late N (fuel + 1) listed a F := by
  refine ⟨fun _ => h, fun i hi hl => ?_⟩
  have := List.all_eq_true.1 hr i hi
  rw [hl] at this; cases this
theorem wpAnyA_done {listed : Array Bool} {a : Act} {F : World → Prop} (hr : Region.ready .any ops listed = []) (h : ∀ w, F w → N 0 listed a w) : wpAnyA P ops Q B S late N 0 listed a F := ⟨hr, h⟩
/-- Late operations wait for all others. -/
def waitsA (ops : Array Oper) (late : Nat → Bool) : Bool := (List.range ops.size).all fun i => late i || waitsB ops late i
theorem waitsA_spec (h : waitsA ops late = true) (i : Nat) (hl : late i = false) (hi : i < ops.size) : waitsB ops late i = true := by
  have := List.all_eq_true.1 h i (List.mem_range.2 hi)
  rw [hl, Bool.false_or] at this
  exact this
theorem wp_region_A {id : Nat} {a : Act} {w : World} (B : Nat) (S F : World → Prop) (late : Nat → Bool) (hm : P.follows .mixedOrders = true) (hw : waitsA ops late = true) (hF : Fact B S F) (hFw : F w.drew)
    (h : Fact B S F → wpAnyA P ops Q B S late (fun fuel listed a w => wpAny P .any ops Q fuel listed a w) ops.size (Array.replicate ops.size false) a F) : (Code.region id ops true).wp P Q a w :=
  wp_region_any hm (wpAny_of_A (waitsA_spec hw) _ _ _ F _ (h hF) hFw)
end
end Go
