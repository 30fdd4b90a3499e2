/- Plain: a disk: what is written. -/
import Derived.Test.YtjfmcobikadjhaaDB8
namespace Go.Proofs.Ytjfmcobikadjhaa
set_option linter.all false
open Go.RowKit Go.Shelf
theorem putS_blocked (s : List UInt8) (st : Wr) (k : Nat) (h : st.failed = true) : (putS st k s).h = st.h ∧ (putS st k s).failed = true := by
  cases s with
  | nil => exact ⟨rfl, h⟩
  | cons c s => rw [putS_stop (by simp) (Or.inl h)]; exact ⟨rfl, rfl⟩
theorem putS_keeps (s : List UInt8) : ∀ (st : Wr) (k i : Nat), (i < k ∨ k + s.length ≤ i) → (putS st k s).h[i]? = st.h[i]? := by
  induction s with
  | nil => intro st k i _; rfl
  | cons c s ih =>
    intro st k i hi
    rw [putS]
    split
    · rfl
    · rw [ih _ _ _ (by rw [List.length_cons] at hi; omega)]
      simp only
      rw [List.getElem?_set_ne (by rw [List.length_cons] at hi; omega)]
theorem putS_full (s : List UInt8) : ∀ (st : Wr) (k : Nat), (putS st k s).failed = false → st.failed = false ∧ (∀ i, i < s.length → k + i < st.h.length → (putS st k s).h[k + i]? = s[i]?) := by
  induction s with
  | nil => intro st k h; exact ⟨h, fun i hi => by simp at hi⟩
  | cons c s ih =>
    intro st k h
    by_cases hb : st.failed = true ∨ st.fuse = 0
    · rw [putS_stop (by simp) hb] at h; cases h
    · rw [putS_step hb] at h ⊢
      obtain ⟨-, h2⟩ := ih _ _ h
      refine ⟨by cases hf : st.failed <;> simp_all, fun i hi hl => ?_⟩
      cases i with
      | zero =>
        rw [putS_keeps _ _ _ _ (Or.inl (by omega))]
        simp only [Nat.add_zero]
        rw [List.getElem?_set_self (by omega)]; rfl
      | succ i =>
        have := h2 i (by rw [List.length_cons] at hi; omega) (by simp; omega)
        rw [show k + (i + 1) = k + 1 + i by omega, this]; rfl
/-- So many bytes may be written. -/
def Wr.room (st : Wr) (m : Nat) : Prop := st.failed = false ∧ (st.fuse = -1 ∨ (m : Int) ≤ st.fuse)
theorem putS_room (s : List UInt8) : ∀ (st : Wr) (k m : Nat), st.room (s.length + m) → (putS st k s).room m := by
  induction s with
  | nil => intro st k m h; show st.room m; simpa using h
  | cons c s ih =>
    intro st k m h
    obtain ⟨h1, h2⟩ := h
    have hb : ¬ (st.failed = true ∨ st.fuse = 0) := by
      rw [h1]; simp at h2 ⊢; omega
    rw [putS_step hb]
    refine ih _ _ _ ⟨rfl, ?_⟩
    simp only
    rw [List.length_cons] at h2
    split <;> omega
theorem putS_count (s : List UInt8) : ∀ (st : Wr) (k : Nat), 0 ≤ st.fuse → (putS st k s).failed = false → (putS st k s).fuse = st.fuse - s.length ∧ 0 ≤ (putS st k s).fuse := by
  induction s with
  | nil => intro st k h _; simp [putS, h]
  | cons c s ih =>
    intro st k h hf
    by_cases hb : st.failed = true ∨ st.fuse = 0
    · rw [putS_stop (by simp) hb] at hf; cases hf
    · rw [putS_step hb] at hf ⊢
      have h0 : 0 < st.fuse := by
        rcases Int.lt_or_eq_of_le h with q | q
        · exact q
        · exact absurd (Or.inr q.symm) hb
      have := ih ⟨st.h.set k c, if 0 < st.fuse then st.fuse - 1 else st.fuse, false⟩ (k + 1) (by simp only; rw [if_pos h0]; omega) hf
      rw [this.1]
      simp only [if_pos h0] at this ⊢
      rw [List.length_cons]
      omega
/-- A mark is struck first and set last. -/
theorem mark_seq (st : Wr) (k : Nat) (f : Wr → Wr) (hk : k < st.h.length) (h1 : ∀ s : Wr, (f s).h[k]? = s.h[k]? ∧ (∀ i, i < k → (f s).h[i]? = s.h[i]?) ∧ (f s).h.length = s.h.length) (h2 : ∀ s : Wr, s.failed = true → (f s).h = s.h ∧ (f s).failed = true)
    (hf : (putS (f (putS st k [0])) k [1]).failed = true) :
    (putS (f (putS st k [0])) k [1]).h = st.h ∨ ((putS (f (putS st k [0])) k [1]).h[k]? = some 0 ∧ (∀ i, i < k → (putS (f (putS st k [0])) k [1]).h[i]? = st.h[i]?)) := by
  have hlast : (putS (f (putS st k [0])) k [1]).h = (f (putS st k [0])).h := by
    by_cases hb : (f (putS st k [0])).failed = true ∨ (f (putS st k [0])).fuse = 0
    · rw [putS_stop (by simp) hb]
    · rw [putS_step hb] at hf
      cases hf
  rw [hlast]
  by_cases hb : st.failed = true ∨ st.fuse = 0
  · left
    have h3 : putS st k [0] = ⟨st.h, st.fuse, true⟩ := putS_stop (by simp) hb
    rw [h3]
    exact (h2 _ rfl).1
  · right
    obtain ⟨a1, a2, -⟩ := h1 (putS st k [0])
    have h4 : (putS st k [0]).h = st.h.set k 0 := by rw [putS_step hb]; rfl
    refine ⟨by rw [a1, h4, List.getElem?_set_self hk], fun i hi => ?_⟩
    rw [a2 i hi, h4, List.getElem?_set_ne (by omega)]
end Go.Proofs.Ytjfmcobikadjhaa
