/- Plain: a disk: records that stay, a record that is added. -/
import Derived.Test.YtjfmcobikadjhaaDP1
namespace Go.Proofs.Ytjfmcobikadjhaa
set_option linter.all false
open Go.RowKit Go.Shelf
theorem take_drop_congr {h h' : List UInt8} {e : Nat} (hh : ∀ i, i < e → h'[i]? = h[i]?) (a m : Nat) (ham : a + m ≤ e) : (h'.drop a).take m = (h.drop a).take m := by
  apply List.ext_getElem?
  intro i
  rw [List.getElem?_take, List.getElem?_take]
  split
  · rw [List.getElem?_drop, List.getElem?_drop, hh _ (by omega)]
  · rfl
theorem getD_congr {h h' : List UInt8} {k : Nat} (hh : h'[k]? = h[k]?) : h'.getD k 0 = h.getD k 0 := by rw [List.getD_eq_getElem?_getD, List.getD_eq_getElem?_getD, hh]
theorem nextR_congr {h h' : List UInt8} {g k e : Nat} {d : List UInt8} (hn : nextR h g k = some (e, d)) (hh : ∀ i, i < e → h'[i]? = h[i]?) (hl : h'.length = h.length) : nextR h' g k = some (e, d) := by
  obtain ⟨q1, q2, q3, q4, -⟩ := nextR_bounds hn
  have e0 := getD_congr (hh k (by omega))
  have e1 := take_drop_congr hh (k + 1) 4 (by omega)
  have hd : numL ((h.drop (k + 1)).take 4) = d.length := by
    unfold nextR at hn
    split at hn
    · injection hn with hn
      injection hn with h1 h2
      omega
    · cases hn
  have e2 := take_drop_congr hh (k + 1) (12 + d.length) (by omega)
  have e3 := take_drop_congr hh (k + 5) d.length (by omega)
  unfold nextR at hn ⊢
  rw [hl, e0, e1, hd, e2, e3]
  rw [hd] at hn
  exact hn
theorem nextR_off {h : List UInt8} {g k : Nat} (hk : h[k]? ≠ some 1) : nextR h g k = none := by
  unfold nextR
  rw [if_neg]
  rintro ⟨-, q, -⟩
  apply hk
  rw [List.getD_eq_getElem?_getD] at q
  cases hx : h[k]? with
  | none => rw [hx] at q; simp at q
  | some x => rw [hx] at q; simp at q; rw [q]
theorem lastF_cons (k : Nat) (x : Nat × List UInt8) (l : List (Nat × List UInt8)) : (((x :: l).getLast?.map (·.1)).getD k) = ((l.getLast?.map (·.1)).getD x.1) := by
  rw [List.getLast?_cons]
  cases hl : l.getLast? with
  | none => simp
  | some y => simp
/-- The records ahead of the end, in a half that is the same up to there. -/
theorem recF_ext {h h' : List UInt8} {g : Nat} (hl : h'.length = h.length) : ∀ (f k : Nat), h.length ≤ k + f → (∀ i, i < ((recF h g f k).getLast?.map (·.1)).getD k → h'[i]? = h[i]?) →
    ∃ f', h.length ≤ ((recF h g f k).getLast?.map (·.1)).getD k + f' ∧ recF h' g f k = recF h g f k ++ recF h' g f' (((recF h g f k).getLast?.map (·.1)).getD k) ∧ nextR h g (((recF h g f k).getLast?.map (·.1)).getD k) = none := by
  intro f
  induction f with
  | zero =>
    intro k hk hh
    refine ⟨0, hk, rfl, ?_⟩
    show nextR h g k = none
    unfold nextR; rw [if_neg]; rintro ⟨q, -⟩; omega
  | succ f ih =>
    intro k hk hh
    cases hn : nextR h g k with
    | none =>
      rw [recF_none hn] at hh ⊢
      exact ⟨f + 1, hk, rfl, hn⟩
    | some y =>
      obtain ⟨e, d⟩ := y
      obtain ⟨q1, q2, -, -, -⟩ := nextR_bounds hn
      rw [recF_some hn] at hh ⊢
      rw [lastF_cons] at hh ⊢
      simp only at hh ⊢
      have hle : e ≤ ((recF h g f e).getLast?.map (·.1)).getD e := by
        cases hl2 : (recF h g f e).getLast? with
        | none => simp
        | some x => simp; exact (recF_bounds _ _ _ (List.mem_of_getLast? hl2)).1
      obtain ⟨f', h1, h2, h3⟩ := ih e (by omega) hh
      refine ⟨f', h1, ?_, h3⟩
      rw [recF_some (nextR_congr hn (fun i hi => hh i (by omega)) hl), h2]
      rfl
theorem recs_ext {h h' : List UInt8} {g : Nat} (hl : h'.length = h.length) (hh : ∀ i, i < endR h g → h'[i]? = h[i]?) :
    ∃ f', h.length ≤ endR h g + f' ∧ recs h' g = recs h g ++ recF h' g f' (endR h g) := by
  obtain ⟨f', h1, h2, -⟩ := recF_ext (g := g) hl h.length 17 (by omega) hh
  refine ⟨f', h1, ?_⟩
  unfold recs
  rw [hl]; exact h2
theorem recs_end {h : List UInt8} {g : Nat} : nextR h g (endR h g) = none := by
  obtain ⟨f', h1, h2, h3⟩ := recF_ext (h' := h) (g := g) rfl h.length 17 (by omega) (fun _ _ => rfl)
  exact h3
theorem recs_same {h h' : List UInt8} {g : Nat} (hl : h'.length = h.length) (hh : ∀ i, i < endR h g → h'[i]? = h[i]?) (hn : nextR h' g (endR h g) = none) : recs h' g = recs h g := by
  obtain ⟨f', h1, h2⟩ := recs_ext hl hh
  rw [h2, recF_none hn, List.append_nil]
theorem recs_more {h h' : List UInt8} {g e : Nat} {r : List UInt8} (hl : h'.length = h.length) (hh : ∀ i, i < endR h g → h'[i]? = h[i]?) (hn : nextR h' g (endR h g) = some (e, r)) (hn2 : nextR h' g e = none) : recs h' g = recs h g ++ [(e, r)] := by
  obtain ⟨f', h1, h2⟩ := recs_ext hl hh
  obtain ⟨q1, q2, -, -, -⟩ := nextR_bounds hn
  obtain ⟨f2, rfl⟩ : ∃ f2, f' = f2 + 1 := ⟨f' - 1, by omega⟩
  rw [h2, recF_some hn, recF_none hn2]
theorem genL_congr {h h' : List UInt8} (hh : ∀ i, i < 17 → h'[i]? = h[i]?) : genL h' = genL h := by
  have e0 := getD_congr (hh 0 (by omega))
  have e1 := take_drop_congr hh 1 8 (by omega)
  have e2 := take_drop_congr hh 9 8 (by omega)
  unfold genL genB
  rw [e0, e1, e2]
theorem genL_off {h : List UInt8} (hk : h[0]? = some 0) : genL h = 0 := by
  have : genB h = false := by
    unfold genB
    rw [List.getD_eq_getElem?_getD, hk]
    rfl
  unfold genL
  rw [this]; rfl
end Go.Proofs.Ytjfmcobikadjhaa
