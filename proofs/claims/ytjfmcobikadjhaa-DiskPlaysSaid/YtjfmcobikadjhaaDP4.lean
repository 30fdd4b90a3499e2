/- Plain: a disk: all records are replaced. -/
import Derived.Test.YtjfmcobikadjhaaDP3
namespace Go.Proofs.Ytjfmcobikadjhaa
set_option linter.all false
open Go.RowKit Go.Shelf
theorem encT_prefix (g : Nat) (a b : List (List UInt8)) : ∃ rest, encT g (a ++ b) = encT g a ++ rest := by
  induction b using rev_ind with
  | h0 => exact ⟨[], by simp⟩
  | h1 b s ih =>
    obtain ⟨rest, h⟩ := ih
    rw [← List.append_assoc, encT_snoc, h]
    exact ⟨rest ++ 1 :: bodyL g (17 + (encT g a ++ rest).length) s, by rw [List.append_assoc]⟩
theorem recs_text {h : List UInt8} {g n : Nat} {l : List (List UInt8)} (hn : h.length = n) (h17 : 17 ≤ n) (hs : sumR l ≤ n) (hl : ∀ s ∈ l, s.length ≤ 65535) (ht : ∀ i, h[17 + i]? = (padT (n - 17) (encT g l))[i]?) :
    (recs h g).map (·.2) = l ∧ endR h g = sumR l := by
  have hel := encT_length g l
  have key : ∀ j, j ≤ l.length → ∃ f' pre, n ≤ 17 + (encT g (l.take j)).length + f' ∧ recs h g = pre ++ recF h g f' (17 + (encT g (l.take j)).length) ∧ pre.map (·.2) = l.take j ∧ lastE pre = 17 + (encT g (l.take j)).length := by
    intro j
    induction j with
    | zero => intro _; exact ⟨n, [], by omega, by unfold recs; rw [hn]; rfl, rfl, rfl⟩
    | succ j ih =>
      intro hj
      obtain ⟨f', pre, h1, h2, h3, -⟩ := ih (by omega)
      obtain ⟨s, hs1⟩ : ∃ s, l[j]? = some s := ⟨l[j], List.getElem?_eq_getElem (by omega)⟩
      have htk : l.take (j + 1) = l.take j ++ [s] := by rw [List.take_add_one, hs1]; rfl
      have hse := encT_snoc g (l.take j) s
      rw [← htk] at hse
      obtain ⟨rest, hrest⟩ := encT_prefix g (l.take (j + 1)) (l.drop (j + 1))
      rw [List.take_append_drop, hse] at hrest
      obtain ⟨T, hT⟩ : ∃ T, T = encT g (l.take j) := ⟨_, rfl⟩
      rw [← hT] at h1 h2 hse hrest
      have hbl := bodyL_length g (17 + T.length) s
      have hle : T.length + 13 + s.length ≤ (encT g l).length := by
        rw [hrest, List.length_append, List.length_append, List.length_cons, hbl]; omega
      have hat : ∀ i, i < 13 + s.length → h[17 + T.length + i]? = (1 :: bodyL g (17 + T.length) s)[i]? := by
        intro i hi
        rw [show 17 + T.length + i = 17 + (T.length + i) by omega, ht]
        unfold padT
        rw [List.getElem?_append_left (by omega), hrest, List.append_assoc, List.getElem?_append_right (by omega), Nat.add_sub_cancel_left, List.getElem?_append_left (by rw [List.length_cons, hbl]; omega)]
      have hnx : nextR h g (17 + T.length) = some (17 + T.length + 13 + s.length, s) := by
        refine nextR_written ?_ (fun i hi => ?_) (by omega) (hl s (List.mem_of_getElem? hs1))
        · have := hat 0 (by omega)
          exact this
        · have := hat (i + 1) (by omega)
          rw [show 17 + T.length + (i + 1) = 17 + T.length + 1 + i by omega] at this
          rw [this]; rfl
      obtain ⟨f2, rfl⟩ : ∃ f2, f' = f2 + 1 := ⟨f' - 1, by omega⟩
      have hln : 17 + (encT g (l.take (j + 1))).length = 17 + T.length + 13 + s.length := by rw [hse, List.length_append, List.length_cons, hbl]; omega
      refine ⟨f2, pre ++ [(17 + T.length + 13 + s.length, s)], by omega, ?_, ?_⟩
      · rw [h2, recF_some hnx, hln, List.append_assoc]; rfl
      · refine ⟨by rw [List.map_append, h3, htk]; rfl, ?_⟩
        rw [lastE_snoc, hln]
  obtain ⟨f', pre, h1, h2, h3, h4⟩ := key l.length (Nat.le_refl _)
  rw [List.take_length] at h1 h2 h3 h4
  have hno : nextR h g (17 + (encT g l).length) = none := by
    refine nextR_off ?_
    rw [ht]
    unfold padT
    rw [List.getElem?_append_right (Nat.le_refl _), Nat.sub_self, List.getElem?_replicate]
    split <;> simp
  rw [recF_none hno, List.append_nil] at h2
  refine ⟨by rw [h2, h3], ?_⟩
  unfold endR
  rw [h2, h4]; omega
theorem rew_law (st : Wr) (n G : Nat) (l : List (List UInt8)) (hn : st.h.length = n) (h64 : 64 ≤ n) (hs : sumR l ≤ n) (hl : ∀ s ∈ l, s.length ≤ 65535) (hG : 1 ≤ G) (hG2 : G < 9223372036854775808) :
    (rewS st n G l).h.length = n ∧ ((rewS st n G l).failed = true → genL (rewS st n G l).h = genL st.h ∨ genL (rewS st n G l).h = 0) ∧
      ((rewS st n G l).failed = false → genL (rewS st n G l).h = G ∧ (recs (rewS st n G l).h G).map (·.2) = l ∧ endR (rewS st n G l).h G = sumR l) := by
  have hel := encT_length G l
  have hpl : (padT (n - 17) (encT G l)).length = n - 17 := padT_length _ _ (by omega)
  have hlen : (rewS st n G l).h.length = n := by
    unfold rewS
    rw [putS_length, putS_length, putS_length, putS_length, hn]
  have hhl : (eightL G ++ shortL (eightL G)).length = 16 := by rw [List.length_append, eightL_length, shortL_length]
  refine ⟨hlen, fun h => ?_, fun h => ?_⟩
  · have hm := mark_seq st 0 (fun s => putS (putS s 17 (padT (n - 17) (encT G l))) 1 (eightL G ++ shortL (eightL G))) (by omega)
      (fun s => ⟨by rw [putS_keeps _ _ _ _ (Or.inl (by omega)), putS_keeps _ _ _ _ (Or.inl (by omega))], fun i hi => by omega, by rw [putS_length, putS_length]⟩)
      (fun s hs => by
        obtain ⟨a1, a2⟩ := putS_blocked (padT (n - 17) (encT G l)) s 17 hs
        obtain ⟨b1, b2⟩ := putS_blocked (eightL G ++ shortL (eightL G)) _ 1 a2
        exact ⟨b1.trans a1, b2⟩) h
    rcases hm with hm | ⟨hm, -⟩
    · left; rw [show (rewS st n G l).h = st.h from hm]
    · right; exact genL_off hm
  · have h4 := h
    unfold rewS at h4
    obtain ⟨f3, c4⟩ := putS_full _ _ _ h4
    obtain ⟨f2, c3⟩ := putS_full _ _ _ f3
    obtain ⟨f1, c2⟩ := putS_full _ _ _ f2
    have e0 : (rewS st n G l).h[0]? = some 1 := c4 0 (by simp) (by rw [putS_length, putS_length, putS_length, hn]; omega)
    have e1 : ∀ i, i < 16 → (rewS st n G l).h[1 + i]? = (eightL G ++ shortL (eightL G))[i]? := by
      intro i hi
      unfold rewS
      rw [putS_keeps _ _ _ _ (Or.inr (by simp only [List.length_singleton]; omega))]
      exact c3 i (by omega) (by rw [putS_length, putS_length, hn]; omega)
    have e2 : ∀ i, (rewS st n G l).h[17 + i]? = (padT (n - 17) (encT G l))[i]? := by
      intro i
      rcases Nat.lt_or_ge i (n - 17) with hi | hi
      · unfold rewS
        rw [putS_keeps _ _ _ _ (Or.inr (by simp only [List.length_singleton]; omega)), putS_keeps _ _ _ _ (Or.inr (by omega))]
        exact c2 i (by omega) (by rw [putS_length, hn]; omega)
      · rw [List.getElem?_eq_none (by omega), List.getElem?_eq_none (by omega)]
    have d1 : ((rewS st n G l).h.drop 1).take 8 = eightL G := by
      apply List.ext_getElem?
      intro i
      rw [List.getElem?_take]
      split
      · rw [List.getElem?_drop, e1 i (by omega), List.getElem?_append_left (by rw [eightL_length]; omega)]
      · rw [List.getElem?_eq_none (by rw [eightL_length]; omega)]
    have d2 : ((rewS st n G l).h.drop 9).take 8 = shortL (eightL G) := by
      apply List.ext_getElem?
      intro i
      rw [List.getElem?_take]
      split
      · rw [List.getElem?_drop, show 9 + i = 1 + (8 + i) by omega, e1 (8 + i) (by omega), List.getElem?_append_right (by rw [eightL_length]; omega), eightL_length, Nat.add_sub_cancel_left]
      · rw [List.getElem?_eq_none (by rw [shortL_length]; omega)]
    have hg : genB (rewS st n G l).h = true := by
      unfold genB
      rw [d1, d2, numL_eight G (by omega), List.getD_eq_getElem?_getD, e0]
      simp
      omega
    refine ⟨?_, recs_text hlen (by omega) hs hl e2⟩
    unfold genL
    rw [hg, d1, numL_eight G (by omega)]; rfl
/-! ### counting -/
theorem app_room (st : Wr) (n g k : Nat) (r : List UInt8) (h : st.room (15 + r.length)) : (appS st n g k r).failed = false := by
  unfold appS
  have hb := bodyL_length g k r
  have h1 : (putS st k [0]).room (14 + r.length) := putS_room _ _ _ _ (by rw [show ([0] : List UInt8).length + (14 + r.length) = 15 + r.length by simp; omega]; exact h)
  have h2 : (if k + 13 + r.length < n then putS (putS st k [0]) (k + 13 + r.length) [0] else putS st k [0]).room (13 + r.length) := by
    split
    · exact putS_room _ _ _ _ (by rw [show ([0] : List UInt8).length + (13 + r.length) = 14 + r.length by simp; omega]; exact h1)
    · exact ⟨h1.1, by have := h1.2; omega⟩
  have h3 := putS_room (bodyL g k r) _ (k + 1) 1 (by rw [hb, show 12 + r.length + 1 = 13 + r.length by omega]; exact h2)
  exact (putS_room [1] _ k 0 (by simpa using h3)).1
theorem rew_room (st : Wr) (n G : Nat) (l : List (List UInt8)) (h17 : 17 ≤ n) (hs : sumR l ≤ n) (h : st.room (n + 1)) : (rewS st n G l).failed = false := by
  unfold rewS
  have hel := encT_length G l
  have hpl : (padT (n - 17) (encT G l)).length = n - 17 := padT_length _ _ (by omega)
  have hhl : (eightL G ++ shortL (eightL G)).length = 16 := by rw [List.length_append, eightL_length, shortL_length]
  have h1 : (putS st 0 [0]).room n := putS_room _ _ _ _ (by rw [show ([0] : List UInt8).length + n = n + 1 by simp; omega]; exact h)
  have h2 := putS_room (padT (n - 17) (encT G l)) _ 17 17 (by rw [hpl, show n - 17 + 17 = n by omega]; exact h1)
  have h3 := putS_room (eightL G ++ shortL (eightL G)) _ 1 1 (by rw [hhl]; exact h2)
  exact (putS_room [1] _ 0 0 (by simpa using h3)).1
theorem rew_short (st : Wr) (n G : Nat) (l : List (List UInt8)) (h64 : 64 ≤ n) (hs : sumR l ≤ n) (h0 : 0 ≤ st.fuse) (h1 : st.fuse ≤ 40) : (rewS st n G l).failed = true := by
  have hel := encT_length G l
  have hpl : (padT (n - 17) (encT G l)).length = n - 17 := padT_length _ _ (by omega)
  cases hf : (rewS st n G l).failed with
  | true => rfl
  | false =>
    exfalso
    unfold rewS at hf
    have f3 := (putS_full _ _ _ hf).1
    have f2 := (putS_full _ _ _ f3).1
    have f1 := (putS_full _ _ _ f2).1
    obtain ⟨a1, a2⟩ := putS_count _ _ _ h0 f1
    obtain ⟨b1, b2⟩ := putS_count _ _ _ a2 f2
    rw [hpl] at b1
    simp at a1
    omega
end Go.Proofs.Ytjfmcobikadjhaa
