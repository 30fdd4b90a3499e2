/- Plain: a disk as a whole. -/
import Derived.Test.YtjfmcobikadjhaaDP4
namespace Go.Proofs.Ytjfmcobikadjhaa
set_option linter.all false
open Go.RowKit Go.Shelf
structure Dk.good (d : Dk) : Prop where
  ok : d.ok
  half : 0 ≤ d.half
theorem Dk.mk1 {d : Dk} (h : genL d.h0 < genL d.h1) : d.half = 1 ∧ d.act = d.h1 ∧ d.gen = genL d.h1 := by
  have h1 : d.half = 1 := by unfold Dk.half; rw [if_neg (by omega), if_pos h]
  refine ⟨h1, by unfold Dk.act; rw [if_pos h1], by unfold Dk.gen; rw [if_neg (by omega), if_pos h]⟩
theorem Dk.mk0 {d : Dk} (h : genL d.h1 ≤ genL d.h0) (h0 : 0 < genL d.h0) : d.half = 0 ∧ d.act = d.h0 ∧ d.gen = genL d.h0 := by
  have h1 : d.half = 0 := by unfold Dk.half; rw [if_neg (by omega), if_neg (by omega)]
  refine ⟨h1, by unfold Dk.act; rw [if_neg (by omega)], by unfold Dk.gen; rw [if_neg (by omega), if_neg (by omega)]⟩
theorem Dk.halves {d : Dk} (h : 0 ≤ d.half) : (genL d.h0 < genL d.h1) ∨ (genL d.h1 ≤ genL d.h0 ∧ 0 < genL d.h0) := by
  rcases Nat.lt_or_ge (genL d.h0) (genL d.h1) with q | q
  · exact .inl q
  · refine .inr ⟨q, ?_⟩
    rcases Nat.eq_zero_or_pos (genL d.h0) with z | z
    · exfalso
      unfold Dk.half at h
      rw [if_pos ⟨z, by omega⟩] at h
      omega
    · exact z
theorem texts_of {d : Dk} (h : 0 ≤ d.half) : d.texts = (recs d.act d.gen).map (·.2) := by unfold Dk.texts; rw [if_neg (by omega)]
theorem used_of {d : Dk} (h : 0 ≤ d.half) : d.used = endR d.act d.gen := by unfold Dk.used; rw [if_neg (by omega)]
theorem act_length {d : Dk} (ho : d.ok) : d.act.length = d.size := by unfold Dk.act; split; exact ho.l1; exact ho.l0
theorem appS_ok (st : Wr) (n g k : Nat) (r : List UInt8) (h : st.ok) : (appS st n g k r).ok := by
  unfold appS
  refine putS_ok _ _ _ (putS_ok _ _ _ ?_)
  split
  · exact putS_ok _ _ _ (putS_ok _ _ _ h)
  · exact putS_ok _ _ _ h
theorem rewS_ok (st : Wr) (n g : Nat) (l : List (List UInt8)) (h : st.ok) : (rewS st n g l).ok := putS_ok _ _ _ (putS_ok _ _ _ (putS_ok _ _ _ (putS_ok _ _ _ h)))
theorem put_ok {d : Dk} (ho : d.ok) (x : Int) (st : Wr) (hl : st.h.length = d.size) (hs : st.ok) : (d.put x st).ok := by
  unfold Dk.put
  split
  · exact ⟨ho.l0, hl, ho.lo, ho.hi, hs.1, hs.2⟩
  · exact ⟨hl, ho.l1, ho.lo, ho.hi, hs.1, hs.2⟩
theorem put_size (d : Dk) (x : Int) (st : Wr) : (d.put x st).size = d.size := by unfold Dk.put; split <;> rfl
theorem put_fuse (d : Dk) (x : Int) (st : Wr) : (d.put x st).fuse = st.fuse := by unfold Dk.put; split <;> rfl
theorem put_failed (d : Dk) (x : Int) (st : Wr) : (d.put x st).failed = st.failed := by unfold Dk.put; split <;> rfl
/-- What an Append leaves. -/
structure AppPost (d : Dk) (r : List UInt8) (e : Int) (d' : Dk) : Prop where
  good : d'.good
  size : d'.size = d.size
  ok0 : e = 0 → d'.texts = d.texts ++ [r] ∧ d'.used = d.used + 13 + r.length ∧ d'.failed = false
  down : e = 9 → d'.texts = d.texts
  else_ : e ≠ 0 → e ≠ 9 → d' = d
  gen : d'.gen = d.gen
theorem appended_post {d : Dk} (hg : d.good) (r : List UInt8) : AppPost d r (d.appended r).1 (d.appended r).2 := by
  have ho := hg.ok
  unfold Dk.appended
  by_cases h1 : d.failed = true
  · rw [if_pos h1]; exact ⟨hg, rfl, fun h => (by cases h), fun _ => rfl, fun _ _ => rfl, rfl⟩
  rw [if_neg h1]
  by_cases h2 : 65535 < r.length
  · rw [if_pos h2]; exact ⟨hg, rfl, fun h => (by cases h), fun h => (by cases h), fun _ _ => rfl, rfl⟩
  rw [if_neg h2, if_neg (by have := hg.half; omega)]
  by_cases h3 : d.size < d.used + 13 + r.length
  · rw [if_pos h3]; exact ⟨hg, rfl, fun h => (by cases h), fun h => (by cases h), fun _ _ => rfl, rfl⟩
  rw [if_neg h3]
  have hf : d.wr.failed = false := by show d.failed = false; cases hx : d.failed; rfl; exact absurd hx h1
  have hal := act_length ho
  have hu := used_of hg.half
  have hokw : d.wr.ok := ⟨ho.f1, ho.f2⟩
  obtain ⟨q1, q2, q3, q4⟩ := app_law d.wr d.size d.gen r hf hal ho.lo (by show endR d.act d.gen + 13 + r.length ≤ d.size; rw [← hu]; omega) (by omega)
  have hend : ∀ X : List UInt8, recs X d.gen = recs d.act d.gen ++ [(endR d.act d.gen + 13 + r.length, r)] → endR X d.gen = endR d.act d.gen + 13 + r.length := fun X hX => by unfold endR; rw [hX, lastE_snoc]; rfl
  have e0 : endR d.wr.h d.gen = endR d.act d.gen := rfl
  have e1 : d.wr.h = d.act := rfl
  rw [e0, ← hu] at q1 q2 q3 q4
  rw [e1] at q2 q3 q4
  rw [← hu] at hend
  have hokS := appS_ok d.wr d.size d.gen d.used r hokw
  obtain ⟨S, hS⟩ : ∃ S, S = appS d.wr d.size d.gen d.used r := ⟨_, rfl⟩
  rw [← hS] at q1 q2 q3 q4 hokS ⊢
  have hpo := put_ok ho d.half S q1 hokS
  have key : (d.put d.half S).half = d.half ∧ (d.put d.half S).act = S.h ∧ (d.put d.half S).gen = d.gen := by
    rcases Dk.halves hg.half with hh | ⟨hh, hz⟩
    · obtain ⟨a1, a2, a3⟩ := Dk.mk1 hh
      rw [a2] at q2
      have e : d.put d.half S = ⟨d.size, d.h0, S.h, S.fuse, S.failed⟩ := by unfold Dk.put; rw [if_pos a1]
      rw [e]
      obtain ⟨c1, c2, c3⟩ := Dk.mk1 (d := ⟨d.size, d.h0, S.h, S.fuse, S.failed⟩) (by simp only; rw [q2]; exact hh)
      exact ⟨c1.trans a1.symm, c2, by rw [c3, a3]; exact q2⟩
    · obtain ⟨a1, a2, a3⟩ := Dk.mk0 hh hz
      rw [a2] at q2
      have e : d.put d.half S = ⟨d.size, S.h, d.h1, S.fuse, S.failed⟩ := by unfold Dk.put; rw [if_neg (by omega)]
      rw [e]
      obtain ⟨c1, c2, c3⟩ := Dk.mk0 (d := ⟨d.size, S.h, d.h1, S.fuse, S.failed⟩) (by simp only; rw [q2]; exact hh) (by simp only; rw [q2]; exact hz)
      exact ⟨c1.trans a1.symm, c2, by rw [c3, a3]; exact q2⟩
  obtain ⟨k1, k2, k3⟩ := key
  have hhalf : 0 ≤ (d.put d.half S).half := by rw [k1]; exact hg.half
  have ht := texts_of hhalf
  have hu2 := used_of hhalf
  rw [k2, k3] at ht hu2
  refine ⟨⟨hpo, hhalf⟩, put_size _ _ _, fun h => ?_, fun h => ?_, fun h h' => ?_, k3⟩
  · have hsf : S.failed = false := by
      cases hx : S.failed
      · rfl
      · rw [show (S.err, d.put d.half S).1 = S.err from rfl] at h; unfold Wr.err at h; rw [hx] at h; cases h
    have q5 := q4 hsf
    refine ⟨?_, ?_, ?_⟩
    · rw [ht, texts_of hg.half, q5, List.map_append]; rfl
    · rw [hu2]; exact hend S.h (by rw [q5, hu])
    · rw [put_failed]; exact hsf
  · have hsf : S.failed = true := by
      cases hx : S.failed
      · rw [show (S.err, d.put d.half S).1 = S.err from rfl] at h; unfold Wr.err at h; rw [hx] at h; cases h
      · rfl
    rw [ht, texts_of hg.half, q3 hsf]
  · exfalso
    rw [show (S.err, d.put d.half S).1 = S.err from rfl] at h h'
    unfold Wr.err at h h'
    split at h
    · rename_i hx; rw [if_pos hx] at h'; exact h' rfl
    · exact h rfl
structure RewPost (d : Dk) (l : List (List UInt8)) (e : Int) (d' : Dk) : Prop where
  good : d'.good
  size : d'.size = d.size
  ok0 : e = 0 → d'.texts = l ∧ d'.used = sumR l ∧ d'.failed = false ∧ d'.gen = d.gen + 1
  down : e = 9 → d'.texts = d.texts
  else_ : e ≠ 0 → e ≠ 9 → d' = d
theorem longAny_le {l : List (List UInt8)} (h : ¬ longAny l = true) : ∀ s ∈ l, s.length ≤ 65535 := by
  intro s hs
  unfold longAny at h
  rw [List.any_eq_true] at h
  rcases Nat.lt_or_ge 65535 s.length with q | q
  · exact absurd ⟨s, hs, by simpa using q⟩ h
  · exact q
theorem rewritten_post {d : Dk} (hg : d.good) (l : List (List UInt8)) : RewPost d l (d.rewritten l).1 (d.rewritten l).2 := by
  have ho := hg.ok
  unfold Dk.rewritten
  by_cases h1 : d.failed = true
  · rw [if_pos h1]; exact ⟨hg, rfl, fun h => (by cases h), fun _ => rfl, fun _ _ => rfl⟩
  rw [if_neg h1]
  by_cases h2 : longAny l = true
  · rw [if_pos h2]; exact ⟨hg, rfl, fun h => (by cases h), fun h => (by cases h), fun _ _ => rfl⟩
  rw [if_neg h2]
  by_cases h3 : d.size < sumR l ∨ d.gen = 9223372036854775807
  · rw [if_pos h3]; exact ⟨hg, rfl, fun h => (by cases h), fun h => (by cases h), fun _ _ => rfl⟩
  rw [if_neg h3]
  have hgl := d.gen_lt
  have hol : d.other.h.length = d.size := by show (if d.half = 0 then d.h1 else d.h0).length = _; split; exact ho.l1; exact ho.l0
  have hoko : d.other.ok := ⟨ho.f1, ho.f2⟩
  have hs : sumR l ≤ d.size := by omega
  obtain ⟨q1, q2, q3⟩ := rew_law d.other d.size (d.gen + 1) l hol ho.lo hs (longAny_le h2) (by omega) (by omega)
  have hokS := rewS_ok d.other d.size (d.gen + 1) l hoko
  obtain ⟨S, hS⟩ : ∃ S, S = rewS d.other d.size (d.gen + 1) l := ⟨_, rfl⟩
  rw [← hS] at q1 q2 q3 hokS ⊢
  have hpo := put_ok ho d.side S q1 hokS
  have hcase : (genL d.h0 < genL d.h1 ∧ d.act = d.h1 ∧ d.gen = genL d.h1 ∧ d.other.h = d.h0 ∧ d.put d.side S = ⟨d.size, S.h, d.h1, S.fuse, S.failed⟩) ∨
      (genL d.h1 ≤ genL d.h0 ∧ 0 < genL d.h0 ∧ d.act = d.h0 ∧ d.gen = genL d.h0 ∧ d.other.h = d.h1 ∧ d.put d.side S = ⟨d.size, d.h0, S.h, S.fuse, S.failed⟩) := by
    rcases Dk.halves hg.half with hh | ⟨hh, hz⟩
    · obtain ⟨a1, a2, a3⟩ := Dk.mk1 hh
      refine .inl ⟨hh, a2, a3, ?_, ?_⟩
      · show (if d.half = 0 then d.h1 else d.h0) = _; rw [if_neg (by omega)]
      · unfold Dk.put Dk.side; rw [if_neg (by rw [if_neg (by omega)]; omega)]
    · obtain ⟨a1, a2, a3⟩ := Dk.mk0 hh hz
      refine .inr ⟨hh, hz, a2, a3, ?_, ?_⟩
      · show (if d.half = 0 then d.h1 else d.h0) = _; rw [if_pos a1]
      · unfold Dk.put Dk.side; rw [if_pos (by rw [if_pos a1])]
  cases hx : S.failed with
  | true =>
    have he : S.err = 9 := by unfold Wr.err; rw [if_pos hx]
    have q4 := q2 hx
    have key : 0 ≤ (d.put d.side S).half ∧ (d.put d.side S).act = d.act ∧ (d.put d.side S).gen = d.gen := by
      rcases hcase with ⟨hh, a2, a3, a4, a5⟩ | ⟨hh, hz, a2, a3, a4, a5⟩
      · rw [a5, a2, a3]
        rw [a4] at q4
        obtain ⟨c1, c2, c3⟩ := Dk.mk1 (d := ⟨d.size, S.h, d.h1, S.fuse, S.failed⟩) (by simp only; omega)
        exact ⟨by omega, c2, c3⟩
      · rw [a5, a2, a3]
        rw [a4] at q4
        obtain ⟨c1, c2, c3⟩ := Dk.mk0 (d := ⟨d.size, d.h0, S.h, S.fuse, S.failed⟩) (by simp only; omega) hz
        exact ⟨by omega, c2, c3⟩
    obtain ⟨k1, k2, k3⟩ := key
    refine ⟨⟨hpo, k1⟩, put_size _ _ _, fun h => ?_, fun _ => ?_, fun h h' => absurd he h'⟩
    · rw [show (S.err, d.put d.side S).1 = S.err from rfl, he] at h; cases h
    · show (d.put d.side S).texts = _
      rw [texts_of k1, texts_of hg.half, k2, k3]
  | false =>
    have he : S.err = 0 := by unfold Wr.err; rw [hx]; rfl
    obtain ⟨q4, q5, q6⟩ := q3 hx
    have key : 0 ≤ (d.put d.side S).half ∧ (d.put d.side S).act = S.h ∧ (d.put d.side S).gen = d.gen + 1 := by
      rcases hcase with ⟨hh, a2, a3, a4, a5⟩ | ⟨hh, hz, a2, a3, a4, a5⟩
      · rw [a5]
        obtain ⟨c1, c2, c3⟩ := Dk.mk0 (d := ⟨d.size, S.h, d.h1, S.fuse, S.failed⟩) (by simp only; omega) (by simp only; omega)
        exact ⟨by omega, c2, c3.trans q4⟩
      · rw [a5]
        obtain ⟨c1, c2, c3⟩ := Dk.mk1 (d := ⟨d.size, d.h0, S.h, S.fuse, S.failed⟩) (by simp only; omega)
        exact ⟨by omega, c2, c3.trans q4⟩
    obtain ⟨k1, k2, k3⟩ := key
    refine ⟨⟨hpo, k1⟩, put_size _ _ _, fun _ => ⟨?_, ?_, ?_, k3⟩, fun h => ?_, fun h => absurd he h⟩
    · show (d.put d.side S).texts = _
      rw [texts_of k1, k2, k3, q5]
    · show (d.put d.side S).used = _
      rw [used_of k1, k2, k3, q6]
    · rw [put_failed]; exact hx
    · rw [show (S.err, d.put d.side S).1 = S.err from rfl, he] at h; cases h
/-! ### a new disk -/
theorem newDk_gen (n : Nat) (h : 64 ≤ n) : genL (newDk n).h0 = 1 ∧ genL (newDk n).h1 = 0 := by
  constructor
  · show genL (newHead ++ List.replicate (n - 17) 0) = 1
    have d0 : (newHead ++ List.replicate (n - 17) (0 : UInt8)).getD 0 0 = 1 := rfl
    have d1 : ((newHead ++ List.replicate (n - 17) (0 : UInt8)).drop 1).take 8 = eightL 1 := by
      show ((eightL 1 ++ shortL (eightL 1)) ++ List.replicate (n - 17) (0 : UInt8)).take 8 = _
      rw [List.append_assoc, List.take_append_of_le_length (by rw [eightL_length]; omega), List.take_of_length_le (by rw [eightL_length]; omega)]
    have d2 : ((newHead ++ List.replicate (n - 17) (0 : UInt8)).drop 9).take 8 = shortL (eightL 1) := by
      show (((eightL 1 ++ shortL (eightL 1)) ++ List.replicate (n - 17) (0 : UInt8)).drop 8).take 8 = _
      rw [List.append_assoc, List.drop_append, List.drop_of_length_le (by rw [eightL_length]; omega), List.nil_append, eightL_length, Nat.sub_self, List.drop_zero, List.take_append_of_le_length (by rw [shortL_length]; omega), List.take_of_length_le (by rw [shortL_length]; omega)]
    have hg : genB (newHead ++ List.replicate (n - 17) (0 : UInt8)) = true := by
      unfold genB
      rw [d0, d1, d2, numL_eight 1 (by omega)]
      simp
    unfold genL
    rw [hg, d1, numL_eight 1 (by omega)]; rfl
  · show genL (List.replicate n 0) = 0
    exact genL_off (by rw [List.getElem?_replicate, if_pos (by omega)])
theorem newDk_post (n : Nat) (h : 64 ≤ n) (h2 : n ≤ 262144) : (newDk n).good ∧ (newDk n).texts = [] ∧ (newDk n).used = 17 ∧ (newDk n).gen = 1 := by
  obtain ⟨g0, g1⟩ := newDk_gen n h
  obtain ⟨a1, a2, a3⟩ := Dk.mk0 (d := newDk n) (by omega) (by omega)
  have hno : nextR (newDk n).h0 1 17 = none := by
    refine nextR_off ?_
    show (newHead ++ List.replicate (n - 17) (0 : UInt8))[17]? ≠ _
    rw [List.getElem?_append_right (by rw [newHead_length]; omega), newHead_length, List.getElem?_replicate, if_pos (by omega)]
    simp
  have hr : recs (newDk n).h0 1 = [] := recF_none hno _
  refine ⟨⟨⟨?_, ?_, h, h2, by show (-1 : Int) ≤ -1; omega, by show (-1 : Int) ≤ _; omega⟩, by omega⟩, ?_, ?_, by rw [a3, g0]⟩
  · show (newHead ++ List.replicate (n - 17) (0 : UInt8)).length = n
    rw [List.length_append, newHead_length, List.length_replicate]; omega
  · show (List.replicate n (0 : UInt8)).length = n
    simp
  · rw [texts_of (by omega), a2, a3, g0, hr]; rfl
  · rw [used_of (by omega), a2, a3, g0]; unfold endR; rw [hr]; rfl
end Go.Proofs.Ytjfmcobikadjhaa
