/- Laws of the disk: where the power may fail: the plan. -/
import Derived.Test.YtjfmcobikadjhaaDL1
namespace Go.Proofs.Ytjfmcobikadjhaa
set_option linter.all false
open Go.RowKit Go.Shelf
def textL (s : ByteArray) : List UInt8 := s.data.toList
theorem bytesOf_textL (s : ByteArray) : bytesOf (textL s) = s := by
  apply ByteArray.ext
  simp [bytesOf, textL]
theorem map_text (l : List ByteArray) : l.map Value.string = (l.map textL).map strV := by
  rw [List.map_map]
  apply List.map_congr_left
  intro s _
  show Value.string s = strV (textL s)
  unfold strV
  rw [bytesOf_textL]
theorem longB_sum : ∀ (l : List ByteArray) (m : Int) (x : Nat), longB l m = false → 0 ≤ m → (((l.map textL).foldl (fun m s => m + 13 + s.length) x : Nat) : Int) ≤ x + m + 12 * l.length ∧ ∀ s ∈ l.map textL, (s.length : Int) ≤ m := by
  intro l
  induction l with
  | nil => intro m x _ hm; exact ⟨by simp; omega, by simp⟩
  | cons y l ih =>
    intro m x h hm
    rw [longB_cons] at h
    split at h
    · cases h
    · rename_i hlt
      have hsz : (textL y).length = y.size := rfl
      obtain ⟨h1, h2⟩ := ih (m - y.size - 1) (x + 13 + (textL y).length) h (by omega)
      rw [List.map_cons, List.foldl_cons, List.length_cons]
      refine ⟨by omega, fun s hs => ?_⟩
      rcases List.mem_cons.1 hs with rfl | hs
      · omega
      · have := h2 s hs; omega
theorem longAny_of {l : List (List UInt8)} (h : ∀ s ∈ l, s.length ≤ 65535) : longAny l = false := by
  unfold longAny
  rw [List.any_eq_false]
  intro s hs
  have := h s hs
  simp; omega
theorem cuts_plan (F T : List (List UInt8)) (r : List UInt8) (n : Nat) (hF : sumR F ≤ 200) (hT : sumR T ≤ 200) (hF2 : longAny F = false) (hT2 : longAny T = false) (hr : r.length ≤ 60) (hn : n ≤ 519) :
    ∃ D1 e2 D2 e4 D4, (newDk 400).rewritten F = (0, D1) ∧ D1.ok ∧ ({ D1 with fuse := n } : Dk).ok ∧ ({ D1 with fuse := n } : Dk).appended r = (e2, D2) ∧ D2.good ∧ ((e2 = 0 ∧ D2.texts = F ++ [r]) ∨ (e2 = 9 ∧ n ≤ 100 ∧ D2.texts = F)) ∧
      ({ D2 with fuse := n, failed := false } : Dk).rewritten T = (e4, D4) ∧ D4.good ∧ ((e4 = 0 ∧ D4.texts = T) ∨ (e4 = 9 ∧ n ≤ 450 ∧ D4.texts = D2.texts)) := by
  obtain ⟨g0, t0, u0, n0⟩ := newDk_post 400 (by omega) (by omega)
  have s0 : (newDk 400).size = 400 := rfl
  have h1 := rewritten_ok g0 F rfl hF2 (by rw [s0]; omega) (by rw [n0]; omega) (Or.inl rfl)
  have A := rewritten_post g0 F
  obtain ⟨a1, a2, a3, a4⟩ := A.ok0 h1
  have hg1 := A.good
  have hs1 := A.size
  obtain ⟨D1, hD1⟩ : ∃ D, D = ((newDk 400).rewritten F).2 := ⟨_, rfl⟩
  have he : (newDk 400).rewritten F = (0, D1) := by rw [hD1, ← h1]
  rw [← hD1] at a1 a2 a3 a4 hg1 hs1
  have hg2 : ({ D1 with fuse := n } : Dk).good := good_fuse hg1 n (by omega) (by omega) D1.failed
  have hfit : ({ D1 with fuse := n } : Dk).used + 13 + r.length ≤ ({ D1 with fuse := n } : Dk).size := by
    show D1.used + 13 + r.length ≤ D1.size
    rw [a2, hs1, s0]; omega
  have B := appended_post hg2 r
  have herr := appended_err hg2 r a3 (by omega) hfit
  obtain ⟨e2, he2⟩ : ∃ e, e = (({ D1 with fuse := n } : Dk).appended r).1 := ⟨_, rfl⟩
  obtain ⟨D2, hD2⟩ : ∃ D, D = (({ D1 with fuse := n } : Dk).appended r).2 := ⟨_, rfl⟩
  have hok : 100 < n → e2 = 0 := fun h => by
    rw [he2]
    exact appended_ok hg2 r a3 (by omega) hfit (Or.inr (by show ((15 + r.length : Nat) : Int) ≤ (n : Int); omega))
  rw [← he2, ← hD2] at B
  rw [← he2] at herr
  have hg3 : ({ D2 with fuse := n, failed := false } : Dk).good := good_fuse B.good n (by omega) (by omega) false
  have hs2 : D2.size = 400 := by rw [B.size]; show D1.size = 400; rw [hs1, s0]
  have hgen : ({ D2 with fuse := n, failed := false } : Dk).gen ≠ 9223372036854775807 := by
    show D2.gen ≠ _
    rw [B.gen]
    show D1.gen ≠ _
    rw [a4, n0]; omega
  have hsz3 : sumR T ≤ ({ D2 with fuse := n, failed := false } : Dk).size := by show sumR T ≤ D2.size; rw [hs2]; omega
  have C := rewritten_post hg3 T
  have herr4 := rewritten_err (d := { D2 with fuse := n, failed := false }) T rfl hT2 hsz3 hgen
  obtain ⟨e4, he4⟩ : ∃ e, e = (({ D2 with fuse := n, failed := false } : Dk).rewritten T).1 := ⟨_, rfl⟩
  obtain ⟨D4, hD4⟩ : ∃ D, D = (({ D2 with fuse := n, failed := false } : Dk).rewritten T).2 := ⟨_, rfl⟩
  have hok4 : 450 < n → e4 = 0 := fun h => by
    rw [he4]
    exact rewritten_ok hg3 T rfl hT2 hsz3 hgen (Or.inr (by show ((D2.size + 1 : Nat) : Int) ≤ (n : Int); rw [hs2]; omega))
  rw [← he4, ← hD4] at C
  rw [← he4] at herr4
  refine ⟨D1, e2, D2, e4, D4, he, hg1.ok, hg2.ok, by rw [he2, hD2], B.good, ?_, by rw [he4, hD4], C.good, ?_⟩
  · rcases herr with h | h
    · refine .inl ⟨h, ?_⟩
      rw [(B.ok0 h).1]
      show D1.texts ++ [r] = _
      rw [a1]
    · refine .inr ⟨h, ?_, ?_⟩
      · rcases Nat.lt_or_ge 100 n with q | q
        · have := hok q; omega
        · exact q
      · rw [B.down h]
        show D1.texts = _
        exact a1
  · rcases herr4 with h | h
    · exact .inl ⟨h, (C.ok0 h).1⟩
    · refine .inr ⟨h, ?_, ?_⟩
      · rcases Nat.lt_or_ge 450 n with q | q
        · have := hok4 q; omega
        · exact q
      · rw [C.down h]; rfl
theorem Kp.readsB {P : Nat → Prop} {w w' : World} (h : Kp P w w') {B : Nat} {v : Value} {xs : List Value} (hr : w.reads B v xs) (hB : ∀ k, P k → B ≤ k) : w'.reads B v xs := by
  obtain ⟨a, cap, hv2, hn, hz, hmx, hc⟩ := hr
  refine ⟨a, cap, hv2, hn, hz, hmx, fun j u hj => ?_⟩
  obtain ⟨b, off, ha, hb, hcell⟩ := hc j u hj
  exact ⟨b, off, ha, hb, h.cell (fun q => by have := hB b q; omega) hcell⟩
theorem owns_empty (w : World) (e : TypeId) : (w.alloc (.cells #[] e)).owns w.heap.size e 1 (.slice (some ⟨w.heap.size, 0, none⟩) 0 0) 0 [] :=
  ⟨rfl, .inr ⟨w.heap.size, 0, #[], (0, 0), rfl, Nat.le_refl _, heap_alloc_new w _, okFz_zero _, Nat.le_refl _, Nat.zero_le _, rfl, rfl⟩⟩
theorem ne_snoc {α : Type} (l : List α) (x : α) : ¬ l = l ++ [x] := fun h => by
  have := congrArg List.length h
  simp at this
end Go.Proofs.Ytjfmcobikadjhaa
