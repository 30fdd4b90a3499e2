/- Laws of the disk: what the document's examples show. -/
import Derived.Test.YtjfmcobikadjhaaDP6
import Derived.Test.YtjfmcobikadjhaaSWg
namespace Go.Proofs.Ytjfmcobikadjhaa
set_option linter.all false
open Go.RowKit Go.Shelf
theorem map_bytesOf_inj {l m : List (List UInt8)} (h : l.map bytesOf = m.map bytesOf) : l = m := by
  induction l generalizing m with
  | nil => cases m with
    | nil => rfl
    | cons y m => simp at h
  | cons x l ih =>
    cases m with
    | nil => simp at h
    | cons y m =>
      rw [List.map_cons, List.map_cons] at h
      injection h with h1 h2
      rw [bytesOf_inj h1, ih h2]
theorem SameT_any (l m : List (List UInt8)) (hl : l.length ≤ 9223372036854775807) (v u : Value) (w : World) (hr : w.reads w.heap.size v (l.map strV)) (hq : w.reads w.heap.size u (m.map strV)) :
    Calls Try.prog 17 #[v, u] w fun e w' => e = .returned (.bool (decide (l = m))) ∧ Below w.heap.size w w' := by
  have e : ∀ l : List (List UInt8), l.map strV = (l.map bytesOf).map Value.string := fun l => by rw [List.map_map]; rfl
  rw [e] at hr hq
  refine (Same_any (l.map bytesOf) (m.map bytesOf) (by rw [List.length_map]; exact hl) v u w hr hq).mono ?_
  rintro e' w' ⟨rfl, n, rfl⟩
  refine ⟨?_, by first | exact below_drewN (Below.refl _ _) n | (apply below_drewN; exact Below.refl _ _)⟩
  have : decide (l.map bytesOf = m.map bytesOf) = decide (l = m) := decide_eq_decide.2 ⟨map_bytesOf_inj, fun h => by rw [h]⟩
  rw [this]
theorem reads_one (w : World) (x : Value) (t : TypeId) : (w.alloc (.cells #[x] t)).reads (w.alloc (.cells #[x] t)).heap.size (.slice (some ⟨w.heap.size, 0, none⟩) 1 1) [x] := by
  refine ⟨_, _, rfl, fun h => (by cases h), Nat.le_refl _, by unfold maxLen; omega, fun j u hj => ?_⟩
  cases j with
  | zero =>
    simp at hj
    subst hj
    have e : (w.alloc (.cells #[x] t)).heap[w.heap.size]? = some (.cells #[x] t) := alloc_last _ _ rfl
    exact ⟨w.heap.size, 0, rfl, by simp, by unfold World.cell?; simp only [e]; rfl⟩
  | succ j => simp at hj
def abcL : List UInt8 := [97, 98, 99]
theorem seenErr_of {d : Dk} (h : d.good) : d.seenErr = 0 := by unfold Dk.seenErr; rw [if_neg (by have := h.half; omega)]
theorem shown_plan : ∃ D1 D3 : Dk, (newDk 64).appended abcL = (0, D1) ∧ D1.good ∧ D1.size = 64 ∧ D1.texts = [abcL] ∧ D1.used = 33 ∧ D1.appended (List.replicate 19 0) = (5, D1) ∧
    ({ D1 with fuse := 3 } : Dk).rewritten [[120]] = (9, D3) ∧ D3.failed = true := by
  obtain ⟨g0, t0, u0, n0⟩ := newDk_post 64 (by omega) (by omega)
  have s0 : (newDk 64).size = 64 := rfl
  have h1 := appended_ok g0 abcL rfl (by simp [abcL]) (by rw [u0, s0]; simp [abcL]) (Or.inl rfl)
  have A := appended_post g0 abcL
  obtain ⟨a1, a2, a3⟩ := A.ok0 h1
  have hg1 := A.good
  have hs1 := A.size
  obtain ⟨D1, hD1⟩ : ∃ D, D = ((newDk 64).appended abcL).2 := ⟨_, rfl⟩
  have he : (newDk 64).appended abcL = (0, D1) := by rw [hD1, ← h1]
  rw [← hD1] at a1 a2 a3 hg1 hs1
  rw [t0] at a1
  rw [u0] at a2
  have u1 : D1.used = 33 := by rw [a2]; rfl
  have hg2 : ({ D1 with fuse := 3 } : Dk).good := by
    have := good_fuse hg1 3 (by omega) (by omega) D1.failed
    exact this
  have hgen : D1.gen < 9223372036854775808 := D1.gen_lt
  have hfull := appended_full hg1 (List.replicate 19 0) a3 (by simp) (by rw [u1, hs1, s0]; simp)
  have hgn : ({ D1 with fuse := 3 } : Dk).gen ≠ 9223372036854775807 := by
    show D1.gen ≠ _
    have e : D1.gen = 1 := by rw [hD1, A.gen, n0]
    rw [e]; omega
  have hd := rewritten_down hg2 [[120]] a3 rfl (by show sumR [[120]] ≤ D1.size; rw [hs1, s0]; decide) hgn (by show (0 : Int) ≤ 3; omega) (by show (3 : Int) ≤ 40; omega)
  refine ⟨D1, (({ D1 with fuse := 3 } : Dk).rewritten [[120]]).2, he, hg1, by rw [hs1, s0], by rw [a1]; rfl, u1, hfull, ?_, hd.2⟩
  rw [← hd.1]
set_option maxRecDepth 100000 in
set_option maxHeartbeats 4000000 in
theorem shown_any (w : World) : Calls Try.prog 8 #[] w fun e w' => e = .returned (.bool true) ∧ Below w.heap.size w w' := by
  obtain ⟨D1, D3, q1, q2, q3, q4, q5, q6, q7, q8⟩ := shown_plan
  go_enter Try.func8, Try.ntmps8
  go_wp2_with fail
  refine (New_any 64 (by omega) (by omega) _).mono ?_
  rintro e w1 ⟨⟨p, b0, b1, rfl, hd1, hp, hb0, hb1⟩, hB1⟩
  have HD1 := Lib.hid hd1
  clear hd1
  have g0 := (newDk_post 64 (by omega) (by omega)).1
  have HG0 := Lib.hid g0
  have HQ1 := Lib.hid q1
  have HQ6 := Lib.hid q6
  have HQ7 := Lib.hid q7
  have HQ2 := Lib.hid q2
  have HQ3 := Lib.hid q3
  have HQ4 := Lib.hid q4
  have HQ5 := Lib.hid q5
  have HQ8 := Lib.hid q8
  have hs1 := hB1.size
  have HB1 := Lib.hid hB1
  have hpl := lt_of_heap HD1.out.at_
  have hmk : ∀ W : World, (Instr.makeSlice 49 (.int .i64 19) (.int .i64 19)).run Try.prog W = .ok (.slice (some ⟨W.heap.size, 0, none⟩) 19 19) (W.alloc (.cells (zrow8 19) 5)) := fun W => make_u8 19 19 (Nat.le_refl _) (by omega) W
  clear q1 q2 q3 q4 q5 q6 q7 q8 g0 hB1
  go_wp2_with fail
  refine (Append_any p b0 b1 (newDk 64) abcL (by simp [abcL]) _ HD1.out HG0.out.ok).mono ?_
  rintro e w2 ⟨he, hd2, hk2⟩
  rw [HQ1.out] at he hd2
  subst he
  have HD2 := Lib.hid hd2
  have hK2 := Lib.hid hk2
  have hs2 := hk2.size
  have hcv : (convert 49 9 (.slice (some ⟨w2.heap.size, 0, none⟩) 19 19)).run Try.prog (w2.alloc (.cells (zrow8 19) 5)) = .ok (.string (bytesOf (List.replicate 19 0))) (w2.alloc (.cells (zrow8 19) 5)) := by
    have hh : HalfAt (w2.alloc (.cells (zrow8 19) 5)) w2.heap.size (List.replicate 19 0) := ⟨5, alloc_last _ _ rfl⟩
    exact hh.text 0 19 (by simp) 19
  clear hd2 hk2
  go_wp2_with fail
  have HD3 := Lib.hid (HD2.out.kept ((Below.refl _ w2).alloc (Nat.le_refl _) (.cells (zrow8 19) 5)))
  refine (Append_any p b0 b1 D1 (List.replicate 19 0) (by simp) _ HD3.out HQ2.out.ok).mono ?_
  rintro e w4 ⟨he, hd4, hk4⟩
  rw [HQ6.out] at he hd4
  subst he
  have HD4 := Lib.hid hd4
  have hK4 : Hid (Kp (three p b0 b1) w1 w4) := (hK2.out.trans (Kp.of_below ((Below.refl _ w2).alloc (Nat.le_refl _) _))).trans hk4
  clear hd4 hk4 hcv HD3
  go_wp2_with fail
  have HE := Lib.hid (seenErr_of HQ2.out)
  refine (Records_any p b0 b1 D1 _ HD4.out HQ2.out.ok).mono ?_
  rintro e w5 ⟨⟨v, he, hr5, hv5⟩, hb5⟩
  rw [HE.out] at he
  subst he
  rw [HQ4.out] at hr5
  have HD5 := Lib.hid (HD4.out.kept hb5)
  have HR5 := Lib.hid hr5
  have hK5 : Hid (Kp (three p b0 b1) w1 w5) := hK4.out.trans (Kp.of_below hb5)
  obtain ⟨va, vc, rfl, -, -, -, -⟩ := hr5
  clear hb5
  go_wp2_with fail
  refine (Size_any p b0 b1 D1 _ HD5.out HQ2.out.ok).mono ?_
  rintro e w6 ⟨he, hb6⟩
  rw [HQ3.out, HQ5.out] at he
  subst he
  have HD6 := Lib.hid (HD5.out.kept hb6)
  have HR6 := Lib.hid (HR5.out.below hb6)
  have hK6 : Hid (Kp (three p b0 b1) w1 w6) := hK5.out.trans (Kp.of_below hb6)
  have hs6 := hb6.size
  clear hb6
  have hB7 : Below w6.heap.size w6 (w6.alloc (.cells #[.string (bytesOf abcL)] 9)) := (Below.refl _ w6).alloc (Nat.le_refl _) _
  have HR7 := Lib.hid ((HR6.out.mono hs6).below hB7)
  have hO7 := Lib.hid (reads_one w6 (.string (bytesOf abcL)) 9)
  have hz7 : w6.heap.size ≤ (w6.alloc (.cells #[.string (bytesOf abcL)] 9)).heap.size := hB7.size
  have HD7 := Lib.hid (HD6.out.kept hB7)
  have hK7 : Hid (Kp (three p b0 b1) w1 (w6.alloc (.cells #[.string (bytesOf abcL)] 9))) := hK6.out.trans (Kp.of_below hB7)
  clear hB7
  go_wp2_with fail
  refine (SameT_any [abcL] [abcL] (by simp) _ _ _ (HR7.out.mono hz7) hO7.out).mono ?_
  rintro e w8 ⟨he, hb8⟩
  rw [decide_eq_true rfl] at he
  subst he
  have HD8 := Lib.hid (HD7.out.kept hb8)
  have hK8 : Hid (Kp (three p b0 b1) w1 w8) := hK7.out.trans (Kp.of_below hb8)
  clear hb8 hz7
  go_wp2_with fail
  refine (Fuse_any p b0 b1 D1 3 _ HD8.out).mono ?_
  rintro e w9 ⟨he, hd9, hk9⟩
  rw [show D1.fused 3 = (0, { D1 with fuse := 3 }) from rfl] at he hd9
  subst he
  have HD9 := Lib.hid hd9
  have hK9 : Hid (Kp (three p b0 b1) w1 w9) := hK8.out.trans hk9
  clear hd9 hk9
  have hB10 : Below w9.heap.size w9 (w9.alloc (.cells #[.string (bytesOf [120])] 9)) := (Below.refl _ w9).alloc (Nat.le_refl _) _
  have hO10 := Lib.hid (reads_one w9 (.string (bytesOf [120])) 9)
  have HD10 := Lib.hid (HD9.out.kept hB10)
  have hK10 : Hid (Kp (three p b0 b1) w1 (w9.alloc (.cells #[.string (bytesOf [120])] 9))) := hK9.out.trans (Kp.of_below hB10)
  have HG10 : Hid (({ D1 with fuse := 3 } : Dk).ok) := by
    have h := HQ2.out.ok
    exact ⟨h.l0, h.l1, h.lo, h.hi, by show (-1 : Int) ≤ 3; omega, by show (3 : Int) ≤ _; omega⟩
  clear hB10
  go_wp2_with fail
  refine (Rewrite_any p b0 b1 ({ D1 with fuse := 3 } : Dk) [[120]] _ _ hO10.out HD10.out HG10.out).mono ?_
  rintro e w11 ⟨he, hd11, hk11⟩
  rw [HQ7.out] at he hd11
  subst he
  have HD11 := Lib.hid hd11
  have hK11 : Hid (Kp (three p b0 b1) w1 w11) := hK10.out.trans hk11
  clear hd11 hk11
  go_wp2_with fail
  refine (Failed_any p b0 b1 D3 _ HD11.out).mono ?_
  rintro e w12 ⟨he, rfl⟩
  rw [HQ8.out] at he
  subst he
  go_wp2
  go_ret
  exact ⟨rfl, HB1.out.trans (hK11.out.below hs1 (fun k q => by rcases q with rfl | rfl | rfl <;> omega))⟩
end Go.Proofs.Ytjfmcobikadjhaa
