/- Walks: the fixed case that each law ends in. -/
import Derived.Test.YtpcpgmgpkegjlaaGD4
import Derived.Test.YtpcpgmgpkegjlaaGE1
namespace Go.Proofs.Ytpcpgmgpkegjlaa
open Go.RowKit Go.Shelf Go.BigFrame
/-- Rows that lie in blocks of their own. -/
theorem rows_of {α : Type} {enc : α → Value} {w : World} {B b : Nat} {rs : List (List α)} {bs : List Nat} {t : TypeId} {fz : Nat × Nat} (hl : bs.length = rs.length) (hn : rs.length ≤ maxLen)
    (hob : w.heap[b]? = some (.cells (List.zipWith (fun b r => Value.slice (some ⟨b, 0, none⟩) r.length r.length) bs rs).toArray t fz)) (hB : b < B)
    (hin : ∀ (i : Nat) (x : Nat) (r : List α), bs[i]? = some x → rs[i]? = some r → x < B ∧ r.length ≤ maxLen ∧ ∃ t fz, w.heap[x]? = some (.cells (r.map enc).toArray t fz)) :
    w.rows enc B (.slice (some ⟨b, 0, none⟩) rs.length rs.length) rs := by
  refine ⟨List.zipWith (fun b r => Value.slice (some ⟨b, 0, none⟩) r.length r.length) bs rs, by simp [hl], ?_, fun i r hr => ?_⟩
  · have h := reads_block hob hB rs.length (by simp [hl]) hn
    have hz : (List.zipWith (fun b (r : List α) => Value.slice (some ⟨b, 0, none⟩) r.length r.length) bs rs).length = rs.length := by simp [hl]
    rw [hz] at h; exact h
  · have hi := (List.getElem?_eq_some_iff.1 hr).1
    obtain ⟨x, hx⟩ : ∃ x, bs[i]? = some x := ⟨bs[i]'(by omega), List.getElem?_eq_getElem _⟩
    obtain ⟨h1, h2, t', fz', h3⟩ := hin i x r hx hr
    refine ⟨Value.slice (some ⟨x, 0, none⟩) r.length r.length, by rw [List.getElem?_zipWith, hx, hr], ?_⟩
    have h := reads_block h3 h1 r.length (by simp) h2
    rw [List.length_map] at h
    exact h
theorem rows_two {α : Type} {enc : α → Value} {w : World} {B b x y : Nat} {r s : List α} {t t1 t2 : TypeId} {fz fz1 fz2 : Nat × Nat}
    (hob : w.heap[b]? = some (.cells #[.slice (some ⟨x, 0, none⟩) r.length r.length, .slice (some ⟨y, 0, none⟩) s.length s.length] t fz)) (hB : b < B) (hx : x < B) (hy : y < B) (hr : r.length ≤ maxLen) (hs : s.length ≤ maxLen)
    (h1 : w.heap[x]? = some (.cells (r.map enc).toArray t1 fz1)) (h2 : w.heap[y]? = some (.cells (s.map enc).toArray t2 fz2)) : w.rows enc B (.slice (some ⟨b, 0, none⟩) 2 2) [r, s] := by
  refine rows_of (bs := [x, y]) (rs := [r, s]) rfl (by unfold maxLen; simp) hob hB fun i z q hz hq => ?_
  match i with
  | 0 => obtain rfl : x = z := by simpa using hz
         obtain rfl : r = q := by simpa using hq
         exact ⟨hx, hr, _, _, h1⟩
  | 1 => obtain rfl : y = z := by simpa using hz
         obtain rfl : s = q := by simpa using hq
         exact ⟨hy, hs, _, _, h2⟩
  | i + 2 => simp at hz
theorem Errno_rfl : Try.prog.cellsOf 28 = 3 := by kernel_rfl
set_option maxRecDepth 100000 in
theorem awake_dig : digB 4 [17, 97] 0 31 2 false [[1, 16, 3, 0], [1, 96, 20, 60]] = true ∧ digRows 4 [17, 97] 31 2 [[1, 16, 3, 0], [1, 96, 20, 60]] = [[1, -1, 3, 0], [1, -1, 20, -37]] := by decide +kernel
set_option maxRecDepth 100000 in
theorem awake_join : joinB 4 [17, 97] 0 31 2 [[1, -1, 3, 0], [1, -1, 20, -37]] = true ∧ joinRows [17, 97] [[1, -1, 3, 0], [1, -1, 20, -37]] (4 : Int).toNat (partsI 31).toNat 31 (2 : Int).toNat = [[1, 16, 3, 0], [1, 96, 20, 60]] := by decide +kernel
set_option maxRecDepth 100000 in
theorem awake_count : countB 4 [17, 97] 0 2 2 = true ∧ countI 2 2 true = 32 ∧ errI true = 0 := by decide +kernel
set_option maxRecDepth 100000 in
set_option maxHeartbeats 16000000 in
theorem awake_any (w : World) : Calls Try.prog 10 #[] w fun e w' => e = .returned (.bool true) ∧ Below w.heap.size w w' := by
  obtain ⟨W0, hW0⟩ : ∃ W0, W0 = (((((w.alloc (.cells #[.int .u32 17, .int .u32 97] 22)).alloc (.cells #[.int .i64 4, .int .u32 0, .int .i64 0, .slice (some ⟨w.heap.size, 0, none⟩) 2 2, .int .u32 0, .int .i64 0, .int .u32 0] 25)).alloc (.cells #[.int .u32 1, .int .u32 16, .int .u32 3, .int .u32 0] 22)).alloc (.cells #[.int .u32 1, .int .u32 96, .int .u32 20, .int .u32 60] 22)).alloc (.cells #[.slice (some ⟨w.heap.size + 1 + 1, 0, none⟩) 4 4, .slice (some ⟨w.heap.size + 1 + 1 + 1, 0, none⟩) 4 4] 23)).alloc (.cells #[.int .i64 2, .bool false, .slice (some ⟨w.heap.size + 1 + 1 + 1 + 1, 0, none⟩) 2 2] 28) := ⟨_, rfl⟩
  have b0 : W0.heap[w.heap.size]? = some (.cells #[.int .u32 17, .int .u32 97] 22) := by
    rw [hW0]; repeat (first | exact alloc_last _ _ (by simp) | rw [Below.heap_alloc _ _ _ (by (first | (simp; done) | (simp; omega)))])
  have b1 : W0.heap[w.heap.size + 1]? = some (.cells #[.int .i64 4, .int .u32 0, .int .i64 0, .slice (some ⟨w.heap.size, 0, none⟩) 2 2, .int .u32 ((0 : Nat) : Int), .int .i64 0, .int .u32 0] 25) := by
    rw [hW0]; repeat (first | exact alloc_last _ _ (by simp) | rw [Below.heap_alloc _ _ _ (by (first | (simp; done) | (simp; omega)))])
  have b2 : W0.heap[w.heap.size + 1 + 1]? = some (.cells #[.int .u32 1, .int .u32 16, .int .u32 3, .int .u32 0] 22) := by
    rw [hW0]; repeat (first | exact alloc_last _ _ (by simp) | rw [Below.heap_alloc _ _ _ (by (first | (simp; done) | (simp; omega)))])
  have b3 : W0.heap[w.heap.size + 1 + 1 + 1]? = some (.cells #[.int .u32 1, .int .u32 96, .int .u32 20, .int .u32 60] 22) := by
    rw [hW0]; repeat (first | exact alloc_last _ _ (by simp) | rw [Below.heap_alloc _ _ _ (by (first | (simp; done) | (simp; omega)))])
  have b4 : W0.heap[w.heap.size + 1 + 1 + 1 + 1]? = some (.cells #[.slice (some ⟨w.heap.size + 1 + 1, 0, none⟩) 4 4, .slice (some ⟨w.heap.size + 1 + 1 + 1, 0, none⟩) 4 4] 23) := by
    rw [hW0]; repeat (first | exact alloc_last _ _ (by simp) | rw [Below.heap_alloc _ _ _ (by (first | (simp; done) | (simp; omega)))])
  have b5 : W0.heap[w.heap.size + 1 + 1 + 1 + 1 + 1]? = some (.cells #[.int .i64 2, .bool false, .slice (some ⟨w.heap.size + 1 + 1 + 1 + 1, 0, none⟩) 2 2] 28) := by
    rw [hW0]; repeat (first | exact alloc_last _ _ (by simp) | rw [Below.heap_alloc _ _ _ (by (first | (simp; done) | (simp; omega)))])
  have hz0 := lt_of_heap b5
  have hB0 : Below w.heap.size w W0 := by
    rw [hW0]; repeat (with_reducible first | refine Below.alloc ?_ (by first | omega | (simp; done) | (simp; omega)) _ | exact Below.refl _ _)
  have hr0 : W0.reads W0.heap.size (.slice (some ⟨w.heap.size, 0, none⟩) 2 2) ([17, 97].map u32V) := reads_block (l := [17, 97].map u32V) b0 (by omega) 2 (by simp) (by unfold maxLen; omega)
  have hrow0 : W0.rows u32V W0.heap.size (.slice (some ⟨w.heap.size + 1 + 1 + 1 + 1, 0, none⟩) 2 2) [[1, 16, 3, 0], [1, 96, 20, 60]] :=
    rows_two (r := [1, 16, 3, 0]) (s := [1, 96, 20, 60]) b4 (by omega) (by omega) (by omega) (by unfold maxLen; simp) (by unfold maxLen; simp) b2 b3
  have hcb : ∀ q ∈ [17, 97], q < 4294967296 := by decide
  have HD := Lib.hid (Digits_any 4 0 0 0 0 (.slice (some ⟨w.heap.size, 0, none⟩) 2 2) [17, 97] 0 31 2 false (.slice (some ⟨w.heap.size + 1 + 1 + 1 + 1, 0, none⟩) 2 2) [[1, 16, 3, 0], [1, 96, 20, 60]] W0 hr0 hrow0 hcb)
  unfold DigPost at HD
  rw [awake_dig.1, awake_dig.2] at HD
  simp only [if_true] at HD
  have HR0 := Lib.hid hr0
  have HROW0 := Lib.hid hrow0
  have HB1 := Lib.hid b1
  have HB5 := Lib.hid b5
  have HW0 := Lib.hid hW0
  clear b0 b1 b2 b3 b4 b5 hr0 hrow0 hW0
  go_enter Try.func10, Try.ntmps10
  go_wp2_with fail
  rw [← HW0.out]
  refine HD.out.mono ?_
  rintro e w1 ⟨⟨v, rfl, hv⟩, hb1⟩
  obtain ⟨va, vc, rfl, -⟩ := hv.shape
  have hz1 := hb1.size
  have hp1 := (hb1.block _ (by omega)).trans HB1.out
  obtain ⟨c0, c1, c2, c3, c4, c5, c6⟩ := par_cells hp1
  have HJ := Lib.hid (Join_any 4 0 0 0 0 (.slice (some ⟨w.heap.size, 0, none⟩) 2 2) [17, 97] 0 31 2 _ _ w1 ((HR0.out.below hb1).mono hz1) hcb hv)
  unfold JoinPost at HJ
  rw [awake_join.1, awake_join.2] at HJ
  simp only [if_true] at HJ
  have HV := Lib.hid hv
  clear hp1 hv
  go_wp2_with fail
  refine HJ.out.mono ?_
  rintro e w2 ⟨⟨u, rfl, hu⟩, hb2⟩
  obtain ⟨ua, uc, rfl, -⟩ := hu.shape
  have hz2 := hb2.size
  have hB2 := hb1.trans (hb2.mono hz1)
  have hp2 := (hB2.block _ (by omega)).trans HB1.out
  clear c0 c1 c2 c3 c4 c5 c6
  obtain ⟨w3, hw3⟩ : ∃ w3, w3 = w2.alloc (.cells #[.int .i64 2, .bool false, .slice ua 2 uc] 28) := ⟨_, rfl⟩
  have hB3 : Below w2.heap.size w2 w3 := by rw [hw3]; exact (Below.refl _ _).alloc (Nat.le_refl _) _
  have e3 : w3.heap[w2.heap.size]? = some (.cells #[.int .i64 2, .bool false, .slice ua 2 uc] 28) := by rw [hw3]; exact alloc_last _ _ rfl
  have hz3 := lt_of_heap e3
  have hBB3 := hB2.trans (hB3.mono hB2.size)
  have hp3 := (hBB3.block _ (by omega)).trans HB1.out
  obtain ⟨c0, c1, c2, c3, c4, c5, c6⟩ := par_cells hp2
  have HC := Lib.hid (Count_any 4 0 0 0 0 (.slice (some ⟨w.heap.size, 0, none⟩) 2 2) [17, 97] 0 2 2 w3 ((HR0.out.below hBB3).mono hBB3.size) hcb)
  rw [awake_count.1, awake_count.2.1, awake_count.2.2] at HC
  have HU := Lib.hid hu
  have HE3 := Lib.hid e3
  clear hu hp2 hp3 e3
  have l1 : w.heap.size + 1 < w2.heap.size := by omega
  go_wp2_with fail
  rw [← hw3]
  refine HC.out.mono ?_
  rintro e w4 ⟨rfl, hb4⟩
  have hz4 := hb4.size
  have hBB4 := hBB3.trans (hb4.mono hBB3.size)
  clear c0 c1 c2 c3 c4 c5 c6 hw3
  obtain ⟨w5, hw5⟩ : ∃ w5, w5 = ((w4.alloc (.cells #[.int .i64 1, .int .i64 (-1), .int .i64 3, .int .i64 0] 2)).alloc (.cells #[.int .i64 1, .int .i64 (-1), .int .i64 20, .int .i64 (-37)] 2)).alloc (.cells #[.slice (some ⟨w4.heap.size, 0, none⟩) 4 4, .slice (some ⟨w4.heap.size + 1, 0, none⟩) 4 4] 45) := ⟨_, rfl⟩
  have d0 : w5.heap[w4.heap.size]? = some (.cells #[.int .i64 1, .int .i64 (-1), .int .i64 3, .int .i64 0] 2) := by
    rw [hw5]; repeat (first | exact alloc_last _ _ (by simp) | rw [Below.heap_alloc _ _ _ (by (first | (simp; done) | (simp; omega)))])
  have d1 : w5.heap[w4.heap.size + 1]? = some (.cells #[.int .i64 1, .int .i64 (-1), .int .i64 20, .int .i64 (-37)] 2) := by
    rw [hw5]; repeat (first | exact alloc_last _ _ (by simp) | rw [Below.heap_alloc _ _ _ (by (first | (simp; done) | (simp; omega)))])
  have d2 : w5.heap[w4.heap.size + 1 + 1]? = some (.cells #[.slice (some ⟨w4.heap.size, 0, none⟩) 4 4, .slice (some ⟨w4.heap.size + 1, 0, none⟩) 4 4] 45) := by
    rw [hw5]; repeat (first | exact alloc_last _ _ (by simp) | rw [Below.heap_alloc _ _ _ (by (first | (simp; done) | (simp; omega)))])
  have hz5 := lt_of_heap d2
  have hB5 : Below w4.heap.size w4 w5 := by
    rw [hw5]; repeat (with_reducible first | refine Below.alloc ?_ (by first | omega | (simp; done) | (simp; omega)) _ | exact Below.refl _ _)
  have hrow5 : w5.rows i64V w5.heap.size (.slice (some ⟨w4.heap.size + 1 + 1, 0, none⟩) 2 2) [[1, -1, 3, 0], [1, -1, 20, -37]] :=
    rows_two (r := [1, -1, 3, 0]) (s := [1, -1, 20, -37]) d2 (by omega) (by omega) (by omega) (by unfold maxLen; simp) (by unfold maxLen; simp) d0 d1
  have hB15 : Below w1.heap.size w1 w5 := hb2.trans ((hB3.trans ((hb4.mono hB3.size).trans (hB5.mono (by omega)))).mono hz2)
  have hB35 : Below w3.heap.size w3 w5 := hb4.trans (hB5.mono hz4)
  have hB05 := hBB3.trans (hB35.mono hBB3.size)
  have HS := Lib.hid (same17_any _ _ _ _ _ _ w5 (HV.out.below hB15) hrow5)
  simp only [decide_true] at HS
  have HE5 := Lib.hid ((hB05.block _ hz0).trans HB5.out)
  have HF5 := Lib.hid ((hB35.block _ hz3).trans HE3.out)
  have hB25 : Below w2.heap.size w2 w5 := hB3.trans (hB35.mono (by omega))
  have hlast := hB0.trans (hB05.mono hB0.size)
  clear d0 d1 d2 hrow5
  go_wp2_with fail
  rw [← hw5]
  refine HS.out.mono ?_
  rintro e w6 ⟨rfl, hn6⟩
  have hb6 : Below w5.heap.size w5 w6 := below_of_drewN hn6
  have hz6 := hb6.size
  have hs05 := hB05.size
  have hs25 := hB25.size
  have he6 := (hb6.block _ (by omega)).trans HE5.out
  have hf6 := (hb6.block _ (by omega)).trans HF5.out
  have k0 : w6.cell? ⟨w.heap.size + 1 + 1 + 1 + 1 + 1, 0, none⟩ = some (.int .i64 2) := by simp [World.cell?, he6]
  have k1 : w6.cell? ⟨w.heap.size + 1 + 1 + 1 + 1 + 1, 1, none⟩ = some (.bool false) := by simp [World.cell?, he6]
  have k2 : w6.cell? ⟨w.heap.size + 1 + 1 + 1 + 1 + 1, 2, none⟩ = some (.slice (some ⟨w.heap.size + 1 + 1 + 1 + 1, 0, none⟩) 2 2) := by simp [World.cell?, he6]
  have m0 : w6.cell? ⟨w2.heap.size, 0, none⟩ = some (.int .i64 2) := by simp [World.cell?, hf6]
  have m1 : w6.cell? ⟨w2.heap.size, 1, none⟩ = some (.bool false) := by simp [World.cell?, hf6]
  have m2 : w6.cell? ⟨w2.heap.size, 2, none⟩ = some (.slice ua 2 uc) := by simp [World.cell?, hf6]
  have HS2 := Lib.hid (same09_any 2 2 false false _ _ _ _ _ _ w6 ((HROW0.out.below hB05).below (hb6.mono hs05)) ((HU.out.below hB25).below (hb6.mono hs25)) (by omega) (by omega))
  simp only [decide_true, Bool.and_self] at HS2
  have hlast6 := hlast.trans (hb6.mono hlast.size)
  clear he6 hf6 hn6 hw5
  go_wp2_with fail
  refine HS2.out.mono ?_
  rintro e w7 ⟨rfl, hb7⟩
  have hl7 : Below w.heap.size w w7 := hlast6.trans (hb7.mono hlast6.size)
  go_wp2
  go_ret
  exact ⟨rfl, hl7⟩
end Go.Proofs.Ytpcpgmgpkegjlaa
