/- Walks: GadgetKnown. -/
import Derived.Test.YtpcpgmgpkegjlaaGE4
namespace Go.Proofs.Ytpcpgmgpkegjlaa
open Go.RowKit Go.Shelf Go.BigFrame
theorem rows_one {α : Type} {enc : α → Value} {w : World} {B b x : Nat} {r : List α} {t t1 : TypeId} {fz fz1 : Nat × Nat}
    (hob : w.heap[b]? = some (.cells #[.slice (some ⟨x, 0, none⟩) r.length r.length] t fz)) (hB : b < B) (hx : x < B) (hr : r.length ≤ maxLen)
    (h1 : w.heap[x]? = some (.cells (r.map enc).toArray t1 fz1)) : w.rows enc B (.slice (some ⟨b, 0, none⟩) 1 1) [r] := by
  refine rows_of (bs := [x]) (rs := [r]) rfl (by unfold maxLen; simp) hob hB fun i z q hz hq => ?_
  match i with
  | 0 => obtain rfl : x = z := by simpa using hz
         obtain rfl : r = q := by simpa using hq
         exact ⟨hx, hr, _, _, h1⟩
  | i + 1 => simp at hz
theorem rows_three {α : Type} {enc : α → Value} {w : World} {B b x y u : Nat} {r s v : List α} {t t1 t2 t3 : TypeId} {fz fz1 fz2 fz3 : Nat × Nat}
    (hob : w.heap[b]? = some (.cells #[.slice (some ⟨x, 0, none⟩) r.length r.length, .slice (some ⟨y, 0, none⟩) s.length s.length, .slice (some ⟨u, 0, none⟩) v.length v.length] t fz)) (hB : b < B) (hx : x < B) (hy : y < B) (hu : u < B) (hr : r.length ≤ maxLen) (hs : s.length ≤ maxLen) (hv : v.length ≤ maxLen)
    (h1 : w.heap[x]? = some (.cells (r.map enc).toArray t1 fz1)) (h2 : w.heap[y]? = some (.cells (s.map enc).toArray t2 fz2)) (h3 : w.heap[u]? = some (.cells (v.map enc).toArray t3 fz3)) : w.rows enc B (.slice (some ⟨b, 0, none⟩) 3 3) [r, s, v] := by
  refine rows_of (bs := [x, y, u]) (rs := [r, s, v]) rfl (by unfold maxLen; simp) hob hB fun i z q hz hq => ?_
  match i with
  | 0 => obtain rfl : x = z := by simpa using hz
         obtain rfl : r = q := by simpa using hq
         exact ⟨hx, hr, _, _, h1⟩
  | 1 => obtain rfl : y = z := by simpa using hz
         obtain rfl : s = q := by simpa using hq
         exact ⟨hy, hs, _, _, h2⟩
  | 2 => obtain rfl : u = z := by simpa using hz
         obtain rfl : v = q := by simpa using hq
         exact ⟨hu, hv, _, _, h3⟩
  | i + 3 => simp at hz
set_option maxRecDepth 100000 in
theorem known_count : countB 4 [17, 97] 0 31 2 = true ∧ countI 31 2 true = 2 ∧ errI true = 0 := by decide +kernel
set_option maxRecDepth 100000 in
theorem known_bound : madeB 4 [17, 97] 0 31 = true ∧ madeB 4 [17, 97] 0 2 = true ∧ boundR [17, 97] 31 true = 48 ∧ boundR [17, 97] 2 true = 2 := by decide +kernel
set_option maxRecDepth 100000 in
theorem known_weight : weightB 4 [17, 97] 0 31 1 = true ∧ weightRows [17, 97] (4 : Int).toNat (((31 : Int) * (1 % partsI 31)).toNat) ((1 / partsI 31 : Int).toNat) [17, 97].length = [[0, 0, 0, 0], [1, 0, 0, 0]] := by decide +kernel
set_option maxRecDepth 100000 in
theorem known_dig : digB 4 [17, 97] 0 2 1 false [[7, 15, 0, 0]] = true ∧ digRows 4 [17, 97] 2 1 [[7, 15, 0, 0]] = [-1, -2, 0, 0] :: [-2, 0, 0, 0] :: [1, 0, 0, 0] :: List.replicate 13 [0, 0, 0, 0] := by decide +kernel
set_option maxRecDepth 100000 in
set_option maxHeartbeats 40000000 in
theorem known_law (w : World) : Calls Try.prog 8 #[] w fun e w' => e = .returned (.bool true) ∧ Below w.heap.size w w' := by
  obtain ⟨W0, hW0⟩ : ∃ W0, W0 = (w.alloc (.cells #[.int .u32 17, .int .u32 97] 22)).alloc (.cells #[.int .i64 4, .int .u32 0, .int .i64 0, .slice (some ⟨w.heap.size, 0, none⟩) 2 2, .int .u32 0, .int .i64 0, .int .u32 0] 25) := ⟨_, rfl⟩
  have b0 : W0.heap[w.heap.size]? = some (.cells #[.int .u32 17, .int .u32 97] 22) := by
    rw [hW0]; repeat (first | exact alloc_last _ _ (by simp) | rw [Below.heap_alloc _ _ _ (by (first | (simp; done) | (simp; omega)))])
  have b1 : W0.heap[w.heap.size + 1]? = some (.cells #[.int .i64 4, .int .u32 0, .int .i64 0, .slice (some ⟨w.heap.size, 0, none⟩) 2 2, .int .u32 ((0 : Nat) : Int), .int .i64 0, .int .u32 0] 25) := by
    rw [hW0]; repeat (first | exact alloc_last _ _ (by simp) | rw [Below.heap_alloc _ _ _ (by (first | (simp; done) | (simp; omega)))])
  have hz0 := lt_of_heap b1
  have hB0 : Below w.heap.size w W0 := by
    rw [hW0]; repeat (with_reducible first | refine Below.alloc ?_ (by first | omega | (simp; done) | (simp; omega)) _ | exact Below.refl _ _)
  have hr0 : W0.reads W0.heap.size (.slice (some ⟨w.heap.size, 0, none⟩) 2 2) ([17, 97].map u32V) := reads_block (l := [17, 97].map u32V) b0 (by omega) 2 (by simp) (by unfold maxLen; omega)
  have hcb : ∀ q ∈ [17, 97], q < 4294967296 := by decide
  have HC := Lib.hid (Count_any 4 0 0 0 0 (.slice (some ⟨w.heap.size, 0, none⟩) 2 2) [17, 97] 0 31 2 W0 hr0 hcb)
  rw [known_count.1, known_count.2.1, known_count.2.2] at HC
  have HB1 := Lib.hid (fun W hb => Bound_any 4 0 0 0 0 (.slice (some ⟨w.heap.size, 0, none⟩) 2 2) [17, 97] 0 31 W ((hr0.below hb).mono (Below.size hb)) hcb)
  rw [known_bound.1, known_bound.2.2.1, known_count.2.2] at HB1
  have HB2 := Lib.hid (fun W hb => Bound_any 4 0 0 0 0 (.slice (some ⟨w.heap.size, 0, none⟩) 2 2) [17, 97] 0 2 W ((hr0.below hb).mono (Below.size hb)) hcb)
  rw [known_bound.2.1, known_bound.2.2.2, known_count.2.2] at HB2
  have HWt := Lib.hid (fun W hb => Weight_any 4 0 0 0 0 (.slice (some ⟨w.heap.size, 0, none⟩) 2 2) [17, 97] 0 31 1 W ((hr0.below hb).mono (Below.size hb)) hcb)
  unfold WeightPost at HWt
  rw [known_weight.1, known_weight.2] at HWt
  simp only [if_true] at HWt
  have HD := Lib.hid (fun W hb rv hrow => Digits_any 4 0 0 0 0 (.slice (some ⟨w.heap.size, 0, none⟩) 2 2) [17, 97] 0 2 1 false rv [[7, 15, 0, 0]] W ((hr0.below hb).mono (Below.size hb)) hrow hcb)
  unfold DigPost at HD
  rw [known_dig.1] at HD
  simp only [if_true] at HD
  obtain ⟨L, hL⟩ : ∃ L, L = digRows 4 [17, 97] 2 1 [[7, 15, 0, 0]] := ⟨_, rfl⟩
  simp only [← hL] at HD
  rw [known_dig.2] at hL
  have hL16 : L.length = 16 := by rw [hL]; rfl
  have hL3 : L.take 3 = [[-1, -2, 0, 0], [-2, 0, 0, 0], [1, 0, 0, 0]] := by rw [hL]; rfl
  have HLK : Hid (∀ k, 3 ≤ k → k < 16 → L[k]? = some [0, 0, 0, 0]) := by
    intro k h1 h2
    obtain ⟨j, rfl⟩ : ∃ j, k = j + 3 := ⟨k - 3, by omega⟩
    rw [hL, List.getElem?_cons_succ, List.getElem?_cons_succ, List.getElem?_cons_succ, List.getElem?_replicate, if_pos (by omega)]
  have HL16 := Lib.hid hL16
  have HL3 := Lib.hid hL3
  have HP1 := Lib.hid b1
  have HW0 := Lib.hid hW0
  clear b0 b1 hr0 hcb hW0 hL hL16 hL3
  go_enter Try.func8, Try.ntmps8
  go_wp2_with fail
  rw [← HW0.out]
  refine HC.out.mono ?_
  rintro e w1 ⟨rfl, hb1⟩
  have hs1 := hb1.size
  have hp1 := (hb1.block _ hz0).trans HP1.out
  have HP := Lib.hid hp1
  obtain ⟨c0, c1, c2, c3, c4, c5, c6⟩ := par_cells hp1
  clear hp1 HC
  go_wp2_with fail
  refine (HB1.out _ hb1).mono ?_
  rintro e w2 ⟨rfl, hb2⟩
  have hB2 := hb1.trans (hb2.mono hs1)
  have hp1 := (hB2.block _ hz0).trans HP1.out
  clear c0 c1 c2 c3 c4 c5 c6 HB1
  obtain ⟨c0, c1, c2, c3, c4, c5, c6⟩ := par_cells hp1
  clear hp1
  go_wp2_with fail
  refine (HB2.out _ hB2).mono ?_
  rintro e w3 ⟨rfl, hb3⟩
  have hB3 := hB2.trans (hb3.mono hB2.size)
  have hp1 := (hB3.block _ hz0).trans HP1.out
  clear c0 c1 c2 c3 c4 c5 c6 HB2
  obtain ⟨c0, c1, c2, c3, c4, c5, c6⟩ := par_cells hp1
  clear hp1
  go_wp2_with fail
  refine (HWt.out _ hB3).mono ?_
  rintro e w4 ⟨⟨u, rfl, hu⟩, hb4⟩
  obtain ⟨ua, uc, rfl, -⟩ := hu.shape
  have hB4 := hB3.trans (hb4.mono hB3.size)
  have hs4 := hB4.size
  have hp1 := (hB4.block _ hz0).trans HP1.out
  clear c0 c1 c2 c3 c4 c5 c6 HWt
  obtain ⟨c0, c1, c2, c3, c4, c5, c6⟩ := par_cells hp1
  have l4 : w.heap.size + 1 < w4.heap.size := by omega
  obtain ⟨w5, hw5⟩ : ∃ w5, w5 = ((w4.alloc (.cells #[.int .i64 2, .bool false, .slice ua 2 uc] 28)).alloc (.cells #[.int .u32 7, .int .u32 15, .int .u32 0, .int .u32 0] 22)).alloc (.cells #[.slice (some ⟨w4.heap.size + 1, 0, none⟩) 4 4] 23) := ⟨_, rfl⟩
  have d0 : w5.heap[w4.heap.size]? = some (.cells #[.int .i64 2, .bool false, .slice ua 2 uc] 28) := by
    rw [hw5]; repeat (first | exact alloc_last _ _ (by simp) | rw [Below.heap_alloc _ _ _ (by (first | (simp; done) | (simp; omega)))])
  have d1 : w5.heap[w4.heap.size + 1]? = some (.cells #[.int .u32 7, .int .u32 15, .int .u32 0, .int .u32 0] 22) := by
    rw [hw5]; repeat (first | exact alloc_last _ _ (by simp) | rw [Below.heap_alloc _ _ _ (by (first | (simp; done) | (simp; omega)))])
  have d2 : w5.heap[w4.heap.size + 1 + 1]? = some (.cells #[.slice (some ⟨w4.heap.size + 1, 0, none⟩) 4 4] 23) := by
    rw [hw5]; repeat (first | exact alloc_last _ _ (by simp) | rw [Below.heap_alloc _ _ _ (by (first | (simp; done) | (simp; omega)))])
  have hz5 := lt_of_heap d2
  have hb5 : Below w4.heap.size w4 w5 := by
    rw [hw5]; repeat (with_reducible first | refine Below.alloc ?_ (by first | omega | (simp; done) | (simp; omega)) _ | exact Below.refl _ _)
  have hB5 := hB4.trans (hb5.mono hs4)
  have hrow5 : w5.rows u32V w5.heap.size (.slice (some ⟨w4.heap.size + 1 + 1, 0, none⟩) 1 1) [[7, 15, 0, 0]] :=
    rows_one (r := [7, 15, 0, 0]) d2 (by omega) (by omega) (by unfold maxLen; simp) d1
  have hD := HD.out w5 hB5 _ hrow5
  have HE := Lib.hid d0
  have HU := Lib.hid (hu.below hb5)
  have HW5 := Lib.hid hw5
  clear hp1 d0 d1 d2 hu hrow5 HD hw5
  go_wp2_with fail
  rw [← HW5.out]
  refine hD.mono ?_
  rintro e w6 ⟨⟨v, rfl, hv⟩, hb6⟩
  have hvs' := hv.shape
  rw [HL16.out] at hvs'
  obtain ⟨va, vc, rfl, hvc, hvc2, hvs⟩ := hvs'
  have HV := Lib.hid hv
  have HVS := Lib.hid hvs
  have hs6 := hb6.size
  have hB6 := hB5.trans (hb6.mono hB5.size)
  have hb46 : Below w4.heap.size w4 w6 := hb5.trans (hb6.mono hb5.size)
  have he6 := (hb6.block _ (by omega)).trans HE.out
  have HBW := Lib.hid (hB0.trans (hB6.mono hB0.size))
  clear c0 c1 c2 c3 c4 c5 c6 hv hvs hD
  have e0 : w6.cell? ⟨w4.heap.size, 0, none⟩ = some (.int .i64 2) := by simp [World.cell?, he6]
  have e1 : w6.cell? ⟨w4.heap.size, 1, none⟩ = some (.bool false) := by simp [World.cell?, he6]
  have e2 : w6.cell? ⟨w4.heap.size, 2, none⟩ = some (.slice ua 2 uc) := by simp [World.cell?, he6]
  have l6 : w4.heap.size < w6.heap.size := by omega
  clear he6
  go_wp2
  go_loop [12] (fun i => ∃ k : Nat, 3 ≤ k ∧ k ≤ 16 ∧ i = .int .i64 (k : Int)) (fun i => 16 - (intOf i).toNat)
  case atStart => exact ⟨3, by omega, by omega, rfl⟩
  case round =>
    obtain ⟨k, hk3, hk, rfl⟩ := hrel
    by_cases hlt : k < 16
    · clear e0 e1 e2
      obtain ⟨b1, o1, p1, d1, rfl, -, hcx, hrx⟩ := HVS.out k _ (HLK.out k hk3 hlt)
      obtain ⟨q1, f1, he1, -, -, hsx⟩ := reads_i64 hrx
      injection he1 with he1a _ he1c
      subst he1a
      obtain ⟨b2, o2, rfl, -, x0⟩ := hsx 0 0 rfl
      obtain ⟨b3, o3, hb3, -, x1⟩ := hsx 1 0 rfl
      injection hb3 with hb3
      injection hb3 with hb3a hb3b
      subst hb3a hb3b
      rw [Nat.add_zero] at x0
      simp only [List.length_cons, List.length_nil, Nat.zero_add, Nat.reduceAdd] at hcx
      clear hsx hrx he1c
      go_wp2
      go_round
      case rel => exact ⟨k + 1, by omega, by omega, by go_num⟩
      case measure => simp [intOf]; omega
    · obtain rfl : k = 16 := by omega
      obtain ⟨w7, hw7⟩ : ∃ w7, w7 = ((w6.alloc (.cells #[.int .u32 0, .int .u32 0, .int .u32 0, .int .u32 0] 22)).alloc (.cells #[.int .u32 1, .int .u32 0, .int .u32 0, .int .u32 0] 22)).alloc (.cells #[.slice (some ⟨w6.heap.size, 0, none⟩) 4 4, .slice (some ⟨w6.heap.size + 1, 0, none⟩) 4 4] 23) := ⟨_, rfl⟩
      have d0 : w7.heap[w6.heap.size]? = some (.cells #[.int .u32 0, .int .u32 0, .int .u32 0, .int .u32 0] 22) := by
        rw [hw7]; repeat (first | exact alloc_last _ _ (by simp) | rw [Below.heap_alloc _ _ _ (by (first | (simp; done) | (simp; omega)))])
      have d1 : w7.heap[w6.heap.size + 1]? = some (.cells #[.int .u32 1, .int .u32 0, .int .u32 0, .int .u32 0] 22) := by
        rw [hw7]; repeat (first | exact alloc_last _ _ (by simp) | rw [Below.heap_alloc _ _ _ (by (first | (simp; done) | (simp; omega)))])
      have d2 : w7.heap[w6.heap.size + 1 + 1]? = some (.cells #[.slice (some ⟨w6.heap.size, 0, none⟩) 4 4, .slice (some ⟨w6.heap.size + 1, 0, none⟩) 4 4] 23) := by
        rw [hw7]; repeat (first | exact alloc_last _ _ (by simp) | rw [Below.heap_alloc _ _ _ (by (first | (simp; done) | (simp; omega)))])
      have hz7 := lt_of_heap d2
      have hb7 : Below w6.heap.size w6 w7 := by
        rw [hw7]; repeat (with_reducible first | refine Below.alloc ?_ (by first | omega | (simp; done) | (simp; omega)) _ | exact Below.refl _ _)
      have hrow7 : w7.rows u32V w7.heap.size (.slice (some ⟨w6.heap.size + 1 + 1, 0, none⟩) 2 2) [[0, 0, 0, 0], [1, 0, 0, 0]] :=
        rows_two (r := [0, 0, 0, 0]) (s := [1, 0, 0, 0]) d2 (by omega) (by omega) (by omega) (by unfold maxLen; simp) (by unfold maxLen; simp) d0 d1
      have hb47 : Below w5.heap.size w5 w7 := hb6.trans (hb7.mono hs6)
      have hS := same09_any 2 2 false false _ _ _ _ _ _ w7 ((HU.out.mono (by omega : w4.heap.size ≤ w5.heap.size)).below hb47) hrow7 hb47.size (Nat.le_refl _)
      simp only [decide_true, Bool.and_self] at hS
      have HW7 := Lib.hid hw7
      clear d0 d1 d2 hrow7 hw7
      go_wp2_with fail
      rw [← HW7.out]
      refine hS.mono ?_
      rintro e w8 ⟨rfl, hb8⟩
      have hs8 := hb8.size
      have hb68 : Below w6.heap.size w6 w8 := hb7.trans (hb8.mono hb7.size)
      clear hS e0 e1 e2
      obtain ⟨w9, hw9⟩ : ∃ w9, w9 = (((w8.alloc (.cells #[.int .i64 (-1), .int .i64 (-2), .int .i64 0, .int .i64 0] 2)).alloc (.cells #[.int .i64 (-2), .int .i64 0, .int .i64 0, .int .i64 0] 2)).alloc (.cells #[.int .i64 1, .int .i64 0, .int .i64 0, .int .i64 0] 2)).alloc (.cells #[.slice (some ⟨w8.heap.size, 0, none⟩) 4 4, .slice (some ⟨w8.heap.size + 1, 0, none⟩) 4 4, .slice (some ⟨w8.heap.size + 1 + 1, 0, none⟩) 4 4] 45) := ⟨_, rfl⟩
      have d0 : w9.heap[w8.heap.size]? = some (.cells #[.int .i64 (-1), .int .i64 (-2), .int .i64 0, .int .i64 0] 2) := by
        rw [hw9]; repeat (first | exact alloc_last _ _ (by simp) | rw [Below.heap_alloc _ _ _ (by (first | (simp; done) | (simp; omega)))])
      have d1 : w9.heap[w8.heap.size + 1]? = some (.cells #[.int .i64 (-2), .int .i64 0, .int .i64 0, .int .i64 0] 2) := by
        rw [hw9]; repeat (first | exact alloc_last _ _ (by simp) | rw [Below.heap_alloc _ _ _ (by (first | (simp; done) | (simp; omega)))])
      have d2 : w9.heap[w8.heap.size + 1 + 1]? = some (.cells #[.int .i64 1, .int .i64 0, .int .i64 0, .int .i64 0] 2) := by
        rw [hw9]; repeat (first | exact alloc_last _ _ (by simp) | rw [Below.heap_alloc _ _ _ (by (first | (simp; done) | (simp; omega)))])
      have d3 : w9.heap[w8.heap.size + 1 + 1 + 1]? = some (.cells #[.slice (some ⟨w8.heap.size, 0, none⟩) 4 4, .slice (some ⟨w8.heap.size + 1, 0, none⟩) 4 4, .slice (some ⟨w8.heap.size + 1 + 1, 0, none⟩) 4 4] 45) := by
        rw [hw9]; repeat (first | exact alloc_last _ _ (by simp) | rw [Below.heap_alloc _ _ _ (by (first | (simp; done) | (simp; omega)))])
      have hz9 := lt_of_heap d3
      have hb9 : Below w8.heap.size w8 w9 := by
        rw [hw9]; repeat (with_reducible first | refine Below.alloc ?_ (by first | omega | (simp; done) | (simp; omega)) _ | exact Below.refl _ _)
      have hrow9 : w9.rows i64V w9.heap.size (.slice (some ⟨w8.heap.size + 1 + 1 + 1, 0, none⟩) 3 3) [[-1, -2, 0, 0], [-2, 0, 0, 0], [1, 0, 0, 0]] :=
        rows_three (r := [-1, -2, 0, 0]) (s := [-2, 0, 0, 0]) (v := [1, 0, 0, 0]) d3 (by omega) (by omega) (by omega) (by omega) (by unfold maxLen; simp) (by unfold maxLen; simp) (by unfold maxLen; simp) d0 d1 d2
      have hb69 : Below w6.heap.size w6 w9 := hb68.trans (hb9.mono hb68.size)
      have hvr := HV.out
      have hS := same17_any (.slice va 3 vc) _ _ _ _ _ w9 (HL3.out ▸ rows_take (hvr.below hb69) 3 (by omega)) hrow9
      simp only [decide_true] at hS
      have HW9 := Lib.hid hw9
      have HBW9 := Lib.hid (HBW.out.trans (hb69.mono HBW.out.size))
      clear d0 d1 d2 d3 hrow9 hw9 hvr
      have z1 : (3 : Int) ≤ (vc : Int) := by omega
      have z2 : 3 ≤ vc := by omega
      go_wp2_with fail
      rw [← HW9.out]
      refine hS.mono ?_
      rintro e w10 ⟨rfl, hn10⟩
      have hb10 : Below w9.heap.size w9 w10 := below_of_drewN hn10
      clear hS hn10
      go_wp2_with fail
      refine (awake_any w10).mono ?_
      rintro e w11 ⟨rfl, hb11⟩
      go_wp2
      go_ret
      exact ⟨rfl, HBW9.out.trans ((hb10.trans (hb11.mono hb10.size)).mono HBW9.out.size)⟩
end Go.Proofs.Ytpcpgmgpkegjlaa
