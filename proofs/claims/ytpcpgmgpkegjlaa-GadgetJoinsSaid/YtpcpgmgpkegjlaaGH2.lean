/- Walks: the reference's product modulo x^n + 1. -/
import Derived.Test.YtpcpgmgpkegjlaaGH0
namespace Go.Proofs.Ytpcpgmgpkegjlaa
open Go.RowKit Go.Shelf Go.BigFrame
/-- What a pair of places gives to place k. -/
def termI (n : Nat) (a b : List Nat) (i k : Nat) : Int := if i ≤ k then (a.getD i 0 : Int) * (b.getD (k - i) 0 : Int) else -((a.getD i 0 : Int) * (b.getD (n + k - i) 0 : Int))
def accI (n : Nat) (a b : List Nat) : Nat → Nat → Int
  | 0, _ => 0
  | i + 1, k => accI n a b i k + termI n a b i k
def posN (n i k : Nat) : Nat := if i ≤ k then k - i else n + k - i
/-- The product. -/
def prodRow (n q : Nat) (a b : List Nat) : List Nat := (List.range n).map fun k => resN q (accI n a b n k)
def partI (n : Nat) (a b : List Nat) (i j k : Nat) : Int := accI n a b i k + (if posN n i k < j then termI n a b i k else 0)
theorem partI_zero (n : Nat) (a b : List Nat) (i k : Nat) : partI n a b i 0 k = accI n a b i k := by simp [partI]
theorem partI_end (n : Nat) (a b : List Nat) (i k : Nat) (hi : i < n) (hk : k < n) : partI n a b i n k = accI n a b (i + 1) k := by
  unfold partI
  rw [if_pos (by unfold posN; split <;> omega)]
  rfl
theorem partI_other (n : Nat) (a b : List Nat) (i j k : Nat) (h : posN n i k ≠ j) : partI n a b i (j + 1) k = partI n a b i j k := by
  unfold partI
  by_cases h1 : posN n i k < j
  · rw [if_pos h1, if_pos (by omega)]
  · rw [if_neg h1, if_neg (by omega)]
theorem partI_here (n : Nat) (a b : List Nat) (i j k : Nat) (h : posN n i k = j) : partI n a b i (j + 1) k = partI n a b i j k + termI n a b i k := by
  unfold partI
  rw [if_pos (by omega), if_neg (by omega)]
  omega
/-- A row of numbers. -/
def nrow (f : Nat → Nat) (n : Nat) : Array Value := ((List.range n).map fun c => Value.int .u32 (f c : Int)).toArray
theorem nrow_get (f : Nat → Nat) (n j : Nat) (h : j < n) : (nrow f n)[j]? = some (.int .u32 (f j : Int)) := by simp [nrow, h]
theorem nrow_zero (n : Nat) : zrow n = nrow (fun _ => 0) n := by
  unfold zrow nrow
  apply Array.ext
  · simp
  · intro i h1 h2; simp
theorem nrow_congr {f g : Nat → Nat} {n : Nat} (h : ∀ k, k < n → f k = g k) : nrow f n = nrow g n := by
  unfold nrow
  congr 1
  refine List.map_congr_left fun k hk => ?_
  rw [h k (by simpa using hk)]
theorem nrow_set (f : Nat → Nat) (n j : Nat) (v : Nat) : (nrow f n).setIfInBounds j (.int .u32 (v : Int)) = nrow (fun c => if c = j then v else f c) n := by
  unfold nrow
  apply Array.ext
  · simp
  · intro i h1 h2
    simp only [Array.size_setIfInBounds, List.size_toArray, List.length_map, List.length_range] at h1 h2
    rw [Array.getElem_setIfInBounds (by simpa using h1)]
    by_cases e : j = i
    · subst e; simp
    · rw [if_neg e]; simp [show ¬ i = j from fun h => e h.symm]
theorem resN_eq (q : Nat) (_hq : 0 < q) (x y : Int) (t : Int) (h : x = y + (q : Int) * t) : resN q x = resN q y := by
  unfold resN
  rw [h, Int.add_mul_emod_self_left]
theorem resN_nat (q x : Nat) (h : x < q) : resN q (x : Int) = x := by
  unfold resN
  rw [Int.emod_eq_of_lt (by omega) (by omega)]; omega
theorem resN_cast (q z : Nat) : resN q ((z : Nat) : Int) = z % q := by
  unfold resN
  have h : (z : Int) % (q : Int) = ((z % q : Nat) : Int) := by simp
  rw [h, Int.toNat_natCast]
theorem resN_spec (q : Nat) (hq : 0 < q) (x : Int) : ∃ t : Int, x = (resN q x : Int) + (q : Int) * t := ⟨x / (q : Int), by rw [resN_int q x hq]; have := Int.mul_ediv_add_emod x (q : Int); omega⟩
/-- A number is added to a residue. -/
theorem resN_add (q : Nat) (hq : 0 < q) (x : Int) (p : Nat) (t : Int) (ht : ∃ u : Int, (p : Int) = t + (q : Int) * u) : (resN q x + p) % q = resN q (x + t) := by
  obtain ⟨u, hu⟩ := ht
  obtain ⟨s, hs⟩ := resN_spec q hq x
  have h1 : resN q (x + t) = resN q ((resN q x : Int) + (p : Int)) := (resN_eq q hq _ _ (u - s) (by rw [hu, Int.mul_sub]; omega)).symm
  rw [h1, show (resN q x : Int) + (p : Int) = ((resN q x + p : Nat) : Int) by push_cast; rfl, resN_cast]
theorem termI_low (n : Nat) (a b : List Nat) (i j x y : Nat) (hx : a[i]? = some x) (hy : b[j]? = some y) : termI n a b i (i + j) = ((x * y : Nat) : Int) := by
  unfold termI
  rw [if_pos (by omega)]
  simp only [List.getD_eq_getElem?_getD, show i + j - i = j by omega, hx, hy, Option.getD_some]
  push_cast; rfl
theorem termI_high (n : Nat) (a b : List Nat) (i j x y : Nat) (hi : i < n) (hj : j < n) (hn : n ≤ i + j) (hx : a[i]? = some x) (hy : b[j]? = some y) : termI n a b i (i + j - n) = -((x * y : Nat) : Int) := by
  unfold termI
  rw [if_neg (by omega)]
  simp only [List.getD_eq_getElem?_getD, show n + (i + j - n) - i = j by omega, hx, hy, Option.getD_some]
  push_cast; rfl
theorem posN_low (n i j : Nat) : posN n i (i + j) = j := by unfold posN; rw [if_pos (by omega)]; omega
theorem posN_high (n i j : Nat) (hi : i < n) (hj : j < n) (hn : n ≤ i + j) : posN n i (i + j - n) = j := by unfold posN; rw [if_neg (by omega)]; omega
theorem posN_inj (n i k k' : Nat) (hi : i < n) (hk : k < n) (hk' : k' < n) (h : posN n i k = posN n i k') : k = k' := by
  unfold posN at h
  split at h <;> split at h <;> omega
set_option maxRecDepth 100000 in
set_option maxHeartbeats 16000000 in
theorem product_any (q : Nat) (hq1 : 0 < q) (hq2 : q < 2147483648) (n : Nat) (hn : n ≤ 32) (av bv : Value) (a b : List Nat) (w : World) (ha : w.reads w.heap.size av (a.map u32V)) (hb : w.reads w.heap.size bv (b.map u32V)) (hal : a.length = n) (hbl : b.length = n) (hab : ∀ x ∈ a, x < q) (hbb : ∀ x ∈ b, x < q) :
    Calls Try.prog 45 #[.int .u32 (q : Int), av, bv] w fun e w' => (∃ v, e = .returned v ∧ w'.owns w.heap.size 22 1 v n ((prodRow n q a b).map u32V)) ∧ Below w.heap.size w w' := by
  obtain ⟨aa, ac, rfl, hac, ham, has⟩ := reads_u32 ha
  obtain ⟨ba, bc, rfl, hbc, hbm, hbs⟩ := reads_u32 hb
  rw [hal] at hac ⊢
  rw [hbl] at hbc ⊢
  have HAS := Lib.hid has
  have HBS := Lib.hid hbs
  have HAB := Lib.hid hab
  have HBB := Lib.hid hbb
  have HAL := Lib.hid hal
  have HBL := Lib.hid hbl
  have hmk := make_u32 n (by omega)
  obtain ⟨W0, hW0⟩ : ∃ W0, W0 = w.alloc (.cells (zrow n) 22) := ⟨_, rfl⟩
  have hB0 : Below w.heap.size w W0 := by rw [hW0]; exact (Below.refl _ w).alloc (Nat.le_refl _) _
  have g0 : W0.heap[w.heap.size]? = some (.cells (nrow (fun k => resN q (accI n a b 0 k)) n) 22) := by
    have : nrow (fun k => resN q (accI n a b 0 k)) n = zrow n := by
      rw [nrow_zero]
      refine nrow_congr fun k _ => ?_
      show resN q 0 = 0
      simp [resN]
    rw [hW0, this]; exact alloc_last _ _ rfl
  have HW0 := Lib.hid hW0
  clear ha hb has hbs hab hbb hal hbl hW0
  have hne : ((q : Int) == 0) = false := by rw [beq_eq_false_iff_ne]; omega
  have hqn : ¬ q = 0 := by omega
  go_enter Try.func45, Try.ntmps45
  go_wp2_with fail
  rw [← HW0.out]
  go_loopw [8] (fun ii wr => ∃ i : Nat, i ≤ n ∧ ii = .int .i64 (i : Int) ∧ Hid (wr.heap[w.heap.size]? = some (.cells (nrow (fun k => resN q (accI n a b i k)) n) 22)) ∧ Below w.heap.size w wr) (fun ii _ => n - (intOf ii).toNat)
  case atStart => exact ⟨0, Nat.zero_le _, rfl, g0, hB0⟩
  case round =>
    obtain ⟨wo, rfl⟩ : ∃ x, x = wr := ⟨_, rfl⟩
    clear g0 hB0
    obtain ⟨i, hi, rfl, hg, hBr⟩ := hrel
    by_cases hlt : i < n
    case neg =>
      obtain rfl : i = n := by omega
      clear hmk
      go_wp2
      go_ret
      refine ⟨⟨_, rfl, ?_⟩, hBr⟩
      refine ⟨by simp [prodRow], .inr ⟨w.heap.size, i, _, (0, 0), rfl, Nat.le_refl _, hg.out, okFz_zero _, Nat.le_refl _, by unfold maxLen; omega, by simp [nrow], ?_⟩⟩
      unfold nrow prodRow
      simp
      rw [List.take_of_length_le (by simp)]
      rfl
    obtain ⟨x, hx⟩ : ∃ x, a[i]? = some x := ⟨a[i]'(by rw [HAL.out]; exact hlt), List.getElem?_eq_getElem _⟩
    obtain ⟨ab, ao, rfl, hab1, hac1⟩ := HAS.out i x hx
    have hxq := HAB.out x (List.mem_of_getElem? hx)
    have HX := Lib.hid hx
    have hg2 : Hid (wo.heap[w.heap.size]? = some (.cells (nrow (fun k => resN q (partI n a b i 0 k)) n) 22)) := by
      have := hg.out
      simp only [partI_zero]
      exact this
    have z0 : (0 : Int) ≤ (i : Int) := by omega
    have z1 : (i : Int) < (n : Int) := by omega
    clear hx hg hmk
    go_wp2_with fail
    go_loopw [9] (fun jj ws => ∃ j d : Nat, ∃ wu, j ≤ n ∧ jj = .int .i64 (j : Int) ∧ ws = wu.drewN d ∧ Hid (wu.heap[w.heap.size]? = some (.cells (nrow (fun k => resN q (partI n a b i j k)) n) 22)) ∧ Below w.heap.size w wu) (fun jj _ => n - (intOf jj).toNat)
    case atStart => exact ⟨0, 0, wo, Nat.zero_le _, rfl, rfl, hg2, hBr⟩
    case round =>
      obtain ⟨ws, rfl⟩ : ∃ x, x = wr := ⟨_, rfl⟩
      clear hg2 hBr
      obtain ⟨j, d, wu, hj, rfl, rfl, hg, hBu⟩ := hrel
      have HCU := Lib.hid (bcell hBu).1
      by_cases hltj : j < n
      case neg =>
        obtain rfl : j = n := by omega
        have hg3 : Hid ((wu.drewN d).heap[w.heap.size]? = some (.cells (nrow (fun k => resN q (accI j a b (i + 1) k)) j) 22)) := by
          have : nrow (fun k => resN q (accI j a b (i + 1) k)) j = nrow (fun k => resN q (partI j a b i j k)) j := nrow_congr fun k hk => by rw [partI_end j a b i k hlt hk]
          show _ = _
          rw [this]; exact hg.out
        clear hg
        go_wp2
        go_roundw
        case rel => exact ⟨i + 1, by omega, by go_num, hg3, below_drewN hBu d⟩
        case measure => simp [intOf]; omega
      obtain ⟨y, hy⟩ : ∃ y, b[j]? = some y := ⟨b[j]'(by rw [HBL.out]; exact hltj), List.getElem?_eq_getElem _⟩
      obtain ⟨bb, bo, rfl, hbb1, hbc1⟩ := HBS.out j y hy
      have hyq := HBB.out y (List.mem_of_getElem? hy)
      have ca : wu.cell? ⟨ab, ao + i, none⟩ = some (.int .u32 (x : Int)) := (HCU.out _ _ hab1).trans hac1
      have cb : wu.cell? ⟨bb, bo + j, none⟩ = some (.int .u32 (y : Int)) := (HCU.out _ _ hbb1).trans hbc1
      have HY := Lib.hid hy
      obtain ⟨p, hp⟩ : ∃ p : Nat, p = x * y := ⟨_, rfl⟩
      have e1 : (x : Int) * (y : Int) = (p : Int) := by rw [hp]; push_cast; rfl
      have hpb : p ≤ 4611686018427387904 := by
        rw [hp]
        exact Nat.mul_le_mul (show x ≤ 2147483648 by omega) (show y ≤ 2147483648 by omega)
      obtain ⟨x0, hx0⟩ : ∃ x0, x0 = p % q := ⟨_, rfl⟩
      have hx0q : x0 < q := by rw [hx0]; exact Nat.mod_lt _ hq1
      have e2 : (p : Int).tmod (q : Int) = (x0 : Int) := by rw [Int.tmod_eq_emod_of_nonneg (by omega), hx0]; simp
      have HX0 : Hid (∃ u : Int, (x0 : Int) = (p : Int) + (q : Int) * u) := ⟨-(((p / q : Nat) : Int)), by
        have := Nat.div_add_mod p q
        rw [hx0, Int.mul_neg]
        have h2 : ((q * (p / q) : Nat) : Int) = (q : Int) * ((p / q : Nat) : Int) := by push_cast; rfl
        rw [← h2]
        omega⟩
      have HP := Lib.hid hp
      have y0 : (0 : Int) ≤ (j : Int) := by omega
      have y1 : (j : Int) < (n : Int) := by omega
      have hgg := hg.out
      have hzb := lt_of_heap hgg
      clear hy hp hx0 hac1 hbc1
      go_upto_region 8 with (fail)
      go_quiet (fail)
      clear e1 e2 ca cb hpb
      by_cases hlow : i + j < n
      · have t1 : ¬ (n : Int) ≤ (i : Int) + (j : Int) := by omega
        obtain ⟨k0, hk0⟩ : ∃ k0, k0 = i + j := ⟨_, rfl⟩
        have ek : (i : Int) + (j : Int) = (k0 : Int) := by omega
        have hk0n : k0 < n := by omega
        obtain ⟨o, ho⟩ : ∃ o, o = resN q (partI n a b i j k0) := ⟨_, rfl⟩
        have hoq : o < q := by rw [ho]; exact resN_lt q _ hq1
        have hco : wu.cell? ⟨w.heap.size, k0, none⟩ = some (.int .u32 (o : Int)) := by simp [World.cell?, hgg, nrow_get _ _ _ hk0n, ho]
        have hfo : wu.frozen? ⟨w.heap.size, k0, none⟩ = false := by simp [World.frozen?, hgg]
        obtain ⟨nw, hnw⟩ : ∃ nw, nw = (o + x0) % q := ⟨_, rfl⟩
        have hnwq : nw < q := by rw [hnw]; exact Nat.mod_lt _ hq1
        have e4 : ((o : Int) + (x0 : Int)) % (q : Int) = (nw : Int) := by rw [hnw]; push_cast; rfl
        have HNW : Hid (nw = resN q (partI n a b i (j + 1) k0)) := by
          show _ = _
          rw [hnw, ho, partI_here n a b i j k0 (by rw [hk0]; exact posN_low n i j), resN_add q hq1 _ x0 (termI n a b i k0)]
          rw [hk0, termI_low n a b i j x y HX.out HY.out, ← HP.out]
          exact HX0.out
        have HK0 := Lib.hid hk0
        clear hk0 ho hnw hgg
        go_wp2
        go_roundw
        case rel =>
          refine ⟨j + 1, _, wu.setCell ⟨w.heap.size, k0, none⟩ (.int .u32 (nw : Int)), by omega, by go_num, by first | rfl | (trace_state; simp [World.setCell_drewN, World.drewN_drewN]; done), ?_, hBu.setCell (by simp) _⟩
          show _ = _
          have h1 : nrow (fun k => resN q (partI n a b i (j + 1) k)) n = (nrow (fun k => resN q (partI n a b i j k)) n).setIfInBounds k0 (.int .u32 (nw : Int)) := by
            rw [nrow_set]
            refine nrow_congr fun k hk => ?_
            by_cases e : k = k0
            · subst e; rw [if_pos rfl, HNW.out]
            · rw [if_neg e, partI_other n a b i j k (fun h => e (posN_inj n i k k0 hlt hk hk0n (by rw [h, HK0.out, posN_low])))]
          rw [h1]
          simp [World.setCell, Array.getElem?_modify, hg.out]
        case measure => simp [intOf]; omega
      · have t1 : (n : Int) ≤ (i : Int) + (j : Int) := by omega
        obtain ⟨k0, hk0⟩ : ∃ k0, k0 = i + j - n := ⟨_, rfl⟩
        have ek : (i : Int) + (j : Int) - (n : Int) = (k0 : Int) := by omega
        have hk0n : k0 < n := by omega
        obtain ⟨x1, hx1⟩ : ∃ x1, x1 = (q - x0) % q := ⟨_, rfl⟩
        have hx1q : x1 < q := by rw [hx1]; exact Nat.mod_lt _ hq1
        have e3 : ((q : Int) - (x0 : Int)) % (q : Int) = (x1 : Int) := by
          have : (q : Int) - (x0 : Int) = ((q - x0 : Nat) : Int) := by omega
          rw [this, hx1]; push_cast; rfl
        have HX1 : Hid (∃ u : Int, (x1 : Int) = -(p : Int) + (q : Int) * u) := by
          obtain ⟨u, hu⟩ := HX0.out
          obtain ⟨s, hs⟩ : ∃ s : Int, (x1 : Int) = ((q : Int) - (x0 : Int)) + (q : Int) * s := ⟨-(((q : Int) - (x0 : Int)) / (q : Int)), by
            have := Int.mul_ediv_add_emod ((q : Int) - (x0 : Int)) (q : Int)
            rw [← e3, Int.mul_neg]; omega⟩
          refine ⟨1 - u + s, ?_⟩
          rw [hs, hu, Int.mul_add, Int.mul_sub, Int.mul_one]; omega
        obtain ⟨o, ho⟩ : ∃ o, o = resN q (partI n a b i j k0) := ⟨_, rfl⟩
        have hoq : o < q := by rw [ho]; exact resN_lt q _ hq1
        have hco : wu.cell? ⟨w.heap.size, k0, none⟩ = some (.int .u32 (o : Int)) := by simp [World.cell?, hgg, nrow_get _ _ _ hk0n, ho]
        have hfo : wu.frozen? ⟨w.heap.size, k0, none⟩ = false := by simp [World.frozen?, hgg]
        obtain ⟨nw, hnw⟩ : ∃ nw, nw = (o + x1) % q := ⟨_, rfl⟩
        have hnwq : nw < q := by rw [hnw]; exact Nat.mod_lt _ hq1
        have e4 : ((o : Int) + (x1 : Int)) % (q : Int) = (nw : Int) := by rw [hnw]; push_cast; rfl
        have HNW : Hid (nw = resN q (partI n a b i (j + 1) k0)) := by
          show _ = _
          rw [hnw, ho, partI_here n a b i j k0 (by rw [hk0]; exact posN_high n i j hlt hltj (by omega)), resN_add q hq1 _ x1 (termI n a b i k0)]
          rw [hk0, termI_high n a b i j x y hlt hltj (by omega) HX.out HY.out, ← HP.out]
          exact HX1.out
        have HK0 := Lib.hid hk0
        have hnl : n ≤ i + j := by omega
        have HNL := Lib.hid hnl
        clear hk0 ho hnw hgg hx1 hnl hlow
        go_wp2
        go_roundw
        case rel =>
          refine ⟨j + 1, _, wu.setCell ⟨w.heap.size, k0, none⟩ (.int .u32 (nw : Int)), by omega, by go_num, by first | rfl | (trace_state; simp [World.setCell_drewN, World.drewN_drewN]; done), ?_, hBu.setCell (by simp) _⟩
          show _ = _
          have h1 : nrow (fun k => resN q (partI n a b i (j + 1) k)) n = (nrow (fun k => resN q (partI n a b i j k)) n).setIfInBounds k0 (.int .u32 (nw : Int)) := by
            rw [nrow_set]
            refine nrow_congr fun k hk => ?_
            by_cases e : k = k0
            · subst e; rw [if_pos rfl, HNW.out]
            · rw [if_neg e, partI_other n a b i j k (fun h => e (posN_inj n i k k0 hlt hk hk0n (by rw [h, HK0.out, posN_high n i j hlt hltj HNL.out])))]
          rw [h1]
          simp [World.setCell, Array.getElem?_modify, hg.out]
        case measure => simp [intOf]; omega
end Go.Proofs.Ytpcpgmgpkegjlaa
