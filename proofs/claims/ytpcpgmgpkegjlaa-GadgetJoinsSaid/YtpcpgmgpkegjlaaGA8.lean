/- Walks: elements of integers. -/
import Derived.Test.YtpcpgmgpkegjlaaGA7
namespace Go.Proofs.Ytpcpgmgpkegjlaa
open Go.RowKit Go.Shelf Go.BigFrame
attribute [local go_sem] Oper.semAt_some
/-- A row of which the first k are laid. -/
def fillTo (f : Nat → Nat) (n k : Nat) : Array Value := ((List.range n).map fun j => Value.int .u32 ((if j < k then f j else 0 : Nat) : Int)).toArray
theorem fillTo_zero (f : Nat → Nat) (n : Nat) : fillTo f n 0 = zrow n := by
  unfold fillTo zrow
  congr 1
  apply List.ext_getElem
  · simp
  · intro i h1 h2; simp
theorem fillTo_succ (f : Nat → Nat) (n k : Nat) : (fillTo f n k).setIfInBounds k (.int .u32 (f k : Int)) = fillTo f n (k + 1) := by
  unfold fillTo
  apply Array.ext
  · simp
  · intro i h1 h2
    simp only [List.setIfInBounds_toArray, List.getElem_toArray, List.getElem_set, List.getElem_map, List.getElem_range]
    by_cases h : k = i
    · subst h; simp
    · simp only [h, if_false]
      by_cases hik : i < k
      · rw [if_pos hik, if_pos (by omega)]
      · rw [if_neg hik, if_neg (by omega)]
theorem fillTo_all (f : Nat → Nat) (n : Nat) : fillTo f n n = ((List.range n).map (fun j => u32V (f j))).toArray := by
  unfold fillTo u32V
  congr 1
  apply List.map_congr_left
  intro j hj
  rw [if_pos (by simpa using hj)]
theorem fillTo_size (f : Nat → Nat) (n k : Nat) : (fillTo f n k).size = n := by simp [fillTo]
theorem fill_cell {W : World} {g n k : Nat} {f : Nat → Nat} (h : W.heap[g]? = some (.cells (fillTo f n k) 22)) (hk : k < n) : ∃ u, W.cell? ⟨g, k, none⟩ = some (.int .u32 u) ∧ W.frozen? ⟨g, k, none⟩ = false := by
  refine ⟨0, ?_, by simp [World.frozen?, h]⟩
  simp only [World.cell?, h]
  unfold fillTo
  simp [hk]
theorem fill_set {W : World} {g n k : Nat} {f : Nat → Nat} (h : W.heap[g]? = some (.cells (fillTo f n k) 22)) : (W.setCell ⟨g, k, none⟩ (.int .u32 (f k : Int))).heap[g]? = some (.cells (fillTo f n (k + 1)) 22) := by
  rw [← fillTo_succ]; simp [World.setCell, Array.getElem?_modify, h]
/-- An integer's residue. -/
def resN (q : Nat) (x : Int) : Nat := (x % (q : Int)).toNat
theorem resN_int (q : Nat) (x : Int) (hq : 0 < q) : (resN q x : Int) = x % (q : Int) := by
  unfold resN; have := Int.emod_nonneg x (show (q : Int) ≠ 0 by omega); omega
theorem resN_lt (q : Nat) (x : Int) (hq : 0 < q) : resN q x < q := by
  have := resN_int q x hq; have := Int.emod_lt_of_pos x (show (0 : Int) < q by omega); omega
theorem tmod_parts (x : Int) (q : Nat) (hq : 0 < q) : ∃ c : Int, x.tmod (q : Int) = c ∧ -(q : Int) < c ∧ c < (q : Int) ∧ (c < 0 → c + (q : Int) = (resN q x : Int)) ∧ (0 ≤ c → c = (resN q x : Int)) := by
  have h1 := Int.tmod_eq_emod (a := x) (b := (q : Int))
  have h2 := Int.emod_nonneg x (show (q : Int) ≠ 0 by omega)
  have h3 := Int.emod_lt_of_pos x (show (0 : Int) < q by omega)
  have h4 := resN_int q x hq
  refine ⟨_, rfl, ?_, ?_, ?_, ?_⟩ <;> split at h1 <;> omega
theorem grown_set {W W' : World} {g : Nat} (h : W.grownBy W' (some g)) (k : Nat) (u : Value) : W.grownBy (W'.setCell ⟨g, k, none⟩ u) (some g) :=
  ⟨h.os, h.tape, h.output, by simpa using h.size, fun i hi hne => (Below.heap_setCell _ _ _ _ (by rintro rfl; exact hne rfl)).trans (h.block i hi hne)⟩
set_option maxRecDepth 100000 in
set_option maxHeartbeats 4000000 in
theorem fromInts1_any (i : Int) (q : Nat) (hq : 0 < q) (hq2 : q < 4294967296) (l : List Int) (lw : Value) (n g c B : Nat) (hn : l.length = n) (W : World) (hr : W.reads B lw (l.map i64V)) (hB : B ≤ g) (hc : W.heap[c]? = some (.cells #[lw] 45)) (_ : c < B)
    (hg : W.heap[g]? = some (.cells (zrow n) 22)) :
    Calls Try.prog 61 #[.int .i64 i, .int .u64 (q : Int), .slice (some ⟨g, 0, none⟩) n n, .pointer (some ⟨c, 0, none⟩)] W fun e W' => e = .returned (.tuple #[]) ∧ W'.heap[g]? = some (.cells ((l.map (resN q)).map u32V).toArray 22) ∧ W.grownBy W' (some g) := by
  have hcc : W.cell? ⟨c, 0, none⟩ = some lw := by simp [World.cell?, hc]
  obtain ⟨a, cap, rfl, hcap, hmx, hsh⟩ := reads_i64 hr
  have HS := Lib.hid hsh
  clear hsh hr hc
  have hfl : ((l.map (resN q)).map u32V).toArray = fillTo (fun j => resN q (l.getD j 0)) n n := by
    rw [fillTo_all]; congr 1
    apply List.ext_getElem
    · simp [hn]
    · intro j h1 h2
      have hj : j < l.length := by simpa using h1
      simp [List.getD_eq_getElem?_getD, hj]
  rw [hfl]
  clear hfl
  rw [← fillTo_zero (fun j => resN q (l.getD j 0))] at hg
  obtain ⟨m, hm⟩ : ∃ m, m = l.length := ⟨_, rfl⟩
  rw [← hm] at hcc hcap hn
  subst hn
  have HM := Lib.hid hm
  clear hm
  go_enter Try.func61, Try.ntmps61
  go_wp2
  go_loopw [12] (fun i wr => ∃ k : Nat, k ≤ m ∧ i = .int .i64 (k : Int) ∧ wr.heap[g]? = some (.cells (fillTo (fun j => resN q (l.getD j 0)) m k) 22) ∧ W.grownBy wr (some g)) (fun i _ => m - (intOf i).toNat)
  case atStart => exact ⟨0, Nat.zero_le _, rfl, hg, World.grownBy.refl _ _⟩
  case round =>
    obtain ⟨k, hk, rfl, hgk, hgr⟩ := hrel
    by_cases hlt : k < m
    · obtain ⟨y, hx⟩ : ∃ x, l[k]? = some x := ⟨l[k]'(by rw [← HM.out]; exact hlt), List.getElem?_eq_getElem _⟩
      obtain ⟨b, off, rfl, hb, hc0⟩ := HS.out k y hx
      have hc : wr.cell? ⟨b, off + k, none⟩ = some (.int .i64 y) := hgr.cell (a := ⟨b, off + k, none⟩) hc0 (by simp; omega)
      have hfk : Hid (resN q (l.getD k 0) = resN q y) := by show _ = _; simp [List.getD_eq_getElem?_getD, hx]
      obtain ⟨u, hcu, hfu⟩ := fill_cell hgk hlt
      obtain ⟨d, hd, hd1, hd2, hd3, hd4⟩ := tmod_parts y q hq
      have HGK := Lib.hid hgk
      have hne : ((q : Int) == 0) = false := by rw [beq_eq_false_iff_ne]; omega
      clear hx hc0 hgk
      by_cases hdn : d < 0
      · have hd3 := hd3 hdn
        clear hd4
        go_wp2
        go_roundw
        case rel => exact ⟨k + 1, by omega, by go_num, by rw [← hfk.out]; exact fill_set HGK.out, grown_set hgr _ _⟩
        case measure => simp [intOf]; omega
      · have hd4 := hd4 (by omega)
        clear hd3
        go_wp2
        go_roundw
        case rel => exact ⟨k + 1, by omega, by go_num, by rw [← hfk.out]; exact fill_set HGK.out, grown_set hgr _ _⟩
        case measure => simp [intOf]; omega
    · obtain rfl : k = m := by omega
      go_wp2
      go_end0
      exact ⟨rfl, hgk, hgr⟩
end Go.Proofs.Ytpcpgmgpkegjlaa
