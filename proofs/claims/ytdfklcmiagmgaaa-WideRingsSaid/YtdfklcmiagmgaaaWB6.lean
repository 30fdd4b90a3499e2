/- Walks: the form of a number. -/
import Derived.Test.YtdfklcmiagmgaaaWM4
namespace Go.Proofs.Ytdfklcmiagmgaaa
set_option linter.all false
open Go.RowKit Go.Shelf Go.WideNum
theorem norm_list (l : List Nat) (R p : Nat) (hR : Hid (R = (trimL l).length)) (hp : Hid (p = l.length)) (a : Option Addr) (cap : Nat) (hl : p ≤ 100000) (hcap : p ≤ cap) (w : World) (hc : ∀ (j : Nat) (x : Nat), l[j]? = some x → ∃ b off, a = some ⟨b, off, none⟩ ∧ w.cell? ⟨b, off + j, none⟩ = some (.int .u32 (x : Int))) :
    Calls Try.prog 52 #[.slice a p cap] w fun e w' => e = .returned (.slice a R cap) ∧ w = w' := by
  have e1 := hR.out
  have e2 := hp.out
  clear hR hp
  subst e1 e2
  exact norm_any l a cap hl hcap w hc
/-- A row of bytes by position. -/
def rowB (f : Nat → Nat) (n : Nat) : Array Value := ((List.range n).map (fun j => Value.int .u8 (f j : Int))).toArray
theorem rowB_zero (n : Nat) : rowB (fun _ => 0) n = (List.replicate n (Value.int .u8 0)).toArray := by
  unfold rowB
  congr 1
  apply List.ext_getElem
  · simp
  · intro i h1 h2; simp
theorem rowB_congr {f f' : Nat → Nat} {n : Nat} (h : ∀ j, j < n → f j = f' j) : rowB f n = rowB f' n := by
  unfold rowB
  congr 1
  exact List.map_congr_left (fun j hj => by rw [h j (by simpa using hj)])
theorem rowB_cell {W : World} {g n : Nat} {f : Nat → Nat} {T : TypeId} (h : W.heap[g]? = some (.cells (rowB f n) T)) (k : Nat) (hk : k < n) : W.cell? ⟨g, k, none⟩ = some (.int .u8 (f k : Int)) ∧ W.frozen? ⟨g, k, none⟩ = false := by
  refine ⟨?_, by simp [World.frozen?, h]⟩
  rw [cell_of_row W g k _ T (0, 0) h]
  simp [rowB, hk]
theorem rowB_set {W : World} {g n k : Nat} {f f' : Nat → Nat} {T : TypeId} (h : W.heap[g]? = some (.cells (rowB f n) T)) (hf : ∀ j, j < n → j ≠ k → f j = f' j) :
    (W.setCell ⟨g, k, none⟩ (.int .u8 (f' k : Int))).heap[g]? = some (.cells (rowB f' n) T) := by
  have e : (rowB f n).setIfInBounds k (.int .u8 (f' k : Int)) = rowB f' n := by
    unfold rowB
    apply Array.ext
    · simp
    · intro i h1 h2
      simp only [List.setIfInBounds_toArray, List.getElem_toArray, List.getElem_set, List.getElem_map, List.getElem_range]
      by_cases h : k = i
      · subst h; simp
      · simp only [h, if_false]
        rw [hf i (by simpa using h2) (by omega)]
  rw [← e]; simp [World.setCell, Array.getElem?_modify, h]
theorem make_u8 (n : Nat) (hn : n ≤ 1000000) (W : World) : (Instr.makeSlice 67 (.int .i64 (n : Int)) (.int .i64 (n : Int))).run Try.prog W = .ok (.slice (some ⟨W.heap.size, 0, none⟩) n n) (W.alloc (.cells (rowB (fun _ => 0) n) 5)) := by
  obtain ⟨i0, hi, hz, h1, h2⟩ := info_parts infoByte
  have := run_make (P := Try.prog) W 67 5 i0 (.int .u8 0) Try.underlying67 hi hz .i64 .i64 (n : Int) (n : Int) (by omega) (by omega) (by rw [h2]; omega) (by omega)
  simp only [Int.toNat_natCast, h1] at this
  rw [this]
  have hz : madeCells (Value.int IntKind.u8 0).cells (n * 1) = rowB (fun _ => 0) n := by
    rw [rowB_zero]
    unfold madeCells
    apply Array.ext
    · simp
    · intro i h1 h2
      have : (Value.int IntKind.u8 0).cells = #[.int .u8 0] := rfl
      simp [this, Nat.mod_one]
  rw [hz]
/-- A row of bytes made a string. -/
theorem rowB_string {W : World} {g n : Nat} {f : Nat → Nat} (h : W.heap[g]? = some (.cells (rowB f n) 5)) (hf : ∀ j, j < n → f j < 256) (hn : n ≤ 1000000) (dst : TypeId) (hd : Try.prog.underlying dst = some .string) :
    (convert 67 dst (.slice (some ⟨g, 0, none⟩) n n)).run Try.prog W = .ok (.string ⟨((List.range n).map (fun j => UInt8.ofNat (f j))).toArray⟩) W := by
  have ho : W.owns 0 5 1 (.slice (some ⟨g, 0, none⟩) n n) n (((List.range n).map (fun j => UInt8.ofNat (f j))).map fun b => Value.int .u8 (b.toNat : Int)) := by
    refine ⟨by simp, .inr ⟨g, n, _, (0, 0), rfl, Nat.zero_le _, h, okFz_zero _, Nat.le_refl _, by unfold maxLen; omega, by simp [rowB], ?_⟩⟩
    rw [Nat.mul_one, List.take_of_length_le (by simp [rowB])]
    unfold rowB
    simp only [List.map_map]
    apply List.map_congr_left
    intro j hj
    show Value.int .u8 (f j : Int) = Value.int .u8 (((UInt8.ofNat (f j)).toNat : Nat) : Int)
    rw [UInt8.toNat_ofNat', Nat.mod_eq_of_lt (hf j (by simpa using hj))]
  have h2 := run_owns_string (P := Try.prog) (w := W) (m := n) 67 dst 5 Try.underlying67 Try.underlying5 hd ho (by simp) n
  rw [List.take_of_length_le (by simp)] at h2
  exact h2
def FormRet (w : World) (neg : Bool) (n : Nat) (e : Ending) (w' : World) : Prop := e = .returned (.tuple #[outB neg n, .int .i64 (outE n)]) ∧ Below w.heap.size w w'
theorem outB_zero (neg : Bool) : outB neg 0 = emptyW ∧ outE 0 = 0 := by
  refine ⟨?_, ?_⟩
  · unfold outB emptyW
    rw [if_pos lim_pos, Bool.and_comm]
    rfl
  · unfold outE; rw [if_pos lim_pos]
set_option maxRecDepth 100000 in
set_option maxHeartbeats 4000000 in
theorem form_any (l : List Nat) (hl : ∀ x ∈ l, x < 4294967296) (hlen : l.length ≤ 2000) (neg : Bool) (va : Value) (w : World) (hA : w.reads w.heap.size va (l.map u32V)) :
    Calls Try.prog 53 #[va, .bool neg] w (FormRet w neg (valW 4294967296 l)) := by
  obtain ⟨aa, ca, rfl, hca, hma, hsa⟩ := reads_u32 hA
  clear hA
  have htw := trimL_words 4294967296 (by omega) l hl
  obtain ⟨n, hn⟩ : ∃ n, n = valW 4294967296 l := ⟨_, rfl⟩
  rw [← hn] at htw ⊢
  clear hn
  obtain ⟨p, hp⟩ : ∃ n, n = l.length := ⟨_, rfl⟩
  rw [← hp] at hlen hca ⊢
  obtain ⟨R, hR⟩ : ∃ R, R = (trimL l).length := ⟨_, rfl⟩
  have hRw : R = (wd n).length := by rw [hR, htw]; rfl
  have hRp : R ≤ p := by rw [hR, hp]; exact trimL_len l
  have HA : Hid (∀ k, k < R → ∃ b off, aa = some ⟨b, off, none⟩ ∧ b < w.heap.size ∧ w.cell? ⟨b, off + k, none⟩ = some (.int .u32 (dig 4294967296 n k : Int))) := fun k hk => by
    refine hsa k _ ?_
    have h1 := wd_get n k (by omega)
    rw [← show trimL l = wd n from htw, ← trimL_take l, ← hR, List.getElem?_take, if_pos hk] at h1
    exact h1
  have HSA := Lib.hid hsa
  have HR := Lib.hid hR
  have HPL := Lib.hid hp
  have hb := (Below.refl w.heap.size w).alloc (Nat.le_refl _) (.cells #[.bool false, .string ⟨#[]⟩] 23)
  have hnorm := fun (w' : World) (hb : Below w.heap.size w w') => norm_list l R p HR HPL aa ca (by omega) hca w' (fun j x hj => by obtain ⟨b, off, h1, h2, h3⟩ := hsa j x hj; exact ⟨b, off, h1, (Below.cell (p := ⟨b, off + j, none⟩) hb h2).trans h3⟩)
  have HNORM : Hid (∀ w', Below w.heap.size w w' → Calls Try.prog 52 #[.slice aa p ca] w' fun e w'' => e = .returned (.slice aa R ca) ∧ w' = w'') := hnorm
  have HB := Lib.hid hb
  clear hsa hR hp htw hb hnorm
  obtain ⟨HPOST, hpost⟩ : ∃ X, X = FormRet w neg n := ⟨_, rfl⟩
  rw [← hpost]
  have HP := Lib.hid hpost
  clear hpost
  rcases Nat.eq_zero_or_pos n with h0 | h0
  · subst h0
    have hR0 : R = 0 := hRw
    subst hR0
    clear hRw
    go_enter Try.func53, Try.ntmps53
    go_wp2_with fail
    (with_reducible refine (HNORM.out _ HB.out).mono ?_)
    rintro e w2 ⟨rfl, rfl⟩
    go_wp2
    rw [HP.out]
    exact bodyPost_ret (v := .tuple #[emptyW, .int .i64 0]) (by simp [results, Try.results53, go_sem]; rfl) rfl ⟨by rw [(outB_zero neg).1, (outB_zero neg).2], HB.out⟩
  · obtain ⟨L, hL⟩ : ∃ L, L = Lib.bitLen (dig 4294967296 n (R - 1)) := ⟨_, rfl⟩
    obtain ⟨hR0, hL1, hL2, hN, hN0⟩ := nbytes_spec n R L h0 hRw hL
    obtain ⟨m, rfl⟩ : ∃ m, R = m + 1 := ⟨R - 1, by omega⟩
    rw [Nat.add_sub_cancel] at hL
    obtain ⟨N, hNN⟩ : ∃ N, N = 4 * (m + 1) - (32 - L) / 8 := ⟨_, rfl⟩
    rw [← hNN] at hN hN0
    have hlim := lim_iff n N hN.symm
    obtain ⟨K, hK⟩ : ∃ K, K = 32 - L := ⟨_, rfl⟩
    have hb1 : 4 * ((m : Int) + 1) - (K : Int) / 8 = (N : Int) := by omega
    have htd := wd_dig n m
    obtain ⟨b, off, haa, hbl, hx0⟩ := HA.out m (by omega)
    subst haa
    have hx := (HB.out.cell (p := ⟨b, off + m, none⟩) hbl).trans hx0
    obtain ⟨x, ex⟩ : ∃ x, x = dig 4294967296 n m := ⟨_, rfl⟩
    rw [← ex] at htd hx hL
    have hlz := fun w' => lz_any x w' htd
    rw [← hL, ← hK] at hlz
    have HLZ := Lib.hid hlz
    have HNL := Lib.hid hN
    have HLIM := Lib.hid hlim
    have hN4 : N ≤ 4 * m + 4 := by omega
    clear hlz ex hx0 hL hRw hN hlim hNN hK
    by_cases hbig : N ≤ 256
    · have hbig' : ¬ (256 : Int) < (N : Int) := by omega
      have hmk : ∀ W : World, (Instr.makeSlice 67 (.int .i64 (N : Int)) (.int .i64 (N : Int))).run Try.prog W = .ok (.slice (some ⟨W.heap.size, 0, none⟩) N N) (W.alloc (.cells (rowB (fun _ => 0) N) 5)) := fun W => make_u8 N (by omega) W
      go_enter Try.func53, Try.ntmps53
      go_wp2_with fail
      (with_reducible refine (HNORM.out _ HB.out).mono ?_)
      rintro e w2 ⟨rfl, rfl⟩
      go_wp2_with fail
      (with_reducible refine (HLZ.out _).mono ?_)
      rintro e w2 ⟨rfl, rfl⟩
      go_wp2_with fail
      have hg0 : ((w.alloc (.cells #[.bool false, .string ⟨#[]⟩] 23)).alloc (.cells (rowB (fun _ => 0) N) 5)).heap[w.heap.size + 1]? = some (.cells (rowB (fun j => if j < 0 then dig 256 n (N - 1 - j) else 0) N) 5) := by
        rw [rowB_congr (f := fun j => if j < 0 then dig 256 n (N - 1 - j) else 0) (f' := fun _ => 0) (fun j hj => if_neg (by omega))]
        exact alloc_last _ _ (by simp)
      have hw0 : ((w.alloc (.cells #[.bool false, .string ⟨#[]⟩] 23)).alloc (.cells (rowB (fun _ => 0) N) 5)).heap[w.heap.size]? = some (.cells #[.bool false, .string ⟨#[]⟩] 23) := by
        rw [Below.heap_alloc _ _ _ (by simp)]; exact heap_alloc_new w _
      have HB2 := Lib.hid (HB.out.alloc (by simp) (.cells (rowB (fun _ => 0) N) 5))
      have HG0 := Lib.hid hg0
      have HW0 := Lib.hid hw0
      clear hg0 hw0
      go_loopw [35] (fun iv wr => ∃ i : Nat, i ≤ N ∧ iv = .int .i64 (i : Int) ∧ wr.heap[w.heap.size + 1]? = some (.cells (rowB (fun j => if j < i then dig 256 n (N - 1 - j) else 0) N) 5) ∧ wr.heap[w.heap.size]? = some (.cells #[.bool false, .string ⟨#[]⟩] 23) ∧ Below w.heap.size w wr) (fun iv _ => N - (intOf iv).toNat)
      case atStart => exact ⟨0, Nat.zero_le _, rfl, HG0.out, HW0.out, HB2.out⟩
      case round =>
        obtain ⟨i, hi, rfl, hg, hw, hbw⟩ := hrel
        by_cases hlt : i < N
        · obtain ⟨k, hk⟩ : ∃ k, k = N - 1 - i := ⟨_, rfl⟩
          obtain ⟨q, hq⟩ : ∃ q, q = k / 4 := ⟨_, rfl⟩
          obtain ⟨r, hr⟩ : ∃ r, r = k % 4 := ⟨_, rfl⟩
          have e1 : (N : Int) - 1 - (i : Int) = (k : Int) := by omega
          have e2 : (k : Int) / 4 = (q : Int) := by omega
          have e3 : (k : Int) % 4 = (r : Int) := by omega
          have hr4 : r < 4 := by omega
          have hqm : q ≤ m := by omega
          have hkk : k = 4 * q + r := by omega
          have HDB := Lib.hid (dig_byte n k q r hkk hr4)
          obtain ⟨b2, off2, haa, hbl2, hy0⟩ := HA.out q (by omega)
          injection haa with haa
          injection haa with hab hao
          subst hab hao
          have hy := (hbw.cell (p := ⟨b, off + q, none⟩) hbl2).trans hy0
          have hyd := wd_dig n q
          obtain ⟨y, ey⟩ : ∃ y, y = dig 4294967296 n q := ⟨_, rfl⟩
          rw [← ey] at hy HDB hyd
          obtain ⟨hcu, hfu⟩ := rowB_cell hg i hlt
          have HG := Lib.hid hg
          have HK := Lib.hid hk
          obtain ⟨z, ez⟩ : ∃ z, z = dig 256 n k := ⟨_, rfl⟩
          have t1 : (y : Int) / 2 ^ (8 * r) % 256 = (z : Int) := by
            have := HDB.out
            rw [← ez] at this
            rw [← this]; simp
          have EZ := Lib.hid ez
          clear hq hr hkk ey hy0 hg hk ez
          go_wp2_with fail
          go_roundw
          case rel =>
            refine ⟨i + 1, by omega, by go_num, ?_, ?_, hbw.setCell (by simp) _⟩
            · rw [show z = (fun j => if j < i + 1 then dig 256 n (N - 1 - j) else 0) i by rw [EZ.out, HK.out]; exact (if_pos (Nat.lt_succ_self i)).symm]
              refine rowB_set (f' := fun j => if j < i + 1 then dig 256 n (N - 1 - j) else 0) HG.out (fun j _ hj => ?_)
              show (if j < i then _ else _) = (if j < i + 1 then _ else _)
              by_cases h : j < i
              · rw [if_pos h, if_pos (by omega)]
              · rw [if_neg h, if_neg (by omega)]
            · rw [Below.heap_setCell _ _ _ _ (by simp)]; exact hw
          case measure => simp [intOf]; omega
        · obtain rfl : i = N := by omega
          have hg2 := hg
          rw [rowB_congr (f' := fun j => dig 256 n (i - 1 - j)) (fun j hj => if_pos hj)] at hg2
          have hcv := rowB_string hg2 (fun j _ => dig_lt (by omega) n _) (by omega) 9 Try.underlying9
          rw [← magL_range n i HNL.out.symm] at hcv
          have hcl1 : wr.cell? ⟨w.heap.size, 0, none⟩ = some (.bool false) := by rw [cell_of_row wr _ _ _ _ (0, 0) hw]; rfl
          have hcl2 : wr.cell? ⟨w.heap.size, 1, none⟩ = some (.string ⟨#[]⟩) := by rw [cell_of_row wr _ _ _ _ (0, 0) hw]; rfl
          have hf1 : ∀ o, wr.frozen? ⟨w.heap.size, o, none⟩ = false := fun o => by simp [World.frozen?, hw]
          obtain ⟨S, eS⟩ : ∃ S : ByteArray, S = ⟨(magL n).toArray⟩ := ⟨_, rfl⟩
          rw [← eS] at hcv
          have ES := Lib.hid eS
          have HG := Lib.hid hg
          clear hg2 eS hg
          go_wp2
          have hh : ((wr.setCell ⟨w.heap.size, 0, none⟩ (.bool neg)).setCell ⟨w.heap.size, 1, none⟩ (.string S)).heap[w.heap.size]? = some (.cells #[.bool neg, .string S] 23) := by
            simp [World.setCell, Array.getElem?_modify, hw]
          have hc1 : ((wr.setCell ⟨w.heap.size, 0, none⟩ (.bool neg)).setCell ⟨w.heap.size, 1, none⟩ (.string S)).cell? ⟨w.heap.size, 0, none⟩ = some (.bool neg) := by rw [cell_of_row _ _ _ _ _ (0, 0) hh]; rfl
          have hc2 : ((wr.setCell ⟨w.heap.size, 0, none⟩ (.bool neg)).setCell ⟨w.heap.size, 1, none⟩ (.string S)).cell? ⟨w.heap.size, 1, none⟩ = some (.string S) := by rw [cell_of_row _ _ _ _ _ (0, 0) hh]; rfl
          have hb4 : Below w.heap.size w ((wr.setCell ⟨w.heap.size, 0, none⟩ (.bool neg)).setCell ⟨w.heap.size, 1, none⟩ (.string S)) := (hbw.setCell (by simp) _).setCell (by simp) _
          generalize (wr.setCell ⟨w.heap.size, 0, none⟩ (.bool neg)).setCell ⟨w.heap.size, 1, none⟩ (.string S) = W9 at hh hc1 hc2 hb4 ⊢
          rw [HP.out]
          have hlt2 : n < lim := HLIM.out.2 hbig
          refine bodyPost_ret (v := .tuple #[wideV neg S, .int .i64 0]) (by simp [results, Try.results53, go_sem, hc1, hc2]; rfl) rfl ⟨?_, hb4⟩
          rw [outB, outE, if_pos hlt2, if_pos hlt2, decide_eq_true (show n ≠ 0 by omega), Bool.and_true, ES.out]
          rfl
    · have hbig' : (256 : Int) < (N : Int) := by omega
      go_enter Try.func53, Try.ntmps53
      go_wp2_with fail
      (with_reducible refine (HNORM.out _ HB.out).mono ?_)
      rintro e w2 ⟨rfl, rfl⟩
      go_wp2_with fail
      (with_reducible refine (HLZ.out _).mono ?_)
      rintro e w2 ⟨rfl, rfl⟩
      go_wp2
      rw [HP.out]
      have hlt2 : ¬ n < lim := fun h => hbig (HLIM.out.1 h)
      exact bodyPost_ret (v := .tuple #[emptyW, .int .i64 7]) (by simp [results, Try.results53, go_sem]; rfl) rfl ⟨by rw [outB, outE, if_neg hlt2, if_neg hlt2], HB.out⟩
end Go.Proofs.Ytdfklcmiagmgaaa
